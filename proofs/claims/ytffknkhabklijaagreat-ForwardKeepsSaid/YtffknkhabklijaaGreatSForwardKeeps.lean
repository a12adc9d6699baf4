/-
  The law ForwardKeeps holds of the given program, for every input.
-/
import Derived.Test.YtffknkhabklijaaGreatRows
import Derived.Conc.LeavingOf
import Derived.Test.YtffknkhabklijaaGreatSForwardKeeps6
set_option linter.unusedSimpArgs false
set_option linter.unusedVariables false
set_option linter.defProp false
set_option maxHeartbeats 4000000
set_option maxRecDepth 100000
theorem ZcN{p:Prop}(h:p:=by have:=f.c2;rw[A.out.1,A.out.2.1,A.out.2.2.1,A.out.2.2.2]at this;grind [cell_of_row]):p:=h
theorem Zcs{p:Prop}(h:p:=by decide+kernel):p:=h
theorem Zda{p:Prop}(h:p:=by obtain⟨y,_,rfl⟩:=List.mem_map.1 d;rfl):p:=h
def Zfp:=@List.mem_append_right
def ZfZ:=@List.mem_map_of_mem
def Zhd:=@List.filter_eq_nil_iff
def Zer:=@List.getElem?_take_of_lt
def Zgr:=@List.drop_append
def Zg8:=@Nat.add_sub_cancel_left
def Zh1:=@List.flatMap_cons
def ZgW:=@decide_eq_true
section
namespace Vm
open Go
open Go.Proofs

end Vm
end
section
namespace Vm
open Go Go.Proofs
def ndW(n:Nd):Nat:=1+n.ptrs.length+n.data.length
def Z83(l:List Nd):Nat:=(l.map ndW).sum
def words(g:Gr):Nat:=if right g=true then Z83 g.nodes else 0
@[simp]theorem ZbX{α β:Type}{f:α->β}{l:List α}:(l.map f).take l.length=l.map f:=Zek (by simp)
end Vm
namespace Vm
open Go Go.Proofs
def zC{f:Int->Int}:∀ {o l:List Int},(∀x∈Yb l o,∀y∈Yb l o,f x=f y->x=y)->(∀x∈Yb l o,0<=f x)->(∀x∈o,x<0->f x<0)->Yb (l.map f) (o.map f)=(Yb l o).map f
 | [],l,_,_,_=>rfl
 |y::o,l,d,g,k=>by
  simp only[ZdK,Yb];simp only[Yb]at d g;by_cases j:0<=y/\y∉l
  ·rw[if_pos j]at d g⊢;have h:y∈Yb (l++[y]) o:=RB.2 (.inl Z1)
   have a:0<=f y/\f y∉l.map f:=⟨g y h,λu=>by
    obtain⟨z,p,t⟩:=ZdB.1 u;have:=d z (RB.2 (.inl (by simp[p]))) y h t;subst this;exact j.2 p⟩
   rw[if_pos a,show l.map f++[f y]=(l++[y]).map f by simp];exact zC d g λx n=>k x (by simp[n])
  ·rw[if_neg j]at d g⊢
   have a:¬(0<=f y/\f y∉l.map f):=by
    rintro⟨w,r⟩;by_cases q:0<=y
    ·exact r (ZdB.2 ⟨y,by by_cases h:y∈l;exact h;exact(j ⟨q,h⟩).elim,rfl⟩)
    ·have:=k y Z1 Z0;omega
   rw[if_neg a];exact zC d g λx n=>k x (by simp[n])
def AD{g:Gr}:∀ {F i:Nat} {l:List Int},∃t,XQ g F i l=l++t
 |0,i,l=>⟨[],by simp[XQ]⟩
 |F+1,i,l=>by
  simp only[XQ];cases l[i]? with
  |none=>exact⟨[],Z1⟩
  |some x=>
   obtain⟨t,d⟩:=zB ((g.nodes[x.toNat]?).getD default).ptrs (acc:=l);obtain⟨f,a⟩:=AD (g:=g) (F:=F) (i:=i+1) (l:=Yb l ((g.nodes[x.toNat]?).getD default).ptrs);refine⟨t++f,?_⟩;show XQ g F (i+1) (Yb l ((g.nodes[x.toNat]?).getD default).ptrs)=_;rw[a,d,Zei]
def AC{g:Gr}(d:right g=true):∀ {F i:Nat} {l:List Int} (k:Nat),Good g.nodes.length l->g.nodes.length<F+i->XQ g (F+k) i l=XQ g F i l
 |0,i,l,k,a,f=>by
  have:=a.len;cases k with
  |zero=>rfl
  |succ k=>
   simp only[Ze7,XQ];rw[Zeq Z0]
 |F+1,i,l,k,a,f=>by
  rw[show F+1+k=(F+k)+1 by omega];simp only[XQ];cases j:l[i]? with
  |none=>rfl
  |some x=>
   exact AC d k (T6 a λy h=>(LI d x y h).2) Z0
def GY{g h:Gr}{f:Int->Int}(d:∀x∈order g,(h.nodes[(f x).toNat]?).map (·.ptrs)=some ((outs g x).map f))(n:∀x∈order g,∀y∈outs g x,y<0->f y<0)(k:∀x∈order g,∀y∈order g,f x=f y->x=y)(o:∀x∈order g,0<=f x):
  ∀ {F i:Nat} {l:List Int},(∀x∈XQ g F i l,x∈order g)->XQ h F i (l.map f)=(XQ g F i l).map f
 |0,i,l,_=>rfl
 |F+1,i,l,q=>by
  simp only[XQ,ZdJ];simp only[XQ]at q;cases A:l[i]? with
  |none=>rfl
  |some x=>
   rw[A]at q;simp only[ZdD];simp only at q
   have u:x∈order g:=by
    obtain⟨t,C⟩:=zB ((g.nodes[x.toNat]?).getD default).ptrs (acc:=l);obtain⟨G,p⟩:=AD (g:=g) (F:=F) (i:=i+1) (l:=Yb l ((g.nodes[x.toNat]?).getD default).ptrs);refine q x ?_;rw[p,C];simp[Zdr A]
   have r:=d x u;cases z:h.nodes[(f x).toNat]? with
   |none=>rw[z]at r;cases r
   |some H=>
    rw[z]at r;simp only[ZdD,Zdj]at r;simp only[ZdN,r]
    have j:∀y∈Yb l (outs g x),y∈order g:=λy D=>by
     obtain⟨G,p⟩:=AD (g:=g) (F:=F) (i:=i+1) (l:=Yb l (outs g x));refine q y ?_;show y∈XQ g F (i+1) (Yb l (outs g x));rw[p];simp[D]
    rw[zC (λa w b B=>k a (j a w) b (j b B)) (λa w=>o a (j a w)) (n x u)];exact GY d n k o q
def zg{g:Gr}(d:right g=true){x:Int}(hx:x∈g.roots)(a:0<=x):x∈order g:=by
 rw[H1 d,RB];exact .inr ⟨by simp[hx],a⟩
def Z2Q{g:Gr}(d:right g=true){x y:Int}(hx:x∈order g)(f:y∈outs g x)(a:0<=y):y∈order g:=by
 rw[H1 d,RB];exact .inr ⟨Zfp _ (Zfj.2 ⟨x,hx,f⟩),a⟩
def OU{L:List Int}{f:Int->Int}{p:Int}(d:∀x∈L,f x=f p->x=p):R3 (L.map f) (f p)=R3 L p:=by
 unfold R3;rw[List.findIdx?_map]
 have:L.findIdx? ((λx=>x==f p)∘f)=L.findIdx? (λx=>x==p):=by
  induction L with
  |nil=>rfl
  |cons a L k=>
   simp only[Zg3,Function.comp]
   have g:(f a==f p)=(a==p):=by
    rw[Zhj];simp only[Ze5];exact⟨d a Z1,λe=>by rw[e]⟩
   have h:=k λx j=>d x (by simp[j]);simp only[g];rw[h]
 rw[this]
def Z07{g h:Gr}(o:right g=true)(J:right h=true)(f:Int->Int)(N:f (-1)= -1)(q:∀x∈order g,∀y∈order g,f x=f y->x=y)(r:∀x∈order g,0<=f x)
  (n:h.roots=g.roots.map f) (k:∀x∈order g,h.nodes[(f x).toNat]?=some ⟨(outs g x).map f,((g.nodes[x.toNat]?).getD default).data⟩):
  order h=(order g).map f/\Wo h=Wo g:=by
 have z:∀x:Int,-1<=x->x<0->f x=x:=λx C D=>by
  have:x= -1:=Z0;subst this;exact N
 have w:∀x∈order g,(h.nodes[(f x).toNat]?).map (·.ptrs)=some ((outs g x).map f):=λx a=>by rw[k x a];rfl
 have G:order h=(order g).map f:=by
  have t:Good g.nodes.length (Yb [] g.roots):=T6 ⟨Z1,Z1⟩ λx a=>(RO o x a).2;have u:Good h.nodes.length (Yb [] h.roots):=T6 ⟨Z1,Z1⟩ λx a=>(RO J x a).2;have C:=AC o (F:=g.nodes.length+1) (i:=0) (h.nodes.length) t Z0;have D:=AC J (F:=h.nodes.length+1) (i:=0) (g.nodes.length) u Z0;have K:=GY (f:=f) w (λx a y B d=>by rw[z y (LI o x y B).1 d];exact d) q r (F:=g.nodes.length+1+h.nodes.length) (i:=0) (l:=Yb [] g.roots) (λx a=>by rw[C]at a;exact a)
  have L:Yb [] h.roots=(Yb [] g.roots).map f:=by
   rw[n];refine zC (l:=[]) (λx a y B=> ?_) (λx a=> ?_) (λx a d=> ?_)
   ·rw[RB]at a B;simp at a B;exact q x (zg o a.1 a.2) y (zg o B.1 B.2)
   ·rw[RB]at a;simp at a;exact r x (zg o a.1 a.2)
   ·rw[z x (RO o x a).1 d];exact d
  unfold order;rw[<-D,<-C,L,<-K];congr 1;omega
 refine⟨G,?_⟩
 have j:∀H:List Int,(∀p∈H,-1<=p/\(0<=p->p∈order g))->V0 (order h) (H.map f)=V0 (order g) H:=by
  intro H I;unfold V0;rw[ZfM];refine Zf2 λp A=> ?_;obtain⟨C,D⟩:=I p A;simp only[Function.comp];by_cases d:0<=p
  ·rw[if_pos (r p (D d)),if_pos d,G];exact OU λx a M=>q x a p (D d) M
  ·rw[z p C Z0];rw[if_neg d,if_neg d]
 unfold Wo;congr 1
 ·rw[G,ZfM];refine Zf2 λx a=> ?_;simp only[Function.comp,Qg,k x a,ZdN];congr 1;rw[<-G];exact j _ λp A=>⟨(LI o x p A).1,λd=>Z2Q o a A d⟩
 ·rw[n];exact j _ λp A=>⟨(RO o p A).1,λd=>zg o A d⟩
end Vm
end
section

end
section
namespace Vm
open Go Go.Proofs
structure Fo where
 ob:Ob
 ad:Int
 sl:List Int
 deriving Inhabited
def Xd(f:Fo):V:=.agg [vi f.ob.at_,vi f.ob.size,vi f.ob.ptrs,.bool f.ob.gone,vu f.ob.target,vu f.ad,.sl (f.sl.map vu)]
@[simp]theorem Zak(f:Fo):(Xd f).cells=[vi f.ob.at_,vi f.ob.size,vi f.ob.ptrs,.bool f.ob.gone,vu f.ob.target,vu f.ad,.sl (f.sl.map vu)]:=rfl
@[simp]theorem ZbO(f:Fo):Vk (Xd f) 7=some (Xd f):=rfl
@[simp]theorem Zac(f:Fo):VS (Xd f) 0 7=some (Xd f):=rfl
@[simp]theorem Z9q(f:Fo):ZZ (Xd f) 0=some (vi f.ob.at_):=rfl
@[simp]theorem Z9r(f:Fo):ZZ (Xd f) 1=some (vi f.ob.size):=rfl
@[simp]theorem Z9s(f:Fo):ZZ (Xd f) 2=some (vi f.ob.ptrs):=rfl
@[simp]theorem Z9t(f:Fo):ZZ (Xd f) 3=some (.bool f.ob.gone):=rfl
@[simp]theorem Z9u(f:Fo):ZZ (Xd f) 4=some (vu f.ob.target):=rfl
@[simp]theorem Z9v(f:Fo):ZZ (Xd f) 5=some (vu f.ad):=rfl
@[simp]theorem Z9w(f:Fo):ZZ (Xd f) 6=some (.sl (f.sl.map vu)):=rfl
@[simp]theorem ZbB(l:List Fo):Xj 7 (l.map Xd)=true:=RT λ_=>rfl
structure Vw where
 ns:List Fo
 nm:List (Int×Int)
 tm:List (Int×Int)
 deriving Inhabited
def Vw.put(s:Vw)(f:Fo):Vw:=if f.ob.gone then {s with tm:=XK s.tm f.ad f.ob.target}else {s with ns:=s.ns++[f],nm:=XK s.nm f.ad s.ns.length}
def Vw.toA(s:Vw)(w:Int):Int:=if w=0 then-1 else(Y0 s.nm ((Y0 s.tm (adr w).1).getD (adr w).1)).getD 0
def Uz(s:Vw)(f:Fo):Nd:=⟨(f.sl.take f.ob.ptrs.toNat).map s.toA,f.sl.drop f.ob.ptrs.toNat⟩
def Vw.gr(s:Vw)(a:Ze):Gr:=⟨s.ns.map (Uz s),a.map s.toA⟩
def D0(s:Vw){ws:Ze}(B:ws.length<=1000000)(x:∀w∈ws,ZA w):
  V7 Sol.prog 28 [.fz,.mem [.fz],.mem [.fz]] [.sl (ws.map vu),.agg [Yd vu s.tm],.agg [Yd vi s.nm]] (.tup [.sl ((ws.map s.toA).map vi),.agg [Yd vu s.tm],.agg [Yd vi s.nm]]):=by
 refine J7 Sol.func28 follows Z2 cTo Z2 ?_;simp[Ir];refine WM 5 ws.length (λi=>[(4,.v (.sl (((ws.take i).map s.toA).map vi))),(5,.v (vi i))]) (λ_=>True) Z1 Z1 trivial ?_;intro i A _;by_cases h:i<ws.length
 ·have y:ws[i]?=some ws[i]:=Zdk h;have r:=x _ (ZdA h);have o:=Zy ((i:Int)+1) Z0 Z0
  have q:List.take (i+1) (List.map (vi∘s.toA) ws)=List.take i (List.map (vi∘s.toA) ws)++[vi (s.toA ws[i])]:=by
   rw[Zee,ZdJ,y];rfl
  have a:min i ws.length+1<=Y2:=by unfold Y2;omega
  simp[h,o,q,a];split
  ·simp_all[Vw.toA]
  ·rename_i p;refine Zw (Jg r) Z1 ?_;have j:=Rs (f:=vu) (l:=s.tm) (k:=(adr ws[i]).1) (z:=.int .u64 0) (ok:=true);cases n:Y0 s.tm (adr ws[i]).1 with
   |none=>
    rw[n]at j;have d:=Rs (f:=vi) (l:=s.nm) (k:=(adr ws[i]).1) (z:=.int .i64 0) (ok:=false);cases g:Y0 s.nm (adr ws[i]).1 with
    |none=>rw[g]at d;simp[j,d,Vw.toA,p,n,g,o,a]
    |some t=>rw[g]at d;simp[j,d,Vw.toA,p,n,g,o,a]
   |some u=>
    rw[n]at j;have d:=Rs (f:=vi) (l:=s.nm) (k:=u) (z:=.int .i64 0) (ok:=false);cases g:Y0 s.nm u with
    |none=>rw[g]at d;simp[j,d,Vw.toA,p,n,g,o,a]
    |some t=>rw[g]at d;simp[j,d,Vw.toA,p,n,g,o,a]
 ·have:i=ws.length:=Z0;simp_all
def Z5r{s:St}{st:Vw}{f:Fo}{N R:St->Prop}{X:Nat->St->Prop}(o:get s 6=.v (.sl (st.ns.map Xd)))(p:get s 7=.m [Yd vi st.nm])(q:get s 8=.m [Yd vu st.tm])(h:get s 12=.v (.tup [Xd f,.bool true]))(g:get s 10=.v (.bool true))(u:st.ns.length<=4000000)
  (r:∀a,get a 6=.v (.sl ((st.put f).ns.map Xd))->get a 7=.m [Yd vi (st.put f).nm]->get a 8=.m [Yd vu (st.put f).tm]->get a 1=get s 1->get a 2=get s 2->get a 3=get s 3->N a):Yu Sol.prog rD s N X R:=by
 have j:=JX (f:=vu) (l:=st.tm) (k:=f.ad) (x:=f.ob.target);have n:=JX (f:=vi) (l:=st.nm) (k:=f.ad) (x:=(st.ns.length:Int));have d:st.ns.length+1<=Y2:=by unfold Y2;omega
 cases t:f.ob.gone
 ·simp_all[rD,YY,Vw.put,Xd]
 simp_all[rD,YY,Vw.put]
def Z5q{s:St}{N R:St->Prop}{X:Nat->St->Prop}(a:get s 10=.v (.bool false))(d:X 0 s):Yu Sol.prog rD s N X R:=by
 simp[rD,a,d]
structure Vw.sm (st:Vw) (roots:List Int):Prop where
 n:st.ns.length<=100000
 f:∀f∈st.ns,0<=f.ob.ptrs/\f.ob.ptrs<=f.sl.length/\f.sl.length<=100000/\∀w∈f.sl,ZA w
 r:roots.length<=100000/\∀w∈roots,ZA w
def Vw.sm.gr{st:Vw}{a:Ze}(h:st.sm a):(st.gr a).sm:=by
 refine⟨by simpa[Vw.gr]using h.n,by simpa[Vw.gr]using h.r.1,λn d=> ?_⟩;simp only[Vw.gr,ZdB]at d;obtain⟨f,g,rfl⟩:=d;obtain⟨_,_,j,_⟩:=h.f f g
 grind [Uz,List.length_map,List.length_take,List.length_drop]
def Z5p{s:St}{st:Vw}{roots:Ze}{b c t y sc:V}{I J K L:V}{N R:St->Prop}{X:Nat->St->Prop}(k:st.sm roots)(x:get s 1=.m [b,c,t,y,sc,I,J,K,L,.sl (roots.map vu)])(o:get s 6=.v (.sl (st.ns.map Xd)))(z:get s 7=.m [Yd vi st.nm])(A:get s 8=.m [Yd vu st.tm])
  (a:∀D,Wc D [(2,.ag 2),(3,.v)]=some (WT (st.gr roots))->R D):Yu Sol.prog rC s N X R:=by
 simp[rC,o,YY];refine WM 16 st.ns.length (λi=>[(15,.m [.sl (((st.ns.take i).map (Uz st)).map Yi),.sl []]),(16,.v (vi i))]) (λ_=>True) (by simp[YY]) (by simp[YY]) trivial ?_;intro i M _;by_cases h:i<st.ns.length
 ·have G:st.ns[i]?=some st.ns[i]:=Zdk h;obtain⟨H,Q,p2,p3⟩:=k.f _ (ZdA h);have O:=k.n;obtain⟨P,B⟩:=Zdz H;have d:P<=st.ns[i].sl.length:=Z0;have u:=Zy ((i:Int)+1) Z0 Z0
  have q:List.take (i+1) (List.map (Yi∘Uz st) st.ns)=List.take i (List.map (Yi∘Uz st) st.ns)++[Yi (Uz st st.ns[i])]:=by
   rw[Zee,ZdJ,G];rfl
  have l:=D0 st (ws:=st.ns[i].sl.take P) Zcr λw u=>p3 w (Ze4 u);have j:min i st.ns.length+1<=Y2:=by unfold Y2;omega
  simp[YY,h,x,o,z,A,B,SN,d];rw[Zg5]at l;refine VL l ?_;simp[YY,RU,d,u,q,j,B,Uz,Yi]
 ·have:i=st.ns.length:=Z0;subst this;simp[YY,x,o,z,A];refine VL (D0 st (ws:=roots) (by have:=k.r.1;omega) k.r.2) ?_;simp;have C:=Oc k.gr;simp only[Vw.gr,Ym,ZfM]at C;refine Zw C Z1 ?_;have F:WT (st.gr roots)=WT {nodes:=List.map (Uz st) st.ns,roots:=List.map st.toA roots}:=rfl;rw[F]at a;generalize ({nodes:=List.map (Uz st) st.ns,roots:=List.map st.toA roots}:Gr)=g at*;unfold WT at a⊢;split
  ·rename_i p;rw[if_pos p]at a;simp;refine a _ ?_;simp[Wc,VF,UE,Ym]
  ·rename_i p;rw[if_neg p]at a;simp[TL,Ym];refine a _ ?_;simp[Wc,VF,UE,TL,Ym]
end Vm
end
section
namespace Vm
open Go Go.Proofs Go.RowKit Go.Conc
def Dp{t:Za}(h:t.size=71):t=#[t.getD 0 undef,t.getD 1 undef,t.getD 2 undef,t.getD 3 undef,t.getD 4 undef,t.getD 5 undef,t.getD 6 undef,t.getD 7 undef,t.getD 8 undef,t.getD 9 undef,t.getD 10 undef,t.getD 11 undef,t.getD 12 undef,t.getD 13 undef,t.getD 14 undef,t.getD 15 undef,t.getD 16 undef,t.getD 17 undef,t.getD 18 undef,t.getD 19 undef,t.getD 20 undef,t.getD 21 undef,t.getD 22 undef,t.getD 23 undef,t.getD 24 undef,t.getD 25 undef,t.getD 26 undef,t.getD 27 undef,t.getD 28 undef,t.getD 29 undef,t.getD 30 undef,t.getD 31 undef,t.getD 32 undef,t.getD 33 undef,t.getD 34 undef,t.getD 35 undef,t.getD 36 undef,t.getD 37 undef,t.getD 38 undef,t.getD 39 undef,t.getD 40 undef,t.getD 41 undef,t.getD 42 undef,t.getD 43 undef,t.getD 44 undef,t.getD 45 undef,t.getD 46 undef,t.getD 47 undef,t.getD 48 undef,t.getD 49 undef,t.getD 50 undef,t.getD 51 undef,t.getD 52 undef,t.getD 53 undef,t.getD 54 undef,t.getD 55 undef,t.getD 56 undef,t.getD 57 undef,t.getD 58 undef,t.getD 59 undef,t.getD 60 undef,t.getD 61 undef,t.getD 62 undef,t.getD 63 undef,t.getD 64 undef,t.getD 65 undef,t.getD 66 undef,t.getD 67 undef,t.getD 68 undef,t.getD 69 undef,t.getD 70 undef]:=by
 refine ZgX Z0 λi f d=> ?_;have a:i<71:=ZcI;have e:t[i]=t.getD i undef:=by simp[Array.getD,f]
 rw[e]
 revert d
 match i,a with
 |0,_=>simp
 |1,_=>simp
 |2,_=>simp
 |3,_=>simp
 |4,_=>simp
 |5,_=>simp
 |6,_=>simp
 |7,_=>simp
 |8,_=>simp
 |9,_=>simp
 |10,_=>simp
 |11,_=>simp
 |12,_=>simp
 |13,_=>simp
 |14,_=>simp
 |15,_=>simp
 |16,_=>simp
 |17,_=>simp
 |18,_=>simp
 |19,_=>simp
 |20,_=>simp
 |21,_=>simp
 |22,_=>simp
 |23,_=>simp
 |24,_=>simp
 |25,_=>simp
 |26,_=>simp
 |27,_=>simp
 |28,_=>simp
 |29,_=>simp
 |30,_=>simp
 |31,_=>simp
 |32,_=>simp
 |33,_=>simp
 |34,_=>simp
 |35,_=>simp
 |36,_=>simp
 |37,_=>simp
 |38,_=>simp
 |39,_=>simp
 |40,_=>simp
 |41,_=>simp
 |42,_=>simp
 |43,_=>simp
 |44,_=>simp
 |45,_=>simp
 |46,_=>simp
 |47,_=>simp
 |48,_=>simp
 |49,_=>simp
 |50,_=>simp
 |51,_=>simp
 |52,_=>simp
 |53,_=>simp
 |54,_=>simp
 |55,_=>simp
 |56,_=>simp
 |57,_=>simp
 |58,_=>simp
 |59,_=>simp
 |60,_=>simp
 |61,_=>simp
 |62,_=>simp
 |63,_=>simp
 |64,_=>simp
 |65,_=>simp
 |66,_=>simp
 |67,_=>simp
 |68,_=>simp
 |69,_=>simp
 |70,_=>simp
 |i+71,h=>omega
def SO(v:Z7)(a n:Nat):Value:=match v with
 |.slice (some ⟨b,o,q⟩) _ c=>.slice (some (if c=a then⟨b,o,q⟩else⟨b,o+a,q⟩)) n (c-a)
 |v=>v
def U8(h:Hp)(x:Zh)(p:Nat)(o:Ob):Value:=.agg #[.int .i64 o.at_,.int .i64 o.size,.int .i64 o.ptrs,.bool o.gone,.int .u64 o.target,.int .u64 (ZW (Zv h) ((p:Int)+1) o.at_).1,SO (x p) (o.at_+1).toNat o.size.toNat]
def obP(h:Hp)(p:Nat):List Ob:=(Xx h ((p:Int)+1)).1
def Wi(h:Hp)(x:Zh):Nat->Nat->List Value
 |0,_=>[]
 |n+1,p=>(obP h p).map (U8 h x p)++Wi h x n (p+1)
noncomputable def seC:Code:=match Tryz.f27.body with|some c=>c|none=>.skip
noncomputable def clOps:Array Oper:=Ka (Yp seC [1,1,1])
def CH(c:Nat)(b:Zf)(d:Z5)(fr:Zf)(cs:Z5)(w:Z3):Prop:=cs=d/\∃a,fr=b.at a [.inRegion clOps [1]]/\a.tmps[70]?=some (.chan (some c))/\a.defers=[]
def Z5v{w:Z3}{G:Z6}{h:Hp}{x:Zh}(d:∀j,j<5->Rd w G (.sl ((Zu h j).map vu)) (x j)):Rd w G (ZD h) (Y1 h x):=by
 refine .agg _ _ rfl Z1 ?_;intro i y a
 match i,a with
 |0,a=>cases a;exact .int _ _
 |1,a=>cases a;exact .int _ _
 |2,a=>cases a;exact .int _ _
 |3,a=>cases a;exact .bool _
 |4,a=>cases a;exact .int _ _
 |5,a=>cases a;exact d 0 Z0
 |6,a=>cases a;exact d 1 Z0
 |7,a=>cases a;exact d 2 Z0
 |8,a=>cases a;exact d 3 Z0
 |9,a=>cases a;exact d 4 Z0
def Ou{w:Z3}{G:Z6}{h:Hp}(u:h.ok){x:Zh}(o:∀b,G b->b<w.heap.size)(z:∀j,j<5->Rd w G (.sl ((Zu h j).map vu)) (x j))(p:Int):
  Calls Sol.prog 56 #[Y1 h x,.int .i64 p] w λe f=>∃s,e=.returned (.tuple #[s,.int .i64 (Xx h p).2])/\Below w.heap.size w f/\Rd f (λb=>b<f.heap.size) (.sl ((Xx h p).1.map ZE)) s:=by
 refine ZgY ((O6 u (k:=p)).2 w G _ o rfl ?_) ?_
 ·intro i y d
  match i,d with
  |0,d=>cases d;exact Z5v z
  |1,d=>cases d;exact .int _ _
 ·rintro e f ⟨v,rfl,q,A⟩;cases A with
  |tup _ vs l n=>
   have t:=n 0 _ rfl;have g:=TT (n 1 _ rfl);simp only[ZeM,Zfy]at l;refine⟨vs.getD 0 undef,?_,q,t.mono λb a=> ?_⟩
   ·congr 2;refine ZgX (by simpa using l) λi r B=> ?_;have:i=0\/i=1:=by simp at B;omega
    obtain rfl|rfl:=this
    ·simp[Array.getD,r]
    ·simp[Array.getD,r]at g;simpa using g
   ·obtain⟨_,a⟩|a:=a
    ·exact Zdw (o b a) q.size
    ·exact a.2
def u71(a b:Z7):(#[a,b]:Array Value)++Array.replicate (71- (#[a,b]:Array Value).size) undef=#[a,b,undef,undef,undef,undef,undef,undef,undef,undef,undef,undef,undef,undef,undef,undef,undef,undef,undef,undef,undef,undef,undef,undef,undef,undef,undef,undef,undef,undef,undef,undef,undef,undef,undef,undef,undef,undef,undef,undef,undef,undef,undef,undef,undef,undef,undef,undef,undef,undef,undef,undef,undef,undef,undef,undef,undef,undef,undef,undef,undef,undef,undef,undef,undef,undef,undef,undef,undef,undef,undef]:=Z2
structure SSt (w:World) (h:Hp) (x:Nat->Value) (b4:Nat) (W:World):Prop where
 bel:Below w.heap.size w W
 c2:W.heap[w.heap.size]?=some (.cells #[.int .u64 h.base,.int .i64 h.cap,.int .i64 h.to,.bool h.cycle,.int .i64 h.scan,x 0,x 1,x 2,x 3,x 4] 25 (0,0))
 c4:W.heap[b4]?=some (.cells #[.int .u64 h.base,.int .i64 h.cap,.int .i64 h.to,.int .i64 h.low.length,.int .i64 h.high.length,.int .i64 h.old.length,.int .i64 h.far.length] 89 (0,0))
def SSt.below{w W d:Z3}{h:Hp}{x:Zh}{f:Nat}(s:SSt w h x f W)(a:Below W.heap.size W d):SSt w h x f d:=
 ⟨s.bel.trans (a.mono s.bel.size),(a.block _ (YT s.c2)).trans s.c2,(a.block _ (YT s.c4)).trans s.c4⟩
def Kt{W:Z3}{G:Z6}{l:Ze}{y:Z7}(h:Rd W G (.sl (l.map vu)) y):∃a c,y=.slice a l.length c:=by
 generalize f:l.map vu=L at h;have j:L.length=l.length:=by rw[<-f,Ze9]
 cases h with
 |nil a c d=>simp_all
 |sl _ b o cap k vs d g=>simp_all
def Z6p{P:Z4}{W:Z3}{T f:Z8}(p:P.underlying T=some (.slice f))(q:(Go.sizeOf f).run P W=.ok 1 W){b o len cap:Nat}{d a:Int}(g:0<=d)(h2:d<=a)(r:a<=cap):
  (Instr.slice T (.slice (some ⟨b,o,none⟩) len cap) (some (.int .i64 d)) (some (.int .i64 a)) none).run P W=.ok (SO (.slice (some ⟨b,o,none⟩) len cap) d.toNat (a-d).toNat) W:=by
 obtain⟨l,rfl⟩:=Zdz g;obtain⟨k,rfl⟩:=Zdz (Z0:0<=a);have h:l<=k:=Z0;have j:k<=cap:=Z0;have n:((k:Int) - (l:Int)).toNat=k-l:=Z0;simp[Instr.slice,Instr.sliceBounds,Instr.sliceBound,asIntOf,Ze6 p,q,h,j,n,SO,Addr.add]
 grind
def Z5A{W:Z3}{G:Z6}{l:Ze}{y:Z7}(h:Rd W G (.sl (l.map vu)) y)(g:0<l.length){a:Zcm}{n k:Nat}(e:y=.slice a n k):∃b o,a=some ⟨b,o,none⟩/\l.length<=k/\k<=maxLen:=by
 generalize f:l.map vu=L at h;have p:L.length=l.length:=by rw[<-f,Ze9]
 cases h with
 |nil a c d=>simp_all
 |sl _ b o cap q vs d j=>grind
def Z5x{W:Z3}{G:Z6}{l:Zm}{y:Z7}(h:Rd W G (.sl (l.map ZE)) y):∃a c,y=.slice a l.length c:=by
 generalize f:l.map ZE=L at h;have j:L.length=l.length:=by rw[<-f,Ze9]
 cases h with
 |nil a c d=>simp_all
 |sl _ b o cap k vs d g=>simp_all
def yH:Tryz.f27.body=some seC:=Z2
def Z33{Q:Z4}{c:Nat}{Post:Z9}{es:Zco}{fn:Func}{code d:Code}{a:Act}{b:Zf}{w:Z3}{cs:Z5}(f:fn.body=some code)(h2:fn.body=some d)(h:LS Q c Post es (b.at a [.code code]) cs w):LS Q c Post es (b.at a [.code d]) cs w:=by
 simp_all
def Z6y(b:Zf)(b7:Z5)(w:Z3)(h:Hp)(hh:h.ok)(x:Zh)(c:Nat)(G:Z6)(hG:∀b,G b->b<w.heap.size)(X:∀j,j<5->Rd w G (.sl ((Zu h j).map vu)) (x j))
  (d7:∀p,p<4->(obP h p).length<=1000000/\∀o∈obP h p,0<=o.at_/\0<=o.size/\o.at_+1+o.size<=(Zu h p).length):
  LS Sol.prog c (CH c b b7) ((Wi h x 4 0).map .send) (b.at {tmps:=#[Y1 h x,.chan (some c)]++Array.replicate (71- (#[Y1 h x,.chan (some c)]:Array Value).size) undef,defers:=[]} [.code seC]) b7 w:=by
 obtain⟨O,Y,e0⟩:=Kt (X 0 Z0);obtain⟨P,k1,e1⟩:=Kt (X 1 Z0);obtain⟨Q,Z,e2⟩:=Kt (X 2 Z0);obtain⟨R,k3,e3⟩:=Kt (X 3 Z0);have A:=Zdv (And.intro e0 (And.intro e1 (And.intro e2 e3)))
 have HL:∀W,Below w.heap.size w W->Calls Sol.prog 42 #[Y1 h x] W λe w'=>e=.returned (Vg (Zv h))/\Below W.heap.size W w':=λW L=>
  Tm (G:=G) (λb N=>Zdw (hG b N) L.size) λj hj=>(X j hj).keep (λb N=>L.block b (hG b N)) λ_ q=>q
 have HO:∀W,Below w.heap.size w W->∀p,Calls Sol.prog 56 #[Y1 h x,.int .i64 p] W λe w'=>∃s,e=.returned (.tuple #[s,.int .i64 (Xx h p).2])/\Below W.heap.size W w'/\Rd w' (λb=>b<w'.heap.size) (.sl ((Xx h p).1.map ZE)) s:=λW L p=>
  Ou hh (G:=G) (λb N=>Zdw (hG b N) L.size) (λj hj=>(X j hj).keep (λb N=>L.block b (hG b N)) λ_ q=>q) p
 unfold Y1 at HL HO;rw[e0,e1,e2,e3]at HL HO;have HL:=Zdv HL;have HO:=Zdv HO;have HF:=Zdv (And.intro hG X);have HB:=Zdv d7;clear hG X d7;unfold Y1;rw[e0,e1,e2,e3];refine Z33 (fn:=Tryz.f27) rfl yH ?_;rw[u71];refine LS.two (LS.regK λK u=> ?_);go_wp2;obtain⟨w2,z⟩:∃w2,w2=w.alloc (.cells #[.int .u64 h.base,.int .i64 h.cap,.int .i64 h.to,.bool h.cycle,.int .i64 h.scan,.slice O (Zu h 0).length Y,.slice P (Zu h 1).length k1,.slice Q (Zu h 2).length Z,.slice R (Zu h 3).length k3,x 4] 25):=⟨_,rfl⟩;rw[<-z];have b2:w2.heap[w.heap.size]?=some (.cells #[.int .u64 h.base,.int .i64 h.cap,.int .i64 h.to,.bool h.cycle,.int .i64 h.scan,.slice O (Zu h 0).length Y,.slice P (Zu h 1).length k1,.slice Q (Zu h 2).length Z,.slice R (Zu h 3).length k3,x 4] 25 (0,0)):=by rw[z];exact ZdO ..
 have z2:w2.heap.size=w.heap.size+1:=by rw[z];simp
 have q2:Below w.heap.size w w2:=by rw[z];exact(ZdZ _ _).alloc (Zdp _) _
 clear z;have y2:∀j,w2.cell? ⟨w.heap.size,j,none⟩=(#[.int .u64 h.base,.int .i64 h.cap,.int .i64 h.to,.bool h.cycle,.int .i64 h.scan,.slice O (Zu h 0).length Y,.slice P (Zu h 1).length k1,.slice Q (Zu h 2).length Z,.slice R (Zu h 3).length k3,x 4]:Array Value)[j]? :=λj=>ZdE _ _ _ _ _ _ b2;have d:=Zdv (And.intro b2 (And.intro z2 q2));clear b2 z2 q2;refine LS.two (LS.regK λK u=> ?_)
 go_wp2_with (first
  |(go_at_call 42;refine(HL.out _ d.out.2.2).mono ?_;rintro e w3 ⟨rfl,b9⟩;unfold Vg Zv;dsimp only;have I:=Zdv b9;clear b9))
 obtain⟨W,L⟩:∃W,W=w3.alloc (.cells #[.int .u64 h.base,.int .i64 h.cap,.int .i64 h.to,.int .i64 h.low.length,.int .i64 h.high.length,.int .i64 h.old.length,.int .i64 h.far.length] 89):=⟨_,rfl⟩;obtain⟨S,a8⟩:∃S,S=w3.heap.size:=⟨_,rfl⟩;rw[<-L,<-a8]
 have f:SSt w h x S W:=by
  have hz:=I.out.size;rw[L,a8];exact⟨(d.out.2.2.trans (I.out.mono d.out.2.2.size)).alloc (by have:=d.out.2.2.size;omega) _,by rw[Zds _ _ _ (by have:=YT d.out.1;omega)];rw[e0,e1,e2,e3];exact(I.out.block _ (YT d.out.1)).trans d.out.1,ZdO ..⟩
 clear L a8 I d y2 e0 e1 e2 e3;have y2:∀j,W.cell? ⟨w.heap.size,j,none⟩=(#[.int .u64 h.base,.int .i64 h.cap,.int .i64 h.to,.bool h.cycle,.int .i64 h.scan,.slice O (Zu h 0).length Y,.slice P (Zu h 1).length k1,.slice Q (Zu h 2).length Z,.slice R (Zu h 3).length k3,x 4]:Array Value)[j]? :=λj=>ZcN;refine LS.two (LS.two (LS.regK λK u=> ?_));go_wp2
 refine LS.block (LS.loopI (λn es a W=>∃(p:Nat) (t:Za),p+n=4/\es=(Wi h x n p).map .send/\a=⟨t,[]⟩/\t.size=71/\t.getD 1 undef=.chan (some c)/\t.getD 2 undef=.pointer (some ⟨w.heap.size,0,none⟩)/\t.getD 4 undef=.pointer (some ⟨S,0,none⟩)/\
  t.getD 24 undef=.agg #[.slice O (Zu h 0).length Y,.slice P (Zu h 1).length k1,.slice Q (Zu h 2).length Z,.slice R (Zu h 3).length k3]/\t.getD 25 undef=.int .i64 p/\SSt w h x S W) (n:=4) ⟨0,_,rfl,rfl,rfl,rfl,rfl,rfl,rfl,rfl,rfl,f⟩ ?_)
 clear f y2 W;rintro n es a W ⟨p,t,hp,rfl,rfl,D,t1,t2,t4,F,H,f⟩ ih;have IH:=Zdv ih;clear ih;rw[Dp D,t1,t2,t4,F,H];obtain⟨g,hg⟩:∃g:Zh,∀i,t.getD i undef=g i:=⟨_,λ_=>rfl⟩;simp only[hg];clear hg t1 t2 t4 F H D t;have y2:∀j,W.cell? ⟨w.heap.size,j,none⟩=(#[.int .u64 h.base,.int .i64 h.cap,.int .i64 h.to,.bool h.cycle,.int .i64 h.scan,.slice O (Zu h 0).length Y,.slice P (Zu h 1).length k1,.slice Q (Zu h 2).length Z,.slice R (Zu h 3).length k3,x 4]:Array Value)[j]? :=λj=>ZcN;cases n with
 |zero=>
  have d9:((p:Int)<4)=False:=Zht Z0;refine LS.two (LS.regK λK u=> ?_);go_wp2;refine LS.two (LS.condF rfl (LS.exit rfl (LS.region ?_)));refine LS.value (i:=0) (l:=[1]) rfl rfl rfl ?_;exact LS.now ⟨rfl,_,rfl,rfl,rfl⟩
 |succ n=>
  have d9:((p:Int)<4)=True:=eq_true Z0;have f8:p<4:=Z0;refine LS.two (LS.regK λK u=> ?_);go_wp2;refine LS.two (LS.condT rfl (LS.skip (LS.two (LS.block (LS.two (LS.regK λK u=> ?_))))));obtain⟨ap,kp,ep⟩:=Kt (HF.out.2 p Z0)
  have d6:∀W,(Instr.index 116 (.agg #[.slice O (Zu h 0).length Y,.slice P (Zu h 1).length k1,.slice Q (Zu h 2).length Z,.slice R (Zu h 3).length k3]) (.int .i64 (p:Int))).run Sol.prog W=.ok (.slice ap (Zu h p).length kp) W:=by
   intro W;have hT:Sol.prog.underlying 116=some (.array 4 23):=Z2;have:p=0\/p=1\/p=2\/p=3:=Z0;rw[<-ep];obtain rfl|rfl|rfl|rfl:=this
   ·rw[A.out.1];rfl
   ·rw[A.out.2.1];rfl
   ·rw[A.out.2.2.1];rfl
   ·rw[A.out.2.2.2];rfl
  have EP:=Zdv ep;clear ep;go_wp2;clear d6;have b6:=Zy ((p:Int)+1) Z0 Z0;refine LS.two (LS.regK λK u=> ?_);go_wp2;have d:=Zdv f;clear f;refine LS.two (LS.regK λK u=> ?_)
  go_wp2_with (first
   |(go_at_call 56;refine(HO.out _ d.out.bel _).mono ?_;rintro e W5 ⟨s5,rfl,c0,r⟩;obtain⟨a5,k5,rfl⟩:=Z5x r;have a4:=Zdv (And.intro c0 r);clear c0 r))
  refine LS.two (LS.regK λK u=> ?_);go_wp2;have f:=d.out.below a4.out.1;have r:=a4.out.2;clear d a4 y2 W d9;rename_i W5;rw[show(Xx h ((p:Int)+1)).1=obP h p from rfl]at r⊢;have U:=Z3X r λb N=>N;obtain⟨f7,d8⟩:=HB.out p f8;have d5:Wi h x (n+1) p=(obP h p).map (U8 h x p)++Wi h x n (p+1):=rfl;rw[d5];clear d5 r;have HX:=Zdv (And.intro U (And.intro f7 d8));clear U d8
  refine LS.block (LS.loopI (λm es a W=>∃(i:Nat) (t:Za),i+m=(obP h p).length/\es=(((obP h p).drop i).map (U8 h x p)++Wi h x n (p+1)).map .send/\a=⟨t,[]⟩/\t.size=71/\t.getD 1 undef=.chan (some c)/\t.getD 2 undef=.pointer (some ⟨w.heap.size,0,none⟩)/\t.getD 4 undef=.pointer (some ⟨S,0,none⟩)/\
   t.getD 6 undef=.slice ap (Zu h p).length kp/\t.getD 7 undef=.int .i64 ((p:Int)+1)/\t.getD 24 undef=.agg #[.slice O (Zu h 0).length Y,.slice P (Zu h 1).length k1,.slice Q (Zu h 2).length Z,.slice R (Zu h 3).length k3]/\t.getD 25 undef=.int .i64 p/\t.getD 37 undef=.slice a5 (obP h p).length k5/\t.getD 38 undef=.int .i64 (obP h p).length/\t.getD 39 undef=.int .i64 i/\
   SSt w h x S W/\Below W5.heap.size W5 W) (n:=(obP h p).length) ⟨0,_,Z0,rfl,rfl,rfl,rfl,rfl,rfl,rfl,rfl,rfl,rfl,rfl,rfl,rfl,f,ZdZ _ _⟩ ?_)
  clear f g b6;rintro m es a W ⟨i,t,hi,rfl,rfl,D,t1,t2,t4,t6,t7,F,H,f1,f2,f3,f,k⟩ ih;have f4:=Zdv ih;clear ih;rw[Dp D,t1,t2,t4,t6,t7,F,H,f1,f2,f3];obtain⟨g,hg⟩:∃g:Zh,∀i,t.getD i undef=g i:=⟨_,λ_=>rfl⟩;simp only[hg];clear hg t1 t2 t4 t6 t7 F H f1 f2 f3 D t;cases m with
  |zero=>
   have b3:((i:Int)< ((obP h p).length:Int))=False:=Zht Z0;refine LS.two (LS.regK λK u=> ?_);go_wp2;refine LS.two (LS.condF rfl (LS.exit rfl (LS.inBlock ?_)));have b6:=Zy ((p:Int)+1) Z0 Z0;have C:(obP h p).drop i=[]:=Zgd Z0;rw[C];clear C b3;refine LS.regK λK u=> ?_;go_wp2;exact IH.out n _ _ _ Z0 ⟨p+1,_,Z0,rfl,rfl,rfl,rfl,rfl,rfl,rfl,Z1,f⟩
  |succ m=>
   have b5:i< (obP h p).length:=Z0;obtain⟨o,ho⟩:∃o,(obP h p)[i]?=some o:=⟨_,Zdk b5⟩;have b3:((i:Int)< ((obP h p).length:Int))=True:=eq_true Z0;obtain⟨g5,o5,f9,e5,d0,g8,f6,B⟩|⟨a9,c9,e9,f5⟩:=HX.out.1
   case inr=>rw[f5]at b5;simp at b5
   injection e5 with e5 _ e6;subst e5;subst e6;obtain⟨v0,v1,v2,v3,v4⟩:=B i o ho;have y:=k.block _ f6;have y0:W.cell? ⟨g5,o5+i*5,none⟩=some (.int .i64 o.at_):=by rw[Zel y];exact v0
   have y1:W.cell? ⟨g5,o5+i*5+1,none⟩=some (.int .i64 o.size):=by rw[Zel y];exact v1
   have y2:W.cell? ⟨g5,o5+i*5+2,none⟩=some (.int .i64 o.ptrs):=by rw[Zel y];exact v2
   have y3:W.cell? ⟨g5,o5+i*5+3,none⟩=some (.bool o.gone):=by rw[Zel y];exact v3
   have y4:W.cell? ⟨g5,o5+i*5+4,none⟩=some (.int .u64 o.target):=by rw[Zel y];exact v4
   clear v0 v1 v2 v3 v4 y B;have HC:=Zdv d0;clear d0;refine LS.two (LS.regK λK u=> ?_);go_wp2;refine LS.two (LS.condT rfl (LS.skip (LS.two (LS.block (LS.two (LS.regK λK u=> ?_))))));go_wp2;obtain⟨W6,M⟩:∃W6,W6=W.alloc (.cells #[.int .i64 o.at_,.int .i64 o.size,.int .i64 o.ptrs,.bool o.gone,.int .u64 o.target] 68):=⟨_,rfl⟩;obtain⟨T,b1⟩:∃T,T=W.heap.size:=⟨_,rfl⟩;rw[<-M,<-b1];have b0:Below W.heap.size W W6:=by rw[M];exact(ZdZ _ _).alloc (Zdp _) _
   have q6:W6.heap[T]?=some (.cells #[.int .i64 o.at_,.int .i64 o.size,.int .i64 o.ptrs,.bool o.gone,.int .u64 o.target] 68 (0,0)):=by rw[M,b1];exact ZdO ..
   have a6:=f.below b0;have b8:=k.trans (b0.mono k.size);clear M b1 b0 f k y0 y1 y2 y3 y4 W;have z4:∀j,W6.cell? ⟨S,j,none⟩=(#[.int .u64 h.base,.int .i64 h.cap,.int .i64 h.to,.int .i64 h.low.length,.int .i64 h.high.length,.int .i64 h.old.length,.int .i64 h.far.length]:Array Value)[j]? :=λj=>ZdE _ _ _ _ _ _ a6.c4;have zo:∀j,W6.cell? ⟨T,j,none⟩=(#[.int .i64 o.at_,.int .i64 o.size,.int .i64 o.ptrs,.bool o.gone,.int .u64 o.target]:Array Value)[j]? :=λj=>ZdE _ _ _ _ _ _ q6;have d:=Zdv (And.intro a6 (And.intro b8 q6));clear a6 b8 q6;have HA:=Zdv λW=>D5 hh.lay ((p:Int)+1) o.at_ W;unfold Vg Zv at HA;dsimp only at HA;refine LS.two (LS.regK λK u=> ?_)
   go_wp2_with (first
    |(go_at_call 57;refine(HA.out _).mono ?_;rintro e W7 ⟨rfl,c1⟩;have J:=Zdv c1;clear c1))
   have f:=d.out.1.below J.out;have k:=d.out.2.1.trans (J.out.mono d.out.2.1.size);have q7:=(J.out.block _ (YT d.out.2.2)).trans d.out.2.2;clear z4 zo d J HA;rename_i W7;clear W6;obtain⟨g3,h3,g7⟩:=HX.out.2.2 o (Zdr ho);have e4:0< (Zu h p).length:=Z0;obtain⟨bw,ow,ew,g4,g9⟩:=Z5A (HF.out.2 p Z0) e4 EP.out;subst ew
   have C:(obP h p).drop i=o::(obP h p).drop (i+1):=by
    obtain⟨h1,rfl⟩:=Zdl.1 ho;exact Zef h1
   rw[C];rw[show(((o::(obP h p).drop (i+1)).map (U8 h x p)++Wi h x n (p+1)).map Ev.send)=.send (U8 h x p o)::(((obP h p).drop (i+1)).map (U8 h x p)++Wi h x n (p+1)).map .send from rfl];clear C ho b3;have zo:∀j,W7.drew.cell? ⟨T,j,none⟩=(#[.int .i64 o.at_,.int .i64 o.size,.int .i64 o.ptrs,.bool o.gone,.int .u64 o.target]:Array Value)[j]? :=λj=>ZdE _ _ _ _ _ _ (show W7.drew.heap[T]?=_ from q7);have g6:=QE hh p;have b6:=Zy (o.at_+1) Z0 Z0;have z:=Zy (o.at_+1+o.size) Z0 Z0;have e7:(0:Int)<=o.at_+1:=Z0;have e8:o.at_+1<=o.at_+1+o.size:=Z0;have f0:o.at_+1+o.size<=(kp:Int):=Z0;obtain⟨av,nv,cv,a7⟩:∃av nv cv,.slice av nv cv=SO (x p) (o.at_+1).toNat o.size.toNat:=by rw[EP.out];exact⟨_,_,_,rfl⟩
   have h0:∀W,(Instr.slice 23 (.slice (some ⟨bw,ow,none⟩) (Zu h p).length kp) (some (.int .i64 (o.at_+1))) (some (.int .i64 (o.at_+1+o.size))) none).run Sol.prog W=.ok (.slice av nv cv) W:=by
    intro W;have hT:Sol.prog.underlying 23=some (.slice 22):=Z2;rw[a7,EP.out,Z6p hT Z1 e7 e8 f0,show o.at_+1+o.size- (o.at_+1)=o.size by omega]
   clear e7 e8 f0 zo;have zo:∀j,W7.drew.cell? ⟨T,j,none⟩=(#[.int .i64 o.at_,.int .i64 o.size,.int .i64 o.ptrs,.bool o.gone,.int .u64 o.target]:Array Value)[j]? :=λj=>ZdE _ _ _ _ _ _ (show W7.drew.heap[T]?=_ from q7);have HV:=Zdv a7;clear a7;have d:=Zdv (And.intro f k);clear f k q7;refine LS.send (n:=16) follows Z2 rfl rfl rfl rfl rfl rfl ?_;simp only[ZgH,Zhw];change wpStill Sol.prog _ W7.drew _ _ _
   repeat still_step
   refine wpStill_nil ⟨rfl,?_,?_⟩
   ·unfold U8;rw[<-HV.out];rfl
   ·refine LS.inBlock ?_;have h2:=Zy ((i:Int)+1) Z0 Z0;refine LS.regK λK u=> ?_;go_wp2;exact f4.out m _ _ _ Z0 ⟨i+1,_,Z0,rfl,rfl,rfl,rfl,rfl,rfl,rfl,rfl,rfl,rfl,rfl,rfl,Z1,SSt.below d.out.1 (ZdZ _ _).drew,d.out.2.drew⟩
end Vm
end
section
namespace Vm
open Go Go.Proofs Go.Conc
open Go.RowKit (Below)
section
section
variable {c:Ctx}{B:Nat}{G Kf:Z6}{s:St}{a:Act}{w w0:Z3}{h:GH}{S:SS}{n0:Nat}{fix:Zd}{T0:Za}{t:Nat}{v:Z7}{x:V}
def Ww{p:Nat}(d:p≠t):(a.put (some t) v).tmps[p]?=a.tmps[p]? :=by
 simp[Act.put,Zey,Zfu d]
def R2(d:t<a.tmps.size):(a.put (some t) v).tmps[t]?=some v:=by
 simp[Act.put,Zey,d]
theorem Sc:(a.put (some t) v).tmps.size=a.tmps.size:=by simp[Act.put]
theorem Z5R{p:Nat}{k:OT}{u:Z7}{d f:Nat->Option Value}(g:RelK c.P B s w h d p u (Qk c p k)):RelK c.P B s w h f p u (Qk c p k):=by
 cases k<;>exact g
def RelG.set(j:RelG c B G s a w h (Yq c S))(n:S.at t=none):RelG c B G s (a.put (some t) v) w h (Yq c S):=by
 refine⟨j.ok,λp g d=> ?_,λp g=> ?_⟩
 ·by_cases e:p=t
  ·subst e;rw[Yy,n]at d;cases d
  ·obtain⟨u,o,f⟩:=j.at_ p g d;refine⟨u,by simp_all[Ww],?_⟩;rw[Yy]at f⊢;cases l:S.at p with
   |none=>rw[Yy,l]at d;cases d
   |some k=>grind [Z5R]
 ·refine absurd ?_ g;rw[Yy];cases S.at p<;>exact Vy _
def RelS.set(l:RelS Kf fix T0 c B G w0 n0 s a w S)(k:S.at t=none):RelS Kf fix (a.put (some t) v).tmps c B G w n0 s (a.put (some t) v) w S:=by
 obtain⟨⟨h,d,f⟩,g,n,o,j⟩:=l;exact⟨⟨h,d.set k,f⟩,g,.refl _ _,by grind [Sc],j⟩
def RelS.base(j:RelS Kf fix T0 c B G w0 n0 s a w S):RelS Kf fix a.tmps c B G w n0 s a w S:=by
 obtain⟨d,f,k,g⟩:=j;exact⟨d,f,.refl _ _,g⟩
theorem RelS.put(C:RelS Kf fix T0 c B G w0 n0 s a w S)(u:S.at t=none)(f:∀y∈S,c.ix y.1≠c.ix t)(A:t<n0)(D:Rd w G x v):RelS Kf fix (a.put (some t) v).tmps c B G w n0 (Yj s (c.ix t) (.v x)) (a.put (some t) v) w ((t,.fz)::S):=by
 obtain⟨⟨h,j,o⟩,q,H,I,r⟩:=C;refine⟨⟨h,⟨j.ok,λp d g=> ?_,λp d=> ?_⟩,o⟩,λp d=> ?_,.refl _ _,by grind [Sc],r⟩
 ·rw[Yy]at g⊢;by_cases e:t=p
  ·subst e;simp only[SS.at,Ze3];exact⟨v,R2 Z0,x,by simp[eval,YY],D.mono λb z=>GH.ext_F (j.ok.g_F b z)⟩
  ·simp only[SS.at,if_neg e]at g⊢;have l:=(j.set (v:=v) u).agree (t:=Yj s (c.ix t) (.v x)) λy F=>by rw[YY,if_neg (f y F)]
   cases n:S.at p with
   |none=>rw[n]at g;cases g
   |some k=>
    have:=l.at_ p (by grind [Yy,Vy]) (by simp_all[Yy]);simp_all[Yy]
 ·refine absurd ?_ d;rw[Yy];split<;>exact Vy _
 ·by_cases e:t=p
  ·simp_all[SS.at]
  ·simp only[SS.at,if_neg e]at d;rw[YY,if_neg (f _ (Qc d))];exact q p d
end
noncomputable def cV:Ctx:= {P:=Sol.prog,ix:=(vf Sol.prog).ix,own:=λ_=>false,fresh,sig:=BV,tr:=[3],n:=82}
def zG{code:Code}{S:SS}{st:Stm}{fl:Flow}{B:Nat}{G Kf:Z6}{s:St}{a:Act}{w w0:Z3}{T0:Za}{N:St->Prop}{X:Nat->St->Prop}{Rt:St->Prop}(hc:comp (vf Sol.prog) code S=some (st,fl))(j:RelS Kf [4,23] T0 cV B G w0 82 s a w S)(k:Yu Sol.prog st s N X Rt):
  code.wp Sol.prog (Post Kf [4,23] T0 cV B G w0 82 fl N X Rt) a w:=
 qO (fc:=vf Sol.prog) follows (λp f q g d=>Bj (ZeI _ f) (ZeI _ g) d) rfl rfl rfl (Zdp _) code (D8 (λ_=>trivial) code) hc j k
noncomputable def bodyC:Code:=Yp ofC [1,1,1,1,1,1,1,0,1,0,0]
noncomputable def ops9:Array Oper:=Ka (Yp ofC [1,1,1,1,1,1,1,0,1,0,0,0])
def Z8C:bodyC=.seq (.region 9 ops9 false) (Yp ofC [1,1,1,1,1,1,1,0,1,0,0,1]):=Z2
def Z5V:Yp ofC [1,1,1,1]=.seq (Yp ofC [1,1,1,1,0]) (.seq (Yp ofC [1,1,1,1,1,0]) (.seq (Yp ofC [1,1,1,1,1,1,0]) (.seq (.seq (Yp ofC [1,1,1,1,1,1,1,0,0]) (.block 0 (.loop bodyC))) (Yp ofC [1,1,1,1,1,1,1,1])))):=Z2
noncomputable def ops8:Array Oper:=Ka (Yp ofC [1,1,1,1,1,1,1,0,0])
def Z5o:Yp ofC [1,1,1,1,1,1,1,0,0]=.region 8 ops8 false:=Z2
def zF:Value:=.agg #[.int .i64 0,.int .i64 0,.int .i64 0,.bool false,.int .u64 0,.int .u64 0,.slice none 0 0]
def Z4i:∃t f d inf o,ops9[0]?=some o/\o.guard=none/\o.dst=some 24/\o.op=.recv t f true/\f=.tmp 23/\Sol.prog.underlying t=some (.chan d 70)/\Sol.prog.info? 70=some inf/\inf.zero=some zF:=
 ⟨_,_,_,_,_,rfl,rfl,rfl,rfl,rfl,rfl,rfl,rfl⟩
def Z4j:∃o,ops9[1]?=some o/\o.guard=none/\o.dst=some 25/\o.op=.extract (.tmp 24) 1:=⟨_,rfl,rfl,rfl,rfl⟩
def Z4k:ops9.size=2:=rfl
def Bq:SS:=[(1,.mem [.fz,.fz,.fz,.fz,.fz,.fz,.fz,.fz,.fz,.fz]),(2,.mem [.fz,.fz]),(3,.fz),(5,.own 70),(6,.mem [.own 63]),(7,.mem [.own 64])]
structure AtL (B:Nat) (G:Nat->Prop) (wS:World) (c:Nat) (st:Vw) (hc:List V) (s:St) (a:Act) (w:World):Prop where
 rel:∃T0 w0,RelS G [4,23] T0 cV B G w0 82 s a w Bq
 same:Same G wS w
 ch:a.tmps[23]?=some (.chan (some c))
 s1:get s 1=.m hc
 s6:get s 6=.v (.sl (st.ns.map Xd))
 s7:get s 7=.m [Yd vi st.nm]
 s8:get s 8=.m [Yd vu st.tm]
theorem AtL.put{B:Nat}{G:Z6}{wS:Z3}{c:Nat}{st:Vw}{hc:Zp}{s:St}{a:Act}{w:Z3}(h:AtL B G wS c st hc s a w){v:Z7}{x:V}{b:Bool}(r:Rd wS G x v):
  ∃g d T0 w0,g=(a.put (some 24) (.tuple #[v,.bool b])).put (some 25) (.bool b)/\RelS G [4,23] T0 cV B G w0 82 d g w Bo/\g.tmps[23]?=some (.chan (some c))/\get d 1=.m hc/\get d 6=.v (.sl (st.ns.map Xd))/\get d 7=.m [Yd vi st.nm]/\get d 8=.m [Yd vu st.tm]/\get d 12=.v (.tup [x,.bool b])/\get d 10=.v (.bool b):=by
 obtain⟨T0,w0,p⟩:=h.rel
 have j:Rd w G (.tup [x,.bool b]) (.tuple #[v,.bool b]):=by
  refine .tup _ _ rfl λi c f=> ?_
  match i,f with
  |0,f=>cases f;exact r.keep h.same λ_ q=>q
  |1,f=>cases f;exact .bool _
 have o:=p.put (t:=24) rfl Zcs Z0 j;have n:=o.put (t:=25) (v:=.bool b) (x:=.bool b) rfl Zcs Z0 (.bool _);have k:cV.ix 24=12:=Zcs;have l:cV.ix 25=10:=Zcs;rw[k,l]at n;refine⟨_,_,_,_,rfl,n.weak (R:=Bo) Z2,?_,?_,?_,?_,?_,?_,?_⟩
 ·rw[Ww Z0,Ww Z0];exact h.ch
 all_goals simp[YY,h.s1,h.s6,h.s7,h.s8]
def Z5E{B:Nat}{G:Z6}{wS:Z3}{c:Nat}{hc:Zp}{k:Zi}{b:Zf}{Post:Z9}(fin:Vw)
  (K:Rd wS G (Xd ⟨⟨0,0,0,false,0⟩,0,[]⟩) zF)
  (a0:∀s a w T0 w0,RelS G [4,23] T0 cV B G w0 82 s a w Bp->get s 1=.m hc->get s 6=.v (.sl (fin.ns.map Xd))->get s 7=.m [Yd vi fin.nm]->get s 8=.m [Yd vu fin.tm]->LS Sol.prog c Post [] (b.at a k) [] w):
  ∀(p:List (Fo×Value)) (st:Vw),(∀y∈p,Rd wS G (Xd y.1) y.2)->st.ns.length+p.length<=4000000->(p.map (·.1)).foldl Vw.put st=fin->∀s a w,AtL B G wS c st hc s a w->
   LS Sol.prog c Post (p.map (λy=>.recv y.2)++[.closed zF]) (b.at a (.code bodyC:: .inLoop bodyC:: .inBlock 0::k)) [] w:=by
 obtain⟨t,U,d,inf,o,o1,o2,o3,o4,D,o6,o7,o8⟩:=Z4i;obtain⟨o',p1,p2,p3,p4⟩:=Z4j
 have ext:∀(a:Act) (w:Z3) (v:Z7) (b:Bool),a.tmps[24]?=some (.tuple #[v,.bool b])->(execOp a.eval o').run Sol.prog w=.ok (.value (.bool b)) w:=λa w v b h=>by
  have he:a.eval (.tmp 24)=.tuple #[v,.bool b]:=Act.eval_tmp a 24 _ h;unfold execOp;simp only[p4,he];rfl
 have enter:∀ {F:Zco} {e:Ev} {v:Z7} {fl:Bool} {s:St} {st:Vw} {a:Act} {w:Z3},e.val=.tuple #[v,.bool fl]->((∃v,e=.recv v)\/e=.closed zF)->AtL B G wS c st hc s a w->
   LS Sol.prog c Post F (b.at ((a.put (some 24) (.tuple #[v,.bool fl])).put (some 25) (.bool fl)) (.code (Yp ofC [1,1,1,1,1,1,1,0,1,0,0,1]):: .inLoop bodyC:: .inBlock 0::k)) [] w->
   LS Sol.prog c Post (e::F) (b.at a (.code bodyC:: .inLoop bodyC:: .inBlock 0::k)) [] w:=λ{F e v fl s st a w} J I f hk=>by
  obtain⟨T0,w0,C⟩:=f.rel;have a1:a.tmps.size=82:=C.2.2.2.1;rw[show(Item.code bodyC)=.code (.seq (.region 9 ops9 false) (Yp ofC [1,1,1,1,1,1,1,0,1,0,0,1]))by rfl];refine LS.two (LS.region ?_);rw[Z4k,show List.range 2=[0,1]from rfl];refine LS.event (i:=0) o1 (by simp[Region.wanted,o2]) ?_ ?_
  ·obtain⟨v,rfl⟩|rfl:=I
   ·exact⟨t,U,d,_,inf,zF,o4,by rw[D];rfl,by rw[D];exact Act.eval_tmp a 23 _ f.ch,o6,o7,o8,λz' e=>by cases e⟩
   ·exact⟨t,U,d,_,inf,zF,o4,by rw[D];rfl,by rw[D];exact Act.eval_tmp a 23 _ f.ch,o6,o7,o8,λz' e=>Zcp⟩
  ·rw[o3,J];refine LS.value (i:=1) p1 (by simp[Region.wanted,p2]) (ext _ w v fl (R2 Z0)) ?_;simp_all[LS.regEnd]
 intro p
 induction p with
 |nil=>
  intro st r hn n s a w f;refine enter (v:=zF) (fl:=false) rfl (.inr rfl) f ?_;obtain⟨a2,s2,T0,w0,rfl,C,A,W,Y,Z,h8,u,q⟩:=f.put (b:=false) K;refine LS.wp (zG IX C (Z5q (N:=λ_=>False) (R:=λ_=>False) (X:=λid g=>id=0/\g=s2) q ⟨rfl,rfl⟩)) λe T w' j=> ?_;cases e with
  |normal=>obtain⟨_,_,_,h,_⟩:=j;grind
  |exit id=>
   obtain⟨g,Q,hx,⟨rfl,rfl⟩,l⟩:=j;have H:Q=Bp:=by simpa using hx
   subst H;refine⟨k,rfl,?_⟩
   grind
  |ret=>obtain⟨_,_,_,h,_⟩:=j;grind
  |_=>exact j.elim
 |cons y p ih=>
  intro st r hn n s a w f;simp only[ZeM]at hn;refine enter (v:=y.2) (fl:=true) rfl (.inl ⟨_,rfl⟩) f ?_;obtain⟨a2,s2,T0,w0,rfl,C,A,W,Y,Z,h8,u,q⟩:=f.put (b:=true) (r y Z1);refine LS.wp (zG IX C.base (Z5r (X:=λ_ _=>False) (R:=λ_=>False) (N:=λg=>get g 6=.v (.sl ((st.put y.1).ns.map Xd))/\get g 7=.m [Yd vi (st.put y.1).nm]/\get g 8=.m [Yd vu (st.put y.1).tm]/\get g 1=.m hc) Y Z h8 u q Z0 λg M O P L _ _=>⟨M,O,P,L.trans W⟩)) λe T w' j=> ?_;cases e with
  |normal=>
   obtain⟨g,Q,H,⟨M,O,P,L⟩,l⟩:=j;cases H;refine LS.inLoop (ih (st.put y.1) (λz K=>r z (by simp[K])) ?_ n g T w' ⟨⟨_,_,l.weak (R:=Bq) Z2⟩,f.same.trans l.2.2.1.same,?_,L,M,O,P⟩)
   ·grind [Vw.put]
   ·rw[l.2.2.1.fix 23 Z1];exact A
  |exit id=>obtain⟨_,_,_,h,_⟩:=j;grind
  |ret=>obtain⟨_,_,_,h,_⟩:=j;grind
  |_=>exact j.elim
def CI(b:Zf)(D:World->Nat->Prop)(r:V)(fr:Zf)(cs:Z5)(w:Z3):Prop:=
 cs=[]/\∃(a:Act) (d:Zi),fr= {b.at a d with mode:=.returning}/\a.defers=[]/\∃v,(results Tryz.f10 a.tmps).run Sol.prog w=.ok v w/\Rd w (D w) r v
def CB{code:Code}{S:SS}{st:Stm}{o:SS}{B:Nat}{G Kf:Z6}{s:St}{a:Act}{w w0:Z3}{T0:Za}{N:St->Prop}{c:Nat}{d:Z9}{es:Zco}{b:Zf}{k:Zi}(hc:comp (vf Sol.prog) code S=some (st,⟨some o,[],[]⟩))(u:RelS Kf [4,23] T0 cV B G w0 82 s a w S)
  (y:Yu Sol.prog st s N (λ_ _=>False) (λ_=>False)) (r:∀l g n,N l->RelS Kf [4,23] T0 cV B G w0 82 l g n o->LS Sol.prog c d es (b.at g k) [] n):LS Sol.prog c d es (b.at a (.code code::k)) [] w:=
 LS.wp (zG hc u y) λe g n f=>by
  cases e with
  |normal=>obtain⟨l,z,q,p,j⟩:=f;cases q;exact r _ _ _ p j
  |exit id=>obtain⟨_,_,_,h,_⟩:=f;grind
  |ret=>obtain⟨_,_,_,h,_⟩:=f;grind
  |_=>exact f.elim
def Z4g:∃o,ops8[0]?=some o/\o.guard=none/\o.dst=some 23/\o.op=.move (.tmp 4):=⟨_,rfl,rfl,rfl,rfl⟩
def Z4h:ops8.size=1:=rfl
def Z44{B:Nat}{G:Z6}{c:Nat}{b:Zf}{s:St}{a:Act}{w w0:Z3}{T0:Za}{T U W y sc Y Z x7 x8:V}{d:Ze}{fs:List (Fo×Value)}{fin:Vw}(L:RelS G [4,23] T0 cV B G w0 82 s a w Kr)(J:a.tmps[4]?=some (.chan (some c)))(F:get s 1=.m [T,U,W,y,sc,Y,Z,x7,x8,.sl (d.map vu)])
  (K:∀y∈fs,Rd w G (Xd y.1) y.2) (hn:fs.length<=4000000) (u:(fs.map (·.1)).foldl Vw.put ⟨[],[],[]⟩=fin) (hs:fin.sm d):
  LS Sol.prog c (CI b (λw' x=>G x\/(B<=x/\x<w'.heap.size)) (WT (fin.gr d))) (fs.map (λy=>.recv y.2)++[.closed zF]) (b.at a [.code (Yp ofC [1,1,1,1])]) [] w:=by
 rw[Z5V];refine LS.two (CB r5c L.base (N:=λj=>get j 6=.v (.sl [])/\get j 1=get s 1) (by simp[r5,YY]) λs1 a1 w1 ⟨q6,q1⟩ l=> ?_);refine LS.two (CB r6c l.base (N:=λj=>get j 7=.m [Yd vi []]/\get j 6=.v (.sl [])/\get j 1=get s 1) (by simp[r6,YY,q6,q1];rfl) λs2 a2 w2 ⟨t7,t6,t1⟩ n=> ?_);refine LS.two (CB r7c n.base (N:=λj=>get j 8=.m [Yd vu []]/\get j 7=.m [Yd vi []]/\get j 6=.v (.sl [])/\get j 1=get s 1) (by simp[r7,YY,t7,t6,t1];rfl) λs3 C w3 ⟨u8,u7,u6,u1⟩ k=> ?_)
 have q:C.tmps[4]?=some (.chan (some c)):=by
  rw[k.2.2.1.fix 4 Z1,n.2.2.1.fix 4 Z1,l.2.2.1.fix 4 Z1];exact J
 have p:Same G w w3:=(l.2.2.1.same.trans n.2.2.1.same).trans k.2.2.1.same;refine LS.two (LS.two ?_);rw[Z5o];refine LS.region ?_;rw[Z4h,show List.range 1=[0]from rfl];obtain⟨o,o1,o2,o3,o4⟩:=Z4g;have a0:C.eval (.tmp 4)=.chan (some c):=Act.eval_tmp C 4 _ q;refine LS.value (v:=.chan (some c)) (w':=w3) o1 (by simp[Region.wanted,o2]) (by simp_all[execOp]) (LS.regEnd ?_);rw[o3];have O:=k.set (t:=23) (v:=.chan (some c)) rfl;have a4:C.tmps.size=82:=k.2.2.2.1;refine LS.block (LS.steps (.one step_loop) ?_);refine Z5E (hc:=[T,U,W,y,sc,Y,Z,x7,x8,.sl (d.map vu)]) fin (wS:=w) (B:=B) (G:=G) ?_ ?_ fs ⟨[],[],[]⟩ K Zcp u s3 _ w3 ⟨⟨_,_,O.weak (R:=Bq) Z2⟩,p,R2 Z0,u1.trans F,u6,u7,u8⟩
 ·refine .agg _ _ rfl Z1 λi x g=> ?_
  match i,g with
  |0,g=>cases g;exact .int _ _
  |1,g=>cases g;exact .int _ _
  |2,g=>cases g;exact .int _ _
  |3,g=>cases g;exact .bool _
  |4,g=>cases g;exact .int _ _
  |5,g=>cases g;exact .int _ _
  |6,g=>cases g;exact .nil _ _ (Zex _)
 ·intro s5 a5 w5 T5 a6 P v1 v6 v7 v8;refine LS.wp (zG rCc ((P.weak (R:=IW) Z2).base) (Z5p (N:=λ_=>False) (X:=λ_ _=>False) (R:=λj=>Wc j [(2,.ag 2),(3,.v)]=some (WT (fin.gr d))) hs v1 v6 v7 v8 λj h=>h)) λe a' w' H=> ?_;cases e with
  |normal=>obtain⟨_,_,_,h,_⟩:=H;grind
  |exit id=>obtain⟨_,_,_,h,_⟩:=H;grind
  |ret=>
   obtain⟨j,S',I,hR,M⟩:=H;have I:S'=Bn:=by simpa using I
   subst I;obtain⟨⟨h,k1,k2⟩,k3,k4,k5,k6⟩:=M;intro A
   obtain⟨v,hv,Q⟩:=Ky (c:=cV) (f:=Tryz.f10) (D:=λx=>G x\/(B<=x/\x<w'.heap.size)) k1 k3 (λx z=>by
    obtain F|F:=k1.ok.f_or x z
    ·grind
    ·exact .inr ⟨F,k1.ok.f_lt x z⟩) (λr L=>⟨Zdu.1 (Z2:(Tryz.f10.results.toList.all (SD Sol.prog Bn))=true) r L,λi x z=>.inr ⟨(k1.ok.b_lt _ _ x z).1,(k1.ok.b_lt _ _ x z).2.1⟩⟩) (x:=WT (fin.gr d)) (by rw[<-hR];rfl)
   exact LS.now ⟨rfl,a',A,rfl,k6,v,hv,Q⟩
  |_=>exact H.elim
end
section
def Z0m:∃o d,clOps[1]?=some o/\o.guard=none/\o.dst=none/\o.op=.call ⟨.builtin .close, #[.tmp 70],d⟩:=⟨_,_,rfl,rfl,rfl,rfl⟩
section
variable {b:Zf}{a:Act}{c:Nat}{w:Z3}
def Z0o{cs:Z5}(t:b.fn=27)(x:b.kind≠.early)(q:a.tmps[70]?=some (.chan (some c))){s r:Nat}{f:Bool}(hc:w.heap[c]?=some (.chan 0 #[] false s r f)):
  stepG Tryz.prog false (G (b.at a [.inRegion clOps [1]]) cs) w=.go (G (b.at a [.inRegion clOps []]) cs) (Wx w c (.chan 0 #[] true s r f)) #[⟨.obj c,false,true⟩,⟨.obj c,true,true⟩]:=by
 obtain⟨o,d,l,g,n,p⟩:=Z0m;have h:a.eval (.tmp 70)=.chan (some c):=Act.eval_tmp a 70 _ q
 have j:execOp a.eval o=(do pure (.value (<-Builtin.close_ d o.type #[.chan (some c)])):Sem Next):=by
  unfold execOp;simp only[p];simp[resolve,builtin,h];rfl
 have y:(execOp a.eval o).run Tryz.prog w=.ok (.value (.tuple #[])) (Wx w c (.chan 0 #[] true s r f)):=by
  rw[j];simp only[ZdX,run_close_open d o.type hc,ZdR];rfl
 have u:(execOp a.eval o).events Tryz.prog w #[]=#[⟨.obj c,false,true⟩,⟨.obj c,true,true⟩]:=by
  rw[j]
  have g:(Builtin.close_ d o.type #[.chan (some c)]).runT Tryz.prog w #[]=(.ok (.tuple #[]) (Wx w c (.chan 0 #[] true s r f)), #[⟨.obj c,false,true⟩,⟨.obj c,true,true⟩]):=by
   refine ZfI ?_ (events_close_open d o.type hc);rw[Zfm];exact run_close_open d o.type hc
  show((Sem.bind _ _).runT Tryz.prog w #[]).2=_;rw[Zfs,g];rfl
 rw[stepG_value l (by simp[Region.wanted,g]) x y];have k:a.put o.dst (.tuple #[])=a:=by rw[n];rfl
 rw[k];unfold listed;rw[u,seen_eq (by rw[t,Tryz.func27];rfl) Z1]
noncomputable def bornF:Frame:= {(default:Zf)with fn:=Tryz.prog.funcs.size,defers:=[],mode:=.panicking [goexitEntry]}
def Z6z(d:b= {base 27 with kind:=.deferred})(f:a.defers=[]):QuitsIn Tryz.prog 4 (G (b.at a [.inRegion clOps []]) [bornF]):=by
 subst d;refine .ctl (g':=G (({base 27 with kind:=.deferred}:Frame).at a []) [bornF]) rfl (λw=>Zdf) ?_;refine .ctl (g':=G {(({base 27 with kind:=.deferred}:Frame).at a [])with mode:=.returning} [bornF]) rfl (λw=>Zdf) ?_;refine .ctl (g':=G bornF []) rfl (λw=> ?_) ?_
 ·have g:=Tryz.func27;simp[G,stepG,unwind,Frame.at,f,base,g,results,Tryz.results27,doReturn,bornF,goexitEntry];rfl
 ·refine .ctl (g':= {(G bornF [])with status:=.finished}) rfl (λw=> ?_) rfl;rfl
end
def QI(l:Ze):NoM (.sl (l.map vu)):=.sl _ λc d=>by
 have:flat (l.map vu)=l.map vu:=VR λx f=>by obtain⟨y,_,rfl⟩:=ZdB.1 f;rfl
 rw[this]at d;obtain⟨y,_,rfl⟩:=ZdB.1 d;exact .int _ _
def Z0R{n:Nat}{v:Z7}(h:FixV n v)(g m:Nat):FixV n (SO v g m):=by
 intro ρ f;have d:=h ρ f;unfold SO;split
 ·rename_i b o q k c;simp only[Zt,ZdD,ZQ,Value.slice.injEq,Zdj,Addr.mk.injEq,and_true]at d
  grind [Zt,ZQ]
 ·exact d
def Es{n:Nat}{h:Hp}{x:Zh}{p:Nat}(hx:FixV n (x p))(o:Ob):FixV n (U8 h x p o):=by
 intro ρ d;have:=Z0R hx (o.at_+1).toNat o.size.toNat ρ d;simp_all[U8,Wu,XR,VZ]
def jl{h:Hp}{x:Zh}{v:Z7}:∀ {n p:Nat},v∈Wi h x n p->∃q o,q<p+n/\v=U8 h x q o
 |0,p,d=>by simp[Wi]at d
 |n+1,p,d=>by
  simp only[Wi,ZdL,ZdB]at d;obtain⟨o,_,rfl⟩|d:=d
  ·exact⟨p,o,Z0,rfl⟩
  ·obtain⟨q,o,g,f⟩:=jl d;exact⟨q,o,Z0,f⟩
def bD:Frame:= {base 27 with kind:=.deferred}
def qS(args:Za):Frame.enter Tryz.prog 27 args .deferred=bD.at {tmps:=args++Array.replicate (71-args.size) undef,defers:=[]} [.code seC]:=by
 simp[Frame.enter,Frame.at,Tryz.func27,yH,bD,base,Tryz.ntmps27]
def MI:YV Sol.prog false seC=true:=Z2
def Po:Sol.prog.funcs[Tryz.prog.funcs.size]?=none:=by
 grind [Array.getElem?_eq_none,Sol.prog,WI]
def Z0l{c n0:Nat}{h:Hp}{x:Zh}{K:Z6}{w:Z3}(hh:h.ok)(Z:w.heap.size<=n0)(hc:c<n0)(hK:∀b,K b->∃cs e fr,w.heap[b]?=some (.cells cs e fr))(N:∀b o,w.heap[b]?=some o->K b->Jd n0 o)
  (hx:∀j,j<5->FixV n0 (x j)) (hr:∀j,j<5->Rd w K (.sl ((Zu h j).map vu)) (x j))
  (a0:∀p,p<4->(obP h p).length<=1000000/\∀o∈obP h p,0<=o.at_/\0<=o.size/\o.at_+1+o.size<=(Zu h p).length):
  Play Tryz.prog false c K (Uk Tryz.prog c) ((Wi h x 4 0).map .send) (λ_=>False) (born Tryz.prog {target:=.fn (.func 27) #[],args:=#[Y1 h x,.chan (some c)]}) w:=by
 have a4:∀b,K b->b<w.heap.size:=λb k=>Zcp
 have C:∀w1:Z3,stepG Tryz.prog false (born Tryz.prog {target:=.fn (.func 27) #[],args:=#[Y1 h x,.chan (some c)]}) w1=.go (G (Frame.enter Tryz.prog 27 #[Y1 h x,.chan (some c)] .deferred) [bornF]) w1 #[]:=λw1=>by
  have hn:¬Tryz.f27.name= "runtime.NumGoroutine" :=by decide+kernel
  have k:¬Tryz.f27.body=none:=by rw[yH];simp
  simp[stepG,born,unwind,callDeferred,invoke,callFunc,G,bornF,hn,k];rfl
 refine .step (λw1 H=>⟨_,_,_,_,C w1,Zdp _,Zdp _,rfl,rfl,λ_ _ _=>rfl,λe T=>by simp at T⟩) λw1 g' w' a2 H e=> ?_;have e:=(C w1).symm.trans e;injection e with J L e3;subst J L;have B:(WV (λ_=>False) w1 w1:Z6)=λ_=>False:=funext λb=>propext ⟨λk=>by obtain k|k:=k;exact k;omega,λk=>k.elim⟩;rw[B];refine Play.rely ?_ H
 let X:Cx:=Tr Tryz.prog Sol.prog n0 K (λ_=>False)
 have Q:X.P=Tryz.prog:=Sol.sub.P n0 K (λ_=>False)
 have n:∀v∈ #[Y1 h x,.chan (some c)],FixV n0 v:=λv hv=>by
  have:v=Y1 h x\/v=.chan (some c):=by simpa using hv
  obtain rfl|rfl:=this
  ·intro ρ l;unfold Y1;rw[Wu];simp[XR,VZ,hx 0 Z0 ρ l,hx 1 Z0 ρ l,hx 2 Z0 ρ l,hx 3 Z0 ρ l,hx 4 Z0 ρ l]
  ·intro ρ l;simp[Zt,l c hc]
 have z:∀ρ,Zx ρ bornF=bornF:=λρ=>by
  simp[Zx,bornF,Wb,SK,goexitEntry,TX];exact⟨by show Array.map (Zt ρ) #[]=#[];simp,rfl,rfl⟩
 have hw:=Cy X (Sol.sub.ok n0 K (λ_=>False)) (c:=c) (es:=(Wi h x 4 0).map .send) (fr:=Frame.enter Tryz.prog 27 #[Y1 h x,.chan (some c)] .deferred) (cs:=[bornF]) (ds:=[]) (main:=false) (wc:=w)
  (λe T=>by
   obtain⟨v,hv,rfl⟩:=ZdB.1 T;obtain⟨q,o,hq,rfl⟩:=jl hv;exact⟨Es (hx q Z0) o,hc⟩)
  (λρ=>by
   rw[qS];refine⟨⟨λi Y=> ?_,λd A=>by simp[Frame.at]at A,.inr rfl,.inl ⟨_,seC,Sol.func27,Tryz.func27,yH,MI⟩⟩,λf U=> ?_,rfl⟩
   ·have:i=.code seC:=by simpa[Frame.at]using Y
    subst this;exact MI
   ·have:f=bornF:=by simpa using U
    subst this;exact⟨λi Y=>(by cases Y),λd A=>(by cases A),.inl rfl,.inr (.inl ⟨Po,ZfE (Zdp _)⟩)⟩)
  (λf U=>by
   have:f=Frame.enter Tryz.prog 27 #[Y1 h x,.chan (some c)] .deferred\/f=bornF:=by simpa using U
   obtain rfl|rfl:=this
   ·rw[qS];intro ρ l
    have J:(#[Y1 h x,.chan (some c)]++Array.replicate (71- (#[Y1 h x,.chan (some c)]:Array Value).size) undef).map (Zt ρ)=#[Y1 h x,.chan (some c)]++Array.replicate (71- (#[Y1 h x,.chan (some c)]:Array Value).size) undef:=by
     rw[Zfh,Sn n ρ l];simp[TX]
    simp_all[Zx,Frame.at,YF,Wb,bD,base]
   ·exactλρ _=>z ρ)
  (λb o ho y=>by
   obtain y|y:=y
   ·exact y.elim
   ·exact N b o ho y)
  (Post:=λwl=>CH c bD [bornF])
  (λt=>by
   rw[qS]
   exact Z6y bD [bornF] (X.mask w t) h hh x c K (λb k=>by grind [Cx.mask,Tr,Nat.lt_of_lt_of_le])
    (λj hj=>M2 (X:=X) (λb h=>h) (λb c e fr B hc=>B) Z (hr j hj) (QI _)) a0)
 have hw:Play Tryz.prog false c K _ ((Wi h x 4 0).map .send) (λ_=>False) (G (Frame.enter Tryz.prog 27 #[Y1 h x,.chan (some c)] .deferred) ([bornF]++[])) w:=Q▸hw;refine hw.mono λO g w' ⟨ρ,t,a3,a1,a5,fc,cc,B,hid,⟨S,a,W,M,A⟩,I⟩=> ?_;subst B S W;have D:fc=Zx ρ (bD.at a [.inRegion clOps [1]]):=I.top;have F:cc=[bornF].map (Zx ρ)++[]:=I.under
 have J:fc=bD.at {tmps:=a.tmps.map (Zt ρ),defers:=[]} [.inRegion clOps [1]]:=by
  rw[D];simp[Zx,Frame.at,A,Wb,YF,bD,base]
 have L:cc=[bornF]:=by rw[F];simp[z]
 rw[J,L]
 have u:(a.tmps.map (Zt ρ))[70]?=some (.chan (some c)):=by
  rw[ZdU,M];simp[Zt,hid c hc]
 refine⟨rfl,?_,_,4,λs r tm R=>Z0o rfl (by simp[bD]) u R,Z6z rfl rfl⟩;rfl
end
inductive NoZ:V->Prop where
 |int (k:Zl) (n:Int):NoZ (.int k n)
 |bool (b:Bool):NoZ (.bool b)
 |sl (l:Zp):(∀y∈l,y.cells≠[])->(∀c∈flat l,NoZ c)->NoZ (.sl l)
 |agg (l:Zp):(∀c∈l,NoZ c)->NoZ (.agg l)
 |tup (l:Zp):(∀c∈l,NoZ c)->NoZ (.tup l)
def NoZ.m{x:V}(h:NoZ x):NoM x:=by
 induction h with
 |int k n=>exact .int k n
 |bool b=>exact .bool b
 |sl l _ _ a=>exact .sl l a
 |agg l _ a=>exact .agg l a
 |tup l _ a=>exact .tup l a
def Z5w{w:Z3}{D:Z6}{x:V}{v:Z7}(h:Rd w D x v)(d:NoZ x):Rd w (λb=>D b/\b<w.heap.size) x v:=by
 induction h with
 |int k n=>exact .int k n
 |bool b=>exact .bool b
 |nil a cap A=>exact .nil a cap A
 |sl l b o cap k vs g p z r t C j=>
  cases d with
  |sl _ B d=>
   cases l with
   |nil=>exact .nil _ cap p
   |cons y l=>
    have F:0<k:=by
     rw[<-(r y Z1).1];exact ZfC.2 (B y Z1)
    have q:=qK (t 0 Zcq);exact .sl _ b o cap k vs g p ⟨z,q⟩ r t λi c f=>j i c f (d c (JD f))
 |agg u vs g p _ j=>
  cases d with
  |agg _ d=>exact .agg u vs g p λi c f=>j i c f (d c (Zdr f))
 |tup l vs g _ j=>
  cases d with
  |tup _ d=>exact .tup l vs g λi c f=>j i c f (d c (Zdr f))
 |_=>cases d
def Z5y{w:Z3}{D:Z6}{x:V}{v:Z7}(h:Rd w D x v)(d:NoZ x):Rd w (λb=>D b/\∃q e r,w.heap[b]?=some (.cells q e r)) x v:=by
 induction h with
 |int k n=>exact .int k n
 |bool b=>exact .bool b
 |nil a cap B=>exact .nil a cap B
 |sl l b o cap k vs g p z t u F j=>
  cases d with
  |sl _ C d=>
   cases l with
   |nil=>exact .nil _ cap p
   |cons y l=>
    have G:0<k:=by
     rw[<-(t y Z1).1];exact ZfC.2 (C y Z1)
    obtain⟨_,c,e,r,A,_⟩:=Jp (u 0 Zcq);exact .sl _ b o cap k vs g p ⟨z,c,e,r,A⟩ t u λi c f=>j i c f (d c (JD f))
 |agg q vs g p _ j=>
  cases d with
  |agg _ d=>exact .agg q vs g p λi c f=>j i c f (d c (Zdr f))
 |tup l vs g _ j=>
  cases d with
  |tup _ d=>exact .tup l vs g λi c f=>j i c f (d c (Zdr f))
 |_=>cases d
def GF(l:Ze):NoZ (.sl (l.map vu)):=.sl _ (λy f=>by obtain⟨z,_,rfl⟩:=ZdB.1 f;simp) λc a=>by
 rw[VR λx d=>Zda]at a;obtain⟨y,_,rfl⟩:=ZdB.1 a;exact .int _ _
def GE(l:Ze):NoZ (.sl (l.map vi)):=.sl _ (λy f=>by obtain⟨z,_,rfl⟩:=ZdB.1 f;simp) λc a=>by
 rw[VR λx d=>Zda]at a;obtain⟨y,_,rfl⟩:=ZdB.1 a;exact .int _ _
def GD(g:Gr):NoZ (Ym g):=.agg _ λc a=>by
 have:c=.sl (g.nodes.map Yi)\/c=.sl (g.roots.map vi):=by simpa using a
 obtain rfl|rfl:=this
 ·refine .sl _ (λy d=>by obtain⟨z,_,rfl⟩:=ZdB.1 d;simp) λc a=> ?_;obtain⟨y,d,a⟩:=Zfj.1 a;obtain⟨n,_,rfl⟩:=ZdB.1 d;have:c=.sl (n.ptrs.map vi)\/c=.sl (n.data.map vu):=by simpa using a
  obtain rfl|rfl:=this
  ·exact GE _
  ·exact GF _
 ·exact GE _
def GC(g:Gr):NoZ (WT g):=by
 unfold WT;split
 all_goals
  refine .tup _ λc a=> ?_;simp only[ZdG,ZeG,Zgb]at a;obtain rfl|rfl:=a
  ·exact GD _
  ·exact .int _ _
def SA(h:Hp):NoM (ZD h):=.agg _ λc a=>by
 simp only[ZdG,ZeG,Zgb]at a;obtain rfl|rfl|rfl|rfl|rfl|rfl|rfl|rfl|rfl|rfl:=a
 all_goals first|exact .int _ _|exact .bool _|exact QI _
noncomputable def ops4:Array Oper:=Ka (Yp ofC [1,1,1,0])
def Z4f:(ops4.all λo=>XV Sol.prog false o.op)=true:=Z2
def Z5W:YV Sol.prog false (Yp ofC [1,1,1,1])=true:=Z2
def Z43:Sol.prog.funcs[10]?=some (M5 Tryz.f10):=by
 have:=Tryz.func10;simp only[Sol.prog,WI,Zgk,this,ZdD];rfl
def Ge{X:Cx}{w:Z3}{t:Nat->Question->Nat}{b:Nat}{cs:Za}{T:Z8}(h:w.heap[b]?=some (.cells cs T (0,0)))(a:X.O b)(d:b<X.n0):(X.mask w t).heap[b]?=some (.cells cs T (0,0)):=by
 rw[A7,if_pos d,h];unfold Cx.maskO;dsimp only;rw[if_pos a,if_pos ⟨trivial,λc e g f=>Zcp⟩]
def Z5S{B g k:Nat}{a:Act}{A C:Z8}{K:Z6}{h:Hp}{x:Zh}{l:Z3}
  (z:a.tmps.size=82) (O:a.defers=[]) (R:a.tmps[1]?=some (.pointer (some ⟨g,0,none⟩))) (S:a.tmps[2]?=some (.pointer (some ⟨k,0,none⟩))) (T:a.tmps[3]?=some (.int .i64 0))
  (n:l.heap[g]?=some (.cells #[.int .u64 h.base,.int .i64 h.cap,.int .i64 h.to,.bool h.cycle,.int .i64 h.scan,x 0,x 1,x 2,x 3,x 4] A (0,0))) (o:l.heap[k]?=some (.cells #[.slice none 0 0,.slice none 0 0] C (0,0)))
  (L:B<=g) (M:B<=k) (J:g≠k) (k1:¬K g) (Z:¬K k) (D:∀b,K b->b<l.heap.size) (r:∀j,j<5->Rd l K (.sl ((Zu h j).map vu)) (x j)):
  RelS K [4,23] a.tmps cV B K l 82 [.no,.m [vu h.base,vi h.cap,vi h.to,.bool h.cycle,vi h.scan,.sl (h.low.map vu),.sl (h.high.map vu),.sl (h.old.map vu),.sl (h.far.map vu),.sl (h.roots.map vu)],.m [.sl [],.sl []],.v (vi 0)] a l Kr:=by
 have l1:=(Zdq.1 n).1;have l2:=(Zdq.1 o).1;have W:cV.ix 1=1:=Zcs;have X:cV.ix 2=2:=Zcs;have Y:cV.ix 3=3:=Zcs;refine⟨⟨{F:=K,bl:=λt i=>if t=1/\i=0 then some g else if t=2/\i=0 then some k else none,K:=K},⟨⟨Z0,D,λb f=>.inl f,λb f=>f,λt i b f=> ?_,λt i u j b f N=> ?_,D,λt i b f=> ?_,λb f=>.inl f⟩,λt _ Q=> ?_,λt P=> ?_⟩,rfl⟩,λp U=> ?_,.refl _ _,z,O⟩
 ·grind
 ·grind
 ·grind
 ·rw[Yy]at Q⊢;by_cases G:t=1
  ·subst G;refine⟨_,R,g,_,A,rfl,rfl,n,rfl,λi y d=> ?_⟩;have q:i<10:=(Zdl.1 d).1
   match i,q with
   |0,_=>cases d;exact⟨_,Zdf,rfl,.int _ _⟩
   |1,_=>cases d;exact⟨_,Zdf,rfl,.int _ _⟩
   |2,_=>cases d;exact⟨_,Zdf,rfl,.int _ _⟩
   |3,_=>cases d;exact⟨_,Zdf,rfl,.bool _⟩
   |4,_=>cases d;exact⟨_,Zdf,rfl,.int _ _⟩
   |5,_=>cases d;exact⟨_,Zdf,rfl,r 0 Z0⟩
   |6,_=>cases d;exact⟨_,Zdf,rfl,r 1 Z0⟩
   |7,_=>cases d;exact⟨_,Zdf,rfl,r 2 Z0⟩
   |8,_=>cases d;exact⟨_,Zdf,rfl,r 3 Z0⟩
   |9,_=>cases d;exact⟨_,Zdf,rfl,r 4 Z0⟩
   |i+10,h=>omega
  ·by_cases H:t=2
   ·subst H;refine⟨_,S,k,_,C,rfl,rfl,o,rfl,λi y d=> ?_⟩;have w:i<2:=(Zdl.1 d).1
    match i,w with
    |0,_=>cases d;exact⟨_,Zdf,rfl,.nil _ _ (Zex _)⟩
    |1,_=>cases d;exact⟨_,Zdf,rfl,.nil _ _ (Zex _)⟩
    |i+2,h=>omega
   ·by_cases I:t=3
    ·subst I;exact⟨_,T,_,Zdf,.int _ _⟩
    simp_all[Kr,SS.at,Zfu,TK.isNo]
 ·refine absurd ?_ P;rw[Yy];split<;>exact Vy _
 grind [Kr,SS.at]
def Of(cs:Z5)(r:V)(D:Z6)(g:Zj)(w:Z3):Prop:=
 ∃a,g=G a cs/\a.fn=10/\a.mode=.returning/\a.defers=[]/\a.kind=.normal/\∀d,∃v,(results Tryz.f10 a.tmps).run Tryz.prog (w.at d)=.ok v (w.at d)/\Rd (w.at d) (λb=>D b/\b<w.heap.size) r v
def Z38{c n0 B C D:Nat}{a:Act}{T1 T2:Z8}{K:Z6}{h:Hp}{x:Zh}{w:Z3}{cs:Z5}{fs:List (Fo×Value)}{fin:Vw}(hh:h.ok)
  (e2:a.tmps.size=82) (hd:a.defers=[]) (t1:a.tmps[1]?=some (.pointer (some ⟨C,0,none⟩))) (t2:a.tmps[2]?=some (.pointer (some ⟨D,0,none⟩))) (t3:a.tmps[3]?=some (.int .i64 0)) (t4:a.tmps[4]?=some (.chan (some c)))
  (N:w.heap[C]?=some (.cells #[.int .u64 h.base,.int .i64 h.cap,.int .i64 h.to,.bool h.cycle,.int .i64 h.scan,x 0,x 1,x 2,x 3,x 4] T1 (0,0))) (R:w.heap[D]?=some (.cells #[.slice none 0 0,.slice none 0 0] T2 (0,0)))
  (e8:B<=w.heap.size) (c1:B<=C) (d0:B<=D) (b9:C≠D) (k1:¬K C) (k2:¬K D) (b0:w.heap.size<=n0) (hc:c<n0)
  (hK:∀b,K b->∃cs e fr,w.heap[b]?=some (.cells cs e fr)) (a0:∀(b:Nat) (cs:Za) (e:Z8) (fr:Nat×Nat),w.heap[b]?=some (Obj.cells cs e fr)->Jd n0 (Obj.cells cs e fr)) (d9:∀v∈a.tmps,FixV n0 v) (hx:∀j,j<5->FixV n0 (x j))
  (hr:∀j,j<5->Rd w K (.sl ((Zu h j).map vu)) (x j)) (a3:∀y∈fs,Rd w K (Xd y.1) y.2/\NoM (Xd y.1)) (d8:fs.map (·.2)=Wi h x 4 0) (hn:fs.length<=4000000) (a9:(fs.map (·.1)).foldl Vw.put ⟨[],[],[]⟩=fin) (hs:fin.sm h.roots):
  Play Tryz.prog true c K (λ_=>Of cs (WT (fin.gr h.roots)) (λb=>K b\/B<=b)) ((Wi h x 4 0).map .recv++[.closed zF]) (λb=>b=C\/b=D) (G ((base 10).at a [.inRegion ops4 [],.code (Yp ofC [1,1,1,1])]) cs) w:=by
 have e9:∀b,K b->b<w.heap.size:=λb H=>Zcp;have l1:=(Zdq.1 N).1;have l2:=(Zdq.1 R).1
 let X:Cx:=Tr Tryz.prog Sol.prog n0 K (λb=>b=C\/b=D)
 have M:∀ρ,(X.at ρ).P=Tryz.prog:=λρ=>Sol.sub.same.symm;have f1:∀t,(X.mask w t).heap.size=n0:=λt=>by simp[Cx.mask,X,Tr]
 have d7:(Wi h x 4 0).map Ev.recv=fs.map λy=>.recv y.2:=by rw[<-d8,ZfM];rfl
 have a6:∀b,(b=C\/b=D)->¬K b:=λb H=>Zcp
 have hw:=Cy X (Sol.sub.ok n0 K (λb=>b=C\/b=D)) (c:=c) (es:=(Wi h x 4 0).map .recv++[.closed zF]) (fr:=(base 10).at a [.inRegion ops4 [],.code (Yp ofC [1,1,1,1])]) (cs:=[]) (ds:=cs) (main:=true) (wc:=w)
  (λe I=>by
   obtain I|I:=ZdL.1 I
   ·obtain⟨v,hv,rfl⟩:=ZdB.1 I;obtain⟨q,o,hq,rfl⟩:=jl hv;exact⟨Es (hx q Z0) o,hc⟩
   ·have:e=.closed zF:=by simpa using I
    subst this;exact⟨λρ _=>by simp_all[zF,Wu,Zt],hc⟩)
  (λρ=>by
   refine⟨⟨λi p=> ?_,λd a2=> ?_,.inl rfl,.inr (.inr ⟨_,_,Z43,Tryz.func10,rfl⟩)⟩,λf hf=>by simp at hf,rfl⟩
   ·have:i=.inRegion ops4 []\/i=.code (Yp ofC [1,1,1,1]):=by simpa[Frame.at]using p
    obtain rfl|rfl:=this
    ·exact Z4f
    ·exact Z5W
   ·rw[show((base 10).at a [.inRegion ops4 [],.code (Yp ofC [1,1,1,1])]).defers=a.defers from rfl,hd]at a2;simp at a2)
  (λf hf=>by
   have:f=(base 10).at a [.inRegion ops4 [],.code (Yp ofC [1,1,1,1])]:=by simpa using hf
   subst this;intro ρ hρ;simp only[Zx,Frame.at,Sn d9 ρ hρ,hd];rfl)
  (λb o J hO=>by
   obtain hO|hO:=hO
   ·obtain rfl|rfl:=hO
    ·rw[N]at J;cases J;exact a0 _ _ _ _ N
    ·rw[R]at J;cases J;exact a0 _ _ _ _ R
   ·obtain⟨cs,e,fr,I⟩:=hK b hO;rw[J]at I;cases I;exact a0 _ _ _ _ J)
  (Post:=λwl=>CI (base 10) (λA b=>K b\/(B<=b/\b<A.heap.size)) (WT (fin.gr h.roots)))
  (λt=>by
   rw[d7]
   have b3:∀ {y:V} {v:Z7},Rd w K y v->NoM y->Rd (X.mask w t) K y v:=λ{y v} h1 h2=>by
    clear a3
    induction h1 with
    |int k n=>exact .int k n
    |bool b=>exact .bool b
    |str s=>exact .str s
    |nil a cap h=>exact .nil a cap h
    |sl l b o cap k vs W q2 H hf a1 _ U=>
     cases h2 with
     |sl _ S=>exact .sl l b o cap k vs W q2 H hf (λi p=>zk (λJ=>a6 b J H) (λc e fr _=>H) b0 (a1 i p)) λi c p=>U i c p (S c (JD p))
    |agg cs vs W q2 _ U=>
     cases h2 with
     |agg _ S=>exact .agg cs vs W q2 λi c p=>U i c p (S c (Zdr p))
    |tup l vs W _ U=>
     cases h2 with
     |tup _ S=>exact .tup l vs W λi c p=>U i c p (S c (Zdr p))
    |ptr cs b o vs H W a1 _ U=>
     cases h2 with
     |ptr _ S=>exact .ptr cs b o vs H W (λi p=>zk (λJ=>a6 b J H) (λc e fr _=>H) b0 (a1 i p)) λi c p=>U i c p (S c (Zdr p))
    |fn f=>exact .fn f
    |clo f cs vs W _ U=>
     cases h2 with
     |clo _ _ S=>exact .clo f cs vs W λi c p=>U i c p (S c (Zdr p))
    |nul0=>exact .nul0
    |nul1=>exact .nul1
    |nomp=>cases h2
    |mp=>cases h2
   refine LS.regEnd (Z44 (G:=K) (B:=B) (Z5S e2 hd t1 t2 t3 (Ge N (.inl rfl) (by show C<n0;omega)) (Ge R (.inr rfl) (by show D<n0;omega)) c1 d0 b9 k1 k2 (λb H=>Zcp) λj hj=>b3 (hr j hj) (QI _)) t4 rfl (λy hy=>b3 (a3 y hy).1 (a3 y hy).2) hn a9 hs))
 have hw:Play Tryz.prog true c K _ ((Wi h x 4 0).map .recv++[.closed zF]) (λb=>b=C\/b=D) (G ((base 10).at a [.inRegion ops4 [],.code (Yp ofC [1,1,1,1])]) ([]++cs)) w:=(M id)▸hw;refine hw.mono λO g A ⟨ρ,t,e7,e5,Y,fc,cc,hg,hid,⟨d6,L,b7,e0,a2,v,hv,e3⟩,T⟩=> ?_;subst hg d6 e0;have u:fc=Zx ρ {(base 10).at L b7 with mode:=.returning}:=T.top;have b4:cc=cs:=T.under;subst b4;refine⟨fc,rfl,by rw[u];rfl,by rw[u];rfl,by rw[u];show L.defers.map _=_;grind,by rw[u];rfl,λd=> ?_⟩;have b5:(X.at ρ).WR Y (A.at d):=D2 T.wr d;have a4:=G7 Tryz.f10 (L.tmps.map (Zt ρ));have a5:Ya ((results Tryz.f10 (L.tmps.map (Zt ρ))).run Tryz.prog (A.at d))=A.at d:=a4.world _
 have F:=(jE (X:=X.at ρ) (V:=[]) Tryz.f10 L.tmps).run Y (A.at d) #[] b5 (λr hr=>by simp at hr)
  (λj hj=>by
   rw[M ρ]at hj;have e:(Ya ((results Tryz.f10 (L.tmps.map (Zt (X.at ρ).ρ))).run Tryz.prog (A.at d))).drawn=(A.at d).drawn:=Zez World.drawn a5;omega)
  (λj hj=>by
   rw[M ρ]at hj;have e:(Ya ((results Tryz.f10 (L.tmps.map (Zt (X.at ρ).ρ))).run Tryz.prog (A.at d))).heap.size=(A.at d).heap.size:=Zez (λw=>w.heap.size) a5;omega)
 have c0:(results Tryz.f10 L.tmps).run (X.at ρ).Q Y=.ok v Y:=hv;rw[c0,M ρ]at F;obtain⟨b,b8,e6,I,d5,f0⟩:=F
 have Z:(results Tryz.f10 (L.tmps.map (Zt ρ))).run Tryz.prog (A.at d)=.ok b b8:=by
  have:=Zez Prod.fst I;rw[Zfm]at this;exact this
 have e4:b8=A.at d:=by
  have:=a5;rw[Z]at this;exact this
 subst e4;have a7:b=Zt ρ v:=d5;refine⟨b,by rw[u];exact Z,?_⟩;rw[a7];refine(Z5w (M1 b5 e3 (GC _).m) (GC _)).mono λb' a8=> ?_;obtain⟨⟨z,hz,rfl⟩,e1⟩:=a8;refine⟨?_,e1⟩;by_cases b6:z<n0
 ·have e:(X.at ρ).ρ z=z:=hid z b6
  grind
 ·obtain hz|hz:=hz
  ·grind
  ·right;have:=T.new z (Nat.le_of_not_lt b6) hz.2;omega
def Yr(h:Hp)(p:Nat)(o:Ob):Fo:=⟨o,(ZW (Zv h) ((p:Int)+1) o.at_).1,((Zu h p).drop (o.at_+1).toNat).take o.size.toNat⟩
def Xm(h:Hp):Nat->Nat->List Fo
 |0,_=>[]
 |n+1,p=>(obP h p).map (Yr h p)++Xm h n (p+1)
def UW(h:Hp)(x:Zh):Nat->Nat->List (Fo×Value)
 |0,_=>[]
 |n+1,p=>(obP h p).map (λo=>(Yr h p o,U8 h x p o))++UW h x n (p+1)
def jk(h:Hp)(x:Zh):∀(n p:Nat),(UW h x n p).map (·.1)=Xm h n p
 |0,p=>rfl
 |n+1,p=>by simp_all[UW,Xm,ZeL,ZfM,jk]
def EJ(h:Hp)(x:Zh):∀(n p:Nat),(UW h x n p).map (·.2)=Wi h x n p
 |0,p=>rfl
 |n+1,p=>by simp_all[UW,Wi,ZeL,ZfM,EJ]
def EI{h:Hp}{x:Zh}{y:Fo×Value}:∀ {n p:Nat},y∈UW h x n p->∃q o,q<p+n/\o∈obP h q/\y=(Yr h q o,U8 h x q o)
 |0,p,a=>by simp[UW]at a
 |n+1,p,a=>by
  simp only[UW,ZdL,ZdB]at a;obtain⟨o,f,rfl⟩|a:=a
  ·exact⟨p,o,Z0,f,rfl⟩
  ·obtain⟨q,o,g,d⟩:=EI a;exact⟨q,o,Z0,d⟩
def Yo(h:Hp):Vw:=(Xm h 4 0).foldl Vw.put ⟨[],[],[]⟩
def QL(h:Hp):V:=if Xo h=true then WT ((Yo h).gr h.roots)else .tup [Ym TL,vi 1]
structure OfOk (h:Hp):Prop where
 ob:∀p,p<4->(obP h p).length<=1000000/\∀o∈obP h p,0<=o.at_/\0<=o.size/\o.at_+1+o.size<=(Zu h p).length
 n:(Xm h 4 0).length<=4000000
 sm:(Yo h).sm h.roots
def Z5z{w:Z3}{K:Z6}{l:Ze}{v:Z7}(h:Rd w K (.sl (l.map vu)) v){d n:Nat}(p:0<l.length)(J:d+n<=l.length):Rd w K (.sl (((l.drop d).take n).map vu)) (SO v d n):=by
 generalize j:l.map vu=L at h;have q:L.length=l.length:=by rw[<-j,Ze9]
 cases h with
 |nil a cap I=>simp_all
 |sl _ b o cap k vs D F r t H u=>
  have z:k=1:=by
   have B:vu (l[0]'p)∈L:=by rw[<-j];exact ZfZ (ZdA p)
   have:=(t _ B).1;simpa[vu,V.cells]using this.symm
  subst z;unfold SO;dsimp only;have A:(((l.drop d).take n).map vu).length=n:=Zcr;by_cases C:n=0
  ·subst C;simp only[Zhw,Zf8];exact .nil _ _ Z0
  ·rw[if_neg Z0]
   have:=Rd.sl (w:=w) (G:=K) (((l.drop d).take n).map vu) b (o+d) (cap-d) 1 (λi=>vs (d+i)) Z0 Z0 r (λx g=>Zcp)
    (λi f=>Zcp)
    (λi c f=>by
     rw[VR λx g=>by obtain⟨y,_,rfl⟩:=ZdB.1 g;rfl,ZdJ,ZdY]at f;split at f
     ·rw[ZdW]at f;exact u (d+i) c (by rw[<-j,VR λx g=>by obtain⟨y,_,rfl⟩:=ZdB.1 g;rfl,ZdJ];exact f)
     ·cases f)
   simp_all
def Z3F(f:Fo):NoM (Xd f):=.agg _ λc a=>by
 simp only[ZdG,ZeG,Zgb]at a;obtain rfl|rfl|rfl|rfl|rfl|rfl|rfl:=a
 all_goals first|exact .int _ _|exact .bool _|exact QI _
def Z11{w:Z3}{K:Z6}{h:Hp}{x:Zh}(d:OfOk h)(g:∀j,j<5->Rd w K (.sl ((Zu h j).map vu)) (x j)):∀y∈UW h x 4 0,Rd w K (Xd y.1) y.2/\NoM (Xd y.1):=by
 intro y k;obtain⟨q,o,r,f,rfl⟩:=EI k;refine⟨?_,Z3F _⟩;obtain⟨l,n,p⟩:=(d.ob q Z0).2 o f;refine .agg _ _ rfl Z1 λi c a=> ?_
 match i,a with
 |0,a=>cases a;exact .int _ _
 |1,a=>cases a;exact .int _ _
 |2,a=>cases a;exact .int _ _
 |3,a=>cases a;exact .bool _
 |4,a=>cases a;exact .int _ _
 |5,a=>cases a;exact .int _ _
 |6,a=>cases a;exact Z5z (g q Z0) Z0 Z0
noncomputable def cB:Ctx:= {P:=YK Tryz.prog,ix:=(vf (YK Tryz.prog)).ix,own:=λ_=>false,fresh,sig:=BV,tr:=[3],n:=82}
def DC{P:Z4}:∀ {c:Code},UQ P c=true->To (Lg.fit (YK P)) c:=by
 intro c
 induction c with
 |region id j d=>exactλh o g=>(Zfk.1 h) o g
 |seq x y a f=>intro h;simp only[UQ,Zdn]at h;exact⟨a h.1,f h.2⟩
 |cond c x y a f=>intro h;simp only[UQ,Zdn]at h;exact⟨a h.1,f h.2⟩
 |block id x a=>exact a
 |loop x a=>exact a
 |scope x a=>exact a
 |_=>intro h;first|trivial|cases h
def EC:(YK Tryz.prog).follows .mixedOrders=true:=Z2
def GM{code:Code}{S:SS}{st:Stm}{fl:Flow}{B:Nat}{G Kf:Z6}{s:St}{a:Act}{w w0:Z3}{T0:Za}{N:St->Prop}{X:Nat->St->Prop}{Rt:St->Prop}(f:UQ Tryz.prog code=true)(hc:comp (vf (YK Tryz.prog)) code S=some (st,fl))(j:RelS Kf [4,23] T0 cB B G w0 82 s a w S)(k:Yu (YK Tryz.prog) st s N X Rt):
  UJ Tryz.prog code (Post Kf [4,23] T0 cB B G w0 82 fl N X Rt) a w:=
 letI:Lg (vf (YK Tryz.prog)).P:=besI Tryz.prog
 qO (fc:=vf (YK Tryz.prog)) EC (λp g q h d=>Bj (ZeI _ g) (ZeI _ h) d) rfl rfl rfl (Zdp _) code (DC f) hc j k
def Z3Z:Tryz.f10.body=some ofC:=Z2
def Z40:ofC=.seq (Yp ofC [0]) (.seq (Yp ofC [1,0]) (.seq (Yp ofC [1,1,0]) (.seq (Yp ofC [1,1,1,0]) (Yp ofC [1,1,1,1])))):=Z2
noncomputable def ops3:Array Oper:=Ka (Yp ofC [1,1,0])
def Z5m:Yp ofC [1,1,0]=.region 3 ops3 false:=Z2
def Z5n:Yp ofC [1,1,1,0]=.region 4 ops4 false:=Z2
def Z4a:∃o,ops3[0]?=some o/\o.guard=none/\o.dst=some 18/\o.op=.makeChan 60 (.const (.int .i64 0)):=⟨_,rfl,rfl,rfl,rfl⟩
def Z4b:∃o,ops3[1]?=some o/\o.guard=none/\o.dst=some 4/\o.op=.assign (.tmp 18):=⟨_,rfl,rfl,rfl,rfl⟩
def Z4c:∃o,ops4[0]?=some o/\o.guard=none/\o.dst=some 19/\o.op=.load 25 (.tmp 1):=⟨_,rfl,rfl,rfl,rfl⟩
def Z4d:∃o,ops4[1]?=some o/\o.guard=none/\o.dst=some 20/\o.op=.move (.tmp 4):=⟨_,rfl,rfl,rfl,rfl⟩
def Z4e:∃o a,ops4[2]?=some o/\o.guard=none/\o.dst=none/\o.op=.go ⟨.value (.func 27), #[.tmp 19,.tmp 20],a⟩:=⟨_,_,rfl,rfl,rfl,rfl⟩
def GW:ops3.size=2/\ops4.size=3:=⟨rfl,rfl⟩
def Z0k:∃d inf,Tryz.prog.underlying 60=some (.chan d 70)/\Tryz.prog.info? 70=some inf:=⟨_,_,rfl,rfl⟩
def P0{B:Nat}{w w':Z3}(h:Below B w w')(d:Nat):Below B w (w'.at d):=⟨h.os,h.tape,h.output,h.size,h.block⟩
def Z1a{b:Zf}{k:Zi}{cs:Z5}{a:Act}{g:Z7}{c:Nat}(l:b.kind≠.early)(d:a.tmps[19]?=some g)(f:a.tmps[20]?=some (.chan (some c)))(w:Z3):
  stepG Tryz.prog true (G (b.at a (.inRegion ops4 [2]::k)) cs) w=.spawn (G (b.at a (.inRegion ops4 []::k)) cs) (born Tryz.prog {target:=.fn (.func 27) #[],args:=#[g,.chan (some c)]}) w #[]:=by
 obtain⟨o,j,n,p,q,r⟩:=Z4e;have t:=Act.eval_tmp a 19 _ d;have u:=Act.eval_tmp a 20 _ f
 have h:execOp a.eval o=(pure (.spawn {target:=.fn (.func 27) #[],args:=#[g,.chan (some c)]}):Sem Next):=by
  unfold execOp;simp only[r];simp[resolve,Deferred.ofValue,Act.eval,d,f]
 have:=stepG_spawn (P:=Tryz.prog) (main:=true) (b:=b) (a:=a) (k:=k) (cs:=cs) (w:=w) (i:=2) (rest:=[]) n (by simp[Region.wanted,p]) l (by rw[h];rfl) rfl;rw[q]at this;rw[this];unfold listed;rw[h];rfl
def Z42{h:Hp}{B:Nat}{G:Z6}{s:St}{a:Act}{w w0:Z3}{T0:Za}(Q:RelS G [4,23] T0 cB B G w0 82 s a w IY)(q1:get s 1=.m [vu h.base,vi h.cap,vi h.to,.bool h.cycle,vi h.scan,.sl (h.low.map vu),.sl (h.high.map vu),.sl (h.old.map vu),.sl (h.far.map vu),.sl (h.roots.map vu)])(q3:get s 3=.v (vi 0)):
  ∃(F:Z6) (k l:Nat) (r t:Z8) (x:Zh),(∀b,F b->G b\/B<=b)/\¬F k/\¬F l/\B<=k/\B<=l/\k≠l/\B<=w.heap.size/\a.tmps[1]?=some (.pointer (some ⟨k,0,none⟩))/\a.tmps[2]?=some (.pointer (some ⟨l,0,none⟩))/\a.tmps[3]?=some (.int .i64 0)/\
   w.heap[k]?=some (.cells #[.int .u64 h.base,.int .i64 h.cap,.int .i64 h.to,.bool h.cycle,.int .i64 h.scan,x 0,x 1,x 2,x 3,x 4] r (0,0))/\w.heap[l]?=some (.cells #[.slice none 0 0,.slice none 0 0] t (0,0))/\
   (∀j,j<5->Rd w F (.sl ((Zu h j).map vu)) (x j)):=by
 obtain⟨⟨u,k1,k2⟩,k3,k4,k5,k6⟩:=Q;have T:cB.ix 1=1:=Zcs;have U:cB.ix 3=3:=Zcs;obtain⟨u1,t1,k,d,r,N,rfl,f3,I⟩:=k1.at_ 1 (by rw[Yy];exact Vy _) Zdf;obtain⟨u2,t2,l,f,t,g1,rfl,g3,J⟩:=k1.at_ 2 (by rw[Yy];exact Vy _) Zdf;obtain⟨u3,t3,A⟩:=k1.at_ 3 (by rw[Yy];exact Vy _) Zdf;obtain⟨y3,o,C⟩:∃y,eval s (.s (cB.ix 3))=some y/\Rd w (u.ext []) y u3:=A;rw[U]at o;simp only[eval,q3,Zdj]at o;subst o;have K:=TT C;subst K;have R:d.size=10:=I.1;have S:f.size=2:=J.1
 have g:∀(i:Nat) (y:V),[vu h.base,vi h.cap,vi h.to,.bool h.cycle,vi h.scan,.sl (h.low.map vu),.sl (h.high.map vu),.sl (h.old.map vu),.sl (h.far.map vu),.sl (h.roots.map vu)][i]?=some y->Rd w u.F y (d.getD i undef):=λi y n=>by
  have p:i<10:=(Zdl.1 n).1
  have:=I.2 i (.fz,.m (cB.ix 1) i) (by
   match i,p with
   |0,_=>rfl
   |1,_=>rfl
   |2,_=>rfl
   |3,_=>rfl
   |4,_=>rfl
   |5,_=>rfl
   |6,_=>rfl
   |7,_=>rfl
   |8,_=>rfl
   |9,_=>rfl
   |i+10,h=>omega)
  obtain⟨z,H,z2,z3⟩:=this;rw[T]at H;simp only[eval,q1,n,Zdt]at H;obtain⟨rfl,_⟩:=TO H;exact z3
 have P:∀i,i<2->f.getD i undef=.slice none 0 0:=λi n=>by
  have:=J.2 i (.nil,.m (cB.ix 2) i) (by
   grind)
  exact this.1
 have L:d=#[.int .u64 h.base,.int .i64 h.cap,.int .i64 h.to,.bool h.cycle,.int .i64 h.scan,d.getD 5 undef,d.getD 6 undef,d.getD 7 undef,d.getD 8 undef,d.getD 9 undef]:=by
  refine ZgX Z0 λi q D=> ?_;have n:i<10:=by simpa using D
  have e:d[i]=d.getD i undef:=by simp[Array.getD,q]
  rw[e]
  match i,n with
  |0,_=>exact TT (g 0 _ rfl)
  |1,_=>exact TT (g 1 _ rfl)
  |2,_=>exact TT (g 2 _ rfl)
  |3,_=>exact M0 (g 3 _ rfl)
  |4,_=>exact TT (g 4 _ rfl)
  |5,_=>rfl
  |6,_=>rfl
  |7,_=>rfl
  |8,_=>rfl
  |9,_=>rfl
  |i+10,h=>omega
 have M:f=#[.slice none 0 0,.slice none 0 0]:=by
  refine ZgX Z0 λi q D=> ?_;have n:i<2:=by simpa using D
  have e:f[i]=f.getD i undef:=by simp[Array.getD,q]
  rw[e,P i n]
  match i,n with
  |0,_=>rfl
  |1,_=>rfl
  |i+2,h=>omega
 obtain⟨W,m2,X⟩:=k1.ok.b_lt 1 0 k N;obtain⟨Y,n2,Z⟩:=k1.ok.b_lt 2 0 l g1;refine⟨u.F,k,l,r,t,λj=>d.getD (5+j) undef,k1.ok.f_or,X,Z,W,Y,λe=> ?_,k1.ok.base,t1,t2,t3,Zcp,Zcp,λj O=> ?_⟩
 ·grind
 ·match j,O with
  |0,_=>exact g 5 _ rfl
  |1,_=>exact g 6 _ rfl
  |2,_=>exact g 7 _ rfl
  |3,_=>exact g 8 _ rfl
  |4,_=>exact g 9 _ rfl
  |j+5,h=>omega
def CU{h:Hp}(hh:h.ok)(hk:Xo h=true->OfOk h):VC (YK Tryz.prog) 10 false [ZD h] (QL h):=by
 refine⟨Z2,λw G vs hG h0 g7 q C hK=> ?_⟩;have S:VC (YK Tryz.prog) 19 false [ZD h] (.bool (Xo h)):=FR Sol.sub (CL hh) (λy hy=>by rw[Zes.1 hy];exact SA h) (.bool _);have d8:vs.size=1:=h0;have h4:Rd w G (ZD h) (vs.getD 0 undef):=g7 0 _ rfl
 have U:Frame.enter Tryz.prog 10 vs .normal=(base 10).at {tmps:=vs++Array.replicate (82-vs.size) undef,defers:=[]} [.code ofC]:=by
  rw[enter_at vs Tryz.func10 Z3Z,Tryz.ntmps10]
 show Walk Tryz.prog C (Frame.enter Tryz.prog 10 vs .normal) q w;rw[U,Z40];clear U;have i0:cB.ix 0=0:=Zcs;generalize Y:({tmps:=vs++Array.replicate (82-vs.size) undef,defers:=[]}:Act)=a0
 have t0:a0.tmps[0]?=some (vs.getD 0 undef):=by
  rw[<-Y];simp only;rw[Zfg Z0];simp[Zdo,d8]
 have g6:RelS G [4,23] a0.tmps cB w.heap.size G w 82 [.v (ZD h)] a0 w yh:=by
  refine⟨⟨{F:=G,bl:=λ_ _=>none,K:=G},⟨⟨Zdp _,hG,λb a=>.inl a,λb a=>a,λt i b a=>(by cases a),λt i u j b a=>(by cases a),hG,λt i b a=>(by cases a),λb a=>.inl a⟩,λt _ hk=> ?_,λt hh=> ?_⟩,rfl⟩,λp B=> ?_,.refl _ _,by rw[<-Y];simp[d8],by rw[<-Y]⟩
  ·rw[Yy]at hk⊢;by_cases e:t=0
   ·subst e;exact⟨_,t0,ZD h,by rw[i0];rfl,h4.mono λb a=>.inl a⟩
   ·simp[yh,SS.at,Zfu e,TK.isNo]at hk
  ·refine absurd ?_ hh;rw[Yy];split<;>exact Vy _
  ·simp only[yh,SS.at]at B;split at B<;>cases B
 refine .two (GM Z2 r0c g6 (N:=λW=>get W 1=.m [vu h.base,vi h.cap,vi h.to,.bool h.cycle,vi h.scan,.sl (h.low.map vu),.sl (h.high.map vu),.sl (h.old.map vu),.sl (h.far.map vu),.sl (h.roots.map vu)]/\get W 2=.m [.sl [],.sl []]/\get W 3=.v (vi 0)) (X:=λ_ _=>False) (Rt:=λ_=>False) (by simp[r0]) (base 10) _ q C (by simp[base]) λe a1 w1 B=> ?_);cases e with
 |exit id=>obtain⟨_,_,_,h,_⟩:=B;exact h.elim
 |ret=>obtain⟨_,_,_,h,_⟩:=B;exact h.elim
 |normal=>
  obtain⟨s1,S1,f7,⟨q1,q2,q3⟩,d6⟩:=B;cases f7;have b4:Below w.heap.size w w1:=d6.2.2.1.below;refine .two (GM Z2 rXc d6.base (N:=λW=>Xo h=true/\get W 1=get s1 1/\get W 3=get s1 3) (X:=λ_ _=>False) (Rt:=λW=>Xo h=false/\Wc W [(2,.ag 2),(3,.v)]=some (.tup [Ym TL,vi 1])) ?_ (base 10) _ q C (by simp[base]) λe a2 w2 B=> ?_)
  ·simp[rX,q1];refine Zw S Z1 ?_;cases i5:Xo h
   ·simp[YY,Wc,VF,UE,TL,Ym]
   ·simp[YY,q1]
  ·cases e with
   |exit id=>obtain⟨_,_,_,h,_⟩:=B;exact h.elim
   |ret=>
    obtain⟨s2,S2,I,⟨e1,e2⟩,l⟩:=B;have I:S2=Br:=by simpa using I
    subst I;have Z:Below w.heap.size w w2:=b4.trans l.2.2.1.below;intro i2;refine hK _ w2 rfl ⟨rfl,l.2.2.2.2,rfl,_,Tryz.func10,λd=> ?_⟩;obtain⟨⟨h2,k1,k2⟩,k3,k4,k5,k6⟩:=l.sim d
    obtain⟨v,hv,a7⟩:=Ky (c:=cB) (f:=Tryz.f10) (D:=λb=>(false=false/\G b)\/(w.heap.size<=b/\b< (w2.at d).heap.size)) k1 k3 (λb a=>by
     obtain O|O:=k1.ok.f_or b a
     ·exact .inl ⟨rfl,O⟩
     ·exact .inr ⟨O,k1.ok.f_lt b a⟩) (λr hr=>⟨Zdu.1 (Z2:(Tryz.f10.results.toList.all (SD (YK Tryz.prog) Br))=true) r hr,λi b a=>.inr ⟨(k1.ok.b_lt _ _ b a).1,(k1.ok.b_lt _ _ b a).2.1⟩⟩) (x:=.tup [Ym TL,vi 1]) (by rw[<-e2];exact Zez (Wc s2) Z2)
    refine⟨v,hv,v,rfl,P0 Z d,?_⟩;unfold QL;rw[if_neg (by rw[e1];simp)];exact a7
   |normal=>
    obtain⟨s2,S2,I,⟨e1,e2,e3⟩,l⟩:=B;cases I;have Z:Below w.heap.size w w2:=b4.trans l.2.2.1.below;have R:=hk e1;obtain⟨F,M,b2,T1,T2,x,hF,h5,h6,f5,f6,f4,i3,t1,t2,t3,e0,e4,g8⟩:=Z42 (h:=h) l (e2.trans q1) (e3.trans q3);have d9:a2.tmps.size=82:=l.2.2.2.1;have f9:a2.defers=[]:=l.2.2.2.2;have l1:=(Zdq.1 e0).1;have l2:=(Zdq.1 e4).1;obtain⟨o,o1,o2,o3,o4⟩:=Z4a;obtain⟨o',p1,p2,p3,p4⟩:=Z4b;obtain⟨dir,inf,h3,c0⟩:=Z0k;refine .two ?_;rw[Z5m];refine .region ?_;rw[GW.1,show List.range 2=[0,1]from rfl];refine Walk.chan (i:=0) o1 (by simp[Region.wanted,o2]) (by simp[base]) o4 h3 c0 ?_;rw[o3];generalize hc:w2.heap.size=c;obtain⟨w3,J⟩:∃w3,w3=w2.alloc (.chan 0 #[] false 0 0 false):=⟨_,rfl⟩;rw[<-J];have b0:((a2.put (some 18) (.chan (some c))).eval (.tmp 18))=.chan (some c):=Act.eval_tmp _ 18 _ (R2 Z0);refine Walk.val (i:=1) (v:=.chan (some c)) p1 (by simp[Region.wanted,p2]) (by simp[base]) (by rw[p4];rfl) (λw' _=>by unfold execOp;simp only[p4,b0];rfl) (.regEnd ?_);rw[p3];have z3:w3.heap.size=c+1:=by rw[J,<-hc];simp
    have b5:w3.heap[c]?=some (.chan 0 #[] false 0 0 false):=by rw[J,<-hc];exact ZdO ..
    have Q:∀b,b<c->w3.heap[b]?=w2.heap[b]? :=λb a=>by rw[J];exact Zds _ _ _ Z0
    have A:Below w.heap.size w w3:=by rw[J];exact Z.alloc Z0 _
    have m1:w3.heap[M]?=_:=(Q M Z0).trans e0;have m2:w3.heap[b2]?=_:=(Q b2 Z0).trans e4;obtain⟨o0,e6,e7,e8,a8⟩:=Z4c;obtain⟨o9,e9,f0,f1,a9⟩:=Z4d;refine .two ?_;rw[Z5n];refine .region ?_;rw[GW.2,show List.range 3=[0,1,2]from rfl];generalize z:(a2.put (some 18) (.chan (some c))).put (some 4) (.chan (some c))=a3;have g1:a3.tmps[1]?=some (.pointer (some ⟨M,0,none⟩)):=by rw[<-z,Ww Z0,Ww Z0];exact t1
    have g4:a3.tmps[4]?=some (.chan (some c)):=by rw[<-z];exact R2 (by rw[Sc];omega)
    have gs:a3.tmps.size=82:=by rw[<-z,Sc,Sc];exact d9
    have f2:a3.eval (.tmp 1)=.pointer (some ⟨M,0,none⟩):=Act.eval_tmp _ 1 _ g1;refine Walk.val (i:=0) (v:=Y1 h x) e6 (by simp[Region.wanted,e7]) (by simp[base]) (by rw[a8];rfl) (λw' he=> ?_) ?_
    ·have hl:=yD (P:=Tryz.prog) (w:=w') (T:=25) Z2 Z2 (b:=M) (o:=0) [.int .u64 h.base,.int .i64 h.cap,.int .i64 h.to,.bool h.cycle,.int .i64 h.scan,x 0,x 1,x 2,x 3,x 4] Z2 (λi u hi=>by
      rw[Ze7,ZdE w' M i _ T1 (0,0) (by rw[he];exact m1)];simpa using hi)
     unfold execOp;simp only[a8,f2];rw[ZdX,hl];rfl
    rw[e8];have f3:(a3.put (some 19) (Y1 h x)).eval (.tmp 4)=.chan (some c):=Act.eval_tmp _ 4 _ (by rw[Ww Z0];exact g4);refine Walk.val (i:=1) (v:=.chan (some c)) e9 (by simp[Region.wanted,f0]) (by simp[base]) (by rw[a9];rfl) (λw' _=>by unfold execOp;simp only[a9,f3];rfl) ?_;rw[f1];generalize k:(a3.put (some 19) (Y1 h x)).put (some 20) (.chan (some c))=L;have u1:L.tmps[1]?=some (.pointer (some ⟨M,0,none⟩)):=by rw[<-k,Ww Z0,Ww Z0];exact g1
    have u4:L.tmps[4]?=some (.chan (some c)):=by rw[<-k,Ww Z0,Ww Z0];exact g4
    have us:L.tmps.size=82:=by rw[<-k,Sc,Sc];exact gs
    have u2:L.tmps[2]?=some (.pointer (some ⟨b2,0,none⟩)):=by rw[<-k,Ww Z0,Ww Z0,<-z,Ww Z0,Ww Z0];exact t2
    have u3:L.tmps[3]?=some (.int .i64 0):=by rw[<-k,Ww Z0,Ww Z0,<-z,Ww Z0,Ww Z0];exact t3
    have h9:L.tmps[19]?=some (Y1 h x):=by rw[<-k,Ww Z0];exact R2 Z0
    have i1:L.tmps[20]?=some (.chan (some c)):=by rw[<-k];exact R2 (by rw[Sc];omega)
    have ud:L.defers=[]:=by rw[<-k,<-z];exact f9
    let K:Nat->Prop:=λb=>F b/\∃q e H,w3.heap[b]?=some (.cells q e H)
    have a4:∀j,j<5->Rd w3 K (.sl ((Zu h j).map vu)) (x j):=λj hj=>by
     have O:=Z5y (g8 j hj) (GF _);refine O.keep (λb a=>Q b ?_) λb a=>⟨a.1,?_⟩
     ·obtain⟨_,q,e,H,a⟩:=a;have:=(Zdq.1 a).1;omega
     ·obtain⟨_,q,e,H,a⟩:=a;exact⟨q,e,H,by rw[Q b (by have:=(Zdq.1 a).1;omega)];exact a⟩
    obtain⟨n0,d0,b9,b8⟩:=Et w3 (L.tmps++ #[x 0,x 1,x 2,x 3,x 4])
    have hx:∀j,j<5->FixV n0 (x j):=λj hj=>by
     refine b9 _ (ZeT.2 (.inr ?_))
     match j,hj with
     |0,_=>simp
     |1,_=>simp
     |2,_=>simp
     |3,_=>simp
     |4,_=>simp
     |j+5,h=>omega
    have b6:c<n0:=Z0;have h7:¬K M:=λh=>h5 h.1;have h8:¬K b2:=λh=>h6 h.1;have b3:∀b,K b->b<w3.heap.size:=λb ⟨_,_,_,_,a⟩=>(Zdq.1 a).1;have e5:¬K c:=λ⟨_,_,_,_,a⟩=>by rw[b5]at a;cases a
    refine Walk.meet (KA:=K) (KB:=K) (OA0:=λb=>b=M\/b=b2) (c:=c) (λw=>Z1a (by simp[base]) h9 i1 w)
     (Z38 (fs:=UW h x 4 0) (fin:=Yo h) hh us ud u1 u2 u3 u4 m1 m2 Z0 f5 f6 f4 h7 h8 d0 b6 (λb a=>a.2) (λb q e H a=>b8 b q e H a) (λv hv=>b9 v (ZeT.2 (.inl hv))) hx a4 (Z11 R a4) (EJ h x 4 0) (by
      have:=R.n;rw[<-jk h x 4 0,Ze9]at this;exact this) (by rw[jk];rfl) R.sm)
     (Z0l hh d0 b6 (λb a=>a.2) (λb o ho a=>by
      obtain⟨_,q,e,H,he⟩:=a;rw[ho]at he;cases he;exact b8 b q e H ho) hx a4 R.ob) b5 (λb a=>by obtain rfl|rfl:=a<;>omega) b3 b3 (λb a=>by obtain rfl|rfl:=a<;>assumption) (λa=>by obtain a|a:=a<;>omega) e5 e5 ?_
    rintro OA g w' ⟨H,rfl,b7,hm,hd,g5,d7⟩ g9 a6 d5 i4 g3;refine⟨H,q,rfl,hK H w' b7 ⟨hm,hd,g5,_,by rw[b7];exact Tryz.func10,λd=> ?_⟩⟩;obtain⟨v,hv,a7⟩:=d7 d;refine⟨v,hv,v,rfl,⟨(Zez Prod.fst d5).trans A.os,a6.trans A.tape,(Zez Prod.snd d5).trans A.output,ZdP A.size g9,λb a=>(g3 b (by have:=A.size;omega) (λf8=>by obtain rfl|rfl:=f8<;>omega) Z0).trans (A.block b a)⟩,?_⟩;unfold QL;rw[if_pos e1];refine a7.mono λb a=> ?_;obtain⟨a,c1⟩:=a;obtain a|a:=a
    ·obtain O|O:=hF b a.1
     ·exact .inl ⟨rfl,O⟩
     ·exact .inr ⟨O,c1⟩
    ·exact .inr ⟨a,c1⟩
   |_=>exact B.elim
 |_=>exact B.elim
#print axioms CU
end Vm
end
section
namespace Vm
open Go Go.Proofs
def VU(l:Zm):List (Int×Int):=(l.filter λo=>o.gone).map λo=>(o.size,o.ptrs)
def NG{ws:Ze}{shs:List (Int×Int)}{old:Bool}:∀(l:Zm) (f a k:Nat) (g:Zm),Tiles ws old a l->ws.length<f+a->0<f->shs.drop k=VU l->Xc ws shs old f a k g=(g++l,0)
 | [],f,a,k,g,D,K,I,B=>by
   obtain⟨f,rfl⟩:∃C,f=C+1:=⟨f-1,Z0⟩;have:ws.length<=a:=D;have r:shs.length<=k:=List.drop_eq_nil_iff.1 B;rw[Xc,Zeq this];simp only;rw[if_neg Z0,ZeS]
 |o::l,f,a,k,g,D,K,I,B=>by
  obtain⟨f,rfl⟩:∃C,f=C+1:=⟨f-1,Z0⟩;obtain⟨t,r,J⟩:=D;obtain⟨w,F,j⟩:=r.word;have M:=Yf.1 r.shape;have u:=r.fits;have q:=r.slots;rw[t]at F u q;simp only[ZdF]at F q
  have z:∀d:Nat,shs.drop d=VU l->Xc ws shs old f (a+1+o.size.toNat) d (g++[o])=(g++o::l,0):=λd p=>by
   rw[NG l f _ d _ J Z0 Z0 p];simp
  have y:∃d,XU shs old a k w=some (o,d)/\shs.drop d=VU l:=by
   unfold XU;cases n:o.gone
   ·rw[n]at j;simp only[Zdy,Ze1]at j;rw[if_neg (λh=>j.1 h.1 h.2),j.2.1];refine⟨k,?_,?_⟩
    ·simp only[Ze3];obtain⟨N,P,op,O,Q⟩:=o;simp only at n t j⊢;rw[n,t,j.2.2]
    ·rw[B];simp[VU,n]
   ·rw[n]at j;simp only[Ze3]at j;rw[if_pos ⟨j.1,j.2.1⟩];have A:shs.drop k=(o.size,o.ptrs)::VU l:=by rw[B];simp[VU,n]
    have x:k<shs.length:=by
     have:=Zez List.length A;simp at this;omega
    rw[Zef x]at A;have G:=(List.cons.inj A).1;have H:=(List.cons.inj A).2;rw[Zdk x,G];simp only[r.shape,Ze3];refine⟨k+1,?_,H⟩;obtain⟨N,P,op,O,Q⟩:=o;simp only at n t j⊢;rw[n,t,j.2.2]
  obtain⟨d,L,p⟩:=y;rw[Xc,F];simp only;rw[L];simp only;rw[if_neg Z0,if_neg (by rw[q];simp)];exact z d p
def qd{ws:Ze}{shs:List (Int×Int)}{old:Bool}{l:Zm}(d:Tiles ws old 0 l)(a:shs=VU l):ZL ws shs old=(l,0):=by
 unfold ZL;rw[NG l (ws.length+1) 0 0 [] d Z0 Z0 (by simpa using a),Zej]
def Q6(h:Hp)(low l:Zm):Prop:=∀o∈l,o.gone=true->∃q,Yg h 1 low o.target=some q/\q.size=o.size/\q.ptrs=o.ptrs
def yO{h:Hp}{ws:Ze}{low:Zm}:∀(l:Zm) (f i:Nat) (a:List (Int×Int)),Tiles ws true i l->ws.length<f+i->0<f->Q6 h low l->XX h ws low f i a=some (a++VU l)
 | [],f,i,a,u,D,B,r=>by
   obtain⟨f,rfl⟩:∃n,f=n+1:=⟨f-1,Z0⟩;have:ws.length<=i:=u;rw[XX,Zeq this];simp[VU]
 |o::l,f,i,a,u,D,B,r=>by
  obtain⟨f,rfl⟩:∃n,f=n+1:=⟨f-1,Z0⟩;obtain⟨C,p,y⟩:=u;obtain⟨w,x,g⟩:=p.word;have F:=Yf.1 p.shape;have j:=p.fits;rw[C]at x j;simp only[ZdF]at x;have k:Q6 h low l:=λq t=>r q (ZdV _ t);rw[XX,x];simp only;cases d:o.gone
  ·rw[d]at g;simp only[Zdy,Ze1,true_implies]at g;rw[if_neg g.1,g.2.1];simp only[Ze3];rw[yO l f _ a y Z0 Z0 k];simp[VU,d]
  ·rw[d]at g;simp only[Ze3,true_and]at g;rw[if_pos g.1];obtain⟨q,t,z,A⟩:=r o (.head _) d;rw[<-g.2,t];simp only;rw[z,A,yO l f _ _ y Z0 Z0 k];simp[VU,d]
def It{h:Hp}{p:Pts}(d:Tiles h.low false 0 p.low)(h2:Tiles h.high false 0 p.high)(f:Tiles h.old true 0 p.old)(g:Tiles h.far true 0 p.far)(q:Q6 h p.low p.old)(r:Q6 h p.low p.far):X9 h=some p:=by
 have k:∀ {n:Ze} {a:Nat} {l:Zm},Tiles n false a l->VU l=[]:=λ{n a l} x=>by
  unfold VU;rw[List.map_eq_nil_iff,Zhd];intro o u t;obtain⟨w,_,j⟩:=(x.stands o u).1.word;rw[if_pos t]at j;cases j.1
 unfold X9;rw[qd d (k d).symm,qd h2 (k h2).symm];unfold XY;simp only[ne_eq,Zh4,or_self,Ze1];rw[yO p.old _ 0 [] f Z0 Z0 q,yO p.far _ 0 [] g Z0 Z0 r];simp only[Zej,ZdN];rw[qd f rfl,qd g rfl];simp
def Mp{h:Hp}{p:Pts}(a:Wj h=true)(d:X9 h=some p)(f:Th h p=true):Xo h=true:=by
 unfold Xo;rw[a,d];simpa using f
def Dr{h:Hp}{k:Int}{l:Zm}{o:Ob}(a:o∈l)(f:∀q∈l,Yz h k q.at_=Yz h k o.at_->q=o):Yg h k l (Yz h k o.at_)=some o:=by
 unfold Yg
 induction l with
 |nil=>simp at a
 |cons x l j=>
  rw[ZgF];by_cases d:Yz h k x.at_=Yz h k o.at_
  ·rw[f x (.head _) d];simp
  ·have:(Yz h k x.at_==Yz h k o.at_)=false:=ZcI;rw[this];obtain rfl|a:=ZdG.1 a
   ·exact absurd rfl d
   ·exact j a λq g=>f q (ZdV _ g)
def qA{h:Hp}{k:Int}{l:Zm}{a:Int}:(Yg h k l a).isSome=true↔ ∃o∈l,Yz h k o.at_=a:=by
 unfold Yg;rw[List.find?_isSome];simp
section
structure Tld (h:Hp) (p:Pts):Prop where
 lay:ZJ (Zv h)=true
 tiles:∀k:Int,1<=k/\k<=4->Tiles (Zz h k) (decide (2<k)) 0 (p.at k)
def XN(h:Hp)(p:Pts)(w one two:Int):Prop:=w=0\/∃k o,(k=one\/k=two)/\o∈p.at k/\w=Yk (Zv h) k o.at_
def U3(h:Hp)(p:Pts)(k:Int)(i:Nat)(w:Int):Prop:=if 2<k then XN h p w 3 4 else if k=1/\h.scan<=i then XN h p w 1 2\/XN h p w 3 4 else XN h p w 1 2
section
variable {h:Hp}{p:Pts}
def Tld.ob(t:Tld h p){k:Int}(g:1<=k/\k<=4){o:Ob}(j:o∈p.at k):∃a n m:Nat,o.at_=a/\o.size=n/\o.ptrs=m/\a+(n+1)<=(Zz h k).length/\n<=255/\m<=n:=by
 have d:=((t.tiles k g).stands o j).1;have f:=Yf.1 d.shape;obtain⟨a,l⟩:=Zdz d.nat;obtain⟨n,r⟩:=Zdz f.1;obtain⟨m,q⟩:=Zdz f.2.2.1;have:=d.fits
 grind
def Tld.start(t:Tld h p){k:Int}(d:1<=k/\k<=4){o:Ob}(f:o∈p.at k):Yz h k o.at_=fstL (Zv h) k+o.at_:=by
 obtain⟨a,n,m,g,_,_,j,_⟩:=t.ob d f;unfold Yz;rw[Sb t.lay d (by grind [UG])]
def Tld.same_at(t:Tld h p){k:Int}(d:1<=k/\k<=4){o q:Ob}(f:o∈p.at k)(g:q∈p.at k)(e:q.at_=o.at_):q=o:=by
 rcases(t.tiles k d).apart q g o f with a|a|a
 ·exact a
 ·have:=Yf.1 ((t.tiles k d).stands q g).1.shape;omega
 ·have:=Yf.1 ((t.tiles k d).stands o f).1.shape;omega
def Tld.find(t:Tld h p){k:Int}(a:1<=k/\k<=4){o:Ob}(d:o∈p.at k):Yg h k (p.at k) (fstL (Zv h) k+o.at_)=some o:=by
 rw[<-t.start a d];refine Dr d λq f e=>t.same_at a d f ?_;rw[t.start a d,t.start a f]at e;omega
theorem Tld.inj(t:Tld h p){k j:Int}(d:1<=k/\k<=4)(f:1<=j/\j<=4){o q:Ob}(g:o∈p.at k)(l:q∈p.at j)(e:Yk (Zv h) k o.at_=Yk (Zv h) j q.at_):k=j/\o=q:=by
 obtain⟨a,n,m,x,_,_,z,_⟩:=t.ob d g;obtain⟨b,B,A,y,_,_,w,_⟩:=t.ob f l;obtain⟨r,u⟩:=Z5J t.lay d f (by grind [UG]) (by grind [UG]) e;subst r;exact⟨rfl,t.same_at d l g u⟩
theorem Tld.adr(t:Tld h p){k:Int}(d:1<=k/\k<=4){o:Ob}(f:o∈p.at k):adr (Yk (Zv h) k o.at_)=(fstL (Zv h) k+o.at_,0):=by
 obtain⟨a,n,m,g,_⟩:=t.ob d f;exact UN t.lay Z0
def Tld.at_iff(t:Tld h p){k:Int}(d:1<=k/\k<=4){w:Int}(f:(Vm.adr w).2=0):(Yg h k (p.at k) (Vm.adr w).1).isSome=true↔ ∃o∈p.at k,w=Yk (Zv h) k o.at_:=by
 rw[qA];constructor
 ·rintro⟨o,a,e⟩;rw[t.start d a]at e;exact⟨o,a,NO f e.symm⟩
 ·rintro⟨o,a,rfl⟩;exact⟨o,a,by rw[t.adr d a,t.start d a]⟩
def Tld.goes_iff(t:Tld h p){i j:Int}(g:1<=i/\i<=4)(l:1<=j/\j<=4){w:Int}:YE h p w i j=true↔XN h p w i j:=by
 unfold YE XN;by_cases d:w=0
 ·simp[d]
 by_cases a:(Vm.adr w).2=0
 ·simp only[d,a,ZgK,ZhC,ZfO,Zgt,ZdC,false_or,t.at_iff g a,t.at_iff l a];simp
 ·simp only[d,a,ZhC,Bool.false_and,Bool.or_self,Zdy,false_or,false_iff];rintro⟨k,o,n,q,rfl⟩;have f:1<=k/\k<=4:=by obtain rfl|rfl:=n<;>assumption
  exact a (by rw[t.adr f q])
def N1:∀ {l:Ze} {a:Int} {i:Nat},Xb l true a i=true->∀w∈l,w=0
 | [],_,_,_,w,d=>Zde
 |y::l,a,i,f,w,d=>by
  simp only[Xb,Zdn]at f;obtain rfl|d:=ZdG.1 d
  ·have g:=f.1;simp at g;exact g.1
  ·exact N1 f.2 w d
def Tld.slot(t:Tld h p){k:Int}(d:1<=k/\k<=4){o:Ob}(f:o∈p.at k){j:Nat}(x:(j:Int)<o.size):∃w,(Zz h k)[o.at_.toNat+1+j]?=some w/\(o.gone=true->w=0):=by
 obtain⟨a,n,m,l,u,z,y,_⟩:=t.ob d f;have r:a+1+j< (Zz h k).length:=Z0;refine⟨(Zz h k)[a+1+j],Zcq,λq=> ?_⟩;have g:=((t.tiles k d).stands o f).1.slots;rw[q]at g;refine N1 g _ ?_;rw[l,u,ZdF,ZdF];refine Zdr (i:=j) ?_;simp_all
end
structure Body (h:Hp) (p:Pts):Prop extends Tld h p where
 gone:∀k:Int,3<=k/\k<=4->∀o∈p.at k,o.gone=true->∃q∈p.low,o.target=fstL (Zv h) 1+q.at_/\q.size=o.size/\q.ptrs=o.ptrs
 ptr:∀k:Int,1<=k/\k<=4->∀o∈p.at k,o.gone=false->∀j:Nat,(j:Int)<o.ptrs->∀w,(Zz h k)[o.at_.toNat+1+j]?=some w->U3 h p k (o.at_.toNat+1+j) w
 room:(h.low.length:Int)+h.high.length+XT p<=h.cap
structure Rt (h:Hp) (p:Pts):Prop extends Body h p where
 nroots:h.roots.length<=16
 scan0:0<=h.scan
 scanL:h.scan<=h.low.length
 cyc:h.cycle=true->h.scan<h.low.length
 rest:h.cycle=false->h.scan=h.low.length/\h.old=[]/\h.far=[]
 once:h.cycle=true->∀o∈p.low,Vl p (fstL (Zv h) 1+o.at_)=1
 roots:∀w∈h.roots,XN h p w 1 2
section
variable {h:Hp}{p:Pts}
def CW(t:Tld h p){k:Int}{i:Nat}{w:Int}(a:(Zz h k)[i]?=some w):XI h p k i=true↔U3 h p k i w:=by
 unfold XI U3;simp only[a,ZdN];split
 ·exact t.goes_iff Z0 Z0
 split
 ·rw[ZdC,t.goes_iff Z0 Z0,t.goes_iff Z0 Z0]
 ·exact t.goes_iff Z0 Z0
theorem OD(k:Int)(i:Nat):U3 h p k i 0:=by
 unfold U3;split
 ·exact .inl rfl
 split
 ·exact .inl (.inl rfl)
 ·exact .inl rfl
def IO(t:Tld h p){k:Int}(g:1<=k/\k<=4):Xi h p k=true↔ ∀o∈p.at k,o.gone=false->∀j:Nat,(j:Int)<o.ptrs->∀w,(Zz h k)[o.at_.toNat+1+j]?=some w->U3 h p k (o.at_.toNat+1+j) w:=by
 unfold Xi T8;simp only[Zdu,Zft];constructor
 ·intro l o d _ j q w f;exact(CW t f).1 (l o d j Z0)
 ·intro l o d j q;obtain⟨a,n,m,r,y,x,u,_⟩:=t.ob g d;obtain⟨w,f,z⟩:=t.slot g d (j:=j) Z0;refine(CW t f).2 ?_
  grind [OD]
def RightH.tld(r:RightH h p):Tld h p:=⟨r.lay,λk a=>r.tiles a⟩
def RightH.rt(r:RightH h p):Rt h p:=by
 have t:=r.tld;have j:=r.num;have a:=r.ok;unfold Wj at j;unfold Th at a;simp only[Zdn,ZdH]at j a;obtain⟨⟨⟨⟨G,A⟩,B⟩,C⟩,H⟩:=j;obtain⟨⟨⟨⟨⟨⟨l,D⟩,I⟩,J⟩,K⟩,L⟩,F⟩:=a
 have f:∀k:Int,1<=k/\k<=4->Xi h p k=true:=λk d=>by
  have:k=1\/k=2\/k=3\/k=4:=Z0
  grind
 refine⟨⟨t,λk d o a y=> ?_,λk d=>(IO t d).1 (f k d),F⟩,A,B,C,λg=> ?_,λg=> ?_,λg o a=> ?_,λw z=> ?_⟩
 ·obtain⟨q,n,e,u,x⟩:=r.gone_low d a y;exact⟨q,n,by rw[<-e,t.start (k:=1) Z0 n],u,x⟩
 ·simp_all
 ·simp_all
 ·rw[g]at l;simp only[Zg2,ZfO,Zdu]at l;have:=l o a;unfold Vo at this;rw[t.start (k:=1) Z0 a]at this;simp_all
 ·exact(t.goes_iff Z0 Z0).1 (Zdu.1 D w z)
def Rt.parts(r:Rt h p):X9 h=some p:=by
 have g:∀k:Int,3<=k/\k<=4->Q6 h p.low (p.at k):=λk j o l f=>by
  obtain⟨q,n,e,a,d⟩:=r.gone k j o l f;exact⟨q,by rw[e];exact r.toTld.find (k:=1) Z0 n,a,d⟩
 exact It (r.tiles 1 Z0) (r.tiles 2 Z0) (r.tiles 3 Z0) (r.tiles 4 Z0) (g 3 Z0) (g 4 Z0)
theorem Rt.right(r:Rt h p):Xo h=true:=by
 have t:=r.toTld;refine Mp ?_ r.parts ?_
 ·unfold Wj;simp only[Zdn,ZdH];refine⟨⟨⟨⟨r.lay,r.nroots⟩,r.scan0⟩,r.scanL⟩,?_⟩;cases a:h.cycle
  ·obtain⟨l,n,q⟩:=r.rest a;simp_all
  ·simp[r.cyc a]
 ·unfold Th;simp only[Zdn,ZdH];have d:=λk f=>(IO t f).2 (r.ptr k f);refine⟨⟨⟨⟨⟨⟨?_,?_⟩,d 1 Z0⟩,d 2 Z0⟩,d 3 Z0⟩,d 4 Z0⟩,r.room⟩
  ·cases a:h.cycle
   ·rfl
   ·simp only[Zg2,ZfO,Zdu];intro o g;unfold Vo;rw[t.start (k:=1) Z0 g,ZdH];exact r.once a o g
  ·rw[Zdu];exactλw j=>(t.goes_iff Z0 Z0).2 (r.roots w j)
def Mo:Xo h=true↔ ∃p,Rt h p:=
 ⟨λa=>by obtain⟨p,r⟩:=Z5Y a;exact⟨p,r.rt⟩,λ⟨p,r⟩=>r.right⟩
def Rt.objs(r:Rt h p){k:Int}(a:1<=k/\k<=4):Xx h k=(p.at k,0):=by
 unfold Xx;rw[if_pos ⟨r.right,a⟩,r.parts];rfl
def Rt.wait(r:Rt h p):J8 h=XT p:=by
 unfold J8;rw[if_pos r.right,r.parts];rfl
end
end
section
def KS(l:Zm):Nat:=(l.map λo=>1+o.size.toNat).sum
def Tiles.sum{ws:Ze}{old:Bool}:∀ {a:Nat} {l:Zm},Tiles ws old a l->a<=ws.length->a+KS l=ws.length
 |a,[],h,d=>by have:ws.length<=a:=h;simp[KS];omega
 |a,o::l,h,d=>by
  have g:=Yf.1 h.2.1.shape;have f:=h.2.1.fits;rw[h.1]at f;have:=Tiles.sum h.2.2 Z0;simp[KS]at this⊢;omega
def Tiles.last{ws:Ze}{old:Bool}{l:Zm}(h:Tiles ws old ws.length l):l=[]:=by
 cases l with
 |nil=>rfl
 |cons o l=>
  have d:=Yf.1 h.2.1.shape;have a:=h.2.1.fits;rw[h.1]at a;omega
section
variable {h:Hp}{p:Pts}
def Tld.low_at(t:Tld h p){o:Ob}(d:o∈p.low):0<=o.at_/\o.at_<h.low.length:=by
 obtain⟨a,n,m,f,_,_,g,_⟩:=t.ob (k:=1) Z0 d
 grind [QS]
def Tiles.pairwise{ws:Ze}{old:Bool}:∀ {a:Nat} {l:Zm},Tiles ws old a l->l.Pairwise λx y=>x.at_<y.at_
 |_,[],_=>.nil
 |a,o::l,h=>by
  have f:=Yf.1 h.2.1.shape;refine .cons (λy d=> ?_) (Tiles.pairwise h.2.2);have:=(Tiles.stands h.2.2 y d).2;rw[h.1];omega
def Tiles.nil{old:Bool}{l:Zm}(h:Tiles [] old 0 l):l=[]:=Tiles.last (ws:=[]) h
end
end
section
section
variable {h:Hp}{p:Pts}
def TR(h:Hp){q:Nat}(a:q<4):Zz h ((q:Int)+1)=Zu h q:=by
 have:q=0\/q=1\/q=2\/q=3:=Z0;obtain rfl|rfl|rfl|rfl:=this<;>rfl
def Rt.obQ(r:Rt h p){q:Nat}(a:q<4):obP h q=p.at ((q:Int)+1):=by
 unfold Vm.obP;rw[r.objs Z0]
def Tu{f:Fo}:∀ {n q:Nat},f∈Xm h n q->∃k o,q<=k/\k<q+n/\o∈obP h k/\f=Yr h k o
 |0,q,a=>by simp[Xm]at a
 |n+1,q,a=>by
  simp only[Xm,ZdL,ZdB]at a;obtain⟨o,g,rfl⟩|a:=a
  ·exact⟨q,o,Z0,Z0,g,rfl⟩
  ·obtain⟨k,o,j,l,d⟩:=Tu a;exact⟨k,o,Z0,Z0,d⟩
def zm{k:Nat}{o:Ob}(a:o∈obP h k):∀ {n q:Nat},q<=k->k<q+n->Yr h k o∈Xm h n q
 |0,q,d,f=>Z0
 |n+1,q,d,f=>by
  simp only[Xm,ZdL,ZdB];by_cases e:k=q
  ·subst e;exact .inl ⟨o,a,rfl⟩
  ·exact .inr (zm a Z0 Z0)
def Z5j(s:Vw)(f:Fo):(s.put f).ns=s.ns++if f.ob.gone then []else [f]:=by
 unfold Vw.put;split<;>simp
def EA:∀(l:List Fo) (s:Vw),(l.foldl Vw.put s).ns=s.ns++l.filter λf=> !f.ob.gone
 | [],s=>Z1
 |f::l,s=>by
  rw[ZfL,EA l,Z5j];cases a:f.ob.gone<;>simp[a]
def Cs(h:Hp):(Yo h).ns=(Xm h 4 0).filter λf=> !f.ob.gone:=by
 unfold Yo;rw[EA];rfl
def K6(r:Rt h p){q:Nat}(a:q<4):(obP h q).length<=(Zu h q).length:=by
 have t:=r.tiles ((q:Int)+1) Z0;have:=t.sum (Zex _);rw[TR h a,<-r.obQ a]at this
 have d:(obP h q).length<=KS (obP h q):=by
  generalize obP h q=l
  induction l with
  |nil=>simp
  |cons o l f=>simp only[KS,ZdK,List.sum_cons,ZeM]at f⊢;omega
 omega
def Rt.len4(r:Rt h p){q:Nat}(l:q<4):(Zu h q).length<=4096:=by
 obtain⟨a,d,_,_,_,⟨_,_,f,g⟩,⟨_,_,j,k⟩⟩:=U0.1 r.lay;simp only[Zv]at*;have:q=0\/q=1\/q=2\/q=3:=Z0;obtain rfl|rfl|rfl|rfl:=this
 ·show h.low.length<=4096;omega
 ·show h.high.length<=4096;omega
 ·show h.old.length<=4096;omega
 ·show h.far.length<=4096;omega
def Rt.ob4(r:Rt h p){q:Nat}(f:q<4){o:Ob}(d:o∈obP h q):∃a n m:Nat,o.at_=a/\o.size=n/\o.ptrs=m/\a+(n+1)<=(Zu h q).length/\n<=255/\m<=n:=by
 rw[r.obQ f]at d;have:=r.toTld.ob Z0 d;rwa[TR h f]at this
def lsW(a:h.ok){q:Nat}(d:q<4):∀w∈Zu h q,ZA w:=by
 have:q=0\/q=1\/q=2\/q=3:=Z0;obtain rfl|rfl|rfl|rfl:=this
 ·exact a.lowW
 ·exact a.highW
 ·exact a.oldW
 ·exact a.farW
def jj(r:Rt h p){q:Nat}(f:q<4){o:Ob}(d:o∈obP h q):(Yr h q o).sl.length=o.size.toNat:=by
 obtain⟨a,n,m,g,j,k,l,_⟩:=r.ob4 f d;simp only[Yr,ZeD,Zfi];omega
def Rt.ofOk(r:Rt h p)(x:h.ok):OfOk h:=by
 have F:(Xm h 4 0).length<=16384:=by
  have A:=K6 r (q:=0) Z0;have j:=K6 r (q:=1) Z0;have l:=K6 r (q:=2) Z0;have t:=K6 r (q:=3) Z0;have G:=r.len4 (q:=0) Z0;have k1:=r.len4 (q:=1) Z0;have H:=r.len4 (q:=2) Z0;have I:=r.len4 (q:=3) Z0;simp only[Xm,Ze8,Ze9,Zfy,Ze7,Nat.reduceAdd];omega
 refine⟨λq g=>⟨by have:=K6 r g;have:=r.len4 g;omega,λo d=> ?_⟩,Z0,⟨?_,λf u=> ?_,by have:=r.nroots;omega,x.rootsW⟩⟩
 ·obtain⟨a,n,m,j,l,t,y,_⟩:=r.ob4 g d;omega
 ·rw[Cs];have:=Zgl (λf:Fo=> !f.ob.gone) (Xm h 4 0);omega
 ·rw[Cs]at u;obtain⟨k,o,_,D,d,rfl⟩:=Tu (Zg6.1 u).1;obtain⟨a,n,m,j,l,t,y,B,C⟩:=r.ob4 Z0 d;have e:=jj r Z0 d;refine⟨by show 0<=o.ptrs;omega,by show o.ptrs<=_;rw[e];omega,by rw[e];omega,λw z=>lsW x (q:=k) Z0 w ?_⟩;exact ZeA (Ze4 z)
def ofOk(a:h.ok)(d:Xo h=true):OfOk h:=by
 obtain⟨p,r⟩:=Mo.1 d;exact r.ofOk a
end
def Ov{h:Hp}(a:h.ok):VC (YK Tryz.prog) 10 false [ZD h] (QL h):=CU a (ofOk a)
end
section
structure VwI (d:List Fo) (s:Vw):Prop where
 ns:s.ns=d.filter λf=> !f.ob.gone
 n1:∀a j,Y0 s.nm a=some j->∃i:Nat,j=i/\∃f,s.ns[i]?=some f/\f.ad=a
 n2:∀f∈s.ns,(Y0 s.nm f.ad).isSome=true
 t1:∀a t,Y0 s.tm a=some t->∃f∈d,f.ob.gone=true/\f.ad=a/\f.ob.target=t
 t2:∀f∈d,f.ob.gone=true->(Y0 s.tm f.ad).isSome=true
def za{α l k j}{x:α}(h:k=j\/(Y0 l j).isSome=true):(Y0 (XK l k x) j).isSome=true:=by
 rw[Qu];split
 ·rfl
 ·rename_i a;obtain h|h:=h
  ·exact absurd h a
  ·exact h
theorem VwI.put{d s f}(i:VwI d s):VwI (d++[f]) (s.put f):=by
 cases n:f.ob.gone
 ·have e:s.put f= {s with ns:=s.ns++[f],nm:=XK s.nm f.ad s.ns.length}:=by simp[Vw.put,n]
  rw[e];refine⟨by simp[i.ns,n],λa j q=> ?_,λx k=> ?_,λa t o=> ?_,λx k l=> ?_⟩
  ·simp only[Qu]at q;split at q
   ·rename_i w;exact⟨s.ns.length,by simpa using q.symm,f,Z1,w⟩
   ·have⟨m,z,g,y,A⟩:=i.n1 a j q;exact⟨m,z,g,by simp only[ZdT (Zdl.1 y).1,y],A⟩
  ·obtain k|k:=ZdL.1 k
   ·exact za (.inr (i.n2 x k))
   ·rw[Zes.1 k];exact za (.inl rfl)
  ·have⟨g,r,u⟩:=i.t1 a t o;exact⟨g,by simp[r],u⟩
  ·obtain k|k:=ZdL.1 k
   ·exact i.t2 x k l
   ·rw[Zes.1 k,n]at l;exact absurd l Z1
 ·have e:s.put f= {s with tm:=XK s.tm f.ad f.ob.target}:=by simp[Vw.put,n]
  rw[e];refine⟨by simp[i.ns,n],i.n1,i.n2,λa t o=> ?_,λx k l=> ?_⟩
  ·simp only[Qu]at o;split at o
   ·rename_i w;exact⟨f,Z1,n,w,by simpa using o⟩
   ·have⟨g,r,u⟩:=i.t1 a t o;exact⟨g,by simp[r],u⟩
  ·obtain k|k:=ZdL.1 k
   ·exact za (.inr (i.t2 x k l))
   ·rw[Zes.1 k];exact za (.inl rfl)
def VwI.fold:∀ {l d} {s:Vw},VwI d s->VwI (d++l) (l.foldl Vw.put s)
 | [],d,s,i=>by simpa using i
 |f::l,d,s,i=>by
  have:=VwI.fold (l:=l) (i.put (f:=f));rwa[Zei]at this
def S7 h:VwI (Xm h 4 0) (Yo h):=by
 have:VwI [] ⟨[],[],[]⟩:=⟨rfl,by simp[Y0],Z1,by simp[Y0],Z1⟩;exact this.fold (l:=Xm h 4 0)
section
variable {h:Hp}{p:Pts}
def Sp(r:Rt h p){q}(d:q<4){o}(f:o∈obP h q):(Yr h q o).ad=fstL (Zv h) (q+1)+o.at_:=by
 have⟨a,n,m,g,j,k,l,_⟩:=r.ob4 d f;show(ZW (Zv h) (q+1) o.at_).1=_;rw[Sb r.lay Z0 (by rw[UG Z0,TR h d];omega)]
def JF(r:Rt h p){f g}(u:f∈Xm h 4 0)(w:g∈Xm h 4 0)(e:f.ad=g.ad):f=g:=by
 obtain⟨k,o,_,z,l,rfl⟩:=Tu u;obtain⟨j,q,_,y,n,rfl⟩:=Tu w;rw[Sp r Z0 l,Sp r Z0 n]at e;have a:=l;have d:=n;rw[r.obQ Z0]at a d;have⟨x,t⟩:=r.toTld.inj Z0 Z0 a d (by unfold Yk;omega);have:k=j:=Z0;subst this;rw[t]
def Uc{f}:f∈(Yo h).ns↔f∈Xm h 4 0/\f.ob.gone=false:=by
 rw[(S7 h).ns];simp
def Rt.to_nm(r:Rt h p){f}(d:f∈Xm h 4 0)(n:f.ob.gone=false):∃i:Nat,Y0 (Yo h).nm f.ad=some (i:Int)/\(Yo h).ns[i]?=some f:=by
 have⟨j,k⟩:=Zet.1 ((S7 h).n2 f (Uc.2 ⟨d,n⟩));obtain⟨i,rfl,g,a,l⟩:=(S7 h).n1 _ _ k;have:=JF r (Uc.1 (Zdr a)).1 d l;subst this;exact⟨i,k,a⟩
def Rt.to_live(r:Rt h p){f}(a:f∈Xm h 4 0)(d:f.ob.gone=false){w}(q:w≠0)(n:(adr w).1=f.ad):∃i:Nat,(Yo h).toA w=i/\(Yo h).ns[i]?=some f:=by
 have⟨i,k,l⟩:=r.to_nm a d;refine⟨i,?_,l⟩
 have:Y0 (Yo h).tm f.ad=none:=by
  cases o:Y0 (Yo h).tm f.ad with
  |none=>rfl
  |some t=>
   have⟨g,k1,j,u,_⟩:=(S7 h).t1 _ _ o;rw[JF r k1 a u,d]at j;exact absurd j Z1
 unfold Vw.toA;rw[if_neg q,n,this,Zhb,k,ZdN]
def Rt.to_gone(r:Rt h p){f g}(a:f∈Xm h 4 0)(o:f.ob.gone=true)(gf:g∈Xm h 4 0)(j:g.ob.gone=false)(q:f.ob.target=g.ad){w}(u:w≠0)(n:(adr w).1=f.ad):∃i:Nat,(Yo h).toA w=i/\(Yo h).ns[i]?=some g:=by
 have⟨i,k,l⟩:=r.to_nm gf j;refine⟨i,?_,l⟩;have⟨t,e⟩:=Zet.1 ((S7 h).t2 f a o);have⟨x,k1,z,y,d⟩:=(S7 h).t1 _ _ e;rw[JF r k1 a y,q]at d;unfold Vw.toA;rw[if_neg u,n,e,ZdN,<-d,k,ZdN]
def Rt.live12(r:Rt h p){q}(g:q<2){o}(a:o∈obP h q):o.gone=false:=by
 rw[r.obQ Z0]at a;have⟨w,_,d⟩:=((r.tiles (q+1) Z0).stands o a).1.word;cases f:o.gone
 ·rfl
 ·rw[f,if_pos rfl]at d;have:=d.1;simp at this;omega
def Rt.gos(r:Rt h p){w i j}(t:1<=i/\i<=4)(u:1<=j/\j<=4)(n:XN h p w i j)(g:w≠0):∃(q:Nat) (o:Ob),q<4/\((q+1=i)\/(q+1=j))/\o∈obP h q/\w=2*(Yr h q o).ad+1/\(adr w).1=(Yr h q o).ad:=by
 obtain rfl|⟨k,o,l,f,rfl⟩:=n
 ·exact absurd rfl g
 obtain⟨q,rfl,d⟩:∃q:Nat,k=q+1/\q<4:=⟨(k-1).toNat,Z0,Z0⟩;have a:o∈obP h q:=by rw[r.obQ d];exact f
 refine⟨q,o,d,l,a,?_,?_⟩
 ·rw[Sp r d a];rfl
 ·rw[r.toTld.adr Z0 f,Sp r d a]
def Rt.to_any(r:Rt h p){w i j}(B:1<=i/\i<=4)(C:1<=j/\j<=4)(H:XN h p w i j)(k:w≠0):∃(n:Nat),(Yo h).toA w=n/\n< (Yo h).ns.length:=by
 have⟨q,o,F,J,x,_,y⟩:=r.gos B C H k;have z:Yr h q o∈Xm h 4 0:=zm x Z0 Z0;cases d:o.gone
 ·have⟨n,l,u⟩:=r.to_live z d k y;exact⟨n,l,(Zdl.1 u).1⟩
 ·have I:2<=q:=by
   by_cases D:q<2
   ·rw[r.live12 D x]at d;exact absurd d Z1
   ·omega
  have f:=x;rw[r.obQ F]at f;have⟨t,G,A,_⟩:=r.gone (q+1) Z0 o f d;have a:t∈obP h 0:=by rw[r.obQ Z0];exact G
  have⟨n,l,u⟩:=r.to_gone z d (g:=Yr h 0 t) (zm a Z0 Z0) (r.live12 Z0 a) (by rw[Sp r Z0 a];exact A) k y;exact⟨n,l,(Zdl.1 u).1⟩
def Rt.to_in(r:Rt h p){w i j}(f:1<=i/\i<=4)(g:1<=j/\j<=4)(k:XN h p w i j):Uv (Yo h).ns.length ((Yo h).toA w)=true:=by
 by_cases a:w=0
 ·subst a;simp[Vw.toA,Uv];omega
 ·have⟨n,d,l⟩:=r.to_any f g k a;rw[d];simp[Uv];omega
def IN{k i w}(d:U3 h p k i w):∃a b,(1<=a/\a<=4)/\(1<=b/\b<=4)/\XN h p w a b:=by
 unfold U3 at d;split at d
 ·exact⟨3,4,Z0,Z0,d⟩
 ·split at d
  ·obtain d|d:=d
   ·exact⟨1,2,Z0,Z0,d⟩
   ·exact⟨3,4,Z0,Z0,d⟩
  ·exact⟨1,2,Z0,Z0,d⟩
def Rt.view_right(r:Rt h p){d}(H:d.length<=16)(I:∀w∈d,XN h p w 1 2):Vm.right ((Yo h).gr d)=true:=by
 simp only[Vm.right,Zdn,Zdu,ZdH,Vw.gr,Ze9,ZdB];refine⟨⟨H,?_⟩,?_⟩
 ·rintro _ ⟨f,C,rfl⟩;have⟨u,D⟩:=Uc.1 C;obtain⟨q,o,_,P,x,rfl⟩:=Tu u;have⟨a,n,m,J,K,L,M,N,O⟩:=r.ob4 Z0 x;have e:=jj r Z0 x;simp only[Sy,Uz,Zdn,Zdu,ZdH,Ze9,ZeD,Zfi,ZdB];refine⟨Z0,?_⟩;rintro _ ⟨w,z,rfl⟩;have⟨j,g⟩:=ZdM z;have l:=(Zdl.1 g).1;rw[ZeD]at l;have y:(Yr h q o).ob.ptrs=o.ptrs:=rfl;rw[y]at g l;rw[Zer Z0]at g;have t:=x;rw[r.obQ Z0]at t
  have A:(Zz h (q+1))[o.at_.toNat+1+j]?=some w:=by
   rw[TR h Z0];simp only[Yr]at g;rw[Zer Z0,ZdW]at g;rw[<-g];congr 1;omega
  have⟨i,k,F,G,B⟩:=IN (r.ptr (q+1) Z0 o t D j Z0 w A);exact r.to_in F G B
 ·rintro _ ⟨w,z,rfl⟩;exact r.to_in Z0 Z0 (I w z)
end
end
end Vm
end
section
namespace Vm
open Go
open Go.Proofs
def p5:Fn:=⟨9,[0,1,2,3,4,5,6,7,8],
pQ [pR [pV 0 pF],.reg ⟨[],[([],.ag [pU 10,pI 5,pI 0,pF,pI 2,.lit [pU 2,pU 6],pN,pN,pN,.lit [pU 21,pU 0]])],[(1,.m [pU 10,pI 5,pI 0,pF,pI 2,.lit [pU 2,pU 6],pN,pN,pN,.lit [pU 21,pU 0]])]⟩,pC [pK 9 10 [.mm 1 0 10]] [(2,pM (.sz (.ext (.s 9) 0) 2) 2),pV 3 (.fl (.ext (.s 9) 1))],pC [pK 10 10 [pY]] [(4,pM (.sz (.ext (.s 10) 0) 2) 2),pV 5 (.ext (.s 10) 1)],.reg ⟨[],[([],.ag [pU 10,pI 5,pI 1,pT,pI 0,.lit [pU 2,pU 6],pN,.lit [pU 31,pU 0],pN,.lit [pU 31,pU 0]])],[(6,.m [pU 10,pI 5,pI 1,pT,pI 0,.lit [pU 2,pU 6],pN,.lit [pU 31,pU 0],pN,.lit [pU 31,pU 0]])]⟩,pC [pK 11 10 [.mm 6 0 10]] [(7,pM (.sz (.ext (.s 11) 0) 2) 2),pV 8 (.fl (.ext (.s 11) 1))],.reg ⟨[.lt 12 [] (.bin .eql (.s 3) (pI 0)),.call 13 [(12,true)] (.id 12) false false [.mm 2 0 2,.ag [.lit [.ag [pN,.lit [pU 6]]],.lit [pI 0,pI (-1)]]],.lt 14 [] (.ite (.s 12) (.s 13) pF),.lt 15 [] (.ite (.s 14) (.bin .eql (.s 5) (pI 1)) pF),.lt 16 [] (.ite (.s 15) (.bin .eql (.s 8) (pI 0)) pF),.call 17 [(16,true)] (.id 12) false false [.mm 7 0 2,.mm 2 0 2],.lt 18 [] (.ite (.s 16) (.s 17) pF),.call 19 [(18,true)] (.id 13) false false [.mm 1 0 10],.lt 20 [] (.ite (.s 18) (.bin .eql (.s 19) (pI 2)) pF),.call 21 [(20,true)] (.id 13) false false [pY]],[([(14,true)],.bin .eql (.s 5) (pI 1)),([(15,true)],.bin .eql (.s 8) (pI 0)),([(18,true)],.bin .eql (.s 19) (pI 2)),([(20,true)],.bin .eql (.s 21) (pI 0))],[pV 0 (.ite (.s 20) (.bin .eql (.s 21) (pI 0)) pF)]⟩] .ret,[(0,.v)]⟩
def c5:ZH (YK Tryz.prog) fresh sig [] [] Tryz.f5=some p5:=Z2
end Vm
end
section
namespace Vm
open Go Go.Proofs
theorem jd{P:Z4}{f:Zn}{fn:Func}{c:Code}(j:P.funcs[f]?=some fn)(h2:fn.body=some c)(k:UQ P c=true):FitF (YK P) f:=⟨λg d h a=>by
 have e:(YK P).funcs[f]?=P.funcs[f]? :=rfl;rw[e,j]at h;cases h;rw[h2]at a;cases a;exact DC k⟩
def Z3H(l:Ze):NoM (.sl (l.map vi)):=.sl _ λc a=>by
 have:flat (l.map vi)=l.map vi:=VR λx d=>Zda;rw[this]at a;obtain⟨y,_,rfl⟩:=ZdB.1 a;exact .int _ _
def Ar(g:Gr):NoM (Ym g):=(GD g).m
def Aq{x:V}(h:NoM x):∀y∈[x],NoM y:=λy a=>by rw[Zes.1 a];exact h
def K0{x z:V}(h:NoM x)(k:NoM z):∀y∈[x,z],NoM y:=λy a=>by
 simp only[ZdG,ZeG,Zgb]at a;obtain rfl|rfl:=a
 ·exact h
 ·exact k
def up{f:Zn}{args:Zp}{r:V}(g:VC Sol.prog f false args r)(a:∀x∈args,NoM x)(d:NoM r):VC (YK Tryz.prog) f false args r:=FR Sol.sub g a d
def OE{a b:Gr}(d:a.sm):VC (YK Tryz.prog) 12 false [Ym a,Ym b] (.bool (decide (a=b))):=up (OF d) (K0 (Ar a) (Ar b)) (.bool _)
def vg(h:Hp):Gr:=(Yo h).gr h.roots
def ofG(h:Hp):Gr×Int:=if Xo h=true/\right (vg h)=true then(Wo (vg h),0)else(TL,1)
def Z41(h:Hp):QL h=.tup [Ym (ofG h).1,vi (ofG h).2]:=by
 unfold QL ofG WT vg;by_cases a:Xo h=true
 ·rw[if_pos a];by_cases d:right ((Yo h).gr h.roots)=true
  ·rw[if_pos d,if_pos ⟨a,d⟩]
  ·rw[if_neg d,if_neg λx=>d x.2]
 ·rw[if_neg a,if_neg λx=>a x.1]
def CT{h:Hp}(a:h.ok):VC (YK Tryz.prog) 10 false [ZD h] (.tup [Ym (ofG h).1,vi (ofG h).2]):=by
 rw[<-Z41];exact Ov a
instance fitLive:FitF (YK Tryz.prog) 13:=jd (P:=Tryz.prog) Tryz.func13 rfl Z2
instance fitAwake:FitF (YK Tryz.prog) 5:=jd (P:=Tryz.prog) Tryz.func5 rfl Z2
end Vm
end
section

end
section
namespace Vm
open Go Go.Proofs
section
def AX{h:Hp}{k j:Int}(n:1<=k/\k<=4)(g:1<=j/\j<=4)(l:Ze):Zz (Xq h k l) j=if j=k then l else Zz h j:=by
 have a:k=1\/k=2\/k=3\/k=4:=Z0;have f:j=1\/j=2\/j=3\/j=4:=Z0;obtain rfl|rfl|rfl|rfl:=a<;>obtain rfl|rfl|rfl|rfl:=f<;>rfl
def ZP(b:Bt)(i:Nat):Nd:=(b.g.nodes[i]?).getD default
def ZG(b:Bt)(i:Nat):Pl:=(b.here[i]?).getD ⟨0,0⟩
def Y4(b:Bt)(i:Nat):Pl:=(b.old[i]?).getD ⟨0,0⟩
def JH(n:Nd):Int:=(VX ((n.ptrs.length:Int)+n.data.length) n.ptrs.length).1
def XO(b:Bt)(p:Pl)(n:Nd)(tw:Int):List Int:=JH n::(XL b p p.at_.toNat n.ptrs tw++n.data)
def Vv(b:Bt)(p:Pl)(n:Nd):List Int:=YH b.h p::List.replicate (ZM n-1) 0
def YS(b:Bt)(x:Rw)(k:Int)(i:Nat):List Int:=
 if(ZG b i).part=k then XO b (ZG b i) (ZP b i) (IntKind.i64.wrap (x.slack+i))
 else if(Y4 b i).part=k then(if(ZG b i).part=0 then XO b (Y4 b i) (ZP b i) 0 else Vv b (ZG b i) (ZP b i))
 else []
def X1(b:Bt)(x:Rw)(k:Int)(i:Nat):List Int:=(List.range i).flatMap (YS b x k)
theorem VN(b:Bt)(x:Rw)(k:Int)(i:Nat):X1 b x k (i+1)=X1 b x k i++YS b x k i:=by
 simp_all[X1,Zfe,Zfc]
theorem Ua(b:Bt)(p:Pl)(n:Nd)(tw:Int):(XO b p n tw).length=ZM n:=by
 grind [XO,XL,ZM]
theorem Rh(b:Bt)(p:Pl)(n:Nd):(Vv b p n).length=ZM n:=by
 grind [Vv,ZM]
structure Placed (b:Bt) (x:Rw):Prop where
 ok:BOk b
 here:∀i,i<b.g.nodes.length->(ZG b i=⟨0,0⟩/\∃k:Int,(k=3\/k=4)/\(Y4 b i).part=k)\/(((ZG b i).part=1\/(ZG b i).part=2)/\(ZG b i).at_=((X1 b x (ZG b i).part i).length:Nat))
 old:∀i,i<b.g.nodes.length->Y4 b i=⟨0,0⟩\/(((Y4 b i).part=3\/(Y4 b i).part=4)/\(Y4 b i).at_=((X1 b x (Y4 b i).part i).length:Nat)/\(ZG b i).part≠2)
 zero:∀k:Int,1<=k/\k<=4->Zz b.h k=List.replicate (X1 b x k b.g.nodes.length).length 0
section
variable {b d:Bt}{x:Rw}
def Bw(a:Like b d)(p:Pl):YH d.h p=YH b.h p:=by
 unfold YH;rw[a.lay]
theorem Z6W(a:Like b d)(p:Pl)(to tw:Int):V5 d p to tw=V5 b p to tw:=by
 unfold V5;rw[a.here,a.old,a.scan,Bw a,Bw a]
def FH(a:Like b d)(p:Pl)(n:Nd)(tw:Int):XO d p n tw=XO b p n tw:=by
 grind [XO,XL,Z6W]
def jT{p:Pl}{a m:Nat}{n:Nd}{tw:Int}{F:Ze}(k:Zz d.h p.part=F++List.replicate m 0)(g:F.length=a)(f:p.at_.toNat=a)(j:ZM n<=m):TE d p a n tw=F++XO d p n tw++List.replicate (m-ZM n) 0:=by
 simp_all[TE,List.replicate,ZM,Zgr,Zf0,XO,JH]
def Z6D{F:Ze}{a m s:Nat}{w:Int}(f:F.length=a)(j:1<=s)(h:s<=m):(F++List.replicate m (0:Int)).set a w=F++(w::List.replicate (s-1) 0)++List.replicate (m-s) 0:=by
 rw[<-f,Zhp _ _ (Zdp _),Zf9];obtain⟨m,rfl⟩:∃g,m=g+1:=⟨m-1,Z0⟩;rw[List.replicate_succ,List.set_cons_zero,Zei];congr 1;simp;omega
def Jo(b:Bt)(x:Rw)(k:Int){i j:Nat}(h:i<=j):∃r,X1 b x k j=X1 b x k i++r:=by
 induction j with
 |zero=>simp_all
 |succ j f=>
  by_cases a:i=j+1
  ·simp_all
  grind [YS,VN,List.append_assoc]
def qo(b:Bt)(x:Rw)(i:Nat)(d:Bt):Prop:=∀k:Int,1<=k/\k<=4->Zz d.h k=X1 b x k i++List.replicate ((X1 b x k b.g.nodes.length).length- (X1 b x k i).length) 0
def BD(b:Bt)(x:Rw)(k:Int){i:Nat}(a:i<b.g.nodes.length):(X1 b x k i).length+(YS b x k i).length<=(X1 b x k b.g.nodes.length).length:=by
 obtain⟨r,f⟩:=Jo b x k (Z0:i+1<=b.g.nodes.length)
 grind [VN]
def Z0K(C:Placed b x){i:Nat}(G:i<b.g.nodes.length)(z:Like b d)(w:qo b x i d):qo b x (i+1) (Qn x d i):=by
 have R:(d.g.nodes[i]?).getD default=ZP b i:=by rw[z.g];rfl
 have T:(d.here[i]?).getD ⟨0,0⟩=ZG b i:=by rw[z.here];rfl
 have S:(d.old[i]?).getD ⟨0,0⟩=Y4 b i:=by rw[z.old];rfl
 unfold Qn;simp only[R,T,S];have W:=C.here i G;have O:=C.old i G;have r:=λk=>BD b x k G;have j:∀k,YS b x k i=if(ZG b i).part=k then XO b (ZG b i) (ZP b i) (IntKind.i64.wrap (x.slack+i))else if(Y4 b i).part=k then(if(ZG b i).part=0 then XO b (Y4 b i) (ZP b i) 0 else Vv b (ZG b i) (ZP b i))else []:=λk=>rfl
 have P:=Ua b (ZG b i) (ZP b i) (IntKind.i64.wrap (x.slack+i));have Z:=Ua b (Y4 b i) (ZP b i) 0;have l3:=Rh b (ZG b i) (ZP b i);have M:=FH z (ZG b i) (ZP b i) (IntKind.i64.wrap (x.slack+i));have Q:=FH z (Y4 b i) (ZP b i) 0;generalize ZG b i=p at*;generalize Y4 b i=o at*;generalize ZP b i=n at*;have L:1<=ZM n:=by unfold ZM;omega
 obtain⟨rfl,ko,a,N⟩|⟨hp,U⟩:=W
 ·
  have I:(o.part=3\/o.part=4)/\o.at_=((X1 b x o.part i).length:Nat):=by
   obtain rfl|⟨h1,h2,_⟩:=O
   ·grind
   ·omega
  have D:U6 x d i n ⟨0,0⟩=d:=by unfold U6;rw[if_neg Z1]
  have F:U7 d n ⟨0,0⟩ o=W9 d o n 0:=by unfold U7;rw[if_pos ⟨Z0,rfl⟩]
  have A:∀q,VP q ⟨0,0⟩ o=q:=λq=>by simp_all[VP,if_neg]
  rw[D,F,A];intro k t;have l:YS b x o.part i=XO b o n 0:=by rw[j,if_neg Zcp,if_pos rfl,if_pos rfl]
  have y:=r o.part;rw[l,Z]at y;unfold W9;simp only;rw[AX Z0 t];by_cases a:k=o.part
  ·rw[if_pos a,a,jT (w o.part Z0) Z0 rfl Z0,VN,l,Q]
   grind
  ·rw[if_neg a,VN,j k,if_neg Zcp,if_neg (λh=>a h.symm),ZeS];exact w k t
 ·have J:¬p.part=0:=Z0;have D:U6 x d i n p=W9 d p n (IntKind.i64.wrap (x.slack+i)):=by unfold U6;rw[if_pos Z0]
  have F:∀q,U7 q n p o=q:=λq=>by simp_all[U7,if_neg]
  rw[D,F];have B:YS b x p.part i=XO b p n (IntKind.i64.wrap (x.slack+i)):=by rw[j,if_pos rfl]
  have K:=r p.part;rw[B,P]at K
  have u:∀k:Int,1<=k/\k<=4->Zz (W9 d p n (IntKind.i64.wrap (x.slack+i))).h k=if k=p.part then X1 b x p.part (i+1)++List.replicate ((X1 b x p.part b.g.nodes.length).length- (X1 b x p.part (i+1)).length) 0 else Zz d.h k:=by
   intro k t;unfold W9;simp only;rw[AX Z0 t];by_cases f:k=p.part
   ·rw[if_pos f,if_pos f,jT (w p.part Z0) Z0 rfl Z0,VN,B,M]
    grind
   ·simp_all
  have H:YH (W9 d p n (IntKind.i64.wrap (x.slack+i))).h p=YH b.h p:=by
   unfold YH
   have:Zv (W9 d p n (IntKind.i64.wrap (x.slack+i))).h=Zv b.h:=by
    rw[<-z.lay];unfold W9;simp only;refine Cz ?_;rw[jT (w p.part Z0) Z0 rfl Z0,w p.part Z0,M];simp[P];omega
   rw[this]
  generalize W9 d p n (IntKind.i64.wrap (x.slack+i))=q at*;obtain rfl|⟨X,I,Y⟩:=O
  ·have A:VP q p ⟨0,0⟩=q:=by simp_all[VP,if_neg]
   rw[A];intro k t;rw[u k t];by_cases f:k=p.part
   ·simp_all
   ·rw[if_neg f,VN,j k,if_neg (λh=>f h.symm),if_neg Zcp,ZeS];exact w k t
  ·have A:VP q p o= {q with h:=Xq q.h o.part ((Zz q.h o.part).set o.at_.toNat (YH q.h p))}:=by unfold VP;rw[if_pos ⟨Z0,Z0⟩]
   rw[A];have l:YS b x o.part i=Vv b p n:=by rw[j,if_neg Z0,if_pos rfl,if_neg J]
   have y:=r o.part;rw[l,l3]at y;intro k t;simp only;rw[AX Z0 t,u o.part Z0,if_neg (Z0:¬o.part=p.part),w o.part Z0,H];by_cases a:k=o.part
   ·rw[if_pos a,a,Z6D Z0 L Z0,VN,l]
    grind [Vv]
   ·rw[if_neg a,u k t];by_cases f:k=p.part
    ·simp_all
    ·rw[if_neg f,VN,j k,if_neg (λh=>f h.symm),if_neg (λh=>a h.symm),ZeS];exact w k t
def Eh(a:Placed b x):∀i,i<=b.g.nodes.length->qo b x i (VQ x b i)
 |0,_=>by
  intro k f;rw[VQ,a.zero k f];simp[X1]
 |i+1,h=>by
  rw[VQ];exact Z0K a Z0 (JT a.ok i Z0) (Eh a i Z0)
def Eg(a:Placed b x){k:Int}(f:1<=k/\k<=4):Zz (Yw x b) k=X1 b x k b.g.nodes.length:=by
 have h:=Eh a b.g.nodes.length (Zdp _) k f;rw[Zf9,List.replicate_zero,ZeS]at h;rw[<-h];rfl
end
end
section
def Rj(x:Rw)(c:Bool)(g:Gr)(i:Nat):Pl:=if WN x i c=0 then⟨2,(Y3 x c g i).n2⟩else if WN x i c=1 then⟨1,(Y3 x c g i).n1⟩else⟨0,0⟩
def QO(x:Rw)(c:Bool)(g:Gr)(i:Nat):Pl:=if(decide (0<WN x i c)&&c)=true then(if Wp x i then⟨4,(Y3 x c g i).n4⟩else⟨3,(Y3 x c g i).n3⟩)else⟨0,0⟩
def C4{x:Rw}{c:Bool}{g:Gr}(d:∀n∈g.nodes,ZM n<=9):∀j,j<=g.nodes.length->∀i,i<j->(Y3 x c g j).here[i]?=some (Rj x c g i)/\(Y3 x c g j).old[i]?=some (QO x c g i)
 |0,_,i,f=>Z0
 |j+1,l,i,f=>by
  obtain⟨_,_,h,k⟩:=KP (x:=x) (cycle:=c) d j Z0;rw[Y3];simp only[X6];by_cases a:i<j
  ·have:=C4 (x:=x) (c:=c) d j Z0 i a;rw[ZdT Z0,ZdT Z0];exact this
  ·have:i=j:=Z0;subst this;rw[ZdI Z0,ZdI Z0,h,k,Zf9];exact⟨rfl,rfl⟩
def nk(s:St8)(k:Int):Nat:=if k=1 then s.n1 else if k=2 then s.n2 else if k=3 then s.n3 else s.n4
section
variable {x:Rw}{c:Bool}
def Cd(x:Rw):∀n∈(ZV x.nodes x.roots).nodes,ZM n<=9:=λn d=>by
 obtain⟨_,_,a⟩:=Ad x.nodes x.roots;have:=a n d;unfold ZM;omega
def SP(x:Rw)(c:Bool):(Yx x c).g=ZV x.nodes x.roots:=rfl
def JI{i:Nat}(a:i< (ZV x.nodes x.roots).nodes.length):ZG (Yx x c) i=Rj x c (ZV x.nodes x.roots) i:=by
 unfold ZG;show((Y3 x c (ZV x.nodes x.roots) (ZV x.nodes x.roots).nodes.length).here[i]?).getD _=_;rw[(C4 (Cd x) _ (Zdp _) i a).1];rfl
def zL{i:Nat}(a:i< (ZV x.nodes x.roots).nodes.length):Y4 (Yx x c) i=QO x c (ZV x.nodes x.roots) i:=by
 unfold Y4;show((Y3 x c (ZV x.nodes x.roots) (ZV x.nodes x.roots).nodes.length).old[i]?).getD _=_;rw[(C4 (Cd x) _ (Zdp _) i a).2];rfl
def Lj:∀i,i<=(ZV x.nodes x.roots).nodes.length->∀k:Int,1<=k/\k<=4->(X1 (Yx x c) x k i).length=nk (Y3 x c (ZV x.nodes x.roots) i) k
 |0,_,k,f=>by simp[X1,Y3,nk]
 |i+1,p,k,f=>by
  have o:=Lj i Z0 k f;rw[VN,Ze8,o];have l:ZP (Yx x c) i=((ZV x.nodes x.roots).nodes[i]?).getD default:=rfl;unfold YS;rw[JI (Z0:i< (ZV x.nodes x.roots).nodes.length),zL (Z0:i< (ZV x.nodes x.roots).nodes.length),l,Y3];generalize ((ZV x.nodes x.roots).nodes[i]?).getD default=n;have a:k=1\/k=2\/k=3\/k=4:=Z0;unfold Rj QO;generalize Y3 x c (ZV x.nodes x.roots) i=s;obtain g|h|⟨j,rfl⟩:=Sh x i c
  ·obtain rfl|rfl|rfl|rfl:=a<;>simp[nk,X6,g,Ua]
  ·cases c<;>cases d:Wp x i<;>obtain rfl|rfl|rfl|rfl:=a<;>simp[nk,X6,h,d,Ua,Rh]
  ·cases d:Wp x i<;>obtain rfl|rfl|rfl|rfl:=a<;>simp[nk,X6,j,d,Ua,Rh]
def N8(hx:x.ok):Placed (Yx x c) x:=by
 refine⟨(KQ hx c).1,λi a=> ?_,λi a=> ?_,λk g=> ?_⟩
 ·rw[SP]at a;rw[JI a,zL a];have d:=λk g=>Lj (x:=x) (c:=c) i Z0 k g;unfold Rj QO;obtain j|h|⟨f,rfl⟩:=Sh x i c
  ·right;simp[j,d 2,nk]
  ·right;simp[h,d 1,nk]
  ·left;refine⟨by simp[f],?_⟩;cases n:Wp x i
   ·exact⟨3,.inl rfl,by simp[f]⟩
   ·exact⟨4,.inr rfl,by simp[f]⟩
 ·rw[SP]at a;rw[JI a,zL a];have d:=λk g=>Lj (x:=x) (c:=c) i Z0 k g;unfold Rj QO;obtain j|h|⟨f,rfl⟩:=Sh x i c
  ·left;simp[j]
  ·cases c
   ·left;simp
   ·right;cases n:Wp x i
    ·simp[h,d 3,nk]
    ·simp[h,d 4,nk]
  ·right;cases n:Wp x i
   ·simp[f,d 3,nk]
   ·simp[f,d 4,nk]
 ·rw[SP,Lj _ (Zdp _) k g];have l:k=1\/k=2\/k=3\/k=4:=Z0;obtain rfl|rfl|rfl|rfl:=l<;>rfl
end
end
section
def MV(h:Hp){k:Int}(d:1<=k/\k<=4):YX (Zv h) k=(Zz h k).length:=by
 have a:k=1\/k=2\/k=3\/k=4:=Z0;obtain rfl|rfl|rfl|rfl:=a<;>rfl
def Z7z{s p:Int}(h:Ye s p=true):ZO (VX s p).1=(s,p,0):=by
 have a:=Yf.1 h;unfold VX;rw[if_pos h];unfold ZO
 grind
theorem Z2C(h:Hp)(p:Pl):WY (YH h p)=true:=by
 unfold YH WY;split
 ·rfl
 unfold XJ;split
 ·rfl
 ·rename_i a;unfold adr
  grind
theorem Z2D(b:Bt)(p:Pl)(to tw:Int):WY (V5 b p to tw)=true:=by
 unfold V5;split
 ·rfl
 grind [Z2C]
def RV{gone:Bool}{ptrs:Int}:∀ {l:Ze} {i:Nat},(∀(j:Nat) (w:Int),l[j]?=some w->(gone=true->w=0)/\(((i+j:Nat):Int)<ptrs->WY w=true))->Xb l gone ptrs i=true
 | [],_,_=>rfl
 |w::l,i,h=>by
  obtain⟨f,g⟩:=h 0 w rfl
  have d:Xb l gone ptrs (i+1)=true:=RV λj y a=>by
   have:=h (j+1) y a
   grind
  rw[Xb,d]
  grind
theorem Na{b:Bt}{p:Pl}{n:Nd}{tw:Int}{F r:Ze}{old:Bool}(f:p.at_=(F.length:Nat))(o:ZM n<=9):Stands (F++XO b p n tw++r) old ⟨p.at_,(n.ptrs.length:Int)+n.data.length,n.ptrs.length,false,0⟩:=by
 have a:Ye ((n.ptrs.length:Int)+n.data.length) n.ptrs.length=true:=by
  unfold ZM at o;exact Yf.2 Z0
 have d:(F++XO b p n tw++r)[F.length]?=some (JH n):=by
  rw[Zei,ZdI (Zdp _),Zf9];rfl
 have t:=Z7z a;refine⟨Zcq,a,?_,?_,JH n,Zcq,?_⟩
 ·grind [Ua,ZM,List.length_append]
 ·simp only[f,ZdF]
  have e:((F++XO b p n tw++r).drop (F.length+1)).take ((n.ptrs.length:Int)+n.data.length).toNat=XL b p p.at_.toNat n.ptrs tw++n.data:=by
   have k:((n.ptrs.length:Int)+n.data.length).toNat=(XL b p p.at_.toNat n.ptrs tw++n.data).length:=by simp[XL];omega
   rw[k,Zei,Zgr,Zf0 Z0,Zg8,Zej];have l:(XO b p n tw++r).drop 1=(XL b p p.at_.toNat n.ptrs tw++n.data)++r:=rfl;rw[l,Zgj]
  rw[e];refine RV λj w d=>⟨Z1,λg=> ?_⟩;have h:j<n.ptrs.length:=by simpa using g
  rw[ZdT (by simp_all[XL])]at d;simp only[XL,ZdJ,Zdm]at d;obtain⟨q,_,rfl⟩:=d
  grind [Z2D]
 simp_all[Zdy,Ze1,OJ,JH,trivial]
def Z7a{b:Bt}{p o:Pl}{n:Nd}{F r:Ze}(a:o.at_=(F.length:Nat))(q:ZM n<=9)(l:(adr (YH b.h p)).2=0):Stands (F++Vv b p n++r) true ⟨o.at_,(n.ptrs.length:Int)+n.data.length,n.ptrs.length,true,(adr (YH b.h p)).1⟩:=by
 have d:Ye ((n.ptrs.length:Int)+n.data.length) n.ptrs.length=true:=by
  unfold ZM at q;exact Yf.2 Z0
 have f:(F++Vv b p n++r)[F.length]?=some (YH b.h p):=by
  rw[Zei,ZdI (Zdp _),Zf9];rfl
 refine⟨by show 0<=o.at_;omega,d,?_,?_,_,by rw[a];simpa using f,?_⟩
 ·have:=Rh b p n;unfold ZM at this;simp only[Ze8,this,a];omega
 ·simp only[a,ZdF]
  have e:((F++Vv b p n++r).drop (F.length+1)).take ((n.ptrs.length:Int)+n.data.length).toNat=List.replicate (ZM n-1) 0:=by
   have g:((n.ptrs.length:Int)+n.data.length).toNat=(List.replicate (ZM n-1) (0:Int)).length:=by simp[ZM];omega
   rw[g,Zei,Zgr,Zf0 Z0,Zg8,Zej];have k:(Vv b p n++r).drop 1=List.replicate (ZM n-1) 0++r:=rfl;rw[k,Zgj]
  rw[e];refine RV λj w f=> ?_;have:=(List.mem_replicate.1 (Zdr f)).2;subst this;exact⟨λ_=>rfl,λ_=>rfl⟩
 ·simp only[Ze3];exact⟨trivial,l,trivial⟩
def Xh(b:Bt)(k:Int)(i:Nat):List Ob:=
 if(ZG b i).part=k then [⟨(ZG b i).at_,((ZP b i).ptrs.length:Int)+(ZP b i).data.length,(ZP b i).ptrs.length,false,0⟩]
 else if(Y4 b i).part=k then(if(ZG b i).part=0 then [⟨(Y4 b i).at_,((ZP b i).ptrs.length:Int)+(ZP b i).data.length,(ZP b i).ptrs.length,false,0⟩]
  else [⟨(Y4 b i).at_,((ZP b i).ptrs.length:Int)+(ZP b i).data.length,(ZP b i).ptrs.length,true,(adr (YH b.h (ZG b i))).1⟩])
 else []
def obs(b:Bt)(k:Int):List Ob:=(List.range b.g.nodes.length).flatMap (Xh b k)
section
variable {b:Bt}{x:Rw}
def Placed.nine(a:Placed b x)(d:∀n∈b.g.nodes,ZM n<=9){i:Nat}(f:i<b.g.nodes.length):ZM (ZP b i)<=9:=by
 simp_all[ZP,Zdk,ZdA]
def Placed.len(a:Placed b x){k:Int}(d:1<=k/\k<=4):YX (Zv b.h) k=((X1 b x k b.g.nodes.length).length:Nat):=by
 rw[MV b.h d,a.zero k d];simp
def Placed.here_in(a:Placed b x){i:Nat}(f:i<b.g.nodes.length)(k:(ZG b i).part≠0):((ZG b i).part=1\/(ZG b i).part=2)/\(ZG b i).at_=((X1 b x (ZG b i).part i).length:Nat)/\(ZG b i).at_+ZM (ZP b i)<=YX (Zv b.h) (ZG b i).part:=by
 obtain⟨h,_⟩|⟨j,d⟩:=a.here i f
 ·simp_all
 ·refine⟨j,d,?_⟩;have:=BD b x (ZG b i).part f;rw[a.len Z0,d];have e:YS b x (ZG b i).part i=XO b (ZG b i) (ZP b i) (IntKind.i64.wrap (x.slack+i)):=by unfold YS;rw[if_pos rfl]
  grind [Ua]
def Placed.old_in(a:Placed b x){i:Nat}(d:i<b.g.nodes.length)(o:(Y4 b i).part≠0):((Y4 b i).part=3\/(Y4 b i).part=4)/\(Y4 b i).at_=((X1 b x (Y4 b i).part i).length:Nat)/\(ZG b i).part≠2/\(Y4 b i).at_+ZM (ZP b i)<=YX (Zv b.h) (Y4 b i).part:=by
 obtain h|⟨k,f,l⟩:=a.old i d
 ·simp_all
 ·refine⟨k,f,l,?_⟩;have:=BD b x (Y4 b i).part d;rw[a.len Z0,f]
  have n:(ZG b i).part=0\/(ZG b i).part=1:=by
   by_cases j:(ZG b i).part=0
   ·omega
   ·have:=(a.here_in d j).1;omega
  have e:(YS b x (Y4 b i).part i).length=ZM (ZP b i):=by
   unfold YS;rw[if_neg Z0,if_pos rfl];split
   ·grind [Ua]
   ·exact Rh _ _ _
  omega
def Placed.ref_here(a:Placed b x)(f:ZJ (Zv b.h)=true){i:Nat}(j:i<b.g.nodes.length)(d:(ZG b i).part≠0):YH b.h (ZG b i)=Yk (Zv b.h) (ZG b i).part (ZG b i).at_:=by
 obtain⟨k,l,n⟩:=a.here_in j d;have o:1<=ZM (ZP b i):=by grind [ZM]
 unfold YH;rw[if_neg d,Sb f Z0 ⟨Z0,Z0⟩];have:=WB f (ZG b i).part;unfold XJ Yk
 grind
def Placed.ref_old(a:Placed b x)(f:ZJ (Zv b.h)=true){i:Nat}(j:i<b.g.nodes.length)(d:(Y4 b i).part≠0):YH b.h (Y4 b i)=Yk (Zv b.h) (Y4 b i).part (Y4 b i).at_:=by
 obtain⟨k,l,_,n⟩:=a.old_in j d;have o:1<=ZM (ZP b i):=by grind [ZM]
 unfold YH;rw[if_neg d,Sb f Z0 ⟨Z0,Z0⟩];have:=WB f (Y4 b i).part;unfold XJ Yk
 grind
def GL(a:Placed b x)(z:ZJ (Zv b.h)=true)(C:∀n∈b.g.nodes,ZM n<=9){k:Int}(F:1<=k/\k<=4):∀(m i:Nat),i+m=b.g.nodes.length->Tiles (X1 b x k b.g.nodes.length) (decide (2<k)) (X1 b x k i).length ((List.range' i m).flatMap (Xh b k))
 |0,i,D=>by
  have:i=b.g.nodes.length:=Z0;subst this;exact Zdp _
 |m+1,i,D=>by
  have t:=GL a z C F m (i+1) Z0;have d:i<b.g.nodes.length:=Z0;have w:=a.nine C d;obtain⟨r,A⟩:=Jo b x k (Z0:i+1<=b.g.nodes.length);rw[List.range'_succ,Zh1];have B:=VN b x k i;by_cases f:(ZG b i).part=k
  ·have u:YS b x k i=XO b (ZG b i) (ZP b i) (IntKind.i64.wrap (x.slack+i)):=by unfold YS;rw[if_pos f]
   have q:Xh b k i=[⟨(ZG b i).at_,((ZP b i).ptrs.length:Int)+(ZP b i).data.length,(ZP b i).ptrs.length,false,0⟩]:=by unfold Xh;rw[if_pos f]
   obtain⟨_,j,_⟩:=a.here_in d Z0;rw[f]at j;rw[q];refine⟨j,?_,?_⟩
   ·grind [Na]
   ·rw[B,u,Ze8,Ua]at t;have:(((ZP b i).ptrs.length:Int)+(ZP b i).data.length).toNat=ZM (ZP b i) -1:=by grind [ZM]
    simp only[this];rw[show(X1 b x k i).length+1+(ZM (ZP b i) -1)=(X1 b x k i).length+ZM (ZP b i)by grind [ZM]];exact t
  by_cases l:(Y4 b i).part=k
  ·obtain⟨G,j,H,I⟩:=a.old_in d Z0;have y:2<k:=Z0;rw[l]at j
   have p:(X1 b x k (i+1)).length=(X1 b x k i).length+1+(((ZP b i).ptrs.length:Int)+(ZP b i).data.length).toNat:=by
    have e:(YS b x k i).length=ZM (ZP b i):=by
     unfold YS;rw[if_neg f,if_pos l];split
     ·grind [Ua]
     ·exact Rh _ _ _
    rw[B,Ze8,e];unfold ZM;omega
   rw[p]at t;by_cases o:(ZG b i).part=0
   ·have u:YS b x k i=XO b (Y4 b i) (ZP b i) 0:=by unfold YS;rw[if_neg f,if_pos l,if_pos o]
    have q:Xh b k i=[⟨(Y4 b i).at_,((ZP b i).ptrs.length:Int)+(ZP b i).data.length,(ZP b i).ptrs.length,false,0⟩]:=by unfold Xh;rw[if_neg f,if_pos l,if_pos o]
    rw[q];refine⟨j,?_,t⟩
    grind [Na]
   ·have u:YS b x k i=Vv b (ZG b i) (ZP b i):=by unfold YS;rw[if_neg f,if_pos l,if_neg o]
    have q:Xh b k i=[⟨(Y4 b i).at_,((ZP b i).ptrs.length:Int)+(ZP b i).data.length,(ZP b i).ptrs.length,true,(adr (YH b.h (ZG b i))).1⟩]:=by unfold Xh;rw[if_neg f,if_pos l,if_neg o]
    rw[q];refine⟨j,?_,t⟩;rw[A,B,u,ZgW y];refine Z7a j w ?_;obtain⟨J,K,_⟩:=a.here_in d o;rw[a.ref_here z d o,UN z Z0]
  simp_all[YS,if_neg,Xh,Zej,ZeS]
def Z3Y(a:Placed b x)(j:ZJ (Zv b.h)=true)(f:∀n∈b.g.nodes,ZM n<=9){k:Int}(d:1<=k/\k<=4):Tiles (Zz (Yw x b) k) (decide (2<k)) 0 (obs b k):=by
 rw[Eg a d];have:=GL a j f d b.g.nodes.length 0 Z0;unfold obs;rw[List.range_eq_range'];exact this
def QF{k:Int}{o:Ob}:o∈obs b k↔ ∃i,i<b.g.nodes.length/\o∈Xh b k i:=by
 grind [obs]
end
end
section
structure Made (b:Bt) (x:Rw):Prop where
 pl:Placed b x
 lay:ZJ (Zv b.h)=true
 nine:∀n∈b.g.nodes,ZM n<=9
 cyc:b.h.cycle=true->∀i,i<b.g.nodes.length->(ZG b i).part=1->(Y4 b i).part≠0
 scan:0<=b.h.scan/\b.h.scan<=b.h.low.length/\(if b.h.cycle then b.h.scan<b.h.low.length else b.h.scan=b.h.low.length/\b.h.old=[]/\b.h.far=[])
 room:(b.h.low.length:Int)+b.h.high.length+((Y7 (obs b 3)+Y7 (obs b 4):Nat):Int)<=b.h.cap
 fit:Yv b.h.scan
def RH(b:Bt):Pts:=⟨obs b 1,obs b 2,obs b 3,obs b 4⟩
theorem Bl(b:Bt){k:Int}(d:1<=k/\k<=4):(RH b).at k=obs b k:=by
 have a:k=1\/k=2\/k=3\/k=4:=Z0;obtain rfl|rfl|rfl|rfl:=a<;>rfl
section
variable {b:Bt}{x:Rw}
def Made.fill(m:Made b x):(Yw x b).ok/\Zv (Yw x b)=Zv b.h/\(Yw x b).scan=b.h.scan/\(Yw x b).cycle=b.h.cycle:=Ef m.pl.ok m.fit
def Made.tiles(m:Made b x){k:Int}(a:1<=k/\k<=4):Tiles (Zz (Yw x b) k) (decide (2<k)) 0 (obs b k):=Z3Y m.pl m.lay m.nine a
def Made.start(m:Made b x){k a:Int}(f:1<=k/\k<=4)(d:0<=a/\a<YX (Zv b.h) k):Yz (Yw x b) k a=fstL (Zv b.h) k+a:=by
 unfold Yz;rw[m.fill.2.1,Sb m.lay f d]
def yS(n:Nd):1<=ZM n:=by grind [ZM]
def Made.ob_here(m:Made b x){i:Nat}(a:i<b.g.nodes.length)(d:(ZG b i).part≠0):∃o∈obs b (ZG b i).part,o.at_=(ZG b i).at_/\o.size=((ZP b i).ptrs.length:Int)+(ZP b i).data.length/\o.ptrs=(ZP b i).ptrs.length/\o.gone=false:=
 ⟨_,QF.2 ⟨i,a,by unfold Xh;rw[if_pos rfl];exact .head _⟩,rfl,rfl,rfl,rfl⟩
def Made.ob_old(m:Made b x){i:Nat}(f:i<b.g.nodes.length)(h:(Y4 b i).part≠0):∃o∈obs b (Y4 b i).part,o.at_=(Y4 b i).at_:=by
 obtain⟨j,k,l,n⟩:=m.pl.old_in f h
 have a:¬(ZG b i).part=(Y4 b i).part:=by
  by_cases d:(ZG b i).part=0
  ·omega
  ·have:=(m.pl.here_in f d).1;omega
 by_cases d:(ZG b i).part=0
 ·exact⟨_,QF.2 ⟨i,f,by unfold Xh;rw[if_neg a,if_pos rfl,if_pos d];exact .head _⟩,rfl⟩
 ·exact⟨_,QF.2 ⟨i,f,by unfold Xh;rw[if_neg a,if_pos rfl,if_neg d];exact .head _⟩,rfl⟩
def Made.to_here(m:Made b x){i:Nat}(d:i<b.g.nodes.length):YE (Yw x b) (RH b) (YH b.h (ZG b i)) 1 2=true:=by
 by_cases a:(ZG b i).part=0
 ·simp_all[YH,ZG,if_pos,YE]
 ·obtain⟨k,l,n⟩:=m.pl.here_in d a;have p:=yS (ZP b i);obtain⟨o,j,f,_⟩:=m.ob_here d a;rw[m.pl.ref_here m.lay d a];unfold YE;rw[UN m.lay Z0]
  have:(Yg (Yw x b) (ZG b i).part (obs b (ZG b i).part) (fstL (Zv b.h) (ZG b i).part+(ZG b i).at_)).isSome=true:=by
   refine qA.2 ⟨o,j,?_⟩;rw[f,m.start Z0 ⟨Z0,Z0⟩]
  grind [Bl]
def Made.to_old(m:Made b x){i:Nat}(d:i<b.g.nodes.length):YE (Yw x b) (RH b) (YH b.h (Y4 b i)) 3 4=true:=by
 by_cases a:(Y4 b i).part=0
 ·simp_all[YH,Y4,if_pos,YE]
 ·obtain⟨k,l,_,n⟩:=m.pl.old_in d a;have p:=yS (ZP b i);obtain⟨o,j,f⟩:=m.ob_old d a;rw[m.pl.ref_old m.lay d a];unfold YE;rw[UN m.lay Z0]
  have:(Yg (Yw x b) (Y4 b i).part (obs b (Y4 b i).part) (fstL (Zv b.h) (Y4 b i).part+(Y4 b i).at_)).isSome=true:=by
   refine qA.2 ⟨o,j,?_⟩;rw[f,m.start Z0 ⟨Z0,Z0⟩]
  grind [Bl]
def Made.same_at(m:Made b x){k:Int}(j:1<=k/\k<=4){o q:Ob}(f:o∈obs b k)(g:q∈obs b k)(h:q.at_=o.at_):q=o:=by
 have d:=m.tiles j;obtain a|a|a:=d.apart q g o f
 ·exact a
 ·have:=Yf.1 (d.stands q g).1.shape;omega
 ·have:=Yf.1 (d.stands o f).1.shape;omega
def Made.ob_in(m:Made b x){k:Int}(d:1<=k/\k<=4){o:Ob}(f:o∈obs b k):0<=o.at_/\o.at_<YX (Zv b.h) k:=by
 have a:=((m.tiles d).stands o f).1;have g:=Yf.1 a.shape;have j:=a.fits;have l:=a.nat;have:YX (Zv b.h) k=(Zz (Yw x b) k).length:=by rw[<-m.fill.2.1,MV _ d]
 omega
def Made.find(m:Made b x){k:Int}(a:1<=k/\k<=4){o:Ob}(d:o∈obs b k):Yg (Yw x b) k (obs b k) (fstL (Zv b.h) k+o.at_)=some o:=by
 rw[<-m.start a (m.ob_in a d)];refine Dr d λq f e=>m.same_at a d f ?_;rw[m.start a (m.ob_in a d),m.start a (m.ob_in a f)]at e;omega
def Z3f{k:Int}{i:Nat}{o:Ob}(h:o∈Xh b k i)(a:o.gone=true):¬(ZG b i).part=k/\(Y4 b i).part=k/\¬(ZG b i).part=0/\o=⟨(Y4 b i).at_,((ZP b i).ptrs.length:Int)+(ZP b i).data.length,(ZP b i).ptrs.length,true,(adr (YH b.h (ZG b i))).1⟩:=by
 grind [Xh]
def Made.gone(m:Made b x){k:Int}(y:3<=k/\k<=4):Q6 (Yw x b) (obs b 1) (obs b k):=by
 intro o n j;obtain⟨i,d,g⟩:=QF.1 n;obtain⟨u,w,f,rfl⟩:=Z3f g j;obtain⟨z,A,B⟩:=m.pl.here_in d f;have l:=(m.pl.old_in d Z0).2.2.1;have a:(ZG b i).part=1:=Z0;obtain⟨q,h,p,r,t,_⟩:=m.ob_here d f;rw[a]at h;refine⟨q,?_,r,t⟩;simp only;rw[m.pl.ref_here m.lay d f,UN m.lay Z0,a,<-p];exact m.find Z0 h
def Made.parts(m:Made b x):X9 (Yw x b)=some (RH b):=
 It (m.tiles (k:=1) Z0) (m.tiles (k:=2) Z0) (m.tiles (k:=3) Z0) (m.tiles (k:=4) Z0) (m.gone Z0) (m.gone Z0)
def Nk(l r:Zm)(a:Int):YA (l++r) a=YA l a+YA r a:=by simp[YA]
def Nn(b:Bt)(k:Int)(j:Nat)(a:Int):YA (Xh b k j) a=if ¬(ZG b j).part=k/\(Y4 b j).part=k/\¬(ZG b j).part=0/\(adr (YH b.h (ZG b j))).1=a then 1 else 0:=by
 unfold Xh;by_cases d:(ZG b j).part=k
 ·simp_all[if_pos,if_neg,YA]
 rw[if_neg d];by_cases f:(Y4 b j).part=k
 ·rw[if_pos f];by_cases g:(ZG b j).part=0
  ·simp_all[if_pos,if_neg,YA]
  ·rw[if_neg g];by_cases l:(adr (YH b.h (ZG b j))).1=a
   ·simp_all[if_pos,YA]
   simp_all[if_neg,YA]
 simp_all[if_neg,YA]
def Made.once(m:Made b x)(hc:b.h.cycle=true){i:Nat}(n:i<b.g.nodes.length)(q:(ZG b i).part=1):Vl (RH b) (fstL (Zv b.h) 1+(ZG b i).at_)=1:=by
 have key:∀j,j<=b.g.nodes.length->YA ((List.range j).flatMap (Xh b 3)) (fstL (Zv b.h) 1+(ZG b i).at_)+YA ((List.range j).flatMap (Xh b 4)) (fstL (Zv b.h) 1+(ZG b i).at_)=if i<j then 1 else 0:=by
  intro j
  induction j with
  |zero=>grind [YA]
  |succ j t=>
   intro G;have t:=t Z0;have a:j<b.g.nodes.length:=Z0;rw[Zfe,Zfc,Zfc,Nk,Nk];simp only[Zh1,List.flatMap_nil,ZeS]
   have p:YA (Xh b 3 j) (fstL (Zv b.h) 1+(ZG b i).at_)+YA (Xh b 4 j) (fstL (Zv b.h) 1+(ZG b i).at_)=if j=i then 1 else 0:=by
    rw[Nn,Nn];by_cases l:(ZG b j).part=0
    ·grind
    obtain⟨H,C,I⟩:=m.pl.here_in a l;by_cases d:(ZG b j).part=1
    ·have y:=m.cyc hc j a d;obtain⟨v1,_⟩:=m.pl.old_in a y;have B:(adr (YH b.h (ZG b j))).1=fstL (Zv b.h) 1+(ZG b j).at_:=by rw[m.pl.ref_here m.lay a l,UN m.lay Z0,d]
     have heq:(fstL (Zv b.h) 1+(ZG b j).at_=fstL (Zv b.h) 1+(ZG b i).at_)↔j=i:=by
      constructor
      ·intro e;obtain⟨w1,w2,w3⟩:=m.pl.here_in n Z0;rw[d]at C;rw[q]at w2;have z:=yS (ZP b i);have A:=yS (ZP b j);have D:(YS b x 1 i).length=ZM (ZP b i):=by unfold YS;rw[if_pos q];exact Ua _ _ _ _
       have F:(YS b x 1 j).length=ZM (ZP b j):=by unfold YS;rw[if_pos d];exact Ua _ _ _ _
       by_cases w:j<i
       ·obtain⟨r,k⟩:=Jo b x 1 (Z0:j+1<=i);rw[VN]at k
        grind
       ·by_cases u:i<j
        ·obtain⟨r,k⟩:=Jo b x 1 (Z0:i+1<=j);rw[VN]at k
         grind
        ·omega
      ·simp_all
     grind
    ·have f:(ZG b j).part=2:=Z0
     have o:(Y4 b j).part=0:=by
      by_cases h:(Y4 b j).part=0
      ·exact h
      ·exact absurd f (m.pl.old_in a h).2.2.1
     grind
   grind
 have:=key b.g.nodes.length (Zdp _);rw[if_pos n]at this;exact this
end
end
section
section
variable {b:Bt}{x:Rw}
def Made.word(m:Made b x){k:Int}(a:1<=k/\k<=4){i t:Nat}(d:i<b.g.nodes.length)(h:t< (YS b x k i).length):(Zz (Yw x b) k)[(X1 b x k i).length+t]?=(YS b x k i)[t]? :=by
 rw[Eg m.pl a];obtain⟨r,f⟩:=Jo b x k (Z0:i+1<=b.g.nodes.length);simp_all[VN,Zei,ZdI,Zg8,ZdT]
def FI{p:Pl}{n:Nd}{tw:Int}{j:Nat}(a:j<n.ptrs.length):∃q∈n.ptrs,(XO b p n tw)[1+j]?=some (V5 b ⟨p.part,((p.at_.toNat+1+j:Nat):Int)⟩ q (IntKind.i64.wrap (tw+j))):=by
 refine⟨n.ptrs[j],ZdA a,?_⟩;simp_all[XO,Zgo,Zg4,ZdT,XL]
theorem jp(h:Hp)(p:Pts)(k j:Int):YE h p 0 k j=true:=Zdf
def Made.ptr_ok(m:Made b x)(r:∀n∈b.g.nodes,∀q∈n.ptrs,-1<=q/\q< (b.g.nodes.length:Int)){i:Nat}(y:i<b.g.nodes.length){k:Int}{p:Pl}(o:p.part=k){a:Nat}{d tw:Int}(f:d∈(ZP b i).ptrs)(u:((Zz (Yw x b) k)[a]?).getD 0=V5 b ⟨p.part,(a:Int)⟩ d tw):XI (Yw x b) (RH b) k a=true:=by
 have w:=r (ZP b i) (by simp_all[ZP,Zdk,ZdA]) d f;unfold XI;simp only[u];unfold V5;rw[o];by_cases l:d<0
 ·simp_all[if_pos,jp]
 obtain⟨t,rfl⟩:=Zdz (Z0:0<=d);have j:t<b.g.nodes.length:=Z0;rw[if_neg l];have g1:=m.to_here (i:=t) j;have g2:=m.to_old (i:=t) j;unfold ZG at g1;unfold Y4 at g2;simp only[ZdF];by_cases h:2<k
 ·simp_all
 rw[if_neg h,if_neg h];rw[m.fill.2.2.1]
 grind
def Made.ptrs(m:Made b x)(C:∀n∈b.g.nodes,∀q∈n.ptrs,-1<=q/\q< (b.g.nodes.length:Int)){k:Int}(u:1<=k/\k<=4):Xi (Yw x b) (RH b) k=true:=by
 unfold Xi;rw[Bl b u,Zdu];intro o D;obtain⟨i,d,a⟩:=QF.1 D;unfold T8;rw[Zdu];intro j h;rw[Zft]at h;unfold Xh at a;split at a
 ·rename_i f;simp at a;subst a;simp only[ZdF]at h;obtain⟨_,B,_⟩:=m.pl.here_in d Z0;rw[f]at B;have r:YS b x k i=XO b (ZG b i) (ZP b i) (IntKind.i64.wrap (x.slack+i)):=by unfold YS;rw[if_pos f]
  obtain⟨q,z,A⟩:=FI (b:=b) (p:=ZG b i) (tw:=IntKind.i64.wrap (x.slack+i)) h;have w:=m.word u d (t:=1+j) Zcp;rw[r,A]at w;simp only;refine m.ptr_ok C d f (tw:=IntKind.i64.wrap (IntKind.i64.wrap (x.slack+i)+j)) z ?_
  grind
 rename_i f;split at a
 ·rename_i l;obtain⟨_,B,_⟩:=m.pl.old_in d Z0;rw[l]at B;split at a
  ·rename_i y;simp at a;subst a;simp only[ZdF]at h;have r:YS b x k i=XO b (Y4 b i) (ZP b i) 0:=by unfold YS;rw[if_neg f,if_pos l,if_pos y]
   obtain⟨q,z,A⟩:=FI (b:=b) (p:=Y4 b i) (tw:=0) h;have w:=m.word u d (t:=1+j) Zcp;rw[r,A]at w;simp only;refine m.ptr_ok C d l (tw:=IntKind.i64.wrap (0+j)) z ?_
   grind
  ·rename_i y;simp at a;subst a;simp only[ZdF]at h;have r:YS b x k i=Vv b (ZG b i) (ZP b i):=by unfold YS;rw[if_neg f,if_pos l,if_neg y]
   have w:=m.word u d (t:=1+j) (by grind [Rh,ZM])
   have F:(Vv b (ZG b i) (ZP b i))[1+j]?=some 0:=by
    unfold Vv;rw[Zgo 1 j,Zg4,List.getElem?_replicate,if_pos (by grind [ZM])]
   grind [XI,Int.toNat_natCast,X1,jp]
 grind
theorem Made.right(m:Made b x)(z:∀n∈b.g.nodes,∀q∈n.ptrs,-1<=q/\q< (b.g.nodes.length:Int)):Xo (Yw x b)=true:=by
 have j:=m.fill.2.1;have a:(Yw x b).low.length=b.h.low.length:=by have:=Zez Ly.low j;simp only[Zv]at this;omega
 have d:(Yw x b).high.length=b.h.high.length:=by have:=Zez Ly.high j;simp only[Zv]at this;omega
 have u:(Yw x b).old.length=b.h.old.length:=by have:=Zez Ly.old j;simp only[Zv]at this;omega
 have p:(Yw x b).far.length=b.h.far.length:=by have:=Zez Ly.far j;simp only[Zv]at this;omega
 have l:(Yw x b).cap=b.h.cap:=Zez Ly.cap j;refine Mp ?_ m.parts ?_
 ·unfold Wj;have M:=m.scan;have y:=m.pl.ok.rl;have K:(Yw x b).roots.length<=5:=by simp only[Yw,Ze9];exact y
  rw[j,m.lay,m.fill.2.2.1,m.fill.2.2.2,a,u,p]
  grind
 ·unfold Th;simp only[Zdn,ZdH];refine⟨⟨⟨⟨⟨⟨?_,?_⟩,m.ptrs z Z0⟩,m.ptrs z Z0⟩,m.ptrs z Z0⟩,m.ptrs z Z0⟩,?_⟩
  ·rw[m.fill.2.2.2];cases I:b.h.cycle
   ·rfl
   ·simp only[Zg2,ZfO,Zdu];intro o G;obtain⟨i,F,f⟩:=QF.1 G
    have D:(ZG b i).part=1/\o.at_=(ZG b i).at_:=by
     unfold Xh at f;split at f
     ·simp_all
     split at f
     ·rename_i L;have:=(m.pl.old_in F Z0).1;omega
     grind
    have A:=m.ob_in (k:=1) Z0 G;unfold Vo;rw[m.start Z0 A,D.2,ZdH];exact m.once I F D.1
  ·rw[Zdu];intro w H;simp only[Yw,ZdB]at H;obtain⟨r,J,rfl⟩:=H;have y:=m.pl.ok.rts r J;by_cases C:0<=r
   ·rw[if_pos C];have B:=JT (x:=x) m.pl.ok b.g.nodes.length (Zdp _);rw[Bw B];obtain⟨t,rfl⟩:=Zdz C;exact m.to_here (i:=t) Z0
   simp_all[if_neg,jp]
  ·rw[a,d,l];exact m.room
end
end
section
def NX(l r:Zm):Y7 (l++r)=Y7 l+Y7 r:=by simp[Y7]
section
variable {x:Rw}{c:Bool}
def Z84{b:Bt}(f:Placed b x){i:Nat}(p:i<b.g.nodes.length):Y7 (Xh b 3 i)+Y7 (Xh b 4 i)=if(ZG b i).part=0 then ZM (ZP b i)else 0:=by
 have q:((1:Nat)+(((ZP b i).ptrs.length:Int)+(ZP b i).data.length).toNat)=ZM (ZP b i):=by unfold ZM;omega
 obtain⟨l,k,a,d⟩|⟨l,_⟩:=f.here i p
 ·have j:(ZG b i).part=0:=by rw[l]
  rw[if_pos j];obtain rfl|rfl:=a<;>simp[Xh,j,d,Y7,XM,q]
 ·have h:¬(ZG b i).part=0:=Z0;have n:¬(ZG b i).part=3:=Z0;have o:¬(ZG b i).part=4:=Z0
  have:∀k:Int,¬(ZG b i).part=k->Y7 (Xh b k i)=0:=λk a=>by
   unfold Xh;rw[if_neg a,if_neg h];split<;>simp[Y7,XM]
  rw[if_neg h,this 3 n,this 4 o]
def O0(hx:x.ok):∀j,j<=(ZV x.nodes x.roots).nodes.length->Y7 ((List.range j).flatMap (Xh (Yx x c) 3))+Y7 ((List.range j).flatMap (Xh (Yx x c) 4))=(Y3 x c (ZV x.nodes x.roots) j).wt
 |0,_=>rfl
 |j+1,g=>by
  have h:=O0 hx j Z0;have a:=Z84 (N8 (c:=c) hx) (i:=j) (by rw[SP];omega);rw[JI Z0]at a;have f:ZP (Yx x c) j=((ZV x.nodes x.roots).nodes[j]?).getD default:=rfl;rw[f]at a;rw[Zfe,Zfc,Zfc,NX,NX,Y3];simp only[Zh1,List.flatMap_nil,ZeS];generalize ((ZV x.nodes x.roots).nodes[j]?).getD default=n at*;unfold Rj at a;simp only[X6];obtain d|d|⟨d,rfl⟩:=Sh x j c
  ·simp[d]at a⊢;omega
  ·simp[d]at a⊢;omega
  ·simp[d]at a⊢;omega
def Z3m(x:Rw)(c:Bool):∀n∈(Yx x c).g.nodes,∀q∈n.ptrs,-1<=q/\q< ((Yx x c).g.nodes.length:Int):=by
 rw[SP];exact Gi x.nodes x.roots
def Gx(hc:c=false):∀j,(Y3 x c (ZV x.nodes x.roots) j).n3=0/\(Y3 x c (ZV x.nodes x.roots) j).n4=0
 |0=>⟨rfl,rfl⟩
 |j+1=>by
  have:=Gx hc j;subst hc;simpa[Y3,X6]using this
def Gc(hx:x.ok)(hc:c=true->(Yx x true).h.low.length≠0):Made (Yx x c) x:=by
 obtain⟨k1,y,z⟩:=KQ hx c;refine⟨N8 hx,z,?_,?_,?_,?_,y⟩
 ·rw[SP];exact Cd x
 ·intro a i l j;have k:c=true:=a;subst k;rw[SP]at l;rw[JI l]at j;rw[zL l];unfold Rj at j;unfold QO;obtain f|f|⟨f,_⟩:=Sh x i true
  ·simp[f]at j
  ·simp[f];cases Wp x i<;>simp
  ·simp[f]at j
 ·have d:(Yx x c).h.low.length=(Y3 x c (ZV x.nodes x.roots) (ZV x.nodes x.roots).nodes.length).n1:=by simp[Yx]
  cases c
  ·obtain⟨p,q⟩:=Gx (x:=x) (c:=false) rfl (ZV x.nodes x.roots).nodes.length;rw[d];have o:(Yx x false).h.scan=((Y3 x false (ZV x.nodes x.roots) (ZV x.nodes x.roots).nodes.length).n1:Int):=by simp[Yx]
   have a:(Yx x false).h.cycle=false:=rfl;rw[o,a];simp only[Zdy,Ze1];refine⟨Z0,Z0,trivial,?_,?_⟩<;>simp[Yx,p,q]
  ·have f:=hc rfl;rw[d]at f;rw[d]
   have o:(Yx x true).h.scan=pick x.scan (Y3 x true (ZV x.nodes x.roots) (ZV x.nodes x.roots).nodes.length).n1:=by
    simp only[Yx];rw[if_pos ⟨trivial,Z0⟩]
   have a:(Yx x true).h.cycle=true:=rfl;have u:=VY (c:=x.scan) (n:=((Y3 x true (ZV x.nodes x.roots) (ZV x.nodes x.roots).nodes.length).n1:Int)) Z0;rw[o,a];simp only[Ze3];omega
 ·have w:=O0 (c:=c) hx (ZV x.nodes x.roots).nodes.length (Zdp _);have t:(Yx x c).h.low.length=(Y3 x c (ZV x.nodes x.roots) (ZV x.nodes x.roots).nodes.length).n1:=by simp[Yx]
  have r:(Yx x c).h.high.length=(Y3 x c (ZV x.nodes x.roots) (ZV x.nodes x.roots).nodes.length).n2:=by simp[Yx]
  have g:(Yx x c).h.cap=max (((Y3 x c (ZV x.nodes x.roots) (ZV x.nodes x.roots).nodes.length).n1:Int)+(Y3 x c (ZV x.nodes x.roots) (ZV x.nodes x.roots).nodes.length).n2+(Y3 x c (ZV x.nodes x.roots) (ZV x.nodes x.roots).nodes.length).wt) (((Y3 x c (ZV x.nodes x.roots) (ZV x.nodes x.roots).nodes.length).n3:Int)+(Y3 x c (ZV x.nodes x.roots) (ZV x.nodes x.roots).nodes.length).n4)+pick x.slack 12:=rfl;have u:=VY (c:=x.slack) (n:=12) Z0;unfold obs;rw[SP,w,t,r,g];omega
def Z1i(hx:x.ok):∃c,Uu x=Yw x (Yx x c)/\Made (Yx x c) x:=by
 unfold Uu;by_cases h:(Yx x true).h.low.length=0
 ·rw[if_pos h];exact⟨false,rfl,Gc hx Z1⟩
 ·rw[if_neg h];exact⟨true,rfl,Gc hx λ_=>h⟩
def Z1k(hx:x.ok):Xo (Uu x)=true:=by
 obtain⟨c,h,m⟩:=Z1i hx;rw[h];exact m.right (Z3m x c)
end
end
section
def Z3I(l:List Nd):NoM (.sl (l.map Yi)):=by
 have h:=Ar ⟨l,[]⟩;unfold Ym at h;cases h with
 |agg _ h=>exact h _ Z1
def Z3J(x:Rw):NoM (Wd x):=.agg _ λc a=>by
 simp only[ZdG,ZeG,Zgb]at a;obtain rfl|rfl|rfl|rfl|rfl|rfl|rfl:=a
 all_goals first|exact .int _ _|exact Z3I _|exact Z3H _
def Oq{x:Rw}(hx:x.ok):VC (YK Tryz.prog) 8 false [Wd x] (ZD (Uu x)):=up (Ot hx) (Aq (Z3J x)) (SA _)
def CM{h:Hp}(a:h.ok):VC (YK Tryz.prog) 20 false [ZD h] (vi (J8 h)):=up (O9 a) (Aq (SA h)) (.int _ _)
section
variable {h:Hp}{p:Pts}
def Rt.vg_right(r:Rt h p):Vm.right (vg h)=true:=r.view_right r.nroots r.roots
def Rt.ofG(r:Rt h p):ofG h=(Wo (vg h),0):=if_pos ⟨r.right,r.vg_right⟩
end
end
def yV{gone:Bool}{ptrs:Int}:∀ {l:Ze} {i:Nat},Xb l gone ptrs i=true->∀(j:Nat) (w:Int),l[j]?=some w->(gone=true->w=0)/\(((i+j:Nat):Int)<ptrs->WY w=true)
 | [],_,_,j,w,a=>by simp at a
 |y::l,i,d,j,w,a=>by
  simp only[Xb,Zdn]at d;cases j with
  |zero=>
   simp at a;subst a;obtain⟨⟨f,g⟩,_⟩:=d;refine⟨λh=> ?_,λk=> ?_⟩
   ·rw[h]at f;simpa using f
   ·simpa[show(i:Int)<ptrs by omega]using g
  |succ j=>
   have:=yV d.2 j w (by simpa using a);rw[show i+1+j=i+(j+1)by omega]at this;exact this
def Stands.congr{ws a:Ze}{old:Bool}{o:Ob}(s:Stands ws old o)(n:a.length=ws.length)(k:a[o.at_.toNat]?=ws[o.at_.toNat]?)
  (g:∀j:Nat,(j:Int)<o.size->a[o.at_.toNat+1+j]?=ws[o.at_.toNat+1+j]? \/(o.gone=false/\o.ptrs<=j)):Stands a old o:=by
 refine⟨s.nat,s.shape,by rw[n];exact s.fits,RV λj w f=> ?_,by rw[k];exact s.word⟩
 have d:j<o.size.toNat:=by
  have:=(Zdl.1 f).1;simp at this;omega
 rw[Zer d,ZdW]at f;obtain g|⟨l,p⟩:=g j Z0
 ·rw[g]at f;refine yV s.slots j w ?_;rw[Zer d,ZdW];exact f
 ·exact⟨λh=>(by rw[l]at h;cases h),λh=>Z0⟩
section
section
variable {h:Hp}{p:Pts}
def LE(r:Rt h p){q g:Nat}(l:q<4)(f:g<4){o k:Ob}(j:o∈obP h q)(d:k∈obP h g)(a:q≠g\/o.at_≠k.at_):(Yr h q o).ad≠(Yr h g k).ad:=by
 intro e;rw[Sp r l j,Sp r f d]at e;rw[r.obQ l]at j;rw[r.obQ f]at d;obtain⟨t,n⟩:=r.toTld.inj Z0 Z0 j d (by unfold Yk;omega);obtain a|a:=a
 ·omega
 ·rw[n]at a;exact a rfl
def EE(r:Rt h p):∀n q,q+n<=4->(Xm h n q).Pairwise λf g=>f.ad≠g.ad
 |0,q,_=>.nil
 |n+1,q,A=>by
  simp only[Xm];refine List.pairwise_append.2 ⟨?_,EE r n (q+1) Z0,λf t g u=> ?_⟩
  ·rw[List.pairwise_map];have d:=(r.tiles ((q:Int)+1) Z0).pairwise;rw[<-r.obQ Z0]at d;exact d.imp_of_mem λj l w=>LE r Z0 Z0 j l (.inr Z0)
  ·obtain⟨o,x,rfl⟩:=ZdB.1 t;obtain⟨k,B,y,z,a,rfl⟩:=Tu u;exact LE r Z0 Z0 x a (.inl Z0)
def Z3P(r:Rt h p){i j:Nat}{f g:Fo}(q:(Yo h).ns[i]?=some f)(t:(Yo h).ns[j]?=some g)(e:f.ad=g.ad):i=j:=by
 have d:(Yo h).ns.Pairwise λf g=>f.ad≠g.ad:=by
  rw[Cs];exact(EE r 4 0 Z0).filter _
 have d:=List.pairwise_iff_getElem.1 d;obtain⟨k,l⟩:=Zdl.1 q;obtain⟨n,o⟩:=Zdl.1 t;obtain a|a|a:=Nat.lt_trichotomy j i
 ·exact(d j i n k a (by rw[l,o,e])).elim
 ·exact a.symm
 ·exact(d i j k n a (by rw[l,o,e])).elim
end
end
section
def SM(h:Hp)(w:Int):Int:=(Y0 (Yo h).tm (adr w).1).getD (adr w).1
def Np(h:Hp){w:Int}(a:w≠0):(Yo h).toA w=(Y0 (Yo h).nm (SM h w)).getD 0:=by
 unfold Vw.toA SM;rw[if_neg a]
section
variable {h g:Hp}{p q:Pts}
def Mt(r:Rt h p){f:Fo}(j:f∈Xm h 4 0)(k:f.ob.gone=false){w:Int}(d:(adr w).1=f.ad):SM h w=f.ad:=by
 have:Y0 (Yo h).tm f.ad=none:=by
  cases l:Y0 (Yo h).tm f.ad with
  |none=>rfl
  |some t=>
   obtain⟨x,k1,a,n,_⟩:=(S7 h).t1 _ _ l;rw[JF r k1 j n,k]at a;cases a
 unfold SM;rw[d,this,Zhb]
def BG(r:Rt h p){f:Fo}(a:f∈Xm h 4 0)(k:f.ob.gone=true){w:Int}(j:(adr w).1=f.ad):SM h w=f.ob.target:=by
 obtain⟨t,e⟩:=Zet.1 ((S7 h).t2 f a k);obtain⟨x,k1,n,l,d⟩:=(S7 h).t1 _ _ e;rw[JF r k1 a l]at d;unfold SM;rw[j,e,ZdN,d]
def Q3{α:Type}(R:α->α->Prop):List α->List α->Prop
 | [],[]=>True
 |a::l,b::m=>R a b/\Q3 R l m
 |_,_=>False
def Q8(h g:Hp)(τ:Int->Int)(w w':Int):Prop:=(w=0/\w'=0)\/(w≠0/\w'≠0/\∃f∈(Yo h).ns,f.ad=SM h w/\SM g w'=τ f.ad)
def CN(h g:Hp)(τ:Int->Int)(f a:Fo):Prop:=a.ad=τ f.ad/\a.ob.ptrs=f.ob.ptrs/\a.sl.drop f.ob.ptrs.toNat=f.sl.drop f.ob.ptrs.toNat/\Q3 (Q8 h g τ) (f.sl.take f.ob.ptrs.toNat) (a.sl.take f.ob.ptrs.toNat)
def Sz(h g:Hp)(τ:Int->Int)(i:Int):Int:=if 0<=i then(((Yo h).ns[i.toNat]?).bind λf=>Y0 (Yo g).nm (τ f.ad)).getD 0 else i
def Z7s(r:Rt h p){τ:Int->Int}{w w':Int}(t:Q8 h g τ w w'):(Yo g).toA w'=Sz h g τ ((Yo h).toA w):=by
 obtain⟨rfl,rfl⟩|⟨k,l,f,n,d,j⟩:=t
 ·simp[Vw.toA,Sz]
 ·obtain⟨a,o⟩:=Uc.1 n;obtain⟨i,k1,u⟩:=r.to_nm a o;rw[Np h k,Np g l,<-d,j,k1];simp[Sz,u]
def A6(r:Rt h p){τ:Int->Int}:∀ {l f:Ze},Q3 (Q8 h g τ) l f->f.map (Yo g).toA=(l.map (Yo h).toA).map (Sz h g τ)
 | [],[],_=>rfl
 |a::l,b::m,d=>by rw[ZdK,ZdK,ZdK,Z7s r d.1,A6 r d.2]
 | [],_::_,d=>d.elim
 |_::_,[],d=>d.elim
def Z7H(r:Rt h p)(s:Rt g q)(τ:Int->Int)(N:∀f∈(Yo h).ns,∃a∈(Yo g).ns,CN h g τ f a)
  (t:∀f∈(Yo h).ns,∀a∈(Yo h).ns,τ f.ad=τ a.ad->f.ad=a.ad) (B:Q3 (Q8 h g τ) h.roots g.roots):Wo (vg g)=Wo (vg h):=by
 have key:∀x:Int,x∈order (vg h)->∃(i n:Nat) (f a:Fo),x=i/\(Yo h).ns[i]?=some f/\(Yo g).ns[n]?=some a/\Sz h g τ x=n/\CN h g τ f a:=by
  intro x l;obtain⟨R,W⟩:=(AE r.vg_right).2 x l;have G:(vg h).nodes.length=(Yo h).ns.length:=by simp[vg,Vw.gr]
  have F:x.toNat< (Yo h).ns.length:=Z0;have D:=Zdk F;obtain⟨a,z,d⟩:=N _ (ZdA F);generalize (Yo h).ns[x.toNat]=f at*;obtain⟨A,M⟩:=Uc.1 z;obtain⟨n,k1,Q⟩:=s.to_nm A M;refine⟨x.toNat,n,f,a,Z0,D,Q,?_,d⟩;unfold Sz;rw[if_pos R,D,Zdt,<-d.1,k1];rfl
 refine(Z07 r.vg_right s.vg_right (Sz h g τ) (by simp[Sz]) (λx l y O e=> ?_) (λx l=> ?_) (A6 r B) λx l=> ?_).2
 ·obtain⟨i,n,f,a,rfl,o,u,w,C⟩:=key x l;obtain⟨j,m,k,U,rfl,H,I,T,P⟩:=key y O;have:n=m:=Z0;subst this;rw[u]at I;cases I;have:=Z3P r o H (t f (Zdr o) k (Zdr H) (C.1.symm.trans P.1));omega
 ·obtain⟨i,n,f,a,rfl,o,u,w,C⟩:=key x l;omega
 ·obtain⟨i,n,f,a,rfl,o,u,w,S,J,K,L⟩:=key x l;rw[w];simp only[vg,Vw.gr,outs,ZdJ,ZdF,o,u,ZdD,ZdN,Uz,J,K,A6 r L]
def qr{α:Type}{R:α->α->Prop}:∀ {l:List α},(∀a∈l,R a a)->Q3 R l l
 | [],_=>trivial
 |a::l,h=>⟨h a Z1,qr λx d=>h x (by simp[d])⟩
def Jf(r:Rt h p){j:Nat}(a:j<4){x:Ob}(hx:x∈p.at ((j:Int)+1)):(Yr h j x).ad=fstL (Zv h) ((j:Int)+1)+x.at_:=Sp r a (by rw[r.obQ a];exact hx)
def TC(r:Rt h p){j:Nat}(a:j<4){x:Ob}(hx:x∈p.at ((j:Int)+1)):Yr h j x∈Xm h 4 0:=zm (by rw[r.obQ a];exact hx) Z0 Z0
end
end
section
section
variable {h:Hp}{p:Pts}
def Body.fwd_here(r:Body h p){k:Int}(d:1<=k/\k<=2){o:Ob}(f:o∈p.at k):Vm.fwd h (Yk (Zv h) k o.at_)=(Yk (Zv h) k o.at_,h,0):=by
 obtain⟨a,n,m,g,_,_,j,_⟩:=r.toTld.ob Z0 f;exact Vm.fwd_here r.lay d ⟨Z0,Z0⟩
def Body.fwd_gone(r:Body h p){k:Int}(q:3<=k/\k<=4){o:Ob}(g:o∈p.at k)(l:o.gone=true):Vm.fwd h (Yk (Zv h) k o.at_)=(2*o.target+1,h,0):=by
 obtain⟨a,n,m,f,_,_,t,_⟩:=r.toTld.ob Z0 g;obtain⟨u,j,d⟩:=((r.tiles k Z0).stands o g).1.word;rw[if_pos l]at d;rw[f,ZdF]at j;rw[f,Vm.fwd_gone r.lay q j d.2.1,NO d.2.1 d.2.2.symm]
def Body.fwd_wait(r:Body h p){k:Int}(t:3<=k/\k<=4){o:Ob}(f:o∈p.at k)(q:o.gone=false){a n:Nat}(j:o.at_=a)(l:o.size=n):
  Vm.fwd h (Yk (Zv h) k o.at_)=(Yk (Zv h) 1 h.low.length,Yn h k a (n+1),0)/\((n+1:Nat):Int)<=Xu (Zv h):=by
 obtain⟨z,y,m,A,B,_,C,_⟩:=r.toTld.ob Z0 f;have:z=a:=Z0;subst this;have:y=n:=Z0;subst this;obtain⟨u,x,d⟩:=((r.tiles k Z0).stands o f).1.word;rw[if_neg (by simp[q])]at d;rw[j,ZdF]at x;have D:=r.room;have g:=Z7K t f;unfold XM at g;rw[q,l]at g;simp at g;have e:Xu (Zv h)=h.cap-h.low.length-h.high.length:=by unfold Xu;rw[if_pos r.lay];rfl
 have w:((y+1:Nat):Int)<=Xu (Zv h):=Z0;rw[j];exact⟨Vm.fwd_wait r.lay t x (d.1 (ZgW Z0)) (by rw[d.2.1,l]) C w,w⟩
end
def Aj(h:Hp){k:Int}(d:3<=k/\k<=4)(a n:Nat):(Yn h k a n).low=h.low++((Zz h k).take (a+n)).drop a/\(Yn h k a n).high=h.high/\Zz (Yn h k a n) k=(zr (Zz h k) a n).set a (Yk (Zv h) 1 h.low.length)/\Zz (Yn h k a n) (7-k)=Zz h (7-k)/\
  (Yn h k a n).roots=h.roots/\(Yn h k a n).scan=h.scan/\(Yn h k a n).cycle=h.cycle/\(Yn h k a n).cap=h.cap/\(Yn h k a n).base=h.base/\(Yn h k a n).to=h.to:=by
 have:k=3\/k=4:=Z0;obtain rfl|rfl:=this<;>exact⟨rfl,rfl,rfl,rfl,rfl,rfl,rfl,rfl,rfl,rfl⟩
end
section
def O4{ws:Ze}{a:Nat}:∀ {n j:Nat},j<n->a+n<=ws.length->(zr ws a n)[a+j]?=some 0
 |0,_,h,_=>Z0
 |n+1,j,h,d=>by
  rw[zr];by_cases e:j=n
  ·subst e;rw[ZfF (by rw[qi];omega)]
  ·rw[ZeW Z0];exact O4 Z0 Z0
def Stands.app{ws r:Ze}{old:Bool}{o:Ob}(s:Stands ws old o):Stands (ws++r) old o:=by
 have l:=Yf.1 s.shape;have g:=s.fits;have k:=s.nat;have f:(ws++r)[o.at_.toNat]?=ws[o.at_.toNat]? :=ZdT Z0;refine⟨s.nat,s.shape,Zcr,RV λj w d=> ?_,by rw[f];exact s.word⟩
 have a:j<o.size.toNat:=by
  have:=(Zdl.1 d).1;simp at this;omega
 rw[Zer a,ZdW,ZdT Z0]at d;refine yV s.slots j w ?_;simp_all
def Tiles.append{ws r:Ze}{old:Bool}:∀ {a:Nat} {l d:Zm},Tiles ws old a l->a<=ws.length->Tiles (ws++r) old ws.length d->Tiles (ws++r) old a (l++d)
 |a,[],d,h,g,f=>by
  have:ws.length<=a:=h;have:a=ws.length:=Z0;subst this;exact f
 |a,o::l,d,h,g,f=>by
  have k:=Yf.1 h.2.1.shape;have j:=h.2.1.fits;have e:=h.1;exact⟨h.1,h.2.1.app,Tiles.append h.2.2 Z0 f⟩
theorem Tiles.map{ws d:Ze}{old:Bool}{f:Ob->Ob}(g:∀o,(f o).at_=o.at_/\(f o).size=o.size)(j:d.length=ws.length):∀ {a:Nat} {l:Zm},Tiles ws old a l->(∀o∈l,Stands d old (f o))->Tiles d old a (l.map f)
 |a,[],h,_=>by show d.length<=a;rw[j];exact h
 |a,o::l,h,k=>⟨by rw[(g o).1];exact h.1,k o (.head _),by rw[(g o).2];exact Tiles.map g j h.2.2 λx n=>k x (.tail _ n)⟩
def WO(a t:Int)(q:Ob):Ob:=if q.at_=a then {q with gone:=true,target:=t}else q
theorem JG(a t:Int)(q:Ob):(WO a t q).at_=q.at_/\(WO a t q).size=q.size/\(WO a t q).ptrs=q.ptrs:=by
 unfold WO
 grind
theorem UX{a t:Int}{q:Ob}(h:q.at_≠a):WO a t q=q:=if_neg h
theorem Tw{a t:Int}{q:Ob}(h:q.at_=a):WO a t q= {q with gone:=true,target:=t}:=if_pos h
def Pts.mv(p:Pts)(k:Int)(o:Ob)(L:Nat)(t:Int):Pts:=⟨p.low++[⟨L,o.size,o.ptrs,false,0⟩],p.high,if k=3 then p.old.map (WO o.at_ t)else p.old,if k=3 then p.far else p.far.map (WO o.at_ t)⟩
section
variable {h:Hp}{p:Pts}
def zy{k:Int}(a:3<=k/\k<=4)(o:Ob)(L:Nat)(t:Int):(p.mv k o L t).at 1=p.low++[⟨L,o.size,o.ptrs,false,0⟩]/\(p.mv k o L t).at 2=p.high/\(p.mv k o L t).at k=(p.at k).map (WO o.at_ t)/\(p.mv k o L t).at (7-k)=p.at (7-k):=by
 have:k=3\/k=4:=Z0;obtain rfl|rfl:=this<;>exact⟨rfl,rfl,rfl,rfl⟩
def Z3z{k:Int}(d:3<=k/\k<=4){o:Ob}{L:Nat}{t:Int}{j:Int}(w:1<=j/\j<=4){q:Ob}(x:q∈p.at j):∃a∈(p.mv k o L t).at j,a.at_=q.at_/\a.size=q.size/\a.ptrs=q.ptrs/\(a.gone=false->a=q)/\(j<3->a=q):=by
 obtain⟨l,n,r,u⟩:=zy (p:=p) d o L t;by_cases f:j=1
 ·subst f;exact⟨q,Zcq,rfl,rfl,rfl,λ_=>rfl,λ_=>rfl⟩
 by_cases g:j=2
 ·subst g;exact⟨q,Zcq,rfl,rfl,rfl,λ_=>rfl,λ_=>rfl⟩
 by_cases y:j=k
 ·grind [WO,List.mem_map_of_mem,JG,Tw,UX]
 grind
def Z3y{g:Hp}{k:Int}(f:3<=k/\k<=4){o:Ob}{L:Nat}{t:Int}(r:∀j b,Yk (Zv g) j b=Yk (Zv h) j b){w i j:Int}(x:1<=i/\i<=4)(y:1<=j/\j<=4)(d:XN h p w i j):XN g (p.mv k o L t) w i j:=by
 obtain rfl|⟨m,q,l,n,rfl⟩:=d
 ·exact .inl rfl
 ·obtain⟨u,a,e,_⟩:=Z3z (p:=p) f (o:=o) (L:=L) (t:=t) (j:=m) Z0 n;exact .inr ⟨m,u,l,a,by rw[r,e]⟩
def NZ{l:Zm}{o:Ob}{t:Int}(d:l.Pairwise λx y=>x.at_<y.at_)(a:o∈l)(j:o.gone=false):Y7 (l.map (WO o.at_ t))+(1+o.size.toNat)=Y7 l:=by
 induction l with
 |nil=>simp at a
 |cons x l g=>
  rw[ZgR]at d;simp only[Y7,ZdK,List.sum_cons]at g⊢;obtain rfl|a:=ZdG.1 a
  ·have:l.map (WO o.at_ t)=l:=by
    conv=>rhs;rw[<-List.map_id l]
    refine Zf2 λy f=>UX ?_;have:=d.1 y f;omega
   rw[this,Tw rfl]
   grind [XM]
  grind [UX]
def Body.move(r:Body h p)(b5:h.scan<=h.low.length){k:Int}(G:3<=k/\k<=4){o:Ob}(N:o∈p.at k)(Y:o.gone=false){a n:Nat}(X:o.at_=a)(L:o.size=n):
  Body (Yn h k a (n+1)) (p.mv k o h.low.length (fstL (Zv h) 1+h.low.length)):=by
 obtain⟨B,D,m,a6,a8,em,I,b2,b1⟩:=r.toTld.ob (k:=k) Z0 N;have:B=a:=Z0;subst this;have:D=n:=Z0;subst this;obtain⟨_,hm⟩:=r.fwd_wait G N Y X L;obtain⟨m1,m2,m3,m4,m5,m6,m7,m8,m9,b7⟩:=Aj h G B (D+1);have W:=Ah G (g:=h) I;have mr:=Z3t r.lay G I hm;have hr:=Z5K G I;have hw:∀ {j:Int} {b:Nat},3<=j/\j<=4->(j≠k\/b<B\/B+(D+1)<=b)->(Zz (Yn h k B (D+1)) j)[b]?=(Zz h j)[b]? :=λC hb=>Ak G Z0 C hb;have M:∀ {j:Int},3<=j/\j<=4->(Zz (Yn h k B (D+1)) j).length=(Zz h j).length:=λC=>Ai G C;have P:fstL (Zv (Yn h k B (D+1))) 1=fstL (Zv h) 1:=by rw[W];rfl
 have T:∀i,i<D+1->(((Zz h k).take (B+(D+1))).drop B)[i]?=(Zz h k)[B+i]? :=λi z=>by
  simp_all
 have a3:(((Zz h k).take (B+(D+1))).drop B).length=D+1:=Zcr;obtain⟨e1,e2,e3,e4⟩:=zy (p:=p) G o h.low.length (fstL (Zv h) 1+h.low.length);have H:=((r.tiles k Z0).stands o N).1;obtain⟨u,hu,hc⟩:=H.word;rw[if_neg (by simp[Y])]at hc;rw[X,ZdF]at hu;generalize b0:Yn h k B (D+1)=g at*;generalize a5:((Zz h k).take (B+(D+1))).drop B=ws at*
 have a0:∀q∈p.at k,q.at_≠o.at_->∀i:Nat,(i:Int)<=q.size->q.at_.toNat+i<B\/B+(D+1)<=q.at_.toNat+i:=by
  intro q d Q i z;obtain⟨b,l,_,eb,el,_⟩:=r.toTld.ob (k:=k) Z0 d;rcases(r.tiles k Z0).apart q d o N with e|e|e
  ·simp_all
  ·left;omega
  ·omega
 have F:∀q∈p.at k,q.at_≠o.at_->∀i:Nat,(i:Int)<=q.size->(Zz g k)[q.at_.toNat+i]?=(Zz h k)[q.at_.toNat+i]? :=λq d Q i z=>hw G (.inr (a0 q d Q i z));have Z:∀b,(Zz g (7-k))[b]?=(Zz h (7-k))[b]? :=λb=>hw Z0 (.inl Z0)
 have R:Stands (h.low++ws) false ⟨h.low.length,o.size,o.ptrs,false,0⟩:=by
  refine⟨Z1,H.shape,Zcr,RV λj w C=>⟨Z1,λS=> ?_⟩,u,?_,?_⟩
  ·have J:j<D:=by
    have:=(Zdl.1 C).1;simp[L]at this;omega
   simp only[L,ZdF]at C;rw[Zer J,ZdW,ZdI Z0,show h.low.length+1+j-h.low.length=1+j by omega,T _ Z0]at C;refine(yV H.slots j w ?_).2 S;rw[X,L,ZdF,ZdF,Zer J,ZdW,<-C,ZeF]
  ·simp only[ZdF]
   grind
  ·grind
 have a4:=WB r.lay 1;refine⟨⟨mr,λj C=> ?_⟩,λj C q d A=> ?_,λj C q d A i z w f=> ?_,?_⟩
 ·by_cases j1:j=1
  ·subst j1;rw[e1];simp only[QS,m1];exact(r.tiles 1 Z0).append (Zex _) ⟨rfl,R,by show(h.low++ws).length<=_;simp[L,a3];omega⟩
  by_cases j2:j=2
  ·subst j2;rw[e2];simp only[zW,m2];exact r.tiles 2 Z0
  by_cases U:j=k
  ·subst U;rw[e3];refine(r.tiles j Z0).map (λq=>⟨(JG _ _ q).1,(JG _ _ q).2.1⟩) (M G) λq d=> ?_;by_cases e:q.at_=o.at_
   ·have:q=o:=r.toTld.same_at Z0 N d e;subst this;rw[Tw rfl];refine⟨H.nat,H.shape,Zcp,RV λi w z=> ?_,Yk (Zv h) 1 h.low.length,?_,?_⟩
    ·have J:i<D:=by
      have:=(Zdl.1 z).1;simp[L]at this;omega
     simp only[X,L,ZdF]at z;rw[Zer J,ZdW,m3,ZeW Z0,ZeF,O4 Z0 I]at z;cases z;exact⟨λ_=>rfl,λ_=>rfl⟩
    ·grind [Int.toNat_natCast,List.getElem?_set_self,qi]
    ·simp only[Ze3];rw[UN r.lay Z0]
     grind
   ·rw[UX e];refine((r.tiles j Z0).stands q d).1.congr (M G) (by simpa using F q d e 0 (by have:=Yf.1 ((r.tiles j Z0).stands q d).1.shape;omega)) λi z=>.inl ?_;rw[ZeF];exact F q d e (1+i) Z0
  ·have:j=7-k:=Z0;subst this;rw[e4,m4];exact r.tiles (7-k) Z0
 ·by_cases U:j=k
  ·subst U;rw[e3,ZdB]at d;obtain⟨x,O,rfl⟩:=d;by_cases e:x.at_=o.at_
   ·have:x=o:=r.toTld.same_at Z0 N O e;subst this;rw[Tw rfl];exact⟨_,Zfp _ (.head _),by rw[P],rfl,rfl⟩
   ·rw[UX e]at A⊢;obtain⟨y,hy,y1,y2,y3⟩:=r.gone j C x O A;exact⟨y,ZeI _ hy,Z0,y2,y3⟩
  ·have:j=7-k:=Z0;subst this;rw[e4]at d;obtain⟨y,hy,y1,y2,y3⟩:=r.gone _ C q d A;exact⟨y,ZeI _ hy,Z0,y2,y3⟩
 ·have a9:∀ {w i j:Int},1<=i/\i<=4->1<=j/\j<=4->XN h p w i j->XN g (p.mv k o h.low.length (fstL (Zv h) 1+h.low.length)) w i j:=λz C=>Z3y G hr z C
  have K:∀ {j:Int} {i:Nat} {w:Int},U3 h p j i w->U3 g (p.mv k o h.low.length (fstL (Zv h) 1+h.low.length)) j i w:=λ{j i w} S=>by
   unfold U3 at S⊢;rw[m6];by_cases c1:2<j
   ·grind
   rw[if_neg c1]at S⊢;by_cases c2:j=1/\h.scan<=i
   ·grind
   ·rw[if_neg c2]at S⊢;grind
  by_cases j1:j=1
  ·subst j1;rw[e1]at d;obtain d|d:=ZdL.1 d
   ·obtain⟨b,l,l',eb,el,a7,a1,_⟩:=r.toTld.ob (k:=1) Z0 d;simp only[QS]at a1 f;rw[m1,ZdT Z0]at f;exact K (r.ptr 1 Z0 q d A i z w f)
   ·simp at d;subst d;simp only at z f⊢;simp only[ZdF,QS,m1]at f⊢;rw[ZdI Z0,show h.low.length+1+i-h.low.length=1+i by omega,T _ Z0]at f;have:=r.ptr k Z0 o N Y i z w (by grind [Int.toNat_natCast,Nat.add_assoc]);unfold U3 at this⊢;rw[if_pos Z0]at this;rw[if_neg Z0,if_pos ⟨rfl,Z0⟩]
    grind
  by_cases j2:j=2
  ·subst j2;rw[e2]at d;simp only[zW,m2]at f;exact K (r.ptr 2 Z0 q d A i z w f)
  by_cases U:j=k
  ·subst U;rw[e3,ZdB]at d;obtain⟨x,O,rfl⟩:=d;by_cases e:x.at_=o.at_
   ·grind [Tw]
   ·rw[UX e]at A z f⊢;have b3:=(Yf.1 ((r.tiles j Z0).stands x O).1.shape).2.2.2;rw[ZeF,F x O e (1+i) Z0,<-ZeF]at f;exact K (r.ptr j C x O A i z w f)
  ·have:j=7-k:=Z0;subst this;rw[e4]at d;rw[m4]at f;exact K (r.ptr _ C q d A i z w f)
 ·have b4:=r.room
  have b6:XT (p.mv k o h.low.length (fstL (Zv h) 1+h.low.length))+(1+D)=XT p:=by
   have h1:=(r.tiles k Z0).pairwise;have:=NZ (t:=fstL (Zv h) 1+h.low.length) h1 N Y;rw[L,ZdF]at this;unfold XT;have a2:k=3\/k=4:=Z0;obtain rfl|rfl:=a2
   ·simp only[Pts.at3]at this;simp only[Pts.mv,Ze3];omega
   ·simp only[Pts.at4]at this;simp only[Pts.mv,show ¬(4:Int)=3 by omega,Ze1];omega
  grind
end
end
section
def ql(h:Hp)(p:Pts):Prop:=∀o∈p.low,Vl p (fstL (Zv h) 1+o.at_)=1
section
variable {h g:Hp}{p q:Pts}
def Z7p{l:Zm}{o:Ob}{t b:Int}(d:l.Pairwise λx y=>x.at_<y.at_)(a:o∈l)(j:o.gone=false):YA (l.map (WO o.at_ t)) b=YA l b+if t=b then 1 else 0:=by
 induction l with
 |nil=>simp at a
 |cons x l k=>
  rw[ZgR]at d
  have e:∀(y:Ob) (r:Zm),YA (y::r) b=(if y.gone=true/\y.target=b then 1 else 0)+YA r b:=λy r=>by
   unfold YA
   grind
  rw[ZdK,e,e];obtain rfl|a:=ZdG.1 a
  ·have:l.map (WO o.at_ t)=l:=by
    conv=>rhs;rw[<-List.map_id l]
    refine Zf2 λy f=>UX ?_;have:=d.1 y f;omega
   rw[this,Tw rfl]
   grind
  grind [UX]
def Z7q(r:Body h p){b:Int}(t:h.low.length<=b):Vl p (fstL (Zv h) 1+b)=0:=by
 have key:∀k:Int,3<=k/\k<=4->YA (p.at k) (fstL (Zv h) 1+b)=0:=λk d=>by
  unfold YA;rw[Zf6,Zhd];intro o f a;simp only[Zdn,ZdH]at a;obtain⟨y,j,e,_⟩:=r.gone k d o f a.1;have:=r.toTld.low_at j;omega
 have l:=key 3 Z0;have n:=key 4 Z0;simp_all[Pts.at3,Pts.at4,Vl]
def Z7n(r:Body h p){k:Int}(l:3<=k/\k<=4){o:Ob}(j:o∈p.at k)(f:o.gone=false){L:Nat}{t b:Int}:Vl (p.mv k o L t) b=Vl p b+if t=b then 1 else 0:=by
 have d:=Z7p (t:=t) (b:=b) (r.tiles k Z0).pairwise j f;unfold Vl;have a:k=3\/k=4:=Z0;obtain rfl|rfl:=a
 ·simp only[Pts.at3]at d;simp only[Pts.mv,Ze3];omega
 ·simp only[Pts.at4]at d;simp only[Pts.mv,show ¬(4:Int)=3 by omega,Ze1];omega
structure Ext (h:Hp) (p:Pts) (g:Hp) (q:Pts):Prop where
 low:∃ws,g.low=h.low++ws
 high:g.high=h.high
 base:g.base=h.base
 cap:g.cap=h.cap
 tos:g.to=h.to
 cycle:g.cycle=h.cycle
 scan:g.scan=h.scan
 roots:g.roots=h.roots
 oldL:g.old.length=h.old.length
 farL:g.far.length=h.far.length
 obsL:∃r,q.low=p.low++r
 obsH:q.high=p.high
 obsO:∀k:Int,3<=k/\k<=4->(q.at k).map (λo=>(o.at_,o.size,o.ptrs))=(p.at k).map (λo=>(o.at_,o.size,o.ptrs))
 gone:∀k:Int,3<=k/\k<=4->∀(i:Nat) (o o':Ob),(p.at k)[i]?=some o->(q.at k)[i]?=some o'->(o.gone=true->o'=o)/\(o'.gone=false->o'=o/\∀j:Nat,(j:Int)<=o.size->(Zz g k)[o.at_.toNat+j]?=(Zz h k)[o.at_.toNat+j]?)
 room:(g.low.length:Int)+XT q=h.low.length+XT p
def Ext.refl(h:Hp)(p:Pts):Ext h p h p:=
 ⟨⟨[],Z1⟩,rfl,rfl,rfl,rfl,rfl,rfl,rfl,rfl,rfl,⟨[],Z1⟩,rfl,λ_ _=>rfl,λk f i o j a d=>Zcq,rfl⟩
def Ext.fst(e:Ext h p g q)(k a:Int)(d:k=1\/k=3\/k=4\/k=2):Yk (Zv g) k a=Yk (Zv h) k a:=by
 unfold Yk fstL Zv;simp only[e.base,e.cap,e.tos,e.high,e.farL]
def Ext.mem(e:Ext h p g q){j:Int}(l:1<=j/\j<=4){o:Ob}(f:o∈p.at j):∃a∈q.at j,a.at_=o.at_/\a.size=o.size/\a.ptrs=o.ptrs:=by
 have d:j=1\/j=2\/j=3\/j=4:=Z0;obtain rfl|rfl|k:=d
 ·obtain⟨r,n⟩:=e.obsL;exact⟨o,Zcq,rfl,rfl,rfl⟩
 ·exact⟨o,by show o∈q.high;rw[e.obsH];exact f,rfl,rfl,rfl⟩
 ·have:=e.obsO j Z0
  grind [List.mem_map_of_mem,Prod.mk.injEq]
def Ext.gos(e:Ext h p g q){w i j:Int}(t:1<=i/\i<=4)(u:1<=j/\j<=4)(l:XN h p w i j):XN g q w i j:=by
 obtain rfl|⟨m,o,f,n,rfl⟩:=l
 ·exact .inl rfl
 ·have a:1<=m/\m<=4:=by obtain rfl|rfl:=f<;>assumption
  obtain⟨r,d,k,_⟩:=e.mem a n;exact .inr ⟨m,r,f,d,by rw[e.fst _ _ Z0,k]⟩
theorem Body.ext(r:Body h p)(T:h.scan<=h.low.length){k:Int}(f:3<=k/\k<=4){o:Ob}(y:o∈p.at k)(H:o.gone=false){a n:Nat}(ea:o.at_=a)(P:o.size=n):
  Ext h p (Yn h k a (n+1)) (p.mv k o h.low.length (fstL (Zv h) 1+h.low.length)):=by
 obtain⟨u,z,m,O,Q,em,B,S,R⟩:=r.toTld.ob (k:=k) Z0 y;have:u=a:=Z0;subst this;have:z=n:=Z0;subst this;obtain⟨X,Y,m3,m4,Z,m6,m7,m8,m9,F⟩:=Aj h f u (z+1);obtain⟨L,M,N,e4⟩:=zy (p:=p) f o h.low.length (fstL (Zv h) 1+h.low.length);have U:(Yn h k u (z+1)).old.length=h.old.length:=Ai (j:=3) f Z0;have W:(Yn h k u (z+1)).far.length=h.far.length:=Ai (j:=4) f Z0;refine⟨⟨_,X⟩,Y,m9,m8,F,m7,m6,Z,U,W,⟨_,L⟩,M,λj I=> ?_,λj I i x x' w A=> ?_,?_⟩
 ·by_cases K:j=k
  ·simp_all[ZfM,Zf2,JG,fstL,Zv,Function.comp]
  ·have:j=7-k:=Z0;simp_all
 ·by_cases K:j=k
  ·subst K;rw[N,ZdJ,w]at A;simp at A;subst A;have d:=Zdr w;by_cases e:x.at_=o.at_
   ·have:x=o:=r.toTld.same_at Z0 y d e;subst this;rw[Tw rfl];exact⟨λh=>(by rw[H]at h;cases h),λh=>ZcC⟩
   ·rw[UX e];refine⟨λ_=>rfl,λ_=>⟨rfl,λi hi=>Ak f Z0 I (.inr ?_)⟩⟩;obtain⟨b,l,_,eb,el,_⟩:=r.toTld.ob (k:=j) Z0 d;rcases(r.tiles j Z0).apart x d o y with G|G|G
    ·simp_all
    ·left;omega
    omega
  ·have:j=7-k:=Z0;simp_all
 ·have w:=(r.tiles k Z0).pairwise;have D:=NZ (t:=fstL (Zv h) 1+h.low.length) w y H;rw[P,ZdF]at D;have J:=Z3s f B;unfold XT;have C:k=3\/k=4:=Z0;obtain rfl|rfl:=C
  ·simp only[Pts.at3]at D;simp only[Pts.mv,Ze3];omega
  ·simp only[Pts.at4]at D;simp only[Pts.mv,show ¬(4:Int)=3 by omega,Ze1];omega
def Z48(r:Body h p)(f:ql h p)(j:h.scan<=h.low.length){k:Int}(t:3<=k/\k<=4){o:Ob}(u:o∈p.at k)(l:o.gone=false){a n:Nat}(w:o.at_=a)(y:o.size=n):
  ql (Yn h k a (n+1)) (p.mv k o h.low.length (fstL (Zv h) 1+h.low.length)):=by
 have e:=r.ext j t u l w y
 have z:fstL (Zv (Yn h k a (n+1))) 1=fstL (Zv h) 1:=by
  have:=e.fst 1 0 (.inl rfl);unfold Yk at this;omega
 intro x d;rw[Z7n r t u l,z];obtain d|d:=ZdL.1 d
 ·have:=r.toTld.low_at d;rw[f x d,if_neg Z0]
 simp_all[Z7q,Int.le_refl]
end
end
section
section
variable {h g:Hp}{p q:Pts}
def Z0H(r:Rt h p)(hc:h.cycle=true)(b:Body g q)(f:ql g q)(e:Ext h p g q):Rt g q:=by
 obtain⟨n,a⟩:=e.low;have l:h.low.length<=g.low.length:=by rw[a,Ze8];omega
 have j:=r.scanL;have k:=r.cyc hc;refine⟨b,by rw[e.roots];exact r.nroots,by rw[e.scan];exact r.scan0,by rw[e.scan];omega,λ_=>by rw[e.scan];omega,λd=> ?_,λ_=>f,λw a=> ?_⟩
 ·rw[e.cycle,hc]at d;cases d
 ·rw[e.roots]at a;exact e.gos Z0 Z0 (r.roots w a)
def Ext.fstL(e:Ext h p g q){j:Int}(a:1<=j/\j<=4):Vm.fstL (Zv g) j=Vm.fstL (Zv h) j:=by
 have:=e.fst j 0 Z0
 grind [Yk]
def Z3v(r:Rt h p)(hc:h.cycle=true){k:Int}(hk:3<=k/\k<=4){o:Ob}(T:o∈p.at k)(hg:o.gone=false){a n:Nat}(ea:o.at_=a)(en:o.size=n):
  Rt (Yn h k a (n+1)) (p.mv k o h.low.length (Vm.fstL (Zv h) 1+h.low.length))/\Wo (vg (Yn h k a (n+1)))=Wo (vg h):=by
 have e:=r.toBody.ext r.scanL hk T hg ea en;have s:=Z0H r hc (r.toBody.move r.scanL hk T hg ea en) (Z48 r.toBody (r.once hc) r.scanL hk T hg ea en) e;obtain⟨m1,m2,m3,m4,m5,_⟩:=Aj h hk a (n+1);obtain⟨c1,c2,c3,c4⟩:=zy (p:=p) hk o h.low.length (Vm.fstL (Zv h) 1+h.low.length);refine⟨s,?_⟩;obtain⟨C,rfl,Y⟩:∃C:Nat,k=(C:Int)+1/\C<4:=⟨(k-1).toNat,Z0,Z0⟩;obtain⟨M,O,m,d7,d8,em,d9,e5,e4⟩:=r.toTld.ob Z0 T;have:M=a:=Z0;subst this;have:O=n:=Z0;subst this
 have S:(⟨h.low.length,o.size,o.ptrs,false,0⟩:Ob)∈(p.mv ((C:Int)+1) o h.low.length (Vm.fstL (Zv h) 1+h.low.length)).at (((0:Nat):Int)+1):=by
  show _∈(p.mv _ _ _ _).at 1;rw[c1];exact Zfp _ (.head _)
 have b1:WO o.at_ (Vm.fstL (Zv h) 1+h.low.length) o∈(p.mv ((C:Int)+1) o h.low.length (Vm.fstL (Zv h) 1+h.low.length)).at ((C:Int)+1):=by
  rw[c3];exact ZfZ T
 have J:∀(j:Nat) (x:Ob),j<4->x∈p.at ((j:Int)+1)->(j≠C\/x≠o)->x∈(p.mv ((C:Int)+1) o h.low.length (Vm.fstL (Zv h) 1+h.low.length)).at ((j:Int)+1):=by
  intro j x I D l;by_cases N:j=0
  ·subst N;show _∈(p.mv _ _ _ _).at 1;rw[c1];exact ZeI _ D
  by_cases h1:j=1
  ·subst h1;show _∈(p.mv _ _ _ _).at 2;rw[c2];exact D
  by_cases L:j=C
  ·subst L;rw[c3];refine ZdB.2 ⟨x,D,UX λe=> ?_⟩;obtain l|l:=l
   ·exact l rfl
   ·exact l (r.toTld.same_at Z0 T D e)
  ·have e7:(j:Int)+1=7- ((C:Int)+1):=Z0;rw[e7]at D⊢;rw[c4];exact D
 generalize hq:p.mv ((C:Int)+1) o h.low.length (Vm.fstL (Zv h) 1+h.low.length)=q at*
 have Q:∀(j:Nat) (x x':Ob),j<4->x∈p.at ((j:Int)+1)->x'∈q.at ((j:Int)+1)->x'.at_=x.at_->(Yr (Yn h ((C:Int)+1) M (O+1)) j x').ad=(Yr h j x).ad:=by
  intro j x x' I D G e';rw[Jf s I G,Jf r I D,e.fstL Z0,e']
 have hA:=Jf r Y T;have hB:=Jf s Z0 S;rw[e.fstL Z0]at hB;obtain⟨A,P⟩:∃A,A=(Yr h C o).ad:=⟨_,rfl⟩;obtain⟨B,a9⟩:∃B,B=Vm.fstL (Zv h) 1+h.low.length:=⟨_,rfl⟩;have a8:(Yr (Yn h ((C:Int)+1) M (O+1)) 0 ⟨h.low.length,o.size,o.ptrs,false,0⟩).ad=B:=by rw[hB,a9];rfl
 have R:∀(j:Nat) (x:Ob),j<4->x∈p.at ((j:Int)+1)->(j≠C\/x≠o)->(Yr h j x).ad≠A:=by
  intro j x I D l;rw[P];refine LE r I Y (by rw[r.obQ I];exact D) (by rw[r.obQ Y];exact T) ?_;obtain l|l:=l
  ·exact .inl l
  ·by_cases L:j=C
   ·subst L;exact .inr λe=>l (r.toTld.same_at Z0 T D e)
   ·exact .inl L
 have a2:∀(j:Nat) (x:Ob),j<4->x∈p.at ((j:Int)+1)->(j≠C\/x≠o)->(Yr h j x).ad≠B:=by
  intro j x I D l;have G:=J j x I D l;rw[<-Q j x x I D G rfl,<-a8];refine LE s I Z0 (by rw[s.obQ I];exact G) (by rw[s.obQ Z0];exact S) ?_;by_cases N:j=0
  ·subst N;obtain⟨b,_,_,eb,_,_,hb,_⟩:=r.toTld.ob (k:=((0:Nat):Int)+1) Z0 D;have:Zz h (((0:Nat):Int)+1)=h.low:=rfl;rw[this]at hb;exact .inr (by show x.at_≠(h.low.length:Int);omega)
  ·exact .inl N
 have hw:∀(j:Nat) (x:Ob),j<4->x∈p.at ((j:Int)+1)->(j≠C\/x≠o)->(Yr (Yn h ((C:Int)+1) M (O+1)) j x).sl=(Yr h j x).sl:=by
  intro j x I D l;obtain⟨b,c,_,eb,ec,_,hb,_⟩:=r.toTld.ob Z0 D;simp only[Yr];rw[<-TR _ I,<-TR _ I];have e1:(x.at_+1).toNat=b+1:=Z0;have e2:x.size.toNat=c:=Z0;rw[e1,e2]
  have a7:∀i:Nat,i<b+1+c->b+1<=i->(Zz (Yn h ((C:Int)+1) M (O+1)) ((j:Int)+1))[i]?=(Zz h ((j:Int)+1))[i]? :=by
   intro i X e0;by_cases N:j=0
   ·subst N;show(Yn h ((C:Int)+1) M (O+1)).low[i]?=h.low[i]?;have:Zz h (((0:Nat):Int)+1)=h.low:=rfl;rw[this]at hb;rw[m1,ZdT Z0]
   by_cases h1:j=1
   ·subst h1;show(Yn h ((C:Int)+1) M (O+1)).high[i]?=h.high[i]?;rw[m2]
   refine Ak hk Z0 Z0 ?_;by_cases L:j=C
   ·subst L;rcases(r.tiles ((j:Int)+1) Z0).apart x D o T with e|e|e
    ·obtain l|l:=l
     ·exact(l rfl).elim
     ·exact(l e).elim
    ·exact .inr (.inl Z0)
    ·exact .inr (.inr Z0)
   ·exact .inl Z0
  refine Zgf λi=> ?_;simp only[ZdY,ZdW];split
  ·exact a7 _ Z0 Z0
  ·rfl
 have b5:(Yr (Yn h ((C:Int)+1) M (O+1)) 0 ⟨h.low.length,o.size,o.ptrs,false,0⟩).sl=(Yr h C o).sl:=by
  simp only[Yr];rw[<-TR _ Z0,<-TR _ Y];show(((Yn h ((C:Int)+1) M (O+1)).low).drop _).take _=_;rw[m1,show((h.low.length:Int)+1).toNat=h.low.length+1 by omega,show(o.at_+1).toNat=M+1 by omega,show o.size.toNat=O by omega,Zgr,Zgd Z0,Zej,show h.low.length+1-h.low.length=1 by omega,List.drop_drop,Zhv,List.take_take];congr 1;omega
 have a3:∀w i j:Int,(1<=i/\i<=4)->(1<=j/\j<=4)->XN h p w i j->Q8 h (Yn h ((C:Int)+1) M (O+1)) (λx=>if x=A then B else x) w w:=by
  intro w i j X I hG;by_cases N:w=0
  ·exact .inl ⟨N,N⟩
  obtain⟨z,y,K,_,U,_,ha⟩:=r.gos X I hG N;rw[r.obQ K]at U;refine .inr ⟨N,N,?_⟩;cases H:y.gone
  ·refine⟨Yr h z y,Uc.2 ⟨TC r K U,H⟩,(Mt r (TC r K U) H ha).symm,?_⟩;by_cases a0:z=C/\y=o
   ·obtain⟨rfl,rfl⟩:=a0;dsimp only;rw[if_pos P.symm];have:=BG s (TC s K b1) (by show(WO _ _ _).gone=true;rw[Tw rfl]) (w:=w) (by rw[ha,Q z y _ K T b1 (JG _ _ _).1]);rw[this];show(WO _ _ _).target=B;rw[Tw rfl,a9]
   ·have l:z≠C\/y≠o:=by
     by_cases F:z=C
     ·exact .inr λe=>a0 ⟨F,e⟩
     ·exact .inl F
    dsimp only;rw[if_neg (R z y K U l)];have W:=J z y K U l;have e':=Q z y y K U W rfl;rw[<-e'];exact Mt s (TC s K W) H (by rw[ha,e'])
  ·have e8:2<=z:=by
    by_cases hl:z<2
    ·have:=r.live12 hl (by rw[r.obQ K];exact U);rw[this]at H;cases H
    ·omega
   obtain⟨t,ht,h4,_⟩:=r.gone ((z:Int)+1) Z0 y U H;have Z:t∈p.at (((0:Nat):Int)+1):=ht;have d0:t.gone=false:=r.live12 (q:=0) Z0 (by rw[r.obQ Z0];exact Z);have b3:(Yr h 0 t).ad=y.target:=by rw[Jf r Z0 Z,h4];rfl
   have a0:y≠o:=λe=>by rw[e,hg]at H;cases H
   refine⟨Yr h 0 t,Uc.2 ⟨TC r Z0 Z,d0⟩,?_,?_⟩
   ·rw[BG r (TC r K U) H ha,b3];rfl
   ·dsimp only;rw[if_neg (R 0 t Z0 Z (.inl Z0)),b3];have W:=J z y K U (.inr a0);rw[BG s (TC s K W) H (by rw[ha,Q z y y K U W rfl])];rfl
 refine Z7H r s (λx=>if x=A then B else x) (λf hf=> ?_) (λf hf f' b9 he=> ?_) ?_
 ·obtain⟨a4,a5⟩:=Uc.1 hf;obtain⟨j,x,_,I,D,rfl⟩:=Tu a4;have d5:=D;rw[r.obQ Z0]at D;obtain⟨b,c,d,eb,ec,ed,hb,_⟩:=r.toTld.ob Z0 D
  have a1:Q3 (Q8 h (Yn h ((C:Int)+1) M (O+1)) (λx=>if x=A then B else x)) ((Yr h j x).sl.take (Yr h j x).ob.ptrs.toNat) ((Yr h j x).sl.take (Yr h j x).ob.ptrs.toNat):=qr λw a6=>by
   obtain⟨i,X⟩:=ZdM a6;have b2:=(Zdl.1 X).1;rw[ZeD]at b2;have c0:(Yr h j x).ob.ptrs=x.ptrs:=rfl;rw[c0]at X b2;rw[Zer Z0]at X;have e6:=jj r Z0 d5
   have b4:(Zz h ((j:Int)+1))[x.at_.toNat+1+i]?=some w:=by
    rw[TR h Z0];simp only[Yr]at X;rw[Zer Z0,ZdW]at X;rw[<-X];congr 1;omega
   obtain⟨u,v,hu,hv,hG⟩:=IN (r.ptr ((j:Int)+1) Z0 x D a5 i Z0 w b4);exact a3 w u v hu hv hG
  by_cases b6:j=C/\x=o
  ·obtain⟨rfl,rfl⟩:=b6;refine⟨Yr _ 0 ⟨h.low.length,x.size,x.ptrs,false,0⟩,Uc.2 ⟨TC s Z0 S,rfl⟩,?_,rfl,by rw[b5],by rw[b5];exact a1⟩;dsimp only;rw[if_pos P.symm,a8]
  ·have l:j≠C\/x≠o:=by
    by_cases F:j=C
    ·exact .inr λe=>b6 ⟨F,e⟩
    ·exact .inl F
   have G:=J j x Z0 D l;refine⟨Yr _ j x,Uc.2 ⟨TC s Z0 G,a5⟩,?_,rfl,by rw[hw j x Z0 D l],by rw[hw j x Z0 D l];exact a1⟩;dsimp only;rw[if_neg (R j x Z0 D l),Q j x x Z0 D G rfl]
 ·obtain⟨a4,a5⟩:=Uc.1 hf;obtain⟨b0,d6⟩:=Uc.1 b9;obtain⟨j,x,_,I,D,rfl⟩:=Tu a4;obtain⟨j',x',_,e3,G,rfl⟩:=Tu b0;rw[r.obQ Z0]at D G
  have b7:(Yr h j x).ad≠A->(Yr h j x).ad≠B:=λhn=>a2 j x Z0 D (by
   by_cases F:j=C
   ·subst F;exact .inr λe=>hn (by rw[e,P])
   ·exact .inl F)
  have b8:(Yr h j' x').ad≠A->(Yr h j' x').ad≠B:=λhn=>a2 j' x' Z0 G (by
   by_cases F:j'=C
   ·subst F;exact .inr λe=>hn (by rw[e,P])
   ·exact .inl F)
  split at he<;>split at he
  ·rename_i h1 h2;rw[h1,h2]
  ·rename_i h1 h2;exact(b8 h2 he.symm).elim
  ·rename_i h1 h2;exact(b7 h1 he).elim
  ·exact he
 ·rw[m5];exact qr λw a6=>a3 w 1 2 Z0 Z0 (r.roots w a6)
def Z16(r:Rt h p){w:Int}(M:XN h p w 1 2\/XN h p w 3 4):∃v g q,fwd h w=(v,g,0)/\Rt g q/\Wo (vg g)=Wo (vg h)/\XN g q v 1 2/\(v=0↔w=0)/\Ext h p g q:=by
 by_cases C:w=0
 ·subst C;exact⟨0,h,p,EL r.lay,r,rfl,.inl rfl,Z1,.refl h p⟩
 have B:∃k o,1<=k/\k<=4/\o∈p.at k/\w=Yk (Zv h) k o.at_:=by
  obtain(I|⟨k,o,f,d,e⟩)|(I|⟨k,o,f,d,e⟩):=M
  ·omega
  ·grind
  ·omega
  ·grind
 obtain⟨k,o,k1,G,d,rfl⟩:=B;by_cases J:k<=2
 ·exact⟨_,h,p,r.fwd_here ⟨k1,J⟩ d,r,rfl,.inr ⟨k,o,Z0,d,rfl⟩,Zfb,.refl h p⟩
 have f:3<=k/\k<=4:=Z0;cases j:o.gone
 ·have u:h.cycle=true:=by
   cases u:h.cycle
   ·obtain⟨_,O,P⟩:=r.rest u;have D:=r.tiles k ⟨k1,G⟩
    have L:Zz h k=[]:=by
     have:k=3\/k=4:=Z0;obtain rfl|rfl:=this
     ·exact O
     ·exact P
    rw[L]at D;rw[D.nil]at d;cases d
   ·rfl
  obtain⟨a,n,m,l,t,em,K,_⟩:=r.toTld.ob ⟨k1,G⟩ d;obtain⟨H,_⟩:=r.fwd_wait f d j l t;have e:=r.toBody.ext r.scanL f d j l t;obtain⟨s,A⟩:=Z3v r u f d j l t;have x:(⟨h.low.length,o.size,o.ptrs,false,0⟩:Ob)∈(p.mv k o h.low.length (Vm.fstL (Zv h) 1+h.low.length)).low:=Zfp _ (.head _);have z:Yk (Zv h) 1 h.low.length=Yk (Zv (Yn h k a (n+1))) 1 h.low.length:=(e.fst 1 _ (.inl rfl)).symm;exact⟨_,_,_,H,s,A,.inr ⟨1,_,.inl rfl,x,z⟩,iff_of_false (yq r.lay Z0) C,e⟩
 ·obtain⟨y,F,e,_⟩:=r.gone k f o d j;have A:2*o.target+1=Yk (Zv h) 1 y.at_:=by unfold Yk;omega
  have N:=r.toTld.low_at F;refine⟨_,h,p,r.fwd_gone f d j,r,rfl,.inr ⟨1,y,.inl rfl,F,A⟩,?_,.refl h p⟩;omega
def Z5c(r:Rt h p){k c:Int}(d:1<=k/\k<=4):XN h p (TS h k c) 1 2\/XN h p (TS h k c) 3 4:=by
 unfold TS;rw[r.objs d];dsimp only;split
 ·exact .inl (.inl rfl)
 ·rename_i u;have l:0< (p.at k).length:=ZfC.2 u;have y:=VY (c:=c) (n:=(p.at k).length) Z0;have j:(pick c (p.at k).length).toNat< (p.at k).length:=Z0;have f:=ZdA j;rw[ZgM,Zdk j,ZdN];generalize (p.at k)[(pick c (p.at k).length).toNat]=o at*;obtain⟨a,n,m,w,_,_,t,_⟩:=r.toTld.ob d f;rw[Sb r.lay d (by grind [UG])];by_cases x:k<=2
  ·exact .inl (.inr ⟨k,o,Z0,f,rfl⟩)
  ·exact .inr (.inr ⟨k,o,Z0,f,rfl⟩)
end
end
end Vm
end
section

end
section

end
section
namespace Vm
open Go Go.Proofs

end Vm
end
section
namespace Vm
open Go
open Go.Proofs
def Ht:Fn:=⟨20,[0,1,3,2,4,6,5,7,9,8,10,12,11,13,15,14,16,18,17,19],
pQ [pR [pV 0 pF],.reg ⟨[],[([],.ag [pU 10,pI 5,pI 1,pF,pI 0,pN,pN,.lit [pU 2,pU 6],pN,pN])],[(1,.m [pU 10,pI 5,pI 1,pF,pI 0,pN,pN,.lit [pU 2,pU 6],pN,pN])]⟩,pC [pK 20 18 [.mm 1 0 10,pU 21]] [(2,pM (.sz (.ext (.s 20) 1) 10) 10),pV 3 (.fl (.ext (.s 20) 0)),pV 4 (.fl (.ext (.s 20) 2))],pC [pK 21 18 [.mm 2 0 10,pU 21]] [(5,pM (.sz (.ext (.s 21) 1) 10) 10),pV 6 (.ext (.s 21) 0),pV 7 (.ext (.s 21) 2)],pC [pK 22 18 [.mm 1 0 10,pU 25]] [(8,pM (.sz (.ext (.s 22) 1) 10) 10),pV 9 (.ext (.s 22) 0),pV 10 (.ext (.s 22) 2)],pC [pK 23 18 [.mm 1 0 10,pU 4]] [(11,pM (.sz (.ext (.s 23) 1) 10) 10),pV 12 (.ext (.s 23) 0),pV 13 (.ext (.s 23) 2)],pC [pK 24 18 [pY,pU 0]] [(14,pM (.sz (.ext (.s 24) 1) 10) 10),pV 15 (.ext (.s 24) 0),pV 16 (.ext (.s 24) 2)],pC [pK 25 18 [.mm 1 0 10,pU 0]] [(17,pM (.sz (.ext (.s 25) 1) 10) 10),pV 18 (.ext (.s 25) 0),pV 19 (.ext (.s 25) 2)],.reg ⟨[.lt 26 [] (.bin .eql (.s 4) (pI 0)),.lt 27 [] (.ite (.s 26) (.bin .eql (.s 3) (pU 31)) pF),.call 28 [(27,true)] (.id 38) false false [.mm 2 0 10,.ag [pU 10,pI 5,pI 1,pF,pI 0,.lit [pU 2,pU 6],pN,.lit [pU 31,pU 0],pN,pN]],.lt 29 [] (.ite (.s 27) (.s 28) pF),.lt 30 [] (.ite (.s 29) (.bin .eql (.s 7) (pI 0)) pF),.lt 31 [] (.ite (.s 30) (.bin .eql (.s 6) (pU 31)) pF),.call 32 [(31,true)] (.id 38) false false [.mm 5 0 10,.mm 2 0 10],.lt 33 [] (.ite (.s 31) (.s 32) pF),.lt 34 [] (.ite (.s 33) (.bin .eql (.s 10) (pI 6)) pF),.lt 35 [] (.ite (.s 34) (.bin .eql (.s 13) (pI 3)) pF),.lt 36 [] (.ite (.s 35) (.bin .eql (.s 16) (pI 1)) pF),.lt 37 [] (.ite (.s 36) (.bin .eql (.s 18) (pU 0)) pF),.lt 38 [] (.ite (.s 37) (.bin .eql (.s 19) (pI 0)) pF),.call 39 [(38,true)] (.id 21) false false [.mm 2 0 10,pU 31],.lt 40 [] (.ite (.s 38) (.s 39) pF),.call 41 [(40,true)] (.id 21) false false [.mm 2 0 10,pU 21],.lt 42 [] (.ite (.s 40) (.un .not (.s 41)) pF),.call 43 [(42,true)] (.id 21) false false [.mm 1 0 10,pU 0]],[([(26,true)],.bin .eql (.s 3) (pU 31)),([(29,true)],.bin .eql (.s 7) (pI 0)),([(30,true)],.bin .eql (.s 6) (pU 31)),([(33,true)],.bin .eql (.s 10) (pI 6)),([(34,true)],.bin .eql (.s 13) (pI 3)),([(35,true)],.bin .eql (.s 16) (pI 1)),([(36,true)],.bin .eql (.s 18) (pU 0)),([(37,true)],.bin .eql (.s 19) (pI 0)),([(40,true)],.un .not (.s 41))],[pV 0 (.ite (.s 42) (.s 43) pF)]⟩] .ret,[(0,.v)]⟩
def PN:ZH Sol.prog fresh sig [] [] Tryz.f15=some Ht:=Z2
def Hx:Fn:=⟨7,[0,1,2,4,6,5,7],
pQ [pR [(2,pS 0 10),pV 3 pF],pC [pK 7 18 [.mm 2 0 10,.s 1]] [(4,pM (.sz (.ext (.s 7) 1) 10) 10),pV 5 (.ext (.s 7) 0),pV 6 (.ext (.s 7) 2)],.reg ⟨[.lt 8 [] (.bin .eql (.s 6) (pI 0))],[([(8,true)],.bin .eql (.s 5) (.s 1))],[pV 3 (.ite (.s 8) (.bin .eql (.s 5) (.s 1)) pF)]⟩] .ret,[(3,.v)]⟩
def PS:ZH Sol.prog fresh sig [.fz,.fz] [] Tryz.f21=some Hx:=Z2
end Vm
end
section
namespace Vm
open Go Go.Proofs
def L2(f:SY){h:Hp}(g:h.ok){w:Int}(j:ZA w):VC Sol.prog 21 false [ZD h,vu w] (.bool (Sr h w)):=by
 refine ZN Sol.func21 follows Z2 PS rfl ?_;unfold Sr;simp[Hx];refine Zw (f h w g j) ZcH ?_;by_cases a:(fwd h w).2.2=0
 ·by_cases d:(fwd h w).1=w
  ·simp[Sq,a,d]
  ·simp[Sq,a,d]
 ·simp[Sq,a]
def VO:Hp:=⟨10,5,1,false,0,[],[],[2,6],[],[]⟩
def US:Hp:=⟨10,5,1,false,0,[2,6],[],[31,0],[],[]⟩
def Jw:VO.ok:=by
 refine⟨?_,?_,?_,?_,?_,?_,?_,?_,?_,?_,?_,?_,?_,?_⟩<;>simp[VO,ZA,Yv]
def Lw:US.ok:=by
 refine⟨?_,?_,?_,?_,?_,?_,?_,?_,?_,?_,?_,?_,?_,?_⟩<;>simp[US,ZA,Yv]
def P3(a:SY):VC Sol.prog 15 false [] (.bool true):=by
 refine ZN Sol.func15 follows Z2 PN rfl ?_;have p:fwd VO 21=(31,US,0):=Zcs;have q:fwd US 21=(31,US,0):=Zcs;have r:fwd VO 25=(0,Hp.zero,6):=Zcs;have t:fwd VO 4=(0,Hp.zero,3):=Zcs;have u:fwd Hp.zero 0=(0,Hp.zero,1):=Zcs;have x:fwd VO 0=(0,VO,0):=Zcs;have g1:Sr US 31=true:=Zcs;have g2:Sr US 21=false:=Zcs;have y:Sr VO 0=true:=Zcs;have d:=a VO 21 Jw Zd9;have f:=a US 21 Lw Zd9;have g:=a VO 25 Jw Zd9;have h:=a VO 4 Jw Zd9;have j:=a Hp.zero 0 Hp.zero_ok Zd9;have k:=a VO 0 Jw Zd9;rw[p]at d;rw[q]at f;rw[r]at g;rw[t]at h;rw[u]at j;rw[x]at k;have k1:=L2 a Lw (w:=31) Zd9;have l:=L2 a Lw (w:=21) Zd9;have n:=L2 a Jw (w:=0) Zd9;rw[g1]at k1;rw[g2]at l;rw[y]at n;have o:=Z6u (b:=US) Lw;simp[VO,US,Hp.zero,ZD,Sq]at d f g h j k k1 l n o;simp[Ht];refine Zw d Z1 ?_;simp;refine Zw f Z1 ?_;simp;refine Zw g Z1 ?_;simp;refine Zw h Z1 ?_;simp;refine Zw j Z1 ?_;simp;refine Zw k Z1 ?_;simp;refine Zw o Z1 ?_;simp;refine Zw o Z1 ?_;simp;refine Zw k1 Z1 ?_;simp;refine Zw l Z1 ?_;simp;refine Zw n Z1 ?_;simp
@[simp]theorem Zae(h:Hp):VS (ZD h) 0 10=some (ZD h):=rfl
@[simp]theorem ZbC(l:List Hp):Xj 10 (l.map ZD)=true:=RT λ_=>rfl
end Vm
end
section
namespace Vm
open Go
open Go.Proofs
def p4:Fn:=⟨16,[0,1,2,3,6,7,8,9,11,10,12,13,14,15,16,17],
pQ [pR [(3,pS 0 7),pV 4 pF],pC [pK 16 15 []] [pV 5 (.s 16)],pC [pK 17 8 [.mm 3 0 7]] [(6,pS 17 10)],pC [pK 18 17 [.s 1,pI 4],pK 19 16 [.mm 6 0 10,.bin .add (pI 1) (.s 18),.s 2]] [pV 7 (.s 19)],pC [pK 20 18 [.mm 6 0 10,.s 7]] [(8,pM (.sz (.ext (.s 20) 1) 10) 10),pV 9 (.ext (.s 20) 0),pV 10 (.ext (.s 20) 2)],pC [pK 21 10 [.mm 6 0 10]] [(11,pM (.sz (.ext (.s 21) 0) 2) 2),pV 12 (.ext (.s 21) 1)],pC [pK 22 10 [.mm 8 0 10]] [(13,pM (.sz (.ext (.s 22) 0) 2) 2),pV 14 (.ext (.s 22) 1)],pR [pV 15 (.bin .sub (.len (.m 8 5)) (.len (.m 6 5)))],.reg ⟨[.lt 23 [] (.s 5),.lt 24 [] (.ite (.s 23) (.bin .eql (.s 10) (pI 0)) pF),.lt 25 [] (.ite (.s 24) (.bin .eql (.s 12) (pI 0)) pF),.lt 26 [] (.ite (.s 25) (.bin .eql (.s 14) (pI 0)) pF),.call 27 [(26,true)] (.id 19) false false [.mm 8 0 10],.lt 28 [] (.ite (.s 26) (.s 27) pF),.call 29 [(28,true)] (.id 12) false false [.mm 11 0 2,.mm 13 0 2],.lt 30 [] (.ite (.s 28) (.s 29) pF),.call 31 [(30,true)] (.id 20) false false [.mm 6 0 10],.call 32 [(30,true)] (.id 20) false false [.mm 8 0 10],.lt 33 [] (.ite (.s 30) (.bin .eql (.bin .sub (.s 31) (.s 32)) (.s 15)) pF),.lt 34 [] (.ite (.s 33) (.bin .geq (.s 15) (pI 0)) pF),.lt 35 [] (.ite (.s 34) (.eqv false (.bin .eql (.s 7) (pU 0)) (.bin .eql (.s 9) (pU 0))) pF),.call 36 [(35,true)] (.id 21) false false [.mm 8 0 10,.s 9],.lt 37 [] (.ite (.s 35) (.s 36) pF),.call 38 [(37,true)] (.id 22) false false [.m 8 6,.m 6 6],.lt 39 [] (.ite (.s 37) (.s 38) pF),.call 40 [(39,true)] (.id 22) false false [.m 8 9,.m 6 9]],[([(23,true)],.bin .eql (.s 10) (pI 0)),([(24,true)],.bin .eql (.s 12) (pI 0)),([(25,true)],.bin .eql (.s 14) (pI 0)),([(30,true)],.bin .eql (.bin .sub (.s 31) (.s 32)) (.s 15)),([(33,true)],.bin .geq (.s 15) (pI 0)),([(34,true)],.eqv false (.bin .eql (.s 7) (pU 0)) (.bin .eql (.s 9) (pU 0)))],[pV 4 (.ite (.s 39) (.s 40) pF)]⟩] .ret,[(4,.v)]⟩
def c4:ZH (YK Tryz.prog) fresh sig [.fz,.fz,.fz] [] Tryz.f4=some p4:=Z2
end Vm
end
section
namespace Vm
open Go Go.Proofs
def Z3G(x:Int×Hp×Int):NoM (Sq x):=.tup _ λc a=>by
 simp only[ZdG,ZeG,Zgb]at a;obtain rfl|rfl|rfl:=a
 ·exact .int _ _
 ·exact SA _
 ·exact .int _ _
def Ol(a:SY){h:Hp}{w:Int}(d:h.ok)(f:ZA w):VC (YK Tryz.prog) 18 false [ZD h,vu w] (Sq (fwd h w)):=up (a h w d f) (K0 (SA h) (.int _ _)) (Z3G _)
def Om(a:SY){h:Hp}{w:Int}(d:h.ok)(f:ZA w):VC (YK Tryz.prog) 21 false [ZD h,vu w] (.bool (Sr h w)):=up (L2 a d f) (K0 (SA h) (.int _ _)) (.bool _)
def P2(a:SY):VC (YK Tryz.prog) 15 false [] (.bool true):=up (P3 a) (λx d=>by cases d) (.bool _)
def Z4C{c n:Int}(hc:Yv c)(a:0<n):VC (YK Tryz.prog) 17 false [vi c,vi n] (vi (pick c n)):=up (Iy hc a) (K0 (.int _ _) (.int _ _)) (.int _ _)
def Oz{h:Hp}(f:h.ok){part at_:Int}(d:Yv at_):VC (YK Tryz.prog) 16 false [ZD h,vi part,vi at_] (vu (TS h part at_)):=up (OC f d) (λy a=>by
 simp only[ZdG,ZeG,Zgb]at a;obtain rfl|rfl|rfl:=a<;>first|exact SA _|exact .int _ _) (.int _ _)
def CS{a b:Ze}(d:a.length<=1000000):VC (YK Tryz.prog) 22 false [.sl (a.map vu),.sl (b.map vu)] (.bool (decide (a=b))):=up (RD d) (K0 (QI _) (QI _)) (.bool _)
instance fitKeeps:FitF (YK Tryz.prog) 4:=jd (P:=Tryz.prog) Tryz.func4 rfl Z2
def Z2H(G:SY){x:Rw}(hx:x.ok){part at_:Int}(hp:Yv part)(U:Yv at_):VC (YK Tryz.prog) 4 false [Wd x,vi part,vi at_] (.bool true):=by
 refine ZN (P:=YK Tryz.prog) Tryz.func4 EC Z2 c4 rfl ?_;simp[p4];refine Zw (P2 G) Z1 ?_;simp;have S:=Oq hx;unfold Wd at S;refine Zw S Z1 ?_;obtain⟨f,hl,a1⟩:=Z1j hx;obtain⟨p,r⟩:=Mo.1 (Z1k hx);generalize Uu x=h at*;simp;refine Zw (Z4C hp Z0) Z1 ?_;have Z:=VY (c:=part) (n:=4) Z0;generalize pick part 4=t at*;have wk:=Zy (1+t) Z0 Z0;have T:=Oz f (part:=1+t) U;have Y:=Z5c r (k:=1+t) (c:=at_) Z0;have Q:= @Z58 h (1+t) at_;generalize TS h (1+t) at_=w at*;simp only[ZD]at T;simp[wk];refine Zw T Z1 ?_;obtain⟨v,g,q,X,s,hv,K,hz,e⟩:=Z16 r Y;have u:=Ol G f Q;have d:=Z15 f Q;rw[X]at u d;have y:=CT f;have z:=CT d.1;rw[r.ofG]at y;rw[s.ofG,hv]at z;have A:=up (CL d.1) (Aq (SA g)) (.bool _);rw[s.right]at A;have M:=OE (a:=Wo (vg h)) (b:=Wo (vg h)) (Z08 (ofOk f r.right).sm.gr r.vg_right);have B:=CM f;have C:=CM d.1;rw[r.wait]at B;rw[s.wait]at C;have D:=Om G d.1 d.2
 have J:Sr g v=true:=by
  have:fwd g v=(v,g,0):=by
   obtain rfl|⟨k,o,Z,ho,rfl⟩:=K
   ·exact EL s.lay
   ·exact s.fwd_here Z0 ho
  simp[Sr,this]
 rw[J]at D;have F:=CS (a:=g.high) (b:=h.high) d.1.high;have j:=CS (a:=g.roots) (b:=h.roots) d.1.roots;have L:=e.room;obtain⟨ws,l⟩:=e.low;have N:g.low.length=h.low.length+ws.length:=by rw[l,Ze8]
 rw[ZgW e.high]at F;rw[ZgW e.roots]at j;have a2:=Cw (ya f r.parts);have R:=Cw (ya d.1 s.parts);have a0:=f.low;have O:=d.1.low;simp only[ZD,Sq,Ym]at u y z A M B C D F j;have H:Wh (vi 0)=some (vi 0):=rfl;simp;refine Zw u Z1 ?_;simp;refine Zw y Z1 ?_;simp;refine Zw z Z1 ?_;have w1:=Zy ((g.low.length:Int) -h.low.length) Z0 Z0;have w2:=Zy ((XT p:Int) -XT q) Z0 Z0;simp[H,w1];refine Zw A Z1 ?_;simp;refine Zw M Z1 ?_;simp;refine Zw B Z1 ?_;simp;refine Zw C Z1 ?_;have W:(XT p:Int) -XT q=(g.low.length:Int) -h.low.length:=Z0;have I:(0:Int)<=(g.low.length:Int) -h.low.length:=Z0;simp[w1,w2,W,I,hz];refine⟨Z0,Zw D Z1 ?_⟩;simp;refine Zw F Z1 ?_;simp;refine Zw j Z1 ?_;simp
end Vm
end
section
namespace Go.Proofs.YtffknkhabklijaaGreat
open Vm Go.ChangeShapes Go.WideShapes Go.ChangeAt Go.RowKit
def forwardKeeps_law(xs:List V)(d:xs.length=Tryz.f4.params.toList.length)(a:∀(i:Nat) (t:TypeId) (x:V),Tryz.f4.params.toList[i]?=some t->xs[i]?=some x->Xp Tryz.prog 8 t x):
  VC (YK Tryz.prog) 4 false xs (.bool true):=by
 rw[Tryz.params4]at d a
 match xs,d with
 | [j,k,l],_=>
   obtain⟨x,rfl,h⟩:=Z7v (a 0 _ j rfl rfl);obtain⟨p,rfl,g⟩:=J5 (a 1 _ k rfl rfl);obtain⟨n,rfl,f⟩:=J5 (a 2 _ l rfl rfl);exact Z2H Z14 h g f
def forwardKeeps_lifted(j:Os)(a:j.Started)(H:Type)(enc:TypeId×Value->H):
  ReturnsInLeavingWide {} Tryz.checked j 4 .any (Rows.forwardKeepsSpec.pre6 enc Tryz.prog Tryz.f4 Rows.forwardKeepsRow.domain false) (Rows.forwardKeepsSpec.post enc Tryz.prog Tryz.f4 false true false false):=by
 refine returnsInLeavingWide_of_change_sized (C:=Tryz.checked) own a Tryz.func4
  (ChangeSpec.witness6 (enc:=enc) (C:=Tryz.checked) false ⟨#[], #[.agg #[.slice none 0 0,.slice none 0 0,.slice none 0 0,.int .u64 0,.int .i64 0,.int .i64 0,.int .i64 0],.int .i64 0,.int .i64 0],[]⟩ 8 Z2 Z2 Z2 Z2) ?_
 intro W base args g gs d f k _ _ _
 exact Z1e (P:=Tryz.prog) Z2 (Z2I (P:=YK Tryz.prog) (tb:=4) 8 laidOut Z2 Z2 rfl Z2 Tryz.underlying4 (λH g h=>by
  rw[Tryz.params4]at h
  match g,h with
  | [_,_,_],_=>rfl) forwardKeeps_law H enc W base args g gs d f k)
theorem forwardKeeps_holds:Rows.ForwardKeepsSaid:=
 OpenClaim.holds_of_wide_leaving 4 Tryz.f4 rfl rfl rfl rfl rfl rfl rfl ⟨rfl,rfl,rfl,rfl,rfl⟩ rfl rfl rfl rfl rfl Z2 Tryz.func4 Z2
  (ZfQ Z2) (by unfold Func.isWrapper;first|(rw[if_pos Zcs];kernel_rfl)|(rw[if_neg Zcs];exact⟨rfl,rfl⟩))
  (λf a H d _=>forwardKeeps_lifted f a H d)
#print axioms forwardKeeps_holds
end Go.Proofs.YtffknkhabklijaaGreat
end
