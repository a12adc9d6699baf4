import Derived.RangeFuncNested
import Derived.RangeFuncBound
import Derived.LoopNIn
import Derived.LoopIn
import Derived.Shelf.RegionOpen
import Derived.RecoverIn
import Derived.Maps.OwnIn
import Derived.Test.YtffknkhabklijaaSScanWhole5
set_option linter.unusedSimpArgs false
set_option linter.unusedVariables false
set_option linter.defProp false
open Option renaming some→J,none→U
open Bool renaming true→xk,false→xw
open List renaming length→I
open Array renaming size→xz
open Go.World renaming heap→xj
open List renaming length→xq
open Array renaming size→xz
open Go.World renaming heap→xj
set_option maxHeartbeats 1000000
set_option maxRecDepth 100000
theorem ZeM{p:Prop}(h:p:=by rw[cell_of_row _ _ _ _ _ _ d.out.2.1];rfl):p:=h
theorem ZeG{p:Prop}(h:p:=by have:=d.out.size;simp at this;omega):p:=h
theorem Zed{p:Prop}(h:p:=by have:=heap_alloc_new (w.alloc<|.cells #[.int .i64 0,.int .i64 0,.int .i64 0,.bool xw,.int .u64 0] 59)<|.cells #[.int .i64 a,.int .i64 0,.int .i64 0,.bool xw,.int .u64 0] 59;simp_all):p:=h
theorem Zem{p:Prop}(h:p:=by rw[cell_of_row _ _ _ _ _ _ r];rfl):p:=h
theorem Zey{p:Prop}(h:p:=by rw[cell_of_row _ _ _ _ _ _ n];rfl):p:=h
theorem Zex{p:Prop}(h:p:=by rw[cell_of_row _ _ _ _ _ _ h];rfl):p:=h
theorem Zep{p:Prop}(h:p:=by rw[Zz _ (by omega) (by omega)];omega):p:=h
theorem Zew{p:Prop}(h:p:=by rw[cell_of_row _ _ _ _ _ _ F];rfl):p:=h
def ZiD:=@List.pairwise_cons
def ZiO:=@List.pairwise_map
def Zik:=@Bool.false_or
def Ziq:=@Bool.eq_iff_iff
def ZhS:=@Go.grownBy_putObj'
def Zgh:=@Go.World.alloc_heap_new
def Zhu:=@Go.World.size_alloc
def Zhx:=@Go.World.putObj_heap_same
def ZfI:=@Go.World.putObj_heap_other
def ZgU:=@Array.replicate_succ
def ZgV:=@Array.replicate_zero
def Zho:=@List.push_toArray
def Zh2:=@List.append_toArray
def Zhd:=@Go.callsIn_wide
def Zhv:=@Go.grownBy_setCell'
def Zih:=@Go.run_takeDeferred
def Zi4:=@List.filter_eq_nil_iff
def Zjl:=@decide_true
def ZiE:=@decide_false
def Zim:=@List.sum_cons
def Zh3:=@List.flatMap_append
def Zii:=@List.drop_append
def Zhz:=@List.set_cons_zero
def ZhX:=@Nat.add_sub_cancel_left
def ZiC:=@List.mem_replicate
def ZiN:=@List.flatMap_cons
def ZfF:=@List.getElem?_take_of_lt
def ZgO:=@List.mem_append_right
section
namespace Vm
open Go Go.Proofs
def Tiles.order{ws old}:∀ {a} {l:List Ob},Tiles ws old a l->l.Pairwise λx y=>x.Y<y.Y
 |_,[],_=>.nil
 |a,o::l,h=>by
  refine .cons (λx d=> ?_)<|Tiles.order h.2.2;have:=(Tiles.ba h.2.2 x d).2;have:=h.1;omega
def Dl{h}(f:ZI (Zu h)=xk){k}(d:1<=k/\k<=4){old o}(a:Stands (Zx h k) old o):YW h k o.Y=fstL (Zu h) k+o.Y:=by
 have:=YE.1 a.shape;have:=a.aw;have:=a.iy;grind [YW,RH,Td]
def Z8x{h}(f:ZI (Zu h)=xk){k}(d:1<=k/\k<=4){old o}(a:Stands (Zx h k) old o):Yg (Zu h) (YW h k o.Y)=(k,o.Y,0):=by
 have:=YE.1 a.shape;have:=a.aw;have:=a.iy;rw[Dl f d a];grind [QW,Td]
def Tiles.nq{h}(f:ZI (Zu h)=xk){k}(d:1<=k/\k<=4){old l}(a:Tiles (Zx h k) old 0 l):l.Pairwise λx y=>YW h k x.Y≠YW h k y.Y:=by
 refine List.Pairwise.imp_of_mem ?_ a.order;intro x y j n g;rw[Dl f d (a.ba x j).1,Dl f d (a.ba y n).1];omega
def Is{h a}:∀ {l} {m:List (Int×(Int×Int))},(l.Pairwise λx y=>YW h 1 x.Y≠YW h 1 y.Y)->Y2 (Xw h 1 m l) a=match Yz h 1 l a with
  |some o=>J (o.size,o.M)
  |none=>Y2 m a
 | [],m,_=>rfl
 |o::l,m,f=>by
  let⟨g,d⟩:=ZiD.1 f;rw[Xw,Is d];unfold Yz;cases j:l.find? (λo=>YW h 1 o.Y==a)with
  |some q=>
   grind
  |none=>
   simp[J3];grind [YW,Zu]
def BJ{h k}(a:¬k=1):∀ {l} {m:List (Int×(Int×Int))},Xw h k m l=m
 | [],m=>rfl
 |o::l,m=>by simp_all[Xw,BJ]
def L4{h k a}:∀ {l} {m:List (Int×Int)},Y2 (WD h k m l) a=if(Yz h k l a).isSome=xk then J k else Y2 m a
 | [],m=>rfl
 |o::l,m=>by
  rw[WD,L4];unfold Yz;rw[J3];by_cases f:YW h k o.Y=a;have d:(Y5 _ k o.Y).1=a:=f;have:(YW h k o.Y==a)=xk:=Zeq;simp[this,d];have d:¬(Y5 _ k o.Y).1=a:=f;have:(YW h k o.Y==a)=xw:=Zeq;simp[this,d]
def D9{lm ws}:∀f i a,∃r,WP lm ws f i a=a++r
 |0,_,a=>⟨[],by simp[WP]⟩
 |f+1,i,a=>by
  rw[WP];cases ws[i]? with
  |none=>simp
  |some w=>
   simp only;split;split;simp;obtain⟨r,d⟩:=D9 (lm:=lm) (ws:=ws) f _ _;exact⟨_,by rw[d,ZfM]⟩;split;exact D9 f _ _;simp
def qY{lm h low}(j:∀a,Y2 lm a=(Yz h 1 low a).map λo=>(o.size,o.M)){ws}:∀f i g k,V9 h ws low f i g=J k->WP lm ws f i g=k
 |0,_,_,_,d=>by simp[V9]at d
 |f+1,i,g,k,d=>by
  rw[V9]at d;rw[WP];cases q:ws[i]? with
  |none=>rw[q]at d;simpa using d
  |some w=>
   rw[q]at d;simp only at d⊢;by_cases l:(adr w).2=0;rw[if_pos l]at d⊢;rw[j];cases n:Yz h 1 low (adr w).1 with
   |none=>rw[n]at d;cases d
   |some o=>rw[n]at d;exact qY j _ _ _ _ d
   rw[if_neg l]at d⊢;by_cases p:(ZR w).2.2=0;rw[if_pos p]at d⊢;exact qY j _ _ _ _ d;rw[if_neg p]at d;cases d
def qZ{lm h low}(k:∀a,Y2 lm a=(Yz h 1 low a).map λo=>(o.size,o.M)){ws}:∀f i d,0<f->I ws<f+i->V9 h ws low f i d=U->
  ∀l j,(Xl ws (WP lm ws f i d) xk l i (I d) j).2≠0
 |0,_,_,u,_,_=>Z0
 |f+1,i,d,u,D,g=>by
  intro l j;cases l with
  |zero=>simp[Xl]
  |succ l=>
   rw[V9]at g;rw[WP,Xl];cases t:ws[i]? with
   |none=>simp_all
   |some w=>
    have x:=(Zf3.1 t).1;rw[t]at g;simp only at g⊢;by_cases p:(adr w).2=0;rw[if_pos p]at g⊢;rw[k];cases y:Yz h 1 low (adr w).1 with
    |none=>
     simp[Zjc];have:Wf d xk i (I d) w=U:=by
      unfold Wf;rw[if_pos ⟨rfl,p⟩];simp
     rw[this];simp
    |some o=>
     rw[y]at g;simp[Zfn]at g⊢;let⟨r,z⟩:=D9 (lm:=lm) (ws:=ws) f (i+1+o.size.toNat)<|d++[(o.size,o.M)];have C:=qZ k f _ _ Z0 Z0 g l;generalize WP lm ws f _ _=n at*;have A:n[I d]?=J (o.size,o.M):=by rw[z];simp
     unfold Wf;rw[if_pos ⟨rfl,p⟩,A];simp only;by_cases q:YJ o.size o.M=xk;rw[if_pos q];simp only;split;simp;split;simp;simp_all;simp_all
    rw[if_neg p]at g⊢;by_cases B:(ZR w).2.2=0;rw[if_pos B]at g⊢;have C:=qZ k f _ d Z0 Z0 g l;generalize WP lm ws f _ d=n at*;unfold Wf;grind;simp_all[Wf]
structure Found (h:Hp) (s:Ck) (p:Pts):Prop where
 hp:s.h=h
 o1:s.o1=p.H
 o2:s.o2=p.ac
 o3:s.o3=p.ah
 o4:s.o4=p.aj
 pm:s.pm=WD h 4 (WD h 3 (WD h 2 (WD h 1 [] p.H) p.ac) p.ah) p.aj
def Z9f{h}(C:ZI (Zu h)=xk):match Xp h with
  |some p=>(XW<|Xv h).1=xk/\Found h (XW<|Xv h).2 p
  |none=>(XW<|Xv h).1=xw:=by
 unfold XW Xp;dsimp only;have D:Xm (Xv h) 1=ZO h.H [] xw:=rfl;rw[V0,D];by_cases z:(ZO h.H [] xw).2=0;case neg=>simp_all
 rw[if_pos z];have B:Tiles h.H xw 0 (ZO h.H [] xw).1:=SB (ws:=h.H) (shs:=[]) Ze7;generalize (ZO h.H [] xw).1=d at*;have F:Xm (XN (Xv h) 1 d) 2=ZO h.ac [] xw:=rfl;rw[V0,F];by_cases A:(ZO h.ac [] xw).2=0;case neg=>simp_all
 rw[if_pos A,if_neg Z0];generalize (ZO h.ac [] xw).1=n at*;have f:∀a,Y2 (Xw h 1 [] d) a=(Yz h 1 d a).map λo=>(o.size,o.M):=by
  intro a;rw[Is<|Tiles.nq C (k:=1) Z0 (by simpa using B)];cases Yz h 1 d a<;>rfl
 have g:(XN (XN (Xv h) 1 d) 2 n).lm=Xw h 1 [] d:=BJ Z0;have G:Xm (XN (XN (Xv h) 1 d) 2 n) 3=ZO h.ah (TJ (Xw h 1 [] d) h.ah) xk:=by
  rw[<-g];rfl
 rw[V0,G];cases w:Vy h h.ah d with
 |none=>
  have:=qZ f _ 0 [] Z0 Z0 w (I h.ah+1) [];have q:¬(ZO h.ah (TJ _ h.ah) xk).2=0:=this;rw[if_neg q,if_pos Z1]
 |some shs=>
 have t:TJ _ h.ah=shs:=qY f _ _ _ _ w;rw[t];simp[Zfw];by_cases q:(ZO h.ah shs xk).2=0;case neg=>simp_all
 rw[if_pos q];generalize (ZO h.ah shs xk).1=y at*;have l:(XN (XN (XN (Xv h) 1 d) 2 n) 3 y).lm=Xw h 1 [] d:=by
  rw[<-g];exact BJ Z0
 have H:Xm (XN (XN (XN (Xv h) 1 d) 2 n) 3 y) 4=ZO h.aj (TJ (Xw h 1 [] d) h.aj) xk:=by
  rw[<-l];rfl
 rw[V0,H];cases x:Vy h h.aj d with
 |none=>
  have:=qZ f _ 0 [] Z0 Z0 x (I h.aj+1) [];have r:¬(ZO h.aj (TJ _ h.aj) xk).2=0:=this;rw[if_neg r,if_pos Z1]
 |some j=>
 have u:TJ _ h.aj=j:=qY f _ _ _ _ x;rw[u];simp[Zfw];by_cases r:(ZO h.aj j xk).2=0;case neg=>simp_all
 rw[if_pos r,if_neg Ze7];exact⟨rfl,rfl,rfl,rfl,rfl,rfl,rfl⟩
end Vm
namespace Vm
open Go Go.Proofs
def Cd{h p}(a:Xp h=J p){k}(g:1<=k/\k<=4):Tiles (Zx h k) (decide (2<k)) 0<|p.at k:=by
 have:k=1\/k=2\/k=3\/k=4:=Z0;unfold Xp at a;dsimp only at a;split at a;cases a;split at a;cases a;rename_i c2;cases a;have c3:(ZO h.H [] xw).2=0/\(ZO h.ac [] xw).2=0:=by
  refine⟨Z0,Z0⟩
 have c4:∀x:Int,¬x≠0->x=0:=Z0;have f:=c4 _ (λd=>c2<|.inr<|.inr<|.inr d);obtain rfl|rfl|rfl|rfl:=this;exact SB<|ZhF rfl c3.1;exact SB<|ZhF rfl c3.2;exact SB<|ZhF rfl<|c4 _ (λd=>c2<|.inr<|.inr<|.inl d);exact SB<|ZhF rfl f
def Z5J{h p}(a:Xp h=J p){k}(C:3<=k/\k<=4){o}(d:o∈p.at k)(z:o.gone=xk):∃q∈p.H,YW h 1 q.Y=o.target/\q.size=o.size/\q.M=o.M:=by
 unfold Xp at a;dsimp only at a;split at a;cases a;split at a;cases a
 have f:∀g x,x=Vy h g (ZO h.H [] xw).1->¬x=U->(ZO g (x.getD []) xk).2=0->o∈(ZO g (x.getD []) xk).1->
   ∃q∈(ZO h.H [] xw).1,YW h 1 q.Y=o.target/\q.size=o.size/\q.M=o.M:=by
  intro g x B D n d;obtain _|j:=x;simp_all;simp[Zfw]at n d;let⟨G,l,r⟩:=jc _ _ _ _ B.symm _ [] (ZO g j xk).1<|ZhF rfl n;simp[ZfU]at l;rw[l]at d;let⟨q,A,F⟩:=r o d z;have:=Zit A;grind [EU]
 have t:¬Vy h h.ah (ZO h.H [] xw).1=U:=Ze8;have u:¬Vy h h.aj (ZO h.H [] xw).1=U:=Ze8;have w:(ZO h.ah ((Vy h h.ah (ZO h.H [] xw).1).getD []) xk).2=0:=Z0;have y:(ZO h.aj ((Vy h h.aj (ZO h.H [] xw).1).getD []) xk).2=0:=Z0;cases a;have:k=3\/k=4:=Z0;obtain rfl|rfl:=this;exact f _ _ rfl t w Zek;exact f _ _ rfl u y Zek
theorem Z0i{h}(n:ZI (Zu h)=xk){p}(l:Xp h=J p){k}(d:1<=k/\k<=4){a}(j:(Yz h k (p.at k) a).isSome=xk):∃b,Yg (Zu h) a=(k,b,0):=by
 let⟨o,f⟩:=Zg9.1 j;have g:YW h k o.Y=a:=by have:=Zit f;simpa using this
 rw[<-g];exact⟨_,Z8x n d ((Cd l d).ba o<|ZhJ f).1⟩
def EW{h}(o:ZI (Zu h)=xk){p}(n:Xp h=J p){k j}(g:1<=k/\k<=4)(f:1<=j/\j<=4)(l:k≠j){a}(d:(Yz h k (p.at k) a).isSome=xk):(Yz h j (p.at j) a).isSome=xw:=by
 grind [Z0i]
section
variable {h:Hp}{s:Ck}{p:Pts}
def Found.du(a:Found h s p){k}:s.du k=p.at k:=by
 unfold Ck.du Pts.at;rw[a.o1,a.o2,a.o3,a.o4]
def Found.pd(d:Found h s p)a:Y2 s.pm a=if(Yz h 4 (p.at 4) a).isSome=xk then J 4 else if(Yz h 3 (p.at 3) a).isSome=xk then J 3 else if(Yz h 2 (p.at 2) a).isSome=xk then J 2 else if(Yz h 1 (p.at 1) a).isSome=xk then J 1 else U:=by
 rw[d.pm,L4,L4,L4,L4];rfl
def Found.rx(q:Found h s p)(y:ZI (Zu h)=xk)(x:Xp h=J p)w:YO s w 1 2=Xu h p w 1 2/\YO s w 3 4=Xu h p w 3 4/\YO s w 1 4=(Xu h p w 1 2||Xu h p w 3 4):=by
 unfold YO Xu;by_cases n:w=0;simp[n];by_cases D:(adr w).2=0;case neg=>grind
 rw[q.pd];generalize (adr w).1=a;have o:=λk j t r u=>EW (k:=k) (j:=j) y x t r u (a:=a);have C:=o 4 2 Z0 Z0 Z0;have B:=o 4 1 Z0 Z0 Z0;have A:=o 3 2 Z0 Z0 Z0;have z:=o 3 1 Z0 Z0 Z0;clear o;generalize (Yz h 1 _ a).isSome=d at*;generalize (Yz h 2 _ a).isSome=f at*;generalize (Yz h 3 _ a).isSome=g at*;generalize (Yz h 4 _ a).isSome=l at*;cases d<;>cases f<;>cases g<;>cases l<;>simp_all
end
end Vm
namespace Vm
open Go Go.Proofs
def Xz(l:List Ob):List Int:=(l.filter (·.gone)).map (·.target)
def Z6m{α l k}{x:α}(h:Y2 l k=U):I (XO l k x)=I l+1:=by
 grind [Y2,Option.map_eq_none_iff,XO]
def zH{pm}:∀ {l} {m:List (Int×Bool)} {K:List Int},K.Nodup->(∀a,Y2 m a=if a∈K then J xk else U)->I m=I K->
  match WA pm l m with
  |some q=>(∀t∈Xz l,(Y2 pm t).getD 0=1)/\(K++Xz l).Nodup/\I q=I (K++Xz l)/\∀a,Y2 q a=if a∈K++Xz l then J xk else U
  |none=>¬((∀t∈Xz l,(Y2 pm t).getD 0=1)/\(K++Xz l).Nodup)
 | [],m,K,k,d,n=>by simp only[Xz,List.filter_nil,Zgn,Zgl];exact⟨Z1,k,n,d⟩
 |o::l,m,K,k,d,n=>by
  rw[WA];cases w:o.gone with
  |false=>
   have:Xz (o::l)=Xz l:=by simp[Xz,w]
   rw[this];exact zH k d n
  |true=>
   rw[if_pos rfl];have h:Xz (o::l)=o.target::Xz l:=by simp[Xz,w]
   rw[h];by_cases p:(Y2 pm o.target).getD 0=1;by_cases j:o.target∈K;rw[if_neg (by rw[d,if_pos j];simp)];rintro⟨_,z⟩;exact(Zi8.1 z).2.2 _ j _ Z1 rfl;have g:Y2 m o.target=U:=by rw[d,if_neg j]
   rw[if_pos ⟨p,by rw[g];rfl⟩]
   have f:=zH (pm:=pm) (l:=l) (m:=XO m o.target xk) (K:=K++[o.target]) (by
     rw[Zi8];refine⟨k,Z1,λa y b r=> ?_⟩;simp at r;subst r;intro e;subst e;exact j y) (λa=>by
     rw[J3,d];by_cases e:o.target=a;simp[e];have x:¬a=o.target:=Z0;simp[e,x]) (by rw[Z6m g,n];simp)
   rw[ZfM]at f;cases u:WA pm l _ with
   |none=>
    rw[u]at f;rintro⟨A,B⟩;exact f ⟨Ze8,B⟩
   |some q=>
    rw[u]at f;refine⟨λt h=> ?_,f.2⟩;obtain rfl|h:=Zfz.1 h;exact p;exact f.1 t h
   rw[if_neg Z0];rintro⟨A,_⟩;exact p Ze8
def OJ{l a}:YX l a=(Xz l).count a:=by
 unfold YX Xz;induction l with
 |nil=>rfl
 |cons o l d=>
  grind
def Z5e{T S:List Int}(j:S.Nodup)(f:T⊆S):(T.Nodup/\I T=I S)↔ ∀a∈S,T.count a=1:=by
 constructor;rintro⟨d,n⟩ a k;by_cases o:a∈T;grind;have g:T⊆S.erase a:=Ze7;have l:=d.length_le_of_subset g;grind;intro h;have d:T.Nodup:=Ze7;refine⟨d,Nat.le_antisymm (d.length_le_of_subset f)<|j.length_le_of_subset λa k=> ?_⟩;grind
section
variable {h:Hp}{s:Ck}{p:Pts}
def Found.rm(f:Found h s p)(C:ZI (Zu h)=xk)(y:Xp h=J p):RQ s=(!h.Z||p.H.all (Rz h p)):=by
 have G:=Cd y (k:=1) Z0;have F:(p.H.map λo=>YW h 1 o.Y).Nodup:=by
  have:=Tiles.nq C (k:=1) Z0 G;rw[List.nodup_iff_pairwise_ne,ZiO];exact this
 have n:∀t∈Xz s.o3++Xz s.o4,t∈p.H.map λo=>YW h 1 o.Y:=by
  intro t d;have:∃k,(3<=k/\k<=4)/\t∈Xz (p.at k):=by
   obtain d|d:=Zfy.1 d;exact⟨3,Z0,by rw[f.o3]at d;exact d⟩;exact⟨4,Z0,by rw[f.o4]at d;exact d⟩
  let⟨k,x,d⟩:=this;simp[Xz,Zfj,Zhn]at d;obtain⟨o,⟨r,L⟩,rfl⟩:=d;let⟨q,z,B,_⟩:=Z5J y x r L;exact Zfj.2 ⟨q,z,B⟩
 have N:∀t∈Xz s.o3++Xz s.o4,(Y2 s.pm t).getD 0=1:=by
  intro t d;let⟨q,z,B⟩:=Zfj.1<|n t d;have u:(Yz h 1 (p.at 1) t).isSome=xk:=by
   unfold Yz;rw[List.find?_isSome];exact⟨q,z,Ze7⟩
  have o:=λk x M=>EW (k:=1) (j:=k) C y Z0 x M u;rw[f.pd,o 4 Z0 Z0,o 3 Z0 Z0,o 2 Z0 Z0,u];rfl
 unfold RQ;rw[f.hp];cases S:h.Z;rfl;simp[ZhP,Zik];have key:=Z5e F (T:=Xz s.o3++Xz s.o4) n;have g:p.H.all (Rz h p)=xk↔ ∀a∈(p.H.map λo=>YW h 1 o.Y),(Xz s.o3++Xz s.o4).count a=1:=by
  rw[Zfe];constructor;intro A a H;obtain⟨o,r,rfl⟩:=Zfj.1 H;have:=A o r;simp[Rz,Zfv,UE,OJ]at this;rw[List.count_append,f.o3,f.o4];exact this;intro A o r;have:=A _<|Zfj.2 ⟨o,r,rfl⟩;rw[List.count_append,f.o3,f.o4]at this;simp_all[Rz,UE,OJ]
 rw[ZfC]at key;have w:=zH (pm:=s.pm) (l:=s.o3) (m:=[]) (K:=[]) Z1 (by simp[Y2]) rfl;simp only[ZfU]at w;rw[Ziq,g,<-key];cases u:WA s.pm s.o3 []with
 |none=>
  grind
 |some m=>
  rw[u]at w;let⟨X,O,P,Q⟩:=w;simp[Zfd];have c2:=zH (pm:=s.pm) (l:=s.o4) (m:=m) (K:=Xz s.o3) O Q P;cases D:WA s.pm s.o4 m with
  |none=>
   simp_all
  |some W=>
   rw[D]at c2;let⟨Y,Z,R,r4⟩:=c2;simp[Zfv,R,f.o1];simp_all
end
end Vm
namespace Vm
open Go Go.Proofs
def Oq:∀ {l} {a:Int} {i:Nat},XJ l xk a i=xk->∀w∈l,w=0
 | [],_,_,_,w,d=>by simp at d
 |x::l,a,i,h,w,d=>by
  simp[XJ,Zfv]at h;obtain rfl|d:=Zfz.1 d;exact h.1.1;exact Oq h.2 w d
def Lp{s k q}:V7 s k q=xk↔ ∀o∈s.du k,o.gone=xw->∀j,j<o.M.toNat->q ((o.Y.toNat+1+j:Nat):Int) (VT (Zx s.h k)<|o.Y.toNat+1+j)=xk:=by
 unfold V7 obQ;grind
def Z6k{h p}(u:Xp h=J p){k}(r:1<=k/\k<=4):WG h p k=xk↔ ∀o∈p.at k,o.gone=xw->∀j,j<o.M.toNat->U8 h p k (o.Y.toNat+1+j)=xk:=by
 unfold WG yW;rw[Zfe];constructor;simp_all;intro x o t;rw[Zfe];intro j l;have l:=ZhK.1 l;cases q:o.gone;simp_all;have d:=((Cd u r).ba o t).1;have w:=YE.1 d.shape;have f:=d.gd;rw[q]at f;have g:=d.aw;have n:=d.iy;have a:o.Y.toNat+1+j< I (Zx h k):=Z0;have y:(Zx h k)[o.Y.toNat+1+j]?=J 0:=by
  rw[Zf4 a];refine Zgb J<|(Oq f) _ ?_;rw[Zie];refine⟨j,?_⟩;rw[ZfE,if_pos Z0,Zfu,Zf4 a]
 grind [Xu,U8]
section
variable {h:Hp}{s:Ck}{p:Pts}
def Found.M(u:Found h s p)(K:ZI (Zu h)=xk)(G:Xp h=J p):(Qr s&&(Qu s&&Q9 s))=(h.E.all (λw=>Xu h p w 1 2)&&WG h p 1&&WG h p 2&&WG h p 3&&WG h p 4):=by
 have g:=u.rx K G;have t:s.h.E.all (λw=>YO s w 1 2)=h.E.all (λw=>Xu h p w 1 2):=by
  rw[u.hp];congr 1;funext w;exact(g w).1
 have l:=λk=>u.du (k:=k);have r:∀k (q:Nat->Int->Bool) (F:1<=k/\k<=4),(∀a,U8 h p k a=q a (VT (Zx h k) a))->(WG h p k=xk↔ ∀o∈p.at k,o.gone=xw->∀j,j<o.M.toNat->q (o.Y.toNat+1+j) (VT (Zx h k)<|o.Y.toNat+1+j)=xk):=by
  intro k q F H;rw[Z6k G F];simp[H]
 have p3:=r 3 (λ_ w=>Xu h p w 3 4) Z0 (λa=>by simp[U8,VT]);have p4:=r 4 (λ_ w=>Xu h p w 3 4) Z0 (λa=>by simp[U8,VT]);have L:=r 1 (λa w=>if h.aa<=a then Xu h p w 1 2||Xu h p w 3 4 else Xu h p w 1 2) Z0 (λa=>by simp[U8,VT]);have N:V7 s 2 (λ_ w=>YO s w 1 2)=xk↔WG h p 2=xk:=by
  rw[r 2 (λ_ w=>Xu h p w 1 2) Z0 (λa=>by simp[U8,VT]),Lp,l,u.hp];simp[(g _).1]
 have O:V7 s 3 (λ_ w=>YO s w 3 4)=xk↔WG h p 3=xk:=by
  rw[p3,Lp,l,u.hp];simp[(g _).2.1]
 have P:V7 s 4 (λ_ w=>YO s w 3 4)=xk↔WG h p 4=xk:=by
  rw[p4,Lp,l,u.hp];simp[(g _).2.1]
 have M:(V7 s 1 (λa w=>decide (s.h.aa<=a)||YO s w 1 2)=xk/\V7 s 1 (λa w=>decide (a<s.h.aa)||YO s w 1 4)=xk)↔WG h p 1=xk:=by
  rw[L,Lp,Lp,l,u.hp];simp only[(g _).1,(g _).2.2];constructor;rintro⟨C,D⟩ o A y j z;have C:=C o A y j z;have D:=D o A y j z;generalize o.Y.toNat+1+j=n at*;by_cases x:h.aa<=n;have:¬n<h.aa:=Z0;simpa[x,this]using D;simpa[x]using C;intro B;refine⟨λo A y j z=> ?_,λo A y j z=> ?_⟩;have B:=B o A y j z;generalize o.Y.toNat+1+j=n at*;by_cases x:h.aa<=n;simp[x];simpa[x]using B;have B:=B o A y j z;generalize o.Y.toNat+1+j=n at*;by_cases x:h.aa<=n;have:¬n<h.aa:=Z0;simpa[x,this]using B;have:n<h.aa:=Z0;simp[this]
 unfold Qr Qu Q9;rw[t,Ziq];simp[Zf6];rw[N,O,P,<-M];constructor;rintro⟨⟨a,b,c⟩,d,e,f⟩;exact⟨⟨⟨⟨a,c,d⟩,b⟩,e⟩,f⟩;rintro⟨⟨⟨⟨a,c,d⟩,b⟩,e⟩,f⟩;exact⟨⟨a,b,c⟩,d,e,f⟩
def Found.tx(a:Found h s p):Qp s=decide ((I h.H:Int)+I h.ac+Xb p<=h.cap):=by
 unfold Qp QA Xb;rw[a.hp,a.o3,a.o4]
end
def Z4Y h:Ty h=(SM (Xv h)&&Qo (Xv h)):=by
 grind [Ty,SM,Qo,Xv,Zu]
def I0 h:(UY h).isSome=YI h/\∀s,UY h=J s->∃p,Xp h=J p/\Found h s p:=by
 have k:UY h=(if SM _=xk then if Qo (Xv h)=xk then if(XW<|Xv h).1=xk then
   if RQ (XW<|Xv h).2=xk then if Qr (XW<|Xv h).2=xk then if Qu (XW<|Xv h).2=xk then if Q9 (XW<|Xv h).2=xk then if Qp (XW<|Xv h).2=xk then
    J (XW<|Xv h).2 else U else U else U else U else U else U else U else U):=rfl
 unfold YI;rw[Z4Y h];cases a:SM _;simp_all;have g:ZI (Zu h)=xk:=by
  unfold SM at a;simp[Zf6]at a;exact a.1
 cases j:Qo _;simp_all;have l:=Z9f g;cases f:Xp h with
 |none=>
  simp_all
 |some p=>
  rw[f]at l;let⟨q,d⟩:=l;rw[a,j,q]at k;simp at k;generalize (XW _).2=s at*;have n:=d.M g f;have o:=d.tx;have r:So h p=(RQ s&&((Qr s&&(Qu s&&Q9 s))&&Qp s)):=by
   rw[d.rm g f,n,o];unfold So;simp[Bool.and_assoc]
  grind
def Z45 h k:L8 h k=Uw h k:=by
 let⟨d,g⟩:=I0 h;unfold L8 Uw;cases f:UY h with
 |none=>
  simp_all
 |some s=>
  rw[f]at d;have a:YI h=xk:=d.symm;let⟨p,l,j⟩:=g s f;simp[a,l,j.du]
end Vm
end
section
namespace Vm
open Go Go.Proofs Go.RowKit
section
def Ej{α:Type}(F:Fence)(n:Nat)(P:Z5)(g:Nat)(lb:Zd)(d:α->Array Value)(Kp:World->World->Prop)(S:List α->World->Prop)(k:List PanicEntry->List α->World->Prop)(N:Nat)(bt:Option Nat)(j:World->Prop)(w:Z3):Prop:=
 ∀(l:Nat) (o:List α->World->Prop) (W:Z3),Below (xz<|xj w) w W->(∀pre W,o pre W->j W)->(∀s A B row,o s A->A.grownBy B row->(∀r,row=J r->J r=bt)->o s B)->
  (∀pre x f,o pre f->I pre<N->YieldAt F (n-1) P l (d x) f λe a=>e=.returned (.bool xk)/\o (pre++[x]) a/\Kp f a)->
  o [] W->
  CallsIn F n P g (#[.func (.yield l) #[] #[]]++lb) W λe a=>(∃v h,e=.returned v/\S h a/\o h a)\/(∃chain pre,e=.panicked chain/\k chain pre a/\o pre a)
def Z6e{α:Type}(B:Nat)(Kp:World->World->Prop)(I:List α->World->Prop)(xs:List α)(W:Z3):Exit->Act->World->Prop
 |.normal,_,a=>KeepsFrom B W a/\Kp W a/\I xs a
 |_,_,_=>False
def OwnP{β:Type}(bt:Option Nat)(B:Nat)(I:β->World->Prop):Prop:=
 ∀s X Y row,I s X->X.grownBy Y row->(∀r,row=J r->J r=bt\/(B<=r/\∃o:Obj,X.heap[r]?=J o/\o.isCells=xw))->I s Y
def OwnP.putObj{β:Type}{bt:Option Nat}{B:Nat}{I:β->World->Prop}(h:OwnP bt B I){s:β}{W:Z3}{l:Nat}{o:Obj}(a:Obj)(d:I s W)(f:B<=l)(g:W.heap[l]?=J o)(j:o.isCells=xw):I s<|W.putObj l a:=
 h s W _ (J l) d (ZhS W l a) (λr e=>Ze8)
def OwnP.alloc{β:Type}{bt:Option Nat}{B:Nat}{I:β->World->Prop}(h:OwnP bt B I){s:β}{W:Z3}(o:Obj)(a:I s W):I s<|W.alloc o:=
 h s W _ U a (Zgq W o U) (λr e=>by cases e)
variable {F:Fence}{n:Nat}{P:Z5}
def Z9n{α:Type}{g:Operand}{ps:Array Tmp}{assign body:Code}{Q:Ze}{a:Act}{w:Z3}
  (d0:F.round=U) (h1:1<=n) {gf:Nat} {lb:Zd} (hg:a.eval g=.func (.func gf) #[] lb) (d5:F.fn gf) (eg:∀args w,(callFunc gf args).run P w=.ok (.enter gf args) w)
  {f:α->Array Value} {Kp:World->World->Prop} {S:List α->World->Prop} {Pp:List PanicEntry->List α->World->Prop} {N:Nat} {bt:Option Nat} {Ex:World->Prop} {w0:Z3} (a8:Ej F (n-1) P gf lb f Kp S Pp N bt Ex w0)
  (b5:∀r,bt=J r->r<xz (xj w))
  (T:∀ {A B C:Z3},Kp A B->Kp B C->Kp A C) (a1:∀(W:Z3) (l:Nat) (o o':Obj),xz (xj w)<=l->W.heap[l]?=J o->o.isCells=xw->o.isWalk=xw->Kp W (W.putObj l o')) (a2:Below (xz<|xj w0) w0 w) (d6:∀x,(f x).size=ps.size)
  (I:List α->World->Prop) (hI:OwnP bt (xz<|xj w) I) (b0:∀pre W,I pre W->Ex W) (h0:I [] w) (hS:OwnP U (xz<|xj w) S) (Ax:α->Act->World->Prop) (a9:∀x G,OwnP U (xz<|xj w)<|λ(_:Unit) W=>Ax x G W)
  (q:∀(l:Nat) (pre:List α) (x:α) (W:Z3) (K:Zn),I pre W->(∀G W',KeepsFrom (xz<|xj w) W W'->Kp W W'->I pre W'->Ax x G W'->K G W')->
   assign.wpIn (F.inRound l) (n-1-1) P (Exit.then K<|λ_ _ _=>False) {tmps:=(ps.zip<|f x).foldl (λt (p,v)=>t.setIfInBounds p v) a.tmps,defers:=[]} W)
  (X:∀(l:Nat) (pre:List α) (x:α) (G:Act) (W:Z3),I pre W->Ax x G W->xq pre<N->body.wpIn (F.inRound l) (n-1-1) P (Z6e (xz<|xj w) Kp I (pre++[x]) W) G W)
  (Y:∀(D:Nat) (xs:List α) (W:Z3),xz (xj w)<=D->S xs W->I xs W->W.heap[D]?=J (.deferred<|J [])->Q .normal {a with defers:= {target:=.collected D,args:=#[]}::a.defers} W)
  (M:∀(D:Nat) (chain:List PanicEntry) (pre:List α) (W:Z3),xz (xj w)<=D->Pp chain pre W->I pre W->W.heap[D]?=J (.deferred<|J [])->Q (.panic chain) {a with defers:= {target:=.collected D,args:=#[]}::a.defers} W):
  (Code.rangeFunc g ps assign body).wpIn F n P Q a w:=by
 refine wpIn_rangeFunc λfn b7=> ?_;rw[d0];obtain⟨d,z⟩:∃d:LoopState->Option Code->Loop,d=λst pe=> {state:=st,pending:=pe,fn,tmps:=a.tmps,params:=ps,assign,body,defers:=xz (xj w)}:=⟨_,rfl⟩;obtain⟨H,L⟩:∃H,(w.alloc<|.deferred<|J []).alloc (.loop<|d .ready U)=H:=⟨_,rfl⟩;have b2:H.heap[xz (xj w)+1]?=J (.loop<|d .ready U):=by
  have:=Zgh (w.alloc<|.deferred<|J [])<|.loop<|d .ready U;rw[Zhu]at this;rw[<-L];exact this
 have b1:H.heap[xz<|xj w]?=J (.deferred<|J []):=by
  rw[<-L];exact(Zfp _ _ _ Z1).trans (Zgh w _)
 have b4:Below (xz<|xj w0) w0 H:=by
  rw[<-L];exact a2.trans<|(((Zfr _ w).alloc (Zf9 _) _).alloc Z1 _).mono a2.size
 refine⟨xz (xj w)+1,[{target:=.collected<|xz<|xj w,args:=#[]}],H,{target:=.fn (.func gf) lb,args:=#[.func (.yield<|xz (xj w)+1) #[] #[]]},H,gf,
  #[.func (.yield<|xz (xj w)+1) #[] #[]]++lb,H,?_,?_,?_,?_,λ_=>h1,?_⟩
 simp_all[run_enterLoop_outer]
 .simp only[resolve,hg];simp[go_sem]
 simp_all[Target.leads];simp_all[invoke];have R:∀ {A B:Z3} {row:Option Nat} {k:Nat} {o:Obj},A.grownBy B row->(∀r,row=J r->J r=bt)->xz (xj w)<=k->A.heap[k]?=J o->B.heap[k]?=J o:=by
  intro A B row k o u hr hk ho;refine(u.block k (Zf8.1 ho).1 λe=> ?_).trans ho;have:=b5 k (hr k e.symm).symm;omega
 refine(a8 (xz (xj w)+1) (λpre W=>I pre W/\W.heap[xz (xj w)+1]?=J (.loop<|d .ready U)/\W.heap[xz<|xj w]?=J (.deferred<|J [])) H b4 (λpre W h=>b0 pre W h.1)
  (λs A B row hs u hr=>⟨hI s A B row hs.1 u (λr e=>.inl<|hr r e),R u hr Z0 hs.2.1,R u hr (Zf9 _) hs.2.2⟩) ?_ ⟨by rw[<-L];exact hI.alloc _<|hI.alloc _ h0,b2,b1⟩).mono ?_
 rintro pre x W ⟨hi,Z,hk⟩ a7;have hy:=run_yield (P:=P) (args:=f x) Z Ze8;rw[z]at hy;refine⟨fn,_,assign,body,hy,roundIn_of_wpIn b7<|q _ pre x W _ hi ?_⟩;intro G V a5 c5 b9 b3;have y:=a5.same _ _ Z0 Z rfl;have c1:=a5.same _ _ (Zf9 _) hk rfl;have c7:xz (xj w)+1<xz (xj V):=(Zf8.1 y).1;refine⟨_,run_beginRound y (by rw[z]),?_⟩;have c6:(V.putObj (xz (xj w)+1)<|.loop {d .ready U with state:=.busy}).heap[xz (xj w)+1]?=J (.loop {d .ready U with state:=.busy}):=Zhx c7;have c0:(V.putObj (xz (xj w)+1)<|.loop {d .ready U with state:=.busy}).heap[xz<|xj w]?=J (.deferred<|J []):=(ZfI Z0).trans c1;have c8:Kp V<|V.putObj (xz (xj w)+1)<|.loop {d .ready U with state:=.busy}:=a1 _ _ _ _ Z0 y rfl rfl;refine wpIn_mono (X _ pre x G _ (hI.putObj _ b9 Z0 y rfl) ((a9 x G).putObj (s:=()) _ b3 Z0 y rfl) a7) ?_;rintro e a3 W3 O;cases e with
 |normal=>
  obtain⟨a4,a6,b8⟩:=O;have a0:=a4.same _ _ Z0 c6 rfl;have b6:=a4.same _ _ (Zf9 _) c0 rfl;have j:=run_endRound (P:=P) U a0;refine⟨_,_,j,rfl,⟨hI.putObj _ b8 Z0 a0 rfl,?_,(ZfI Z0).trans b6⟩,T c5<|T (T c8 a6)<|a1 _ _ _ _ Z0 a0 rfl rfl⟩;grind [World.putObj_heap_same,Array.getElem?_eq_some_iff]
 |ret=>exact O.elim
 |exit id=>exact O.elim
 |goto t=>exact O.elim
 |panic ch=>exact O.elim
 |outgrown=>exact O.elim
 rintro e W2 (⟨v,xs,rfl,hs,hi,Z,hk⟩|⟨chain,pre,rfl,O,hi,Z,hk⟩);have j:=run_endLoop (P:=P) Z Ze8;rw[z]at j;exact⟨U,_,j,Y _ xs _ (Zf9 _) (hS.putObj _ hs Z0 Z rfl) (hI.putObj _ hi Z0 Z rfl)<|(ZfI Z0).trans hk⟩;exact M _ chain pre _ (Zf9 _) O hi hk
end
end Vm
end
section
namespace Vm
open Go
open Go.Proofs
def Mf:Fn:=⟨4,[0,2,3,4],pQ [pR [pV 1 pF],pC [pK 4 44 [.s 0]] [pV 2<|.ext (.s 4) 0,pV 3<|.ext (.s 4) 1],.am ⟨[.lt 5 []<|pe (.s 0)<|pU 0],[([(5,xw)],pe (.s 3)<|pI 0)],[pV 1<|.ite (.s 5) pT<|pe (.s 3)<|pI 0]⟩] .ret,[(1,.v)]⟩
def Z11:ZL Sol.prog fresh sig [.fz] [] Try.f135=J Mf:=Z2
end Vm
end
section
namespace Vm
open Go Go.Proofs Go.RowKit
def Z6d{x}(hx:ZB x):VC Sol.prog 135 xw [vu x]<|.bool<|VM x:=by
 refine ZW Sol.func135 follows Z2 Z11 rfl ?_;simp[Mf];refine Zy (K5 hx) Z1 ?_;simp_all[VM]
def N4{x}(hx:ZB x)w:Calls Sol.prog 135 #[.int .u64 x] w λe a=>e=.returned (.bool<|VM x)/\Below (xz<|xj w) w a:=
 TQ (Z6d hx) rfl rfl w
structure Words (w:World) (ws:List Int) (g o cap:Nat):Prop where
 Y:∀(i:Nat) (x:Int),ws[i]?=J x->w.cell? ⟨g,o+i,U⟩=J (.int .u64 x)
 le:I ws<=cap
 cap:cap<=maxLen
 len:I ws<=1000000
 u64:∀x∈ws,ZB x
def Vk(e:Int):List PanicEntry:=[{v:=.iface 189<|.agg #[.int .i64 e],recovered:=xw}]
def WM(o:Ob):Value:=.agg #[.int .i64 o.Y,.int .i64 o.size,.int .i64 o.M,.bool o.gone,.int .u64 o.target]
def yf(ws:List Int)(o:Ob):Ending:=
 if(I ws:Int)<o.Y+1+o.size then .panicked (Vk 2)else if XJ ((ws.drop<|o.Y.toNat+1).take o.size.toNat) o.gone o.M 0=xw then .panicked (Vk 3)else .returned<|.tuple #[]
def Z2q w ws g o cap(C:Words w ws g o cap)(hg:g<xz (xj w))(t:Ob)(a:Nat)(N:t.Y=a)(A:a<I ws)(B:YJ t.size t.M=xk):
  Calls Sol.prog 134 #[.slice (J ⟨g,o,U⟩) (I ws) cap,WM t] w λe w'=>e=yf ws t/\Below (xz<|xj w) w w':=by
 have hl:=C.len;have hc:=C.le;have hm:=C.cap;obtain⟨at_,size,ptrs,gone,target⟩:=t;simp only at N B;subst N;obtain⟨s1,s2,s3,s4⟩:=YE.1 B;obtain⟨m,rfl⟩:=Zfi s1;have L:=Zfa C;have r:yf ws ⟨a,m,ptrs,gone,target⟩=if(I ws:Int)<a+1+m then .panicked (Vk 2)else if XJ ((ws.drop<|a+1).take m) gone ptrs 0=xw then .panicked (Vk 3)else .returned<|.tuple #[]:=rfl
 generalize yf ws ⟨a,m,ptrs,gone,target⟩=E at*;unfold WM;dsimp only;by_cases l:(I ws:Int)<a+1+m
 .rw[if_pos l]at r;have u:=Zfa r;clear r;have S:((I ws- (a+1):Nat):Int)<m:=Z0;go_enter Sol.func134,Try.ntmps134;go_wp2;all_goals exact⟨rfl,u.out.symm,(Zfr _ _).alloc Z0 _⟩
 .rw[if_neg l]at r;have u:=Zfa r;clear r;have P:(m:Int)<=((I ws- (a+1):Nat):Int):=Z0;have Q:m<=I ws- (a+1):=Z0;have T:(I ws- (a+1)<m)=False:=Ze8;have Z:m<=cap- (a+1):=Z0;have a0:m<=255:=Z0;clear C l;by_cases z:cap=a+1
  .have H:m=0:=Z0;subst H;subst z;go_enter Sol.func134,Try.ntmps134;go_wp2;go_loopw [26] (λi wr=>i=.int .i64 0/\Hid (Below (xz<|xj w) w wr)) (λi _=>0)
   case atStart=>exact⟨rfl,Zfa<|(Zfr _ _).alloc Z0 _⟩
   case round=>
    obtain⟨rfl,X⟩:=hrel;go_wp2;go_end0
    exact⟨u.out.symm,X.out⟩
  .go_enter Sol.func134,Try.ntmps134;go_wp2
   go_loopw [26] (λi wr=>∃k:Nat,i=.int .i64 k/\k<=m/\Hid (Below (xz<|xj w) w wr/\wr.heap[xz<|xj w]?=J (.cells #[.int .i64 a,.int .i64 m,.int .i64 ptrs,.bool gone,.int .u64 target] 59 (0,0))/\
     XJ ((ws.drop<|a+1).take m) gone ptrs 0=XJ (((ws.drop<|a+1).take m).drop k) gone ptrs k)) (λi _=>m- (intOf i).toNat)
   case atStart=>exact⟨0,rfl,Z0,Zfa ⟨(Zfr _ _).alloc Z0 _,ZfG w _,rfl⟩⟩
   case round=>
    obtain⟨k,rfl,hk,d⟩:=hrel;by_cases A:k<m
    .obtain⟨x,K⟩:∃x,ws[a+1+k]?=J x:=⟨_,Zf4 Z0⟩;have W:ZB x:=L.out.u64 x Ze7;have M:((ws.drop<|a+1).take m)[k]?=J x:=by
      rw[ZfE,if_pos A,Zfu];exact K
     have c0:wr.cell? ⟨g,o+(a+1)+k,U⟩=J (.int .u64 x):=by
      rw[Zgi];exact(d.out.1.cell (p:=⟨g,o+(a+1+k),U⟩) hg).trans (L.out.Y _ _ K)
     have c1:wr.cell? ⟨xz<|xj w,1,U⟩=J (.int .i64 m):=ZeM;have c2:wr.cell? ⟨xz<|xj w,2,U⟩=J (.int .i64 ptrs):=ZeM;have c3:wr.cell? ⟨xz<|xj w,3,U⟩=J (.bool gone):=ZeM;have q:=Z8l (gone:=gone) (ptrs:=ptrs) M;have R:(k:Int)<m:=Z0;have F:=Yv d.out.2.1;clear K M;have stop:XJ (((ws.drop<|a+1).take m).drop k) gone ptrs k=xw->E=.panicked (Vk 3):=λh=>by
      rw[u.out,d.out.2.2,h,if_pos rfl]
     cases gone
     .by_cases hp:(k:Int)<ptrs
      .cases G:VM x
       .have f:=Zfa<|stop Ze8;clear stop q;go_wp2_with (go_at_call 135;refine(N4 W _).mono ?_;rintro e w1 ⟨rfl,j⟩;have n:=Zfa j;clear j)
        exact⟨rfl,f.out.symm,d.out.1.trans<|n.out.mono d.out.1.size⟩
       .have y:=Zfa<|q.trans (by simp[G]:_=XJ (((ws.drop<|a+1).take m).drop<|k+1) xw ptrs (k+1));clear stop q;go_wp2_with (go_at_call 135;refine(N4 W _).mono ?_;rintro e w1 ⟨rfl,j⟩;have n:=Zfa j;clear j)
        go_wp2;go_roundw
        case rel=>
         exact⟨k+1,by go_num,Z0,Zfa ⟨d.out.1.trans<|n.out.mono d.out.1.size,(n.out.block _ F).trans d.out.2.1,d.out.2.2.trans y.out⟩⟩
        case measure=>grind [intOf]
      .have y:=Zfa<|q.trans (by simp[hp]:_=XJ (((ws.drop<|a+1).take m).drop<|k+1) xw ptrs (k+1));clear stop q;go_wp2;go_roundw
       case rel=>exact⟨k+1,by go_num,Z0,Zfa ⟨d.out.1,d.out.2.1,d.out.2.2.trans y.out⟩⟩
       case measure=>grind [intOf]
     .by_cases Y:x=0
      .subst Y;have y:=Zfa<|q.trans (by simp[VM]:_=XJ (((ws.drop<|a+1).take m).drop<|k+1) xk ptrs (k+1));clear stop q;go_wp2;go_roundw
       case rel=>exact⟨k+1,by go_num,Z0,Zfa ⟨d.out.1,d.out.2.1,d.out.2.2.trans y.out⟩⟩
       case measure=>grind [intOf]
      .have f:=Zfa<|stop Ze8;clear stop q;go_wp2;exact⟨rfl,f.out.symm,d.out.1⟩
    .have:k=m:=Z0;subst this;have D:=d.out.2.2;have O:((ws.drop<|a+1).take k).drop k=[]:=Z1;rw[O]at D;have f:=Zfa<|u.out.trans (by rw[D];rfl:_=Ending.returned (.tuple #[]));clear D O;go_wp2;go_end0
     exact⟨f.out.symm,d.out.1⟩
end Vm
namespace Vm
open Go Go.Proofs Go.RowKit
def Z4I w:Sem.run Sol.prog (binOp .neq 190 .nilFunc .nilFunc) w=.ok (.bool xw) w:=ZeX
def BB w f vs:Sem.run Sol.prog (binOp .neq 190 (.func (.func f) #[] vs) .nilFunc) w=.ok (.bool xk) w:=ZeX
def qM{w:World}{b T v0 v1 d f v4}(h:w.heap[b]?=J (.cells #[v0,v1,d,f,v4] T (0,0)))O:
  ((w.alloc O).cell? ⟨b,0,U⟩=J v0/\(w.alloc O).cell? ⟨b,1,U⟩=J v1/\(w.alloc O).cell? ⟨b,2,U⟩=J d/\(w.alloc O).cell? ⟨b,3,U⟩=J f/\(w.alloc O).cell? ⟨b,4,U⟩=J v4)/\
  (w.alloc O).frozen? ⟨b,0,U⟩=xw/\(w.alloc O).frozen? ⟨b,1,U⟩=xw/\(w.alloc O).frozen? ⟨b,2,U⟩=xw/\(w.alloc O).frozen? ⟨b,3,U⟩=xw/\(w.alloc O).frozen? ⟨b,4,U⟩=xw:=by
 have a:(w.alloc O).heap[b]?=J _:=(Zfp _ _ _ Ze7).trans h;refine⟨⟨?_,?_,?_,?_,?_⟩,Yw a,Yw a,Yw a,Yw a,Yw a⟩<;>(rw[Zfg _ _ _ _ _ _ a];rfl)
def SL(a:Nat)(x:Int):Ending:=if(ZR x).2.2=0 then .returned (WM ⟨a,(ZR x).1,(ZR x).2.1,xw,0⟩)else .panicked<|Vk 3
def Z0u w ws g o cap(n:Words w ws g o cap)(L:g<xz (xj w))(a:Nat)x(hx:ws[a]?=J x):
  Calls Sol.prog 133 #[.slice (J ⟨g,o,U⟩) (I ws) cap,.int .i64 a,.nilFunc] w λe N=>e=SL a x/\Below (xz<|xj w) w N:=by
 have Y:=n.len;have X:=n.le;have Z:=n.cap;have M:a<I ws:=Ze7;have A:(a:Int)<I ws:=Z0;have q:ZB x:=n.u64 x Ze7;have C:=n.Y a x hx;have y:∀W,Below (xz<|xj w) w W->W.cell? ⟨g,o+a,U⟩=J (.int .u64 x):=λW K=>(K.cell (p:=⟨g,o+a,U⟩) L).trans C;have l:SL a x=if(ZR x).2.2=0 then .returned (WM ⟨a,(ZR x).1,(ZR x).2.1,xw,0⟩)else .panicked<|Vk 3:=rfl
 generalize SL a x=E at*;have u:=Zfa y;have B:=Z4I;clear n hx y;by_cases z:(ZR x).2.2=0
 .rw[if_pos z]at l;have r:=Zfa l;clear l;go_enter Sol.func133,Try.ntmps133
  go_wp2_with (first
   |(go_at_call 44;refine(SI q _).mono ?_;rintro e w1 ⟨rfl,f⟩;have d:=Zfa f;have D:=u.out w1<|((((Zfr _ w).alloc (by omega) _).alloc (by simp) _).trans<|f.mono (by simp;omega));clear f)
   | (go_at_call 69;refine(JO q _).mono ?_;rintro e w2 ⟨rfl,h⟩;have j:=Zfa h
      have H:=d.out.block;have r0:w2.heap[xz<|xj w]?=J (.cells #[.int .i64 0,.int .i64 0,.int .i64 0,.bool xw,.int .u64 0] 59 (0,0)):=(h.block _ ZeG).trans<|(d.out.block _ Ze9).trans<|(Zfp _ _ _ Z1).trans<|ZfG w _;have t:w2.heap[xz (xj w)+1]?=J (.cells #[.int .i64 a,.int .i64 0,.int .i64 0,.bool xw,.int .u64 0] 59 (0,0)):=(h.block _ ZeG).trans<|(d.out.block _ Z1).trans Zed;obtain⟨⟨O,P,Q,R,S⟩,y0,y1,y2,y3,y4⟩:=qM r0<|.cells #[.int .i64 (ZR x).1,.int .i64 (ZR x).2.1] 52;obtain⟨⟨p0,p1,p2,p3,p4⟩,q0,q1,q2,q3,q4⟩:=qM t<|.cells #[.int .i64 (ZR x).1,.int .i64 (ZR x).2.1] 52;have T:=Zfa<|And.intro r0 t;clear h H r0 t))
  refine ZfV (v:=WM ⟨a,(ZR x).1,(ZR x).2.1,xw,0⟩) ?_ rfl ⟨r.out.symm,?_⟩
  .simp[results,Try.results133,go_sem,WM,O,P,Q,R,S]
  have k:=(((Zfr _ w).alloc (Zf9 _)<|.cells #[.int .i64 0,.int .i64 0,.int .i64 0,.bool xw,.int .u64 0] 59).alloc Z1<|.cells #[.int .i64 a,.int .i64 0,.int .i64 0,.bool xw,.int .u64 0] 59).trans<|d.out.mono Ze9;have G:=(k.trans<|j.out.mono (by have:=k.size;omega)).alloc (by have:=k.size;have:=j.out.size;omega)<|.cells #[.int .i64 (ZR x).1,.int .i64 (ZR x).2.1] 52;exact((((((G.setCell (p:=⟨xz (xj w)+1,1,U⟩) Z1 _).setCell (p:=⟨xz (xj w)+1,2,U⟩) Z1 _).setCell (p:=⟨xz<|xj w,0,U⟩) (Zf9 _) _).setCell (p:=⟨xz<|xj w,1,U⟩) (Zf9 _) _).setCell (p:=⟨xz<|xj w,2,U⟩) (Zf9 _) _).setCell (p:=⟨xz<|xj w,3,U⟩) (Zf9 _) _).setCell (p:=⟨xz<|xj w,4,U⟩) (Zf9 _) _
 .rw[if_neg z]at l;have r:=Zfa l;clear l;have F:((ZR x).2.2=0)=False:=Ze8;go_enter Sol.func133,Try.ntmps133
  go_wp2_with (first
   |(go_at_call 44;refine(SI q _).mono ?_;rintro e w1 ⟨rfl,f⟩;have d:=Zfa f;have D:=u.out w1<|((((Zfr _ w).alloc (by omega) _).alloc (by simp) _).trans<|f.mono (by simp;omega));clear f)
   |(go_at_call 69;refine(JO q _).mono ?_;rintro e w2 ⟨rfl,h⟩;have j:=Zfa h;clear h))
  refine⟨rfl,r.out.symm,?_⟩;have k:=(((Zfr _ w).alloc (Zf9 _)<|.cells #[.int .i64 0,.int .i64 0,.int .i64 0,.bool xw,.int .u64 0] 59).alloc Z1<|.cells #[.int .i64 a,.int .i64 0,.int .i64 0,.bool xw,.int .u64 0] 59).trans<|d.out.mono Ze9;exact(k.trans<|j.out.mono (by have:=k.size;omega)).alloc (by have:=k.size;have:=j.out.size;omega) _
end Vm
namespace Vm
open Go Go.Proofs Go.RowKit
def Og s p w:Calls Sol.prog 94 #[.agg #[.int .i64 s,.int .i64 p]] w λe a=>e=.returned (.bool<|YJ s p)/\Below (xz<|xj w) w a:=
 TQ NK rfl rfl w
structure Shps (w:World) (shs:List<|Int×Int) (bs:Nat) (v:Value):Prop where
 box:w.heap[bs]?=J (.cells #[v] 180 (0,0))
 val:(∃g o cap,v=.slice (J ⟨g,o,U⟩) (I shs) cap/\I shs<=cap/\cap<=maxLen/\g<xz (xj w)/\∀(i:Nat) (x:Int×Int),shs[i]?=J x->w.cell? ⟨g,o+i*2,U⟩=J (.int .i64 x.1)/\w.cell? ⟨g,o+i*2+1,U⟩=J (.int .i64 x.2))\/
  (∃a cap,v=.slice a 0 cap/\shs=[])
def Z2j w shs bt h v(x:I shs<=1000000)(d:Shps w shs h v)(f:w.heap[bt]?=J (.cells #[.int .i64<|I shs] 3 (0,0))):
  Calls Sol.prog 129 #[.pointer<|J ⟨bt,0,U⟩,.pointer<|J ⟨h,0,U⟩] w λe p=>e=.panicked (Vk 3)/\Below (xz<|xj w) w p:=by
 have k:w.cell? ⟨bt,0,U⟩=J (.int .i64<|I shs):=by rw[Zfg _ _ _ _ _ _ f];rfl
 have n:=Yv f;have j:=Yv d.box;have q:w.cell? ⟨h,0,U⟩=J v:=by rw[Zfg _ _ _ _ _ _ d.box];rfl
 obtain⟨g,o,cap,rfl,r,t,u,l⟩|⟨a,cap,rfl,rfl⟩:=d.val
 .clear l d f;go_enter Sol.func129,Try.ntmps129;go_wp2;exact⟨rfl,rfl,(Zfr _ _).alloc Z0 _⟩
 .clear d f;simp[Zgc]at k;go_enter Sol.func129,Try.ntmps129;go_wp2;exact⟨rfl,rfl,(Zfr _ _).alloc Z0 _⟩
def Z2i w shs(bt j t:Nat)v x(H:I shs<=1000000)(f:Shps w shs j v)(k:w.heap[bt]?=J (.cells #[.int .i64 t] 3 (0,0)))(hx:shs[t]?=J x)(r:YJ x.1 x.2=xw):
  Calls Sol.prog 129 #[.pointer<|J ⟨bt,0,U⟩,.pointer<|J ⟨j,0,U⟩] w λe z=>e=.panicked (Vk 3)/\Below (xz<|xj w) w z:=by
 have A:w.cell? ⟨bt,0,U⟩=J (.int .i64 t):=by rw[Zfg _ _ _ _ _ _ k];rfl
 have u:=Yv k;have p:=Yv f.box;have y:t<I shs:=Ze7;have q:t<I shs:=Z0;have B:w.cell? ⟨j,0,U⟩=J v:=by rw[Zfg _ _ _ _ _ _ f.box];rfl
 obtain⟨g,o,cap,rfl,D,F,G,n⟩|⟨a,cap,rfl,rfl⟩:=f.val
 .let⟨C,d1⟩:=n t x hx;have l:=Og x.1 x.2;rw[r]at l;clear n f k hx r;go_enter Sol.func129,Try.ntmps129;go_wp2_with (go_at_call 94;refine(l _).mono ?_;rintro e w1 ⟨rfl,d⟩;have h:=Zfa d;clear d)
  exact⟨rfl,rfl,((Zfr _ w).alloc Z0 _).trans<|h.out.mono Z1⟩
 grind
def Z2k w shs bt j t v x(hl:I shs<=1000000)(r:Shps w shs j v)(l:w.heap[bt]?=J (.cells #[.int .i64 t] 3 (0,0)))(hx:shs[t]?=J x)(L:YJ x.1 x.2=xk)(y:j≠bt)
  (q:∀g o cap,v=.slice (J ⟨g,o,U⟩) (I shs) cap->g≠bt):
  Calls Sol.prog 129 #[.pointer<|J ⟨bt,0,U⟩,.pointer<|J ⟨j,0,U⟩] w λe M=>e=.returned (.agg #[.int .i64 x.1,.int .i64 x.2])/\w.grownBy M (J bt)/\M.heap[bt]?=J (.cells #[.int .i64 ((t+1:Nat):Int)] 3 (0,0)):=by
 have N:w.cell? ⟨bt,0,U⟩=J (.int .i64 t):=by rw[Zfg _ _ _ _ _ _ l];rfl
 have f:=Yv l;have n:=Yv r.box;have R:t<I shs:=Ze7;have A:¬t=I shs:=Z0;have K:(t:Int)<I shs:=Z0;have O:w.cell? ⟨j,0,U⟩=J v:=by rw[Zfg _ _ _ _ _ _ r.box];rfl
 have hf:=Yw (o:=0) l;have G:=y;have H:=Z0;obtain⟨g,o,cap,rfl,Y,Z,D,F⟩|⟨a,cap,rfl,rfl⟩:=r.val
 .let⟨P,d1⟩:=F t x hx;have hg:=q g o cap rfl;have C:=Og x.1 x.2;rw[L]at C;have B:=Zfa l;clear F r l hx L q;go_enter Sol.func129,Try.ntmps129
  go_wp2_with (go_at_call 94;refine(C _).mono ?_;rintro e w1 ⟨rfl,d⟩
               have u:=Zfa d;have s1:=d.size;have k0:=(d.cell (p:=⟨bt,0,U⟩) Ze9).trans<|(Zgz _ _ _ f).trans N;have k1:w1.frozen? ⟨bt,0,U⟩=xw:=Yw<|(d.block bt Ze9).trans<|(Zfp _ _ _ f).trans B.out;have k2:=(d.cell (p:=⟨j,0,U⟩) Ze9).trans<|(Zgz _ _ _ n).trans O;have k3:=(d.cell (p:=⟨g,o+t*2,U⟩) Ze9).trans<|(Zgz _ _ _ D).trans P;have k4:=(d.cell (p:=⟨g,o+t*2+1,U⟩) Ze9).trans<|(Zgz _ _ _ D).trans d1;have r0:=(d.block _ Z1).trans<|ZfG w _;have T:w1.cell? ⟨xz<|xj w,0,U⟩=J (.int .i64 0):=by rw[Zfg _ _ _ _ _ _ r0];rfl
               have W:w1.cell? ⟨xz<|xj w,1,U⟩=J (.int .i64 0):=by rw[Zfg _ _ _ _ _ _ r0];rfl
               have y0:=Yw (o:=0) r0;have y1:=Yw (o:=1) r0;have n1:¬xz (xj w)=bt:=Z0;have n2:¬bt=xz (xj w):=Z0;have X:=Zfa r0;clear d r0)
  have h:Below (xz<|xj w) w w1:=((Zfr _ w).alloc Z0<|.cells #[.int .i64 0,.int .i64 0] 52).trans<|u.out.mono Z1;have S:=(h.block bt f).trans B.out;refine ZfV (v:=.agg #[.int .i64 x.1,.int .i64 x.2]) ?_ rfl ⟨rfl,⟨h.os,h.tape,h.output,?_,λk Q A=> ?_⟩,?_⟩
  .simp[results,Try.results129,go_sem,T,W]
  simp[World.setCell];exact h.size;have z:k≠bt:=Ze8;rw[Zft _ _ _ _ Ze7,Zft _ _ _ _ Ze7,Zft _ _ _ _ z];exact h.block k Q;simp_all[World.setCell,ZfH]
 grind
end Vm
namespace Vm
open Go Go.Proofs Go.RowKit
def Z0v w f vs ws g o cap(q:Words w ws g o cap)(N:g<xz (xj w))(a:Nat)x(hx:ws[a]?=J x)(P:¬(adr x).2=0):
  Calls Sol.prog 133 #[.slice (J ⟨g,o,U⟩) (I ws) cap,.int .i64 a,.func (.func f) #[] vs] w λe Q=>e=SL a x/\Below (xz<|xj w) w Q:=by
 have hl:=q.len;have hc:=q.le;have hm:=q.cap;have O:a<I ws:=Ze7;have B:(a:Int)<I ws:=Z0;have r:ZB x:=q.u64 x Ze7;have D:=q.Y a x hx;have z:∀W,Below (xz<|xj w) w W->W.cell? ⟨g,o+a,U⟩=J (.int .u64 x):=λW L=>(L.cell (p:=⟨g,o+a,U⟩) N).trans D;have n:SL a x=if(ZR x).2.2=0 then .returned (WM ⟨a,(ZR x).1,(ZR x).2.1,xw,0⟩)else .panicked<|Vk 3:=rfl
 generalize SL a x=E at*;have y:=Zfa z;have M:=λW=>BB W f vs;have C:((adr x).2=0)=False:=Ze8;clear q hx z;by_cases A:(ZR x).2.2=0
 .rw[if_pos A]at n;have t:=Zfa n;clear n;go_enter Sol.func133,Try.ntmps133
  go_wp2_with (first
   |(go_at_call 44;refine(SI r _).mono ?_;rintro e w1 ⟨rfl,h⟩;have d:=Zfa h;have F:=y.out w1<|((((Zfr _ w).alloc (by omega) _).alloc (by simp) _).trans<|h.mono (by simp;omega));clear h)
   | (go_at_call 69;refine(JO r _).mono ?_;rintro e w2 ⟨rfl,j⟩;have k:=Zfa j
      have K:=d.out.block;have r0:w2.heap[xz<|xj w]?=J (.cells #[.int .i64 0,.int .i64 0,.int .i64 0,.bool xw,.int .u64 0] 59 (0,0)):=(j.block _ ZeG).trans<|(d.out.block _ Ze9).trans<|(Zfp _ _ _ Z1).trans<|ZfG w _;have u:w2.heap[xz (xj w)+1]?=J (.cells #[.int .i64 a,.int .i64 0,.int .i64 0,.bool xw,.int .u64 0] 59 (0,0)):=(j.block _ ZeG).trans<|(d.out.block _ Z1).trans Zed;obtain⟨⟨R,S,T,X,Y⟩,y0,y1,y2,y3,y4⟩:=qM r0<|.cells #[.int .i64 (ZR x).1,.int .i64 (ZR x).2.1] 52;obtain⟨⟨p0,p1,p2,p3,p4⟩,q0,q1,q2,q3,q4⟩:=qM u<|.cells #[.int .i64 (ZR x).1,.int .i64 (ZR x).2.1] 52;have Z:=Zfa<|And.intro r0 u;clear j K r0 u))
  refine ZfV (v:=WM ⟨a,(ZR x).1,(ZR x).2.1,xw,0⟩) ?_ rfl ⟨t.out.symm,?_⟩
  .simp[results,Try.results133,go_sem,WM,R,S,T,X,Y]
  have l:=(((Zfr _ w).alloc (Zf9 _)<|.cells #[.int .i64 0,.int .i64 0,.int .i64 0,.bool xw,.int .u64 0] 59).alloc Z1<|.cells #[.int .i64 a,.int .i64 0,.int .i64 0,.bool xw,.int .u64 0] 59).trans<|d.out.mono Ze9;have H:=(l.trans<|k.out.mono (by have:=l.size;omega)).alloc (by have:=l.size;have:=k.out.size;omega)<|.cells #[.int .i64 (ZR x).1,.int .i64 (ZR x).2.1] 52;exact((((((H.setCell (p:=⟨xz (xj w)+1,1,U⟩) Z1 _).setCell (p:=⟨xz (xj w)+1,2,U⟩) Z1 _).setCell (p:=⟨xz<|xj w,0,U⟩) (Zf9 _) _).setCell (p:=⟨xz<|xj w,1,U⟩) (Zf9 _) _).setCell (p:=⟨xz<|xj w,2,U⟩) (Zf9 _) _).setCell (p:=⟨xz<|xj w,3,U⟩) (Zf9 _) _).setCell (p:=⟨xz<|xj w,4,U⟩) (Zf9 _) _
 .rw[if_neg A]at n;have t:=Zfa n;clear n;have G:((ZR x).2.2=0)=False:=Ze8;go_enter Sol.func133,Try.ntmps133
  go_wp2_with (first
   |(go_at_call 44;refine(SI r _).mono ?_;rintro e w1 ⟨rfl,h⟩;have d:=Zfa h;have F:=y.out w1<|((((Zfr _ w).alloc (by omega) _).alloc (by simp) _).trans<|h.mono (by simp;omega));clear h)
   |(go_at_call 69;refine(JO r _).mono ?_;rintro e w2 ⟨rfl,j⟩;have k:=Zfa j;clear j))
  refine⟨rfl,t.out.symm,?_⟩;have l:=(((Zfr _ w).alloc (Zf9 _)<|.cells #[.int .i64 0,.int .i64 0,.int .i64 0,.bool xw,.int .u64 0] 59).alloc Z1<|.cells #[.int .i64 a,.int .i64 0,.int .i64 0,.bool xw,.int .u64 0] 59).trans<|d.out.mono Ze9;exact(l.trans<|k.out.mono (by have:=l.size;omega)).alloc (by have:=l.size;have:=k.out.size;omega) _
def F0 w vs ws g o cap(l:Words w ws g o cap)(F:g<xz (xj w))(a:Nat)x(hx:ws[a]?=J x)(A:(adr x).2=0)
  (d:∀W,Below (xz<|xj w) w W->Calls Sol.prog 129 vs W λe W'=>e=.panicked (Vk 3)/\Below (xz<|xj W) W W'):
  Calls Sol.prog 133 #[.slice (J ⟨g,o,U⟩) (I ws) cap,.int .i64 a,.func (.func 129) #[] vs] w λe C=>e=.panicked (Vk 3)/\Below (xz<|xj w) w C:=by
 have z:a<I ws:=Ze7;have t:a<I ws:=Z0;have B:=l.u64 x Ze7;have D:=l.Y a x hx;have y:=λW=>BB W 129 vs;have u:=Zfa d;clear l hx d;go_enter Sol.func133,Try.ntmps133
 go_wp2_with (first
  | (go_at_call 44;refine(SI B _).mono ?_;rintro e w1 ⟨rfl,f⟩
     have r:Below (xz<|xj w) w w1:=((((Zfr _ w).alloc Z0 _).alloc Z1 _).trans<|f.mono Ze9);have j:w1.heap[xz (xj w)+1]?=J (.cells #[.int .i64 a,.int .i64 0,.int .i64 0,.bool xw,.int .u64 0] 59 (0,0)):=(f.block _ Z1).trans Zed;have p3:w1.cell? ⟨xz (xj w)+1,3,U⟩=J (.bool xw):=by rw[Zfg _ _ _ _ _ _ j];rfl
     have p4:w1.cell? ⟨xz (xj w)+1,4,U⟩=J (.int .u64 0):=by rw[Zfg _ _ _ _ _ _ j];rfl
     have G:=Yw (o:=3) j;have H:=Yw (o:=4) j;have n:=Zfa r;clear f r j)
  |(go_at_call 129;refine(u.out _ ?_).mono ?_;rotate_left;rintro e w2 ⟨rfl,h⟩;have k:=Zfa h;clear h))
 case refine_1=>exact(n.out.setCell (p:=⟨xz (xj w)+1,3,U⟩) Z1 _).setCell (p:=⟨xz (xj w)+1,4,U⟩) Z1 _
 case refine_2=>
  have q:=(n.out.setCell (p:=⟨xz (xj w)+1,3,U⟩) Z1<|.bool xk).setCell (p:=⟨xz (xj w)+1,4,U⟩) Z1<|.int .u64 (adr x).1;exact⟨rfl,rfl,q.trans<|k.out.mono q.size⟩
theorem Z2m{w W:World}{r}(h:w.grownBy W r){p}(f:xz (xj w)<=p.block)u:w.grownBy (W.setCell p u) r:=
 ⟨h.os,h.tape,h.output,by simpa[World.setCell]using h.size,λk d a=>(Zft _ _ _ _ Z0).trans<|h.block k d a⟩
def Z0t w vs ws g o cap(B:Words w ws g o cap)(hg:g<xz (xj w))(a:Nat)x(hx:ws[a]?=J x)(Q:(adr x).2=0)
  bt O s p (L:bt<xz (xj w))
  (f:∀W,Below (xz<|xj w) w W->Calls Sol.prog 129 vs W λe W'=>e=.returned (.agg #[.int .i64 s,.int .i64 p])/\W.grownBy W' (J bt)/\W'.heap[bt]?=J O):
  Calls Sol.prog 133 #[.slice (J ⟨g,o,U⟩) (I ws) cap,.int .i64 a,.func (.func 129) #[] vs] w λe H=>e=.returned (WM ⟨a,s,p,xk,(adr x).1⟩)/\w.grownBy H (J bt)/\H.heap[bt]?=J O:=by
 have P:a<I ws:=Ze7;have G:a<I ws:=Z0;have R:=B.u64 x Ze7;have c0:=B.Y a x hx;have M:=λW=>BB W 129 vs;have K:=Zfa f;clear B hx f;go_enter Sol.func133,Try.ntmps133
 go_wp2_with (first
  | (go_at_call 44;refine(SI R _).mono ?_;rintro e w1 ⟨rfl,j⟩
     have D:Below (xz<|xj w) w w1:=((((Zfr _ w).alloc Z0 _).alloc Z1 _).trans<|j.mono Ze9);have r:w1.heap[xz (xj w)+1]?=J (.cells #[.int .i64 a,.int .i64 0,.int .i64 0,.bool xw,.int .u64 0] 59 (0,0)):=(j.block _ Z1).trans Zed;have p3:w1.cell? ⟨xz (xj w)+1,3,U⟩=J (.bool xw):=Zem;have p4:w1.cell? ⟨xz (xj w)+1,4,U⟩=J (.int .u64 0):=Zem;have q3:=Yw (o:=3) r;have q4:=Yw (o:=4) r;have r0:=(j.block _ Ze9).trans<|(Zfp _ _ _ Z1).trans<|ZfG w _;have y:=Zfa<|And.intro r0 r;have C:=Zfa D;clear j D r0 r)
  | (go_at_call 129;refine(K.out _ ?_).mono ?_;rotate_left;rintro e w2 ⟨rfl,l,t⟩
     have d:=Zfa l;have z:=Zfa t;have n:w2.heap[xz (xj w)+1]?=J (.cells #[.int .i64 a,.int .i64 0,.int .i64 0,.bool xk,.int .u64 (adr x).1] 59 (0,0)):=(l.block _ (by simp[World.setCell];exact Yv y.out.2) Ze9).trans (by simp[World.setCell,ZfH,y.out.2]);have h:w2.heap[xz<|xj w]?=J (.cells #[.int .i64 0,.int .i64 0,.int .i64 0,.bool xw,.int .u64 0] 59 (0,0)):=(l.block _ (by simp[World.setCell];exact Yv y.out.1) Ze9).trans (by simp[World.setCell,ZfH,y.out.1]);have s0:w2.cell? ⟨xz (xj w)+1,0,U⟩=J (.int .i64 a):=Zey;have s1:w2.cell? ⟨xz (xj w)+1,1,U⟩=J (.int .i64 0):=Zey;have s2:w2.cell? ⟨xz (xj w)+1,2,U⟩=J (.int .i64 0):=Zey;have s3:w2.cell? ⟨xz (xj w)+1,3,U⟩=J (.bool xk):=Zey;have s4:w2.cell? ⟨xz (xj w)+1,4,U⟩=J (.int .u64 (adr x).1):=Zey;have S:w2.cell? ⟨xz<|xj w,0,U⟩=J (.int .i64 0):=Zex;have T:w2.cell? ⟨xz<|xj w,1,U⟩=J (.int .i64 0):=Zex;have X:w2.cell? ⟨xz<|xj w,2,U⟩=J (.int .i64 0):=Zex;have Y:w2.cell? ⟨xz<|xj w,3,U⟩=J (.bool xw):=Zex;have Z:w2.cell? ⟨xz<|xj w,4,U⟩=J (.int .u64 0):=Zex;have u1:=Yw (o:=1) n;have u2:=Yw (o:=2) n;have v0:=Yw (o:=0) h;have v1:=Yw (o:=1) h;have v2:=Yw (o:=2) h;have v3:=Yw (o:=3) h;have v4:=Yw (o:=4) h;clear l t h n))
 case refine_1=>exact(C.out.setCell (p:=⟨xz (xj w)+1,3,U⟩) Z1 _).setCell (p:=⟨xz (xj w)+1,4,U⟩) Z1 _
 next=>
  have q:=(C.out.setCell (p:=⟨xz (xj w)+1,3,U⟩) Z1<|.bool xk).setCell (p:=⟨xz (xj w)+1,4,U⟩) Z1<|.int .u64 (adr x).1;have N:w.grownBy w2<|J bt:=⟨d.out.os.trans q.os,d.out.tape.trans q.tape,d.out.output.trans q.output,ZfB q.size d.out.size,λk F A=>(d.out.block k (Zfb F q.size) A).trans<|q.block k F⟩;have k1:bt≠xz (xj w)+1:=Z0;have u:bt≠xz (xj w):=Z0;clear q;refine ZfV (v:=WM ⟨a,s,p,xk,(adr x).1⟩) ?_ rfl ⟨rfl,?_,?_⟩
  .simp[results,Try.results133,go_sem,WM,S,T,X,Y,Z]
  grind [Z2m];rw[Zft _ _ _ _ u,Zft _ _ _ _ u,Zft _ _ _ _ u,Zft _ _ _ _ u,Zft _ _ _ _ u,Zft _ _ _ _ k1,Zft _ _ _ _ k1];exact z.out
end Vm
namespace Vm
open Go Go.Proofs Go.RowKit Go.Shelf
def UC(W:World)(bl:Nat):Option Nat:=(W.cell? ⟨bl,0,U⟩).bind Value.ownBlock
structure KpW (bl base:Nat) (A B:World):Prop where
 size:xz (xj A)<=xz (xj B)
 same:∀k o,A.heap[k]?=J o->o.isCells=xk->k≠bl->(k<base\/UC A bl≠J k)->B.heap[k]?=J o
 row:∀k,k<xz (xj A)->UC B bl=J k->UC A bl=J k
theorem KpW.trans{bl base A B C}(h:KpW bl base A B)(k:KpW bl base B C):KpW bl base A C:=
 ⟨ZfB h.size k.size,λi o a g j d=>k.same i o (h.same i o a g j d) g j (d.imp id λf e=>f<|h.row i Ze7 e),λi a d=>h.row i a<|k.row i (Zfb a h.size) d⟩
theorem KpW.put{bl base W l o}d(j:W.heap[l]?=J o)(n:o.isCells=xw)(g:bl≠l):KpW bl base W<|W.putObj l d:=by
 have a:(W.putObj l d).cell? ⟨bl,0,U⟩=W.cell? ⟨bl,0,U⟩:=ZfX<|ZfI Z0;refine⟨Z1,λk q h f _ _=> ?_,λk _ p=> ?_⟩;grind [World.putObj_heap_other];simp_all[UC]
def zd(ws:List Int)(g o cap:Nat)(gv:Value)(shs:List<|Int×Int)(old:Bool)(bt:Option Nat)(K:Nat->World->Prop):Prop:=
 ∀(W:World) (a t:Nat) (x:Int),Words W ws g o cap->g<xz (xj W)->K t W->ws[a]?=J x->
  Calls Sol.prog 133 #[.slice (J ⟨g,o,U⟩) (I ws) cap,.int .i64 a,gv] W λe W'=>W.grownBy W' bt/\match Wf shs old a t x with
   |some (d,f)=>e=.returned (WM d)/\K f W'
   |none=>e=.panicked (Vk 3)
def zI(ws:List Int)(shs:List<|Int×Int)(old:Bool)(K:Nat->World->Prop)(xs:List Ob)(W:World):Prop:=
 ∃t,K t W/\ZO ws shs old=(if t<(I shs) then([],3)else(xs,0))
def Z1B(ws:List Int)(shs:List<|Int×Int)(old:Bool)(chain:List PanicEntry)(pre:List Ob)(W:World):Prop:=
 ∃e,(e=2\/e=3)/\chain=Vk e/\ZO ws shs old=([],e)
structure Stat6 (ws:List Int) (g o cap:Nat) (sv:Value) (bw bg base bl:Nat) (bt:Option Nat) (gv:Value) (W:World):Prop where
 words:Words W ws g o cap
 vl:sv=.slice (J ⟨g,o,U⟩) (I ws) cap\/(ws=[]/\∃a c,sv=.slice a 0 c)
 te:W.heap[bw]?=J (.cells #[sv] 35 (0,0))
 vd:W.heap[bg]?=J (.cells #[gv] 190 (0,0))
 gb:ws≠[]->∃ob,W.heap[g]?=J ob/\ob.isCells=xk
 lt:g<base/\bw<base/\bg<base/\base<=xz (xj W)
 ne:g≠bl/\bw≠bl/\bg≠bl
 nt:J g≠bt/\J bw≠bt/\J bg≠bt
section
variable {ws:List Int}{g o cap bw bg base bl:Nat}{bt:Option Nat}{sv gv:Value}{W W':World}
theorem Stat6.of(h:Stat6 ws g o cap sv bw bg base bl bt gv W)(n:xz (xj W)<=xz (xj W'))(d:∀k a,W.heap[k]?=J a->a.isCells=xk->k<base->k≠bl->J k≠bt->W'.heap[k]?=J a):Stat6 ws g o cap sv bw bg base bl bt gv W':=by
 refine⟨⟨λi x p=> ?_,h.words.le,h.words.cap,h.words.len,h.words.u64⟩,h.vl,d _ _ h.te rfl h.lt.2.1 h.ne.2.1 h.nt.2.1,d _ _ h.vd rfl h.lt.2.2.1 h.ne.2.2 h.nt.2.2,λj=> ?_,⟨h.lt.1,h.lt.2.1,h.lt.2.2.1,ZfB h.lt.2.2.2 n⟩,h.ne,h.nt⟩;have j:ws≠[]:=Ze7;let⟨a,l,f⟩:=h.gb j;have q:=d _ _ l f h.lt.1 h.ne.1 h.nt.1;rw[<-h.words.Y i x p];grind [World.cell?_of_block];let⟨a,l,f⟩:=h.gb j;exact⟨a,d _ _ l f h.lt.1 h.ne.1 h.nt.1,f⟩
def Stat6.grown(h:Stat6 ws g o cap sv bw bg base bl bt gv W)(a:W.grownBy W' bt):=
 h.of a.size λk j d _ _ _ f=>(a.block k Ze7 f).trans d
def Stat6.kp(h:Stat6 ws g o cap sv bw bg base bl bt gv W)(f:KpW bl base W W'):=
 h.of f.size λk n a j l d _=>f.same k n a j d Z0
end
def UW{W W'}(a:Below (xz<|xj W) W W')r:W.grownBy W' r:=⟨a.os,a.tape,a.output,a.size,λk d _=>a.block k d⟩
def Z0r{ws g o cap}:zd ws g o cap .nilFunc [] xw U (λt _=>t=0):=by
 intro W a t x h f k j;refine(Z0u W ws g o cap h f a x j).mono ?_;rintro e W' ⟨rfl,d⟩;refine⟨UW d U,?_⟩;unfold Wf SL;grind
def Shps.grown{W W' shs d v r}(h:Shps W shs d v)(j:W.grownBy W' r)(f:J d≠r)(p:shs≠[]->∀g o cap,v=.slice (J ⟨g,o,U⟩) (I shs) cap->J g≠r):Shps W' shs d v:=by
 refine⟨(j.block _ (Yv h.box) f).trans h.box,?_⟩;obtain⟨g,o,cap,rfl,l,n,k,q⟩|⟨a,cap,rfl,rfl⟩:=h.val;refine .inl ⟨g,o,cap,rfl,l,n,Zfb k j.size,λi x u=> ?_⟩;have t:=j.block g k Ze7;grind [World.cell?_of_block];simp
def KOld(shs:List<|Int×Int)(bt a:Nat)(v:Value)(t:Nat)(W:World):Prop:=W.heap[bt]?=J (.cells #[.int .i64 t] 3 (0,0))/\Shps W shs a v/\t<=I shs
def Z0s{ws g o cap shs bt h v}(z:I shs<=1000000)(w:h≠bt)(y:shs≠[]->∀g o cap,v=.slice (J ⟨g,o,U⟩) (I shs) cap->g≠bt):
  zd ws g o cap (.func (.func 129) #[] #[.pointer<|J ⟨bt,0,U⟩,.pointer<|J ⟨h,0,U⟩]) shs xk (J bt) (KOld shs bt h v):=by
 intro W a t x q p D r;let⟨G,C,K⟩:=D;have k:J h≠J bt:=Ze8;have l:shs≠[]->∀g o cap,v=.slice (J ⟨g,o,U⟩) (I shs) cap->J g≠J bt:=Ze7;have A:∀W',Below (xz<|xj W) W W'->Shps W' shs h v:=λW' d=>C.grown (UW d U) Z1 Z1;have u:∀W',Below (xz<|xj W) W W'->W'.heap[bt]?=J _:=λW' d=>(d.block _ Ze7).trans G;by_cases j:(adr x).2=0;unfold Wf;rw[if_pos ⟨rfl,j⟩];cases f:shs[t]? with
 |none=>
  have:t=I shs:=by have:=Zhi.1 f;omega
  refine(F0 W _ ws g o cap q p a x r j λW' d=>Z2j W' shs bt h v z Ze8 Ze8).mono ?_;rintro e W' ⟨rfl,d⟩;exact⟨UW d _,rfl⟩
 |some s=>
  simp only;cases n:YJ s.1 s.2;refine(F0 W _ ws g o cap q p a x r j λW' d=>Z2i W' shs bt h t v s z Ze8 Ze8 f n).mono ?_;rintro e W' ⟨rfl,d⟩;exact⟨UW d _,Z1⟩;refine(Z0t W _ ws g o cap q p a x r j bt _ s.1 s.2 Ze7 λW' d=>Z2k W' shs bt h t v s z Ze8 Ze8 f n w<|y Ze7).mono ?_;rintro e W' ⟨rfl,B,F⟩;have H:=(Zf3.1 f).1;refine⟨B,?_⟩;simp only[Zg1];exact⟨trivial,F,C.grown B k l,Z0⟩
 refine(Z0v W _ _ ws g o cap q p a x r j).mono ?_;rintro e W' ⟨rfl,d⟩;refine⟨UW d _,?_⟩;unfold Wf SL;rw[if_neg Z0];by_cases L:(ZR x).2.2=0;simp only[L,Zg1];exact⟨trivial,u W' d,A W' d,K⟩;simp_all
end Vm
end
section
namespace Vm
open Go Go.Proofs Go.RowKit Go.Shelf
def Ei(a:Nat)(W:World):Prop:=∀k,UC W a=J k->k<xz (xj W)
def TX{A B C:World}{r}(h:A.grownBy B r)(k:B.grownBy C r):A.grownBy C r:=
 ⟨k.os.trans h.os,k.tape.trans h.tape,k.output.trans h.output,ZfB h.size k.size,λi a d=>(k.block i (Zfb a h.size) d).trans<|h.block i a d⟩
def Z9c ws shs old{a t g x d}(hx:ws[a]?=J x)(h:Wf shs old a t x=J (d,g)){f pre}:
  Xl ws shs old (f+1) a t pre=if(I ws:Int)<a+1+d.size then([],2)else if XJ ((ws.drop<|a+1).take d.size.toNat) d.gone d.M 0=xw then([],3)else Xl ws shs old f (a+1+d.size.toNat) g (pre++[d]):=by
 simp_all[Xl]
def Z1y n{w ws g o cap bw bg base y bt sv gv shs old K}(d6:Stat6 ws g o cap sv bw bg base y bt gv w)
  (e7:y<base) (a9:J y≠bt) (a7:zd ws g o cap gv shs old bt K) (c6:K 0 w) (a4:∀t W W',K t W->Below (xz<|xj W) W W'->K t W') (c7:∀t W W',K t W->KpW y base W W'->K t W'):
  Ej Fence.wide n Sol.prog 132 #[.pointer<|J ⟨bw,0,U⟩,.pointer<|J ⟨bg,0,U⟩] (λd=> #[WM d]) (KpW y base) (zI ws shs old K) (Z1B ws shs old) (I ws) bt (Ei y) w:=by
 intro l h W hW c5 hJ hY h0;refine callsIn_of_wp Sol.func132 rfl trivial ?_ rfl;simp only[Try.ntmps132,Zgy,Zgt,Zgc,Nat.reduceAdd,Nat.reduceSub,ZgU,ZgV,Zho,Zh2,ZfU,Zgs];have b9:=Zfa<|d6.grown<|UW hW bt;have b7:=Zfa<|a4 0 w W c6 hW;have b5:=Zfa h0;clear h0;gi_wp2
 gi_loopw [4] (λp wr=>∃(a t f:Nat) (pre:List Ob),p=.int .i64 a/\Hid (h pre wr/\K t wr/\Stat6 ws g o cap sv bw bg base y bt gv wr/\I ws<f+a/\0<f/\a<=I ws/\I pre<=a/\ZO ws shs old=Xl ws shs old f a t pre))
  (λp _=>I ws- (intOf p).toNat)
 case atStart=>exact⟨0,0,I ws+1,[],rfl,Zfa ⟨b5.out,b7.out,b9.out,Z0,Z0,Z0,Z1,rfl⟩⟩
 case round=>
  obtain⟨a,t,f,pre,rfl,j⟩:=hrel;have k:=j.out.2.2.1;have b0:=k.vl;have c1:wr.cell? ⟨bw,0,U⟩=J sv:=by rw[Zfg _ _ _ _ _ _ k.te];rfl
  have c2:wr.cell? ⟨bg,0,U⟩=J gv:=by rw[Zfg _ _ _ _ _ _ k.vd];rfl
  have d8:=k.words.len;clear k;by_cases d5:a<I ws
  .obtain⟨x,hx⟩:∃x,ws[a]?=J x:=Ze8;obtain rfl:sv=.slice (J ⟨g,o,U⟩) (I ws) cap:=Ze7;clear b0;have d9:((a:Int)<I ws)=True:=Ze8;have hb:=a7 wr a t x j.out.2.2.1.words (by have:=j.out.2.2.1.lt;omega) j.out.2.1 hx;cases ho:Wf shs old a t x with
   |none=>
    rw[ho]at hb;have HX:=Zfa hb;clear hb;gi_wp2
    refine⟨trivial,λh=>Zel,(Zhd.2 HX.out).mono ?_⟩;rintro e w1 ⟨u,rfl⟩;have G:=Zfa u;clear u;gi_wp2
    refine⟨rfl,.inr ⟨_,pre,rfl,⟨3,.inr rfl,rfl,?_⟩,hJ _ _ _ _ j.out.1 G.out Ze8⟩⟩;let⟨_,_,_,hf,M,_,_,H⟩:=j.out;cases f with
    |zero=>omega
    |succ f=>
     simp_all[Xl]
   |some q=>
    let⟨d,t'⟩:=q;rw[ho]at hb;have HX:=Zfa hb;clear hb;let⟨Z,A⟩:=yX ho;gi_wp2
    refine⟨trivial,λh=>Zel,(Zhd.2 HX.out).mono ?_⟩;rintro e w1 ⟨u,rfl,a8⟩;have G:=Zfa u;have b8:=Zfa a8;have L:=j.out.2.2.1.grown u;have e5:=Zfa L;have e1:∀O,(w1.alloc O).cell? ⟨bw,0,U⟩=J (.slice (J ⟨g,o,U⟩) (I ws) cap):=λO=>by
     rw[Zgz _ _ _<|Yv L.te,Zfg _ _ _ _ _ _ L.te];rfl
    have Y:wr.grownBy (w1.alloc<|.cells #[.int .i64 a,.int .i64 d.size,.int .i64 d.M,.bool d.gone,.int .u64 d.target] 59) bt:=TX u<|Zgq _ _ _;have a6:=Zfa<|j.out.2.2.1.grown Y;have hh:=Z2q (w1.alloc<|.cells #[.int .i64 a,.int .i64 d.size,.int .i64 d.M,.bool d.gone,.int .u64 d.target] 59) ws g o cap a6.out.words (by have:=a6.out.lt;omega) d a A d5 Z;unfold WM at hh;rw[A]at hh;have b3:=Zfa Y;have Q:=Zfa hh;have F:∀f pre,Xl ws shs old (f+1) a t pre=_:=λf pre=>Z9c ws shs old hx ho (f:=f) (pre:=pre);have R:=Zfa F;clear u a8 L Y hh F hx;unfold WM;gi_wp2
    refine⟨trivial,λh=>Zel,(Zhd.2 Q.out).mono ?_⟩;rintro e w2 ⟨rfl,B⟩;have z:wr.grownBy w2 bt:=TX b3.out<|UW B bt;have P:=Zfa z;have b1:=Zfa B;unfold yf;by_cases S:(I ws:Int)<d.Y+1+d.size
    .rw[if_pos S];rw[A]at S;clear B z;gi_wp2
     refine⟨rfl,.inr ⟨_,pre,rfl,⟨2,.inl rfl,rfl,?_⟩,hJ _ _ _ _ j.out.1 P.out Ze8⟩⟩;let⟨_,_,_,hf,M,_,_,H⟩:=j.out;obtain⟨f,rfl⟩:∃f',f=f'+1:=Ze8;rw[H,R.out,if_pos S]
    .rw[if_neg S];by_cases T:XJ ((ws.drop<|d.Y.toNat+1).take d.size.toNat) d.gone d.M 0=xw
     .rw[if_pos T];rw[A]at S T;clear B z;gi_wp2
      refine⟨rfl,.inr ⟨_,pre,rfl,⟨3,.inr rfl,rfl,?_⟩,hJ _ _ _ _ j.out.1 P.out Ze8⟩⟩;let⟨_,_,_,hf,M,_,_,H⟩:=j.out;obtain⟨f,rfl⟩:∃f',f=f'+1:=Ze8;rw[H,R.out,if_neg Z0];simp_all
     .rw[if_neg T];rw[A]at S T;simp only[Zfh]at T;have b4:=Zfa<|And.intro S T;have X:=hJ _ _ _ _ j.out.1 z Ze8;have e3:=Zfa X;have c0:=Zfa<|j.out.2.2.1.grown z;have r:w2.heap[xz<|xj w1]?=J (.cells #[.int .i64 a,.int .i64 d.size,.int .i64 d.M,.bool d.gone,.int .u64 d.target] 59 (0,0)):=(B.block _ Z1).trans<|ZfG w1 _;have b2:=Zfa r;let⟨fn,e2,assign,d7,hy,H⟩:=hY pre d w2 X (by have:=j.out.2.2.2.2.2.2.1;omega);unfold WM at hy;rw[A]at hy;have d0:w2.cell? ⟨xz<|xj w1,0,U⟩=J (.int .i64 a):=Zem;have d1:w2.cell? ⟨xz<|xj w1,1,U⟩=J (.int .i64 d.size):=Zem;have d2:w2.cell? ⟨xz<|xj w1,2,U⟩=J (.int .i64 d.M):=Zem;have d3:w2.cell? ⟨xz<|xj w1,3,U⟩=J (.bool d.gone):=Zem;have d4:w2.cell? ⟨xz<|xj w1,4,U⟩=J (.int .u64 d.target):=Zem;clear B z X r;gi_wp2
      refine⟨λh=>Zel,H.mono ?_⟩;rintro e W3 ⟨rfl,a1,C⟩;have b6:=Zfa a1;have e4:=Zfa C;have D:UC w2 y≠J (xz<|xj w1):=by
       intro e;have c8:y<xz (xj wr):=by have:=j.out.2.2.1.lt.2.2.2;omega
       have:UC w2 y=UC wr y:=by
        unfold UC;rw[ZfX (a:=⟨y,0,U⟩)<|P.out.block y c8 a9]
       rw[this]at e;have:=c5 _ _ j.out.1 _ e;have:=G.out.size;omega
      have N:=C.same _ _ b2.out rfl (by have:=j.out.2.2.1.lt.2.2.2;have:=G.out.size;omega)<|.inr D;have f1:W3.cell? ⟨xz<|xj w1,1,U⟩=J (.int .i64 d.size):=by rw[Zfg _ _ _ _ _ _ N];rfl
      have a5:=c0.out.kp C;have a2:K t' w2:=a4 _ _ _ b8.out<|((Zfr _ _).alloc Z0 _).trans<|b1.out.mono Z1;have a3:=c7 _ _ _ a2 C;have a0:=Zfa<|And.intro a5 a3;obtain⟨m,hm⟩:∃m:Nat,d.size=m:=⟨d.size.toNat,by have:=(YE.1 Z).1;omega⟩;rw[hm]at f1;have e9:(m:Int)<=255:=by have:=(YE.1 Z);omega
      have q1:IntKind.i64.wrap (1+(m:Int))=((1+m:Nat):Int):=Zep;have q2:IntKind.i64.wrap ((a:Int)+((1+m:Nat):Int))=((a+(1+m):Nat):Int):=Zep;clear a1 C N a5 a2 a3 D;clear T;gi_wp2
      let⟨_,_,_,hf,M,e6,f0,H⟩:=j.out;obtain⟨f,rfl⟩:∃f',f=f'+1:=⟨f-1,Z0⟩;rw[R.out,if_neg Z0,if_neg b4.out.2]at H;have e8:a+1+m<=I ws:=Z0;refine⟨⟨a+(1+m),t',f,pre++[d],Z1,Zfa ⟨b6.out,a0.out.2,a0.out.1,Z0,Z0,Z0,Ze9,?_⟩⟩,by grind [intOf]⟩;grind
  .have e0:((a:Int)<I ws)=False:=Ze8
   have HE:Hid<|zI ws shs old K pre wr:=Zfa (by
    let⟨_,hK,_,hf,M,_,_,H⟩:=j.out;refine⟨t,hK,?_⟩;cases f with
    |zero=>omega
    |succ f=>
     simp_all[Xl])
   obtain⟨sa,sc,rfl⟩:∃sa sc,sv=.slice sa (I ws) sc:=by
    grind
   clear b0;gi_wp2
   go_end0
   exact .inl ⟨_,pre,rfl,HE.out,j.out.1⟩
end Vm
namespace Vm
open Go Go.Proofs Go.RowKit Go.Shelf
def Z1z w g d(k:∃a n c,g=.slice a n c)(h:d=.nilFunc\/∃f vs,d=.func (.func f) #[] vs):
  Calls Sol.prog 131 #[g,d] w λe l=>e=.returned (.func (.func 132) #[] #[.pointer<|J ⟨xz<|xj w,0,U⟩,.pointer<|J ⟨xz (xj w)+1,0,U⟩])/\
   l=(w.alloc<|.cells #[g] 35).alloc (.cells #[d] 190):=by
 have j:∀fn first cap w,(Instr.makeFunc fn first cap).run Sol.prog w=.ok _ w:=λ_ _ _ _=>rfl;obtain⟨a,n,c,rfl⟩:=k;obtain rfl|⟨f,vs,rfl⟩:=h
 .go_enter Sol.func131,Try.ntmps131;go_wp2;exact ZfV (results_tmp rfl _ _ _) rfl ⟨rfl,rfl⟩
 .go_enter Sol.func131,Try.ntmps131;go_wp2;exact ZfV (results_tmp rfl _ _ _) rfl ⟨rfl,rfl⟩
def Zcs w:Sem.run Sol.prog (binOp .neq 20 .nilIface .nilIface) w=.ok (.bool xw) w:=ZeX
def Zct w T v:Sem.run Sol.prog (binOp .neq 20 (.iface T v) .nilIface) w=.ok (.bool xk) w:=ZeX
def Z8N w x:Sem.run Sol.prog (Instr.typeAssert (.iface 189<|.agg #[.int .i64 x]) 20 189 xk) w=.ok (.tuple #[.agg #[.int .i64 x],.bool xk]) w:=ZeX
def Z1g n p q w:
  CallsDIn Fence.wide n Sol.prog 130 #[.pointer<|J p,.pointer<|J q] .returning w λe f g=>e=.returned (.tuple #[])/\f=.returning/\g=w:=by
 refine callsDIn_of_wpSIn Sol.func130 rfl trivial λa h d=> ?_;simp[Try.ntmps130,Zgy,Zgt,Zgc,Nat.reduceAdd,Nat.reduceSub,ZgU,ZgV,Zho,Zh2,ZfU,Zgs];apply wpSIn_seq;apply wpSIn_region;simp[wpOpsSIn,go_sem,recoverD,d,Exit.thenS];refine wpSIn_of_wpIn rfl ?_;gi_wp2
 cases a;simp_all [bodyPostS,results,Try.results130]
def Z1h n a d x w z l(f:Boxed w a 55 z)(g:Boxed w d 32 l)(j:a≠d):
  CallsDIn Fence.wide n Sol.prog 130 #[.pointer<|J ⟨a,0,U⟩,.pointer<|J ⟨d,0,U⟩] (.panicking<|Vk x) w λe y h=>
   e=.returned (.tuple #[])/\y=.panicking [{v:=.iface 189<|.agg #[.int .i64 x],recovered:=xk}]/\
   Boxed h a 55 (.slice U 0 0)/\Boxed h d 32 (.int .i64 x)/\(xz (xj w)<=xz (xj h)/\∀k,k<xz (xj w)->k≠a->k≠d->h.heap[k]?=w.heap[k]?)/\h.os=w.os/\h.tape=w.tape/\h.output=w.output:=by
 have C:=Z8N;have p3:=f.cell;have p4:=f.frozen;have K:=g.cell;have L:=g.frozen;have G:=f.lt;have H:=g.lt;have t:=j;have u:¬d=a:=Z0;have o:=Zfa<|And.intro f g;clear f g j;refine callsDIn_of_wpSIn Sol.func130 rfl trivial λB A r=> ?_;simp only[Try.ntmps130,Zgy,Zgt,Zgc,Nat.reduceAdd,Nat.reduceSub,ZgU,ZgV,Zho,Zh2,ZfU,Zgs];apply wpSIn_seq;apply wpSIn_region;simp[wpOpsSIn,go_sem,recoverD,r,Vk,Exit.thenS];refine wpSIn_of_wpIn rfl ?_;gi_wp2
 gi_region
 all_goals gi_wp2
 let⟨f,g⟩:=o.out;have p:Boxed ((w.setCell ⟨a,0,U⟩<|.slice U 0 0).setCell ⟨d,0,U⟩<|.int .i64 x) a 55<|.slice U 0 0:=(Zft _ ⟨d,0,U⟩ _ a t).trans<|f.set _;have q:Boxed ((w.setCell ⟨a,0,U⟩<|.slice U 0 0).setCell ⟨d,0,U⟩<|.int .i64 x) d 32<|.int .i64 x:=Boxed.set _ (show Boxed (w.setCell ⟨a,0,U⟩<|.slice U 0 0) d 32 l from(Zft _ ⟨a,0,U⟩ _ d u).trans g);refine⟨rfl,_,rfl,_,by simp[results,Try.results130],rfl,rfl,p.alloc _,q.alloc _,⟨?_,λk D k1 F=> ?_⟩,rfl,rfl,rfl⟩;simp;show(World.alloc _ _).heap[k]?=_;grind [Below.heap_alloc,World.setCell,Below.heap_setCell]
end Vm
namespace Vm
open Go Go.Proofs Go.RowKit Go.Shelf
def Se(a:Ob):List Value:=[.int .i64 a.Y,.int .i64 a.size,.int .i64 a.M,.bool a.gone,.int .u64 a.target]
def V4(l:List Ob):List Value:=l.flatMap Se
def Z51 l x:V4 (l++[x])=V4 l++Se x:=by simp[V4]
structure WIv (w:World) (bt:Option Nat) (pre:List Ob) (W:World):Prop where
 row:∃v,Boxed W (xz<|xj w) 55 v/\W.ownsRow (xz (xj w)+4) 59 5 v (I pre) (V4 pre)
 e:Boxed W (xz (xj w)+1) 32<|.int .i64 0
 gr:w.grownBy W bt
 size:xz (xj w)+4<=xz (xj W)
def UX{w X Y:World}{bt row}(h:w.grownBy X bt)(k:X.grownBy Y row)(f:∀r,row=J r->J r=bt\/xz (xj w)<=r):w.grownBy Y bt:=
 ⟨k.os.trans h.os,k.tape.trans h.tape,k.output.trans h.output,ZfB h.size k.size,λi a d=>
  (k.block i (Zfb a h.size) Ze7).trans (h.block i a d)⟩
theorem qN{W b t v}(h:Boxed W b t v):UC W b=v.ownBlock:=by
 unfold UC;rw[h.cell];rfl
def WIv.tz{w bt pre W}(h:WIv w bt pre W):Ei (xz<|xj w) W:=by
 let⟨v,f,d⟩:=h.row;intro k a;rw[qN f]at a;exact(d.lt k a).2
def WIv.own{w bt}(u:∀r,bt=J r->r<xz (xj w)):OwnP bt (xz (xj w)+4)<|WIv w bt:=by
 intro s X Y row h d p;have y:∀k,xz (xj w)<=k->k<xz (xj w)+4->J k≠row:=by
  intro k t A e;obtain j|⟨j,_⟩:=p k e.symm;grind;omega
 let⟨v,z,a⟩:=h.row;refine⟨⟨v,z.kept d Ze8,a.kept d ?_⟩,h.e.kept d Ze8,UX h.gr d λr e=>Ze7,ZfB h.size d.size⟩;cases l:v.ownBlock with
 |none=>simp
 |some b=>
  refine .inr λe=> ?_;have t:=a.lt b l;obtain j|⟨_,o,n,x⟩:=p b e.symm;grind;obtain⟨rfl,_⟩|⟨g,cap,q,rfl,_,f,_⟩:=a.2;simp[Value.ownBlock]at l;obtain rfl:g=b:=by grind [Value.ownBlock]
  rw[f]at n;cases n;cases x
def WIv.appended{w W w1 bt pre x v v' tmp}(C:∀r,bt=J r->r<xz (xj w))(h:WIv w bt pre W)(A:Boxed W (xz<|xj w) 55 v)
  (g:W.ownsRow (xz (xj w)+4) 59 5 v (I pre)<|V4 pre) (d:w1.ownsRow (xz (xj w)+4) 59 5 v' (I pre+1)<|V4 pre++Se x)
  (a:(W.alloc tmp).grownBy w1 v.ownBlock) (f:v'.ownBlock=v.ownBlock\/v'.ownBlock=J (xz<|xj<|W.alloc tmp)):
  Boxed w1 (xz<|xj w) 55 v/\KeepsFrom (xz (xj w)+4) W (w1.setCell ⟨xz<|xj w,0,U⟩ v')/\KpW (xz<|xj w) (xz (xj w)+4) W (w1.setCell ⟨xz<|xj w,0,U⟩ v')/\WIv w bt (pre++[x]) (w1.setCell ⟨xz<|xj w,0,U⟩ v'):=by
 have u:=h.size;let⟨y,l,F,j,B⟩:=A.appended Zeo (qh g (B':=xz<|xj w) Z0) Z0 Z0 (qh d (B':=xz<|xj w) Z0) a;have z:=λb n=>(g.lt b n).1
 have t:=d.kept (Zhv w1 (xz<|xj w) v') (by
  cases n:v'.ownBlock with
  |none=>simp
  |some b=>exact .inr λe=>by have G:=(d.lt b n).1;grind)
 refine⟨y,j.from _,⟨j.size,λk o q H D K=> ?_,λk q e=> ?_⟩,⟨v',l,?_⟩,?_,?_,ZfB u j.size⟩;rw[Zft _ _ _ _ D,a.block k (by have:=Yv q;simp;omega) (λe=> ?_),Zfp _ _ _ Ze7,q];grind [qN,trans];rw[qN l]at e;rw[qN A];obtain f|f:=f;simp_all;rw[f]at e;simp at e;omega;simp_all[ZfN,Z51];have p:=(h.e.alloc tmp).kept a Ze7;exact(Zft _ _ _ _ Z1).trans p;refine UX (UX (UX h.gr (Zgq W tmp U) Z1) a λr e=>.inr ?_) (Zhv w1 (xz<|xj w) v') λr e=>.inr ?_;grind;simp_all
def KpW.alloc{a base W}o(d:a<xz (xj W)):KpW a base W<|W.alloc o:=by
 refine⟨Z1,λk h f _ _ _=>(Zfp _ _ _ Ze7).trans f,λk _ g=> ?_⟩;simp_all[UC,Zgz]
end Vm
namespace Vm
open Go Go.Proofs Go.RowKit Go.Shelf
attribute [local go_sem] Oper.semAt_some
def Z3C:(Sol.prog.info? 59).map (λi=>(i.zero,i.size,i.bytes))=J (J<|.agg #[.int .i64 0,.int .i64 0,.int .i64 0,.bool xw,.int .u64 0],5,40):=Z2
def unO:Sol.prog.underlying 55=J (.slice 59):=Z2
def Z1l(w:World)a b c d e t:∀j u,[a,b,c,d,e][j]?=J u->(w.alloc<|.cells #[a,b,c,d,e] t).cell? ((⟨xz<|xj w,0,U⟩:Addr).add j)=J u:=by
 intro j u h;have:=Zfg _ _ j _ _ _<|ZfG w<|.cells #[a,b,c,d,e] t;grind [Addr.add]
def Eo(w:World)(ws:List Int)(shs:List<|Int×Int)(old:Bool)(bt:Option Nat)(K:Nat->World->Prop)(e:Ending)(W:World):Prop:=
 ∃v n a,e=.returned (.tuple #[v,.int .i64 n])/\w.grownBy W bt/\W.ownsRow (xz (xj w)+4) 59 5 v (I a) (V4 a)/\((n=0/\zI ws shs old K a W)\/((n=2\/n=3)/\a=[]/\ZO ws shs old=([],n)))
def Pa{w ws g o cap bt p j shs old K}(hw:Words w ws g o cap)
  (a9:p=.slice (J ⟨g,o,U⟩) (I ws) cap\/(ws=[]/\∃a c,p=.slice a 0 c)) (hg:(ws≠[]->g<xz (xj w))/\g<xz (xj w)+4/\g≠xz (xj w)) (c5:j=.nilFunc\/∃f vs,j=.func (.func f) #[] vs)
  (a0:∀r,bt=J r->r<xz (xj w)) (c0:J g≠bt) (a5:zd ws g o cap j shs old bt K) (b4:K 0 w)
  (z:∀t A B row,K t A->A.grownBy B row->(∀r,row=J r->xz (xj w)<=r)->K t B)
  (b6:∀bl base t A B,xz (xj w)<=bl->xz (xj w)<=base->K t A->KpW bl base A B->K t B):
  Calls Sol.prog 128 #[p,j] w (Eo w ws shs old bt K):=by
 refine(Zhd (n:=5)).1 ?_;have f6:∀(fn:Go.Fn) (first cap:Array Value) (w:World),(Instr.makeFunc fn first cap).run Sol.prog w=.ok (.func fn first cap) w:=λ_ _ _ _=>rfl;have d6:∃a n c,p=.slice a n c:=by
  obtain rfl|⟨_,a,c,rfl⟩:=a9;simp;simp
 refine callsIn_of_wp_marks Sol.func128 rfl trivial ?_ rfl;simp only[Try.ntmps128,Zgy,Zgt,Zgc,Nat.reduceAdd,Nat.reduceSub,ZgU,ZgV,Zho,Zh2,ZfU,Zgs];have he:=λW=>Z1z W p j d6 c5;gi_wp2
 refine⟨trivial,(Zhd.2<|he _).mono ?_⟩;rintro e w1 ⟨rfl,rfl⟩;gi_wp2
 have c7:∀b:Nat,b<xz (xj w)->((((w.alloc<|Obj.cells #[.slice U 0 0] 55).alloc<|.cells #[.int .i64 0] 32).alloc<|.cells #[p] 35).alloc<|.cells #[j] 190).heap[b]?=w.heap[b]? :=λb hb=>by
  grind [Below.heap_alloc]
 have b0:Boxed ((((w.alloc<|Obj.cells #[.slice U 0 0] 55).alloc<|.cells #[.int .i64 0] 32).alloc<|.cells #[p] 35).alloc<|.cells #[j] 190) (xz<|xj w) 55<|.slice U 0 0:=(((Boxed.new w _ _).alloc _).alloc _).alloc _;have b1:Boxed ((((w.alloc<|Obj.cells #[.slice U 0 0] 55).alloc<|.cells #[.int .i64 0] 32).alloc<|.cells #[p] 35).alloc<|.cells #[j] 190) (xz (xj w)+1) 32<|.int .i64 0:=by
  have:=((Boxed.new (w.alloc<|Obj.cells #[.slice U 0 0] 55) 32<|.int .i64 0).alloc<|.cells #[p] 35).alloc<|.cells #[j] 190;rwa[Zhu]at this
 have b2:Boxed ((((w.alloc<|Obj.cells #[.slice U 0 0] 55).alloc<|.cells #[.int .i64 0] 32).alloc<|.cells #[p] 35).alloc<|.cells #[j] 190) (xz (xj w)+2) 35 p:=by
  have:=(Boxed.new ((w.alloc<|Obj.cells #[.slice U 0 0] 55).alloc<|.cells #[.int .i64 0] 32) 35 p).alloc<|.cells #[j] 190;simp_all
 have b3:Boxed ((((w.alloc<|Obj.cells #[.slice U 0 0] 55).alloc<|.cells #[.int .i64 0] 32).alloc<|.cells #[p] 35).alloc<|.cells #[j] 190) (xz (xj w)+3) 190 j:=by
  have:=Boxed.new (((w.alloc<|Obj.cells #[.slice U 0 0] 55).alloc<|.cells #[.int .i64 0] 32).alloc<|.cells #[p] 35) 190 j;simp_all
 have L:w.grownBy ((((w.alloc<|Obj.cells #[.slice U 0 0] 55).alloc<|.cells #[.int .i64 0] 32).alloc<|.cells #[p] 35).alloc<|.cells #[j] 190) bt:=⟨rfl,rfl,rfl,Ze9,Ze8⟩;have P:xz (xj<|(((w.alloc<|Obj.cells #[.slice U 0 0] 55).alloc<|.cells #[.int .i64 0] 32).alloc<|.cells #[p] 35).alloc<|.cells #[j] 190)=xz (xj w)+4:=Z1;generalize f4:(((w.alloc<|Obj.cells #[.slice U 0 0] 55).alloc<|.cells #[.int .i64 0] 32).alloc<|.cells #[p] 35).alloc (.cells #[j] 190)=W0 at*;have d7:Stat6 ws g o cap p (xz (xj w)+2) (xz (xj w)+3) (xz (xj w)+4) (xz<|xj w) bt j W0:=by
  refine⟨⟨λi x F=> ?_,hw.le,hw.cap,hw.len,hw.u64⟩,a9,b2,b3,λhn=> ?_,Z0,Z0,c0,?_,?_⟩;rw[<-hw.Y i x F];grind [World.cell?_of_block];obtain⟨x,F⟩:∃x,ws[0]?=J x:=by cases ws with|nil=>simp_all|cons x l=>simp
  have:=hw.Y 0 x F;rw[c7 g Ze8];unfold World.cell? at this;cases hh:w.heap[g]? with
  |none=>simp_all
  |some ob=>
   refine⟨ob,rfl,?_⟩;grind [Obj.isCells]
  grind;grind
 have a4:K 0 W0:=z 0 w W0 U b4 ⟨L.os,L.tape,L.output,L.size,Ze8⟩ Z1;have a8:=Z1y 4 d7 Z0 (λe=>Ze7) a5 a4 (λt A B hA O=>z t A B U hA ⟨O.os,O.tape,O.output,O.size,λk hk _=>O.block k hk⟩ Z1) (λt A B hA O=>b6 _ _ t A B Z0 Z0 hA O)
 refine Z9n rfl Z0 (gf:=132) (lb:=#[.pointer<|J ⟨xz (xj w)+2,0,U⟩,.pointer<|J ⟨xz (xj w)+3,0,U⟩]) rfl trivial (enters_of Sol.func132 Z2 rfl)
  a8 (λr e=>Ze7) KpW.trans (λW l o o' h1 h2 h3 _=>KpW.put o' h2 h3 Z0) (Zfr _ _) (λ_=>rfl)
  (WIv w bt) (P▸WIv.own a0) (λpre W h=>h.tz) ⟨⟨_,b0,Zgv _ _ _ _⟩,b1,L,Z0⟩ ?hS
  (λx a' W=>∃y,xz (xj w)+4<=y/\W.heap[y]?=J (.cells #[.int .i64 x.Y,.int .i64 x.size,.int .i64 x.M,.bool x.gone,.int .u64 x.target] 59 (0,0))/\
   a'= {tmps:=#[p,j,undef,undef,.pointer<|J ⟨xz<|xj w,0,U⟩,.pointer<|J ⟨xz (xj w)+1,0,U⟩,.pointer<|J ⟨y,0,U⟩,
    .func (.func 130) #[] #[.pointer<|J ⟨xz<|xj w,0,U⟩,.pointer<|J ⟨xz (xj w)+1,0,U⟩],p,j,.func (.func 132) #[] #[.pointer<|J ⟨xz (xj w)+2,0,U⟩,.pointer<|J ⟨xz (xj w)+3,0,U⟩],WM x,undef,undef,undef,undef,undef],defers:=[]})
  ?hAx ?assign ?body ?done ?panic
 case hS=>
  rintro u X Y row ⟨t,hK,hR⟩ M d;exact⟨t,z t X Y row hK M λr e=>(d r e).elim Z1 Z0,hR⟩
 case hAx=>
  rintro x a' s X Y row ⟨y,O,F,ha⟩ M d;refine⟨y,O,(M.block y (Yv F) λe=> ?_).trans F,ha⟩;obtain e2|⟨_,o2,h2,h3⟩:=d y e.symm;cases e2;rw[F]at h2;cases h2;cases h3
 case assign=>
  rintro l pre x W K2 q b5;simp only[Array.zip,WM];gi_wp2
  exact b5 _ _ ((KeepsOthers.alloc W _).from _) (KpW.alloc _ (by have:=q.size;omega)) ((WIv.own a0).alloc _ q) ⟨xz<|xj W,q.size,ZfG W _,rfl⟩
 case body=>
  rintro l pre x a' W q ⟨y,f3,F,rfl⟩ e9;obtain⟨v,Q,d⟩:=q.row;obtain⟨i0,c6,d8,d9,e0⟩:=info_parts Z3C;obtain⟨G,H,rfl⟩:=V6 d;have c1:=Q.cell;have c2:=Q.frozen;have d0:W.cell? ⟨y,0,U⟩=J (.int .i64 x.Y):=Zew;have d1:W.cell? ⟨y,1,U⟩=J (.int .i64 x.size):=Zew;have d2:W.cell? ⟨y,2,U⟩=J (.int .i64 x.M):=Zew;have d3:W.cell? ⟨y,3,U⟩=J (.bool x.gone):=Zew;have d4:W.cell? ⟨y,4,U⟩=J (.int .u64 x.target):=Zew;have f7:I pre<=1000000:=ZfB Z0 hw.len;have f2:=q.size;have HA:=λtmp w1 v'=>WIv.appended (W:=W) (w1:=w1) (x:=x) (v':=v') (tmp:=tmp) a0 q Q d;gi_wp2_with (gi_at_builtin;refine wpListIn_append_own_at _ rfl _ _ 55 rfl (xz (xj w)+4) 59 i0 _ 5 40 unO c6 d8 d9 e0 rfl Zeo _ _ _ rfl (d.alloc _) ⟨xz<|xj W,0,U⟩ 1 1 (Se x) rfl rfl (Z1l _ _ _ _ _ _ _) (by simp[Se,Value.oneCell']) (by grind [maxLen]) Z0 Ze9 ?_;intro v' w1 N a1 _ b8;obtain⟨g',e8,rfl⟩:=ownsRow_succ N;obtain⟨e1,e2,e3,e4⟩:=HA _ _ _ N a1 b8;have e5:=e1.cell;have e6:=e1.frozen)
  rw[P];exact⟨e2,e3,e4⟩
 case done=>
  rintro D u W hD hS q Z;obtain⟨v,Q,d⟩:=q.row;obtain⟨G,H,rfl⟩:=V6 d;have c1:=Q.cell;have c2:=Q.frozen;have c3:=q.e.cell;have c4:=q.e.frozen;rw[P]at hD;gi_wp2
  have a3:((W.setCell ⟨xz<|xj w,0,U⟩<|.slice G (I u) H).setCell ⟨xz (xj w)+1,0,U⟩<|.int .i64 0).heap[D]?=J (.deferred<|J []):=by
   rw[Zft _ _ _ _ Ze7,Zft _ _ _ _ Ze7];exact Z
  have f0:Boxed ((W.setCell ⟨xz<|xj w,0,U⟩<|.slice G (I u) H).setCell ⟨xz (xj w)+1,0,U⟩<|.int .i64 0) (xz<|xj w) 55<|.slice G (I u) H:=
   (Zft _ _ _ _ Z1).trans (Q.set _)
  have f1:Boxed ((W.setCell ⟨xz<|xj w,0,U⟩<|.slice G (I u) H).setCell ⟨xz (xj w)+1,0,U⟩<|.int .i64 0) (xz (xj w)+1) 32<|.int .i64 0:=
   Boxed.set _ (show Boxed (W.setCell ⟨xz<|xj w,0,U⟩<|.slice G (I u) H) (xz (xj w)+1) 32 (.int .i64 0)from(Zft _ _ _ _ Z1).trans q.e)
  have g1:=Zhv W (xz<|xj w)<|.slice G (I u) H;have g2:=Zhv (W.setCell ⟨xz<|xj w,0,U⟩<|.slice G (I u) H) (xz (xj w)+1)<|.int .i64 0;have R:=d.lt
  have r2:=(d.kept g1 (by
   cases hb:(Value.slice G (I u) H).ownBlock with
   |none=>simp
   |some b=>exact .inr λe=>by have:=(R b hb).1;grind)).kept g2 (by
   cases hb:(Value.slice G (I u) H).ownBlock with
   |none=>simp
   |some b=>exact .inr λe=>by have:=(R b hb).1;grind)
  generalize f5:(W.setCell ⟨xz<|xj w,0,U⟩<|.slice G (I u) H).setCell ⟨xz (xj w)+1,0,U⟩ (.int .i64 0)=W2 at*;have g3:=ZhS W2 D<|.deferred U;have S:Boxed (W2.putObj D<|.deferred U) (xz<|xj w) 55<|.slice G (I u) H:=(ZfI Z0).trans f0;have T:Boxed (W2.putObj D<|.deferred U) (xz (xj w)+1) 32<|.int .i64 0:=(ZfI Z0).trans f1;have k0:=S.cell;have k1:=T.cell;refine⟨Z1,.inl ⟨D,_,rfl,Zih a3,?_⟩⟩;refine⟨Z1,.inr ⟨Z0,.func 130,_,130, #[.pointer<|J ⟨xz<|xj w,0,U⟩,.pointer<|J ⟨xz (xj w)+1,0,U⟩],rfl,ZeX,λ_ _=>trivial,?_⟩⟩;refine(Z1g _ _ _ _).mono ?_;rintro e u' e7 ⟨rfl,rfl,rfl⟩;refine⟨.tuple #[.slice G (I u) H,.int .i64 0],by simp[results,Try.results128,go_sem,k0,k1],?_⟩;obtain⟨t,hK,hR⟩:=hS;refine⟨_,0,u,rfl,UX (UX (UX q.gr g1 λr e=>.inr ?_) g2 λr e=>.inr ?_) g3 λr e=>.inr ?_,ownsRow_putObj r2 _ a3 rfl,.inl ⟨rfl,t,z t _ _ _ (z t _ _ _ (z t _ _ _ hK g1 λr e=> ?_) g2 λr e=> ?_) g3 λr e=> ?_,hR⟩⟩;all_goals (grind)
 case panic=>
  rintro D chain pre W hD ⟨e,b9,rfl,b7⟩ q Z;rw[P]at hD;obtain⟨v,Q,d⟩:=q.row;have g3:=ZhS W D<|.deferred U;have S:Boxed (W.putObj D<|.deferred U) (xz<|xj w) 55 v:=(ZfI Z0).trans Q;have T:Boxed (W.putObj D<|.deferred U) (xz (xj w)+1) 32<|.int .i64 0:=(ZfI Z0).trans q.e;have C:w.grownBy (W.putObj D<|.deferred U) bt:=UX q.gr g3 λr e=>.inr Ze7;refine⟨Z1,.inl ⟨D,_,rfl,Zih Z,?_⟩⟩;refine⟨Z1,.inr ⟨Z0,.func 130,_,130, #[.pointer<|J ⟨xz<|xj w,0,U⟩,.pointer<|J ⟨xz (xj w)+1,0,U⟩],rfl,ZeX,λ_ _=>trivial,?_⟩⟩;refine(Z1h _ (xz<|xj w) (xz (xj w)+1) e _ _ _ S T Z0).mono ?_;rintro e' u' e7 ⟨rfl,rfl,h0,h1,⟨d5,hk⟩,c8,a2,a7⟩;have k0:=h0.cell;have k1:=h1.cell;refine⟨.tuple #[.slice U 0 0,.int .i64 e],by simp[results,Try.results128,go_sem,k0,k1],?_⟩;refine⟨_,e,[],rfl,⟨c8.trans C.os,a2.trans C.tape,a7.trans C.output,ZfB C.size d5,λk a6 hn=> ?_⟩,Zgv _ _ _ _,.inr ⟨b9,rfl,b7⟩⟩;exact(hk k (Zfb a6 C.size) Z0 Z0).trans (C.block k a6 hn)
end Vm
namespace Vm
open Go Go.Proofs Go.RowKit Go.Shelf
theorem Sj{w G k n v}(r:Rd w G (.int k n) v):v=.int k n:=by cases r;rfl
theorem Nu{w G b v}(r:Rd w G (.bool b) v):v=.bool b:=by cases r;rfl
def Pi{w G ws v}(r:Rd w G (.sl<|ws.map vu) v)(B:∀b,G b->b<xz (xj w))(u:I ws<=1000000)(y:∀x∈ws,ZB x)q:
  ∃g o cap,Words w ws g o cap/\(v=.slice (J ⟨g,o,U⟩) (I ws) cap\/(ws=[]/\∃a c,v=.slice a 0 c))/\((ws≠[]->g<xz (xj w))/\(g<(xz<|xj w)\/g=q)):=by
 generalize p:ws.map vu=L at r;cases r with
 |nil a cap C=>
  have:ws=[]:=Ze8;subst this;exact⟨q,0,0,⟨Z1,Z1,Ze7,Z1,Z1⟩,Z1,Z1,.inr rfl⟩
 |sl _ b o cap k vs d l A f h n=>
  subst p;simp only[ZfC]at d h⊢;refine⟨b,o,cap,⟨λi x z=> ?_,d,l,u,y⟩,.inl rfl,Ze8,Ze8⟩;have j:(ws.map vu)[i]?=J (vu x):=by rw[Zfl,z];rfl
  have t:k=1:=((f _<|Zfc j).1).symm;subst t;have D:i<I ws:=Ze7;rw[h i Z0];have:=n i (vu x) (by have:=VG f j 0 Z0;simp_all);rw[Sj this]
def Z83{w G shs v}(r:Rd w G (.sl<|shs.map Wj) v)(q:∀b,G b->b<xz (xj w)):
  (∃g o cap,v=.slice (J ⟨g,o,U⟩) (I shs) cap/\I shs<=cap/\cap<=maxLen/\g<xz (xj w)/\∀i x,shs[i]?=J x->w.cell? ⟨g,o+i*2,U⟩=J (.int .i64 x.1)/\w.cell? ⟨g,o+i*2+1,U⟩=J (.int .i64 x.2))\/
  (∃a cap,v=.slice a 0 cap/\shs=[]):=by
 generalize t:shs.map Wj=L at r;cases r with
 |nil a cap A=>
  simp_all
 |sl _ b o cap k vs h l n d p j=>
  subst t;simp only[ZfC]at h p⊢;refine .inl ⟨b,o,cap,rfl,h,l,q b n,λi x u=> ?_⟩;have f:(shs.map Wj)[i]?=J (Wj x):=by rw[Zfl,u];rfl
  have C:k=2:=((d _<|Zfc f).1).symm;have B:i<I shs:=Ze7;have y:=j (i*2) (vi x.1) (by have:=VG d f 0 Z0;simp_all);have z:=j (i*2+1) (vi x.2) (by have:=VG d f 1 Z0;simp_all);grind [Sj,Nat.add_assoc]
def IA{w G}:∀l i c,(flat<|l.map ZQ)[i]?=J c->Rd w G c ((V4 l).getD i undef)
 | [],i,c,h=>Ze8
 |x::l,i,c,h=>by
  rw[ZfA,RY]at h;have e:V4 (x::l)=Se x++V4 l:=by simp[V4]
  by_cases d:i<5
  match i,d with
  |0,_=>simp at h;subst h;exact .int _ _
  |1,_=>simp at h;subst h;exact .int _ _
  |2,_=>simp at h;subst h;exact .int _ _
  |3,_=>simp at h;subst h;exact .bool _
  |4,_=>simp at h;subst h;exact .int _ _
  have a:(flat<|l.map ZQ)[i-5]?=J c:=by
   rw[Zfs Ze8]at h;simpa[ZQ,V.cells]using h
  have:=IA (w:=w) (G:=G) l _ c a;have f:(Se x++V4 l).getD i undef=(V4 l).getD (i-5) undef:=by
   simp[List.getD_eq_getElem?_getD];rw[Zfs (by grind [Se])];simp[Se]
  simp_all
def Z52(l:List Ob):∀x∈l.map ZQ,V.aw 5 x:=by
 intro x a;obtain⟨o,_,rfl⟩:=Zfj.1 a;exact⟨rfl,Z1⟩
def IB{w G B e v l}(h:w.ownsRow B e 5 v (I l)<|V4 l)(q:∀c,B<=c->c<xz (xj w)->G c):Rd w G (.sl<|l.map ZQ) v:=by
 have a:=h.1;obtain⟨rfl,p⟩|⟨g,cap,j,rfl,r,t,o,d,_⟩:=h.2;have:l=[]:=Ze8;subst this;exact .nil _ _ Ze7
 have:=Rd.sl (w:=w) (G:=G) _ g 0 cap 5 (λi=>(V4 l).getD i undef) Ze8 d Ze7 (Z52 l) (λi n=>by
   have f:i< I (V4 l):=by rw[a];simpa using n
   rw[ZfQ,h.cellAt i Z0];simp[f]) (λi c k=>IA l i c k)
 simp_all
def Z9d{ws shs old K n xs W}(a:shs=[])(h:(n=0/\zI ws shs old K xs W)\/((n=2\/n=3)/\xs=[]/\ZO ws shs old=([],n))):ZO ws shs old=(xs,n):=by
 obtain⟨rfl,t,_,h⟩|⟨_,rfl,h⟩:=h;simp_all;exact h
def Er:QH:=by
 intro P D F;refine⟨Z2,λw G vs z j r=> ?_⟩;have r0:=r 0 _ rfl;obtain⟨⟨l⟩⟩:=vs;simp at j;rename_i v0 l;cases l with
 |cons _ _=>simp at j
 |nil=>
  let⟨g,o,cap,H,h,q,B⟩:=Pi r0 z D F<|xz (xj w)+1;have C:=Pa (w:=w) (shs:=[]) (old:=xw) (bt:=U) (K:=λt _=>t=0) H h ⟨q,Z0,Z0⟩ Z1 Z1 Z1 Z0r rfl Z0 Z0;obtain⟨N,O,sc,rfl⟩:∃a n c,v0=.slice a n c:=by
   obtain rfl|⟨_,a,c,rfl⟩:=h;simp;simp
  have u:=Zfa C;go_enter Sol.func117,Try.ntmps117;go_wp2_with (go_at_call 128;refine u.out.mono ?_;rintro e w1 ⟨v,n,Q,rfl,f,d,p⟩;have x:=Zfa<|And.intro f<|And.intro d p;clear f d p)
  let⟨f,d,p⟩:=x.out;have A:=Z9d rfl p;refine ZfV (v:=.tuple #[v,.int .i64 n]) (by simp[results,Try.results117,go_sem]) rfl ⟨_,rfl,(Zfr _ w).grown f Z0 Z1,?_⟩;rw[A];refine .an _ _ rfl ?_;intro i y k
  match i,k with
  |0,k=>cases k;exact IB d λc L M=>Z0
  |1,k=>cases k;exact .int _ _
def KpW.cell{j base A B}(h:KpW j base A B){k i c}(hc:A.cell? ⟨k,i,U⟩=J c)(n:k<base)(l:k≠j):B.cell? ⟨k,i,U⟩=J c:=by
 unfold World.cell? at hc;cases d:A.heap[k]? with
 |none=>simp_all
 |some g=>
  have f:g.isCells=xk:=by
   rw[d]at hc;cases g<;>simp_all [Obj.isCells]
  rw[<-hc];exact ZfX (a:=⟨k,i,U⟩)<|(h.same k g d f l Z0).trans d.symm
def KOld.grown{shs bt a t n v A B row}(h:KOld shs bt a v t A)(d:A.grownBy B row)(p:bt<n)(l:a<n)(u:shs≠[]->∀g o cap,v=.slice (J ⟨g,o,U⟩) (I shs) cap->g<n)(q:∀r,row=J r->n<=r):KOld shs bt a v t B:=by
 let⟨f,j,k⟩:=h;exact⟨(d.block _ Ze7 Ze7).trans f,j.grown d Ze7 Ze7,k⟩
def KOld.kp{shs bt d t n j base v A B}(h:KOld shs bt d v t A)(a:KpW j base A B)(u:bt<n)(r:d<n)(w:shs≠[]->∀g o cap,v=.slice (J ⟨g,o,U⟩) (I shs) cap->g<n)(D:n<=j)(h2:n<=base):KOld shs bt d v t B:=by
 let⟨k1,⟨y,z⟩,C⟩:=h;refine⟨a.same _ _ k1 rfl Z0 Z0,⟨a.same _ _ y rfl Z0 Z0,?_⟩,C⟩;obtain⟨g,o,cap,rfl,l,p,q,f⟩|h:=z;refine .inl ⟨g,o,cap,rfl,l,p,Zfb q a.size,λi x k=> ?_⟩;have:=w (λe=>Ze8) _ _ _ rfl;exact⟨a.cell (f i x k).1 Z0 Z0,a.cell (f i x k).2 Z0 Z0⟩;simp_all
def Words.rk{w W ws g o cap}(h:Words w ws g o cap)(f:ws≠[]->g<xz (xj w))(a:Below (xz<|xj w) w W):Words W ws g o cap:=
 ⟨λi x d=>by rw[a.cell (p:=⟨g,o+i,U⟩) Ze7];exact h.Y i x d,h.le,h.cap,h.len,h.u64⟩
def Ep:QI:=by
 intro u d hl a7 hu b4;refine⟨Z2,λw G vs hG K P=> ?_⟩;have r0:=P 0 _ rfl;have r1:=P 1 _ rfl;obtain⟨⟨l⟩⟩:=vs;simp at K;rename_i v0 l;cases l with
 |nil=>simp at K
 |cons v1 l=>
 cases l with
 |cons _ _=>simp at K
 |nil=>
  simp at r0 r1;let⟨g,o,cap,hw,M,a0,a9⟩:=Pi r0 hG hl hu<|xz (xj w)+3;have O:=Z83 r1 hG;obtain⟨sa,sn,sc,rfl⟩:∃a n c,v0=.slice a n c:=by
   obtain rfl|⟨_,a,c,rfl⟩:=M;simp;simp
  obtain⟨j,k,rfl⟩:∃a c,v1=.slice a (I d) c:=by
   grind
  have b0:((w.alloc<|.cells #[.slice j (I d) k] 180).alloc<|.cells #[.int .i64 0] 3).heap[xz<|xj w]?=J (.cells #[.slice j (I d) k] 180 (0,0)):=(Zfp _ _ _ Z1).trans<|ZfG w _;have b1:((w.alloc<|.cells #[.slice j (I d) k] 180).alloc<|.cells #[.int .i64 0] 3).heap[xz (xj w)+1]?=J (.cells #[.int .i64 0] 3 (0,0)):=by
   have:=ZfG (w.alloc<|.cells #[.slice j (I d) k] 180)<|.cells #[.int .i64 0] 3;simp_all
  have z:Below (xz<|xj w) w<|(w.alloc<|.cells #[.slice j (I d) k] 180).alloc<|.cells #[.int .i64 0] 3:=((Zfr _ w).alloc Z0 _).alloc Z1 _;have N:xz (xj<|(w.alloc<|.cells #[.slice j (I d) k] 180).alloc<|.cells #[.int .i64 0] 3)=xz (xj w)+2:=Z1;have b2:d≠[]->∀g o cap,Value.slice j (I d) k=.slice (J ⟨g,o,U⟩) (I d) cap->g<xz (xj w):=by
   intro R g o cap e;obtain⟨g1,S,c1,Y,_,_,h4,_⟩|⟨_,_,_,h⟩:=O;simp_all;simp_all
  have hk:Calls Sol.prog 128 #[.slice sa sn sc,.func (.func 129) #[] #[.pointer<|J ⟨xz (xj w)+1,0,U⟩,.pointer<|J ⟨xz<|xj w,0,U⟩]] ((w.alloc<|.cells #[.slice j (I d) k] 180).alloc<|.cells #[.int .i64 0] 3)
    (Eo ((w.alloc<|.cells #[.slice j (I d) k] 180).alloc<|.cells #[.int .i64 0] 3) u d xk (J<|xz (xj w)+1)<|KOld d (xz (xj w)+1) (xz<|xj w)<|.slice j (I d) k):=by
   generalize a8:(w.alloc<|.cells #[.slice j (I d) k] 180).alloc (.cells #[.int .i64 0] 3)=X at*;have F:d≠[]->∀g o cap,Value.slice j (I d) k=.slice (J ⟨g,o,U⟩) (I d) cap->g<xz (xj X):=λR g o cap e=>Ze7;refine Pa (hw.rk a0 z) M ⟨λh=>Ze7,Z0,Z0⟩ Z1 (λr e=>Ze7) (λe=>Ze7) (Z0s a7 Z0<|λR g o cap e=>Ze7) ⟨b1,⟨b0,?_⟩,Z0⟩ (λt A B row h hg hr=>h.grown hg (n:=xz<|xj X) Z0 Z0 F hr) (λbl base t A B h1 h2 h hk=>h.kp hk (n:=xz<|xj X) Z0 Z0 F h1 h2);obtain⟨g1,S,c1,Y,a1,a2,a3,a4⟩|⟨a,c,Y,h⟩:=O;exact .inl ⟨g1,S,c1,Y,a1,a2,Z0,λi x hx=>⟨(z.cell (p:=⟨g1,S+i*2,U⟩) a3).trans (a4 i x hx).1,(z.cell (p:=⟨g1,S+i*2+1,U⟩) a3).trans (a4 i x hx).2⟩⟩;simp_all
  have H:∀w1 v n L,(v=.slice U 0 0/\L=[]\/w1.ownsRow (xz (xj w)+6) 59 5 v (I L) (V4 L))->ZO u d xk=(L,n)->Rd w1 (λb=>xk=xw/\G b\/xz (xj w)<=b/\b<xz (xj w1)) (.an [.sl<|(ZO u d xk).1.map ZQ,vi (ZO u d xk).2]) (.tuple #[v,.int .i64 n]):=by
   intro w1 v n L f hW;rw[hW];refine .an _ _ rfl ?_;intro i y Q
   match i,Q with
   |0,Q=>
    cases Q;obtain⟨rfl,rfl⟩|f:=f;exact .nil _ _ (by grind [maxLen]);exact IB f λc h1 h2=>Z0
   |1,Q=>cases Q;exact .int _ _
  have a6:Calls Sol.prog 128 #[.slice sa sn sc,.func (.func 129) #[] #[.pointer<|J ⟨xz (xj w)+1,0,U⟩,.pointer<|J ⟨xz<|xj w,0,U⟩]] ((w.alloc<|.cells #[.slice j (I d) k] 180).alloc<|.cells #[.int .i64 0] 3) λe w1=>
    (∃v t,e=.returned (.tuple #[v,.int .i64 0])/\w1.cell? ⟨xz (xj w)+1,0,U⟩=J (.int .i64 t)/\w1.cell? ⟨xz<|xj w,0,U⟩=J (.slice j (I d) k)/\t<I d/\Hid (Below (xz<|xj w) w w1/\Rd w1 (λb=>xk=xw/\G b\/xz (xj w)<=b/\b<xz (xj w1)) (.an [.sl<|(ZO u d xk).1.map ZQ,vi (ZO u d xk).2]) (.tuple #[.slice U 0 0,.int .i64 3])))\/
    (∃v t,e=.returned (.tuple #[v,.int .i64 0])/\w1.cell? ⟨xz (xj w)+1,0,U⟩=J (.int .i64 t)/\w1.cell? ⟨xz<|xj w,0,U⟩=J (.slice j (I d) k)/\¬t<I d/\Hid (Below (xz<|xj w) w w1/\Rd w1 (λb=>xk=xw/\G b\/xz (xj w)<=b/\b<xz (xj w1)) (.an [.sl<|(ZO u d xk).1.map ZQ,vi (ZO u d xk).2]) (.tuple #[v,.int .i64 0])))\/
    (∃v n,e=.returned (.tuple #[v,.int .i64 n])/\¬n=0/\Hid (Below (xz<|xj w) w w1/\Rd w1 (λb=>xk=xw/\G b\/xz (xj w)<=b/\b<xz (xj w1)) (.an [.sl<|(ZO u d xk).1.map ZQ,vi (ZO u d xk).2]) (.tuple #[.slice U 0 0,.int .i64 n]))):=by
   refine hk.mono ?_;rintro e w1 ⟨v,n,L,rfl,a5,f,hE⟩;rw[N]at f;have Z:=z.trans<|(Zfr _ _).grown a5 Z0 Z1;obtain⟨rfl,t,⟨hb,hs,ht⟩,q⟩|⟨R,rfl,q⟩:=hE;have T:w1.cell? ⟨xz (xj w)+1,0,U⟩=J (.int .i64 t):=by rw[Zfg _ _ _ _ _ _ hb];rfl
   have W:w1.cell? ⟨xz<|xj w,0,U⟩=J (.slice j (I d) k):=by rw[Zfg _ _ _ _ _ _ hs.box];rfl
   by_cases C:t<I d;rw[if_pos C]at q;exact .inl ⟨v,t,rfl,T,W,Z0,Zfa ⟨Z,H w1 _ _ [] Z1 q⟩⟩;rw[if_neg C]at q;exact .inr<|.inl ⟨v,t,rfl,T,W,Z0,Zfa ⟨Z,H w1 _ _ L (.inr f) q⟩⟩;exact .inr<|.inr ⟨v,n,rfl,Z0,Zfa ⟨Z,H w1 _ _ [] Z1 q⟩⟩
  have HK:=Zfa a6;go_enter Sol.func119,Try.ntmps119;have b3:∀fn first cap w,(Instr.makeFunc fn first cap).run Sol.prog w=.ok (.func fn first cap) w:=λ_ _ _ _=>rfl;go_wp2_with (go_at_call 128;refine HK.out.mono ?_;rintro e w1 (⟨v,t,rfl,T,W,C,D⟩|⟨v,t,rfl,T,W,C,D⟩|⟨v,n,rfl,R,D⟩))
  .refine ZfV (v:=.tuple #[.slice U 0 0,.int .i64 3]) (by simp[results,Try.results119,go_sem]) rfl ⟨_,rfl,D.out.1,D.out.2⟩
  .refine ZfV (v:=.tuple #[v,.int .i64 0]) (by simp[results,Try.results119,go_sem]) rfl ⟨_,rfl,D.out.1,D.out.2⟩
  .refine ZfV (v:=.tuple #[.slice U 0 0,.int .i64 n]) (by simp[results,Try.results119,go_sem]) rfl ⟨_,rfl,D.out.1,D.out.2⟩
end Vm
namespace Vm
open Go Go.Proofs Go.RowKit
def Z53{w G l v}(r:Rd w G (.sl<|l.map ZQ) v)(t:∀b,G b->b<xz (xj w)):
  (∃g o cap,v=.slice (J ⟨g,o,U⟩) (I l) cap/\I l<=cap/\cap<=maxLen/\g<xz (xj w)/\∀i x,l[i]?=J x->w.cell? ⟨g,o+i*5,U⟩=J (.int .i64 x.Y)/\w.cell? ⟨g,o+i*5+1,U⟩=J (.int .i64 x.size)/\
   w.cell? ⟨g,o+i*5+2,U⟩=J (.int .i64 x.M)/\w.cell? ⟨g,o+i*5+3,U⟩=J (.bool x.gone)/\w.cell? ⟨g,o+i*5+4,U⟩=J (.int .u64 x.target))\/
  (∃a cap,v=.slice a 0 cap/\l=[]):=by
 generalize u:l.map ZQ=L at r;cases r with
 |nil a cap F=>
  simp_all
 |sl _ b o cap k vs j n p d q h=>
  subst u;simp only[ZfC]at j q⊢;refine .inl ⟨b,o,cap,rfl,j,n,t b p,λi x y=> ?_⟩;have f:(l.map ZQ)[i]?=J (ZQ x):=by rw[Zfl,y];rfl
  have K:k=5:=((d _<|Zfc f).1).symm;have H:i<I l:=Ze7;have z:=h (i*5) (vi x.Y) (by have:=VG d f 0 Z0;simp_all);have A:=h (i*5+1) (vi x.size) (by have:=VG d f 1 Z0;simp_all);have B:=h (i*5+2) (vi x.M) (by have:=VG d f 2 Z0;simp_all);have C:=h (i*5+3) (.bool x.gone) (by have:=VG d f 3 Z0;simp_all);have D:=h (i*5+4) (vu x.target) (by have:=VG d f 4 Z0;simp_all);grind [Sj,Nat.add_assoc,Nu]
end Vm
end
section

end
section
namespace Vm
open Go Go.Proofs
def JX{h:Hp}(a:h.ok):VC Sol.prog 25 xw [ZK h]<|.bool<|YI h:=by
 rw[<-(I0 h).1];exact PI Er Ep a
def PF{h:Hp}(a:h.ok){k:Int}:VC Sol.prog 27 xw [ZK h,vi k]<|.an [.sl<|(Uw h k).1.map ZQ,vi (Uw h k).2]:=by
 rw[<-Z45 h k];exact PG Er Ep a
def VI(l:Zh):List<|Int×Int:=(l.filter λo=>o.gone).map λo=>(o.size,o.M)
def P8{ws:Z8}{shs:List (Int×Int)}{old:Bool}:∀(l:Zh) (f a k:Nat) (g:Zh),Tiles ws old a l->I ws<f+a->0<f->shs.drop k=VI l->Xl ws shs old f a k g=(g++l,0)
 | [],f,a,k,g,D,M,K,B=>by
   obtain⟨f,rfl⟩:∃C,f=C+1:=⟨f-1,Z0⟩;have:I ws<=a:=D;have r:I shs<=k:=List.drop_eq_nil_iff.1 B;rw[Xl,Zg4 this];simp only;rw[if_neg Z0,Zgl]
 |o::l,f,a,k,g,D,M,K,B=>by
  obtain⟨f,rfl⟩:∃C,f=C+1:=⟨f-1,Z0⟩;obtain⟨t,r,L⟩:=D;obtain⟨w,F,j⟩:=r.word;have O:=YE.1 r.shape;have u:=r.aw;have q:=r.gd;rw[t]at F u q;simp only[Zfh]at F q;have z:∀d:Nat,shs.drop d=VI l->Xl ws shs old f (a+1+o.size.toNat) d (g++[o])=(g++o::l,0):=λd p=>by
   rw[P8 l f _ d _ L Z0 Z0 p];simp
  have y:∃d,Wf shs old a k w=J (o,d)/\shs.drop d=VI l:=by
   unfold Wf;cases n:o.gone;rw[n]at j;simp only[Zfm,Zg3]at j;rw[if_neg (λh=>j.1 h.1 h.2),j.2.1];refine⟨k,?_,?_⟩;simp only[Zg1];obtain⟨P,R,op,Q,S⟩:=o;simp only at n t j⊢;rw[n,t,j.2.2];rw[B];simp[VI,n];rw[n]at j;simp only[Zg1]at j;rw[if_pos ⟨j.1,j.2.1⟩];have A:shs.drop k=(o.size,o.M)::VI l:=by rw[B];simp[VI,n]
   have x:k<I shs:=by
    have:=Zgb List.length A;simp at this;omega
   rw[Zg7 x]at A;have G:=(List.cons.inj A).1;have H:=(List.cons.inj A).2;rw[Zf4 x,G];simp only[r.shape,Zg1];refine⟨k+1,?_,H⟩;obtain⟨P,R,op,Q,S⟩:=o;simp only at n t j⊢;rw[n,t,j.2.2]
  obtain⟨d,N,p⟩:=y;rw[Xl,F];simp only;rw[N];simp only;rw[if_neg Z0,if_neg (by rw[q];simp)];exact z d p
def LZ{ws:Z8}{shs:List (Int×Int)}{old:Bool}{l:Zh}(d:Tiles ws old 0 l)(a:shs=VI l):ZO ws shs old=(l,0):=by
 unfold ZO;rw[P8 l (I ws+1) 0 0 [] d Z0 Z0 ZeS,ZfU]
def QE(h:Hp)(low l:Zh):Prop:=∀o∈l,o.gone=xk->∃q,Yz h 1 low o.target=J q/\q.size=o.size/\q.M=o.M
def jb{h:Hp}{ws:Z8}{low:Zh}:∀(l:Zh) (f i:Nat) (a:List<|Int×Int),Tiles ws xk i l->I ws<f+i->0<f->QE h low l->V9 h ws low f i a=J (a++VI l)
 | [],f,i,a,u,D,B,r=>by
   obtain⟨f,rfl⟩:∃n,f=n+1:=⟨f-1,Z0⟩;have:I ws<=i:=u;rw[V9,Zg4 this];simp[VI]
 |o::l,f,i,a,u,D,B,r=>by
  obtain⟨f,rfl⟩:∃n,f=n+1:=⟨f-1,Z0⟩;obtain⟨C,p,y⟩:=u;obtain⟨w,x,g⟩:=p.word;have F:=YE.1 p.shape;have j:=p.aw;rw[C]at x j;simp only[Zfh]at x;have k:QE h low l:=λq t=>r q<|ZfJ _ t;rw[V9,x];simp only;cases d:o.gone;rw[d]at g;simp only[Zfm,Zg3,true_implies]at g;rw[if_neg g.1,g.2.1];simp only[Zg1];rw[jb l f _ a y Z0 Z0 k];simp[VI,d];rw[d]at g;simp only[Zg1,true_and]at g;rw[if_pos g.1];obtain⟨q,t,z,A⟩:=r o (.head _) d;rw[<-g.2,t];simp only;rw[z,A,jb l f _ _ y Z0 Z0 k];simp[VI,d]
def MT{h:Hp}{p:Pts}(d:Tiles h.H xw 0 p.H)(h2:Tiles h.ac xw 0 p.ac)(f:Tiles h.ah xk 0 p.ah)(g:Tiles h.aj xk 0 p.aj)(q:QE h p.H p.ah)(r:QE h p.H p.aj):Xp h=J p:=by
 have k:∀ {n:Z8} {a:Nat} {l:Zh},Tiles n xw a l->VI l=[]:=λ{n a l} x=>by
  unfold VI;rw[List.map_eq_nil_iff,Zi4];intro o u t;obtain⟨w,_,j⟩:=(x.ba o u).1.word;rw[if_pos t]at j;cases j.1
 unfold Xp;rw[LZ d (k d).symm,LZ h2 (k h2).symm];unfold Vy;simp only[ne_eq,ZiP,or_self,Zg3];rw[jb p.ah _ 0 [] f Z0 Z0 q,jb p.aj _ 0 [] g Z0 Z0 r];simp only[ZfU,Zfw];rw[LZ f rfl,LZ g rfl];simp
def NL{h:Hp}{p:Pts}(a:Ty h=xk)(d:Xp h=J p)(f:So h p=xk):YI h=xk:=by
 unfold YI;rw[a,d];simpa using f
def EV{h:Hp}{k:Int}{l:Zh}{o:Ob}(a:o∈l)(f:∀q∈l,YW h k q.Y=YW h k o.Y->q=o):Yz h k l (YW h k o.Y)=J o:=by
 unfold Yz;induction l with
 |nil=>simp at a
 |cons x l j=>
  rw[List.find?_cons];by_cases d:YW h k x.Y=YW h k o.Y;rw[f x (.head _) d];simp;have:(YW h k x.Y==YW h k o.Y)=xw:=Zek;rw[this];obtain rfl|a:=Zfz.1 a;exact absurd rfl d;exact j a λq g=>f q<|ZfJ _ g
def jL{h:Hp}{k:Int}{l:Zh}{a:Int}:(Yz h k l a).isSome=xk↔ ∃o∈l,YW h k o.Y=a:=by
 unfold Yz;rw[List.find?_isSome];simp
section
structure Tld (h:Hp) (p:Pts):Prop where
 bf:ZI (Zu h)=xk
 ak:∀k:Int,1<=k/\k<=4->Tiles (Zx h k) (decide (2<k)) 0 (p.at k)
def Gos(h:Hp)(p:Pts)(w one a:Int):Prop:=w=0\/∃k o,(k=one\/k=a)/\o∈p.at k/\w=ZM (Zu h) k o.Y
def XZ(h:Hp)(p:Pts)(k:Int)(i:Nat)(w:Int):Prop:=if 2<k then Gos h p w 3 4 else if k=1/\h.aa<=i then Gos h p w 1 2\/Gos h p w 3 4 else Gos h p w 1 2
section
variable {h:Hp}{p:Pts}
def Tld.ob(t:Tld h p){k:Int}(g:1<=k/\k<=4){o:Ob}(j:o∈p.at k):∃a n m:Nat,o.Y=a/\o.size=n/\o.M=m/\a+(n+1)<=I (Zx h k)/\n<=255/\m<=n:=by
 have d:=((t.ak k g).ba o j).1;have f:=YE.1 d.shape;obtain⟨a,l⟩:=Zfi d.iy;obtain⟨n,r⟩:=Zfi f.1;obtain⟨m,q⟩:=Zfi f.2.2.1;have:=d.aw;grind
def Tld.start(t:Tld h p){k:Int}(d:1<=k/\k<=4){o:Ob}(f:o∈p.at k):YW h k o.Y=fstL (Zu h) k+o.Y:=by
 obtain⟨a,n,m,g,_,_,j,_⟩:=t.ob d f;unfold YW;rw[RH t.bf d (by grind [Td])]
def Tld.cx(t:Tld h p){k:Int}(d:1<=k/\k<=4){o q:Ob}(f:o∈p.at k)(g:q∈p.at k)(e:q.Y=o.Y):q=o:=by
 rcases(t.ak k d).apart q g o f with a|a|a;exact a;have:=YE.1 ((t.ak k d).ba q g).1.shape;omega;have:=YE.1 ((t.ak k d).ba o f).1.shape;omega
def Tld.find(t:Tld h p){k:Int}(a:1<=k/\k<=4){o:Ob}(d:o∈p.at k):Yz h k (p.at k) (fstL (Zu h) k+o.Y)=J o:=by
 rw[<-t.start a d];refine EV d λq f e=>t.cx a d f ?_;rw[t.start a d,t.start a f]at e;omega
theorem Tld.inj(t:Tld h p){k j:Int}(d:1<=k/\k<=4)(f:1<=j/\j<=4){o q:Ob}(g:o∈p.at k)(l:q∈p.at j)(e:ZM (Zu h) k o.Y=ZM (Zu h) j q.Y):k=j/\o=q:=by
 obtain⟨a,n,m,x,_,_,z,_⟩:=t.ob d g;obtain⟨b,B,A,y,_,_,w,_⟩:=t.ob f l;obtain⟨r,u⟩:=Z6R t.bf d f (by grind [Td]) (by grind [Td]) e;subst r;exact⟨rfl,t.cx d l g u⟩
def Tld.kw(t:Tld h p){k:Int}(d:1<=k/\k<=4){o:Ob}(f:o∈p.at k):adr (ZM (Zu h) k o.Y)=(fstL (Zu h) k+o.Y,0):=by
 obtain⟨a,n,m,g,_⟩:=t.ob d f;exact Ud t.bf Z0
def Tld.um(t:Tld h p){k:Int}(d:1<=k/\k<=4){o:Ob}(f:o∈p.at k):ZM (Zu h) k o.Y≠0:=by
 obtain⟨a,n,m,g,_⟩:=t.ob d f;exact qH t.bf Z0
def Tld.nc(t:Tld h p){k:Int}(d:1<=k/\k<=4){w:Int}(f:(Vm.adr w).2=0):(Yz h k (p.at k) (Vm.adr w).1).isSome=xk↔ ∃o∈p.at k,w=ZM (Zu h) k o.Y:=by
 rw[jL];constructor;rintro⟨o,a,e⟩;rw[t.start d a]at e;exact⟨o,a,Pg f e.symm⟩;rintro⟨o,a,rfl⟩;exact⟨o,a,by rw[t.kw d a,t.start d a]⟩
def Tld.di(t:Tld h p){i j:Int}(g:1<=i/\i<=4)(l:1<=j/\j<=4){w:Int}:Xu h p w i j=xk↔Gos h p w i j:=by
 unfold Xu Gos;by_cases d:w=0;simp[d];by_cases a:(Vm.adr w).2=0;simp only[d,a,Zjl,ZiE,Zik,ZhQ,Zfk,false_or,t.nc g a,t.nc l a];simp;simp only[d,a,ZiE,Zia,Bool.or_self,Zfm,false_or,false_iff];rintro⟨k,o,n,q,rfl⟩;have f:1<=k/\k<=4:=by obtain rfl|rfl:=n<;>assumption
 exact a (by rw[t.kw f q])
def Oo:∀ {l:Z8} {a:Int} {i:Nat},XJ l xk a i=xk->∀w∈l,w=0
 | [],_,_,_,w,d=>by simp at d
 |y::l,a,i,f,w,d=>by
  simp only[XJ,Zf6]at f;obtain rfl|d:=Zfz.1 d;have g:=f.1;simp at g;exact g.1;exact Oo f.2 w d
def Tld.uz(t:Tld h p){k:Int}(d:1<=k/\k<=4){o:Ob}(f:o∈p.at k){j:Nat}(x:(j:Int)<o.size):∃w,(Zx h k)[o.Y.toNat+1+j]?=J w/\(o.gone=xk->w=0):=by
 obtain⟨a,n,m,l,u,z,y,_⟩:=t.ob d f;have r:a+1+j< I (Zx h k):=Z0;refine⟨(Zx h k)[a+1+j],Ze8,λq=> ?_⟩;have g:=((t.ak k d).ba o f).1.gd;rw[q]at g;refine Oo g _ ?_;rw[l,u,Zfh,Zfh];refine Zfc (i:=j) ?_;simp_all
end
structure Body (h:Hp) (p:Pts):Prop extends Tld h p where
 gone:∀k:Int,3<=k/\k<=4->∀o∈p.at k,o.gone=xk->∃q∈p.H,o.target=fstL (Zu h) 1+q.Y/\q.size=o.size/\q.M=o.M
 ptr:∀k:Int,1<=k/\k<=4->∀o∈p.at k,o.gone=xw->∀j:Nat,(j:Int)<o.M->∀w,(Zx h k)[o.Y.toNat+1+j]?=J w->XZ h p k (o.Y.toNat+1+j) w
 room:(I h.H:Int)+I h.ac+Xb p<=h.cap
structure Rt (h:Hp) (p:Pts):Prop extends Body h p where
 fk:I h.E<=16
 gy:0<=h.aa
 fi:h.aa<=I h.H
 ld:h.Z=xk->h.aa<I h.H
 rest:h.Z=xw->h.aa=I h.H/\h.ah=[]/\h.aj=[]
 eo:h.Z=xk->∀o∈p.H,UE p (fstL (Zu h) 1+o.Y)=1
 E:∀w∈h.E,Gos h p w 1 2
section
variable {h:Hp}{p:Pts}
def Ef(t:Tld h p){k:Int}{i:Nat}{w:Int}(a:(Zx h k)[i]?=J w):U8 h p k i=xk↔XZ h p k i w:=by
 unfold U8 XZ;simp only[a,Zfw];split;exact t.di Z0 Z0;split;rw[Zfk,t.di Z0 Z0,t.di Z0 Z0];exact t.di Z0 Z0
theorem n5(k:Int)(i:Nat):XZ h p k i 0:=by
 unfold XZ;split;exact .inl rfl;split;exact .inl<|.inl rfl;exact .inl rfl
def Ng(t:Tld h p){k:Int}(g:1<=k/\k<=4):WG h p k=xk↔ ∀o∈p.at k,o.gone=xw->∀j:Nat,(j:Int)<o.M->∀w,(Zx h k)[o.Y.toNat+1+j]?=J w->XZ h p k (o.Y.toNat+1+j) w:=by
 unfold WG yW;simp only[Zfe,ZhK];constructor;intro l o d _ j q w f;exact(Ef t f).1 (l o d j Z0);intro l o d j q;obtain⟨a,n,m,r,y,x,u,_⟩:=t.ob g d;obtain⟨w,f,z⟩:=t.uz g d (j:=j) Z0;refine(Ef t f).2 ?_;grind [n5]
def RightH.vn(r:RightH h p):Tld h p:=⟨r.bf,λk a=>r.ak a⟩
def RightH.rt(r:RightH h p):Rt h p:=by
 have t:=r.vn;have j:=r.num;have a:=r.ok;unfold Ty at j;unfold So at a;simp only[Zf6,Zfv]at j a;obtain⟨⟨⟨⟨G,A⟩,B⟩,C⟩,H⟩:=j;obtain⟨⟨⟨⟨⟨⟨l,D⟩,K⟩,L⟩,M⟩,N⟩,F⟩:=a;have f:∀k:Int,1<=k/\k<=4->WG h p k=xk:=λk d=>by
  have:k=1\/k=2\/k=3\/k=4:=Z0;grind
 refine⟨⟨t,λk d o a y=> ?_,λk d=>(Ng t d).1<|f k d,F⟩,A,B,C,λg=> ?_,λg=> ?_,λg o a=> ?_,λw z=> ?_⟩;obtain⟨q,n,e,u,x⟩:=r.nw d a y;exact⟨q,n,by rw[<-e,t.start (k:=1) Z0 n],u,x⟩;simp_all;simp_all;rw[g]at l;simp only[ZhP,Zik,Zfe]at l;have:=l o a;unfold Rz at this;rw[t.start (k:=1) Z0 a]at this;simp_all;exact(t.di Z0 Z0).1 (Zfe.1 D w z)
def Rt.gw(r:Rt h p):Xp h=J p:=by
 have g:∀k:Int,3<=k/\k<=4->QE h p.H (p.at k):=λk j o l f=>by
  obtain⟨q,n,e,a,d⟩:=r.gone k j o l f;exact⟨q,by rw[e];exact r.toTld.find (k:=1) Z0 n,a,d⟩
 exact MT (r.ak 1 Z0) (r.ak 2 Z0) (r.ak 3 Z0) (r.ak 4 Z0) (g 3 Z0)<|g 4 Z0
theorem Rt.right(r:Rt h p):YI h=xk:=by
 have t:=r.toTld;refine NL ?_ r.gw ?_;unfold Ty;simp only[Zf6,Zfv];refine⟨⟨⟨⟨r.bf,r.fk⟩,r.gy⟩,r.fi⟩,?_⟩;cases a:h.Z;obtain⟨l,n,q⟩:=r.rest a;simp_all;simp[r.ld a];unfold So;simp only[Zf6,Zfv];have d:=λk f=>(Ng t f).2<|r.ptr k f;refine⟨⟨⟨⟨⟨⟨?_,?_⟩,d 1 Z0⟩,d 2 Z0⟩,d 3 Z0⟩,d 4 Z0⟩,r.room⟩;cases a:h.Z;rfl;simp only[ZhP,Zik,Zfe];intro o g;unfold Rz;rw[t.start (k:=1) Z0 g,Zfv];exact r.eo a o g;rw[Zfe];exactλw j=>(t.di Z0 Z0).2<|r.E w j
def LC:YI h=xk↔ ∃p,Rt h p:=
 ⟨λa=>by obtain⟨p,r⟩:=Z78 a;exact⟨p,r.rt⟩,λ⟨p,r⟩=>r.right⟩
def Rt.uo(r:Rt h p){k:Int}(a:1<=k/\k<=4):Uw h k=(p.at k,0):=by
 unfold Uw;rw[if_pos ⟨r.right,a⟩,r.gw];rfl
end
end
section
def Wx(l:Zh):Nat:=(l.map λo=>1+o.size.toNat).sum
def Tiles.sum{ws:Z8}{old:Bool}:∀ {a:Nat} {l:Zh},Tiles ws old a l->a<=I ws->a+Wx l=I ws
 |a,[],h,d=>by have:I ws<=a:=h;simp[Wx];omega
 |a,o::l,h,d=>by
  have g:=YE.1 h.2.1.shape;have f:=h.2.1.aw;rw[h.1]at f;have:=Tiles.sum h.2.2 Z0;simp[Wx]at this⊢;omega
def Tiles.km{ws:Z8}{old:Bool}{l:Zh}(h:Tiles ws old (I ws) l):l=[]:=by
 obtain _|⟨o,l⟩:=l;rfl;have d:=YE.1 h.2.1.shape;have a:=h.2.1.aw;rw[h.1]at a;omega
def Tiles.uh{ws d:Z8}{old:Bool}:∀ {a:Nat} {l j:Zh},Tiles ws old a l->Tiles d old a j->(∀i,i<I ws->d[i]?=ws[i]?)->I ws<=I d->
  (∀o∈l,∀q∈j,o.gone=xk->q.gone=xk->o.target=q.target->o.size=q.size/\o.M=q.M)->a<=I ws->∃r,j=l++r/\Tiles d old (I ws) r
 |a,[],j,h,k,_,_,_,t=>by
  have:I ws<=a:=h;grind
 |a,o::l,[],h,k,_,A,_,t=>by
  have H:=YE.1 h.2.1.shape;have z:=h.2.1.aw;have e:=h.1;have:I d<=a:=k;omega
 |a,o::l,q::j,h,k,B,A,G,t=>by
  obtain⟨p,n,C⟩:=h;obtain⟨k1,M,N⟩:=k;have H:=YE.1 n.shape;have z:=n.aw;obtain⟨w,g,D⟩:=n.word;obtain⟨u,f,F⟩:=M.word;rw[p]at g z;rw[k1]at f;simp only[Zfh]at g f;rw[B a Z0,g]at f;cases f;have e:o=q:=by
   obtain⟨S,T,op,O,W⟩:=o;obtain⟨X,Z,Y,P,qt⟩:=q;simp only at*;subst p k1;cases O<;>cases P<;>simp at D F
   simp_all;simp_all;simp_all;simp_all
  subst e;obtain⟨r,Q,R⟩:=Tiles.uh C N B A (λx K y L=>G x (.tail _ K) y<|.tail _ L) Z0;simp_all
def Tiles.mh{ws:Z8}{old:Bool}{l a:Zh}(h:Tiles ws old 0 l)(h':Tiles ws old 0 a)(g:∀o∈l,∀q∈a,o.gone=xk->q.gone=xk->o.target=q.target->o.size=q.size/\o.M=q.M):a=l:=by
 obtain⟨r,d,f⟩:=h.uh h' (λ_ _=>rfl) (Zf9 _) g<|Zga _;rw[d,f.km,Zgl]
def Tiles.cw{ws:Z8}{a:Nat}{l:Zh}(h:Tiles ws xw a l):∀o∈l,o.gone=xw:=λo d=>by
 obtain⟨w,_,f⟩:=(h.ba o d).1.word;simp_all
def Tiles.ua{ws:Z8}{l d:Zh}(h:Tiles ws xw 0 l)(h':Tiles ws xw 0 d):d=l:=h.mh h' λo f q g a=>by rw[h.cw o f]at a;cases a
def Az(l:Zh):Nat:=(l.map λo=>if o.gone then 1+o.size.toNat else 0).sum
def DQ(l:Zh):Y1 l+Az l=Wx l:=by
 induction l with
 |nil=>rfl
 |cons o l a=>
  simp only[Y1,Az,Wx,ZfA,Zim,XY]at a⊢;cases o.gone<;>simp<;>omega
def Z8K{L:Zh}{f:Ob->Nat}(h:∀o∈L,f o=0):(L.map f).sum=0:=by
 induction L with
 |nil=>rfl
 |cons x L a=>simp_all
section
variable {h:Hp}{p:Pts}
def Tld.gi(t:Tld h p){o:Ob}(d:o∈p.H):0<=o.Y/\o.Y<I h.H:=by
 obtain⟨a,n,m,f,_,_,g,_⟩:=t.ob (k:=1) Z0 d;grind [Vg]
def Tiles.dj{ws:Z8}{old:Bool}:∀ {a:Nat} {l:Zh},Tiles ws old a l->l.Pairwise λx y=>x.Y<y.Y
 |_,[],_=>.nil
 |a,o::l,h=>by
  have f:=YE.1 h.2.1.shape;refine .cons (λy d=> ?_)<|Tiles.dj h.2.2;have:=(Tiles.ba h.2.2 y d).2;rw[h.1];omega
def Tiles.nil{old:Bool}{l:Zh}(h:Tiles [] old 0 l):l=[]:=Tiles.km (ws:=[]) h
def Rt.empty(r:Rt h p)(hc:h.Z=xw):p.ah=[]/\p.aj=[]:=by
 obtain⟨_,f,g⟩:=r.rest hc;have a:=r.ak 3 Z0;have d:=r.ak 4 Z0;simp only[Cb,Li,f,g]at a d;exact⟨a.nil,d.nil⟩
def Gos.vh(t:Tld h p){w i j:Int}(r:1<=i/\i<=4)(u:1<=j/\j<=4)(l:Gos h p w i j):w=0\/∃k,1<=k/\k<=4/\(k=i\/k=j)/\∃o∈p.at k,(adr w).2=0/\(adr w).1=fstL (Zu h) k+o.Y/\o.Y<YP (Zu h) k/\0<=o.Y:=by
 obtain rfl|⟨k,o,g,f,rfl⟩:=l;omega;have d:1<=k/\k<=4:=by obtain rfl|rfl:=g<;>assumption
 obtain⟨a,n,m,q,_,_,x,_⟩:=t.ob d f;exact .inr ⟨k,d.1,d.2,g,o,f,by rw[t.kw d f],by rw[t.kw d f],by grind [Td],Z0⟩
end
end
section
section
variable {h:Hp}{p:Pts}
def Body.kj(r:Body h p){k:Int}(d:1<=k/\k<=2){o:Ob}(f:o∈p.at k):Vm.fwd h (ZM (Zu h) k o.Y)=(ZM (Zu h) k o.Y,h,0):=by
 obtain⟨a,n,m,g,_,_,j,_⟩:=r.toTld.ob Z0 f;exact Vm.fwd_here r.bf d ⟨Z0,Z0⟩
def Body.kh(r:Body h p){k:Int}(q:3<=k/\k<=4){o:Ob}(g:o∈p.at k)(l:o.gone=xk):Vm.fwd h (ZM (Zu h) k o.Y)=(2*o.target+1,h,0):=by
 obtain⟨a,n,m,f,_,_,t,_⟩:=r.toTld.ob Z0 g;obtain⟨u,j,d⟩:=((r.ak k Z0).ba o g).1.word;rw[if_pos l]at d;rw[f,Zfh]at j;rw[f,Vm.fwd_gone r.bf q j d.2.1,Pg d.2.1 d.2.2.symm]
def Body.gt(r:Body h p){k:Int}(t:3<=k/\k<=4){o:Ob}(f:o∈p.at k)(q:o.gone=xw){a n:Nat}(j:o.Y=a)(l:o.size=n):
  Vm.fwd h (ZM (Zu h) k o.Y)=(ZM (Zu h) 1<|I h.H,Yi h k a<|n+1,0)/\((n+1:Nat):Int)<=XQ (Zu h):=by
 obtain⟨z,y,m,A,B,_,C,_⟩:=r.toTld.ob Z0 f;have:z=a:=Z0;subst this;have:y=n:=Z0;subst this;obtain⟨u,x,d⟩:=((r.ak k Z0).ba o f).1.word;rw[if_neg (by simp[q])]at d;rw[j,Zfh]at x;have D:=r.room;have g:=Z9a t f;unfold XY at g;rw[q,l]at g;simp at g;have e:XQ (Zu h)=h.cap-I h.H-I h.ac:=by unfold XQ;rw[if_pos r.bf];rfl
 have w:((y+1:Nat):Int)<=XQ (Zu h):=Z0;rw[j];exact⟨Vm.fwd_wait r.bf t x (d.1<|decide_eq_true Z0) (by rw[d.2.1,l]) C w,w⟩
end
def yM(h:Hp){k:Int}(d:3<=k/\k<=4)(a n:Nat):(Yi h k a n).H=h.H++((Zx h k).take<|a+n).drop a/\(Yi h k a n).ac=h.ac/\Zx (Yi h k a n) k=(zr (Zx h k) a n).set a (ZM (Zu h) 1<|I h.H)/\Zx (Yi h k a n) (7-k)=Zx h (7-k)/\
  (Yi h k a n).E=h.E/\(Yi h k a n).aa=h.aa/\(Yi h k a n).Z=h.Z/\(Yi h k a n).cap=h.cap/\(Yi h k a n).base=h.base/\(Yi h k a n).to=h.to:=by
 have:k=3\/k=4:=Z0;obtain rfl|rfl:=this<;>exact⟨rfl,rfl,rfl,rfl,rfl,rfl,rfl,rfl,rfl,rfl⟩
end
section
def Cc{h:Hp}{k j:Int}(g:1<=k/\k<=4)(f:1<=j/\j<=4)(l:Z8):Zx (Xj h k l) j=if j=k then l else Zx h j:=by
 have a:k=1\/k=2\/k=3\/k=4:=Z0;have d:j=1\/j=2\/j=3\/j=4:=Z0;obtain rfl|rfl|rfl|rfl:=a<;>obtain rfl|rfl|rfl|rfl:=d<;>rfl
def ZP(b:Bt)(i:Nat):Nd:=(b.g.nodes[i]?).getD default
def ZD(b:Bt)(i:Nat):Pl:=(b.ax[i]?).getD ⟨0,0⟩
def Y6(b:Bt)(i:Nat):Pl:=(b.ah[i]?).getD ⟨0,0⟩
def KF(n:Nd):Int:=(Ux ((I n.M:Int)+I n.data)<|I n.M).1
def XM(b:Bt)(p:Pl)(n:Nd)(tw:Int):List Int:=KF n::(XI b p p.Y.toNat n.M tw++n.data)
def VH(b:Bt)(p:Pl)(n:Nd):List Int:=YC b.h p::List.replicate (ZJ n-1) 0
def YR(b:Bt)(x:Rw)(k:Int)(i:Nat):List Int:=
 if(ZD b i).part=k then XM b (ZD b i) (ZP b i)<|IntKind.i64.wrap<|x.bc+i
 else if(Y6 b i).part=k then(if(ZD b i).part=0 then XM b (Y6 b i) (ZP b i) 0 else VH b (ZD b i)<|ZP b i)
 else []
def X1(b:Bt)(x:Rw)(k:Int)(i:Nat):List Int:=(List.range i).flatMap<|YR b x k
theorem VY(b:Bt)(x:Rw)(k:Int)(i:Nat):X1 b x k (i+1)=X1 b x k i++YR b x k i:=by
 simp_all[X1,Zhp,Zh3]
theorem Us(b:Bt)(p:Pl)(n:Nd)(tw:Int):I (XM b p n tw)=ZJ n:=by
 grind [XM,XI,ZJ]
theorem Q2(b:Bt)(p:Pl)(n:Nd):I (VH b p n)=ZJ n:=by
 grind [VH,ZJ]
structure Placed (b:Bt) (x:Rw):Prop where
 ok:BOk b
 ax:∀i,i<I b.g.nodes->(ZD b i=⟨0,0⟩/\∃k:Int,(k=3\/k=4)/\(Y6 b i).part=k)\/(((ZD b i).part=1\/(ZD b i).part=2)/\(ZD b i).Y=(I (X1 b x (ZD b i).part i):Nat))
 ah:∀i,i<I b.g.nodes->Y6 b i=⟨0,0⟩\/(((Y6 b i).part=3\/(Y6 b i).part=4)/\(Y6 b i).Y=(I (X1 b x (Y6 b i).part i):Nat)/\(ZD b i).part≠2)
 zero:∀k:Int,1<=k/\k<=4->Zx b.h k=List.replicate (I<|X1 b x k<|I b.g.nodes) 0
section
variable {b d:Bt}{x:Rw}
def CN(a:Like b d)(p:Pl):YC d.h p=YC b.h p:=by
 unfold YC;rw[a.bf]
theorem Z8g(a:Like b d)(p:Pl)(to tw:Int):Vj d p to tw=Vj b p to tw:=by
 unfold Vj;rw[a.ax,a.ah,a.aa,CN a,CN a]
def Hh(a:Like b d)(p:Pl)(n:Nd)(tw:Int):XM d p n tw=XM b p n tw:=by
 grind [XM,XI,Z8g]
def B9{p:Pl}{a m:Nat}{n:Nd}{tw:Int}{F:Z8}(k:Zx d.h p.part=F++List.replicate m 0)(g:I F=a)(f:p.Y.toNat=a)(j:ZJ n<=m):S6 d p a n tw=F++XM d p n tw++List.replicate (m-ZJ n) 0:=by
 simp_all[S6,List.replicate,ZJ,Zii,Zh6,XM,KF]
def Z7W{F:Z8}{a m s:Nat}{w:Int}(d:I F=a)(h:1<=s)(g:s<=m):(F++List.replicate m (0:Int)).set a w=F++(w::List.replicate (s-1) 0)++List.replicate (m-s) 0:=by
 rw[<-d,Zj7 _ _<|Zf9 _,Zh1];obtain⟨m,rfl⟩:∃f,m=f+1:=⟨m-1,Z0⟩;rw[List.replicate_succ,Zhz,ZfM];congr 1;simp;omega
def Ki(b:Bt)(x:Rw)(k:Int){i j:Nat}(h:i<=j):∃r,X1 b x k j=X1 b x k i++r:=by
 induction j with
 |zero=>simp_all
 |succ j d=>
  by_cases a:i=j+1;simp_all;grind [YR,VY,List.append_assoc]
def jC(b:Bt)(x:Rw)(i:Nat)(d:Bt):Prop:=∀k:Int,1<=k/\k<=4->Zx d.h k=X1 b x k i++List.replicate (I (X1 b x k<|I b.g.nodes)- I (X1 b x k i)) 0
def CT(b:Bt)(x:Rw)(k:Int){i:Nat}(a:i<I b.g.nodes):I (X1 b x k i)+I (YR b x k i)<=I (X1 b x k<|I b.g.nodes):=by
 obtain⟨r,d⟩:=Ki b x k (Z0:i+1<=I b.g.nodes);grind [VY]
def Z1L(C:Placed b x){i:Nat}(G:i<I b.g.nodes)(z:Like b d)(w:jC b x i d):jC b x (i+1)<|QV x d i:=by
 have T:(d.g.nodes[i]?).getD default=ZP b i:=by rw[z.g];rfl
 have X:(d.ax[i]?).getD ⟨0,0⟩=ZD b i:=by rw[z.ax];rfl
 have W:(d.ah[i]?).getD ⟨0,0⟩=Y6 b i:=by rw[z.ah];rfl
 unfold QV;simp only[T,X,W];have Z:=C.ax i G;have Q:=C.ah i G;have r:=λk=>CT b x k G;have j:∀k,YR b x k i=if(ZD b i).part=k then XM b (ZD b i) (ZP b i) (IntKind.i64.wrap<|x.bc+i)else if(Y6 b i).part=k then(if(ZD b i).part=0 then XM b (Y6 b i) (ZP b i) 0 else VH b (ZD b i)<|ZP b i)else []:=λk=>rfl
 have R:=Us b (ZD b i) (ZP b i)<|IntKind.i64.wrap<|x.bc+i;have l2:=Us b (Y6 b i) (ZP b i) 0;have l3:=Q2 b (ZD b i)<|ZP b i;have O:=Hh z (ZD b i) (ZP b i)<|IntKind.i64.wrap<|x.bc+i;have S:=Hh z (Y6 b i) (ZP b i) 0;generalize ZD b i=p at*;generalize Y6 b i=o at*;generalize ZP b i=n at*;have N:1<=ZJ n:=by unfold ZJ;omega
 obtain⟨rfl,ko,a,P⟩|⟨hp,Y⟩:=Z
 ·
  have K:(o.part=3\/o.part=4)/\o.Y=(I (X1 b x o.part i):Nat):=by
   obtain rfl|⟨h1,h2,_⟩:=Q;grind;omega
  have D:Ui x d i n ⟨0,0⟩=d:=by unfold Ui;rw[if_neg Z1]
  have F:Uk d n ⟨0,0⟩ o=Wd d o n 0:=by unfold Uk;rw[if_pos ⟨Z0,rfl⟩]
  have A:∀q,U0 q ⟨0,0⟩ o=q:=λq=>by simp_all[U0,if_neg]
  rw[D,F,A];intro k t;have l:YR b x o.part i=XM b o n 0:=by rw[j,if_neg Ze7,if_pos rfl,if_pos rfl]
  have y:=r o.part;rw[l,l2]at y;unfold Wd;simp only;rw[Cc Z0 t];by_cases a:k=o.part;rw[if_pos a,a,B9 (w o.part Z0) Z0 rfl Z0,VY,l,S];grind;rw[if_neg a,VY,j k,if_neg Ze7,if_neg (λh=>a h.symm),Zgl];exact w k t
 have L:¬p.part=0:=Z0;have D:Ui x d i n p=Wd d p n (IntKind.i64.wrap<|x.bc+i):=by unfold Ui;rw[if_pos Z0]
 have F:∀q,Uk q n p o=q:=λq=>by simp_all[Uk,if_neg]
 rw[D,F];have B:YR b x p.part i=XM b p n (IntKind.i64.wrap<|x.bc+i):=by rw[j,if_pos rfl]
 have M:=r p.part;rw[B,R]at M;have u:∀k:Int,1<=k/\k<=4->Zx (Wd d p n<|IntKind.i64.wrap<|x.bc+i).h k=if k=p.part then X1 b x p.part (i+1)++List.replicate (I (X1 b x p.part<|I b.g.nodes)- I (X1 b x p.part<|i+1)) 0 else Zx d.h k:=by
  intro k t;unfold Wd;simp only;rw[Cc Z0 t];by_cases f:k=p.part;rw[if_pos f,if_pos f,B9 (w p.part Z0) Z0 rfl Z0,VY,B,O];grind;simp_all
 have H:YC (Wd d p n<|IntKind.i64.wrap<|x.bc+i).h p=YC b.h p:=by
  unfold YC;have:Zu (Wd d p n<|IntKind.i64.wrap<|x.bc+i).h=Zu b.h:=by
   rw[<-z.bf];unfold Wd;simp only;refine DM ?_;rw[B9 (w p.part Z0) Z0 rfl Z0,w p.part Z0,O];simp[R];omega
  rw[this]
 generalize Wd d p n (IntKind.i64.wrap<|x.bc+i)=q at*;obtain rfl|⟨a0,K,a1⟩:=Q;have A:U0 q p ⟨0,0⟩=q:=by simp_all[U0,if_neg]
 rw[A];intro k t;rw[u k t];by_cases f:k=p.part;simp_all;rw[if_neg f,VY,j k,if_neg (λh=>f h.symm),if_neg Ze7,Zgl];exact w k t;have A:U0 q p o= {q with h:=Xj q.h o.part ((Zx q.h o.part).set o.Y.toNat<|YC q.h p)}:=by unfold U0;rw[if_pos ⟨Z0,Z0⟩]
 rw[A];have l:YR b x o.part i=VH b p n:=by rw[j,if_neg Z0,if_pos rfl,if_neg L]
 have y:=r o.part;rw[l,l3]at y;intro k t;simp only;rw[Cc Z0 t,u o.part Z0,if_neg (Z0:¬o.part=p.part),w o.part Z0,H];by_cases a:k=o.part;rw[if_pos a,a,Z7W Z0 N Z0,VY,l];grind [VH];rw[if_neg a,u k t];by_cases f:k=p.part;simp_all;rw[if_neg f,VY,j k,if_neg (λh=>f h.symm),if_neg (λh=>a h.symm),Zgl];exact w k t
def FR(a:Placed b x):∀i,i<=I b.g.nodes->jC b x i (Uj x b i)
 |0,_=>by
  intro k d;rw[Uj,a.zero k d];simp[X1]
 |i+1,f=>by
  rw[Uj];exact Z1L a Z0 (KS a.ok i Z0)<|FR a i Z0
def FQ(a:Placed b x){k:Int}(d:1<=k/\k<=4):Zx (YG x b) k=X1 b x k (I b.g.nodes):=by
 have h:=FR a (I b.g.nodes) (Zf9 _) k d;rw[Zh1,List.replicate_zero,Zgl]at h;rw[<-h];rfl
end
end
section
def Q3(x:Rw)(c:Bool)(g:Gr)(i:Nat):Pl:=if V1 x i c=0 then⟨2,(Y4 x c g i).n2⟩else if V1 x i c=1 then⟨1,(Y4 x c g i).n1⟩else⟨0,0⟩
def Jq(x:Rw)(c:Bool)(g:Gr)(i:Nat):Pl:=if(decide (0<V1 x i c)&&c)=xk then(if Wz x i then⟨4,(Y4 x c g i).n4⟩else⟨3,(Y4 x c g i).n3⟩)else⟨0,0⟩
def Dk{x:Rw}{c:Bool}{g:Gr}(d:∀n∈g.nodes,ZJ n<=9):∀j,j<=I g.nodes->∀i,i<j->(Y4 x c g j).ax[i]?=J (Q3 x c g i)/\(Y4 x c g j).ah[i]?=J (Jq x c g i)
 |0,_,i,f=>Z0
 |j+1,l,i,f=>by
  obtain⟨_,_,h,k⟩:=LQ (x:=x) (cycle:=c) d j Z0;rw[Y4];simp only[X5];by_cases a:i<j;have:=Dk (x:=x) (c:=c) d j Z0 i a;rw[Zfx Z0,Zfx Z0];exact this;have:i=j:=Z0;subst this;rw[Zfs Z0,Zfs Z0,h,k,Zh1];exact⟨rfl,rfl⟩
def nk(s:St8)(k:Int):Nat:=if k=1 then s.n1 else if k=2 then s.n2 else if k=3 then s.n3 else s.n4
section
variable {x:Rw}{c:Bool}
def Dt(x:Rw):∀n∈(ZU x.nodes x.E).nodes,ZJ n<=9:=λn d=>by
 obtain⟨_,_,a⟩:=Bu x.nodes x.E;have:=a n d;unfold ZJ;omega
def Ru(x:Rw)(c:Bool):(YQ x c).g=ZU x.nodes x.E:=rfl
def KG{i:Nat}(a:i< (ZU x.nodes x.E).nodes.length):ZD (YQ x c) i=Q3 x c (ZU x.nodes x.E) i:=by
 unfold ZD;show((Y4 x c (ZU x.nodes x.E) (ZU x.nodes x.E).nodes.length).ax[i]?).getD _=_;rw[(Dk (Dt x) _ (Zf9 _) i a).1];rfl
def qb{i:Nat}(a:i< (ZU x.nodes x.E).nodes.length):Y6 (YQ x c) i=Jq x c (ZU x.nodes x.E) i:=by
 unfold Y6;show((Y4 x c (ZU x.nodes x.E) (ZU x.nodes x.E).nodes.length).ah[i]?).getD _=_;rw[(Dk (Dt x) _ (Zf9 _) i a).2];rfl
def zB:∀i,i<=(ZU x.nodes x.E).nodes.length->∀k:Int,1<=k/\k<=4->I (X1 (YQ x c) x k i)=nk (Y4 x c (ZU x.nodes x.E) i) k
 |0,_,k,f=>by simp[X1,Y4,nk]
 |i+1,p,k,f=>by
  have o:=zB i Z0 k f;rw[VY,ZfN,o];have l:ZP (YQ x c) i=((ZU x.nodes x.E).nodes[i]?).getD default:=rfl;unfold YR;rw[KG (Z0:i< (ZU x.nodes x.E).nodes.length),qb (Z0:i< (ZU x.nodes x.E).nodes.length),l,Y4];generalize ((ZU x.nodes x.E).nodes[i]?).getD default=n;have a:k=1\/k=2\/k=3\/k=4:=Z0;unfold Q3 Jq;generalize Y4 x c (ZU x.nodes x.E) i=s;obtain g|h|⟨j,rfl⟩:=SQ x i c;obtain rfl|rfl|rfl|rfl:=a<;>simp[nk,X5,g,Us];cases c<;>cases d:Wz x i<;>obtain rfl|rfl|rfl|rfl:=a<;>simp[nk,X5,h,d,Us,Q2]
  cases d:Wz x i<;>obtain rfl|rfl|rfl|rfl:=a<;>simp[nk,X5,j,d,Us,Q2]
def Oy(hx:x.ok):Placed (YQ x c) x:=by
 refine⟨(Rx hx c).1,λi a=> ?_,λi a=> ?_,λk g=> ?_⟩;rw[Ru]at a;rw[KG a,qb a];have d:=λk g=>zB (x:=x) (c:=c) i Z0 k g;unfold Q3 Jq;obtain j|h|⟨f,rfl⟩:=SQ x i c;right;simp[j,d 2,nk];right;simp[h,d 1,nk];left;refine⟨by simp[f],?_⟩;cases n:Wz x i;exact⟨3,.inl rfl,by simp[f]⟩;exact⟨4,.inr rfl,by simp[f]⟩;rw[Ru]at a;rw[KG a,qb a];have d:=λk g=>zB (x:=x) (c:=c) i Z0 k g;unfold Q3 Jq;obtain j|h|⟨f,rfl⟩:=SQ x i c;left;simp[j];cases c;left;simp;right;cases n:Wz x i;simp[h,d 3,nk];simp[h,d 4,nk];right;cases n:Wz x i;simp[f,d 3,nk];simp[f,d 4,nk];rw[Ru,zB _ (Zf9 _) k g];have l:k=1\/k=2\/k=3\/k=4:=Z0;obtain rfl|rfl|rfl|rfl:=l<;>rfl
end
end
section
def Oi(h:Hp){k:Int}(d:1<=k/\k<=4):YP (Zu h) k=I (Zx h k):=by
 have a:k=1\/k=2\/k=3\/k=4:=Z0;obtain rfl|rfl|rfl|rfl:=a<;>rfl
def Z8Y{s p:Int}(h:YJ s p=xk):ZR (Ux s p).1=(s,p,0):=by
 have a:=YE.1 h;unfold Ux;rw[if_pos h];unfold ZR;grind
theorem Z3I(h:Hp)(p:Pl):VM (YC h p)=xk:=by
 unfold YC VM;split;rfl;unfold XH;split;rfl;rename_i a;unfold adr;grind
theorem Z3J(b:Bt)(p:Pl)(to tw:Int):VM (Vj b p to tw)=xk:=by
 unfold Vj;split;rfl;grind [Z3I]
def Rs{gone:Bool}{ptrs:Int}:∀ {l:Z8} {i:Nat},(∀(j:Nat) (w:Int),l[j]?=J w->(gone=xk->w=0)/\(((i+j:Nat):Int)<ptrs->VM w=xk))->XJ l gone ptrs i=xk
 | [],_,_=>rfl
 |w::l,i,h=>by
  obtain⟨f,g⟩:=h 0 w rfl;have d:XJ l gone ptrs (i+1)=xk:=Rs λj y a=>by
   have:=h (j+1) y a;grind
  rw[XJ,d];grind
theorem Oz{b:Bt}{p:Pl}{n:Nd}{tw:Int}{F r:Z8}{old:Bool}(f:p.Y=(I F:Nat))(o:ZJ n<=9):Stands (F++XM b p n tw++r) old ⟨p.Y,(I n.M:Int)+I n.data,I n.M,xw,0⟩:=by
 have a:YJ ((I n.M:Int)+I n.data) (I n.M)=xk:=by
  unfold ZJ at o;exact YE.2 Z0
 have d:(F++XM b p n tw++r)[I F]?=J (KF n):=by
  rw[ZfM,Zfs<|Zf9 _,Zh1];rfl
 have t:=Z8Y a;refine⟨Ze8,a,?_,?_,KF n,Ze8,?_⟩;grind [Us,ZJ,List.length_append];simp only[f,Zfh];have e:((F++XM b p n tw++r).drop<|I F+1).take ((I n.M:Int)+I n.data).toNat=XI b p p.Y.toNat n.M tw++n.data:=by
  have k:((I n.M:Int)+I n.data).toNat=I (XI b p p.Y.toNat n.M tw++n.data):=by simp[XI];omega
  rw[k,ZfM,Zii,Zh6 Z0,ZhX,ZfU];have l:(XM b p n tw++r).drop 1=(XI b p p.Y.toNat n.M tw++n.data)++r:=rfl;rw[l,ZiK]
 rw[e];refine Rs λj w d=>⟨Z1,λg=> ?_⟩;have h:j<I n.M:=by simpa using g
 rw[Zfx (by simp_all[XI])]at d;simp only[XI,Zfl,Zf5]at d;obtain⟨q,_,rfl⟩:=d;grind [Z3J];simp_all[Zfm,Zg3,Ew,KF,trivial]
def Z8w{b:Bt}{p o:Pl}{n:Nd}{F r:Z8}(a:o.Y=(I F:Nat))(q:ZJ n<=9)(l:(adr<|YC b.h p).2=0):Stands (F++VH b p n++r) xk ⟨o.Y,(I n.M:Int)+I n.data,I n.M,xk,(adr<|YC b.h p).1⟩:=by
 have d:YJ ((I n.M:Int)+I n.data) (I n.M)=xk:=by
  unfold ZJ at q;exact YE.2 Z0
 have f:(F++VH b p n++r)[I F]?=J (YC b.h p):=by
  rw[ZfM,Zfs<|Zf9 _,Zh1];rfl
 refine⟨by show 0<=o.Y;omega,d,?_,?_,_,by rw[a];simpa using f,?_⟩;have:=Q2 b p n;unfold ZJ at this;simp only[ZfN,this,a];omega;simp only[a,Zfh];have e:((F++VH b p n++r).drop<|I F+1).take ((I n.M:Int)+I n.data).toNat=List.replicate (ZJ n-1) 0:=by
  have g:((I n.M:Int)+I n.data).toNat=I (List.replicate (ZJ n-1) (0:Int)):=by simp[ZJ];omega
  rw[g,ZfM,Zii,Zh6 Z0,ZhX,ZfU];have k:(VH b p n++r).drop 1=List.replicate (ZJ n-1) 0++r:=rfl;rw[k,ZiK]
 rw[e];refine Rs λj w f=> ?_;have:=(ZiC.1<|Zfc f).2;subst this;exact⟨λ_=>rfl,λ_=>rfl⟩;simp only[Zg1];exact⟨trivial,l,trivial⟩
def X9(b:Bt)(k:Int)(i:Nat):List Ob:=
 if(ZD b i).part=k then [⟨(ZD b i).Y,((ZP b i).M.length:Int)+(ZP b i).data.length,(ZP b i).M.length,xw,0⟩]
 else if(Y6 b i).part=k then(if(ZD b i).part=0 then [⟨(Y6 b i).Y,((ZP b i).M.length:Int)+(ZP b i).data.length,(ZP b i).M.length,xw,0⟩]
  else [⟨(Y6 b i).Y,((ZP b i).M.length:Int)+(ZP b i).data.length,(ZP b i).M.length,xk,(adr<|YC b.h<|ZD b i).1⟩])
 else []
def obs(b:Bt)(k:Int):List Ob:=(List.range<|I b.g.nodes).flatMap<|X9 b k
section
variable {b:Bt}{x:Rw}
def Placed.sr(a:Placed b x)(d:∀n∈b.g.nodes,ZJ n<=9){i:Nat}(f:i<I b.g.nodes):ZJ (ZP b i)<=9:=by
 simp_all[ZP,Zf4,Zfq]
def Placed.len(a:Placed b x){k:Int}(d:1<=k/\k<=4):YP (Zu b.h) k=(I (X1 b x k<|I b.g.nodes):Nat):=by
 rw[Oi b.h d,a.zero k d];simp
def Placed.ct(a:Placed b x){i:Nat}(f:i<I b.g.nodes)(k:(ZD b i).part≠0):((ZD b i).part=1\/(ZD b i).part=2)/\(ZD b i).Y=(I (X1 b x (ZD b i).part i):Nat)/\(ZD b i).Y+ZJ (ZP b i)<=YP (Zu b.h) (ZD b i).part:=by
 obtain⟨h,_⟩|⟨j,d⟩:=a.ax i f;simp_all;refine⟨j,d,?_⟩;have:=CT b x (ZD b i).part f;rw[a.len Z0,d];have e:YR b x (ZD b i).part i=XM b (ZD b i) (ZP b i) (IntKind.i64.wrap<|x.bc+i):=by unfold YR;rw[if_pos rfl]
 grind [Us]
def Placed.dg(a:Placed b x){i:Nat}(d:i<I b.g.nodes)(o:(Y6 b i).part≠0):((Y6 b i).part=3\/(Y6 b i).part=4)/\(Y6 b i).Y=(I (X1 b x (Y6 b i).part i):Nat)/\(ZD b i).part≠2/\(Y6 b i).Y+ZJ (ZP b i)<=YP (Zu b.h) (Y6 b i).part:=by
 obtain h|⟨k,f,l⟩:=a.ah i d;simp_all;refine⟨k,f,l,?_⟩;have:=CT b x (Y6 b i).part d;rw[a.len Z0,f];have n:(ZD b i).part=0\/(ZD b i).part=1:=by
  by_cases j:(ZD b i).part=0;omega;have:=(a.ct d j).1;omega
 have e:I (YR b x (Y6 b i).part i)=ZJ (ZP b i):=by
  unfold YR;rw[if_neg Z0,if_pos rfl];split;grind [Us];exact Q2 _ _ _
 omega
def Placed.fm(a:Placed b x)(f:ZI (Zu b.h)=xk){i:Nat}(j:i<I b.g.nodes)(d:(ZD b i).part≠0):YC b.h (ZD b i)=ZM (Zu b.h) (ZD b i).part (ZD b i).Y:=by
 obtain⟨k,l,n⟩:=a.ct j d;have o:1<=ZJ (ZP b i):=by grind [ZJ]
 unfold YC;rw[if_neg d,RH f Z0 ⟨Z0,Z0⟩];have:=WQ f (ZD b i).part;unfold XH ZM;grind
def Placed.pq(a:Placed b x)(f:ZI (Zu b.h)=xk){i:Nat}(j:i<I b.g.nodes)(d:(Y6 b i).part≠0):YC b.h (Y6 b i)=ZM (Zu b.h) (Y6 b i).part (Y6 b i).Y:=by
 obtain⟨k,l,_,n⟩:=a.dg j d;have o:1<=ZJ (ZP b i):=by grind [ZJ]
 unfold YC;rw[if_neg d,RH f Z0 ⟨Z0,Z0⟩];have:=WQ f (Y6 b i).part;unfold XH ZM;grind
def IC(a:Placed b x)(z:ZI (Zu b.h)=xk)(C:∀n∈b.g.nodes,ZJ n<=9){k:Int}(F:1<=k/\k<=4):∀(m i:Nat),i+m=I b.g.nodes->Tiles (X1 b x k<|I b.g.nodes) (decide (2<k)) (I<|X1 b x k i) ((List.range' i m).flatMap<|X9 b k)
 |0,i,D=>by
  have:i=I b.g.nodes:=Z0;subst this;exact Zf9 _
 |m+1,i,D=>by
  have t:=IC a z C F m (i+1) Z0;have d:i<I b.g.nodes:=Z0;have w:=a.sr C d;obtain⟨r,A⟩:=Ki b x k (Z0:i+1<=I b.g.nodes);rw[List.range'_succ,ZiN];have B:=VY b x k i;by_cases f:(ZD b i).part=k;have u:YR b x k i=XM b (ZD b i) (ZP b i) (IntKind.i64.wrap<|x.bc+i):=by unfold YR;rw[if_pos f]
  have q:X9 b k i=[⟨(ZD b i).Y,((ZP b i).M.length:Int)+(ZP b i).data.length,(ZP b i).M.length,xw,0⟩]:=by unfold X9;rw[if_pos f]
  obtain⟨_,j,_⟩:=a.ct d Z0;rw[f]at j;rw[q];refine⟨j,?_,?_⟩;grind [Oz];rw[B,u,ZfN,Us]at t;have:(((ZP b i).M.length:Int)+(ZP b i).data.length).toNat=ZJ (ZP b i) -1:=by grind [ZJ]
  simp only[this];rw[show I (X1 b x k i)+1+(ZJ (ZP b i) -1)=I (X1 b x k i)+ZJ (ZP b i)by grind [ZJ]];exact t;by_cases l:(Y6 b i).part=k;obtain⟨G,j,H,K⟩:=a.dg d Z0;have y:2<k:=Z0;rw[l]at j;have p:I (X1 b x k<|i+1)=I (X1 b x k i)+1+(((ZP b i).M.length:Int)+(ZP b i).data.length).toNat:=by
   have e:I (YR b x k i)=ZJ (ZP b i):=by
    unfold YR;rw[if_neg f,if_pos l];split;grind [Us];exact Q2 _ _ _
   rw[B,ZfN,e];unfold ZJ;omega
  rw[p]at t;by_cases o:(ZD b i).part=0;have u:YR b x k i=XM b (Y6 b i) (ZP b i) 0:=by unfold YR;rw[if_neg f,if_pos l,if_pos o]
  have q:X9 b k i=[⟨(Y6 b i).Y,((ZP b i).M.length:Int)+(ZP b i).data.length,(ZP b i).M.length,xw,0⟩]:=by unfold X9;rw[if_neg f,if_pos l,if_pos o]
  rw[q];refine⟨j,?_,t⟩;grind [Oz];have u:YR b x k i=VH b (ZD b i) (ZP b i):=by unfold YR;rw[if_neg f,if_pos l,if_neg o]
  have q:X9 b k i=[⟨(Y6 b i).Y,((ZP b i).M.length:Int)+(ZP b i).data.length,(ZP b i).M.length,xk,(adr<|YC b.h<|ZD b i).1⟩]:=by unfold X9;rw[if_neg f,if_pos l,if_neg o]
  rw[q];refine⟨j,?_,t⟩;rw[A,B,u,decide_eq_true y];refine Z8w j w ?_;obtain⟨L,M,_⟩:=a.ct d o;rw[a.fm z d o,Ud z Z0];simp_all[YR,if_neg,X9,ZfU,Zgl]
def Z54(a:Placed b x)(j:ZI (Zu b.h)=xk)(f:∀n∈b.g.nodes,ZJ n<=9){k:Int}(d:1<=k/\k<=4):Tiles (Zx (YG x b) k) (decide (2<k)) 0<|obs b k:=by
 rw[FQ a d];have:=IC a j f d (I b.g.nodes) 0 Z0;unfold obs;rw[List.range_eq_range'];exact this
def Jg{k:Int}{o:Ob}:o∈obs b k↔ ∃i,i<I b.g.nodes/\o∈X9 b k i:=by
 grind [obs]
end
end
section
def LP{gone:Bool}{ptrs:Int}:∀ {l:Z8} {i:Nat},XJ l gone ptrs i=xk->∀(j:Nat) (w:Int),l[j]?=J w->(gone=xk->w=0)/\(((i+j:Nat):Int)<ptrs->VM w=xk)
 | [],_,_,j,w,a=>by simp at a
 |y::l,i,d,j,w,a=>by
  simp only[XJ,Zf6]at d;cases j with
  |zero=>
   simp at a;subst a;obtain⟨⟨f,g⟩,_⟩:=d;refine⟨λh=> ?_,λk=> ?_⟩;rw[h]at f;simpa using f;simpa[show(i:Int)<ptrs by omega]using g
  |succ j=>
   have:=LP d.2 j w ZeS;rw[show i+1+j=i+(j+1)by omega]at this;exact this
def Stands.congr{ws a:Z8}{old:Bool}{o:Ob}(s:Stands ws old o)(n:I a=I ws)(k:a[o.Y.toNat]?=ws[o.Y.toNat]?)
  (g:∀j:Nat,(j:Int)<o.size->a[o.Y.toNat+1+j]?=ws[o.Y.toNat+1+j]? \/(o.gone=xw/\o.M<=j)):Stands a old o:=by
 refine⟨s.iy,s.shape,by rw[n];exact s.aw,Rs λj w f=> ?_,by rw[k];exact s.word⟩;have d:j<o.size.toNat:=by
  have:=(Zf3.1 f).1;simp at this;omega
 rw[ZfF d,Zfu]at f;obtain g|⟨l,p⟩:=g j Z0;rw[g]at f;refine LP s.gd j w ?_;rw[ZfF d,Zfu];exact f;exact⟨λh=>(by rw[l]at h;cases h),λh=>Z0⟩
def Tiles.congr{ws d:Z8}{old:Bool}:∀ {a:Nat} {l:Zh},Tiles ws old a l->I d=I ws->(∀o∈l,Stands d old o)->Tiles d old a l
 |a,[],h,f,_=>by show I d<=a;rw[f];exact h
 |a,o::l,h,f,g=>⟨h.1,g o<|.head _,Tiles.congr h.2.2 f λx j=>g x<|.tail _ j⟩
section
variable {h g:Hp}{p:Pts}
def E8(a:Zu g=Zu h){w i j:Int}:Gos g p w i j↔Gos h p w i j:=by
 unfold Gos;rw[a]
def Tiles.place{ws:Z8}{old:Bool}:∀ {a:Nat} {l:Zh},Tiles ws old a l->∀ {i:Nat} {o:Ob},l[i]?=J o->o.Y=((a+Wx (l.take i):Nat):Int)
 |_,[],_,i,o,d=>by simp at d
 |a,x::l,f,0,o,d=>by simp at d;subst d;rw[f.1];simp[Wx]
 |a,x::l,f,i+1,o,d=>by
  have:=f.2.2.place (i:=i) (o:=o) Zek;rw[this];simp[Wx];omega
def Z8M{l:Zh}{i:Nat}{o:Ob}(a:l[i]?=J o):Wx (l.take<|i+1)=Wx (l.take i)+(1+o.size.toNat):=by
 unfold Wx;rw[ZfZ,a,Zgg,Ziu];simp
end
end
section
def PD{ws:Z8}{a:Nat}:∀ {n j:Nat},j<n->a+n<=I ws->(zr ws a n)[a+j]?=J 0
 |0,_,h,_=>Z0
 |n+1,j,h,d=>by
  rw[zr];by_cases e:j=n;subst e;rw[Zgd (by rw[ju];omega)];rw[Zg6 Z0];exact PD Z0 Z0
def Stands.app{ws r:Z8}{old:Bool}{o:Ob}(s:Stands ws old o):Stands (ws++r) old o:=by
 have k:=YE.1 s.shape;have g:=s.aw;have h:=s.iy;have f:(ws++r)[o.Y.toNat]?=ws[o.Y.toNat]? :=Zfx Z0;refine⟨s.iy,s.shape,Ze9,Rs λj w d=> ?_,by rw[f];exact s.word⟩;have a:j<o.size.toNat:=by
  have:=(Zf3.1 d).1;simp at this;omega
 rw[ZfF a,Zfu,Zfx Z0]at d;refine LP s.gd j w ?_;simp_all
def Tiles.append{ws r:Z8}{old:Bool}:∀ {a:Nat} {l d:Zh},Tiles ws old a l->a<=I ws->Tiles (ws++r) old (I ws) d->Tiles (ws++r) old a (l++d)
 |a,[],d,h,g,f=>by
  have:I ws<=a:=h;have:a=I ws:=Z0;subst this;exact f
 |a,o::l,d,h,g,f=>by
  have k:=YE.1 h.2.1.shape;have j:=h.2.1.aw;have e:=h.1;exact⟨h.1,h.2.1.app,Tiles.append h.2.2 Z0 f⟩
theorem Tiles.map{ws d:Z8}{old:Bool}{f:Ob->Ob}(g:∀o,(f o).Y=o.Y/\(f o).size=o.size)(j:I d=I ws):∀ {a:Nat} {l:Zh},Tiles ws old a l->(∀o∈l,Stands d old<|f o)->Tiles d old a (l.map f)
 |a,[],h,_=>by show I d<=a;rw[j];exact h
 |a,o::l,h,k=>⟨by rw[(g o).1];exact h.1,k o<|.head _,by rw[(g o).2];exact Tiles.map g j h.2.2 λx n=>k x<|.tail _ n⟩
def V3(a t:Int)(q:Ob):Ob:=if q.Y=a then {q with gone:=xk,target:=t}else q
theorem J4(a t:Int)(q:Ob):(V3 a t q).Y=q.Y/\(V3 a t q).size=q.size/\(V3 a t q).M=q.M:=by
 unfold V3;grind
theorem UV{a t:Int}{q:Ob}(h:q.Y≠a):V3 a t q=q:=if_neg h
theorem Uo{a t:Int}{q:Ob}(h:q.Y=a):V3 a t q= {q with gone:=xk,target:=t}:=if_pos h
def Pts.mv(p:Pts)(k:Int)(o:Ob)(L:Nat)(t:Int):Pts:=⟨p.H++[⟨L,o.size,o.M,xw,0⟩],p.ac,if k=3 then p.ah.map (V3 o.Y t)else p.ah,if k=3 then p.aj else p.aj.map<|V3 o.Y t⟩
section
variable {h:Hp}{p:Pts}
def Ji{k:Int}(a:3<=k/\k<=4)(o:Ob)(L:Nat)(t:Int):(p.mv k o L t).at 1=p.H++[⟨L,o.size,o.M,xw,0⟩]/\(p.mv k o L t).at 2=p.ac/\(p.mv k o L t).at k=(p.at k).map (V3 o.Y t)/\(p.mv k o L t).at (7-k)=p.at (7-k):=by
 have:k=3\/k=4:=Z0;obtain rfl|rfl:=this<;>exact⟨rfl,rfl,rfl,rfl⟩
def Z4H{k:Int}(d:3<=k/\k<=4){o:Ob}{L:Nat}{t:Int}{j:Int}(u:1<=j/\j<=4){q:Ob}(w:q∈p.at j):∃a∈(p.mv k o L t).at j,a.Y=q.Y/\a.size=q.size/\a.M=q.M/\(a.gone=xw->a=q)/\(j<3->a=q):=by
 obtain⟨h,l,n,r⟩:=Ji (p:=p) d o L t;by_cases f:j=1;subst f;exact⟨q,Ze8,rfl,rfl,rfl,λ_=>rfl,λ_=>rfl⟩;by_cases g:j=2;subst g;exact⟨q,Ze8,rfl,rfl,rfl,λ_=>rfl,λ_=>rfl⟩;by_cases x:j=k;grind [V3,List.mem_map_of_mem,J4,Uo,UV];grind
def Z4G{g:Hp}{k:Int}(f:3<=k/\k<=4){o:Ob}{L:Nat}{t:Int}(r:∀j b,ZM (Zu g) j b=ZM (Zu h) j b){w i j:Int}(x:1<=i/\i<=4)(y:1<=j/\j<=4)(d:Gos h p w i j):Gos g (p.mv k o L t) w i j:=by
 obtain rfl|⟨m,q,l,n,rfl⟩:=d;exact .inl rfl;obtain⟨u,a,e,_⟩:=Z4H (p:=p) f (o:=o) (L:=L) (t:=t) (j:=m) Z0 n;exact .inr ⟨m,u,l,a,by rw[r,e]⟩
def Pw{l:Zh}{o:Ob}{t:Int}(d:l.Pairwise λx y=>x.Y<y.Y)(a:o∈l)(h:o.gone=xw):Y1 (l.map<|V3 o.Y t)+(1+o.size.toNat)=Y1 l:=by
 induction l with
 |nil=>simp at a
 |cons x l g=>
  rw[ZiD]at d;simp only[Y1,ZfA,Zim]at g⊢;obtain rfl|a:=Zfz.1 a
  .have:l.map (V3 o.Y t)=l:=by
    conv=>rhs;rw[<-Zjj l]
    refine Zgr λy f=>UV ?_;have:=d.1 y f;omega
   rw[this,Uo rfl];grind [XY]
  grind [UV]
def Body.move(r:Body h p)(b6:h.aa<=I h.H){k:Int}(G:3<=k/\k<=4){o:Ob}(P:o∈p.at k)(hg:o.gone=xw){a n:Nat}(ea:o.Y=a)(N:o.size=n):
  Body (Yi h k a<|n+1) (p.mv k o (I h.H)<|fstL (Zu h) 1+I h.H):=by
 obtain⟨B,D,m,a7,a9,em,K,b3,b2⟩:=r.toTld.ob (k:=k) Z0 P;have:B=a:=Z0;subst this;have:D=n:=Z0;subst this;obtain⟨_,hm⟩:=r.gt G P hg ea N;obtain⟨m1,m2,m3,m4,m5,m6,m7,m8,m9,b8⟩:=yM h G B<|D+1;have Z:=By G (g:=h) K;have mr:=Z4A r.bf G K hm;have hr:=Z6S G K;have hw:∀ {j:Int} {b:Nat},3<=j/\j<=4->(j≠k\/b<B\/B+(D+1)<=b)->(Zx (Yi h k B<|D+1) j)[b]?=(Zx h j)[b]? :=λC hb=>BA G Z0 C hb;have O:∀ {j:Int},3<=j/\j<=4->I (Zx (Yi h k B<|D+1) j)=I (Zx h j):=λC=>Bz G C;have R:fstL (Zu<|Yi h k B<|D+1) 1=fstL (Zu h) 1:=by rw[Z];rfl
 have X:∀i,i<D+1->(((Zx h k).take<|B+(D+1)).drop B)[i]?=(Zx h k)[B+i]? :=λi z=>by
  simp_all
 have a4:I (((Zx h k).take<|B+(D+1)).drop B)=D+1:=Ze9;obtain⟨e1,e2,e3,e4⟩:=Ji (p:=p) G o (I h.H)<|fstL (Zu h) 1+I h.H;have H:=((r.ak k Z0).ba o P).1;obtain⟨u,hu,hc⟩:=H.word;rw[if_neg (by simp[hg])]at hc;rw[ea,Zfh]at hu;generalize b1:Yi h k B (D+1)=g at*;generalize a6:((Zx h k).take<|B+(D+1)).drop B=ws at*;have a1:∀q∈p.at k,q.Y≠o.Y->∀i:Nat,(i:Int)<=q.size->q.Y.toNat+i<B\/B+(D+1)<=q.Y.toNat+i:=by
  intro q d S i z;obtain⟨b,l,_,eb,el,_⟩:=r.toTld.ob (k:=k) Z0 d;rcases(r.ak k Z0).apart q d o P with e|e|e;simp_all;left;omega;omega
 have F:∀q∈p.at k,q.Y≠o.Y->∀i:Nat,(i:Int)<=q.size->(Zx g k)[q.Y.toNat+i]?=(Zx h k)[q.Y.toNat+i]? :=λq d S i z=>hw G<|.inr<|a1 q d S i z;have a0:∀b,(Zx g<|7-k)[b]?=(Zx h<|7-k)[b]? :=λb=>hw Z0<|.inl Z0;have T:Stands (h.H++ws) xw ⟨I h.H,o.size,o.M,xw,0⟩:=by
  refine⟨Z1,H.shape,Ze9,Rs λj w C=>⟨Z1,λW=> ?_⟩,u,?_,?_⟩;have L:j<D:=by
   have:=(Zf3.1 C).1;simp[N]at this;omega
  simp only[N,Zfh]at C;rw[ZfF L,Zfu,Zfs Z0,show I h.H+1+j-I h.H=1+j by omega,X _ Z0]at C;refine(LP H.gd j w ?_).2 W;rw[ea,N,Zfh,Zfh,ZfF L,Zfu,<-C,Zgi];simp only[Zfh];grind;grind
 have a5:=WQ r.bf 1;refine⟨⟨mr,λj C=> ?_⟩,λj C q d A=> ?_,λj C q d A i z w f=> ?_,?_⟩;by_cases j1:j=1;subst j1;rw[e1];simp only[Vg,m1];exact(r.ak 1 Z0).append (Zga _) ⟨rfl,T,by show I (h.H++ws)<=_;simp[N,a4];omega⟩;by_cases j2:j=2;subst j2;rw[e2];simp only[qp,m2];exact r.ak 2 Z0;by_cases Y:j=k;subst Y;rw[e3];refine(r.ak j Z0).map (λq=>⟨(J4 _ _ q).1,(J4 _ _ q).2.1⟩) (O G) λq d=> ?_;by_cases e:q.Y=o.Y;have:q=o:=r.toTld.cx Z0 P d e;subst this;rw[Uo rfl];refine⟨H.iy,H.shape,Ze7,Rs λi w z=> ?_,ZM (Zu h) 1<|I h.H,?_,?_⟩;have L:i<D:=by
  have:=(Zf3.1 z).1;simp[N]at this;omega
 simp only[ea,N,Zfh]at z;rw[ZfF L,Zfu,m3,Zg6 Z0,Zgi,PD Z0 K]at z;cases z;exact⟨λ_=>rfl,λ_=>rfl⟩;grind [Int.toNat_natCast,List.getElem?_set_self,ju];simp only[Zg1];rw[Ud r.bf Z0];grind;rw[UV e];refine((r.ak j Z0).ba q d).1.congr (O G) (by simpa using F q d e 0 (by have:=YE.1 ((r.ak j Z0).ba q d).1.shape;omega)) λi z=>.inl ?_;rw[Zgi];exact F q d e (1+i) Z0;have:j=7-k:=Z0;subst this;rw[e4,m4];exact r.ak (7-k) Z0;by_cases Y:j=k;subst Y;rw[e3,Zfj]at d;obtain⟨x,Q,rfl⟩:=d;by_cases e:x.Y=o.Y;have:x=o:=r.toTld.cx Z0 P Q e;subst this;rw[Uo rfl];exact⟨_,ZgO _<|.head _,by rw[R],rfl,rfl⟩;rw[UV e]at A⊢;obtain⟨y,hy,y1,y2,y3⟩:=r.gone j C x Q A;exact⟨y,Zge _ hy,Z0,y2,y3⟩;have:j=7-k:=Z0;subst this;rw[e4]at d;obtain⟨y,hy,y1,y2,y3⟩:=r.gone _ C q d A;exact⟨y,Zge _ hy,Z0,y2,y3⟩;have b0:∀ {w i j:Int},1<=i/\i<=4->1<=j/\j<=4->Gos h p w i j->Gos g (p.mv k o (I h.H)<|fstL (Zu h) 1+I h.H) w i j:=λz C=>Z4G G hr z C;have M:∀ {j:Int} {i:Nat} {w:Int},XZ h p j i w->XZ g (p.mv k o (I h.H)<|fstL (Zu h) 1+I h.H) j i w:=λ{j i w} W=>by
  unfold XZ at W⊢;rw[m6];by_cases c1:2<j;grind;rw[if_neg c1]at W⊢;by_cases c2:j=1/\h.aa<=i;grind;rw[if_neg c2]at W⊢;grind
 by_cases j1:j=1;subst j1;rw[e1]at d;obtain d|d:=Zfy.1 d;obtain⟨b,l,l',eb,el,a8,a2,_⟩:=r.toTld.ob (k:=1) Z0 d;simp only[Vg]at a2 f;rw[m1,Zfx Z0]at f;exact M<|r.ptr 1 Z0 q d A i z w f;simp at d;subst d;simp only at z f⊢;simp only[Zfh,Vg,m1]at f⊢;rw[Zfs Z0,show I h.H+1+i-I h.H=1+i by omega,X _ Z0]at f;have:=r.ptr k Z0 o P hg i z w (by grind [Int.toNat_natCast,Nat.add_assoc]);unfold XZ at this⊢;rw[if_pos Z0]at this;rw[if_neg Z0,if_pos ⟨rfl,Z0⟩];grind;by_cases j2:j=2;subst j2;rw[e2]at d;simp only[qp,m2]at f;exact M<|r.ptr 2 Z0 q d A i z w f;by_cases Y:j=k;subst Y;rw[e3,Zfj]at d;obtain⟨x,Q,rfl⟩:=d;by_cases e:x.Y=o.Y;grind [Uo];rw[UV e]at A z f⊢;have b4:=(YE.1 ((r.ak j Z0).ba x Q).1.shape).2.2.2;rw[Zgi,F x Q e (1+i) Z0,<-Zgi]at f;exact M<|r.ptr j C x Q A i z w f;have:j=7-k:=Z0;subst this;rw[e4]at d;rw[m4]at f;exact M<|r.ptr _ C q d A i z w f;have b5:=r.room;have b7:Xb (p.mv k o (I h.H)<|fstL (Zu h) 1+I h.H)+(1+D)=Xb p:=by
  have h1:=(r.ak k Z0).dj;have:=Pw (t:=fstL (Zu h) 1+I h.H) h1 P hg;rw[N,Zfh]at this;unfold Xb;have a3:k=3\/k=4:=Z0;obtain rfl|rfl:=a3;simp only[Pts.kx]at this;simp only[Pts.mv,Zg1];omega;simp only[Pts.ky]at this;simp only[Pts.mv,show ¬(4:Int)=3 by omega,Zg3];omega
 grind
end
end
section
def Th(h:Hp)(p:Pts):Prop:=∀o∈p.H,UE p (fstL (Zu h) 1+o.Y)=1
section
variable {h g:Hp}{p q:Pts}
def Z8Q{l:Zh}{o:Ob}{t b:Int}(d:l.Pairwise λx y=>x.Y<y.Y)(a:o∈l)(g:o.gone=xw):YX (l.map<|V3 o.Y t) b=YX l b+if t=b then 1 else 0:=by
 induction l with
 |nil=>simp at a
 |cons x l h=>
  rw[ZiD]at d;have e:∀(y:Ob) (r:Zh),YX (y::r) b=(if y.gone=xk/\y.target=b then 1 else 0)+YX r b:=λy r=>by
   unfold YX;grind
  rw[ZfA,e,e];obtain rfl|a:=Zfz.1 a
  .have:l.map (V3 o.Y t)=l:=by
    conv=>rhs;rw[<-Zjj l]
    refine Zgr λy f=>UV ?_;have:=d.1 y f;omega
   rw[this,Uo rfl];grind
  grind [UV]
def Z8R(r:Body h p){b:Int}(n:I h.H<=b):UE p (fstL (Zu h) 1+b)=0:=by
 have key:∀k:Int,3<=k/\k<=4->YX (p.at k) (fstL (Zu h) 1+b)=0:=λk d=>by
  unfold YX;rw[ZgY,Zi4];intro o f a;simp only[Zf6,Zfv]at a;obtain⟨y,g,e,_⟩:=r.gone k d o f a.1;have:=r.toTld.gi g;omega
 have j:=key 3 Z0;have l:=key 4 Z0;simp_all[Pts.kx,Pts.ky,UE]
def Z8O(r:Body h p){k:Int}(j:3<=k/\k<=4){o:Ob}(g:o∈p.at k)(f:o.gone=xw){L:Nat}{t b:Int}:UE (p.mv k o L t) b=UE p b+if t=b then 1 else 0:=by
 have d:=Z8Q (t:=t) (b:=b) (r.ak k Z0).dj g f;unfold UE;have a:k=3\/k=4:=Z0;obtain rfl|rfl:=a;simp only[Pts.kx]at d;simp only[Pts.mv,Zg1];omega;simp only[Pts.ky]at d;simp only[Pts.mv,show ¬(4:Int)=3 by omega,Zg3];omega
structure Ext (h:Hp) (p:Pts) (g:Hp) (q:Pts):Prop where
 H:∃ws,g.H=h.H++ws
 ac:g.ac=h.ac
 base:g.base=h.base
 cap:g.cap=h.cap
 rh:g.to=h.to
 Z:g.Z=h.Z
 aa:g.aa=h.aa
 E:g.E=h.E
 ss:I g.ah=I h.ah
 ou:I g.aj=I h.aj
 gk:∃r,q.H=p.H++r
 gj:q.ac=p.ac
 iq:∀k:Int,3<=k/\k<=4->(q.at k).map (λo=>(o.Y,o.size,o.M))=(p.at k).map (λo=>(o.Y,o.size,o.M))
 gone:∀k:Int,3<=k/\k<=4->∀(i:Nat) (o o':Ob),(p.at k)[i]?=J o->(q.at k)[i]?=J o'->(o.gone=xk->o'=o)/\(o'.gone=xw->o'=o/\∀j:Nat,(j:Int)<=o.size->(Zx g k)[o.Y.toNat+j]?=(Zx h k)[o.Y.toNat+j]?)
 room:(I g.H:Int)+Xb q=I h.H+Xb p
def Ext.refl(h:Hp)(p:Pts):Ext h p h p:=
 ⟨⟨[],Z1⟩,rfl,rfl,rfl,rfl,rfl,rfl,rfl,rfl,rfl,⟨[],Z1⟩,rfl,λ_ _=>rfl,λk f i o g a d=>Ze8,rfl⟩
theorem Ext.trans{f:Hp}{s:Pts}(a:Ext h p g q)(b:Ext g q f s):Ext h p f s:=by
 obtain⟨w1,y⟩:=a.H;obtain⟨w2,z⟩:=b.H;obtain⟨H,A⟩:=a.gk;obtain⟨K,B⟩:=b.gk;refine⟨⟨w1++w2,by rw[z,y,ZfM]⟩,b.ac.trans a.ac,b.base.trans a.base,b.cap.trans a.cap,b.rh.trans a.rh,b.Z.trans a.Z,b.aa.trans a.aa,b.E.trans a.E,b.ss.trans a.ss,b.ou.trans a.ou,⟨H++K,by rw[B,A,ZfM]⟩,b.gj.trans a.gj,λk d=>(b.iq k d).trans<|a.iq k d,λk d i o r t C=> ?_,b.room.trans a.room⟩;have M:I (q.at k)=I (p.at k):=by have:=Zgb List.length<|a.iq k d;simpa using this
 have L:=(Zf3.1 t).1;have n:(q.at k)[i]?=J ((q.at k)[i]'Z0):=Zf4 _;generalize (q.at k)[i]'Z0=w at n;obtain⟨x,c2⟩:=a.gone k d i o w t n;obtain⟨d1,d2⟩:=b.gone k d i w r n C;refine⟨λl=> ?_,λl=> ?_⟩;have:=x l;subst this;exact d1 l;obtain⟨k1,D⟩:=d2 l;subst k1;obtain⟨F,G⟩:=c2 l;subst F;exact⟨rfl,λj u=>(D j u).trans<|G j u⟩
def Ext.fst(e:Ext h p g q)(k a:Int)(d:k=1\/k=3\/k=4\/k=2):ZM (Zu g) k a=ZM (Zu h) k a:=by
 unfold ZM fstL Zu;simp only[e.base,e.cap,e.rh,e.ac,e.ou]
def Ext.mem(e:Ext h p g q){j:Int}(l:1<=j/\j<=4){o:Ob}(f:o∈p.at j):∃a∈q.at j,a.Y=o.Y/\a.size=o.size/\a.M=o.M:=by
 have d:j=1\/j=2\/j=3\/j=4:=Z0;obtain rfl|rfl|k:=d;obtain⟨r,n⟩:=e.gk;exact⟨o,Ze8,rfl,rfl,rfl⟩;exact⟨o,by show o∈q.ac;rw[e.gj];exact f,rfl,rfl,rfl⟩;have:=e.iq j Z0;grind [List.mem_map_of_mem,Prod.mk.injEq]
def Ext.iw(e:Ext h p g q){w i j:Int}(t:1<=i/\i<=4)(u:1<=j/\j<=4)(l:Gos h p w i j):Gos g q w i j:=by
 obtain rfl|⟨m,o,f,n,rfl⟩:=l;exact .inl rfl;have a:1<=m/\m<=4:=by obtain rfl|rfl:=f<;>assumption
 obtain⟨r,d,k,_⟩:=e.mem a n;exact .inr ⟨m,r,f,d,by rw[e.fst _ _ Z0,k]⟩
theorem Body.ext(r:Body h p)(T:h.aa<=I h.H){k:Int}(f:3<=k/\k<=4){o:Ob}(u:o∈p.at k)(F:o.gone=xw){a n:Nat}(ea:o.Y=a)(P:o.size=n):
  Ext h p (Yi h k a<|n+1) (p.mv k o (I h.H)<|fstL (Zu h) 1+I h.H):=by
 obtain⟨g,w,m,O,Q,em,z,S,R⟩:=r.toTld.ob (k:=k) Z0 u;have:g=a:=Z0;subst this;have:w=n:=Z0;subst this;obtain⟨Y,Z,m3,m4,m5,m6,m7,m8,m9,C⟩:=yM h f g<|w+1;obtain⟨L,M,N,e4⟩:=Ji (p:=p) f o (I h.H)<|fstL (Zu h) 1+I h.H;have W:(Yi h k g<|w+1).ah.length=I h.ah:=Bz (j:=3) f Z0;have X:(Yi h k g<|w+1).aj.length=I h.aj:=Bz (j:=4) f Z0;refine⟨⟨_,Y⟩,Z,m9,m8,C,m7,m6,m5,W,X,⟨_,L⟩,M,λj G=> ?_,λj G i x x' q y=> ?_,?_⟩;by_cases K:j=k;simp_all[Zh0,Zgr,J4,fstL,Zu,Function.comp];have:j=7-k:=Z0;simp_all;by_cases K:j=k;subst K;rw[N,Zfl,q]at y;simp at y;subst y;have d:=Zfc q;by_cases e:x.Y=o.Y;have:x=o:=r.toTld.cx Z0 u d e;subst this;rw[Uo rfl];exact⟨λh=>(by rw[F]at h;cases h),λh=>Zel⟩;rw[UV e];refine⟨λ_=>rfl,λ_=>⟨rfl,λi hi=>BA f Z0 G<|.inr ?_⟩⟩;obtain⟨b,l,_,eb,el,_⟩:=r.toTld.ob (k:=j) Z0 d;rcases(r.ak j Z0).apart x d o u with D|D|D;simp_all;left;omega;omega;have:j=7-k:=Z0;simp_all;have q:=(r.ak k Z0).dj;have B:=Pw (t:=fstL (Zu h) 1+I h.H) q u F;rw[P,Zfh]at B;have H:=Z4z f z;unfold Xb;have A:k=3\/k=4:=Z0;obtain rfl|rfl:=A;simp only[Pts.kx]at B;simp only[Pts.mv,Zg1];omega;simp only[Pts.ky]at B;simp only[Pts.mv,show ¬(4:Int)=3 by omega,Zg3];omega
def IJ(r:Body h p)(f:Th h p)(g:h.aa<=I h.H){k:Int}(l:3<=k/\k<=4){o:Ob}(q:o∈p.at k)(j:o.gone=xw){a n:Nat}(t:o.Y=a)(u:o.size=n):
  Th (Yi h k a<|n+1) (p.mv k o (I h.H)<|fstL (Zu h) 1+I h.H):=by
 have e:=r.ext g l q j t u;have w:fstL (Zu<|Yi h k a<|n+1) 1=fstL (Zu h) 1:=by
  have:=e.fst 1 0<|.inl rfl;unfold ZM at this;omega
 intro x d;rw[Z8O r l q j,w];obtain d|d:=Zfy.1 d;have:=r.toTld.gi d;rw[f x d,if_neg Z0];simp_all[Z8R,Int.le_refl]
def Res(g:Hp)(q:Pts)(w v:Int):Prop:=(w=0/\v=0)\/∃k o,(k=3\/k=4)/\o∈q.at k/\w=ZM (Zu g) k o.Y/\o.gone=xk/\v=2*o.target+1
theorem Res.ext{w v:Int}(r:Res h p w v)(e:Ext h p g q):Res g q w v:=by
 obtain r|⟨k,o,t,u,j,d,l⟩:=r;exact .inl r;obtain⟨i,f⟩:=Zfo u;have x:I (q.at k)=I (p.at k):=by have:=Zgb List.length<|e.iq k Z0;simpa using this
 have n:=(Zf3.1 f).1;have a:(q.at k)[i]?=J ((q.at k)[i]'Z0):=Zf4 _;have:=(e.gone k Z0 i o _ f a).1 d;rw[this]at a;exact .inr ⟨k,o,t,Zfc a,by rw[e.fst _ _ Z0];exact j,d,l⟩
def Z8P{l:Zh}{a:Int}{o d:Ob}(f:o∈l)(j:d∈l)(k:o≠d)(g:o.gone=xk/\o.target=a)(h:d.gone=xk/\d.target=a):2<=YX l a:=by
 have e:∀(y:Ob) (r:Zh),YX (y::r) a=(if y.gone=xk/\y.target=a then 1 else 0)+YX r a:=λy r=>by
  unfold YX;grind
 have one:∀ {l:Zh} {o:Ob},o∈l->o.gone=xk/\o.target=a->1<=YX l a:=λ{l o} f g=>by
  unfold YX;exact Zh4.2<|List.ne_nil_of_mem<|Zhn.2 ⟨f,by simp[g]⟩
 induction l with
 |nil=>simp at f
 |cons x l n=>
  grind
theorem Res.inj(r:Body h p)(u:Th h p){w w' v:Int}(a:Res h p w v)(b:Res h p w' v):w=w':=by
 have nz:∀ {k:Int} {o:Ob},(k=3\/k=4)->o∈p.at k->o.gone=xk->∃y∈p.H,o.target=fstL (Zu h) 1+y.Y:=λj g D=>by
  obtain⟨y,F,e,_⟩:=r.gone _ Z0 _ g D;grind
 obtain⟨rfl,rfl⟩|⟨k,o,j,g,M,n,N⟩:=a;obtain⟨rfl,_⟩|⟨G,B,f,d,H,q,K⟩:=b;rfl;omega;obtain⟨rfl,rfl⟩|⟨G,B,f,d,H,q,K⟩:=b;omega;have A:B.target=o.target:=Z0;obtain⟨y,F,e⟩:=nz j g n;have C:=u y F;rw[<-e]at C;unfold UE at C;by_cases t:k=G;subst t;by_cases z:o=B;simp_all;have:=Z8P g d z ⟨n,rfl⟩ ⟨q,A⟩;obtain rfl|rfl:=j;grind [Pts.kx];grind [Pts.ky];have one:∀ {l:Zh} {x:Ob} {a:Int},x∈l->x.gone=xk->x.target=a->1<=YX l a:=λ{l x a} L D A=>by
  unfold YX;exact Zh4.2<|List.ne_nil_of_mem<|Zhn.2 ⟨L,Ze7⟩
 have O:=one g n rfl;have P:=one d q A;obtain rfl|rfl:=j<;>obtain rfl|rfl:=f
 omega;grind [Pts.kx,Pts.ky];grind [Pts.kx,Pts.ky];omega
structure FwdTo (h:Hp) (p:Pts) (w v:Int) (g:Hp) (q:Pts):Prop where
 fwd:fwd h w=(v,g,0)
 body:Body g q
 eo:Th h p->Th g q
 ext:Ext h p g q
 vm:Gos g q v 1 2
 zero:v=0↔w=0
 iz:(Gos h p w 1 2/\v=w/\g=h/\q=p)\/Res g q w v
 tf:(g=h/\q=p)\/∃(k:Int) (o:Ob) (a n:Nat),(3<=k/\k<=4)/\o∈p.at k/\o.gone=xw/\o.Y=a/\o.size=n/\g=Yi h k a (n+1)/\q=p.mv k o (I h.H) (fstL (Zu h) 1+I h.H)/\v=ZM (Zu h) 1 (I h.H)
def Body.fg(r:Body h p)(l:h.aa<=I h.H){w:Int}(M:Gos h p w 1 2\/Gos h p w 3 4):∃v g q,FwdTo h p w v g q:=by
 by_cases C:w=0;subst C;exact⟨0,h,p,Gk r.bf,r,id,.refl h p,.inl rfl,Z1,.inr<|.inl ⟨rfl,rfl⟩,.inl ⟨rfl,rfl⟩⟩;have B:∃k o,1<=k/\k<=4/\o∈p.at k/\w=ZM (Zu h) k o.Y:=by
  obtain(G|⟨k,o,f,d,e⟩)|(G|⟨k,o,f,d,e⟩):=M;omega;grind;omega;grind
 obtain⟨k,o,k1,O,d,rfl⟩:=B;by_cases H:k<=2;exact⟨_,h,p,r.kj ⟨k1,H⟩ d,r,id,.refl h p,.inr ⟨k,o,Z0,d,rfl⟩,ZgX,.inl ⟨.inr ⟨k,o,Z0,d,rfl⟩,rfl,rfl,rfl⟩,.inl ⟨rfl,rfl⟩⟩;have f:3<=k/\k<=4:=Z0;cases j:o.gone;obtain⟨a,n,m,t,u,em,K,_⟩:=r.toTld.ob ⟨k1,O⟩ d;obtain⟨F,_⟩:=r.gt f d j t u;have e:=r.ext l f d j t u;have b:=r.move l f d j t u;have x:(⟨I h.H,o.size,o.M,xw,0⟩:Ob)∈(p.mv k o (I h.H)<|fstL (Zu h) 1+I h.H).H:=ZgO _<|.head _;have A:ZM (Zu h) 1 (I h.H)=ZM (Zu<|Yi h k a<|n+1) 1 (I h.H):=(e.fst 1 _<|.inl rfl).symm;exact⟨_,_,_,F,b,λz=>IJ r z l f d j t u,e,.inr ⟨1,_,.inl rfl,x,A⟩,iff_of_false (qH r.bf Z0) C,.inr<|.inr ⟨k,_,Z0,by rw[(Ji f o _ _).2.2.1];exact ZgM d,by rw[e.fst _ _ Z0,(J4 _ _ _).1],by rw[Uo rfl],by rw[Uo rfl];rfl⟩,.inr ⟨k,o,a,n,f,d,j,t,u,rfl,rfl,rfl⟩⟩;obtain⟨y,D,e,_⟩:=r.gone k f o d j;have L:2*o.target+1=ZM (Zu h) 1 y.Y:=by unfold ZM;omega
 have N:=r.toTld.gi D;refine⟨_,h,p,r.kh f d j,r,id,.refl h p,.inr ⟨1,y,.inl rfl,D,L⟩,?_,.inr<|.inr ⟨k,o,Z0,d,rfl,j,rfl⟩,.inl ⟨rfl,rfl⟩⟩;omega
end
end
section
def YL(h:Hp):Hp:=⟨h.base,h.cap,1-h.to,xw,0,[],[],h.H,h.ac,h.E⟩
def TW(g:Hp)(i:Nat):Hp:= {(fwd g<|(g.E[i]?).getD 0).2.1 with E:=(fwd g<|(g.E[i]?).getD 0).2.1.E.set i (fwd g<|(g.E[i]?).getD 0).1}
def Xf(g:Hp):Nat->Hp
 |0=>g
 |i+1=>TW (Xf g i) i
def Wa(g:Hp):Hp:=if 0<(I g.H) then {g with Z:=xk}else {g with Z:=xw,ah:=[],aj:=[]}
def Wr(h:Hp):Hp:=Wa<|Xf (YL h)<|I h.E
def US(h:Hp):Hp×Int:=if YI h=xw then(Hp.zero,1)else if h.Z then(Hp.zero,10)else(Wr h,0)
def Stands.ah{ws:Z8}{o:Ob}(s:Stands ws xw o):Stands ws xk o:=by
 obtain⟨w,f,a⟩:=s.word;have d:o.gone=xw:=by
  cases d:o.gone;rfl;rw[if_pos d]at a;cases a.1
 refine⟨s.iy,s.shape,s.aw,s.gd,w,f,?_⟩;rw[if_neg (by simp[d])]at a⊢;exact⟨λ_=>Ew (by rw[a.2.1]),a.2⟩
def Tiles.ah{ws:Z8}:∀ {a:Nat} {l:Zh},Tiles ws xw a l->Tiles ws xk a l
 |_,[],h=>h
 |_,_::_,h=>⟨h.1,h.2.1.ah,Tiles.ah h.2.2⟩
def Pv{l:Zh}(h:∀o∈l,o.gone=xw):Y1 l=Wx l:=by
 have:=DQ l;have:Az l=0:=Z8K λo a=>by rw[h o a];rfl
 omega
def Tr(p:Pts):Pts:=⟨[],[],p.H,p.ac⟩
section
variable {h:Hp}{p:Pts}
def Ao(h:Hp)(k a:Int)(d:k=1\/k=2):ZM (Zu<|YL h) (k+2) a=ZM (Zu h) k a:=by
 obtain rfl|rfl:=d;show 2*(h.base+(1- (1-h.to))*h.cap+a)+1=2*(h.base+h.to*h.cap+a)+1;rw[show 1- (1-h.to)=h.to by omega];show 2*(h.base+(1- (1-h.to))*h.cap+(h.cap-I h.ac)+a)+1=2*(h.base+h.to*h.cap+(h.cap-I h.ac)+a)+1;rw[show 1- (1-h.to)=h.to by omega]
def Am{w:Int}(d:Gos h p w 1 2):Gos (YL h) (Tr p) w 3 4:=by
 obtain rfl|⟨k,o,f,a,rfl⟩:=d;exact .inl rfl;obtain rfl|rfl:=f;exact .inr ⟨3,o,.inl rfl,a,(Ao h 1 _<|.inl rfl).symm⟩;exact .inr ⟨4,o,.inr rfl,a,(Ao h 2 _<|.inr rfl).symm⟩
def G3(r:Rt h p)(hc:h.Z=xw):Body (YL h)<|Tr p:=by
 have M:=Ww.1 r.bf;have l:=r.ak 1 Z0;have q:=r.ak 2 Z0;simp only[Vg,qp,Pts.mq,Pts.ue]at l q;refine⟨⟨Ww.2 ?_,λk x=> ?_⟩,λk x o d g=> ?_,λk x o d g j u w y=> ?_,?_⟩;have A:(Zu h).cap=h.cap:=rfl;have B:(Zu h).base=h.base:=rfl;have C:(Zu h).to=h.to:=rfl;have D:(Zu h).H=I h.H:=rfl;have F:(Zu h).ac=I h.ac:=rfl;simp only[Zu,YL,Zgc];omega;have f:k=1\/k=2\/k=3\/k=4:=Z0;obtain rfl|rfl|rfl|rfl:=f;exact Zf9 0;exact Zf9 0;exact l.ah;exact q.ah;have f:k=3\/k=4:=Z0;obtain rfl|rfl:=f;have:=l.cw o d;rw[g]at this;cases this;have:=q.cw o d;rw[g]at this;cases this;have f:k=1\/k=2\/k=3\/k=4:=Z0;obtain rfl|rfl|rfl|rfl:=f;cases d;cases d;have:=r.ptr 1 Z0 o d g j u w y;obtain⟨a,n,m,G,H,em,t,_⟩:=r.toTld.ob (k:=1) Z0 d;simp only[Vg]at t;unfold XZ at this⊢;rw[if_neg Z0,if_neg (by rw[(r.rest hc).1];omega)]at this;rw[if_pos Z0];exact Am this;have:=r.ptr 2 Z0 o d g j u w y;unfold XZ at this⊢;rw[if_neg Z0,if_neg Z0]at this;rw[if_pos Z0];exact Am this;have K:=l.sum<|Zga _;have L:=q.sum<|Zga _;have w1:=Pv l.cw;have w2:=Pv q.cw;have z:=r.room;simp only[Xb,Tr,YL,Zgc];omega
structure FlipI (h:Hp) (p:Pts) (i:Nat) (g:Hp) (q:Pts):Prop where
 body:Body g q
 eo:Th g q
 ext:Ext (YL h) (Tr p) {g with E:=h.E} q
 len:I g.E=I h.E
 rest:∀j,i<=j->g.E[j]?=h.E[j]?
 ta:∀j:Nat,j<i->∀w v,h.E[j]?=J w->g.E[j]?=J v->Gos g q v 1 2/\Res g q w v
def Body.E(r:Body h p)(l:Z8):Body {h with E:=l} p:=⟨⟨r.bf,r.ak⟩,r.gone,r.ptr,r.room⟩
def An(r:Rt h p){i:Nat}(a:i<xq h.E){g:Hp}{q:Pts}(I:FlipI h p i g q):Gos g q h.E[i] 3 4:=I.ext.iw (i:=3) (j:=4) Z0 Z0<|Am<|r.E _<|Zfq a
def G7(r:Rt h p){i:Nat}(y:i<xq h.E){g:Hp}{q:Pts}(I:FlipI h p i g q){v:Int}{g':Hp}{t:Pts}(f:FwdTo g q (h.E[i]) v g' t):FlipI h p (i+1) (TW g i) t:=by
 have B:g.E[i]?=J h.E[i]:=by rw[I.rest i<|Zf9 _];exact Zf4 y
 have O:=An r y I;have e:TW g i= {g' with E:=g'.E.set i v}:=by
  unfold TW;rw[B,Zfw,f.fwd]
 have x:g'.E=g.E:=f.ext.E;have l:Res g' t h.E[i] v:=by
  obtain⟨K,C,P,Q⟩|B:=f.iz;obtain d|⟨k,o,S,N,D⟩:=O;exact .inl ⟨d,C.trans d⟩;obtain d|⟨T,W,M,A,F⟩:=K;exact .inl ⟨d,C.trans d⟩;obtain⟨R,_⟩:=I.body.toTld.inj Z0 Z0 N A<|D.symm.trans F;omega;exact B
 rw[e];refine⟨f.body.E _,f.eo I.eo,I.ext.trans ⟨f.ext.H,f.ext.ac,f.ext.base,f.ext.cap,f.ext.rh,f.ext.Z,f.ext.aa,rfl,f.ext.ss,f.ext.ou,f.ext.gk,f.ext.gj,f.ext.iq,f.ext.gone,f.ext.room⟩,?_,λj L=> ?_,λj L w u a n=> ?_⟩;simp only[Zh5,x];exact I.len;simp only;rw[Zg6 Z0,x];exact I.rest j Z0;simp only at n;by_cases z:j=i;subst z;rw[Zgd (by rw[x,I.len];exact y)]at n;cases n;rw[Zf4 y]at a;cases a;exact⟨f.vm,l⟩;rw[Zg6 Z0,x]at n;obtain⟨G,H⟩:=I.ta j Z0 w u a n;exact⟨(show Gos g' t u 1 2 from f.ext.iw Z0 Z0 G),(show Res g' t w u from H.ext f.ext)⟩
def G6(r:Rt h p){i:Nat}(j:i<xq h.E){g:Hp}{q:Pts}(I:FlipI h p i g q):(∃v d a,FwdTo g q (h.E[i]) v d a)/\∃a,FlipI h p (i+1) (TW g i) a/\(fwd g<|(g.E[i]?).getD 0).2.2=0:=by
 have l:g.E[i]?=J h.E[i]:=by rw[I.rest i<|Zf9 _];exact Zf4 j
 have k:g.aa<=xq g.H:=by
  have:g.aa=0:=I.ext.aa;omega
 obtain⟨v,d,a,f⟩:=I.body.fg k<|.inr<|An r j I;exact⟨⟨v,d,a,f⟩,a,G7 r j I f,by rw[l,Zfw,f.fwd]⟩
def Ap(r:Rt h p)(hc:h.Z=xw):∀i,i<=xq h.E->∃q,FlipI h p i (Xf (YL h) i) q
 |0,_=>⟨Tr p,G3 r hc,λo d=>(by cases d),.refl _ _,rfl,λ_ _=>rfl,λj k=>Z0⟩
 |i+1,g=>by
  obtain⟨q,I⟩:=Ap r hc i Z0;obtain⟨_,f,a,_⟩:=G6 r Z0 I;exact⟨f,a⟩
def Al(r:Rt h p)(hc:h.Z=xw){g:Hp}{q:Pts}(I:FlipI h p (xq h.E) g q):Rt (Wa g) (if 0<(xq g.H) then q else⟨[],[],[],[]⟩)/\(¬0<xq g.H->g.H=[]/\q.H=[]/\q.ac=[]/\∀w∈g.E,w=0):=by
 have t:g.aa=0:=I.ext.aa;have f:g.ac=[]:=I.ext.ac;have y:q.ac=[]:=I.ext.gj;have d:∀w∈g.E,Gos g q w 1 2:=λw A=>by
  obtain⟨j,D⟩:=Zfo A;have u:=(Zf3.1 D).1;rw[I.len]at u;exact(I.ta j u _ w (Zf4 u) D).1
 have F:xq g.E<=16:=by rw[I.len];exact r.fk
 by_cases x:0<xq g.H;refine⟨?_,λh=>absurd x h⟩;rw[if_pos x];unfold Wa;rw[if_pos x];have b:=I.body;exact⟨⟨⟨b.bf,b.ak⟩,b.gone,b.ptr,b.room⟩,F,by show 0<=g.aa;omega,by show g.aa<=xq g.H;omega,λ_=>(by show g.aa<xq g.H;omega),λh=>Zel,λ_=>I.eo,d⟩;have a:g.H=[]:=ZgY.1 Z0;have z:q.H=[]:=by
  have:=I.body.ak 1 Z0;simp only[Vg,Pts.mq,a]at this;exact this.nil
 have G:∀w∈g.E,w=0:=λw A=>by
  obtain h|⟨k,o,B,l,_⟩:=d w A;exact h;obtain rfl|rfl:=B;simp only[Pts.mq,z]at l;cases l;simp only[Pts.ue,y]at l;cases l
 refine⟨?_,λ_=>⟨a,z,y,G⟩⟩;rw[if_neg x];unfold Wa;rw[if_neg x];have u:=Ww.1 I.body.bf;have n:∀k,(⟨[],[],[],[]⟩:Pts).at k=[]:=λk=>by unfold Pts.at;split<;>(try split)<;>(try split)<;>rfl
 have C:∀k,Zx {g with Z:=xw,ah:=[],aj:=[]} k=[]:=λk=>by unfold Zx;simp only[a,f];split<;>(try split)<;>(try split)<;>rfl
 refine⟨⟨⟨Ww.2 ?_,λk B=> ?_⟩,λk B o l=> ?_,λk B o l=> ?_,?_⟩,F,by show 0<=g.aa;omega,by show g.aa<=xq g.H;omega,λh=>Zel,λ_=>⟨by show g.aa=xq g.H;rw[a,t];rfl,rfl,rfl⟩,λh=>Zel,λw A=>.inl<|G w A⟩;simp only[Zu,Zgc]at u⊢;omega;rw[n,C];exact Zf9 _;rw[n]at l;cases l;rw[n]at l;cases l;show(xq g.H:Int)+xq g.ac+Xb ⟨[],[],[],[]⟩<=g.cap;rw[a,f];simp only[Zu]at u;simp[Xb,Y1];omega
end
end
end Vm
end
