import Derived.Conc.CrowdStepC
import Derived.Listen
import Derived.Test.YtimfmcffdgpecaaGreatChecked
import Derived.Test.YtimfmcffdgpecaaGreatSMoveKeeps2
set_option linter.unusedSimpArgs false
set_option linter.unusedVariables false
set_option linter.defProp false
open Option renaming some→J,none→U
open Bool renaming true→xk,false→xw
open Go renaming undef→xy
open List renaming length→I
open Array renaming size→xz
open Go.World renaming heap→xj
open List renaming length→xq
open Array renaming size→xz
open Go.World renaming heap→xj
theorem ZgH{p:Prop}(h:p:=by simp_all[eval,Option.bind_eq_some_iff]):p:=h
theorem ZgS{p:Prop}(h:p:=by simpa using a):p:=h
theorem ZgF{p:Prop}(h:p:=by rw[List.getElem?_map,List.getElem?_eq_getElem n];rfl):p:=h
theorem ZgM{p:Prop}(h:p:=by rw[←a3];exact(List.getElem?_eq_some_iff.1 T).1):p:=h
theorem ZgP{p:Prop}(h:p:=by simp only[eval];rw[h u (by simp[E.asks])]):p:=h
theorem Zgg{p:Prop}(h:p:=by simp only[eval];rw[Yd a fun j p=>h j (by simp[E.asks,p]),Yd b fun j p=>h j (by simp[E.asks,p])]):p:=h
theorem Zgh{p:Prop}(h:p:=by simp only[eval];rw[Yd a fun j p=>h j (by simp[E.asks,p])]):p:=h
theorem Zgk{p:Prop}(h:p:=by simp only[eval];rw[Yd a fun j p=>h j (by simp[E.asks,p]),Yd b fun j p=>h j (by simp[E.asks,p]),Yd d fun j p=>h j (by simp[E.asks,p])]):p:=h
theorem Zgx{p:Prop}(h:p:=by simp only[eval];rw[SQ l fun j p=>h j (by simp[E.asks,p])]):p:=h
theorem ZgW{p:Prop}(h:p:=by cases b<;>simp[V.same]at h):p:=h
theorem Zgz{p:Prop}(h:p:=by simp_all[XL,Tq,Bool.or_true]):p:=h
theorem ZgE{p:Prop}(h:p:=by simp_all[XL,Tq,Bool.true_or,Bool.or_true]):p:=h
theorem Z2{p:Prop}(h:p:=by kernel_rfl):p:=h
def Zle:=@Nat.div_lt_iff_lt_mul
def Zks:=@Nat.mod_lt
def ZjS:=@List.isEmpty_iff
def Zj5:=@List.map_nil
def Zlk:=@Nat.mul_le_mul
def Zla:=@List.length_replicate
def ZjR:=@List.mem_range
def Zht:=@Go.RowKit.Below.heap_alloc
def Zi8:=@List.nil_append
def Ziq:=@Go.World.ownsRow_nil
def Zls:=@ne_eq
def Zio:=@Array.toList_inj
def Zkx:=@Go.MapKept.sameNow_of_keys
def ZkG:=@Go.MapKept.run_checkKey
def Zkw:=@Go.MapKept.run_findKey
def ZiT:=@Go.MapKept.run_getObj_map
def Zlx:=@not_or
def Zk5:=@List.mem_filterMap
def Zjw:=@List.map_map
def ZiL:=@List.not_mem_nil
def Zk9:=@or_false
def Zkt:=@bne_iff_ne
def Zjy:=@Array.length_toList
def Zj4:=@Go.setRow_other
def Zll:=@Go.setRow_heap
def ZiO:=@List.length_singleton
def ZhP:=@List.getElem?_eq_none
def ZiB:=@List.mem_or_eq_of_mem_set
def ZiG:=@List.getElem?_set_self
def Zin:=@List.getElem?_set_ne
def Zkc:=@Bool.not_eq_false
def ZkB:=@beq_eq_false_iff_ne
def Zjg:=@List.length_drop
def Zka:=@Go.MapKept.run_setObj_map
def ZhT:=@Array.getElem?_modify
def ZiR:=@List.any_eq_true
def Zjp:=@List.contains_eq_mem
def ZjU:=@Go.Calls.mono
def Zl2:=@List.reverse_singleton
def Zlc:=@List.singleton_append
def Zl3:=@Option.map_eq_none_iff
def ZiW:=@List.filterMap_cons
def ZkO:=@List.getElem?_zip_eq_some
def Zjq:=@List.getElem?_zipIdx
def Zjd:=@Array.getElem?_append_left
def Zku:=@Array.getElem?_append_right
def Zjz:=@List.getElem?_cons_zero
def ZjN:=@Bool.true_and
def ZjM:=@List.mem_iff_getElem?
def Zk4:=@List.mem_filter
def Zl6:=@Go.mem_ready
def Zkk:=@List.length_filter_le
def ZjC:=@List.mem_flatMap
def Zij:=@List.mem_append_left
def ZkR:=@Option.isNone_iff_eq_none
def ZjK:=@Go.Frame.finish_at
def ZjT:=@Nat.lt_succ_self
def Zlf:=@Nat.le_max_left
def Zj8:=@Iff.rfl
def Zkj:=@Array.getElem?_mapIdx
def Zk3:=@List.getElem?_cons_succ
section
namespace Vm
open Go
open Go.RowKit (Below)
theorem AU{k l}(a:∀x∈l,x.an k)(h:0<k){i c}(f:(flat l)[i]?=J c):∃q j z,l[q]?=J z/\j<k/\i=q*k+j/\z.cells[j]?=J c:=by
 have d:i<I l*k:=by rw[<-TW a];exact(Zh9.1 f).1
 have o:i / k<I l:=by rw[Zle h];exact d
 have g:=Zks i h;have n:=Nat.div_add_mod i k;refine⟨i / k,i%k,l[i / k],Z1,g,Zgc,?_⟩;rw[<-Vt a (Zh8 o) _ g,show i / k*k+i%k=i from by grind];exact f
section
variable {c:Ctx}{B:Nat}{G:Nat->Prop}{s:St}{a:Act}{w w':World}{h:GH}{g:Gam}{C:ZG}
theorem Kw{P a}(d:UU P a=xk):∃i z,P.info? a=J i/\i.zero=J z/\z.cells.size=i.size/\0<i.size/\i.bytes<=32768/\P.cellsOf a=i.size:=by
 unfold UU at d;split at d;rename_i i f;split at d;simp_all[Zhb,Zi2,ZhG,Program.cellsOf];grind;grind
theorem Ci{B B' e k n v xs}(d:w.ownsRow B' e k v n xs)(h:B<=B'):w.ownsRow B e k v n xs:=by
 refine⟨d.1,?_⟩;obtain j|⟨g,cap,a,rfl,f,r⟩:=d.2;grind;exact .inr ⟨g,cap,a,rfl,Z0,r⟩
theorem C1(a:Ok B G w h)(g:w.grownBy w' U){R e sh l v xs}(he:eval s e=J (.sl l))(hk:0<c.P.cellsOf R)(r:∀x∈l,x.an<|c.P.cellsOf R)
  (z:w'.ownsRow (xz<|xj w) R (c.P.cellsOf R) v (I l) xs) (Y:∀(i:Nat) C,(flat l)[i]?=J C->∃u,xs[i]?=J u/\Rd w (h.ext sh) C u)
  {S k es} (O:TH c S R e sh=J (k,es)) tm d (hd:S=J d):PRes c B G s w h tm d k v w':=by
 subst hd;unfold TH at O;have A:=Ci z a.base;have W:=Z3E a sh;simp only at O;split at O
 .rename_i o;simp[Zhb,ZjS]at o;obtain⟨_,rfl⟩:=o;simp[Zh7,Zho]at O;obtain⟨rfl,rfl⟩:=O;have Z:∀ {h':GH},(∀b,h.F b->h'.F b)->∀(i:Nat) C,(flat l)[i]?=J C->∃u,xs[i]?=J u/\Rd w' h'.F C u:=by
   intro h' hF i C N;let⟨u,hu,hr⟩:=Y i C N;exact⟨u,hu,hr.F.keep (Dq a g a.bz) hF⟩
  cases hv:v.ownBlock with
  |none=>
   refine⟨{F:=h.F,bl:=λt j=>if t=d then U else h.bl t j,K:=h.K},⟨QS a g,λb f _=>g.block b f Z1,Z1,λt ht _=> ?_,λt ht=> ?_,Z1,rfl⟩,
    ⟨ZhD a.base g.size,λb f=>Zhj (a.bz b f) g.size,a.cz,a.fj,λt j b f=> ?_,λt j u q b f H=> ?_,λb f=>Zhj (a.cx b f) g.size,λt j b f=> ?_,a.fk⟩,.sl l,he,.inl ⟨l,xs,rfl,hk,r,A,Zgc,Zgd⟩⟩
   simp_all;simp_all;simp only at f;split at f;cases f;let⟨L,M,h3⟩:=a.aw t j b f;exact⟨L,Zhj M g.size,h3⟩
   .simp only at f H;split at f<;>split at H<;>first|(cases f;done)|(cases H;done)|exact a.inj t j u q b f H
   simp only at f;split at f;cases f;exact a.cp t j b f
  |some n=>
   let⟨L,M⟩:=z.lt n hv;let⟨y,Q⟩:=jK a g d 1 L M;exact⟨_,Q,y,.sl l,he,.inl ⟨l,xs,rfl,hk,r,A,by grind [GH.ff],Z λ_ f=>f⟩⟩
 simp[Zh7,Zho]at O;obtain⟨rfl,rfl⟩:=O;obtain⟨rfl,hn⟩|⟨n,cap,D,rfl,L,hh,X,T,a0,a1⟩:=z.2;have hl:l=[]:=Zgd;subst hl
 refine⟨h,⟨QS a g,λb f _=>g.block b f Z1,Z1,Z1,Z1,Z1,rfl⟩,
  ⟨ZhD a.base g.size,λb f=>Zhj (a.bz b f) g.size,a.cz,a.fj,λt j b f=> ?_,a.inj,λb f=>Zhj (a.cx b f) g.size,a.cp,a.fk⟩,.sl [],he,.nil _ _ Z0⟩
 let⟨L,M,h3⟩:=a.aw t j b f;exact⟨L,Zhj M g.size,h3⟩;have M:n<xz (xj w'):=Zgc;let⟨y,Q⟩:=ZaS a g [d] [d] L M;refine⟨_,Q,y,.sl l,he,.sl l n 0 cap _ (λi=>D.getD i xy) X T (.inl<|.inr rfl) r (λi N=> ?_) λi C N=> ?_⟩;rw[ZhZ,Zhl w' n i D R _ hh];have:i<D.size:=by rw[a0];exact Zhj N<|ZhS _ X
 simp_all;let⟨u,hu,hr⟩:=Y i C N;have a2:D.getD i xy=u:=by
  rw[<-a1,ZhL]at hu;split at hu;simp_all;simp at hu
 rw[a2];refine hr.keep (Dq a g W) λb f=> ?_;obtain f|⟨p,hp,i,N⟩:=f;exact .inl<|.inl f;exact .inr ⟨p,hp,i,N⟩
theorem MN(u:RelG c B G s a w h g)(q:holds s<|ZI c C){fl ag n}(t:n≠0):∀ {l} {d:List E×List Nat},Lr g C fl l=J d->∀ {zs},YG s (d.1.map<|V8 ag n)=J zs->
  I zs=I l/\∀(i:Nat) x,l[i]?=J x->∃z,zs[i]?=J z/\(∀l,z≠.aq l)/\(ag=xk->I z.cells=n)/\(ag=xw->z.one=xk)/\Rd w (h.ext d.2) z (a.eval x)
 | [],d,j,zs,k=>by
   simp[Lr,Zh7]at j;subst j;simp[Zj5,YG,Zh7]at k;subst k;exact⟨rfl,Z1⟩
 |x::l,d,j,zs,k=>by
  simp only[Lr,Zh6,Zha]at j;obtain⟨S,M,b,f,rfl⟩:=j;simp[ZhN,YG,Zh6,Zha]at k;obtain⟨z,o,R,p,rfl⟩:=k;let⟨K,L⟩:=MN u q t f p;let⟨k1,N,O,P⟩:=Bx u q M t o;refine⟨by simp[K],λi y r=> ?_⟩;cases i with
  |zero=>
   simp at r;subst r;exact⟨z,Z1,k1,N,O,P.mono λb f=>GH.kz f⟩
  |succ i=>
   let⟨Q,T,A,D,F,H⟩:=L i y Zgc;exact⟨Q,Zgc,A,D,F,H.mono λb f=>GH.iu f⟩
theorem Z81(hr:RelG c B G s a w h g)(hC:holds s<|ZI c C){T n}{parts:Array (Nat×Operand)}{a2 k es}(f:CH c g C a2 T n parts.toList=J (k,es))(b4:∀e∈es,∃z,eval s e=J z)tm d(hd:a2=J d):
  ∃v w',(Instr.buildSlice T n<|parts.map λ(i,x)=>(i,a.eval x)).run c.P w=.ok v w'/\PRes c B G s w h tm d k v w':=by
 unfold CH at f;split at f;rename_i A hT;have b2:=JS hT;simp only[Zh6]at f;let⟨ops,a5,f⟩:=f;split at f;rename_i S;let⟨K,hn,d5,b3,Q⟩:=S;let⟨i,z,hi,c1,d8,h0,d0,W⟩:=Kw b3;have he:∃zz,eval s (.lit<|ops.1.map<|V8 (Y8 c.P A)<|c.P.cellsOf A)=J zz:=by
  unfold TH at f;subst hd;simp only at f;split at f<;>(simp only[Zh7,Zho]at f;obtain⟨_,rfl⟩:=f;exact b4 _<|List.Mem.head _)
 let⟨zz,a1⟩:=he;have b0:=a1;simp only[eval,Zha]at a1;obtain⟨zs,a9,rfl⟩:=a1;let⟨hl,hx⟩:=MN hr hC Z0 a5 a9;have L:I parts.toList=n:=by
  have:=Zii List.length K;simpa using this
 have b6:I zs=n:=by rw[hl,ZhM,L]
 have Z:∀q (p:Nat×Operand),parts.toList[q]?=J p->p.1=q:=by
  intro q p N;have h1:(parts.toList.map (·.1))[q]?=J p.1:=Zgc;rw[K,List.getElem?_range]at h1;simp_all;grind
 have X:∀z,(∀l,z≠V.aq l)->(Y8 c.P A=xk->I z.cells=c.P.cellsOf A)->(Y8 c.P A=xw->z.one=xk)->I z.cells=c.P.cellsOf A:=by
  intro z h1 h2 h3;obtain Q|Q:=Q;grind;grind [Y8,TF]
 have u:∀(q:Nat) p,parts.toList[q]?=J p->∃z,zs[q]?=J z/\z.an (c.P.cellsOf A)/\(a.eval p.2).cells.size=c.P.cellsOf A/\∀j ck,z.cells[j]?=J ck->Rd w (h.ext ops.2) ck ((a.eval p.2).cells.getD j xy):=by
  intro q p N;let⟨z,O,e2,e3,e4,e5⟩:=hx q p.2 Zgc;let⟨s1,s2,s3⟩:=e5.cells e2;have hc:=X z e2 e3 e4;exact⟨z,O,⟨hc,s2⟩,by rw[s1,hc],s3⟩
 have H:∀x∈zs,x.an<|c.P.cellsOf A:=by
  intro x b9;let⟨q,N⟩:=ZhH b9;have t:q<I parts.toList:=Zgc;let⟨z,O,e2,_⟩:=u q _<|Zh8 t;rw[N]at O;cases O;exact e2
 have D:((Array.range<|n*i.size).map<|λx=>z.cells[x%z.cells.size]!).size=n*i.size:=Z1
 let⟨R,hR,a4,_,a3⟩:=AN (λq=>J (q*i.size,i.size)) (parts.toList.map λp=>(p.1,a.eval p.2)) ((Array.range<|n*i.size).map<|λx=>z.cells[x%z.cells.size]!) (by
  intro p f;obtain⟨p',Y,rfl⟩:=Zhq.1 f;let⟨q,N⟩:=ZhH Y;let⟨_,_,_,e3,_⟩:=u q p' N;have a6:=Z q p' N;have t:q<n:=Zgc;refine⟨p'.1*i.size,Zgc,?_⟩;simp only;rw[e3,W,a6,D,<-Zit];exact ZhS _ t)
 rw[D]at a4;have c7:¬(n*i.size>2 ^ 24):=by
  have:n*i.size<=256*256:=Zlk Z0 Z0;omega
 have F:n*i.size=0\/n*i.size≠0:=Z0;have a7:(Instr.buildSlice T n<|parts.map λ(i,x)=>(i,a.eval x)).run c.P w=.ok (.slice (J ⟨xz<|xj w,0,U⟩) n n) (w.alloc<|.cells R A):=by
  have a0:¬(16777216<n*i.size):=Z0;obtain F|F:=F;have b7:n=0:=by
   obtain hh|hh:=Nat.mul_eq_zero.1 F;exact hh;omega
  subst b7;have b8:parts=#[]:=by
   have:parts.size=0:=ZgV;exact Zig this
  subst b8;have c8:R=#[]:=by
   have:R.size=0:=by simpa using a4
   exact Zig this
  simp_all[Instr.buildSlice,ZhQ,Um,Instr.fill,newRow,Array.range_zero'];simp[Instr.buildSlice,ZhQ b2,Um hi,a0,F,js hi c1,hR,newRow]
 refine⟨_,_,a7,?_⟩;have hg:=Ziu w (.cells R A) U;have M:=World.ownsRow_lit (base:=xz<|xj w) (e:=A) (size:=c.P.cellsOf A) w R n Z0 (by grind [maxLen]) Zgc;rw[<-b6]at M⊢;refine C1 hr.ok hg b0 Z0 H M (λj ck hj=> ?_) f tm d hd;obtain⟨q,r,y,N,d7,rfl,c0⟩:=AU H Z0 hj;have t:q<I parts.toList:=Zgc;let⟨y',O,e2,e3,e4⟩:=u q _<|Zh8 t;rw[N]at O;cases O;have a6:=Z q _<|Zh8 t;obtain⟨pre,b1,d6⟩:∃pre b1,parts.toList=pre++parts.toList[q]::b1:=List.append_of_mem<|Zhx t;have a8:(a.eval parts.toList[q].2).cells.size=i.size:=by rw[e3,W]
 have b5:=a3 ((parts.toList.take q).map λp=>(p.1,a.eval p.2)) (parts.toList[q].1,a.eval parts.toList[q].2) ((parts.toList.drop<|q+1).map λp=>(p.1,a.eval p.2)) (by
  grind [List.drop_eq_getElem_cons,List.take_append_drop]) (q*i.size) Zgc (by
  intro p f o n' ho;obtain⟨p',Y,rfl⟩:=Zhq.1 f;let⟨m,hm⟩:=ZhH Y;rw[ZhF]at hm;have:=Z _ _ hm;simp only[Zh7,Zho]at ho;obtain⟨rfl,rfl⟩:=ho;left;simp only;rw[a8,this,<-Zit];grind) r Zgc
 refine⟨(a.eval parts.toList[q].2).cells.getD r xy,?_,e4 r ck c0⟩;rw[Zis,W,b5];simp only[Zhd];grind;grind;grind
theorem Zb1 z n(a:0<z.size)j(d:j<n):(madeCells z n).toList[j]?=z[j%z.size]? :=by
 simp_all[Zks,madeCells]
theorem Z9V(l:RelG c B G s a w h g){n m}(d:Dp n m=xk){k q}(j:a.eval n=.int k q):∃f,a.eval m=.int f q:=by
 unfold Dp at d;split at d;simp_all;simp_all[Zi2,Act.eval,Value.int.injEq];cases d
theorem Z8c(hr:RelG c B G s a w h g)(hC:holds s<|ZI c C){T n m X k es}(o:CP c g C X T n m=J (k,es))(b0:∀e∈es,∃z,eval s e=J z)tm d(hd:X=J d):
  ∃v w',(Instr.makeSlice T (a.eval n)<|a.eval m).run c.P w=.ok v w'/\PRes c B G s w h tm d k v w':=by
 unfold CP at o;split at o;rename_i t hT;have a6:=JS hT;simp only[Zh6]at o;let⟨R,hz,⟨e,sh⟩,he,o⟩:=o;split at o;rename_i F;simp only[Zhb,Zhr,Zi2]at F;let⟨⟨b7,a9⟩,A⟩:=F;let⟨i,z,hi,a3,d0,h0,a7,a8⟩:=Kw a9;let⟨i',z',Z,M,H,f⟩:=El hz;rw[hi]at Z;cases Z;rw[a3]at M;cases M;have b1:∃zz,eval s (.mk (if Y8 c.P t then .agg R else R.headD<|.agg []) e)=J zz:=by
  unfold TH at o;subst hd;simp only at o;split at o<;>(simp only[Zh7,Zho]at o;obtain⟨_,rfl⟩:=o;exact b0 _<|List.Mem.head _)
 let⟨zz,l⟩:=b1;have a5:=l;let⟨y,hy,b9⟩:=WT hr hC he;simp only[eval,hy,Zhk]at l;generalize c1:(if Y8 c.P t then V.agg R else R.headD<|.agg [])=zv at*;unfold L9 at l;split at l;rename_i ki q;split at l;rename_i hq;let⟨b5,b6⟩:=hq;obtain⟨q,rfl⟩:=Zhp b5;simp only[Zh7,Zhm]at l;subst l;have a0:q<=4294967296:=by simp only[Yc]at b6;omega
 have hn:=b9.int_eq;let⟨k',hm⟩:=Z9V hr b7 hn;rw[hn,hm];have hb:i.bytes*q<=281474976710656:=by
  have:=Zlk a7 a0;omega
 let⟨w',a1,L,hg⟩:=run_make_full (P:=c.P) w (xz<|xj w) T t i z i.size a6 hi a3 rfl ki k' q hb (by grind [maxLen]) Z0;refine⟨_,_,a1,?_⟩;have a4:zv.cells=R:=by
  rw[<-c1];obtain A|A:=A;rw[Zhi A];rfl;split;rfl;have h1:=A
  match R,h1,f,H with
  | [x],_,f,H=>
    simp only[List.headD_cons];let⟨x',Q,S⟩:=f 0 (z.cells[0]'Z0) Z1;grind [TF,At]
 have D:∀(j:Nat) (N:V),R[j]?=J N->∃u,z.cells[j]?=J u/\Vc u=J N:=by
  intro j N W;have b2:j<z.cells.size:=by rw[H];exact(Zh9.1 W).1
  let⟨x',Q,S⟩:=f j _<|Zi1 b2;rw[W]at Q;cases Q;exact⟨_,Z1,S⟩
 have c0:zv.an<|c.P.cellsOf t:=by
  refine⟨Zgd,λN Y=> ?_⟩;rw[a4]at Y;let⟨j,W⟩:=ZhH Y;let⟨u,_,S⟩:=D j N W;exact At S
 have K:∀x∈List.replicate q zv,x.an<|c.P.cellsOf t:=Zgd;rw[<-a8]at L;have O:w'.ownsRow (xz<|xj w) t (c.P.cellsOf t) (.slice (J ⟨xz<|xj w,0,U⟩) q q) (I<|List.replicate q zv) (madeCells z.cells<|q*c.P.cellsOf t).toList:=by rw[Zla];exact L
 refine C1 hr.ok hg a5 Z0 K O (λj N W=> ?_) o tm d hd;obtain⟨p,r,y',b3,c8,rfl,a2⟩:=AU K Z0 W;have b4:p<q:=by simpa using(Zh9.1 b3).1
 have b8:y'=zv:=Zgd;subst b8;rw[a4]at a2;let⟨u,hu,S⟩:=D r N a2;refine⟨u,?_,zT S _ _⟩;have c7:p*c.P.cellsOf t+c.P.cellsOf t<=q*c.P.cellsOf t:=by rw[<-Zit];exact ZhS _ b4
 grind [Zb1,Nat.mul_comm,Nat.mul_add_mod,Nat.mod_eq_of_lt];grind;grind;grind;grind
end
end Vm
namespace Vm
open Go
open Go.RowKit (Below)
open Go.MapKept (IsKey bytes_beq sameNow_of_keys run_checkKey run_findKey run_keyThatStays)
section
variable {c:Ctx}{B:Nat}{G:Nat->Prop}{s:St}{a:Act}{w w':World}{h:GH}{g:Gam}{C:ZG}
theorem Z9D{P t ty e i}(h:P.underlying t=J (.slice e))(f:P.info? e=J i){size v n xs}(a:w.ownsRow B e size v n xs)j:
  (Builtin.append_ #[t,t] ty #[v,.slice U 0 j]).run P w=.ok v w:=by
 obtain⟨rfl,rfl⟩|⟨g,cap,k,rfl,_,_,d,_⟩:=a.2;simp[Builtin.append_,ZhQ h,Go.sizeOf,typeInfo,f,Builtin.lenOf,Builtin.firstCells];simp[Builtin.append_,ZhQ h,Go.sizeOf,typeInfo,f,Builtin.lenOf,Builtin.firstCells,d,storeCells]
theorem Dk{P t ty e}(T:P.underlying t=J (.slice e))(a2:UU P e=xk){v n xs}(d:w.ownsRow B e (P.cellsOf e) v n xs)(hB:B<=xz (xj w))
  {Gy l y} (hy:Rd w Gy (.sl l) y) (hk:XA (P.cellsOf e) l=xk) (H:n+I l<=Yc):
  ∃Y w' a,(Builtin.append_ #[t,t] ty #[v,y]).run P w=.ok Y w'/\w'.ownsRow B e (P.cellsOf e) Y (n+I l) (xs++a)/\w.grownBy w' v.ownBlock/\
   (Y.ownBlock=v.ownBlock\/(w.grownBy w' U/\w'.ownsRow (xz<|xj w) e (P.cellsOf e) Y (n+I l) (xs++a)))/\
   (∀x∈l,x.an<|P.cellsOf e)/\∀(i:Nat) G,(flat l)[i]?=J G->∃u,a[i]?=J u/\Rd w Gy G u:=by
 obtain⟨i,z,D,hz,a8,h0,a0,O⟩:=Kw a2;have a6:=PA hk
 have S:(∃q,y=.slice U 0 q/\l=[])\/∃C q,∃a:List Value,y=.slice (J C) (I l) q/\I a=I l*P.cellsOf e/\(∀j u,a[j]?=J u->w.cell? (C.add j)=J u)/\(∀u∈a,u.oneCell'=xk)/\
   (∀x∈l,x.an<|P.cellsOf e)/\∀(i:Nat) (G:V),(flat l)[i]?=J G->∃u,a[i]?=J u/\Rd w Gy G u:=by
  cases hy with
  |nil C q hc=>
   obtain _|C:=C;simp;exact .inr ⟨C,q,[],rfl,Z1,Z1,Z1,Z1,λi G D=>by simp[flat]at D⟩
  |sl _ b o cap kk vs h1 h2 h3 X h5 h6=>
   refine .inr ⟨⟨b,o,U⟩,cap,(List.range<|I l*P.cellsOf e).map vs,rfl,Z1,?_⟩;by_cases Q:l=[];simp_all[flat];obtain⟨x,hx⟩:=List.exists_mem_of_ne_nil l Q;have a4:kk=P.cellsOf e:=by rw[<-(X x hx).1,a6 x hx]
   subst a4;have a5:=TW X;refine⟨λj u hj=> ?_,λu hu=> ?_,X,λi G D=> ?_⟩;grind [List.getElem?_eq_some_iff,Addr.add_lit];obtain⟨j,hj,rfl⟩:=Zhq.1 hu;have b2:=ZjR.1 hj;have hf:(flat l)[j]?=J ((flat l)[j]'Z0):=Z1;have M:=h6 j _ hf;rw[M.ir];obtain⟨x,hx,a1⟩:=Z3R hf;exact(X x hx).2 _ a1;grind
 obtain⟨q,rfl,rfl⟩|⟨C,q,a,rfl,Q,p,h1,A,K⟩:=S;refine⟨v,w,[],Z9D T D d q,Zgd,⟨rfl,rfl,rfl,Z0,Z1⟩,.inl rfl,Z1,λi G D=>by simp[flat]at D⟩;simp only[Yc]at H;have Z:n+I l<=maxLen:=by grind [maxLen]
 have F:(n+I l)*i.bytes<=140737488355328:=by
  have:(n+I l)*i.bytes<=4294967296*32768:=Zlk H a0;omega
 have R:I (xs++a)=(n+I l)*P.cellsOf e:=by rw[ZhY,d.1,Q,Nat.add_mul]
 have r:∀(f:Nat),f<n+I l->∀(row:Option Nat) (W:Array Value),W=xs.toArray++a.toArray->
   (w.drew.alloc<|.cells (W++Builtin.zeroCells z.cells (grownCap w (n+I l) f e- (n+I l))) e).ownsRow (xz<|xj w) e (P.cellsOf e)
    (.slice (J ⟨xz<|xj w,0,U⟩) (n+I l)<|grownCap w (n+I l) f e) (n+I l) (xs++a)/\
   w.grownBy (w.drew.alloc<|.cells (W++Builtin.zeroCells z.cells (grownCap w (n+I l) f e- (n+I l))) e) row:=by
  rintro f ho row W rfl;have a3:=grownCap_ge w (n+I l) f e;have N:grownCap w (n+I l) f e<=maxLen:=grownCap_le_maxLen w (n+I l) f e Z;refine⟨⟨R,.inr ⟨xz<|xj w,_,_,rfl,Z0,ZhB w.drew _,a3,N,?_,?_⟩⟩,⟨rfl,rfl,rfl,Z1,λk hk _=>Zht w.drew _ k hk⟩⟩;simp only[Array.size_append,ZiF,size_zeroCells,a8,d.1,Q,O,<-Nat.add_mul];simp_all;grind
 obtain⟨rfl,rfl⟩|⟨g,cap,b0,rfl,b1,hg,b3,N,a9,a7⟩:=d.2;have hx:xs=[]:=Zgd;subst hx;by_cases hm:I l=0;have hn:a=[]:=Zgd;subst hn;refine⟨.slice U 0 0,w,[],?_,Zgd,⟨rfl,rfl,rfl,Z0,Z1⟩,.inl rfl,A,K⟩;simp[Builtin.append_,ZhQ T,Go.sizeOf,typeInfo,D,Builtin.lenOf,hm,Builtin.firstCells,loadCells,loadCellsFrom];have M:=run_append_nil (P:=P) w t ty e i z T D hz C (I l) q a Zgc p Z0 Z0 Zgc;have h:=r 0 Z0;simp only[ZhZ,Zi8]at h⊢;obtain⟨g1,g2⟩:=h U a.toArray Z1;grind [Ci];by_cases L:n+I l<=cap;obtain⟨w',M,ho,h⟩:=run_append_fits (P:=P) w B t ty e i (P.cellsOf e) T D O.symm g n cap xs d C (I l) q a Q p h1 L;exact⟨_,_,a,M,ho,h,.inl rfl,A,K⟩;have holds:∀j u,xs[j]?=J u->w.cell? ((⟨g,0,U⟩:Addr).add j)=J u:=d.cells (g:=g) rfl;have M:=run_append_grow (P:=P) w t ty e i z T D hz ⟨g,0,U⟩ n cap xs Zgc holds C (I l) q a Zgc p Z0 Z0<|growslice_fits Z0 F;have h:=r cap Z0;obtain⟨g1,g2⟩:=h U _ rfl;exact⟨_,_,a,M,Ci g1 hB,(h _ _ rfl).2,.inr ⟨g2,g1⟩,A,K⟩
theorem QP{k x y z}(a:RH k x y=J z):∃l r,x=.sl l/\y=.sl r/\I l+I r<=Yc/\XA k r=xk/\z=.sl (l++r):=by
 unfold RH at a;split at a;simp_all;grind
theorem Z3W{x z}(a:AV x=J z):x=z/\∃l,z=.sl l/\∀y∈Vm.flat l,y.bp=xk:=by
 unfold AV at a;split at a;rename_i l;split at a;rename_i d;simp[Zh7]at a;exact⟨a,l,a.symm,Zgd⟩;grind;grind
theorem Gl(A:RelG c B G s a w h g)(q:holds s<|ZI c C){x j}(hx:YD g C x=J j){fl z}(d:eval s (SO fl j).1=J z):
  ∃o,Rd w o z (a.eval x)/\∀l,z=.sl l->∀(i:Nat) f u,(flat l)[i]?=J f->Rd w o f u->Rd w (h.ext (SO fl j).2) f u:=by
 obtain⟨y,F,n⟩:=WT A q Z0;unfold SO at d⊢;split;grind;rename_i r;rw[Zhg r]at d;split;rename_i k;rw[Zhi k]at d;simp[eval,F]at d;obtain⟨rfl,l,rfl,p⟩:=Z3W d;refine⟨_,n,λK t i f u H D=> ?_⟩;exact D.gn Zgc;grind
theorem Z7E{a d}(j:a=J d){h e sh k es}(f:TH c a h e sh=J (k,es))(g:∀e∈es,∃z,eval s e=J z):∃z,eval s e=J z:=by
 unfold TH at f;subst j;simp only at f;split at f<;>(simp[Zho]at f;obtain⟨_,rfl⟩:=f;exact g _<|List.Mem.head _)
theorem Z7X(L:RelG c B G s a w h g)(R:holds s<|ZI c C){T P ty x y l k es}(f:CD c g C l T P x y=J (k,es))(H:∀e∈es,∃z,eval s e=J z)Y d(S:l=J d):
  ∃v w',(Builtin.append_ #[T,P] ty #[a.eval x,a.eval y]).run c.P w=.ok v w'/\PRes c B G s w h Y d k v w':=by
 unfold CD at f;split at f;rename_i o Z;have D:=JS Z;split at f;rename_i n;obtain⟨rfl,p⟩:=n;split at f;rename_i hk;simp only[Zh6]at f;let⟨Q,hb,f⟩:=f;rw[Jy L R hk];have t:TH c l o (.app (.c<|.sl []) (SO (XM c.P o) Q).1<|c.P.cellsOf o) (SO (XM c.P o) Q).2=J (k,es):=by
  split at f;grind;exact f
 let⟨z,A⟩:=Z7E S t H;have a4:=A;simp[eval,Zhk,Zh6]at A;let⟨yy,O,A⟩:=A;obtain⟨l0,r,a2,rfl,W,N,rfl⟩:=QP A;let⟨G',M,F⟩:=Gl L R hb O;let⟨i,zz,hi,a5,a6,h0,a0,a1⟩:=Kw p;let⟨v',w',X,u,j,hg,a3,q,K⟩:=Dk (ty:=ty) D p (Ziq w (xz<|xj w) o _) Z0 M N Z0;refine⟨v',w',u,?_⟩;simp[ZhZ,Zi8]at j
 exact C1 L.ok hg Zgd Z0 q j (λi ck hi=>by
  grind) t Y d S
 grind;grind;grind
def V5(f:RelG c B G s a w h g)(d:holds s<|ZI c C){x b}(j:YD g C x=J b):=WT f d Z0
def PRun(c:Ctx)(B:Nat)(G:Nat->Prop)(s:St)(a:Act)(w:World)(h:GH)(o:Oper)(d:Nat)(k:TK):Prop:=
 ∃v w',(execOp a.eval o).run c.P w=.ok (.value v) w'/\PRes c B G s w h (λp=>a.tmps[p]?) d k v w'
theorem PRun.of{o d k m}(l:execOp a.eval o=(do pure (.value<|<-m)))(j:∃v w',m.run c.P w=.ok v w'/\PRes c B G s w h (λp=>a.tmps[p]?) d k v w'):PRun c B G s a w h o d k:=by
 let⟨v,w',g,f⟩:=j;exact⟨v,w',Zgd,f⟩
theorem Has.pr(j:Ok B G w h){o d k m}(l:execOp a.eval o=(do pure (.value<|<-m)))(g:Has c B s w h (λp=>a.tmps[p]?) d k m):PRun c B G s a w h o d k:=by
 let⟨v,f,n⟩:=g;grind [PRun.of,PRes.az]
theorem yd{s e aq_ o z}(h:eval s e=J (.agg aq_))(a:eval s (.ac e o)=J z):aq_[o]?=J z:=by
 simp_all[eval,Zhk,Y1,V.pc,Zh6,YV]
def VU(P:Program)(T:TypeId)(vs:Array Value)(o:Nat):Value:=if Y8 P T then .agg (vs.extract o<|o+P.cellsOf T)else vs.getD o xy
theorem Z44{vs:Array Value}{o n i}(a:i<n)(h:o+n<=vs.size):(vs.extract o<|o+n).getD i xy=vs.getD (o+i) xy:=by
 simp[Zl0];simp_all
theorem O3{P T vs o n q}(h:o+n<=vs.size)(d:q+P.cellsOf T<=n)(a:P.cellsOf T≠0):VU P T (vs.extract o<|o+n) q=VU P T vs (o+q):=by
 grind [VU,Z44]
theorem Z3B{P a b e}:∀d T o,Ur P a b d T o=J e->P.cellsOf T≠0/\(P.underlying T).isSome=xk
 |0,_,_,h=>by simp[Ur]at h
 |d+1,T,o,h=>by
  grind [Ur]
theorem P8{P s K L aq_ H xs ys G' G''}(O:eval s K=J (.agg aq_))(Q:eval s L=J (.agg H))(X:xs.size=I aq_)(Z:ys.size=I H)
  (hx:∀i c,aq_[i]?=J c->Rd w G' c (xs.getD i xy)) (Y:∀i c,H[i]?=J c->Rd w G'' c (ys.getD i xy)):∀d D T o e z,d<=D->o+P.cellsOf T<=xs.size->o+P.cellsOf T<=ys.size->Ur P K L d T o=J e->eval s e=J z->
  ∃r,(Op.equalIn (D+1) T (VU P T xs o)<|VU P T ys o).run P w=.ok r w/\z=.bool r
 |0,D,T,o,e,z,_,_,_,a,j=>by simp[Ur]at a
 |d+1,D,T,o,e,z,hD,R,S,a,j=>by
  simp[Ur]at a;split at a
  .rename_i k;split at a;case isFalse=>cases a
   simp[Zh7]at a;subst a;simp[eval,Zh6]at j;let⟨u,hu,v,hv,g⟩:=j;have p:=yd O (z:=u) (o:=o) ZgH;have A:=yd Q (z:=v) (o:=o) ZgH;have M:=hx o u p;have N:=Y o v A;have h:Y8 P T=xw:=by simp[Y8,k]
   simp only[VU,h,Zhu,Zif];generalize xs.getD o xy=vx at*;generalize ys.getD o xy=vy at*;cases M<;>cases N<;>simp[SP]at g<;>(try (simp at g;done))
   simp_all[Zh7,run_equalIn_bool]
  .rename_i q k;split at a;case isFalse=>cases a
   simp[Zh7]at a;subst a;simp[eval,Zh6]at j;let⟨u,hu,v,hv,g⟩:=j;have p:=yd O (z:=u) (o:=o) ZgH;have A:=yd Q (z:=v) (o:=o) ZgH;have M:=hx o u p;have N:=Y o v A;have h:Y8 P T=xw:=by simp[Y8,k]
   simp only[VU,h,Zhu,Zif];generalize xs.getD o xy=vx at*;generalize ys.getD o xy=vy at*;cases M<;>cases N<;>simp[Xi]at g<;>(try (simp at g;done))
   simp_all[Zh7,run_equalIn_int]
  .rename_i fs k;split at a;case isFalse=>cases a
   rename_i n;let⟨a0,h0,W⟩:=n;have h:Y8 P T=xk:=by simp[Y8,k]
   have F:P.fieldsOf T=fs:=by unfold Program.fieldsOf;rw[k]
   simp only[VU,h,Zi9];obtain⟨B,rfl⟩:∃B,D=B+1:=⟨D-1,Z0⟩
   have key:∀l e z,QT P (Ur P K L d) (P.cellsOf T) o l=J e->eval s e=J z->
     ∃r,(Op.eqFields (B+1) (xs.extract o<|o+P.cellsOf T) (ys.extract o<|o+P.cellsOf T) l).run P w=.ok r w/\z=.bool r:=by
    intro l;induction l with
    |nil=>
     intro e z a j;simp[QT,Zh7]at a;subst a;simp_all[eval,Zh7,Op.eqFields]
    |cons f l ih=>
     intro e z a j;simp only[QT]at a;split at a;case isFalse=>cases a
     rename_i hc;let⟨hn,ho⟩:=hc;simp[Zh6,Zha]at a;obtain⟨x,C,y,a1,rfl⟩:=a;simp[eval,Zh6]at j;let⟨zx,g,j⟩:=j;let⟨G,cu⟩:=Z3B d f.type _ C;obtain⟨t,ht,rfl⟩:=P8 O Q X Z hx Y d B f.type (o+f.offset) x zx Z0 Z0 Z0 C g;have p1:(part f.type (xs.extract o<|o+P.cellsOf T) f.offset).run P w=.ok (VU P f.type xs<|o+f.offset) w:=by
      rw[<-O3 R ho G];exact Dm (w:=w) (P:=P) cu G Zgd
     have p2:(part f.type (ys.extract o<|o+P.cellsOf T) f.offset).run P w=.ok (VU P f.type ys<|o+f.offset) w:=by
      rw[<-O3 S ho G];exact Dm (w:=w) (P:=P) cu G Zgd
     simp[Op.eqFields,hn,Zls,not_false_eq_true,Zi9,ZhV,p1,p2,ht,ZhU];cases t;simp_all[Je,eval,Zh7];simp_all[Je]
   obtain⟨r,hr,rfl⟩:=key _ e z a j;refine⟨r,?_,rfl⟩;have:=run_equalIn_struct w (B+1) T (xs.extract o<|o+P.cellsOf T) (ys.extract o<|o+P.cellsOf T) (by rw[F];exact k) W;rw[F]at this;exact this.trans hr
  cases a
theorem Gq{P s u w}:∀d T o e z,Ur P u w d T o=J e->eval s e=J z->∃q t C,eval s (.ac u q)=J t/\eval s (.ac w q)=J C
 |0,_,_,_,_,h,_=>by simp[Ur]at h
 |d+1,T,o,e,z,h,g=>by
  simp only[Ur]at h;split at h
  .split at h;case isFalse=>cases h
   simp only[Zh7]at h;subst h;simp only[eval,Zh6]at g;obtain⟨a,k,b,n,_⟩:=g;exact⟨o,a,b,by simpa only[eval,Zh6]using k,by simpa only[eval,Zh6]using n⟩
  .split at h;case isFalse=>cases h
   simp only[Zh7]at h;subst h;simp only[eval,Zh6]at g;obtain⟨a,k,b,n,_⟩:=g;exact⟨o,a,b,by simpa only[eval,Zh6]using k,by simpa only[eval,Zh6]using n⟩
  .rename_i A D;split at h;case isFalse=>cases h
   rename_i B;cases j:A.toList with
   |nil=>exact absurd j B.1
   |cons f l=>
    rw[j]at h;simp only[QT]at h;split at h;case isFalse=>cases h
    simp only[Zh6,Zha]at h;obtain⟨x,p,y,_,rfl⟩:=h;simp only[eval,Zh6]at g;obtain⟨F,r,_⟩:=g;exact Gq d _ _ _ _ p r
  cases h
theorem P9{P s F G e u v z C D T G' G''}(h:J0 P T F G=J e)(X:eval s F=J u)(Y:eval s G=J v)(A:Rd w G' u C)(B:Rd w G'' v D)(M:eval s e=J z):
  ∃r d f,C=.agg d/\D=.agg f/\(Op.equal T C D).run P w=.ok r w/\z=.bool r/\P.eqGuardType P.depth T=xw:=by
 unfold J0 at h;split at h;case isFalse=>cases h
 rename_i a;obtain⟨g,p⟩:=a;obtain⟨q,t,t',l,K⟩:=Gq 4 T 0 e z h M;have H:∀ {j:E} {x:V} {y:V},eval s j=J x->eval s (.ac (.sz (.bv j)<|P.cellsOf T) q)=J y->∃aq_,x=.agg aq_/\I aq_=P.cellsOf T/\eval s (.sz (.bv j)<|P.cellsOf T)=J (.agg aq_):=λ{j x y} hx k=>by
  simp only[eval,hx,Zhk]at k⊢;cases x<;>simp only[Q5,Option.bind_none,Zhk]at k⊢ <;>(try (cases k;done));rename_i aq_;unfold VD at k⊢;by_cases R:(V.agg aq_).cells.length=P.cellsOf T;exact⟨aq_,rfl,R,Zgc⟩;simp_all
 obtain⟨aq_,rfl,S,n⟩:=H X l;obtain⟨bs,rfl,W,o⟩:=H Y K;cases A with
 |agg _ d l K Q=>
  cases B with
  |agg _ f k1 k2 Z=>
   obtain⟨r,L,rfl⟩:=P8 (P:=P) n o l k1 Q Z 4 9999 T 0 e z Z0 Z0 Z0 h M;refine⟨r,d,f,rfl,rfl,?_,rfl,p⟩;have N:VU P T d 0=.agg d:=by
    unfold VU;rw[Zhi g,ZhZ,show P.cellsOf T=d.size by omega];simp
   have O:VU P T f 0=.agg f:=by
    unfold VU;rw[Zhi g,ZhZ,show P.cellsOf T=f.size by omega];simp
   rw[N,O]at L;exact L
theorem Z7Z(X:RelG c B G s a w h g)(S:holds s<|ZI c C){op T x y k es}(K:CF c g C op T x y=J (k,es))(H:∀e∈es,∃z,eval s e=J z)d:
  Has c B s w h (λp=>a.tmps[p]?) d k (do eqGuard op T x y (a.eval x) (a.eval y);binOp op T (a.eval x) (a.eval y)):=by
 unfold CF at K;simp only[Zh6,Zha,Zho]at K;obtain⟨n,ha,o,D,rfl,rfl⟩:=K;obtain⟨u,t,j⟩:=V5 X S ha;obtain⟨v,A,l⟩:=V5 X S D;obtain⟨z,f⟩:=H _<|List.Mem.head _;have R:=f;have fin:∀ {m:Sem Value},(∃r,m.run c.P w=.ok r w/\Rd w h.F z r)->Has c B s w h (λp=>a.tmps[p]?) d (.val (zM c.P T op n.1 o.1) []) m:=by
  rintro m ⟨r,L,M⟩;exact⟨r,L,z,R,M.mono λb D=>GH.cd D⟩
 have plain:eval s (.ce op n.1 o.1)=J z->Has c B s w h (λp=>a.tmps[p]?) d (.val (zM c.P T op n.1 o.1) []) (do eqGuard op T x y (a.eval x) (a.eval y);binOp op T (a.eval x) (a.eval y)):=by
  intro f;simp only[eval,t,A,Zhk]at f;exact fin<|Z9E f j l T x y
 unfold zM at f;split at f;rename_i W;split at f;simp only[eval,t,A,Zhk]at f;exact fin<|Pa (neg:=xw) f j l W x y;simp only[eval,t,A,Zhk]at f;exact fin<|Pa (neg:=xk) f j l W x y;simp_all;split at f;cases q:J0 c.P T n.1 o.1 with
 |none=>simp_all
 |some e=>
  rw[q]at f;obtain⟨r,xs,ys,N,Q,Y,rfl,Z⟩:=P9 q t A j l f;refine fin ⟨.bool r,?_,.bool _⟩;simp_all[eqGuard,binOp,Zjo]
 cases q:J0 c.P T n.1 o.1 with
 |none=>simp_all
 |some e=>
  rw[q]at f;simp only[ZhA,ZhE,eval,Zh6]at f;obtain⟨y',O,f⟩:=f;obtain⟨r,xs,ys,N,Q,Y,rfl,Z⟩:=P9 q t A j l O;simp only[Ss,Zh7]at f;subst f;refine fin ⟨.bool<|!r,?_,.bool _⟩;simp_all[eqGuard,binOp,Zjo]
 simp_all
theorem JD{x z:V}{e d sh m}(j:eval s e=J z)(g:∃r,m.run c.P w=.ok r w/\Rd w (h.ext sh) z r)k:Has c B s w h k d (.val e sh) m:=by
 obtain⟨r,a,f⟩:=g;exact⟨r,a,z,j,f⟩
theorem JF{m:Sem Value}{z}(g:∃r,m.run c.P w=.ok r w/\Rd w h.F z r)sh:∃r,m.run c.P w=.ok r w/\Rd w (h.ext sh) z r:=by
 obtain⟨r,a,d⟩:=g;exact⟨r,a,d.mono λb f=>GH.cd f⟩
theorem G5(o:RelG c B G s a w h g)(n:holds s<|ZI c C):∀ {l} {j:List Nat},Ko g C l=J j->I j=I l/\∀(i p:Nat),j[i]?=J p->∃x b,l[i]?=J x/\h.bl p 0=J b/\a.eval x=.pointer (J ⟨b,0,U⟩)
 | [],j,d=>by
   simp only[Ko,Zh7]at d;subst d;exact⟨rfl,λi p f=>by simp at f⟩
 |x::l,j,d=>by
  simp only[Ko]at d;split at d;rename_i t D z;simp only[Zha]at d;obtain⟨F,k,rfl⟩:=d;obtain⟨u,y⟩:=G5 o n k;obtain⟨v,A,⟨b,vs,T,q,r,_⟩,_⟩:=o.look n (show look g C t=_ from z) rfl;refine⟨by simp[u],λi p f=> ?_⟩;cases i with
  |zero=>simp at f;subst f;exact⟨_,b,rfl,q,by rw[Act.al a t v A];exact r⟩
  |succ i=>simpa using y i p Zgs
  cases d
theorem Z8a(y:RelG c B G s a w h g)(x:holds s<|ZI c C){f}{first j:Array Operand}{k es}(l:CQ g C f first.toList j.toList=J (k,es))d:
  Has c B s w h (λp=>a.tmps[p]?) d k (Instr.makeFunc f (first.map a.eval)<|j.map a.eval):=by
 unfold CQ at l;split at l;rename_i n u z;simp only[Zh7,Zho]at l;obtain⟨rfl,rfl⟩:=l;have o:first=#[]:=Zio.1 Z0;have t:j=#[]:=Zio.1 Z0;subst o t;exact⟨.func (.func n) #[] #[],by simp[Instr.makeFunc],.fn n,rfl,.fn n⟩;rename_i n u _;simp only[Zha,Zho]at l;obtain⟨F,q,rfl,rfl⟩:=l;have o:first=#[]:=Zio.1 Z0;subst o;obtain⟨D,r⟩:=G5 y x q;refine⟨.func (.func n) #[] (j.map a.eval),by simp[Instr.makeFunc],j.map a.eval,rfl,Zgd,λi p A=> ?_⟩;grind;cases l
theorem Z8b(a:Ok B G w h){T k es}(g:CR c T=J (k,es))p d:
  ∃v w',(Instr.makeMap T U).run c.P w=.ok v w'/\PRes c B G s w h p d k v w':=by
 unfold CR at g;split at g;simp only[Zh7,Zho]at g;obtain⟨rfl,rfl⟩:=g;have o:=Ziu w (.map #[] 0) U;obtain⟨f,l⟩:=jK a o d 1 (n:=xz<|xj w) (Zhc _) Z1;refine⟨.map<|J<|xz<|xj w,w.alloc<|.map #[] 0,?_,_,l,f,.mp 0 [] [],rfl,.inr ⟨0,[],[],xz<|xj w, #[],0,rfl,rfl,by simp[GH.ff],a.base,.inl rfl,ZhB w _,rfl,rfl,λi c j=>by simp at j,λi c j=>by simp at j⟩⟩;rfl;cases g
theorem ZbK{P T x}(j:Em P T=J x):∃z,(∀w,(zeroValue T).run P w=.ok z w)/\∀w G,Rd w G x z:=by
 unfold Em at j;simp only[Zh6]at j;obtain⟨z,⟨i,a,k⟩,g⟩:=j;refine⟨z,λw=>js a k w,λw G=> ?_⟩;split at g;rename_i f;simp only[Zha]at g;obtain⟨o,h,rfl⟩:=g;obtain⟨p,q⟩:=BM h;have key:∀(i:Nat) (c:V),o[i]?=J c->Vc (f.getD i xy)=J c:=by
  intro i c a;have d:i<f.size:=by have:=(Zh9.1 a).1;rw[p]at this;simpa using this
  obtain⟨y,n,l⟩:=q i f[i] (by simp[d]);rw[a]at n;cases n;simpa[Zhd,d]using l
 refine .agg o f Zgd (λc l=> ?_) λi c a=>zT (key i c a) w G;grind [List.getElem?_of_mem,At];grind [zT]
def Tz:KC->TypeDesc
 |.b=>.bool
 |.i k=>.int k
 |.s=>.string
theorem Im{P t d}(a:yQ P t=J d):P.underlying t=J (Tz d):=by
 unfold yQ at a;split at a<;>first|(simp only[Zh7]at a;subst a;assumption)|cases a
theorem L1{a k}(f:Vg a k=xk){w G' v}(d:Rd w G' k v):IsKey (Tz a) v:=by
 cases a<;>cases d<;>simp_all [Vg,IsKey,Tz]
theorem Io{a k y r}(f:Vg a k=xk)(d:L4 k y=J r){w w2 G' G'' v u}(h:Rd w G' k v)(g:Rd w2 G'' y u):IsKey (Tz a) u/\(r=xk↔v=u):=by
 cases a<;>cases h<;>simp[Vg]at f<;>cases g<;>simp[L4]at d
 grind [IsKey,Tz];obtain⟨rfl,rfl⟩:=d;simp[IsKey,Tz,f];grind [IsKey,Tz,bytes_beq]
theorem KG{C k}(g:Vg C k=xk){w w2 G' G'' v}(p:Rd w G' k v):∀ {ks} {l:List MapEntry} {r:Option Nat},Tu k ks=J r->I ks=I l->
  (∀i c,ks[i]?=J c->Rd w2 G'' c (l.getD i default).key)->∀n,match r with
   |none=>Instr.findNow (Tz C) v l n=J U
   |some j=>∃e,l[j]?=J e/\e.key=v/\Instr.findNow (Tz C) v l n=J (J (n+j,e.val))
 | [],l,r,d,h,_,n=>by
   simp only[Tu,Zh7]at d;subst d;have:l=[]:=Zj0 h.symm;subst this;rfl
 |y::ks,[],r,_,h,_,n=>ZgN
 |y::ks,e::l,r,d,h,o,n=>by
  simp only[Tu]at d;have D:Rd w2 G'' y e.key:=by simpa using o 0 y rfl
  split at d;rename_i A;obtain⟨x,z⟩:=Io g A p D;simp only[Zh7]at d;subst d;have t:=z.1 rfl;obtain⟨q,u,a⟩:=Zkx (L1 g p) x;have f:q=xk:=a.2 t;subst f;exact⟨e,rfl,t.symm,by simp[Instr.findNow,u]⟩;rename_i A;obtain⟨x,z⟩:=Io g A p D;obtain⟨q,u,a⟩:=Zkx (L1 g p) x;have f:q=xw:=by
   cases q with
   |false=>rfl
   |true=>have:=z.2<|a.1 rfl;cases this
  subst f;simp only[Zha]at d;obtain⟨N,B,rfl⟩:=d;have F:=KG g p B Zh5 (λi c M=>by simpa using o (i+1) c<|by simpa using M)<|n+1;obtain _|j:=N;simpa[Instr.findNow,u]using F;obtain⟨G,H,K,L⟩:=F;exact⟨G,by simpa using H,K,by simp[Instr.findNow,u,L];omega⟩;cases d
theorem IO{g k z y ks vs id ok}(f:UA g (.mp id ks vs) k z ok=J y){l w2 G' G'' t h}(q:Rd w G' k t)(D:∀w G,Rd w G z h)(o:I ks=I l)(h2:I vs=I l)
  (p:∀i c,ks[i]?=J c->Rd w2 G'' c (l.getD i default).key) (C:∀i c,vs[i]?=J c->Rd w2 G'' c (l.getD i default).val):
  Vg g k=xk/\∃r,Instr.findNow (Tz g) t l 0=J r/\Rd w2 G'' y (if ok then .tuple #[(match r with|some (_,v)=>(v,xk)|none=>(h,xw)).1,.bool (match r with|some (_,v)=>(v,xk)|none=>(h,xw)).2]else(match r with|some (_,v)=>(v,xk)|none=>(h,xw)).1):=by
 have tup:∀ {x:V} {v:Value} {b:Bool},Rd w2 G'' x v->Rd w2 G'' (if ok then .aq [x,.bool b]else x) (if ok then .tuple #[v,.bool b]else v):=by
  intro x v b hx;cases ok;exact hx;refine .aq _ _ rfl λi c d=> ?_
  match i,d with
  |0,d=>simp_all
  |1,d=>simp at d;subst d;simpa using Rd.bool b
  |i+2,d=>simp at d
 unfold UA at f;split at f;cases f;rename_i a;have a:Vg g k=xk:=ZgS;refine⟨a,?_⟩;simp only at f;split at f;rename_i j n;obtain⟨e,u,A,B⟩:=KG a q n o p 0;grind;rename_i n;have:=KG a q n o p 0;grind;cases f
theorem Z88(X:RelG c B G s a w h g)(S:holds s<|ZI c C){T x k ok Y es}(F:LB c g C T x k ok=J (Y,es))(N:∀e∈es,∃z,eval s e=J z)d:
  Has c B s w h (λp=>a.tmps[p]?) d Y (Instr.lookup T (a.eval x) (a.eval k) ok):=by
 unfold LB at F;split at F;rename_i kt el W;simp only[Zh6,Zha,Zho]at F;obtain⟨kc,P,z,hz,Q,ha,eb,hb,rfl,rfl⟩:=F;obtain⟨u,hu,H⟩:=WT X S ha;obtain⟨v,hv,n⟩:=WT X S hb;obtain⟨y,K⟩:=N _<|List.Mem.head _;have L:=K;simp only[eval,hu,hv,Zhk]at K;obtain⟨zv,M,o⟩:=ZbK hz;have j:=Im P;generalize a0:a.eval x=av at H;cases H with
 |mg=>
  obtain⟨A,r,O,f⟩:=IO (w2:=w) (G'':=h.ext Q.2) K n o (l:=[]) rfl rfl (λi c D=>by simp at D) (λi c D=>by simp at D);refine⟨_,?_,y,L,f⟩;have q:=ZkG (w:=w) j<|L1 A n;have t:=Zkw (w:=w) j O;obtain _|p:=r;simp_all[Instr.lookup,ZhQ,Result.andThen];simp_all[Instr.lookup,ZhQ,Result.andThen]
 |mp id ks xs b Z es h0 h1 R h3 h4 h5 h6=>
  obtain⟨A,r,O,f⟩:=IO (w2:=w) (G'':=h.ext Q.2) K n o (l:=es.toList) Z0 Z0 (λi c D=>Zgd) (λi c D=>Zgd);refine⟨_,?_,y,L,f⟩;have q:=ZkG (w:=w) j<|L1 A n;have t:=Zkw (w:=w) j O;obtain _|p:=r;simp[Instr.lookup,ZhQ W,ZiT R,q,t,M,Result.andThen];simp[Instr.lookup,ZhQ W,ZiT R,q,t,M,Result.andThen]
 |_=>simp[UA]at K
 cases F
theorem Z87{T x k ok e sh es}(a:LB c g C T x k ok=J (.val e sh,es)):es=[e]:=by
 unfold LB at a;split at a;simp only[Zh6,Zha,Zho,TK.val.injEq]at a;grind;cases a
theorem Z89(H:RelG c B G s a w h g)(F:holds s<|ZI c C){T x k ok y es}(f:CO c g C T x k ok=J (y,es))(n:∀e∈es,∃z,eval s e=J z)d:
  Has c B s w h (λp=>a.tmps[p]?) d y (Instr.lookup T (a.eval x) (a.eval k) ok):=by
 simp only[CO,Zh6]at f;obtain⟨⟨O,A⟩,l,f⟩:=f;simp only at f;split at f;rename_i e N;simp only[Zh7,Zho]at f;obtain⟨rfl,rfl⟩:=f;have D:=Z87 l;subst D;have t:=n _<|List.Mem.head _;have M:∃z,eval s e=J z:=by
  obtain⟨z,j⟩:=t;unfold XQ at j;split at j;simp_all;split at j;simp only[eval,Zh6]at j;obtain⟨u,K,_⟩:=j;exact⟨u,K⟩;simp_all
 obtain⟨v,L,Q,q,o⟩:=Z88 H F l Zgd d;obtain⟨z,j,r⟩:=RV (b:=(e,N)) (fl:=(!ok&&Gk c.P T)) q o t;exact⟨v,L,z,j,r⟩;cases f
theorem Z9L{x z}(a:R5 x=J z){G' v}(n:Rd w G' x v){T ty k e}(d:c.P.underlying T=J (.map k e)):
  ∃r,(Builtin.len_ #[T] ty #[v]).run c.P w=.ok r w/\Rd w h.F z r:=by
 cases n with
 |mg=>
  simp only[R5,Zh7]at a;subst a;exact⟨.int .i64 0,ZgQ,.int _ _⟩
 |mp id ks y b f g o p j l q t u=>
  simp only[R5,Zh7]at a;subst a;exact⟨.int .i64 g.size,by simp[Builtin.len_,ZhQ d,ZiT j,goInt,Result.andThen],by rw[l];exact .int _ _⟩
 |_=>simp[R5]at a
theorem CX(A:RelG c B G s a w h g)(H:holds s<|ZI c C){o k es}(f:pk c g C o=J (k,es))(l:∀e∈es,∃z,eval s e=J z)(d:Nat)(hd:o.dst=J d):PRun c B G s a w h o d k:=by
 have j:=A.ok;obtain⟨dst,op,type,pos,after,guard⟩:=o;simp only at hd;unfold pk at f;simp only at f;split at f;exact⟨_,w,rfl,PRes.az j<|Z8d A H f d⟩;rename_i x;obtain⟨v,h1,h2⟩:=Z8e A H f l {dst,op:=.nilCheck x,type,pos,after,guard} rfl d;exact⟨v,w,h1,PRes.az j h2⟩;exact⟨_,w,rfl,PRes.az j<|Z7Y A H f l d⟩;exact PRun.of rfl<|Z7W j f _ d;exact PRun.of rfl<|Z80 A H f l _ d;exact Has.pr j rfl<|Z7Z A H f l d;simp only[O8,Zha,Zho]at f;obtain⟨R,N,rfl,rfl⟩:=f;obtain⟨u,M,D⟩:=V5 A H N;obtain⟨z,t⟩:=l _<|List.Mem.head _;have K:=t;simp only[eval,M,Zhk]at t;exact Has.pr j rfl<|JD (x:=u) K (JF (Z9P t D) []) _;rename_i c1 c7 x;unfold O5 at f;split at f;grind;rename_i c8;split at f;rename_i kk a2;simp only[Zha,Zho]at f;obtain⟨R,N,rfl,rfl⟩:=f;obtain⟨u,M,D⟩:=V5 A H N;obtain⟨z,t⟩:=l _<|List.Mem.head _;have K:=t;simp only[eval,M,Zhk]at t;exact Has.pr j rfl<|JD (x:=u) K (JF (Z9F t D (by cases hh:c.P.underlying c1<;>simp_all) a2) []) _;grind;rename_i x i;simp only[O6,Zha,Zho]at f;obtain⟨R,N,rfl,rfl⟩:=f;obtain⟨u,M,D⟩:=V5 A H N;obtain⟨z,t⟩:=l _<|List.Mem.head _;have he:∃q,eval s (.ext R.1 i)=J q:=by
  unfold XQ at t;split at t;simp_all;split at t;simp only[eval,M,Zhk]at t⊢;cases hq:TV u i with
  |none=>simp_all
  |some q=>simp
  simp_all
 obtain⟨q,hq⟩:=he;have a9:=hq;simp only[eval,M,Zhk]at hq;obtain⟨r,b0,b1⟩:=Z9G (c:=c) (w:=w) hq D;obtain⟨z',b9,b2⟩:=RV (h:=h) (fl:=XM c.P type) (b:=(.ext R.1 i,R.2)) a9 b1 ⟨z,t⟩;exact Has.pr j rfl ⟨r,b0,z',b9,b2⟩;exact Has.pr j rfl<|Z86 A H f l d;exact Has.pr j rfl<|Z82 A H f l d;exact Has.pr j rfl<|Z84 A H f l d;exact Has.pr j rfl<|Z83 A H f l d;exact Has.pr j rfl<|Z85 A H f l d;exact Has.pr j rfl<|Z8h A H f l d
 ·
  rename_i T parts;unfold O4 at f;simp only[Zh6]at f;obtain⟨fs,hT,zs,t,b,hb,f⟩:=f;split at f;rename_i S;have b4:b.2.2=[]:=by simpa using S
  have a7:∃z,eval s (.ag (b.1.map (·.2)))=J z:=by
   split at f<;>(simp only[Zh7,Zho]at f;obtain⟨_,rfl⟩:=f;exact l _<|List.Mem.head _)
  obtain⟨z,a5⟩:=a7;have X:=a5;simp only[eval,Zha]at X;obtain⟨xs,b6,b7⟩:=X;obtain⟨hl,hx⟩:=UV b6;have d0:I xs=I b.1:=Zgc
  obtain⟨vs,a4,b3,a0,L⟩:=P7 A H hT t hb (λck a6=>by
   obtain⟨i,hi⟩:=ZhH a6;obtain⟨x,_,he⟩:=hx i ck.2 Zgd;simp_all)
  rw[b4]at a0 L;refine Has.pr j rfl ⟨.agg vs,a4,?_⟩;have b5:∀(i:Nat) (x:V),xs[i]?=J x->x.one=xk/\Rd w (h.ext b.2.1) x (vs.getD i xy):=by
   intro i x hi;have a8:i<I b.1:=by have:=(Zh9.1 hi).1;omega
   obtain⟨y,hy,b8⟩:=hx i (b.1[i]).2 Zgd;rw[hi]at hy;cases hy;have Y:=L i b.1[i]<|Zh8 a8;unfold BRel at Y;split at Y;simp_all;obtain⟨e1,e2⟩:=Y;rw[b8]at e2;cases e2;rw[e1];exact⟨rfl,.nil _ _<|Zjc _⟩;simp_all;grind
  have W:∀x∈xs,x.one=xk:=λx d5=>by
   grind [List.getElem?_of_mem]
  have c0:z=.agg xs:=by rw[<-b7];simp only[TR,U9 W]
  split at f;rename_i a3;simp only[Zhb,ZjS]at a3;simp only[Zh7,Zho]at f;obtain⟨rfl,rfl⟩:=f;refine⟨vs,rfl,b3,λi ck hi=> ?_⟩;have Y:=L i ck hi;unfold BRel at Y;obtain⟨kk,e⟩:=ck;cases kk with
  |own ty=>simp_all
  |nil=>exact Y
  |fz=>
   obtain⟨x,e1,e2,e3⟩:=Y;rw[a3.1]at e3;exact⟨x,e1,e2,e3.F⟩
  |gh=>grind
  simp only[Zh7,Zho]at f;obtain⟨rfl,rfl⟩:=f;refine⟨z,a5,?_⟩;rw[c0];exact .agg xs vs Z0 W λi x hi=>(b5 i x hi).2;grind
 exact PRun.of rfl<|Z81 A H f l _ d hd;exact PRun.of rfl<|Z8c A H f l _ d hd;exact Has.pr j rfl<|Z8a A H f d;exact PRun.of rfl<|Z8b j f _ d;exact Has.pr j rfl<|Z89 A H f l d
 ·
  rename_i args argTypes;split at f;rename_i x T hx hT;have p:args=#[x]:=Zio.1 Z0;have Q:argTypes=#[T]:=Zio.1 Z0;subst p Q;have Z:execOp a.eval {dst,op:=.call {callee:=.builtin .len,args:=#[x],argTypes:=#[T]},type,pos,after,guard}=(do pure (.value<|<-Builtin.len_ #[T] type #[a.eval x])):=by
   simp[execOp,resolve,invoke,builtin]
  unfold O7 at f;split at f;rename_i e O;simp only[Zha,Zho]at f;obtain⟨R,N,rfl,rfl⟩:=f;obtain⟨u,M,D⟩:=V5 A H N;obtain⟨z,t⟩:=l _<|List.Mem.head _;have K:=t;simp only[eval,M,Zhk]at t;exact Has.pr j Z<|JD (x:=u) K (JF (Z9H t D O) []) _;rename_i n e O;simp only[Zh7,Zho]at f;obtain⟨rfl,rfl⟩:=f;refine Has.pr j Z ⟨.int .i64 n,?_,_,rfl,.int _ _⟩;simp[Builtin.len_,ZhQ O,goInt];rename_i k e O;simp only[Zha,Zho]at f;obtain⟨R,N,rfl,rfl⟩:=f;obtain⟨u,M,D⟩:=V5 A H N;obtain⟨z,t⟩:=l _<|List.Mem.head _;have K:=t;simp only[eval,M,Zhk]at t;exact Has.pr j Z<|JD (x:=u) K (JF (Z9L t D O) []) _;grind;grind
 rename_i args _;split at f;rename_i x y hx;have p:args=#[x,y]:=Zio.1 Z0;subst p;simp only[qT,Zhu,Zif,Zh6,Zha,Zho]at f;obtain⟨R,N,eb,hb,rfl,rfl⟩:=f;obtain⟨u,M,D⟩:=V5 A H N;obtain⟨v,hv,a1⟩:=V5 A H hb;obtain⟨z,t⟩:=l _<|List.Mem.head _;have K:=t;simp only[eval,M,hv,Zhk]at t;exact Has.pr j (by simp[execOp,resolve,invoke,builtin];rfl)<|JD (x:=u) K (JF (Z9K t D a1 _ type) []) _;grind;rename_i args _;split at f;rename_i x y hx;have p:args=#[x,y]:=Zio.1 Z0;subst p;simp only[qT,Zi9,Zh6,Zha,Zho]at f;obtain⟨R,N,eb,hb,rfl,rfl⟩:=f;obtain⟨u,M,D⟩:=V5 A H N;obtain⟨v,hv,a1⟩:=V5 A H hb;obtain⟨z,t⟩:=l _<|List.Mem.head _;have K:=t;simp only[eval,M,hv,Zhk]at t;exact Has.pr j (by simp[execOp,resolve,invoke,builtin];rfl)<|JD (x:=u) K (JF (Z9I t D a1 _ type) []) _;grind;rename_i args argTypes;split at f;rename_i x y T P hx hT;have p:args=#[x,y]:=Zio.1 Z0;have Q:argTypes=#[T,P]:=Zio.1 Z0;subst p Q;exact PRun.of (by simp[execOp,resolve,invoke,builtin])<|Z7X (ty:=type) A H f l _ d hd;grind;grind
end
end Vm
namespace Vm
open Go
open Go.RowKit (Below)
theorem Ak:∀ {g} {t:Nat},t∉ZV g->g.at t=([],.no)
 | [],t,_=>rfl
 | (u,x)::g,t,a=>by
   simp only[ZV,ZhN,Zhs,Zlx]at a;simp only[Gam.at];rw[Zhg (λe=>a.1 e.symm)];exact Ak a.2
theorem zL:∀ {g} {t:Nat},t∈ZV g->(t,g.at t)∈g
 | [],t,a=>by simp[ZV]at a
 | (u,x)::g,t,a=>by
   simp only[Gam.at];by_cases d:u=t;subst d;simp;rw[Zhg d];have:t∈ZV g:=by
    simp only[ZV,ZhN,Zhs]at a;exact a.resolve_left λe=>d e.symm
   exact ZhK _<|zL this
theorem VJ:∀a b t,(a++b).at t=if t∈ZV a then a.at t else b.at t
 | [],b,t=>Zh2
 | (u,x)::a,b,t=>by
   simp only[Zix,Gam.at];by_cases d:u=t;grind [ZV];rw[Zhg d,Zhg d,VJ a b t];grind [ZV,List.map]
theorem yR{ps rb fz g t}(a:t∈ZV (Wi ps rb fz g)):(Wi ps rb fz g).at t=([],.no):=by
 grind [zL,Wi,Option.some.injEq,Prod.mk.injEq]
theorem Z5H{ps rb fz g t}(d:t∉ZV (Wi ps rb fz g)){x}(hx:(t,x)∈g):Vs ps rb fz x.2=xk:=by
 by_cases a:Vs ps rb fz x.2=xk;exact a;exfalso;apply d;simp only[ZV,Wi,Zhq,Zk5];exact⟨(t,[],.no),⟨(t,x),hx,by simp[a]⟩,rfl⟩
theorem As ps rb fz:Vs ps rb fz .no=xk:=by simp[Vs,UL,leads,Jb]
theorem Ip{ps rb fz g t}(a:t∉ZV (Wi ps rb fz g)):Vs ps rb fz (g.at t).2=xk:=by
 grind [ZV,Z5H,zL,Ak,As]
theorem yq{fz g}:ZV (Ua fz g)=fz:=by
 simp only[ZV,Ua,Zjw]
 conv=>rhs;rw[<-List.map_id fz]
 rfl
theorem yp:∀ {fz} {g:Gam} {t:Nat},t∈fz->(Ua fz g).at t=((g.at t).1,RY (g.at t).2)
 | [],g,t,a=>by simp at a
 |p::fz,g,t,a=>by
  simp only[Ua,ZhN,Gam.at];by_cases d:p=t;grind;rw[Zhg d];exact yp ((Zhs.1 a).resolve_left λe=>d e.symm)
def GH.bc(h:GH)(fz:List Nat):GH:= {F:=λb=>h.F b\/∃p∈fz,∃i,h.bl p (i+1)=J b,bl:=λp i=>if p∈fz/\i≠0 then U else h.bl p i,K:=h.K}
section
variable {c:Ctx}{B:Nat}{G:Nat->Prop}{s:St}{a:Act}{w w':World}{h h':GH}{g:Gam}{C:ZG}{fz:List Nat}
theorem zh(d:Ok B G w h)fz:Ok B G w (h.bc fz)/\Step B [] [] fz w w h (h.bc fz):=by
 refine⟨⟨d.base,λb a=> ?_,λb a=> ?_,λb a=>.inl<|d.fj b a,λt i b a=> ?_,λt i u j b a f=> ?_,d.cx,λt i b a=> ?_,λb a=> ?_⟩,
  Zhw _ _,λb a _=>rfl,λb a=>.inl a,λt _ l=> ?_,λt _=> ?_,λt i b _ l a=>.inr ⟨t,l,i,a⟩,rfl⟩
 obtain a|⟨p,_,i,g⟩:=a;exact d.bz b a;exact(d.aw p (i+1) b g).2.1;obtain a|⟨p,_,i,g⟩:=a;exact d.cz b a;exact .inr (d.aw p (i+1) b g).1;simp only[GH.bc]at a;split at a;cases a;rename_i x;obtain⟨n,o,q⟩:=d.aw t i b a;refine⟨n,o,λk=> ?_⟩;obtain k|⟨p,y,j,r⟩:=k;exact q k;obtain⟨rfl,rfl⟩:=d.inj t i p (j+1) b a r;simp_all
 .simp only[GH.bc]at a f;split at a<;>split at f<;>first|(cases a;done)|(cases f;done)|exact d.inj t i u j b a f
 simp only[GH.bc]at a;split at a;cases a;exact d.cp t i b a;obtain a|⟨p,_,i,g⟩:=a;exact d.fk b a;exact .inr<|d.cp p (i+1) b g;simp_all[GH.bc];simp[GH.bc]
theorem DV{sh}(a:∀p∈sh,p∈fz):∀b,h.ext sh b->(h.bc fz).F b:=by
 intro b d;obtain d|⟨p,g,i,f⟩:=d;exact .inl d;exact .inr ⟨p,a p g,i,f⟩
theorem OwnV.one{P o ty x v}(a:OwnV P B w h o ty x v):x.one=xk:=by
 obtain⟨l,d,rfl,_⟩|⟨_,_,_,_,_,_,rfl,_⟩:=a<;>rfl
theorem RelC.freeze{P o k e v}(f:RelC P B s w h o k e v)(n:Same h.F w w')(a:∀b,h.F b->h'.F b)(q:∀b,o=J b->w'.heap[b]?=w.heap[b]?)(l:∀b,o=J b->h'.F b)r:
  RelC P B s w' h' r (H5 k) e v:=by
 cases k with
 |fz=>obtain⟨x,g,j,d⟩:=f;exact⟨x,g,j,d.keep n a⟩
 |own t=>
  obtain⟨x,g,j⟩:=f;have d:=j.keep (h':=h') n a q;exact⟨x,g,d.one,d.rd (λb p=>p) l⟩
 |nil=>exact f
 |gh=>exact f
theorem RelK.freeze{M r t v k ps rb}(y:RelK c.P B s w h M t v k)(f:Step B ps rb fz w w' h h')(d:Ok B G w h)(q:∀t∈rb,t∈ps)
  (g:t∉ps) (n:t∈fz) (j:Vs ps rb fz k=xk) (L:∀p,p∉ps->r p=M p):RelK c.P B s w' h' r t v<|RY k:=by
 have D:Same h.F w w':=λb a=>f.iq d a;cases l:k.is with
 |false=>
  have:=y.keep f d q g (λ_=>l) j L;cases k<;>first|exact this|simp[TK.is]at l
 |true=>
  cases k<;>first|(simp[TK.is]at l;done)|skip
  rename_i Y e;obtain⟨x,O,u⟩:=y;have A:=u.keep (h':=h') D f.F λb a=>f.cr d g a;exact⟨x,O,A.rd (λb a=>GH.cd a) λb a=>GH.cd<|f.sr t 0 b g n a⟩;rename_i N;obtain⟨b,vs,T,u,A,Q,C,R⟩:=y;refine⟨b,vs,T,by rw[f.oq t (λW=>g<|q t W)];exact u,A,by rw[f.cr d g u];exact Q,by simpa using C,λi X o=> ?_⟩;simp only[Zhz,Zha]at o;obtain⟨z,H,rfl⟩:=o;exact(R i z H).freeze D f.F (λb a=>f.cr d g a) (λb a=>f.sr t i b g n a) _;rename_i N;obtain⟨vs,rfl,C⟩:=y;simp only[RY];split;trivial;rename_i S;obtain⟨x,hx,_,K⟩:=C.rd (G':=λb=>h.F b\/∃i,h.bl t (i+1)=J b) (by simpa using S) (λb a=>.inl a) (λ_ i b a=>.inr ⟨i,a⟩);refine⟨_,hx,K.keep (λb a=> ?_) λb a=> ?_⟩;obtain a|⟨i,o⟩:=a;exact D b a;exact f.cr d g o;obtain a|⟨i,o⟩:=a;exact GH.cd<|f.F b a;exact GH.cd<|f.sr t i b g n o
theorem RelG.step{a' ps rb d}(n:RelG c B G s a w h g)(K:Step B ps rb fz w w' h h')(q:Ok B G w' h')(r:∀t∈rb,t∈ps)(u:∀p,p∉ps->a'.tmps[p]?=a.tmps[p]?)
  (F:∀t∈ps,t∈ZV d)
  (O:∀t∈ZV d,(holds s (ZI c (d.at t).1)->(d.at t).2.bu=xw->∃v,a'.tmps[t]?=J v/\RelK c.P B s w' h' (λp=>a'.tmps[p]?) t v (d.at t).2)/\(¬holds s (ZI c (d.at t).1)->a'.tmps.getD t xy=xy)):
  RelG c B G s a' w' h' (d++Wi ps rb fz g++Ua fz g++g):=by
 have key:∀t,(holds s (ZI c ((d++Wi ps rb fz g++Ua fz g++g).at t).1)->((d++Wi ps rb fz g++Ua fz g++g).at t).2.bu=xw->∃v,a'.tmps[t]?=J v/\RelK c.P B s w' h' (λp=>a'.tmps[p]?) t v ((d++Wi ps rb fz g++Ua fz g++g).at t).2)/\
   (¬holds s (ZI c ((d++Wi ps rb fz g++Ua fz g++g).at t).1)->a'.tmps.getD t xy=xy):=by
  intro t;rw[VJ,VJ,VJ];simp only[ZV,Zir,ZhC];by_cases A:t∈ZV d;have f:t∈List.map (·.1) d:=A;simp_all;have f:t∉List.map (·.1) d:=A;by_cases y:t∈ZV (Wi ps rb fz g);have j:t∈List.map (·.1) (Wi ps rb fz g):=y;simp only[f,j,false_or,true_or,Zi9,Zif,yR y];simp_all[TK.bu,absurd,VP,ZI];have j:t∉List.map (·.1) (Wi ps rb fz g):=y;have H:=Ip y;have x:t∉ps:=λM=>A<|F t M;by_cases o:t∈fz;have k:t∈List.map (·.1) (Ua fz g):=by have:=yq (fz:=fz) (g:=g);unfold ZV at this;rw[this];exact o
  simp only[f,j,k,false_or,Zi9,Zif,yp o];refine⟨λC l=> ?_,λl=> ?_⟩;have D:(g.at t).2.bu=xw:=by
   cases z:(g.at t).2<;>first|rfl|simp_all[RY,TK.bu]
  obtain⟨v,N,z⟩:=n.Y t C D;exact⟨v,Zgd,z.freeze K n.ok r x o H u⟩;have:=n.skip t l;simp_all;have k:t∉List.map (·.1) (Ua fz g):=by have:=yq (fz:=fz) (g:=g);unfold ZV at this;rw[this];exact o
  simp only[f,j,k,false_or,Zif];refine⟨λC l=> ?_,λl=> ?_⟩;obtain⟨v,N,z⟩:=n.Y t C l;exact⟨v,Zgd,z.keep K n.ok r x (λL=>absurd L o) H u⟩;have:=n.skip t l;simp_all
 exact⟨q,λt=>(key t).1,λt=>(key t).2⟩
theorem RelG.ng(l:RelG c B G s a w h g)fz:RelG c B G s a w (h.bc fz)<|Vm.frz fz g:=by
 obtain⟨f,j⟩:=zh l.ok fz;have:=l.step (d:=[]) (a':=a) j f (λ_ h=>h) (λ_ _=>rfl) (λt k=>by simp at k) (λt k=>by simp[ZV]at k);simpa[Vm.frz]using this
end
end Vm
namespace Vm
open Go
open Go.RowKit (Below)
def GH.put(h:GH)(d:Nat)(f:Nat->Option Nat)(r:Nat->Nat->Option Nat):GH:= {F:=h.F,bl:=λu=>if u=d then f else r u,K:=h.K}
def YY(h:GH)(ts:List Nat)(u:Nat)(i:Nat):Option Nat:=if u∈ts then U else h.bl u i
section
variable {c:Ctx}{B:Nat}{G:Nat->Prop}{s:St}{a a':Act}{w w':World}{h h':GH}{g:Gam}{C:ZG}{fz ps rb:List Nat}
theorem Ok.put(a:Ok B G w h)(n:xz (xj w)<=xz (xj w')){d f r}
  (q:∀u i b,u≠d->r u i=J b->h.bl u i=J b) (C:∀i b,f i=J b->(xz (xj w)<=b/\b<xz (xj w'))\/∃t j,h.bl t j=J b)
  (D:∀i j b,f i=J b->f j=J b->i=j) (A:∀i b u j,u≠d->f i=J b->r u j=J b->False):Ok B G w'<|h.put d f r:=by
 refine⟨ZhD a.base n,λb g=>Zhj (a.bz b g) n,a.cz,a.fj,λt i b g=> ?_,λt i u j b g k=> ?_,λb g=>Zhj (a.cx b g) n,λt i b g z=> ?_,a.fk⟩;simp only[GH.put]at g;have p:∀t j,h.bl t j=J b->B<=b/\b<xz (xj w')/\¬h.F b:=λt j o=>by
  obtain⟨x,y,M⟩:=a.aw t j b o;grind
 split at g;obtain⟨x,y⟩|⟨t,j,o⟩:=C i b g;exact⟨ZhD a.base x,y,λL=>by have:=a.bz _ L;omega⟩;exact p t j o;rename_i l;exact p t i<|q t i b l g;simp only[GH.put]at g k;split at g<;>split at k;grind;grind;grind;rename_i H K;exact a.inj t i u j b (q t i b H g)<|q u j b K k;simp only[GH.put]at g;split at g;obtain⟨x,y⟩|⟨t,j,o⟩:=C i b g;have:=a.cx _ z;omega;exact a.cp t j b o z;rename_i l;exact a.cp t i b (q t i b l g) z
theorem Vh{ts u i b}(a:YY h ts u i=J b):h.bl u i=J b/\u∉ts:=by
 simp_all[YY]
theorem IP{ts u}(a:u∉ts):YY h ts u=h.bl u:=by
 grind [YY]
theorem Sq(g:Below B w w')(a:∀b,b<xz (xj w)->(∀p∈ps,∀i,h.bl p i≠J b)->w'.heap[b]?=w.heap[b]?){d f ts}
  (n:d∈ps) (k:∀t∈ts,t∈ps/\t∈rb) (q:d∉rb->f 0=h.bl d 0):Step B ps rb [] w w' h<|h.put d f<|YY h ts:=by
 refine⟨g,a,λ_ g=>g,λt j _=> ?_,λt j=> ?_,λ_ _ _ _ o=>(by simp at o),rfl⟩;have l:t≠d:=λe=>j<|e▸n;simp only[GH.put,Zhg l];grind [IP];simp only[GH.put];split;simp_all;rw[IP λe=>j (k t e).2]
theorem Step.after(h2:Step B ps rb [] w w' (h.bc fz) h'):Step B ps rb fz w w' h h':=by
 have f:∀p i b,(h.bc fz).bl p i=J b->h.bl p i=J b:=by
  intro p i b a;simp only[GH.bc]at a;split at a;cases a;exact a
 refine⟨h2.below,λb a k=>h2.same b a λp l i j=>k p l i<|f p i b j,λb a=>h2.F b<|.inl a,λt g d=> ?_,λt g=> ?_,λt i b _ d a=>h2.F b<|.inr ⟨t,d,i,a⟩,h2.K⟩;rw[h2.bl t g Z1];grind [GH.bc];rw[h2.oq t g];simp[GH.bc]
structure MPost (c:Ctx) (B:Nat) (G:Nat->Prop) (s:St) (a':Act) (w w':World) (h h':GH) (m:MS):Prop where
 step:Step B m.ps m.rb m.fz w w' h h'
 ok:Ok B G w' h'
 vr:∀t∈ZV m.d,(m.d.at t).1=[]/\((m.d.at t).2.bu=xw->∃u,a'.tmps[t]?=J u/\RelK c.P B s w' h' (λp=>a'.tmps[p]?) t u (m.d.at t).2)
theorem Wz{d k}{ts:List Nat}(g:∃u,a'.tmps[d]?=J u/\RelK c.P B s w' h' (λp=>a'.tmps[p]?) d u k):
  ∀t∈ZV ((d,[],k)::ts.map λt=>(t,([]:ZG),TK.no)),(Gam.at ((d,[],k)::ts.map λt=>(t,([]:ZG),TK.no)) t).1=[]/\
   ((Gam.at ((d,[],k)::ts.map λt=>(t,([]:ZG),TK.no)) t).2.bu=xw->∃u,a'.tmps[t]?=J u/\RelK c.P B s w' h' (λp=>a'.tmps[p]?) t u (Gam.at ((d,[],k)::ts.map λt=>(t,([]:ZG),TK.no)) t).2):=by
 intro t h;simp only[Gam.at];by_cases a:d=t;simp_all;rw[Zhg a];have:∀(ts:List Nat),Gam.at (ts.map λt=>(t,([]:ZG),TK.no)) t=([],.no):=by
  intro ts;induction ts with
  |nil=>rfl
  |cons u ts j=>simp_all[ZhN,Gam.at,ite_self]
 rw[this];exact⟨rfl,λf=>by simp[TK.bu]at f⟩
theorem VV{d}(f:d<a.tmps.size)v:(a.put (J d) v).tmps[d]?=J v:=by
 simp[Act.put,f]
theorem Qq{d t:Nat}(f:t≠d)v:(a.put (J d) v).tmps[t]?=a.tmps[t]? :=by
 simp[Act.put,Zi5<|ZiX f]
theorem Yv s c:holds s<|ZI c []:=VP s
theorem Bv(r:RelG c B G s a w h g){fl x b}(k:SZ g fl x=J b){z}(l:eval s b.1=J z):Rd w (h.bc b.2).F z<|a.eval x:=by
 simp only[SZ,Zha]at k;obtain⟨n,o,rfl⟩:=k;obtain⟨y,t,f⟩:=V5 r (Yv s c) o;obtain⟨u,d,j⟩:=RV (fl:=fl) (b:=n) t f ⟨z,l⟩;rw[l]at d;cases d;exact j.mono (DV λp q=>q)
theorem Bw(f:RelG c B G s a w h g){fl ag n x b}(d:SZ g fl x=J b){z}(j:eval s (V8 ag n b.1)=J z):
  (∀l,z≠.aq l)/\(ag=xk->I z.cells=n)/\(ag=xw->z.one=xk)/\Rd w (h.bc b.2).F z (a.eval x):=by
 grind [jO,Bv]
theorem OwnV.mono{P o a ty x v}(g:OwnV P B w h o ty x v)(d:∀b,h.F b->h'.F b)(f:o=a):OwnV P B w h' a ty x v:=by
 subst f;exact g.keep (.refl _ _) d λ_ _=>rfl
theorem Hf(o:RelG c B G s a w h g){ty d t e v}(x:d<a.tmps.size)(A:t≠d){y}(C:eval s e=J y)(f:OwnV c.P B w h (h.bl t 1) ty y v):
  ∃h',MPost c B G s (a.put (J d) v) w w h h' {d:=[(d,[],.own ty e),(t,[],.no)],ps:=[d,t],rb:=[d,t],fz:=[],es:=[]}:=by
 refine⟨h.put d (λi=>if i=1 then h.bl t 1 else U)<|YY h [t],Sq (Zhw _ _) (λ_ _ _=>rfl) Z1 (λu p=>by simp at p;grind) (λz=>by simp at z),
  o.ok.put (Zhc _) (λu i b _ k=>(Vh k).1) (λi b k=> ?_) (λi j b l n=> ?_) (λi b u j p l n=> ?_),Wz (ts:=[t]) ⟨v,VV x v,y,C,?_⟩⟩
 grind;simp_all;split at l;obtain⟨q,r⟩:=Vh n;exact r (by simp[(o.ok.inj t 1 u j b l q).1]);cases l;exact f.mono (λ_ k=>k) (by simp[GH.put])
theorem Z6A(n:RelG c B G s a w h g){d t cs v}(D:d<a.tmps.size)(K:t≠d)(F:RelK c.P B s w h (λp=>a.tmps[p]?) t v<|.mem cs):
  ∃h',MPost c B G s (a.put (J d) v) w w h h' {d:=[(d,[],.mem cs),(t,[],.no)],ps:=[d,t],rb:=[d,t],fz:=[],es:=[]}:=by
 obtain⟨b,vs,T,r,rfl,x,y,z⟩:=F
 refine⟨h.put d (λi=>h.bl t i)<|YY h [t],Sq (Zhw _ _) (λ_ _ _=>rfl) Z1 (λu o=>by simp at o;grind) (λH=>by simp at H),
  n.ok.put (Zhc _) (λu i b _ f=>(Vh f).1) (λi b f=>.inr ⟨t,i,f⟩) (λi j b k l=>(n.ok.inj t i t j b k l).2) (λi b u j o k l=> ?_),Wz (ts:=[t]) ⟨_,VV D _,b,vs,T,by simp[GH.put,r],rfl,x,y,λi q k=> ?_⟩⟩
 obtain⟨A,C⟩:=Vh l;exact C (by simp[(n.ok.inj t i u j b k A).1]);have:=(z i q k).keep (h':=h.put d (λi=>h.bl t i)<|YY h [t]) (w':=w) (.refl _ _) (λ_ f=>f) λ_ _=>rfl;simp_all[GH.put]
def GH.yield(h:GH)(d p:Nat):GH:= {F:=λb=>h.F b\/∃i,h.bl p i=J b,bl:=λu i=>if u=p\/u=d then U else h.bl u i,K:=h.K}
theorem Z46(H:RelG c B G s a w h g){d p cs}(N:d<a.tmps.size)(P:p≠d)(A:memOf g p=J cs)(y:Ww cs=xw){z}(K:eval s (.pt U (cs.map (·.2)))=J z){v}(R:∃b,h.bl p 0=J b/\v=.pointer (J ⟨b,0,U⟩)):
  ∃h',MPost c B G s (a.put (J d) v) w w h h' {d:=[(d,[],.val (.pt U (cs.map (·.2))) []),(p,[],.no)],ps:=[d,p],rb:=[d,p],fz:=[],es:=[.pt U (cs.map (·.2))]}:=by
 obtain⟨b,vs,T,D,_,L,M⟩:=H.de A;obtain⟨X,n,rfl⟩:=R;rw[D]at n;cases n;have f:=H.ok;have l:∀u i x,(h.yield d p).bl u i=J x->h.bl u i=J x/\u≠p:=by
  intro u i x hx;simp only[GH.yield]at hx;split at hx;cases hx;simp_all
 refine⟨h.yield d p,⟨Zhw _ _,λ_ _ _=>rfl,λb k=>.inl k,λt Q _=> ?_,λt Q=> ?_,λ_ _ _ _ A=>(by simp at A),rfl⟩,⟨f.base,λb k=> ?_,λb k=> ?_,λb k=>.inl<|f.fj b k,λt i b k=> ?_,λt i u j b k r=>f.inj t i u j b (l _ _ _ k).1 (l _ _ _ r).1,f.cx,λt i b k=>f.cp t i b (l _ _ _ k).1,λb k=> ?_⟩,
  Wz (ts:=[p]) ⟨_,VV N _,z,K,L7 D L M y K (λb k=>.inl<|.inl k) λi b k=>.inl<|.inr ⟨i,k⟩⟩⟩
 simp_all[Zhs,ZiL,Zk9,Zlx,GH.yield];simp_all[Zhs,ZiL,Zk9,Zlx,GH.yield];obtain k|⟨i,q⟩:=k;exact f.bz b k;exact(f.aw p i b q).2.1;obtain k|⟨i,q⟩:=k;exact f.cz b k;exact .inr (f.aw p i b q).1;obtain⟨o,C⟩:=l _ _ _ k;obtain⟨S,W,Y⟩:=f.aw t i b o;refine⟨S,W,λF=> ?_⟩;obtain F|⟨j,O⟩:=F;grind;exact C (f.inj t i p j b o O).1;obtain k|⟨i,q⟩:=k;exact f.fk b k;exact .inr<|f.cp p i b q
theorem IY(q:RelG c B G s a w h g){ty d x m}(N:d<a.tmps.size)(f:qa c g ty d x=J m)(D:∀e∈m.es,∃z,eval s e=J z):
  ∃h',MPost c B G s (a.put (J d)<|a.eval x) w w h h' m:=by
 unfold qa at f;split at f;rename_i t T e r;split at f;cases f;rename_i C;have S:t≠d:=λe=>C<|.inl e;simp only[Zh7]at f;subst f;obtain⟨v,L,⟨y,Y,H⟩,_⟩:=q.look (Yv s c) (show look g [] t=_ from r) rfl;grind [Act.al,Hf];rename_i t W r;split at f;cases f;rename_i C;have S:t≠d:=λe=>C<|.inl e;simp only[Zh7]at f;subst f;obtain⟨v,L,o,_⟩:=q.look (Yv s c) (show look g [] t=_ from r) rfl;grind [Act.al,Z6A];rename_i t p r;split at f;rename_i k;simp only[Zhb,Zkt,Zls]at k;simp only[Zh6]at f;obtain⟨W,P,f⟩:=f;split at f;cases f;rename_i X;simp only[Zh7]at f;subst f;obtain⟨z,M⟩:=D _<|List.Mem.head _;obtain⟨v,L,o,_⟩:=q.look (Yv s c) (show look g [] t=_ from r) rfl;rw[Act.al a t v L];exact Z46 q N k.2 P Zgd M o;cases f;rename_i r;simp only[Zh7]at f;subst f;rw[Jy q (Yv s c) r]
 exact⟨h.put d (λ_=>U)<|YY h [],Sq (Zhw _ _) (λ_ _ _=>rfl) Z1 (λu K=>by simp at K) (λQ=>by simp at Q),
  q.ok.put (Zhc _) (λu i b _ n=>(Vh n).1) (λi b n=>by cases n) (λi j b A O=>by cases A) (λi b u j K A O=>by cases A),Wz (ts:=[]) ⟨_,VV N _,rfl⟩⟩
 split at f;rename_i p T e l;simp only[Zh7]at f;subst f;unfold He at l;split at l;rename_i Z r;split at l;rename_i k;simp only[Zhb,Zkt,Zls]at k;simp only[Zha,Zho]at l;obtain⟨⟨q1,q2⟩,l,rfl,rfl,rfl⟩:=l;obtain⟨v,L,y,Y,H⟩:=q.fd l;have o:a.tmps[Z]?=J (a.eval _):=XN q (Yv s c) r rfl 0;grind [Option.some.injEq,Hf];grind;grind;simp only[Zha]at f;obtain⟨b,n,rfl⟩:=f;obtain⟨z,M⟩:=D b.1 Z1;have R:=Bv q n M;obtain⟨F,_⟩:=zh q.ok b.2
 exact⟨(h.bc b.2).put d (λ_=>U)<|YY (h.bc b.2) [],Step.after<|Sq (Zhw _ _) (λ_ _ _=>rfl) Z1 (λu K=>by simp at K) (λQ=>by simp at Q),
  F.put (Zhc _) (λu i b _ n=>(Vh n).1) (λi b n=>by cases n) (λi j b A O=>by cases A) (λi b u j K A O=>by cases A),Wz (ts:=[]) ⟨_,VV N _,z,M,R.mono λb n=>GH.cd n⟩⟩
def WX(a:Array Value)(o:Nat)(new:Array Value):Array Value:=(a.toList.take o++new.toList++a.toList.drop (o+new.size)).toArray
theorem Dj{a new o}(d:o+new.size<=a.size):(WX a o new).size=a.size:=by
 grind [WX]
theorem Di{a new o}(d:o+new.size<=a.size){i}(f:i<new.size):(WX a o new).getD (o+i) xy=new.getD i xy:=by
 simp only[WX,Zhd,ZiN];grind
theorem jn{a new o}(d:o+new.size<=a.size){i}(f:i<o\/o+new.size<=i):(WX a o new).getD i xy=a.getD i xy:=by
 simp only[WX,Zhd,ZiN];grind
theorem Dn{P T}(l:YT P T=xk){b o a ty}(n:w.heap[b]?=J (.cells a ty (0,0))){v}(y:v.cells.size=P.cellsOf T)(f:∀i,i<v.cells.size->(v.cells.getD i xy).oneCell'=xk)(p:o+v.cells.size<=a.size):
  (Instr.storeAt T (.pointer<|J ⟨b,o,U⟩) v).run P w=.ok () (w.setRow b<|WX a o v.cells):=by
 obtain⟨d,i,t,x,z,_⟩:=Uf l
 have q:=run_storeCells_at (P:=P) b o ty v.cells.toList 0 a w n Z0 (λu r=>by
  obtain⟨j,g⟩:=ZhH r;have h:j<v.cells.size:=by simpa using(Zh9.1 g).1
  have:=f j h;have k:v.cells.getD j xy=u:=by
   simp only[Zhd];rw[Zis]at g;rw[g];rfl
  simp_all)
 simp_all[ZiS,Zjy,Instr.storeAt,Instr.sureAddr,storeVar,Um,WX]
theorem below_setRow w{b}(a:B<=b)cs:Below B w<|w.setRow b cs:=
 ⟨rfl,rfl,rfl,Z1,λk d=>Zj4 w b k cs Z0⟩
theorem Dt(d:Ok B G w h){b}cs{G'}(a:∀x,G' x->x≠b):Same G' w<|w.setRow b cs:=λx hx=>Zj4 w b x cs<|a x hx
theorem jw{cs new o}(f:o+I new<=I cs):I (JL cs o new)=I cs/\∀i a,(JL cs o new)[i]?=J a->(o<=i/\i<o+I new/\new[i-o]?=J a)\/((i<o\/o+I new<=i)/\cs[i]?=J a):=by
 unfold JL;refine⟨Zge,λi a d=> ?_⟩;by_cases g:i<o;grind;by_cases h:i<o+I new;grind;right;rw[Zhy Zge,ZhF]at d;grind
theorem PR(d:Ok B G w h){p o b cs new g row ty}(r:h.bl p 0=J b)(hh:w.heap[b]?=J (.cells g ty (0,0)))(z:RelCs c.P B s w h p cs g)
  (a0:row.size=g.size) (Y:o+I new<=I cs) (N:∀i,i<o\/o+I new<=i->row.getD i xy=g.getD i xy) {ts} {f:Nat->Option Nat} (a3:p∉ts)
  (A:f 0=h.bl p 0) (k:∀i,i<o\/o+I new<=i->f (i+1)=h.bl p (i+1)) (D:∀i x,i<I new->f (o+i+1)=J x->h.bl p (o+i+1)=J x\/∃t∈ts,∃j,h.bl t j=J x)
  (L:∀i j x,f i=J x->f j=J x->i=j)
  (M:∀i l,new[i]?=J l->RelC c.P B s w h (f<|o+i+1) l.1 l.2 (row.getD (o+i) xy)) tm:
  ∃h',Ok B G (w.setRow b row) h'/\Step B (p::ts) ts [] w (w.setRow b row) h h'/\
   RelK c.P B s (w.setRow b row) h' tm p (.pointer<|J ⟨b,0,U⟩) (.mem<|JL cs o new):=by
 obtain⟨T,a1,W⟩:=d.aw p 0 b r;obtain⟨Z,H⟩:=jw Y;have q:Same h.F w<|w.setRow b row:=Dt d _ λx hx e=>W<|e▸hx;have C:∀i x,f (i+1)=J x->x≠b/\((h.bl p (i+1)=J x)\/∃t∈ts,∃j,h.bl t j=J x):=by
  intro i x hx;have n:h.bl p (i+1)=J x\/∃t∈ts,∃j,h.bl t j=J x:=by
   by_cases a2:o<=i/\i<o+I new;have:=D (i-o) x Z0;grind;grind
  refine⟨λe=> ?_,n⟩;subst e;obtain n|⟨t,O,j,hj⟩:=n;grind;grind
 refine⟨h.put p f<|YY h ts,d.put Z1 (λu i x _ hx=>(Vh hx).1) (λi x hx=>.inr ?_) L (λi x u j hu K hj=> ?_),
  Sq (below_setRow w T _) (λx hx hn=>Zj4 w b x _ λe=>hn p Z1 0<|e▸r) Z1 (λt O=>⟨by simp[O],O⟩) (λ_=>A),b,row,ty,by grind [GH.put],rfl,Zll w b g _ ty (0,0) hh,by rw[a0,z.1,Z],λi l K=> ?_⟩
 cases i with
 |zero=>grind
 |succ i=>
  grind
 obtain⟨k1,k2⟩:=Vh hj;cases i with
 |zero=>rw[A]at K;exact hu (d.inj u j p 0 x k1 K).1
 |succ i=>
  rcases(C i x K).2 with n|⟨t,O,j',X⟩;exact hu (d.inj u j p (i+1) x k1 n).1;exact k2<|(d.inj u j t j' x k1 X).1▸O
 have y:(h.put p f<|YY h ts).bl p (i+1)=f (i+1):=by simp[GH.put]
 rw[y];have a:∀x,f (i+1)=J x->(w.setRow b row).heap[x]?=w.heap[x]? :=λx hx=>Zj4 w b x _ (C i x hx).1;obtain⟨Q,n,R⟩|⟨Q,R⟩:=H i l K;have:=M (i-o) l R;rw[show o+(i-o)=i from by omega]at this;exact this.keep q (λ_ S=>S) a;have:=z.2 i l R;rw[N i Q,k i Q];rw[k i Q]at a;exact this.keep q (λ_ S=>S) a
theorem LH{p o new k}(d:UF g p o new=J k):∃a,memOf g p=J a/\o+I new<=I a/\k=.mem (JL a o new):=by
 grind [UF,Option.bind_eq_some_iff,Option.some.injEq]
theorem zf(R:RelG c B G s a w h g){T}(S:YT c.P T=xk){p o b new k}(X:UF g p o new=J k)(r:h.bl p 0=J b){v}(K:v.cells.size=c.P.cellsOf T)(l:I new=c.P.cellsOf T)
  {ts} {f:Nat->Option Nat} (L:p∉ts) (H:f 0=h.bl p 0) (n:∀i,i<o\/o+I new<=i->f (i+1)=h.bl p (i+1)) (z:∀i x,i<I new->f (o+i+1)=J x->h.bl p (o+i+1)=J x\/∃t∈ts,∃j,h.bl t j=J x)
  (A:∀i j x,f i=J x->f j=J x->i=j)
  (D:∀i F,new[i]?=J F->RelC c.P B s w h (f<|o+i+1) F.1 F.2 (v.cells.getD i xy)):
  ∃w' h',(Instr.storeAt T (.pointer<|J ⟨b,o,U⟩) v).run c.P w=.ok () w'/\Ok B G w' h'/\Step B (p::ts) ts [] w w' h h'/\∃u,a.tmps[p]?=J u/\RelK c.P B s w' h' (λp=>a.tmps[p]?) p u k:=by
 obtain⟨cs,W,C,rfl⟩:=LH X;obtain⟨b',q,ty,N,M,O,y⟩:=R.de W;rw[r]at N;cases N;have d:o+v.cells.size<=q.size:=by rw[y.1,K,<-l];exact C
 have Y:v.cells.size=I new:=by rw[K,l]
 obtain⟨h',k1,Z,k3⟩:=PR (row:=WX q o v.cells) R.ok r O y (Dj d) C (λi Q=>jn d Z0) L H n z A (λi F Q=>by
  grind [Di,List.getElem?_eq_some_iff]) (λp=>a.tmps[p]?)
 refine⟨_,h',Dn S O K (λi Q=> ?_) d,k1,Z,_,M,k3⟩;exact(D i new[i]<|Zh8 Z0).cell
theorem Zbc{n:Nat}{e z v}(t:eval s e=J z)(r:∀l,z≠.aq l)(g:Rd w h.F z v)o{i d}(f:i<I z.cells)(p:d=(CK.fz,E.ac e i)):RelC c.P B s w h o d.1 d.2<|v.cells.getD i xy:=by
 subst p;obtain⟨q,j,k⟩:=g.cells r;have a:z.cells[i]?=J z.cells[i]:=Zh8 f;refine⟨z.cells[i],?_,j _<|Zhx _,k i _ a⟩;simp_all[eval,Zhk,Y1,O1,YV,Zhi,Zhx]
theorem OD{β:Type}{n i f}{y:β}(a:((List.range n).map f)[i]?=J y):i<n/\y=f i:=by
 grind
theorem M2(r:RelG c B G s a w h g){T}(hT:YT c.P T=xk)(a5:Y8 c.P T=xk\/c.P.cellsOf T=1){p o x m}(u:qd c g T p o x=J m)(a2:∀e∈m.es,∃z,eval s e=J z){b}(N:h.bl p 0=J b):
  ∃w' h',(Instr.storeAt T (.pointer<|J ⟨b,o,U⟩)<|a.eval x).run c.P w=.ok () w'/\MPost c B G s a w w' h h' m:=by
 have F:∀fz,(h.bc fz).bl p 0=J b:=λfz=>by simp[GH.bc,N]
 unfold qd at u;simp only at u;split at u;rename_i a0;split at u;rename_i t cs hk;split at u;rename_i C;obtain⟨hl,D,_⟩:=C;simp only[Zha]at u;obtain⟨k,q,rfl⟩:=u;obtain⟨v,hv,⟨vs,rfl,a1⟩,_⟩:=r.look (Yv s c) (show look g [] t=_ from hk) rfl;rw[Act.al a t _ hv]
 obtain⟨w',h',H,K,L,M⟩:=zf r hT q N (v:=.agg vs) (by show vs.size=_;rw[a1.1,hl]) hl (ts:=[t]) (f:=λi=>if o+1<=i/\i<o+1+(I cs) then h.bl t (i-o)else h.bl p i) (by simpa using ZiX D)
  (Zhg Z0) (λi d=>Zhg Z0) (λi x d hx=>.inr ⟨t,Z1,_,by rw[Zhi Z0]at hx;exact hx⟩) (λi j x d A=>by
   split at d<;>split at A;have:=(r.ok.inj t _ t _ x d A).2;omega;exact absurd (r.ok.inj t _ p _ x d A).1 D;exact absurd (r.ok.inj t _ p _ x A d).1 D;exact(r.ok.inj p _ p _ x d A).2)
  (λi Z d=>by
   have a3:=(Zh9.1 d).1;rw[Zhi Z0,show o+i+1-o=i+1 from by omega];exact a1.2 i Z d)
 exact⟨w',h',H,L,K,Wz (ts:=[t]) M⟩;cases u;simp only[Zh6,Zha]at u;obtain⟨R,S,k,q,rfl⟩:=u;obtain⟨z,hz⟩:=a2 _<|List.Mem.head _;obtain⟨k1,k2,k3,k4⟩:=Bw r S hz;obtain⟨O,a6,W⟩:=k4.cells k1
 obtain⟨w',h',H,K,L,M⟩:=zf (r.ng R.2) hT q (F _) (O.trans<|k2 rfl) Z1 (ts:=[]) (f:=(h.bc R.2).bl p) Z1 rfl (λ_ _=>rfl) (λi x _ hx=>.inl hx)
  (λi j x d A=>((zh r.ok R.2).1.inj p i p j x d A).2) (λi Z d=>by
   obtain⟨a3,rfl⟩:=OD d;exact Zbc (n:=0) hz k1 k4 _ (by rw[k2 rfl];exact a3) rfl)
 exact⟨w',h',H,L.after,K,Wz (ts:=[]) M⟩;rename_i a0;have Y:c.P.cellsOf T=1:=a5.resolve_left a0;split at u;rename_i t ty e hk;split at u;rename_i C;obtain⟨D,_⟩:=C;simp only[Zha]at u;obtain⟨k,q,rfl⟩:=u;obtain⟨v,hv,⟨y,hy,Q⟩,_⟩:=r.look (Yv s c) (show look g [] t=_ from hk) rfl;rw[Act.al a t _ hv];have a4:v.cells=#[v]:=by
  obtain⟨l,xs,_,_,_,⟨_,hc⟩,_⟩|⟨_,_,_,_,_,_,_,rfl,_⟩:=Q;obtain⟨rfl,_⟩|⟨_,_,_,rfl,_⟩:=hc<;>rfl;rfl
 obtain⟨w',h',H,K,L,M⟩:=zf r hT q N (v:=v) (by rw[a4,Y];rfl) (by rw[Y];rfl) (ts:=[t]) (f:=λi=>if i=o+1 then h.bl t 1 else h.bl p i) (by simpa using ZiX D)
  (Zhg Z0) (λi d=>Zhg (by simp only[ZiO]at d;omega)) (λi x d hx=>.inr ⟨t,Z1,1,by simp only[ZiO]at d;rw[Zhi Z0]at hx;exact hx⟩) (λi j x d A=>by
   split at d<;>split at A;omega;exact absurd (r.ok.inj t _ p _ x d A).1 D;exact absurd (r.ok.inj t _ p _ x A d).1 D;exact(r.ok.inj p _ p _ x d A).2)
  (λi Z d=>by
   cases i with
   |zero=>simp at d;subst d;rw[Zhi Z0,a4];exact⟨y,hy,Q⟩
   |succ i=>simp at d)
 exact⟨w',h',H,L,K,Wz (ts:=[t]) M⟩;cases u;rename_i hk;simp only[Zha]at u;obtain⟨k,q,rfl⟩:=u;rw[Jy r (Yv s c) hk]
 obtain⟨w',h',H,K,L,M⟩:=zf r hT q N (v:=.slice U 0 0) (by rw[Y];rfl) (by rw[Y];rfl) (ts:=[]) (f:=h.bl p) Z1 rfl (λ_ _=>rfl) (λi x _ hx=>.inl hx)
  (λi j x d A=>(r.ok.inj p i p j x d A).2) (λi Z d=>by
   cases i with
   |zero=>simp at d;subst d;exact⟨rfl,rfl⟩
   |succ i=>simp at d)
 exact⟨w',h',H,L,K,Wz (ts:=[]) M⟩;simp only[Zh6,Zha]at u;obtain⟨R,S,k,q,rfl⟩:=u;obtain⟨z,hz⟩:=a2 _<|List.Mem.head _;obtain⟨a7,X⟩:=MJ hz;have k4:=Bv r S a7;obtain⟨O,a6,W⟩:=k4.cells<|MK X;rw[TF X]at O W
 obtain⟨w',h',H,K,L,M⟩:=zf (r.ng R.2) hT q (F _) (O.trans (by rw[Y];rfl)) (by rw[Y];rfl) (ts:=[]) (f:=(h.bc R.2).bl p) Z1 rfl (λ_ _=>rfl) (λi x _ hx=>.inl hx)
  (λi j x d A=>((zh r.ok R.2).1.inj p i p j x d A).2) (λi Z d=>by
   cases i with
   |zero=>simp at d;subst d;exact⟨z,hz,X,W 0 z rfl⟩
   |succ i=>simp at d)
 exact⟨w',h',H,L.after,K,Wz (ts:=[]) M⟩
end
end Vm
namespace Vm
open Go
open Go.RowKit (Below)
theorem Pt{cs b o}(d:o+I b<=I cs):I (setCells cs o b)=I cs/\(∀i,i<I b->(setCells cs o b)[o+i]?=b[i]?)/\∀i,i<o\/o+I b<=i->(setCells cs o b)[i]?=cs[i]? :=by
 unfold setCells;refine⟨Zge,λi a=> ?_,λi a=> ?_⟩;grind;obtain a|a:=a;grind;rw[Zhy Zge,ZhF];grind
theorem Za5{cs b o x}(hx:x∈setCells cs o b):x∈cs\/x∈b:=by
 grind [setCells,List.mem_of_mem_take,List.mem_of_mem_drop]
theorem Z8B{y:V}{k o b}(u:y.an k)(F:∀x∈b,x.one=xk)(q:b≠[])(a:o+I b<=I y.cells):
  (y.put o b).an k/\(∀i,i<I b->(y.put o b).cells[o+i]?=b[i]?)/\∀i,i<o\/o+I b<=i->(y.put o b).cells[i]?=y.cells[i]? :=by
 have other:y.cells=[y]->y.put o b=b.headD y->(y.put o b).an k/\(∀i,i<I b->(y.put o b).cells[o+i]?=b[i]?)/\∀i,i<o\/o+I b<=i->(y.put o b).cells[i]?=y.cells[i]? :=by
  intro w j;have h:I y.cells=1:=by rw[w];rfl
  match b,q,a with
  | [z],_,a=>
    simp only[ZiO]at a;have H:o=0:=Z0;subst H;have A:=F z Z1;have t:y.put 0 [z]=z:=by rw[j];rfl
    rw[t];refine⟨⟨by rw[TF A,<-u.1,h];rfl,λc d=>by simp_all[TF]⟩,λi G=> ?_,λi G=> ?_⟩;have:i=0:=Zgc;subst this;rw[TF A];simp_all[TF,ZhP]
  |z::L::r,_,a=>grind
 cases y with
 |agg p=>
  have g:o+I b<=I p:=a;obtain⟨B,C,D⟩:=Pt g;refine⟨⟨by show I (setCells p o b)=k;rw[B];exact u.1,λc d=> ?_⟩,C,D⟩;obtain d|d:=Za5 (show c∈setCells p o b from d);exact u.2 c d;simp_all
 |aq l=>exact other rfl rfl
 |int k n=>exact other rfl rfl
 |bool v=>exact other rfl rfl
 |str v=>exact other rfl rfl
 |sl l=>exact other rfl rfl
 |ptr l=>exact other rfl rfl
 |fn f=>exact other rfl rfl
 |cy f p=>exact other rfl rfl
 |mh k=>exact other rfl rfl
 |mp id ks K=>exact other rfl rfl
theorem Z01{x i z u o}(a:Rs x i o z=J u):∃l d q y,x=.sl l/\i=.int d (q:Nat)/\l[q]?=J y/\o+I z.cells<=I y.cells/\z.cells≠[]/\u=.sl (l.set q<|y.put o z.cells):=by
 unfold Rs at a;split at a;rename_i l d i;split at a;rename_i g;obtain⟨q,rfl⟩:=Zhp g;rw[Zhm,Zh6]at a;obtain⟨y,h,a⟩:=a;split at a;rename_i f;simp only[Zh7]at a;exact⟨l,d,q,y,rfl,rfl,h,f.1,f.2,a.symm⟩;grind;grind;grind
section
variable {c:Ctx}{B:Nat}{G:Nat->Prop}{s:St}{a a':Act}{w w':World}{h h':GH}{g:Gam}{C:ZG}{fz ps rb:List Nat}
theorem OwnV.store(Q:Ok B G w h){p i n ty x u v}(hv:OwnV c.P B w h (h.bl p i) ty x v)(L:h.bl p i=J n){ki q off z}(hu:Rs x (.int ki (q:Nat)) off z=J u)
  {T} (hT:YT c.P T=xk) {t} (b8:∀l,z≠.aq l) (b7:Rd w h.F z t) (d9:I z.cells=c.P.cellsOf T):
  ∃row,(Instr.storeAt T (.pointer<|J ⟨n,q*c.P.cellsOf ty+off,U⟩) t).run c.P w=.ok () (w.setRow n row)/\OwnV c.P B (w.setRow n row) h (h.bl p i) ty u v:=by
 obtain⟨l,xs,rfl,h0,N,S,C,a9⟩|⟨_,_,_,_,_,_,rfl,_⟩:=hv;case inr=>grind [Z01]
 obtain⟨l',e0,d,y,a2,a7,hy,O,a5,rfl⟩:=Z01 hu;cases a2;simp only[V.int.injEq]at a7;have a8:d=q:=Z0;subst a8;obtain⟨d5,b9,a4⟩:=Q.aw p i n L;obtain⟨X,b2,Y⟩:=b7.cells b8;have a0:=N y<|Zhh hy;obtain⟨f1,f2,f3⟩:=Z8B a0 (λx hx=>b2 x hx) a5 O;have hq:d<I l:=(Zh9.1 hy).1;have d6:d*c.P.cellsOf ty+c.P.cellsOf ty<=I l*c.P.cellsOf ty:=by rw[<-Zit];exact ZhS _ hq
 rw[a0.1]at O;obtain⟨rfl,hn⟩|⟨H,cap,a,rfl,hB,hh,a3,M,b3,b4⟩:=S.2;omega;have a6:H=n:=by
  have:Value.ownBlock (.slice (J ⟨H,0,U⟩) (I l) cap)=J H:=rfl;rw[this,L]at C;cases C;rfl
 subst a6;have c7:I l*c.P.cellsOf ty<=a.size:=by rw[b3];exact ZhS _ a3
 have g:(d*c.P.cellsOf ty+off)+t.cells.size<=a.size:=by rw[X];omega
 refine⟨WX a (d*c.P.cellsOf ty+off) t.cells,Dn hT hh Z0 (λj hj=> ?_) g,?_⟩;have a1:j<I z.cells:=by rw[<-X];exact hj
 have:=Y j z.cells[j]<|Zh8 a1;rw[this.ir];simp_all;have k:∀x∈l.set d (y.put off z.cells),x.an<|c.P.cellsOf ty:=by
  intro x hx;obtain hx|rfl:=ZiB hx;simp_all;exact f1
 have K:Same h.F w<|w.setRow H<|WX a (d*c.P.cellsOf ty+off) t.cells:=Dt Q _ λx hx e=>a4<|e▸hx;have b0:=Dj g;refine .inl ⟨l.set d<|y.put off z.cells,(WX a (d*c.P.cellsOf ty+off) t.cells).toList.take<|I l*c.P.cellsOf ty,rfl,h0,k,⟨Zgd,.inr ⟨H,cap,_,Z1,hB,Zll w H a _ ty (0,0) hh,Zgd,M,Z0,Z1⟩⟩,C,λj ck hj=> ?_⟩;obtain⟨f,r,y2,A,hr,rfl,b6⟩:=AU k h0 hj;have W:f<I l:=by simpa using(Zh9.1 A).1
 have c0:f*c.P.cellsOf ty+c.P.cellsOf ty<=I l*c.P.cellsOf ty:=by rw[<-Zit];exact ZhS _ W
 have d0:f*c.P.cellsOf ty+r< (WX a (d*c.P.cellsOf ty+off) t.cells).size:=by rw[b0];omega
 refine⟨(WX a (d*c.P.cellsOf ty+off) t.cells).getD (f*c.P.cellsOf ty+r) xy,?_,?_⟩;rw[ZhL,Zhi Z0,Zis];simp_all
 ·
  have e1:∀y0,l[f]?=J y0->y0.cells[r]?=J ck->(f*c.P.cellsOf ty+r<d*c.P.cellsOf ty+off\/d*c.P.cellsOf ty+off+t.cells.size<=f*c.P.cellsOf ty+r)->
    Rd (w.setRow H<|WX a (d*c.P.cellsOf ty+off) t.cells) h.F ck ((WX a (d*c.P.cellsOf ty+off) t.cells).getD (f*c.P.cellsOf ty+r) xy):=by
   intro y0 d7 d8 R;obtain⟨u0,Z,b1⟩:=a9 (f*c.P.cellsOf ty+r) ck (by simp_all[Vt]);rw[jn g R];have:a.getD (f*c.P.cellsOf ty+r) xy=u0:=by
    rw[<-b4,ZhL,Zhi Z0]at Z;have b5:a[f*c.P.cellsOf ty+r]?=J u0:=by simpa using Z
    simp[Zhd,b5]
   rw[this];exact b1.keep K λ_ C=>C
  by_cases D:f=d;subst D;rw[ZiG hq]at A;cases A;by_cases c8:off<=r/\r<off+I z.cells;have h2:=f2 (r-off) Z0;rw[show off+(r-off)=r from by omega,b6]at h2;have h3:=Di g (i:=r-off) Z0;rw[show f*c.P.cellsOf ty+off+(r-off)=f*c.P.cellsOf ty+r from by omega]at h3;rw[h3];exact(Y (r-off) ck h2.symm).keep K λ_ C=>C;grind;rw[Zin<|ZiX D]at A;have c1:f*c.P.cellsOf ty+c.P.cellsOf ty<=d*c.P.cellsOf ty\/d*c.P.cellsOf ty+c.P.cellsOf ty<=f*c.P.cellsOf ty:=by
   obtain o|o:=Zjl D;left;rw[<-Zit];exact ZhS _ o;right;rw[<-Zit];exact ZhS _ o
  grind
theorem Z6v(hr:RelG c B G s a w h g){T}(hT:YT c.P T=xk)(b6:Y8 c.P T=xk\/c.P.cellsOf T=1){p off kk i j x m}(o:BW c g T p i j off kk x=J m)(a1:∀e∈m.es,∃z,eval s e=J z)
  {n q} (a0:h.bl p (Rh i)=J n) {ki} (hj:eval s j=J (.int ki (q:Nat))):
  ∃w' h',(Instr.storeAt T (.pointer<|J ⟨n,q*kk+off,U⟩)<|a.eval x).run c.P w=.ok () w'/\MPost c B G s a w w' h h' m:=by
 unfold BW at o;simp only[Zh6]at o;obtain⟨O,a6,o⟩:=o;split at o;cases o;rename_i b1;have a4:p∉O.2:=by simpa using b1
 have S:∀i,(h.bc O.2).bl p i=h.bl p i:=λi=>by simp[GH.bc,a4]
 have d:=hr.ng O.2;have M:∀ {e1 e2:E} {u:V},eval s (.upd e1 j off e2)=J u->∃y z,eval s e1=J y/\eval s e2=J z/\Rs y (.int ki (q:Nat)) off z=J u:=by
  intro e1 e2 u N;simp only[eval,hj,Zhk,Zh6]at N;obtain⟨y,hy,z,Z,N⟩:=N;exact⟨y,z,hy,Z,N⟩
 have zs:∀ {z:V},eval s (V8 (Y8 c.P T) (c.P.cellsOf T) O.1)=J z->(∀l,z≠.aq l)/\Rd w (h.bc O.2).F z (a.eval x)/\I z.cells=c.P.cellsOf T:=by
  intro z Z;obtain⟨k1,k2,k3,k4⟩:=Bw hr a6 Z;refine⟨k1,k4,?_⟩;cases b7:Y8 c.P T with
  |true=>grind
  |false=>
   simp_all[TF]
 split at o;simp only[Zh6]at o;obtain⟨⟨ty,e⟩,ho,o⟩:=o;split at o;rename_i Q;simp only[Zh7]at o;subst o;simp only at Q;subst Q;obtain⟨v,hv,y,hy,C⟩:=d.fd ho;obtain⟨u,N⟩:=a1 _<|List.Mem.head _;obtain⟨y',z,L,Z,K⟩:=M N;rw[hy]at L;cases L;obtain⟨k1,k2,k3⟩:=zs Z;have f:(h.bc O.2).bl p 1=J n:=by rw[S];exact a0
 obtain⟨row,H,D⟩:=C.store d.ok f K hT k1 k2 k3;obtain⟨Y,a3,_⟩:=d.ok.aw p 1 n f
 refine⟨_,h.bc O.2,H,Step.after ⟨below_setRow w Y _,λx hx hn=>Zj4 w n x _ λe=>hn p Z1 1<|e▸f,λ_ r=>r,λ_ _ _=>rfl,λ_ _=>rfl,λ_ _ _ _ o=>(by simp at o),rfl⟩,
  ⟨by simp;exact d.ok.base,λb r=>(by simp;exact d.ok.bz b r),d.ok.cz,d.ok.fj,λt i b r=>(by simp;exact d.ok.aw t i b r),d.ok.inj,λb r=>(by simp;exact d.ok.cx b r),d.ok.cp,d.ok.fk⟩,Wz (ts:=[]) ⟨v,hv,u,N,D⟩⟩
 cases o;rename_i q0;simp only[Zh6]at o;obtain⟨cs,W,o⟩:=o;split at o;rename_i ty e0 hc;split at o;rename_i Q;subst Q;simp only[Zha]at o;obtain⟨k,a5,rfl⟩:=o;obtain⟨b5,A,a8,rfl⟩:=LH a5;rw[W]at A;cases A;obtain⟨b,vs,b4,R,b3,hh,X⟩:=d.de W;obtain⟨y,hy,C⟩:=X.2 q0 _ hc;obtain⟨u,N⟩:=a1 _<|List.Mem.head _;obtain⟨y',z,L,Z,K⟩:=M N;rw[hy]at L;cases L;obtain⟨k1,k2,k3⟩:=zs Z;have f:(h.bc O.2).bl p (q0+1)=J n:=by rw[S];exact a0
 obtain⟨row,H,D⟩:=C.store d.ok f K hT k1 k2 k3;obtain⟨Y,a3,a9⟩:=d.ok.aw p (q0+1) n f;have b8:b≠n:=λe=>by
  subst e;have:=(d.ok.inj p 0 p (q0+1) b R f).2;omega
 obtain⟨b2,a2⟩:=jw a8
 refine⟨_,h.bc O.2,H,Step.after ⟨below_setRow w Y _,λx hx hn=>Zj4 w n x _ λe=>hn p Z1 (q0+1)<|e▸f,λ_ r=>r,λ_ _ _=>rfl,λ_ _=>rfl,λ_ _ _ _ o=>(by simp at o),rfl⟩,
  ⟨by simp;exact d.ok.base,λb r=>(by simp;exact d.ok.bz b r),d.ok.cz,d.ok.fj,λt i b r=>(by simp;exact d.ok.aw t i b r),d.ok.inj,λb r=>(by simp;exact d.ok.cx b r),d.ok.cp,d.ok.fk⟩,
  Wz (ts:=[]) ⟨_,b3,b,vs,b4,R,rfl,by simp_all[Zj4],by rw[X.1,b2],λi ck hi=> ?_⟩⟩
 obtain⟨h1,h2,h3⟩|⟨h1,h3⟩:=a2 i ck hi;have a7:i=q0:=by simp only[ZiO]at h2;omega
 subst a7;simp at h3;subst h3;exact⟨u,N,D⟩;refine(X.2 i ck h3).keep (Dt d.ok _ λx hx e=>a9<|e▸hx) (λ_ r=>r) λx hx=>Zj4 w n x _ λe=> ?_;subst e;have:=(d.ok.inj p (i+1) p (q0+1) x hx f).2;grind;cases o;cases o
theorem Z2q{x i u z n k}(d:US x i n k z=J u):∃a f j,x=.agg a/\i=.int f (j:Nat)/\j<n/\I a=n*k/\I z.cells=k/\u=.agg (setCells a (j*k) z.cells):=by
 unfold US at d;split at d;rename_i a f i;split at d;rename_i o;obtain⟨g,p,h,l⟩:=o;obtain⟨j,rfl⟩:=Zhp g;simp only[Zhm,Zh7]at d;exact⟨a,f,j,rfl,rfl,Z0,h,l,d.symm⟩;grind;grind
theorem Z6u(hr:RelG c B G s a w h g){T}(hT:YT c.P T=xk){p o n d j x m}(D:BV c g T p o j n d x=J m)(a8:∀e∈m.es,∃z,eval s e=J z)
  {b q} (Z:h.bl p 0=J b) {ki} (hj:eval s j=J (.int ki (q:Nat))) (hq:q<n):
  ∃w' h',(Instr.storeAt T (.pointer<|J ⟨b,o+q*d,U⟩)<|a.eval x).run c.P w=.ok () w'/\MPost c B G s a w w' h h' m:=by
 unfold BV at D;simp only[Zh6]at D;obtain⟨b0,a6,D⟩:=D;split at D;cases D;rename_i H;simp only[Zhr,Ziz,ZhG,Zlx,Decidable.not_not,Zkc,ZjS]at H;obtain⟨d9,hk⟩:=H;simp only[Zh6]at D;obtain⟨cs,O,D⟩:=D;split at D;rename_i X;obtain⟨a3,a2⟩:=X;simp only[Zha]at D;obtain⟨k,a4,rfl⟩:=D;obtain⟨d0,K,b1,rfl⟩:=LH a4;rw[O]at K;cases K;obtain⟨b',C,ty,h1,b7,hh,R⟩:=hr.de O;rw[Z]at h1;cases h1;obtain⟨u,hu⟩:=a8 _<|List.Mem.head _;have b8:=hu;simp only[eval,hj,Zhk,Zh6]at hu;obtain⟨y,hy,z,hz,hu⟩:=hu;obtain⟨l,e8,r,rfl,b3,b4,a0,c1,rfl⟩:=Z2q hu;have b5:r=q:=by simp only[V.int.injEq]at b3;omega
 subst b5;obtain⟨k1,k2,k3,k4⟩:=Bw hr a6 hz;have hF:∀b,(h.bc b0.2).F b->h.F b:=by
  intro b Y;obtain Y|⟨t,ht,_⟩:=Y;exact Y;simp_all
 have k4:=k4.mono hF;obtain⟨a5,d8,b6⟩:=k4.cells k1;have b2:Ww ((cs.drop o).take<|n*d)=xw:=by
  simp only[Ww,Zke,Zkm,ZkB,Zls];intro ck Q hd;have:=Zhn.1 a2 ck Q;rw[hd]at this;simp at this
 have d7:UR ((cs.drop o).take<|n*d)=xw:=by
  simp only[UR,Zke,Zkm];intro ck Q;have:=Zhn.1 a2 ck Q;simp only[Zi2]at this;rw[this]
 obtain⟨xs,e4,e5,e6,b9,e7⟩:=R.kj a3 b2 (G':=h.F) (λ_ Y=>Y) (λho=>Zgd);have c7:r*d+d<=n*d:=by rw[<-Zit];exact ZhS _ b4
 have S:0<n*d\/n*d=0:=Z0;have a7:l=xs:=by
  obtain c8|c0:=S;grind [eval,Td,AI,Option.some.injEq,V.agg.injEq];simp_all
 subst a7;have e0:(a.eval x).cells.size=d:=by rw[a5,c1]
 have d6:o+n*d<=C.size:=by
  have:=R.1;simp only[Zid,Zjg]at a3;omega
 have A:(o+r*d)+(a.eval x).cells.size<=C.size:=Z0;have N:∀i (y:V),l[i]?=J y->y.one=xk/\Rd w h.F y (C.getD (o+i) xy):=by
  intro i y M;have W:i<n*d:=by rw[<-a0];exact(Zh9.1 M).1
  cases b9 with
  |agg _ _ e1 e2 e3=>
   have:=e3 i y M;have hg:((C.toList.drop o).take<|n*d).toArray.getD i xy=C.getD (o+i) xy:=by
    simp only[Zhd,ZiN,ZhL,Zhi W,ZhF,Zis]
   grind
 obtain⟨g1,g2,g3⟩:=Pt (cs:=l) (b:=z.cells) (o:=r*d) Z0
 obtain⟨h',e1,e2,e3⟩:=PR (row:=WX C (o+r*d) (a.eval x).cells) (new:=(List.range<|n*d).map λi=>(CK.fz,E.ac (E.di (if Td (c.ix p) o ((cs.drop o).take<|n*d)=xk then E.mm (c.ix p) o (n*d)else .ag (((cs.drop o).take<|n*d).map (·.2))) j n d<|V8 (Y8 c.P T) (c.P.cellsOf T) b0.1) i)) hr.ok Z hh R (Dj A) b1 (λi M=>jn A Zgc) (ts:=[]) (f:=h.bl p) Z1 rfl (λ_ _=>rfl) (λi x _ hx=>.inl hx)
  (λi j x M hj=>(hr.ok.inj p i p j x M hj).2) (λi ck M=>by
   obtain⟨W,rfl⟩:=OD M;have a1:i< I (setCells l (r*d) z.cells):=by rw[g1,a0];exact W
   have key:((setCells l (r*d) z.cells)[i]).one=xk/\Rd w h.F (setCells l (r*d) z.cells)[i] ((WX C (o+r*d) (a.eval x).cells).getD (o+i) xy):=by
    have L:(setCells l (r*d) z.cells)[i]?=J (setCells l (r*d) z.cells)[i]:=Zh8 a1;by_cases d5:r*d<=i/\i<r*d+d;have h2:=g2 (i-r*d) Z0;rw[show r*d+(i-r*d)=i from by omega,L]at h2;have h3:=Di A (i:=i-r*d) Z0;rw[show o+r*d+(i-r*d)=o+i from by omega]at h3;grind;have h2:=g3 i Z0;rw[L]at h2;rw[jn A Z0];exact N i _ h2.symm
   refine⟨_,?_,key.1,key.2⟩;refine Eq.trans (b:=(J<|V.agg<|setCells l (r*d) z.cells).bind λy=>Y1 y i) (Zii (λy=>Option.bind y λy=>Y1 y i) b8) ?_;show((setCells l (r*d) z.cells)[i]?).bind YV=_;rw[Zh8 a1,Zhk];unfold YV;grind) (λp=>a.tmps[p]?)
 exact⟨_,h',Dn hT hh Z0 (λi M=>by
  have a9:i<I z.cells:=by rw[<-a5];exact M
  rw[(b6 i _<|Zh8 a9).ir];simp_all) A,e2,e1,Wz (ts:=[]) ⟨_,b7,e3⟩⟩
 cases D
end
end Vm
namespace Vm
open Go
open Go.RowKit (Below)
open Go.MapKept (IsKey bytes_beq sameNow_of_keys run_checkKey run_findKey run_keyThatStays)
def V6(w:World)(b:Nat)(o:Obj):World:= {w with heap:=w.heap.setIfInBounds b o}
theorem jv w b o:xz (xj<|V6 w b o)=xz (xj w):=by simp[V6]
theorem LY w b x o(h:x≠b):(V6 w b o).heap[x]?=w.heap[x]? :=by
 simp[V6,Zi5<|ZiX h]
theorem Za4{w b}o(h:b<xz (xj w)):(V6 w b o).heap[b]?=J o:=by
 simp[V6,h]
theorem Z2O{B}w{b}o(h:B<=b):Below B w<|V6 w b o:=
 ⟨rfl,rfl,rfl,by simp[V6],λx hx=>LY w b x o Z0⟩
section
variable {c:Ctx}{B:Nat}{G:Nat->Prop}{s:St}{a a':Act}{w w':World}{h h':GH}{g:Gam}{C:ZG}{fz ps rb:List Nat}
theorem Z6n(n:RelG c B G s a w h g){d T x m}(Y:d<a.tmps.size)(q:BR c g d T x=J m):
  ∃v w' h',(Instr.box T<|a.eval x).run c.P w=.ok v w'/\MPost c B G s (a.put (J d) v) w w' h h' m:=by
 unfold BR at q;split at q
 .rename_i t ty e C;split at q
  .rename_i p;obtain⟨S,_⟩:=p;simp only[Zh7]at q;subst q;obtain⟨v,W,⟨y,hy,A⟩,_⟩:=n.look (Yv s c) (show look g [] t=_ from C) rfl;rw[Act.al a t v W];have M:v.cells=#[v]:=by
    obtain⟨l,xs,_,_,_,⟨_,Z⟩,_⟩|⟨_,_,_,_,_,_,_,rfl,_⟩:=A;obtain⟨rfl,_⟩|⟨_,_,_,rfl,_⟩:=Z<;>rfl;rfl
   have z:=Ziu w (.cells v.cells T) U;have R:xz (xj<|w.alloc<|.cells v.cells T)=xz (xj w)+1:=Z1;have O:Same h.F w<|w.alloc<|.cells v.cells T:=λb f=>z.block b (n.ok.bz b f) Z1
   refine⟨.pointer<|J ⟨xz<|xj w,0,U⟩,_,h.put d (λi=>if i=0 then J (xz<|xj w) else if i=1 then h.bl t 1 else U)<|YY h [t],by simp[Instr.box,Dl],
    Sq (QS n.ok z) (λb f _=>z.block b f Z1) Z1 (λu D=>by simp at D;subst D;simp) (λQ=>by simp at Q),
    n.ok.put Z0 (λu i b _ f=>(Vh f).1) (λi b f=> ?_) (λi j b k o=> ?_) (λi b u j D k o=> ?_),Wz (ts:=[t]) ⟨_,VV Y _,xz<|xj w,v.cells,T,by simp[GH.put],rfl,ZhB w _,by rw[M];rfl,λi X k=> ?_⟩⟩
   split at f;simp only[Zh7]at f;subst f;exact .inl ⟨Zhc _,Z0⟩;split at f;exact .inr ⟨t,1,f⟩;cases f
   .have r:∀ {b},h.bl t 1=J b->b<xz (xj w):=λf=>(n.ok.aw t 1 _ f).2.1;split at k<;>split at o<;>(try split at k)<;>(try split at o)<;>first|(cases k;done)|(cases o;done)|omega|skip
    simp only[Zh7]at k;subst k;have:=r o;omega;simp only[Zh7]at o;subst o;have:=r k;omega
   obtain⟨H,N⟩:=Vh o;split at k;simp only[Zh7]at k;subst k;have:=(n.ok.aw u j _ H).2.1;omega;split at k;exact N (by simp[(n.ok.inj t 1 u j b k H).1]);cases k;cases i with
   |zero=>
    simp at k;subst k;refine⟨y,hy,?_⟩;have L:v.cells.getD 0 xy=v:=by rw[M];rfl
    rw[L];have C:=A.keep (h':=h.put d (λi=>if i=0 then J (xz<|xj w) else if i=1 then h.bl t 1 else U)<|YY h [t]) O (λ_ f=>f) λb f=>z.block b (n.ok.aw t 1 b f).2.1 Z1;simpa[GH.put]using C
   |succ i=>simp at k
  cases q
 rename_i t cs C;split at q;rename_i p;obtain⟨S,_⟩:=p;simp only[Zh7]at q;subst q;obtain⟨v,W,⟨vs,rfl,K⟩,_⟩:=n.look (Yv s c) (show look g [] t=_ from C) rfl;rw[Act.al a t _ W];have z:=Ziu w (.cells (Value.agg vs).cells T) U;have R:xz (xj<|w.alloc<|.cells (Value.agg vs).cells T)=xz (xj w)+1:=Z1;have O:Same h.F w<|w.alloc<|.cells (Value.agg vs).cells T:=λb f=>z.block b (n.ok.bz b f) Z1;have r:∀ {i b},h.bl t i=J b->b<xz (xj w):=λf=>(n.ok.aw t _ _ f).2.1
 refine⟨.pointer<|J ⟨xz<|xj w,0,U⟩,_,h.put d (λi=>if i=0 then J (xz<|xj w) else h.bl t i)<|YY h [t],by simp[Instr.box,Dl],
  Sq (QS n.ok z) (λb f _=>z.block b f Z1) Z1 (λu D=>by simp at D;subst D;simp) (λQ=>by simp at Q),
  n.ok.put Z0 (λu i b _ f=>(Vh f).1) (λi b f=> ?_) (λi j b k o=> ?_) (λi b u j D k o=> ?_),Wz (ts:=[t]) ⟨_,VV Y _,xz<|xj w,vs,T,by simp[GH.put],rfl,ZhB w _,K.1,λi X k=> ?_⟩⟩
 split at f;simp only[Zh7]at f;subst f;exact .inl ⟨Zhc _,Z0⟩;exact .inr ⟨t,i,f⟩;split at k<;>split at o;omega;simp only[Zh7]at k;subst k;have:=r o;omega;simp only[Zh7]at o;subst o;have:=r k;omega;exact(n.ok.inj t i t j b k o).2;obtain⟨H,N⟩:=Vh o;split at k;simp only[Zh7]at k;subst k;have:=(n.ok.aw u j _ H).2.1;omega;exact N (by simp[(n.ok.inj t i u j b k H).1]);have C:=(K.2 i X k).keep (h':=h.put d (λi=>if i=0 then J (xz<|xj w) else h.bl t i)<|YY h [t]) O (λ_ f=>f) λb f=>z.block b (n.ok.aw t (i+1) b f).2.1 Z1;simpa[GH.put]using C;cases q;cases q
def Z8i(c:Ctx)(B:Nat)(s:St)(a:Act)(w:World)(h:GH)(g:Gam)(p:Nat)(ty:TypeId)(e:E)(v:Value):Option Nat->Prop
 |none=>a.tmps[p]?=J v
 |some j=>∃d,memOf g p=J d/\d[j]?=J (.own ty,e)/\∃b vs T,h.bl p 0=J b/\a.tmps[p]?=J (.pointer<|J ⟨b,0,U⟩)/\w.heap[b]?=J (.cells vs T (0,0))/\RelCs c.P B s w h p d vs/\vs.getD j xy=v
theorem Z6f(z:RelG c B G s a w h g){x p i ty e}(f:BL g x=J (p,i,ty,e)):
  ∃X,eval s e=J X/\OwnV c.P B w h (h.bl p<|Rh i) ty X (a.eval x)/\Z8i c B s a w h g p ty e (a.eval x) i:=by
 unfold BL at f;split at f;rename_i t C D y;split at f;simp only[Zh7,Zho]at f;obtain⟨rfl,rfl,rfl,rfl⟩:=f;obtain⟨v,A,⟨X,u,d⟩,_⟩:=z.look (Yv s c) (show look g [] t=_ from y) rfl;rw[Act.al a t v A];exact⟨X,u,d,A⟩;cases f;rename_i x _ _ q y;simp only[Zha]at f;obtain⟨⟨C,D⟩,O,f⟩:=f;simp only[Zho]at f;obtain⟨rfl,rfl,rfl,rfl⟩:=f;obtain⟨v,A,X,u,d⟩:=z.fd O;have l:a.tmps[q]?=J (a.eval x):=XN z (Yv s c) y rfl 0;rw[A]at l;simp only[Zh7]at l;rw[<-l];exact⟨X,u,d,A⟩;rename_i x _ _ q j y;simp only[Zh6]at f;obtain⟨M,o,f⟩:=f;split at f;rename_i C D L;simp only[Zh7,Zho]at f;obtain⟨rfl,rfl,rfl,rfl⟩:=f;obtain⟨b,vs,T,F,N,H,K⟩:=z.de o;obtain⟨X,u,d⟩:=K.2 j _ L;obtain⟨Q,r,k⟩:∃b,h.bl q 0=J b/\w.cell? ⟨b,j,U⟩=J (a.eval x):=XN z (Yv s c) y rfl 0;rw[F]at r;cases r;rw[Zhl w b j vs T (0,0) H]at k;have n:vs.getD j xy=a.eval x:=by simp[Zhd,k]
 rw[n]at d;exact⟨X,u,d,M,o,L,b,vs,T,F,N,H,K,n⟩;cases f;cases f
theorem M0(H:RelG c B G s a w h g)(ha:a'.tmps=a.tmps){T x f m}(K:qc g T x f=J m)(a9:∀e∈m.es,∃z,eval s e=J z)
  (R:∀e z,eval s (f e)=J z->∃X,eval s e=J X/\∃id ks S,X=.mp id ks S):
  ∃e id ks S b O N,eval s e=J (.mp id ks S)/\(∃z,eval s (f e)=J z)/\a.eval x=.map (J b)/\w.heap[b]?=J (.map O N)/\I ks=O.size/\I S=O.size/\
   (∀i c,ks[i]?=J c->Rd w h.F c (O.getD i default).key)/\(∀i c,S[i]?=J c->Rd w h.F c (O.getD i default).val)/\
   ∀o r d n,eval s (f e)=J (.mp id o r)->I o=d.size->I r=d.size->(∀i c,o[i]?=J c->Rd w h.F c (d.getD i default).key)->(∀i c,r[i]?=J c->Rd w h.F c (d.getD i default).val)->
    MPost c B G s a' w (V6 w b<|.map d n) h h m:=by
 unfold qc at K;simp only[Zh6]at K;obtain⟨⟨p,i,ty,e⟩,a8,K⟩:=K;split at K;rename_i a2;simp only at a2;subst a2;simp only[Zha]at K;obtain⟨k,D,rfl⟩:=K;obtain⟨X,hX,a1,u⟩:=Z6f H a8;obtain⟨z,hz⟩:=a9 _<|List.Mem.head _;obtain⟨X',W,id,ks,S,rfl⟩:=R e z hz;rw[hX]at W;cases W;obtain⟨l,_,hl,_⟩|⟨b9,o,r,b,O,N,a7,hv,M,hB,hid,hh,h1,h2,h3,h4⟩:=a1;cases hl;cases a7;refine⟨e,id,ks,S,b,O,N,hX,⟨z,hz⟩,hv,hh,h1,h2,h3,h4,λo r d n he a3 a4 a5 a6=> ?_⟩;obtain⟨b7,b3,b4⟩:=H.ok.aw p (Rh i) b M;have hF:Same h.F w<|V6 w b<|.map d n:=λy L=>LY w b y _ λe=>b4<|e▸L;have C:OwnV c.P B (V6 w b<|.map d n) h (h.bl p<|Rh i) ty (.mp id o r)<|a.eval x:=
  .inr ⟨id,o,r,b,d,n,rfl,hv,M,hB,hid,Za4 _ b3,a3,a4,λi c Z=>(a5 i c Z).keep hF λ_ Q=>Q,λi c Z=>(a6 i c Z).keep hF λ_ Q=>Q⟩
 refine⟨⟨Z2O w _ hB,λy L hn=>LY w b y _ λe=>hn p Z1 (Rh i)<|e▸M,λ_ Q=>Q,λ_ _ _=>rfl,λ_ _=>rfl,λ_ _ _ _ K=>(by simp at K),rfl⟩,
  ⟨by grind [jv],λy L=>by rw[jv];exact H.ok.bz y L,H.ok.cz,H.ok.fj,λt j y L=>by rw[jv];exact H.ok.aw t j y L,H.ok.inj,λy L=>by rw[jv];exact H.ok.cx y L,H.ok.cp,H.ok.fk⟩,?_⟩
 obtain _|j:=i;simp only[Oq,Zh7]at D;subst D;exact Wz (ts:=[]) ⟨_,by rw[ha];exact u,_,he,C⟩;obtain⟨cs,a0,hc,b0,vs,T',e1,e2,e3,e4,e5⟩:=u;obtain⟨b6,A,b2,rfl⟩:=LH D;rw[a0]at A;cases A;have b8:b0≠b:=λe=>by
  simp_all
 obtain⟨b5,Y⟩:=jw b2;refine Wz (ts:=[]) ⟨_,Zgd,b0,vs,T',e1,rfl,by simp_all[LY],by rw[e4.1,b5],λq ck Z=> ?_⟩;obtain⟨q1,q2,q3⟩|⟨q1,q3⟩:=Y q ck Z;have b1:q=j:=by simp only[ZiO]at q2;omega
 subst b1;simp at q3;subst q3;exact⟨_,he,by rw[e5];exact C⟩;refine(e4.2 q ck q3).keep hF (λ_ Q=>Q) λy L=>LY w b y _ λe=> ?_;subst e;have:=(H.ok.inj p (q+1) p (j+1) y L M).2;grind;cases K
theorem Z6p(A:RelG c B G s a w h g)(y:a'.tmps=a.tmps){T ty x m}(f:BT c g T x=J m)(n:∀e∈m.es,∃z,eval s e=J z):
  ∃v w' h',(Builtin.clear_ #[T] ty #[a.eval x]).run c.P w=.ok v w'/\MPost c B G s a' w w' h h' m:=by
 unfold BT at f;split at f;rename_i k;unfold Bo at k;split at k;rename_i M C l;obtain⟨e,id,ks,N,b,D,d,q,_,r,p,F,H,K,L,t⟩:=M0 A y f n λe z j=>by
  simp only[eval,Zh6]at j;obtain⟨X,u,j⟩:=j;refine⟨X,u,?_⟩;cases X<;>simp[L6]at j;simp
 refine⟨.tuple #[],V6 w b<|.map #[] d,h,?_,t [] [] #[] d (by simp[eval,q,L6]) rfl rfl (λi c o=>by simp at o) (λi c o=>by simp at o)⟩;rw[r];simp[Builtin.clear_,ZhQ l,ZiT p,Zka _ p,Result.andThen,V6];cases k;cases f
theorem Z6t(hr:RelG c B G s a w h g)(ha:a'.tmps=a.tmps){T x k v m}(r:BU c g T x k v=J m)(a0:∀e∈m.es,∃z,eval s e=J z):
  ∃w' h',(Instr.mapUpdate T (a.eval x) (a.eval k)<|a.eval v).run c.P w=.ok () w'/\MPost c B G s a' w w' h h' m:=by
 unfold BU at r;split at r;rename_i kt el hT;simp only[Zh6]at r;obtain⟨kc,a3,ek,hk,ev,hv,r⟩:=r;split at r;cases r;rename_i N;have a5:ev.2=[]:=by simpa using N
 obtain⟨kv,O,q⟩:=WT hr (Yv s c) hk;obtain⟨vv,Q,p⟩:=WT hr (Yv s c) hv;rw[a5]at p;have p:=p.F;obtain⟨e,id,ks,xs,b,y,u,h1,⟨z,f⟩,h3,S,L,Z,W,h8,h9⟩:=M0 hr ha r a0 λe z f=>by
  simp only[eval,O,Q,Zhk,Zh6]at f;obtain⟨X,hX,f⟩:=f;obtain⟨_,_,_,_,_,rfl,_⟩:=Mc f;exact⟨_,hX,_,_,_,rfl⟩
 have R:=f;simp only[eval,h1,O,Q,Zhk]at f;unfold T8 at f;split at f;cases f;rename_i o;have o:Vg kc kv=xk:=by simpa using o
 have H:=Im a3;have t:=L1 o q;have a2:Rd w h.F kv<|a.eval k:=q.gn (by cases kc<;>cases kv<;>simp[Vg,V.bp]at o⊢);have M:=ZkG (w:=w) H t;have a4:=run_keyThatStays (P:=c.P) (w:=w) t;simp only at f;rw[h3];split at f;rename_i j hf;obtain⟨en,e1,e2,Y⟩:=KG (w2:=w) (G'':=h.F) o q hf (l:=y.toList) ZgV (λi c d=>by simpa[Zhd]using W i c d) 0;simp only[Zh7]at f;subst f;have D:y[j]?=J en:=by simpa using e1
 have a1:j<y.size:=(Zhe.1 D).1;have A:=Zkw (w:=w) H Y;refine⟨V6 w b<|.map (y.modify j λe=> {e with key:=a.eval k,val:=a.eval v}) u,h,?_,h9 _ _ _ _ R ZgV (by simpa using Z) (λi c d=> ?_)<|λi c d=> ?_⟩;have:y[j]=en:=by rw[Zi1 a1]at D;simpa using D
 simp[Instr.mapUpdate,ZhQ hT,ZiT S,M,A,D,this,e2,a4,Zka _ S,Result.andThen,V6];have:=W i c d;rw[Zhd,ZhT];rw[Zhd]at this;by_cases n:j=i;subst n;rw[D]at this;simp only[Zi9,D,ZhA,ZhE];simp only[ZhE,e2]at this;exact this;rw[Zhg n];exact this;rw[Zhd,ZhT];by_cases n:j=i;subst n;simp only[Zi9,D,ZhA,ZhE];rw[ZiG Z0]at d;cases d;exact p;rw[Zhg n];rw[Zin n]at d;have:=h8 i c d;rw[Zhd]at this;exact this;rename_i hf;have Y:=KG (w2:=w) (G'':=h.F) o q hf (l:=y.toList) ZgV (λi c d=>by simpa[Zhd]using W i c d) 0;simp only[Zh7]at f;subst f;have A:=Zkw (w:=w) H Y;refine⟨V6 w b<|.map (y.push {key:=a.eval k,val:=a.eval v,born:=u})<|u+1,h,?_,h9 _ _ _ _ R (by simp[L]) (by simp[Z]) (λi c d=> ?_)<|λi c d=> ?_⟩;simp[Instr.mapUpdate,ZhQ hT,ZiT S,M,A,Zka _ S,Result.andThen,V6];rw[Zhd,Zjx];by_cases K:i<I ks;rw[ZhI K]at d;rw[Zhg Z0];have:=W i c d;rw[Zhd]at this;exact this;rw[Zhy Z0]at d;have C:i=I ks:=by
  have:=(Zh9.1 d).1;simp at this;omega
 subst C;simp at d;subst d;rw[Zhi L];exact a2;rw[Zhd,Zjx];by_cases K:i<I xs;rw[ZhI K]at d;rw[Zhg Z0];have:=h8 i c d;rw[Zhd]at this;exact this;rw[Zhy Z0]at d;have C:i=I xs:=by
  have:=(Zh9.1 d).1;simp at this;omega
 subst C;simp at d;subst d;rw[Zhi Z];exact p;cases f;cases r
end
end Vm
namespace Vm
open Go
open Go.RowKit (Below)
theorem zd:∀ {cs} {a:List Nat} {i t:Nat},X8 cs a i=J t->t∈a
 | [],_,_,_,h=>by simp[X8]at h
 | (k,e)::cs,a,i,t,h=>by
   cases k with
   |own d=>
    obtain _|⟨u,a⟩:=a;simp[X8]at h;cases i with
    |zero=>simp[X8]at h;simp[h]
    |succ i=>exact ZhK _<|zd (by simpa[X8]using h)
   |_=>
    cases i with
    |zero=>simp[X8]at h
    |succ i=>exact zd (by simpa[X8]using h)
theorem DF:∀ {cs} {a:List Nat} {i j t:Nat},a.Nodup->X8 cs a i=J t->X8 cs a j=J t->i=j
 | [],_,_,_,_,_,h,_=>by simp[X8]at h
 | (k,e)::cs,a,i,j,t,d,h,h'=>by
   cases k with
   |own l=>
    obtain _|⟨u,a⟩:=a;simp[X8]at h;obtain⟨g,f⟩:=Zjb.1 d;cases i with
    |zero=>
     cases j with
     |zero=>rfl
     |succ j=>
      grind [X8,absurd,zd]
    |succ i=>
     cases j with
     |zero=>
      grind [X8,absurd,zd]
     |succ j=>exact Zii (· +1)<|DF f (by simpa[X8]using h) (by simp_all[X8])
   |_=>
    cases i with
    |zero=>simp[X8]at h
    |succ i=>
     cases j with
     |zero=>simp[X8]at h'
     |succ j=>exact Zii (· +1)<|DF d (by simpa[X8]using h) (by simp_all[X8])
section
variable {c:Ctx}{B:Nat}{G:Nat->Prop}{s:St}{a a':Act}{w w':World}{h h':GH}{g:Gam}{C:ZG}{fz ps rb:List Nat}
theorem Z6o(hr:RelG c B G s a w h g){T}{parts:Array (Nat×Operand)}{d}(hd:d<a.tmps.size){m}(o:BS c g d T parts.toList=J m)(W:∀e∈m.es,∃z,eval s e=J z):
  ∃v h',(Instr.build T<|parts.map λ(i,x)=>(i,a.eval x)).run c.P w=.ok v w/\MPost c B G s (a.put (J d) v) w w h h' m:=by
 unfold BS at o;simp only[Zh6]at o;obtain⟨fs,hT,zs,hz,b,C,o⟩:=o;split at o;cases o;rename_i k;simp only[Zhr,Ziz,Zlx,ZiR,not_exists,not_and,Zkc]at k;obtain⟨K,D⟩:=k;have D:=C4 D;have K:∀t∈b.2.2,t∉b.2.1/\t≠d:=by
  intro t N;have:=K t N;simp only[Zjp,ZhG,Zi2]at this;exact⟨this.1.1,this.1.2⟩
 simp only[Zh7]at o;subst o;obtain⟨z,a2⟩:=W _<|List.Mem.head _;have q:=a2;simp only[eval,Zha]at q;obtain⟨xs,a1,a4⟩:=q;obtain⟨hl,hx⟩:=UV a1
 obtain⟨vs,H,a0,Z,r⟩:=P7 hr (Yv s c) hT hz C (λL S=>by
  obtain⟨i,n⟩:=ZhH S;obtain⟨x,_,he⟩:=hx i L.2 Zgd;simp_all)
 obtain⟨l,_⟩:=zh hr.ok b.2.1;let f:Nat->Option Nat:=λi=>match i with|0=>U|i+1=>(X8 b.1 b.2.2 i).bind λt=>(h.bc b.2.1).bl t 1
 have X:∀i x,f i=J x->∃O t,i=O+1/\X8 b.1 b.2.2 O=J t/\(h.bc b.2.1).bl t 1=J x:=by
  intro i x n;cases i with
  |zero=>cases n
  |succ i=>
   simp only[f,Zh6]at n;simp_all
 refine⟨.agg vs,(h.bc b.2.1).put d f<|YY (h.bc b.2.1) b.2.2,H,Step.after<|Sq (Zhw _ _) (λ_ _ _=>rfl) Z1 (λu hu=>⟨by simp[hu],by simp[hu]⟩) (λhn=>by simp at hn),
  l.put (Zhc _) (λu i b _ C=>(Vh C).1) (λi x hx=> ?_) (λi j x n Y=> ?_) (λi x u j hu n Y=> ?_),Wz ⟨.agg vs,VV hd _,vs,rfl,a0,λi L n=> ?_⟩⟩
 grind;obtain⟨O,t,rfl,N,A⟩:=X i x n;obtain⟨j',t',rfl,a3,Q⟩:=X j x Y;have:=(l.inj t 1 t' 1 x A Q).1;grind [DF];obtain⟨O,t,rfl,N,A⟩:=X i x n;obtain⟨k1,k2⟩:=Vh Y;exact k2<|(l.inj u j t 1 x k1 A).1▸zd N;have R:((h.bc b.2.1).put d f<|YY (h.bc b.2.1) b.2.2).bl d (i+1)=(X8 b.1 b.2.2 i).bind λt=>(h.bc b.2.1).bl t 1:=by simp[GH.put,f]
 rw[R];have M:=r i L n;unfold BRel at M;obtain⟨kk,e⟩:=L;cases kk with
 |own ty=>
  obtain⟨t,A,h2,h3,y,hy,F⟩:=M;refine⟨y,hy,F.mono (λ_ C=>.inl C) ?_⟩;simp_all[GH.bc]
 |nil=>exact M
 |fz=>
  obtain⟨y,A,h2,h3⟩:=M;exact⟨y,A,h2,h3.mono<|DV λp hp=>hp⟩
 |gh=>grind
theorem Ae(a:Ok B G w h){o}(ho:∀b,o=J b->∃t i,h.bl t i=J b){D T ty x z v y}(hv:OwnV c.P B w h o D x v)(hT:c.P.underlying T=J (.slice D))(Q:UU c.P D=xk)
  {O Gy} (hy:Rd w Gy (.sl O) y) (p:∀(i:Nat) n u,(flat O)[i]?=J n->Rd w Gy n u->Rd w h.F n u) (hz:RH (c.P.cellsOf D) x (.sl O)=J z):
  ∃C w',(Builtin.append_ #[T,T] ty #[v,y]).run c.P w=.ok C w'/\Below B w w'/\(∀b,b<xz (xj w)->o≠J b->w'.heap[b]?=w.heap[b]?)/\
   (C.ownBlock=o\/∀b,C.ownBlock=J b->xz (xj w)<=b/\b<xz (xj w'))/\∀h',h'.F=h.F->OwnV c.P B w' h' C.ownBlock D z C:=by
 obtain⟨l,xs,rfl,h0,K,j,g,a1⟩|⟨_,_,_,_,_,_,rfl,_⟩:=hv;case inr=>grind [QP]
 obtain⟨l1,r,S,a0,L,a2,rfl⟩:=QP hz;cases S;cases a0;obtain⟨C,w',N,M,Y,hg,X,q,A⟩:=Dk (ty:=ty) hT Q j a.base hy a2 L;have d:∀b,b<xz (xj w)->o≠J b->w'.heap[b]?=w.heap[b]? :=λb g hn=>hg.block b g Zgc;have H:Same h.F w w':=λb g=>d b (a.bz b g) λe=>by
  obtain⟨t,i,f⟩:=ho b e;exact(a.aw t i b f).2.2 g
 refine⟨C,w',M,(Zhw B w).grown hg a.base λk hk=> ?_,d,?_,λh' hF=>.inl ⟨l++O,xs++N,rfl,h0,λx hx=> ?_,Zgd,rfl,λi n f=> ?_⟩⟩;rw[‹v.ownBlock=o›]at hk;obtain⟨t,i,f⟩:=ho k hk;exact(a.aw t i k f).1;obtain h1|⟨h1,h2⟩:=X;simp_all;exact .inr λb g=>h2.lt b g;obtain hx|hx:=ZhC.1 hx;simp_all;exact q x hx;have R:=TW K;rw[AS]at f;by_cases W:i< I (flat l);rw[ZhI W]at f;obtain⟨u,hu,Z⟩:=a1 i n f;exact⟨u,Zgc,Z.keep H λb g=>Zgd⟩;rw[Zhy Z0]at f;obtain⟨u,hu,Z⟩:=A _ n f;have a3:I xs=I (flat l):=by rw[j.1,R]
 exact⟨u,Zgc,(p _ n u f Z).keep H λb g=>Zgd⟩
theorem Ad{a d k z}(f:eval s (.app a d k)=J z):∃x y,eval s a=J x/\eval s d=J y/\RH k x y=J z:=by
 simp_all[eval,Zh6]
theorem Fu(a:Ok B G w h){t0 i0 d:Nat}{ts o}(A:∀b,o=J b->∃t∈ts,h.bl t 1=J b)(r:d∉ts){v':Value}(g:Below B w w')(f:∀b,b<xz (xj w)->o≠J b->w'.heap[b]?=w.heap[b]?)
  (y:v'.ownBlock=o\/∀b,v'.ownBlock=J b->xz (xj w)<=b/\b<xz (xj w')):
  Ok B G w' (h.put d (λi=>if i=1 then v'.ownBlock else U)<|YY h ts)/\Step B (d::ts) (d::ts) [] w w' h (h.put d (λi=>if i=1 then v'.ownBlock else U)<|YY h ts):=by
 have x:∀i b,(if i=1 then v'.ownBlock else U)=J b->i=1/\((xz (xj w)<=b/\b<xz (xj w'))\/∃t∈ts,h.bl t 1=J b):=by
  intro i b k;split at k;grind;cases k
 refine⟨a.put g.size (λu i b _ g=>(Vh g).1) (λi b k=> ?_) (λi j b k p=>Zgc) (λi b u j C k p=> ?_),
  Sq g (λb g q=>f b g λe=> ?_) Z1 (λt l=>⟨by simp[l],by simp[l]⟩) (λq=>by simp at q)⟩
 grind;obtain⟨k1,z⟩:=Vh p;rcases(x i b k).2 with n|⟨t,l,n⟩;have:=(a.aw u j b k1).2.1;omega;exact z<|(a.inj u j t 1 b k1 n).1▸l;grind
theorem Z6m(hr:RelG c B G s a w h g){T P ty x y d}(hd:d<a.tmps.size){m}(l:BQ c g d T P x y=J m)(a3:∀e∈m.es,∃z,eval s e=J z):
  ∃v w' h',(Builtin.append_ #[T,P] ty #[a.eval x,a.eval y]).run c.P w=.ok v w'/\MPost c B G s (a.put (J d) v) w w' h h' m:=by
 unfold BQ at l;split at l;rename_i Z hT;have a2:=JS hT;split at l;rename_i n;obtain⟨rfl,X⟩:=n;simp only[Zh6]at l;obtain⟨b0,b7,l⟩:=l;generalize a6:SO (XM c.P Z) b0=A at l;have f:=hr.ng A.2;have K:∀ {yy:V} {l2:List V},eval s A.1=J yy->yy=.sl l2->∃Gy,Rd w Gy (.sl l2) (a.eval y)/\∀(i:Nat) (S:V) (u:Value),(flat l2)[i]?=J S->Rd w Gy S u->Rd w (h.bc A.2).F S u:=by
  rintro yy l2 L rfl;obtain⟨Gy,W,h2⟩:=Gl hr (Yv s c) b7 (fl:=XM c.P Z) (by rw[a6];exact L);rw[a6]at h2;exact⟨Gy,W,λi S u hi hu=>(h2 _ rfl i S u hi hu).mono<|DV λp hp=>hp⟩
 have a1:∀ {t:Nat} {e:E} {v:Value},t≠d->(∃y,eval s e=J y/\OwnV c.P B w (h.bc A.2) ((h.bc A.2).bl t 1) Z y v)->m= {d:=[(d,[],.own Z<|.app e A.1<|c.P.cellsOf Z),(t,[],.no)],ps:=[d,t],rb:=[d,t],fz:=A.2,es:=[.app e A.1<|c.P.cellsOf Z]}->
   ∃H w' h',(Builtin.append_ #[T,T] ty #[v,a.eval y]).run c.P w=.ok H w'/\MPost c B G s (a.put (J d) H) w w' h h' m:=by
  rintro t e v C ⟨yv,Y,r⟩ rfl;obtain⟨z,hz⟩:=a3 _<|List.Mem.head _;obtain⟨xx,yy,D,L,o⟩:=Ad hz;rw[Y]at D;cases D;obtain⟨_,l2,_,rfl,_⟩:=QP o;obtain⟨Gy,e1,e2⟩:=K L rfl;obtain⟨H,w',k1,k2,k3,k4,k5⟩:=Ae (ty:=ty) f.ok (λb q=>⟨t,1,q⟩) r a2 X e1 e2 o;obtain⟨q1,q2⟩:=Fu (d:=d) (ts:=[t]) (t0:=0) (i0:=0) f.ok (λb q=>⟨t,Z1,q⟩) Zgc k2 k3 k4;exact⟨H,w',_,k1,q2.after,q1,Wz (ts:=[t]) ⟨H,VV hd H,z,hz,(k5 (h.bc A.2) rfl).mono (λ_ q=>q)<|by simp[GH.put]⟩⟩
 split at l;rename_i hk;simp only[Zh7]at l;subst l;have hv:=Jy f (Yv s c) hk;rw[hv];obtain⟨z,hz⟩:=a3 _<|List.Mem.head _;obtain⟨xx,yy,D,L,o⟩:=Ad hz;simp only[eval,Zh7]at D;subst D;obtain⟨_,l2,_,rfl,_⟩:=QP o;obtain⟨Gy,e1,e2⟩:=K L rfl;obtain⟨i,zz,hi,d8,d9,h0,d6,N⟩:=Kw X;have r:OwnV c.P B w (h.bc A.2) U Z (.sl [])<|.slice U 0 0:=.inl ⟨[],[],rfl,Z0,λx hx=>by simp at hx,Ziq w B Z _,rfl,λi S hi=>by simp[flat]at hi⟩;obtain⟨H,w',k1,k2,k3,k4,k5⟩:=Ae (ty:=ty) f.ok (λb q=>by cases q) r a2 X e1 e2 o;obtain⟨q1,q2⟩:=Fu (d:=d) (ts:=[]) (t0:=0) (i0:=0) f.ok (λb q=>by cases q) Z1 k2 k3 k4;exact⟨H,w',_,k1,q2.after,q1,Wz (ts:=[]) ⟨H,VV hd H,z,hz,(k5 (h.bc A.2) rfl).mono (λ_ q=>q)<|by simp[GH.put]⟩⟩;rename_i t b5 e hk;split at l;rename_i n;obtain⟨rfl,C,_⟩:=n;simp only[Zh7]at l;obtain⟨v,hv,Q,_⟩:=f.look (Yv s c) (show look _ [] t=_ from hk) rfl;rw[Act.al a t v hv];exact a1 C Q l.symm;cases l;rename_i p hk;simp only[Zh6]at l;obtain⟨⟨b5,e⟩,ho,l⟩:=l;split at l;rename_i n;obtain⟨b3,a9⟩:=n;simp only at b3;subst b3;simp only[Zh7]at l;obtain⟨u,hu,Q⟩:=f.fd ho;have hv:=XN f (Yv s c) hk rfl 0;have b4:=hu.symm.trans hv;simp only[Zh7]at b4;rw[<-b4];exact a1 a9 Q l.symm;cases l;rename_i p i hk;simp only[Zh6]at l;obtain⟨cs,a0,l⟩:=l;split at l;rename_i b5 e hc;split at l;rename_i n;obtain⟨rfl,a9⟩:=n;simp only[Zha]at l;obtain⟨k,b1,rfl⟩:=l;obtain⟨d0,O,c1,rfl⟩:=LH b1;rw[a0]at O;cases O;obtain⟨b,vs,b6,q,d7,hh,N⟩:=f.de a0;have hv:=XN f (Yv s c) hk rfl 0;obtain⟨b',a5,M⟩:=hv;rw[q]at a5;cases a5;rw[Zhl w b i vs b6 (0,0) hh]at M;have a7:∀v,vs[i]?=J v->vs.getD i xy=v:=λv hv=>Zgd;obtain⟨yv,Y,r⟩:=N.2 i _ hc;rw[a7 _ M]at r;simp only at r Y;obtain⟨z,hz⟩:=a3 _<|List.Mem.head _;obtain⟨xx,yy,D,L,o⟩:=Ad hz;rw[Y]at D;cases D;obtain⟨_,l2,_,rfl,_⟩:=QP o;obtain⟨Gy,e1,e2⟩:=K L rfl;obtain⟨H,w',k1,k2,k3,k4,k5⟩:=Ae (ty:=ty) f.ok (λb q=>⟨p,i+1,q⟩) r a2 X e1 e2 o;have hF:Same (h.bc A.2).F w w':=λx hx=>k3 x (f.ok.bz x hx) λe=>(f.ok.aw p (i+1) x e).2.2 hx;have d5:w'.heap[b]?=w.heap[b]? :=k3 b (f.ok.aw p 0 b q).2.1 λe=>by
  have:=(f.ok.inj p 0 p (i+1) b q e).2;omega
 obtain⟨c7,a4⟩:=jw c1;have hf:∀j x,(if j=1 then H.ownBlock else U)=J x->j=1/\((xz (xj w)<=x/\x<xz (xj w'))\/(h.bc A.2).bl p (i+1)=J x):=by
  intro j x R;split at R;grind;cases R
 have b2:∀u j x,(if u=p/\j=i+1 then U else(h.bc A.2).bl u j)=J x->(h.bc A.2).bl u j=J x/\¬(u=p/\j=i+1):=by
  intro u j x R;split at R;cases R;grind
 refine⟨H,w',(h.bc A.2).put d (λj=>if j=1 then H.ownBlock else U) (λu j=>if u=p/\j=i+1 then U else(h.bc A.2).bl u j),k1,Step.after ⟨k2,λx hx hn=>k3 x hx λe=>hn p Z1 (i+1) e,λ_ q=>q,λt ht _=> ?_,λt ht=> ?_,λ_ _ _ _ l=>(by simp at l),rfl⟩,
  f.ok.put k2.size (λu j x _ hx=>(b2 u j x hx).1) (λj x hx=> ?_) (λj j' x R a8=>Zgc) (λj x u j' hu R a8=> ?_),λt ht=> ?_⟩
 grind [GH.put];have W:t≠d:=Zgc;simp[GH.put,W];grind;obtain⟨q1,q2⟩:=b2 u j' x a8;rcases(hf j x R).2 with W|W;have:=(f.ok.aw u j' x q1).2.1;omega;exact q2<|f.ok.inj u j' p (i+1) x q1 W;simp only[ZV,ZhN,Zj5,Zhs,ZiL,Zk9]at ht;by_cases C:t=d;subst C;simp only[Gam.at,Zi9];exact⟨trivial,λ_=>⟨H,VV hd H,z,hz,(k5 (h.bc A.2) rfl).mono (λ_ q=>q)<|by simp[GH.put]⟩⟩;have c8:t=p:=ht.resolve_left C;subst c8;simp only[Gam.at,Zhg<|ZiX C,Zi9];refine⟨trivial,λ_=>⟨_,by grind [Qq],b,vs,b6,by simpa[GH.put,C]using q,rfl,Zgc,by rw[N.1,c7],λj S R=> ?_⟩⟩;obtain⟨W,h2,h3⟩|⟨W,h3⟩:=a4 j S R;have c0:j=i:=by simp only[ZiO]at h2;omega
 subst c0;simp at h3;subst h3;exact(N.2 j _ hc).cell;have b9:j≠i:=by simp only[ZiO]at W;omega
 have b8:((h.bc A.2).put d (λj=>if j=1 then H.ownBlock else U)<|λu j=>if u=t/\j=i+1 then U else(h.bc A.2).bl u j).bl t (j+1)=(h.bc A.2).bl t (j+1):=by simp[GH.put,C,b9]
 rw[b8];exact(N.2 j S h3).keep hF (λ_ q=>q) λx hx=>k3 x (f.ok.aw t (j+1) x hx).2.1 λe=>by
  have:=(f.ok.inj t (j+1) t (i+1) x hx e).2;omega
 cases l;cases l;cases l;cases l;cases l
def EC(c:Ctx)(B:Nat)(G:Nat->Prop)(s:St)(a:Act)(w:World)(h:GH)(o:Oper)(m:MS):Prop:=
 ∃n u w' h',(execOp a.eval o).run c.P w=.ok n w'/\(n=.value u\/n=.skip/\u=xy)/\MPost c B G s (a.put o.dst u) w w' h h' m
theorem Z6w(D:RelG c B G s a w h g){o:Oper}(L:∀d,o.dst=J d->d<a.tmps.size){m}(l:mk c g o=J m)(A:∀e∈m.es,∃z,eval s e=J z):EC c B G s a w h o m:=by
 obtain⟨dst,op,type,pos,after,guard⟩:=o;unfold mk at l;simp only at l L;split at l;rename_i x d;obtain⟨h',Q⟩:=IY D (L _ rfl) l A;exact⟨_,_,w,h',rfl,.inl rfl,Q⟩;rename_i x d;obtain⟨h',Q⟩:=IY D (L _ rfl) l A;exact⟨_,_,w,h',rfl,.inl rfl,Q⟩;rename_i T S x;unfold M1 at l;split at l;cases l;rename_i F;simp only[Zhr,Ziz,Zlx,Zkc,Bool.or_eq_false_iff,not_and,Zi2]at F;obtain⟨N,M⟩:=F;have M:Y8 c.P T=xk\/c.P.cellsOf T=1:=by
  cases X:Y8 c.P T with
  |true=>simp
  |false=>simp_all
 have fin:∀ {R:Value},a.eval S=R->(∃w' h',(Instr.storeAt T R<|a.eval x).run c.P w=.ok () w'/\MPost c B G s a w w' h h' m)->EC c B G s a w h {dst:=U,op:=.store T S x,type,pos,after,guard} m:=by
  rintro R rfl ⟨w',h',r,C⟩;refine⟨.skip,xy,w',h',?_,.inr ⟨rfl,rfl⟩,C⟩;simp[execOp,r]
 split at l;rename_i Z K;obtain⟨t,rfl,⟨v,hv,O,⟨b,vs,ty,r,rfl,_⟩⟩,_⟩:=(Jw D (Yv s c) K rfl).resolve_left Z1;exact fin O<|M2 D N M l A r;rename_i p o K;obtain⟨b,r,C⟩:=XN D (Yv s c) K rfl 0;grind [M2];rename_i p i j o k K;obtain⟨n,q,r,⟨Y,C⟩,W⟩:=XN D (Yv s c) K rfl 0;grind [Z6v];rename_i p o j n k K;obtain⟨b,q,r,⟨Y,C⟩,W,h4⟩:=XN D (Yv s c) K rfl 0;grind [Z6u];cases l;rename_i T parts d;obtain⟨v,h',r,C⟩:=Z6o D (L _ rfl) l A;exact⟨.value v,v,w,h',by simp[execOp,r],.inl rfl,C⟩;rename_i T x d;obtain⟨v,w',h',r,C⟩:=Z6n D (L _ rfl) l;exact⟨.value v,v,w',h',by simp[execOp,r],.inl rfl,C⟩;rename_i T m' k v;obtain⟨w',h',r,C⟩:=Z6t (a':=a) D rfl l A;exact⟨.skip,xy,w',h',by simp[execOp,r],.inr ⟨rfl,rfl⟩,C⟩;rename_i args f;split at l;rename_i x T hx N;have u:args=#[x]:=Zio.1 Z0;have H:f=#[T]:=Zio.1 Z0;subst u H;obtain⟨v,w',h',r,C⟩:=Z6p (a':=a) (ty:=type) D rfl l A;exact⟨.value v,v,w',h',by simp[execOp,resolve,invoke,builtin,r],.inl rfl,C⟩;cases l;rename_i args f d;split at l;rename_i x y T P hx N;have u:args=#[x,y]:=Zio.1 Z0;have H:f=#[T,P]:=Zio.1 Z0;subst u H;obtain⟨v,w',h',r,C⟩:=Z6m (ty:=type) D (L _ rfl) l A;exact⟨.value v,v,w',h',by simp[execOp,resolve,invoke,builtin,r],.inl rfl,C⟩;cases l;cases l
end
end Vm
namespace Vm
open Go
def JU(calls:FuncId->Array Value->World->(Ending->World->Prop)->Prop)(o:Oper)(a:Act)(K:Act->World->Prop):Result Next->Prop
 |.ok (.value v) w'=>K (a.put o.dst v) w'
 |.ok .skip w'=>K (a.put o.dst xy) w'
 |.ok (.enter f args) w'=>calls f args w' λe d=>∃v,e=.returned v/\K (a.put o.dst v) d
 |_=>False
section
variable (calls:FuncId->Array Value->World->(Ending->World->Prop)->Prop)(o:Oper)(a:Act)(K:Act->World->Prop)(w:World)
theorem Z03 v:JU calls o a K (.ok (.value v) w)=K (a.put o.dst v) w:=rfl
theorem Zba:JU calls o a K (.ok .skip w)=K (a.put o.dst xy) w:=rfl
theorem Z02 f args:JU calls o a K (.ok (.enter f args) w)=calls f args w λe d=>∃v,e=.returned v/\K (a.put o.dst v) d:=rfl
end
def Z2U(d:World->World->Prop)(P:Program)(fn:Func)(R:Ending->World->Prop):Exit->Act->World->Prop
 |.normal,a,w|.ret,a,w=>a.defers=[]/\∀w1,d w w1->∃v,(results fn a.tmps).run P w1=.ok v w1/\R (.returned v) w1
 |_,_,_=>False
class Lg (P:Program) where
 wp:Code->(Exit->Act->World->Prop)->Act->World->Prop
 ln:FuncId->Array Value->World->(Ending->World->Prop)->Prop
 todo:Array Oper->(Exit->Act->World->Prop)->List Nat->Act->World->Prop
 mw:World->World->Prop
 ma:Oper->Prop
 oi:∀ {w w1},mw w w1->w1= {w with drawn:=w1.drawn}
 dy:∀ {f args w} {R R':Ending->World->Prop},ln f args w R->(∀e w',R e w'->R' e w')->ln f args w R'
 wp_mono:∀ {c a w} {Q Q':Exit->Act->World->Prop},wp c Q a w->(∀e a w,Q e a w->Q' e a w)->wp c Q' a w
 wp_skip:∀ {Q a w},Q .normal a w->wp .skip Q a w
 wp_label:∀ {l Q a w},Q .normal a w->wp (.label l) Q a w
 wp_exit:∀ {id Q a w},Q (.exit id) a w->wp (.exit id) Q a w
 wp_ret:∀ {Q a w},Q .ret a w->wp .ret Q a w
 wp_seq:∀ {x y Q a w},wp x (Exit.then (wp y Q) Q) a w->wp (.seq x y) Q a w
 ur:∀ {x} {Q:Exit->Act->World->Prop} {a w},wp x (Exit.noGoto Q) a w->wp (.scope x) Q a w
 wp_cond_true:∀ {c x y Q} {a:Act} {w},a.eval c=.bool xk->wp x Q a w->wp (.cond c x y) Q a w
 wp_cond_false:∀ {c x y Q} {a:Act} {w},a.eval c=.bool xw->wp y Q a w->wp (.cond c x y) Q a w
 wp_block:∀ {id x Q a w},wp x (Exit.inBlock id Q) a w->wp (.block id x) Q a w
 wp_loop:∀ {x Q a w} (I:Act->World->Prop) (μ:Act->World->Nat),I a w->(∀a w,I a w->wp x (Exit.then (λa' w'=>I a' w'/\μ a' w'<μ a w) Q) a w)->wp (.loop x) Q a w
 wp_region:∀ {id ops Q a w},(∀o∈ops,ma o)->todo ops Q (List.range ops.size) a w->wp (.region id ops xw) Q a w
 vq:∀ {id ops Q a} {w:World},(∀o∈ops,ma o)->(∀w1,mw w w1->∀t,todo ops Q (Region.schedule (P.follows .mixedOrders) ops t) a {w1 with drawn:=w1.drawn+1})->wp (.region id ops xk) Q a w
 li:∀ {ops Q a w},Q .normal a w->todo ops Q [] a w
 nj:∀ {ops Q i rest a w},(∀o∈ops,ma o)->(∀w1,mw w w1->match ops[i]? with
   |none=>todo ops Q rest a w1
   |some o=>if Region.wanted o (yielded ops a.tmps)=xk then JU ln o a (todo ops Q rest) ((execOp a.eval o).run P w1)else todo ops Q rest (a.put o.dst xy) w1)->todo ops Q (i::rest) a w
 calls_of_wp:∀ {f fn c args w R},P.funcs[f]?=J fn->fn.body=J c->wp c (Z2U mw P fn R) {tmps:=args++Array.replicate (fn.ntmps-args.size) xy,defers:=[]} w->ln f args w R
instance (priority:=low) loneQ (P:Program):Lg P where
 wp c Q a w:=c.wp P Q a w
 ln f args w R:=Calls P f args w R
 todo ops Q l a w:=wpOps P ops Q l a w
 mw w w1:=w1=w
 ma _:=True
 oi h:=by subst h;rfl
 dy h k:=ZjU h k
 wp_mono h k:=Go.wp_mono h k
 wp_skip h:=Go.wp_skip h
 wp_label h:=Go.wp_label h
 wp_exit h:=Go.wp_exit h
 wp_ret h:=Go.wp_ret h
 wp_seq h:=Go.wp_seq h
 ur h:=Go.wp_scope_straight h
 wp_cond_true:=Go.wp_cond_true
 wp_cond_false:=Go.wp_cond_false
 wp_block h:=Go.wp_block h
 wp_loop I μ h k:=Go.wp_loop I μ h k
 wp_region _ h:=Go.wp_region h
 vq _ h:=Go.wp_region_draw λt=>h _ rfl t
 li h:=h
 nj {ops Q i rest a w} _ h:=by
  have h:=h w rfl;rw[wpOps_cons];unfold wpOp
  revert h
  cases hi:ops[i]? with
  |none=>exact id
  |some o=>
   dsimp only;split;intro h;left;unfold Oper.wp
   revert h
   cases(execOp a.eval o).run P w with
   |halt x w'=>exact False.elim
   |ok n w'=>
    cases n<;>first|exact id|exact False.elim|skip
    exactλh=>ZjU h λe w'' he=>by
     obtain⟨v,rfl,hk⟩:=he;exact hk
   exact id
 calls_of_wp {f fn c args w R} hf hb h:=Go.calls_of_wp hf hb (Go.wp_mono h λe a w he=>by
  cases e with
  |normal=>obtain⟨h1,h2⟩:=he;obtain⟨v,h3,h4⟩:=h2 w rfl;exact⟨h1,v,h3,h4⟩
  |ret=>obtain⟨h1,h2⟩:=he;obtain⟨v,h3,h4⟩:=h2 w rfl;exact⟨h1,v,h3,h4⟩
  |_=>exact he.elim)
def Qj(P:Program) [Lg P](ops:Array Oper)(i:Nat)(K:Act->World->Prop)(a:Act)(w:World):Prop:=
 match ops[i]? with
 |none=>K a w
 |some o=>if Region.wanted o (yielded ops a.tmps)=xk then JU (Lg.ln P) o a K ((execOp a.eval o).run P w)else K (a.put o.dst xy) w
theorem Z7n{P:Program} [Lg P]{ops:Array Oper}{i:Nat}{K g:Act->World->Prop}{a:Act}{w:World}(h:∀a w,K a w->g a w)(d:Qj P ops i K a w):Qj P ops i g a w:=by
 unfold Qj at*;split;exact h _ _ (by simpa[*]using d);rename_i o p;simp only[p]at d;split;rename_i f;rw[Zhi f]at d
 revert d
 cases(execOp a.eval o).run P w with
 |halt x w'=>exact id
 |ok n w'=>
  cases n<;>first|exact id|exact h _ _|skip
  exactλj=>Lg.dy j λe q ⟨v,k,l⟩=>⟨v,k,h _ _ l⟩
 rename_i f;rw[Zhg f]at d;exact h _ _ d
def zK(P:Program) [Lg P](ops:Array Oper)(Q:Exit->Act->World->Prop):Nat->Array Bool->Act->World->Prop
 |0,listed,a,w=>Region.ready .any ops listed=[]/\Q .normal a w
 |n+1,listed,a,w=>(Region.ready .any ops listed=[]->Q .normal a w)/\∀i∈Region.ready .any ops listed,∀w1,Lg.mw P w w1->Qj P ops i (zK P ops Q n<|listed.setIfInBounds i xk) a w1
theorem Z2p{P:Program} [Lg P]{ops:Array Oper}{Q:Exit->Act->World->Prop}(l:∀o∈ops,Lg.ma P o):∀(d t:Nat) (listed:Array Bool) (a:Act) (w:World),zK P ops Q d listed a w->
  Lg.todo P ops Q (Region.linearise.go .any ops d t listed []) a w:=by
 intro d;induction d with
 |zero=>intro t listed a w h;exact Lg.li h.2
 |succ d u=>
  intro t listed a w h;obtain⟨q,r⟩:=h;simp only[Region.linearise.go]
  change Lg.todo P ops Q (match(Region.ready .any ops listed)[t% I (Region.ready .any ops listed)]? with
   |some i=>Region.linearise.go .any ops d (t / I (Region.ready .any ops listed)) (listed.setIfInBounds i xk) [i]
   |none=>[].reverse) a w
  cases g:(Region.ready .any ops listed)[t% I (Region.ready .any ops listed)]? with
  |none=>
   have f:Region.ready .any ops listed=[]:=by
    cases n:Region.ready .any ops listed with
    |nil=>rfl
    |cons x k=>
     rw[n]at g;have j:t% I (x::k)< I (x::k):=Zks _ Z1;simp at g;simp at j;omega
   exact Lg.li<|q f
  |some i=>
   simp only[];rw[linearise_go_acc,Zl2,Zlc];exact Lg.nj l λw1 p=>Z7n (λa w=>u _ _ a w)<|r i (Zhh g) w1 p
theorem Z9b{P:Program} [Lg P]{ops:Array Oper}{Q:Exit->Act->World->Prop}{id:Nat}{a:Act}{w:World}(d:∀o∈ops,Lg.ma P o)(f:P.follows .mixedOrders=xk)
  (h:∀w1,Lg.mw P w w1->zK P ops Q ops.size (Array.replicate ops.size xw) a {w1 with drawn:=w1.drawn+1}):Lg.wp P (.region id ops xk) Q a w:=
 Lg.vq d λw1 g t=>by
  simp only[Region.schedule,f,Bool.true_or,Zi9];exact Z2p d ops.size t _ a _<|h w1 g
def TS(p:Oper->Prop):Code->Prop
 |.region _ ops _=>∀o∈ops,p o
 |.seq x y=>TS p x/\TS p y
 |.cond _ x y=>TS p x/\TS p y
 |.block _ x|.loop x|.scope x=>TS p x
 |_=>True
class FitF (P:Program) [Lg P] (f:FuncId):Prop where
 all:∀fn c,P.funcs[f]?=J fn->fn.body=J c->TS (Lg.ma P) c
theorem Fp{p:Oper->Prop}(h:∀o,p o):∀c:Code,TS p c:=by
 intro c;induction c with
 |region id ops d=>exactλo _=>h o
 |seq x y hx a=>exact⟨hx,a⟩
 |cond c x y hx a=>exact⟨hx,a⟩
 |block id x hx=>exact hx
 |loop x hx=>exact hx
 |scope x hx=>exact hx
 |_=>trivial
instance (priority:=low) fit_lone (P:Program) (f:FuncId): @FitF P (loneQ P) f:=⟨λ_ c _ _=>Fp (λ_=>trivial) c⟩
end Vm
namespace Vm
open Go
open Go.RowKit (Below)
def U5(P:Program)(f:FuncId):Bool:=
 match P.funcs[f]? with
 |some fn=> !(fn.name== "runtime.NumGoroutine")&&fn.body.isSome
 |none=>xw
def VC(P:Program) [Lg P](f:FuncId)(fr:Bool)(args:List V)(r:V):Prop:=
 U5 P f=xk/\∀(w:World) (G:Nat->Prop) (vs:Array Value),(∀b,G b->b<xz (xj w))->vs.size=I args->(∀(i:Nat) (x:V),args[i]?=J x->Rd w G x (vs.getD i xy))->
  Lg.ln P f vs w λe w'=>∃v,e=.returned v/\Below (xz<|xj w) w w'/\Rd w' (λb=>(fr=xw/\G b)\/(xz (xj w)<=b/\b<xz (xj w'))) r v
def Ws(k:OT)(x:V):Option TK:=
 match k,x with
 |.fz,x=>J<|.val (.c x) []
 |.own d,x=>J<|.own d<|.c x
 |.mem l,.agg a=>if I a=(I l) then J (.mem<|(l.zip a).map λy=>(y.1,.c y.2))else U
 |_,_=>U
def zE(P:Program)(B:Nat)(w:World)(h:GH)(ks:List OT)(xs:List V)(vs:Array Value):Prop:=
 I xs=I ks/\vs.size=I ks/\∀(i:Nat) (k:OT) (x:V),ks[i]?=J k->xs[i]?=J x->∃a,Ws k x=J a/\RelK P B [] w h (λ_=>U) i (vs.getD i xy) a
def EN(P:Program)(B:Nat)(w:World)(h:GH)(ks:List OT)(ys:List V)(vs:Array Value):Prop:=
 I ys=I ks/\∀(i:Nat) (k:OT) (y:V),ks[i]?=J k->k≠.fz->ys[i]?=J y->∃a,Ws k y=J a/\RelK P B [] w h (λ_=>U) i (vs.getD i xy) a
def XH:List OT->List V->List V
 |.fz::ks,_::a=>XH ks a
 |_::ks,y::a=>y::XH ks a
 |_,_=>[]
def Jz(r:V)(a:List V):V:=
 match a with
 | []=>r
 |a=>.aq<|r::a
def Vo(P:Program) [Lg P](f:FuncId)(ks:List OT)(xs:List V)(R:V):Prop:=
 U5 P f=xk/\∀(B:Nat) (w:World) (h:GH) (vs:Array Value),Ok B h.F w h->zE P B w h ks xs vs->
  Lg.ln P f vs w λe w'=>∃v r a h',e=.returned v/\Below B w w'/\Same h.K w w'/\Ok B h.F w' h'/\h'.K=h.K/\Rd w' h'.F r v/\EN P B w' h' ks a vs/\R=Jz r (XH ks a)
def Vu(s:St):FN->Option FuncId
 |.id f=>J f
 | .e x=>match eval s x with
   |some (.fn f)=>J f
   |_=>U
def QW:V->Option (FuncId×List V)
 |.fn f=>J (f,[])
 |.cy f a=>J (f,a)
 |_=>U
def UX(s:St):FN->Option (FuncId×List V)
 |.id f=>J (f,[])
 |.e x=>(eval s x).bind QW
def WC(s:St):List OT->List E->Option (List V)
 |.fz::ks,_::a=>WC s ks a
 |_::ks,e::a=>(eval s e).bind λx=>(WC s ks a).map (x:: ·)
 |_,_=>J []
def QH(P:Program) [Lg P](s:St):EF->Prop
 |.lt i C e=>holds s C->∃x,eval s e=J x/\get s i=.v x
 |.call i C f g fl aq_=>holds s C->∃a n r,YG s aq_=J a/\UX s f=J n/\VC P n.1 g (a++n.2) r/\(fl=xk->WA r=J r)/\get s i=.v r
 | .ct i C f ks aq_=>(holds s C->∃a n R,YG s aq_=J a/\Vu s f=J n/\Vo P n ks a R/\get s i=.v R)/\
   (¬holds s C->∃d,WC s ks aq_=J d/\(d≠[]->get s i=.v (.aq<|.bool xw::d)))
section
variable {c:Ctx}{B:Nat}{G:Nat->Prop}{s:St}{a a':Act}{w w':World}{h h':GH}{g:Gam}{C:ZG}{fz ps rb:List Nat}{ops:Array Oper}
def TO:List (E×Option Nat)->Nat->Option Nat
 | [],_=>U
 |x::l,u=>if x.2=J u then J 0 else(TO l u).map (· +1)
theorem zc:∀ {l:List (E×Option Nat)} {u i:Nat},TO l u=J i->∃e,l[i]?=J (e,J u)
 | [],u,i,a=>by cases a
 | (e,o)::l,u,i,a=>by
   simp only[TO]at a;split at a;rename_i d;have d:o=J u:=d;simp only[Zh7]at a;subst a d;exact⟨e,rfl⟩;simp only[Zha]at a;obtain⟨j,h,rfl⟩:=a;obtain⟨f,g⟩:=zc h;exact⟨f,by simpa using g⟩
theorem DE:∀ {l:List (E×Option Nat)} {u:Nat},TO l u=U->u∉l.filterMap (·.2)
 | [],u,_,d=>by simp at d
 | (e,o)::l,u,a,d=>by
   simp only[TO]at a;split at a;cases a;rename_i f;have f:¬o=J u:=f;simp only[Zl3]at a;have:=DE a;simp_all
theorem JO{l:List (E×Option Nat)}{e:E}{u i:Nat}(a:l[i]?=J (e,J u)):u∈l.filterMap (·.2):=
 Zk5.2 ⟨_,Zhh a,rfl⟩
theorem Mp:∀ {l:List Nat},Sa l=xk↔l.Nodup
 | []=>by simp[Sa]
 |x::l=>by
  simp_all[Sa,Zhb,Ziz,Zjp,Zk8,Zjb,Mp]
theorem jH:∀ {l:List (E×Option Nat)} {e g:E} {u i j:Nat},(l.filterMap (·.2)).Nodup->l[i]?=J (e,J u)->l[j]?=J (g,J u)->i=j
 | [],e,g,u,i,j,_,d,_=>by simp at d
 | (n,o)::l,e,g,u,i,j,a,d,f=>by
   have k:(l.filterMap (·.2)).Nodup:=by
    obtain _|p:=o;simpa using a;simp only[ZiW,Zjb]at a;exact a.2
   cases i with
   |zero=>
    simp at d;cases j with
    |zero=>rfl
    |succ j=>
     exfalso;have h:=JO (l:=l) (i:=j) Zgs;rw[d.2]at a;simp only[ZiW,Zjb]at a;exact a.1 h
   |succ i=>
    cases j with
    |zero=>
     exfalso;simp at f;have h:=JO (l:=l) (i:=i) Zgp;rw[f.2]at a;simp only[ZiW,Zjb]at a;exact a.1 h
    |succ j=>
     have:=jH (i:=i) (j:=j) k Zgp Zgs;rw[this]
theorem Zas{l:List (E×Option Nat)}(d:(l.filterMap (·.2)).Nodup){e:E}{u i:Nat}(a:l[i]?=J (e,J u)):TO l u=J i:=by
 cases hx:TO l u with
 |none=>exact absurd (JO a)<|DE hx
 |some j=>
  grind [zc,jH]
def Vq(g:Gam)(h:GH)(ks:List OT)(aq_:List<|E×Option Nat)(i j:Nat):Option Nat:=
 match(aq_[i]?).bind (·.2),ks[i]? with
 |some p,J (.mem _)=>match j with
  |0=>h.bl p 0
  |j+1=>match(memOf g p).bind λa=>a[j]? with
   |some (.own _,_)=>h.bl p<|j+1
   |_=>U
 |some p,J (.own _)=>if j=1 then h.bl p 1 else U
 |_,_=>U
theorem RL{ks:List OT}{aq_:List (E×Option Nat)}{i j b:Nat}(a:Vq g h ks aq_ i j=J b):∃p e k,aq_[i]?=J (e,J p)/\ks[i]?=J k/\k≠.fz/\h.bl p j=J b/\(∀d,k=.own d->j=1):=by
 unfold Vq at a;grind
def Vr(g:Gam)(h:GH)(w:World)(ks:List OT)(aq_:List<|E×Option Nat):GH:=
 {F:=h.F,bl:=Vq g h ks aq_,K:=λb=>b<xz (xj w)/\∀i j,Vq g h ks aq_ i j≠J b}
theorem FW(d:Ok B G w h){ks:List OT}{aq_:List (E×Option Nat)}(x:(aq_.filterMap (·.2)).Nodup):Ok B h.F w<|Vr g h w ks aq_:=by
 refine⟨d.base,d.bz,λb a=>.inl a,λb a=>a,λt i b a=> ?_,λt i u j b a k=> ?_,λb a=>a.1,λt i b a r=>r.2 t i a,λb a=>.inl a⟩;obtain⟨p,_,_,_,_,_,f,_⟩:=RL a;exact d.aw p i b f;obtain⟨p,e,_,f,_,_,l,_⟩:=RL a;obtain⟨q,y,_,n,_,_,o,_⟩:=RL k;obtain⟨rfl,rfl⟩:=d.inj p i q j b l o;exact⟨jH x f n,rfl⟩
def Kj(a:Act)(h:GH)(x:AP)(v:Value):Prop:=
 match x with
 |.op x _=>v=a.eval x
 |.cap p=>∃b,h.bl p 0=J b/\v=.pointer (J ⟨b,0,U⟩)
theorem MH:∀ {a b:List CK},Ju c.P a b=xk->I a=I b/\∀(i:Nat) (x y:CK),a[i]?=J x->b[i]?=J y->x=y\/x=.nil/\(y=.fz\/∃g,y=.own g/\0<c.P.cellsOf g)
 | [],[],_=>⟨rfl,λi x y hx=>by simp at hx⟩
 | [],_::_,h=>by simp[Ju]at h
 |_::_,[],h=>by simp[Ju]at h
 |x::a,y::b,h=>by
  simp only[Ju,Zhb,Zhr,Zi2]at h;obtain⟨d,j⟩:=h;obtain⟨k,l⟩:=MH j;refine⟨by simp[k],λi n o hx f=> ?_⟩;cases i with
  |zero=>
   simp at hx f;subst hx f;obtain d|d:=d;exact .inl d;split at d;simp only[ZhG]at d;exact .inr ⟨rfl,.inr ⟨_,rfl,d⟩⟩;exact .inr ⟨rfl,.inl rfl⟩;cases d
  |succ i=>exact l i n o (by simpa using hx) Zgs
theorem RelC.const{P:Program}{o:Option Nat}{k:CK}{e:E}{v:Value}{x:V}(f:RelC P B s w h o k e v)(hx:eval s e=J x){h2:GH}(l:h2.F=h.F):RelC P B [] w h2 o k (.c x) v:=by
 cases k with
 |fz=>obtain⟨y,a,d,g⟩:=f;rw[hx]at a;cases a;exact⟨x,rfl,d,g.mono λb j=>Zgd⟩
 |own n=>obtain⟨y,a,d⟩:=f;rw[hx]at a;cases a;exact⟨x,rfl,d.mono (λb j=>Zgd) rfl⟩
 |nil=>obtain⟨a,d⟩:=f;rw[hx]at d;cases d;exact⟨a,rfl⟩
 |gh=>exact f
theorem Zat(l:RelG c B G s a w h g)(k:holds s<|ZI c C){x:AP}{p:Nat}{v:Value}(d:DI g C x=J p)(f:Kj a h x v):∃b,h.bl p 0=J b/\v=.pointer (J ⟨b,0,U⟩):=by
 unfold DI at d;split at d;simp only[Zh7]at d;subst d;exact f;rename_i t u;have f:v=a.eval (.tmp t):=f;subst f;split at d;rename_i n j;simp only[Zh7]at d;subst d;obtain⟨v,f,⟨b,vs,T,o,r,_⟩,_⟩:=l.look k (show look g C t=_ from j) rfl;simp_all[Act.al];rename_i q j;simp only[Zh7]at d;subst d;exact XN l k j rfl 0;cases d;cases d
theorem qS(hr:RelG c B G s a w h g){k:OT}{x:AP}{e:E}{p:Nat}(d:Rg c g C k x=J (e,J p)){X:V}(hX:eval s e=J X){ks:List OT}{aq_:List (E×Option Nat)}{i:Nat}(hk:ks[i]?=J k)(hi:aq_[i]?=J (e,J p)):
  ∃v,a.tmps[p]?=J v/\(∃tk,Ws k X=J tk/\RelK c.P B [] w (Vr g h w ks aq_) (λ_=>U) i v tk)/\((∃l b,k=.mem l/\h.bl p 0=J b/\v=.pointer (J ⟨b,0,U⟩))\/∃R,k=.own R):=by
 unfold Rg at d;split at d;split at d;simp only[Zh6]at d;obtain⟨_,_,d⟩:=d;split at d;simp at d;cases d;cases d
 ·
  rename_i l;simp only[Zh6]at d;obtain⟨p,hs,o,K,d⟩:=d;split at d;rename_i t;simp only[Zhb,Ziz]at t;obtain⟨N,Q⟩:=t;simp only[Zh7,Zho]at d;obtain⟨rfl,rfl⟩:=d;obtain⟨b,vs,T,h1,h2,h3,h4⟩:=hr.de K;obtain⟨a2,a0⟩:=MH Q;simp only[ZhM]at a2;have Y:=hX;simp only[eval,Zha]at Y;obtain⟨xs,b1,a8⟩:=Y;obtain⟨b0,L⟩:=UV b1;have b4:I xs=I o:=by simpa using b0
  have a3:∀x∈xs,x.one=xk:=λx hx=>by
   obtain⟨j,H⟩:=ZhH hx;have n:j<I o:=by have:=(Zh9.1 H).1;omega
   obtain⟨x',A,f⟩:=L j (o[j]).2 ZgF;rw[H]at A;cases A;have M:=h4.2 j o[j]<|Zh8 n
   obtain⟨z,hz,b2,_⟩:=M.rd (G':=λ_=>True) (λhd=>by
    have:Ww o=xk:=ZiR.2 ⟨o[j],Zhx n,by simp[hd]⟩;rw[N]at this;cases this) (λ_ _=>trivial) λ_ _ _ _=>trivial
   rw[f]at hz;cases hz;exact b2
  have a7:X=.agg xs:=by rw[<-a8];simp only[TR,U9 a3]
  subst a7;have a9:I xs=I l:=Z0;have Z:Vq g h ks aq_ i 0=h.bl p 0:=by simp[Vq,hi,hk]
  refine⟨_,h2,⟨.mem ((l.zip xs).map λy=>(y.1,.c y.2)),by simp only[Ws,a9,Zi9],b,vs,T,by show Vq g h ks aq_ i 0=_;rw[Z];exact h1,rfl,h3,by rw[h4.1];simp;omega,λj ck H=> ?_⟩,.inl ⟨l,b,rfl,h1,rfl⟩⟩;simp only[Zhz,Zha]at H;obtain⟨⟨a6,x1⟩,H,rfl⟩:=H;rw[ZkO]at H;obtain⟨a1,O⟩:=H;have n:j<I o:=by have:=(Zh9.1 O).1;omega
  obtain⟨x',A,f⟩:=L j (o[j]).2 ZgF;simp only at O a1;rw[O]at A;cases A;have M:=h4.2 j o[j]<|Zh8 n;have D:Vq g h ks aq_ i (j+1)=match o[j]with|(.own _,_)=>h.bl p (j+1)|_=>U:=by
   simp only[Vq,hi,hk,K,Zhk,Zh8 n];rcases o[j]with ⟨kk,e⟩;cases kk<;>rfl
  obtain F|⟨F,rfl|⟨R,rfl,h0⟩⟩:=a0 j (o[j]).1 a6 ZgF a1;rw[<-F];show RelC c.P B [] w (Vr g h w ks aq_) (Vq g h ks aq_ i<|j+1) (o[j]).1 (.c x1)<|vs.getD j xy;rw[D];have r:=M.const f (h2:=Vr g h w ks aq_) rfl;generalize o[j]=q at r;obtain⟨kk,e⟩:=q;cases kk with
  |own R=>exact r
  |fz=>exact r
  |nil=>exact r
  |gh=>exact r
  show RelC c.P B [] w (Vr g h w ks aq_) (Vq g h ks aq_ i<|j+1) .fz (.c x1)<|vs.getD j xy;generalize o[j]=q at F M f;obtain⟨kk,e⟩:=q;simp only at F;subst F;obtain⟨e1,S⟩:=M;simp only at f S;rw[S]at f;cases f;rw[e1];exact⟨_,rfl,rfl,.nil _ _<|Zjc _⟩;show RelC c.P B [] w (Vr g h w ks aq_) (Vq g h ks aq_ i<|j+1) (.own R) (.c x1)<|vs.getD j xy;rw[D];generalize o[j]=q at F M f;obtain⟨kk,e⟩:=q;simp only at F;subst F;obtain⟨e1,S⟩:=M;simp only at f S;rw[S]at f;cases f;rw[e1];exact⟨_,rfl,.inl ⟨[],[],rfl,h0,λx hx=>by simp at hx,Ziq w B R _,rfl,λi ck hi=>by simp[flat]at hi⟩⟩;cases d
 ·
  rename_i R;simp only[Zh6]at d;obtain⟨p,hs,⟨b3,e'⟩,ho,d⟩:=d;split at d;rename_i a5;simp only at a5;subst a5;simp only[Zh7,Zho]at d;obtain⟨rfl,rfl⟩:=d;obtain⟨u,hu,X',W,a4⟩:=hr.fd ho;rw[hX]at W;cases W;have D:Vq g h ks aq_ i 1=h.bl p 1:=by simp[Vq,hi,hk]
  refine⟨u,hu,⟨_,rfl,X,rfl,?_⟩,.inr ⟨_,rfl⟩⟩;show OwnV c.P B w (Vr g h w ks aq_) (Vq g h ks aq_ i 1) b3 X u;rw[D];exact a4.mono (λ_ hb=>hb) rfl;cases d
 cases d
theorem O0(H:RelG c B G s a w h g)(K:holds s<|ZI c C){k:OT}{x:AP}{y:E×Option Nat}(d:Rg c g C k x=J y){X:V}(D:eval s y.1=J X){v:Value}(l:Kj a h x v){ks:List OT}{aq_:List (E×Option Nat)}{i:Nat}(Y:ks[i]?=J k)(W:aq_[i]?=J y):
  (∃R,Ws k X=J R/\RelK c.P B [] w (Vr g h w ks aq_) (λ_=>U) i v R)/\∀p,y.2=J p->a.tmps[p]?=J v:=by
 obtain⟨e,o⟩:=y;obtain _|p:=o;refine⟨?_,λp d=>by cases d⟩;unfold Rg at d;split at d;split at d;rename_i x ty;simp only[Zh6]at d;obtain⟨S,L,d⟩:=d;split at d;rename_i n;simp only[Zh7,Zho,and_true]at d;subst d;obtain⟨z,hz,O⟩:=V5 H K L;obtain⟨z',A,j⟩:=RV (fl:=XM c.P ty) (b:=S) hz O ⟨X,D⟩;simp only at D;rw[D]at A;cases A;have l:v=a.eval x:=l;subst l;rw[ZjS.1 n]at j;exact⟨_,rfl,X,rfl,j.F.mono λb T=>GH.cd T⟩;cases d;cases d;simp only[Zh6]at d;obtain⟨_,_,_,_,d⟩:=d;split at d;grind;cases d;simp only[Zh6]at d;obtain⟨_,_,_,_,d⟩:=d;split at d;grind;cases d;cases d;obtain⟨u,hu,r,M⟩:=qS H d D Y W;have Z:u=v:=by
  unfold Rg at d;split at d;split at d;simp only[Zh6]at d;obtain⟨_,_,d⟩:=d;split at d;grind;cases d;cases d;simp only[Zh6]at d;obtain⟨p',f,cs,Q,d⟩:=d;split at d;simp only[Zh7,Zho]at d;obtain⟨_,rfl⟩:=d;obtain⟨b,q1,rfl⟩:=Zat H K f l;simp_all;cases d;simp only[Zh6]at d;obtain⟨p',f,⟨a1,e'⟩,ho,d⟩:=d;split at d;simp only[Zh7,Zho]at d;obtain⟨_,rfl⟩:=d;unfold PC at f;split at f;rename_i t tt;have l:v=a.eval (.tmp t):=l;subst l;split at f;simp_all[Zh7,Act.al];rename_i q N;simp only[Zh7]at f;subst f;have r:a.tmps[q]?=J (a.eval<|.tmp t):=XN H K N rfl 0;simp_all;cases f;cases f;cases d;cases d
 simp_all
end
end Vm
namespace Vm
open Go
open Go.RowKit (Below)
section
variable {c:Ctx}{B:Nat}{G:Nat->Prop}{s:St}{a a':Act}{w w':World}{h h' hx:GH}{g:Gam}{C:ZG}{fz ps rb:List Nat}{ops:Array Oper}{ks:List OT}{aq_:List (E×Option Nat)}
structure OPost (c:Ctx) (B:Nat) (G:Nat->Prop) (s:St) (a a':Act) (w w':World) (h h':GH) (os:OS):Prop where
 step:Step B os.ps os.rb os.fz w w' h h'
 ok:Ok B G w' h'
 size:a'.tmps.size=a.tmps.size
 defers:a'.defers=a.defers
 tm:∀t,t∉os.ps->a'.tmps[t]?=a.tmps[t]?
 vr:∀t∈ZV os.d,(holds s (ZI c (os.d.at t).1)->(os.d.at t).2.bu=xw->∃v,a'.tmps[t]?=J v/\RelK c.P B s w' h' (λp=>a'.tmps[p]?) t v (os.d.at t).2)/\(¬holds s (ZI c (os.d.at t).1)->a'.tmps.getD t xy=xy)
theorem qW(a:Act)(d:Option Nat)(v:Value):(a.put d v).tmps.size=a.tmps.size:=by
 cases d<;>simp[Act.put]
theorem qV(a:Act)(d:Option Nat)(v:Value):(a.put d v).defers=a.defers:=by
 cases d<;>rfl
theorem Ot{d:Nat}(v:Value){t:Nat}(f:t∉ [d]):(a.put (J d) v).tmps[t]?=a.tmps[t]? :=Qq Zgc v
def VK(h hx:GH)(aq_:List<|E×Option Nat):GH:=
 {F:=λb=>h.F b\/hx.F b,K:=h.K,
  bl:=λu j=>match TO aq_ u with
   |some i=>if j=0 then h.bl u 0 else hx.bl i j
   |none=>h.bl u j}
theorem Z2E(d:Ok B G w h)(hn:(aq_.filterMap (·.2)).Nodup)(f:Ok B h.F w' hx)(P:hx.K=(Vr g h w ks aq_).K)(H:xz (xj w)<=xz (xj w'))
  (W:∀(i:Nat) (e:E) (p:Nat),aq_[i]?=J (e,J p)->(∃l,ks[i]?=J (.mem l)/\hx.bl i 0=h.bl p 0)\/∃N,ks[i]?=J (.own N)):Ok B G w'<|VK h hx aq_:=by
 have z:∀b,h.K b->(Vr g h w ks aq_).K b:=λb a=>⟨d.cx b a,λi j x=>by
  obtain⟨p,_,_,_,_,_,n,_⟩:=RL x;exact d.cp p j b n a⟩
 have Vg:∀ {t j b:Nat},h.bl t j=J b->TO aq_ t=U->hx.K b:=by
  intro t j b a ht;rw[P];refine⟨(d.aw t j b a).2.1,λi q x=> ?_⟩;obtain⟨p,e,_,n,_,_,S,_⟩:=RL x;obtain⟨rfl,_⟩:=d.inj t j p q b a S;exact DE ht<|JO n
 have Z:∀ {t i:Nat} {e:E} {b:Nat},aq_[i]?=J (e,J t)->(∃N,ks[i]?=J (OT.own N))->h.bl t 0=J b->hx.K b:=by
  intro t i e b Q C a;rw[P];refine⟨(d.aw t 0 b a).2.1,λX q x=> ?_⟩;obtain⟨p,e',k,n,O,_,S,h4⟩:=RL x;obtain⟨rfl,rfl⟩:=d.inj t 0 p q b a S;have:=jH hn Q n;subst this;obtain⟨N,C⟩:=C;rw[C]at O;cases O;have:=h4 N rfl;omega
 have a0:∀ {t j b:Nat},h.bl t j=J b->hx.K b->¬(h.F b\/hx.F b):=by
  intro t j b a r o;obtain o|o:=o;exact(d.aw t j b a).2.2 o;obtain n|n:=f.fk b o;exact(d.aw t j b a).2.2 n;simp_all
 refine⟨f.base,λb a=> ?_,λb a=> ?_,λb a=>.inl<|d.fj b a,λt j b a=> ?_,λt j u q b a T=> ?_,λb a=>Zhj (d.cx b a) H,λt j b a r=> ?_,λb a=> ?_⟩;obtain a|a:=a;exact Zhj (d.bz b a) H;exact f.bz b a;obtain a|a:=a;exact d.cz b a;obtain n|n:=f.cz b a;exact d.cz b n;omega;simp only[VK]at a⊢;split at a;rename_i i A;obtain⟨e,Q⟩:=zc A;split at a;rename_i hj;subst hj;obtain⟨l,C,h0⟩|C:=W i e t Q;rw[<-h0]at a;obtain⟨L,M,Y⟩:=f.aw i 0 b a;refine⟨L,M,λo=> ?_⟩;obtain o|o:=o;exact Y<|f.fj b o;grind;obtain⟨L,M,_⟩:=d.aw t 0 b a;grind;obtain⟨L,M,Y⟩:=f.aw i j b a;refine⟨L,M,λo=> ?_⟩;obtain o|o:=o;exact Y<|f.fj b o;grind;rename_i A;obtain⟨L,M,_⟩:=d.aw t j b a;grind
 ·
  have place:∀ {t j:Nat},(VK h hx aq_).bl t j=J b->(∃i e,aq_[i]?=J (e,J t)/\hx.bl i j=J b)\/(h.bl t j=J b/\hx.K b):=by
   intro t j a;simp only[VK]at a;split at a;grind [zc];grind
  obtain⟨i,e,Q,n⟩|⟨n,O⟩:=place a<;>obtain⟨X,e',a1,y⟩|⟨y,R⟩:=place T
  obtain⟨rfl,rfl⟩:=f.inj i j X q b n y;simp_all;exact absurd R<|f.cp i j b n;exact absurd O<|f.cp X q b y;exact d.inj t j u q b n y
 have D:=z b r;rw[<-P]at D;simp only[VK]at a;split at a;rename_i i A;split at a;exact d.cp t 0 b (by assumption) r;exact f.cp i j b a D;exact d.cp t j b a r;obtain a|a:=a;exact d.fk b a;obtain n|n:=f.fk b a;exact d.fk b n;exact .inr λr=>n (by rw[P];exact z b r)
theorem Z2F(o:Ok B G w h){d:Nat}(f:Below B w w')(a:Same (Vr g h w ks aq_).K w w'):Step B (d::aq_.filterMap (·.2)) [d] [] w w' h<|VK h hx aq_:=by
 refine⟨f,λb k q=>a b ⟨k,λi j l=> ?_⟩,λb l=>.inl l,λt p _=> ?_,λt p=> ?_,λ_ _ _ _ n=>(by simp at n),rfl⟩;grind [RL,JO];grind [TO,zc,absurd,List.mem_cons_of_mem,JO,VK];grind [VK]
theorem qD{i0:Nat}:∀ {q:Nat} {ks:List OT} {aq_:List (E×Option Nat)} {ys:List V},I aq_=I ks->I ys=I ks->(∀(j:Nat) (k:OT) (y:E×Option Nat),ks[j]?=J k->aq_[j]?=J y->(y.2=U↔k=OT.fz))->∀(t:Nat),t∈ZV (XO i0 q ks aq_)->
  ∃(j:Nat) (k:OT) (e:E) (y:V) (r:Nat),ks[j]?=J k/\aq_[j]?=J (e,J t)/\ys[j]?=J y/\(XO i0 q ks aq_).at t=([],Li i0 (q+r) k)/\(XH ks ys)[r]?=J y
 |q,[],aq_,ys,_,_,_,t,a=>by
  have:XO i0 q [] aq_=[]:=by unfold XO;rfl
  rw[this]at a;simp[ZV]at a
 |q,k::ks,[],ys,l,_,_,t,a=>by simp at l
 |q,k::ks,(e,o)::aq_,[],_,n,_,t,a=>by simp at n
 |q,k::ks,(e,o)::aq_,y::ys,l,n,H,t,a=>by
  have K:=H 0 k (e,o) rfl rfl;have g:∀(j:Nat) (k:OT) (y:E×Option Nat),ks[j]?=J k->aq_[j]?=J y->(y.2=U↔k=.fz):=λj k y L M=>H (j+1) k y ZgV (by simpa using M);obtain _|p:=o;have d:k=.fz:=K.1 rfl;subst d;have w:XO i0 q (.fz::ks) ((e,U)::aq_)=XO i0 q ks aq_:=by simp only[XO]
  have h:XH (.fz::ks) (y::ys)=XH ks ys:=by simp only[XH]
  rw[w]at a⊢;obtain⟨j,z,u,G,r,A,B,C,D,F⟩:=qD (ys:=ys) (by simpa using l) (by simpa using n) g t a;exact⟨j+1,z,u,G,r,by simpa using A,by simpa using B,by simpa using C,D,by rw[h];exact F⟩;have d:k≠.fz:=λe=>by have:=K.2 e;cases this
  have w:XO i0 q (k::ks) ((e,J p)::aq_)=(p,[],Li i0 q k)::XO i0 (q+1) ks aq_:=by simp only[XO]
  have h:XH (k::ks) (y::ys)=y::XH ks ys:=by cases k<;>first|exact absurd rfl d|simp only[XH]
  rw[w]at a⊢;by_cases f:p=t;subst f;exact⟨0,k,e,y,0,rfl,rfl,rfl,by simp[Gam.at],by rw[h];rfl⟩;have x:t∈ZV (XO i0 (q+1) ks aq_):=by
   simp only[ZV,ZhN,Zhs]at a;exact a.resolve_left λe=>f e.symm
  obtain⟨j,z,u,G,r,A,B,C,D,F⟩:=qD (ys:=ys) (by simpa using l) (by simpa using n) g t x;exact⟨j+1,z,u,G,r+1,by simpa using A,by simpa using B,by simpa using C,by simp only[Gam.at,Zhg f];rw[D,Zik,Zkl 1 r],by rw[h];simpa using F⟩
theorem Ch{i0:Nat}:∀ {q:Nat} {ks:List OT} {aq_:List (E×Option Nat)},I aq_=I ks->ZV (XO i0 q ks aq_)=aq_.filterMap (·.2)
 |q,[],[],_=>by simp[XO,ZV]
 |q,[],_::_,h=>ZgN
 |q,k::ks,[],h=>ZgN
 |q,k::ks,(e,o)::aq_,h=>by
  obtain _|p:=o;have a:XO i0 q (k::ks) ((e,U)::aq_)=XO i0 q ks aq_:=by simp only[XO]
  rw[a,Ch Zh5];simp;have a:XO i0 q (k::ks) ((e,J p)::aq_)=(p,[],Li i0 q k)::XO i0 (q+1) ks aq_:=by simp only[XO]
  rw[a];have:=Ch (i0:=i0) (q:=q+1) (ks:=ks) (aq_:=aq_) Zh5;simp only[ZV,ZhN]at this⊢;rw[this];simp
theorem Z6P{P:Program}{i0 q j p:Nat}{k:OT}{y:V}{L:List V}{v:Value}(hk:k≠.fz)(C:get s i0=.v (.aq L))(O:L[q]?=J y){hx h':GH}(d:∃N,Ws k y=J N/\RelK P B [] w' hx (λ_=>U) j v N)
  (K:∀b,hx.F b->h'.F b) (h0:(∃l,k=.mem l)->h'.bl p 0=hx.bl j 0) (t:∀i,h'.bl p (i+1)=hx.bl j (i+1)) (Y:Nat->Option Value):RelK P B s w' h' Y p v<|Li i0 q k:=by
 obtain⟨N,a,d⟩:=d;have u:eval s (.ext (.s i0) q)=J y:=by simp only[eval,C,Zhk,TV,O]
 cases k with
 |fz=>simp_all
 |own Z=>
  simp only[Ws,Zh7]at a;subst a;obtain⟨x,D,A⟩:=d;simp only[eval,Zh7]at D;subst D;exact⟨y,u,A.mono K (t 0).symm⟩
 |mem l=>
  cases y<;>simp only[Ws]at a<;>first|(cases a;done)|skip
  rename_i G;split at a;rename_i z;simp only[Zh7]at a;subst a;obtain⟨b,vs,T,e1,Q,R,e4,S⟩:=d;refine⟨b,vs,T,Zgd,Q,R,Zgd,λi ck n=> ?_⟩;simp only[Zhz,Zha]at n;obtain⟨⟨kk,i'⟩,n,rfl⟩:=n;rw[Zjq,Zha]at n;obtain⟨o,n,w⟩:=n;simp only[Zho,ZhZ]at w;obtain⟨rfl,rfl⟩:=w;have M:i<I G:=by rw[z];exact(Zh9.1 n).1
  have H:=S i (o,.c G[i]) Zgc;show RelC P B s w' h' (h'.bl p<|i+1) o (.ac (.ext (.s i0) q) i)<|vs.getD i xy;rw[t];have g:G[i].one=xk->eval s (.ac (.ext (.s i0) q) i)=J G[i]:=λW=>by
   simp only[eval,C,Zhk,TV,O,Y1,V.pc,Zh8 M,YV,W,Zi9]
  cases o with
  |fz=>
   obtain⟨x,r,h,X⟩:=H;simp only[eval,Zh7]at r;subst r;exact⟨_,g h,h,X.mono K⟩
  |own Z=>
   obtain⟨x,r,h⟩:=H;simp only[eval,Zh7]at r;subst r;exact⟨_,g h.one,h.mono K rfl⟩
  |nil=>
   obtain⟨r,h⟩:=H;simp only[eval,Zh7]at h;exact⟨r,by rw[g (by rw[h];rfl),h]⟩
  |gh=>exact H
  grind
 |nil=>grind [Ws]
 |cy f l=>grind [Ws]
theorem JC:∀ {ks:List OT} {a:List AP} {aq_:List (E×Option Nat)},Tc c g C ks a=J aq_->I a=I ks/\I aq_=I ks/\∀(i:Nat) (k:OT) (x:AP) (y:E×Option Nat),ks[i]?=J k->a[i]?=J x->aq_[i]?=J y->Rg c g C k x=J y
 | [],[],aq_,h=>by
   simp only[Tc,Zh7]at h;subst h;exact⟨rfl,rfl,λi k x y r=>by simp at r⟩
 | [],_::_,aq_,h=>by simp[Tc]at h
 |_::_,[],aq_,h=>by simp[Tc]at h
 |k::ks,x::l,aq_,h=>by
  simp only[Tc,Zh6,Zha]at h;obtain⟨y,t,A,d,rfl⟩:=h;obtain⟨o,p,q⟩:=JC d;refine⟨by simp[o],by simp[p],λi u w z f j n=> ?_⟩;cases i with
  |zero=>simp at f j n;subst f j n;exact t
  |succ i=>exact q i u w z Zgc Zgc Zgc
theorem Z2s(F:RelG c B G s a w h g)(z:holds s<|ZI c C){d:List AP}(D:Tc c g C ks d=J aq_){xs:List V}(p:YG s (aq_.map (·.1))=J xs){vs:Array Value}(H:vs.size=I d)(n:∀(i:Nat) (x:AP),d[i]?=J x->Kj a h x (vs.getD i xy)):
  zE c.P B w (Vr g h w ks aq_) ks xs vs:=by
 obtain⟨K,r,t⟩:=JC D;obtain⟨u,y⟩:=UV p;refine⟨by rw[u];simpa using r,Z0,λi k x j hx=> ?_⟩;have A:i<I ks:=(Zh9.1 j).1;have q:d[i]?=J d[i]:=Zh8 Z0;have l:aq_[i]?=J aq_[i]:=Zh8 Z0;obtain⟨L,f,o⟩:=y i (aq_[i]).1 (by rw[Zhz,l];rfl);rw[hx]at f;cases f;exact(O0 F z (t i k _ _ j q l) o (n i _ q) j l).1
theorem FX(hr:RelG c B G s a w h g){Y:List AP}(hp:Tc c g C ks Y=J aq_)(hn:(aq_.filterMap (·.2)).Nodup){d:Nat}(hd:d<a.tmps.size)(a2:d∉aq_.filterMap (·.2)){all:Gam}{efs:List EF}{chks:List (ZG×E)}{kd:TK}
  {vs:Array Value} (D:∀(i:Nat) (e:E) (p:Nat),aq_[i]?=J (e,J p)->a.tmps[p]?=J (vs.getD i xy)/\((∃l b,ks[i]?=J (.mem l)/\h.bl p 0=J b/\vs.getD i xy=.pointer (J ⟨b,0,U⟩))\/∃X,ks[i]?=J (.own X)))
  (hz:∀(j:Nat) (k:OT) (y:E×Option Nat),ks[j]?=J k->aq_[j]?=J y->(y.2=U↔k=OT.fz))
  (Q:Ok B h.F w' hx) (hK:hx.K=(Vr g h w ks aq_).K) (o:Below B w w') (A:Same (Vr g h w ks aq_).K w w') {ys:List V} (S:EN c.P B w' hx ks ys vs) {r0:V} (L:XH ks ys≠[]->get s (c.ix d)=.v (.aq<|r0::XH ks ys))
  {u:Value} (hu:holds s (ZI c C)->RelK c.P B s w' (VK h hx aq_) (λp=>(a.put (J d) u).tmps[p]?) d u kd) (a5:¬holds s (ZI c C)->u=xy):
  OPost c B G s a (a.put (J d) u) w w' h (VK h hx aq_) {d:=(d,C,kd)::XO (c.ix d) 1 ks aq_++Wi (d::aq_.filterMap (·.2)) [d] [] all,ps:=d::aq_.filterMap (·.2),rb:=[d],fz:=[],efs,chks}:=by
 obtain⟨h1,h2,h3⟩:=JC hp;have M:∀(i:Nat) (e:E) (p:Nat),aq_[i]?=J (e,J p)->(∃l,ks[i]?=J (.mem l)/\hx.bl i 0=h.bl p 0)\/∃X,ks[i]?=J (.own X):=by
  intro i e p hi;obtain⟨_,z⟩:=D i e p hi;obtain⟨l,b,W,hb,hv⟩|W:=z
  .refine .inl ⟨l,W,?_⟩;have a0:i<I ys:=by rw[S.1];exact(Zh9.1 W).1
   obtain⟨tk,f,R⟩:=S.2 i _ ys[i] W Z1<|Zh8 a0;generalize ys[i]=y at f;cases y<;>simp only[Ws]at f<;>first|(cases f;done)|skip
   split at f;simp only[Zh7]at f;subst f;obtain⟨b',a6,T,e1,e2,_⟩:=R;simp_all;grind
  grind
 have O:=Z2E hr.ok hn Q hK o.size M;have a1:=Z2F (hx:=hx) (d:=d) hr.ok o A;refine⟨a1,O,qW _ _ _,qV _ _ _,λt x=>Qq (λe=>x<|by simp[e]) u,λt x=> ?_⟩;simp only[Zix,Gam.at];by_cases H:d=t;simp_all[Zi9,VV,Zhd,ZhE];rw[Zhg H,VJ];by_cases n:t∈ZV (XO (c.ix d) 1 ks aq_);rw[Zhi n];obtain⟨j,k,e,y,r,q1,q2,q3,q4,q5⟩:=qD (i0:=c.ix d) (q:=1) (ys:=ys) h2 S.1 hz t n;rw[q4];refine⟨λ_ _=>⟨vs.getD j xy,by rw[Qq<|ZiX H];grind,?_⟩,λhh=>absurd (Yv s c) hh⟩;have N:k≠.fz:=λe'=>Zgc;have Z:=Zas hn q2;refine Z6P (h':=VK h hx aq_) N (L λe'=>Zgd) Zgc (S.2 j k y q1 N q3) (λb hb=>.inr hb) (λhm=> ?_) (λi=>by simp[VK,Z]) _;obtain⟨l,_,h0⟩|⟨X,a4⟩:=M j e t q2;grind [VK];grind;rw[Zhg n];have a3:t∈ZV (Wi (d::aq_.filterMap (·.2)) [d] [] all):=by
  simp only[ZV,ZhN,Zir,Zix,Zhs,ZhC]at x n⊢;obtain x|x|x:=x;omega;simp_all;exact x
 simp_all[yR,TK.bu,absurd,Yv]
end
end Vm
namespace Vm
open Go
open Go.RowKit (Below)
section
variable {c:Ctx}{B:Nat}{G:Nat->Prop}{s:St}{a a':Act}{w w':World}{h h':GH}{g:Gam}{C:ZG}{fz ps rb:List Nat}{ops:Array Oper}
theorem GH.nr{h:GH}{big:Bool}{sh:List Nat}{b:Nat}(a:h.ext sh b):h.fo big sh b:=by
 obtain a|⟨p,f,i,d⟩:=a;exact .inl a;exact .inr ⟨p,f,i+1,.inr Z0,d⟩
theorem GH.rc{h:GH}{sh:List Nat}{b:Nat}(d:h.fo xw sh b):h.ext sh b:=by
 obtain d|⟨p,g,i,a,f⟩:=d;exact .inl d;obtain a|a:=a;cases a;cases i with
 |zero=>omega
 |succ i=>exact .inr ⟨p,g,i,f⟩
theorem GH.dp{h:GH}{big a:Bool}{sh d:List Nat}(l:big=xk->a=xk)(k:∀p∈sh,p∈d):∀b,h.fo big sh b->h.fo a d b:=by
 intro b hx;obtain hx|⟨p,j,i,g,f⟩:=hx;exact .inl hx;refine .inr ⟨p,k p j,i,?_,f⟩;grind
theorem GH.sq(a:Ok B G w h){big:Bool}{sh:List Nat}:∀b,h.fo big sh b->b<xz (xj w):=by
 intro b d;obtain d|⟨p,_,i,_,f⟩:=d;exact a.bz b d;exact(a.aw p i b f).2.1
theorem G3(C:RelG c B G s a w h g){G':Nat->Prop}(y:∀b,h.F b->G' b):∀ {d:List Nat} {o:List E} {n:List V},(∀p∈d,∀i b,h.bl p i=J b->G' b)->Kn g d=J o->YG s o=J n->
  I n=I d/\∀(i p b:Nat) (x:V),d[i]?=J p->n[i]?=J x->h.bl p 0=J b->Rd w G' x (.pointer<|J ⟨b,0,U⟩)
 | [],o,n,_,f,hx=>by
   simp only[Kn,Zh7]at f;subst f;simp only[YG,Zh7]at hx;subst hx;exact⟨rfl,λi p b x r=>by simp at r⟩
 |q::l,o,n,A,f,hx=>by
  simp only[Kn,Zh6]at f;obtain⟨W,M,f⟩:=f;split at f;cases f;rename_i X;simp only[Zha]at f;obtain⟨H,u,rfl⟩:=f;simp only[YG,Zh6,Zha]at hx;obtain⟨z,O,R,k,rfl⟩:=hx;obtain⟨K,L⟩:=G3 C y (λp N=>A p<|by simp[N]) u k;refine⟨by simp[K],λi p b x r j t=> ?_⟩;cases i with
  |zero=>
   simp at r j;subst r j;obtain⟨S,vs,T,D,_,P,Q⟩:=C.de M;rw[t]at D;cases D;exact L7 t P Q Zgc O y<|A q Z1
  |succ i=>exact L i p b x Zgc (by simpa using j) t
theorem Z2P(u:RelG c B G s a w h g)(D:holds s<|ZI c C){x:Operand}{e:E}{sh:List Nat}(d:Uq g (Yr g C x) (Rb x)=J (e,sh)){z:V}(r:eval s e=J z):Rd w (h.fo xk sh) z<|a.eval x:=by
 have M:∀b,h.F b->h.fo xk sh b:=λb X=>.inl X;have N:∀p∈sh,∀i b,h.bl p i=J b->h.fo xk sh b:=λp hp i b P=>.inr ⟨p,hp,i,.inl rfl,P⟩;cases x with
 |tmp t=>
  simp only[Yr,Rb]at d;cases j:look g C t with
  |mem L=>
   rw[j]at d;simp only[Uq]at d;split at d;cases d;rename_i Y;simp only[Zh7,Zho]at d;obtain⟨rfl,rfl⟩:=d;obtain⟨v,y,⟨b,vs,T,H,rfl,A,K⟩,_⟩:=u.look D j rfl;rw[Act.al a t _ y];exact L7 H A K Zgc r M<|N t Z1
  |pm p o=>
   rw[j]at d;cases o with
   |succ o=>simp[Uq]at d
   |zero=>
    simp only[Uq,Zh6]at d;obtain⟨L,Z,d⟩:=d;split at d;cases d;rename_i Y;simp only[Zh7,Zho]at d;obtain⟨rfl,rfl⟩:=d;obtain⟨v,y,⟨b,H,rfl⟩,_⟩:=u.look D j rfl;obtain⟨b',vs,T,S,_,A,K⟩:=u.de Z;rw[H]at S;cases S;rw[Act.al a t _ y];exact L7 H A K Zgc r M<|N p Z1
  |cy f n=>
   rw[j]at d;simp only[Uq,Zha,Zho]at d;obtain⟨es,O,rfl,rfl⟩:=d;obtain⟨v,y,⟨vs,rfl,S,A⟩,_⟩:=u.look D j rfl;rw[Act.al a t _ y];simp only[eval,Zh6]at r;obtain⟨xs,R,r⟩:=r;simp only[LE,Zh7]at r;subst r;obtain⟨W,h2⟩:=G3 u M N O R;refine .cy f xs vs Z0 λi x P=> ?_;have Q:i<I n:=by have:=(Zh9.1 P).1;omega
   obtain⟨b,K,q4⟩:=A i n[i] (by simp[Q]);have:vs.getD i xy=.pointer (J ⟨b,0,U⟩):=by simp[Zhd,q4]
   grind
  |pf e' a1=>
   rw[j]at d;simp only[Uq,Zh7,Zho]at d;obtain⟨rfl,rfl⟩:=d;obtain⟨v,y,⟨x,hx,a0⟩,_⟩:=u.look D j rfl;simp_all[Act.al]
  |_=>rw[j]at d;simp[Uq]at d
 |const v=>
  have:∀k,Uq g k 0=J (e,sh)->(∃L,k=.mem L)\/(∃p o,k=.pm p o)\/(∃f l,k=.cy f l)\/∃e l,k=.pf e l:=by
   intro k j;cases k<;>first|(simp[Uq]at j;done)|exact .inl ⟨_,rfl⟩|exact .inr (.inl ⟨_,_,rfl⟩)|exact .inr (.inr<|.inl ⟨_,_,rfl⟩)|simp
  have W:=this _ d;grind [Yr]
 |func f=>grind [Yr,Uq]
 |global q=>grind [Yr,Uq]
theorem Z2r(t:RelG c B G s a w h g)(p:holds s<|ZI c C){fl:Bool}{x:Operand}{r:E×List Nat×Bool}(d:Ag g C fl x=J r){z:V}(n:eval s r.1=J z):Rd w (h.fo r.2.2 r.2.1) z<|a.eval x:=by
 unfold Ag at d;split at d;rename_i o l;simp only[Zh7]at d;subst d;obtain⟨y,u,j⟩:=V5 t p l;obtain⟨D,f,k⟩:=RV (b:=o) u j ⟨z,n⟩;rw[n]at f;cases f;exact k.mono λb q=>GH.nr q;simp only[Zha]at d;obtain⟨A,l,rfl⟩:=d;grind [Z2P]
theorem FG(A:RelG c B G s a w h g)(u:holds s<|ZI c C):∀ {l:List Operand} {t:List TypeId} {d:List E×List Nat×Bool},Kk c.P g C l t=J d->∀ {j:List V},YG s d.1=J j->
  I j=I l/\∀(i:Nat) (x:Operand),l[i]?=J x->∃z,j[i]?=J z/\Rd w (h.fo d.2.2 d.2.1) z (a.eval x)
 | [],t,d,f,j,hx=>by
   simp only[Kk,Zh7]at f;subst f;simp only[YG,Zh7]at hx;subst hx;exact⟨rfl,λi x k=>by simp at k⟩
 |x::l,t,d,f,j,hx=>by
  simp only[Kk,Zh6,Zha]at f;obtain⟨O,K,b,L,rfl⟩:=f;simp only[YG,Zh6,Zha]at hx;obtain⟨z,q,M,o,rfl⟩:=hx;obtain⟨F,H⟩:=FG A u L o;have r:=Z2r A u K q;refine⟨by simp[F],λi y k=> ?_⟩;cases i with
  |zero=>simp at k;subst k;exact⟨z,Z1,r.mono (GH.dp (λe=>by simp[e]) λp n=>by simp[n])⟩
  |succ i=>
   obtain⟨N,Q,D⟩:=H i y Zgc;exact⟨N,Zgc,D.mono (GH.dp (λe=>by simp[e]) λp n=>by simp[n])⟩
theorem Z2Z(O:RelG c B G s a w h g)(M:holds s<|ZI c C){o:Oper}{fn:FN}{sh:List Nat}{args:List Operand}{ts:List TypeId}(d:Ao g C o=J (fn,sh,args,ts)){n:FuncId×List V}(p:UX s fn=J n)(k:U5 c.P n.1=xk):
  ∃j:Array Value,(execOp a.eval o).run c.P w=.ok (.enter n.1<|(args.map a.eval).toArray++j) w/\j.size=I n.2/\∀(i:Nat) (x:V),n.2[i]?=J x->Rd w (h.ext sh) x (j.getD i xy):=by
 have r:∀ {f:FuncId} {args:Array Operand} {q:Array TypeId} {z:Operand} {j:Array Value},U5 c.P f=xk->o.op=.call {callee:=.value z,args:=args,argTypes:=q}->a.eval z=.func (.func f) #[] j->
   (execOp a.eval o).run c.P w=.ok (.enter f<|(args.toList.map a.eval).toArray++j) w:=by
  intro f args q z j k l A;unfold U5 at k;split at k;rename_i fn D;simp only[Zhb,Ziz,ZkB,Zls]at k;obtain⟨H,K⟩:=k;obtain⟨code,L⟩:=Zih.1 K;have:(args.toList.map a.eval).toArray=args.map a.eval:=by rw[<-Ziw,Array.toArray_toList]
  rw[this];simp[execOp,l,resolve,A,Deferred.ofValue,invoke,callFunc,D,H,L];cases k
 unfold Ao at d;split at d;rename_i S u q l;simp only[Zh7,Zho]at d;obtain⟨rfl,rfl,rfl,rfl⟩:=d;simp only[UX,Zh7]at p;subst p;exact⟨#[],r k l rfl,rfl,λi x F=>by simp at F⟩;rename_i t u q l;split at d;rename_i e R N;simp only[Zh7,Zho]at d;obtain⟨rfl,rfl,rfl,rfl⟩:=d;obtain⟨v,Q,⟨x,hx,y⟩,_⟩:=O.look M (show look g C t=_ from N) rfl;simp only[UX,hx,Zhk]at p;unfold QW at p;split at p;simp only[Zh7]at p;subst p;cases y;exact⟨#[],r k l<|Act.al a t _ Q,rfl,λi x F=>by simp at F⟩;simp only[Zh7]at p;subst p;cases y with
 |cy _ _ vs H K=>grind [Act.al]
 cases p;grind;grind
theorem Z8g(K:RelG c B G s a w h g)(M:holds s<|ZI c C){o:Oper}{x y z:Operand}(Z:o.op=.pick x y z){k:TK}{es:List E}(n:CV c g C x y z=J (k,es))(N:∀e∈es,∃z,eval s e=J z)(d:Nat):PRun c B G s a w h o d k:=by
 unfold CV at n;split at n;rename_i t u Y;split at n;cases n;rename_i R;have R:u=c.ix t:=by simpa using R
 subst R;simp only[Zh6,Zha,Zho]at n;obtain⟨ey,O,ez,Q,rfl,rfl⟩:=n;obtain⟨v,hv,⟨W,f,T⟩,_⟩:=K.look M (show look g C t=_ from Y) rfl;obtain⟨q,j⟩:=N _<|List.Mem.head _;have H:=j;simp only[eval]at j f;rw[f,Zhk]at j;have L:get s (c.ix t)=.v W:=by
  cases X:get s (c.ix t)<;>rw[X]at f<;>simp at f;rw[f]
 have F:∀b,W=.bool b->(execOp a.eval o).run c.P w=.ok (.value<|if b=xk then a.eval y else a.eval z) w:=by
  intro b D;subst D;have S:v=.bool b:=by cases T;rfl
  subst S;unfold execOp;simp only[Z,Act.al a t _ hv];cases b<;>simp[asBool]
 unfold Je at j;split at j;have l:holds s<|ZI c<|C++[(t,xk)]:=by
  have:ZI c (C++[(t,xk)])=ZI c C++[(c.ix t,xk)]:=by simp[ZI]
  rw[this,B4];refine⟨M,λx hx=> ?_⟩;simp at hx;subst hx;exact L
 obtain⟨r,p,A⟩:=V5 K l O;rw[p]at j;cases j;exact⟨_,w,F xk rfl,PRes.az K.ok ⟨_,H,A.mono λb D=>GH.kz D⟩⟩;have l:holds s<|ZI c<|C++[(t,xw)]:=by
  have:ZI c (C++[(t,xw)])=ZI c C++[(c.ix t,xw)]:=by simp[ZI]
  rw[this,B4];refine⟨M,λx hx=> ?_⟩;simp at hx;subst hx;exact L
 obtain⟨r,p,A⟩:=V5 K l Q;rw[p]at j;cases j;exact⟨_,w,F xw rfl,PRes.az K.ok ⟨_,H,A.mono λb D=>GH.iu D⟩⟩;cases j;cases n
theorem Z8f(l:RelG c B G s a w h g)(n:holds s<|ZI c C){o:Oper}{k:TK}{es:List E}(f:CU c g C o=J (k,es))(j:∀e∈es,∃z,eval s e=J z)(d:Nat)(p:o.dst=J d):PRun c B G s a w h o d k:=by
 unfold CU at f;split at f;rename_i x y z q;exact Z8g l n q f j d;split at f;cases f;exact CX l n f j d p;rename_i q;split at f;cases f;split at f;simp only[Zha,Zho]at f;obtain⟨b,u,rfl,rfl⟩:=f;obtain⟨y,r,t⟩:=V5 l n u;exact⟨_,w,by unfold execOp;rw[q];rfl,PRes.az l.ok ⟨y,r,t⟩⟩;exact CX l n f j d p;exact CX l n f j d p
theorem Z3o(F:RelG c B G s a w h g){o:Oper}(hc:zW c ops g o=J C):(holds s (ZI c C)->Region.wanted o (yielded ops a.tmps)=xk)/\(¬holds s (ZI c C)->Region.wanted o (yielded ops a.tmps)=xw):=by
 unfold zW at hc;unfold Region.wanted;split at hc;simp_all[Zh7,trivial,absurd,Yv];rename_i j d z;simp only[Zh6]at hc;obtain⟨t,Q,hc⟩:=hc;simp only[z];have P:yielded ops a.tmps j=match a.tmps[t]? with|some (.bool b)=>J b|_=>U:=by
  unfold yielded;rw[show(ops[j]?).bind (·.dst)=J t from by grind,Zhk];generalize a.tmps[t]?=q;obtain _|v:=q;rfl;rfl
 split at hc;rename_i k u l;split at hc;rename_i M;subst M;simp only[Zh7]at hc;subst hc;have K:ZI c (k++[(t,d)])=ZI c k++[(c.ix t,d)]:=by simp[ZI]
 have D:holds s (ZI c<|k++[(t,d)])↔holds s (ZI c k)/\get s (c.ix t)=.v (.bool d):=by
  rw[K,B4];simp[holds]
 by_cases y:holds s<|ZI c k;obtain⟨v,N,f⟩:=F.Y t Zgd (by rw[l];rfl);rw[l]at f;obtain⟨x,hx,r⟩:=f;have p:get s (c.ix t)=.v x:=by
  simp only[eval]at hx;cases z:get s (c.ix t)<;>rw[z]at hx<;>simp at hx;rw[hx]
 rw[P,N];constructor;intro n;have:=(D.1 n).2;rw[p]at this;simp only[SV.v.injEq]at this;subst this;have O:v=.bool d:=by cases r;rfl
 simp_all;intro n;have L:x≠.bool d:=λe=>n<|D.2 ⟨y,by rw[p,e]⟩;cases r<;>first
  |rfl
  |simp_all
 have H:=F.skip t Zgd;have A:(match a.tmps[t]? with|some (.bool b)=>J b|_=>U)=(U:Option Bool):=by
  cases n:a.tmps[t]? with
  |none=>rfl
  |some v=>
   simp only[Zhd,n,ZhE]at H;subst H;rfl
 simp_all;cases hc;cases hc
theorem Oe{d:Nat}{k:TK}{v:Value}{efs:List EF}{chks:List (ZG×E)}(n:d<a.tmps.size)(j:Step B [d] [d] [] w w' h h')(f:Ok B G w' h')(l:holds s<|ZI c C)(o:RelK c.P B s w' h' (λp=>(a.put (J d) v).tmps[p]?) d v k):
  OPost c B G s a (a.put (J d) v) w w' h h' {d:=[(d,C,k)],ps:=[d],rb:=[d],fz:=[],efs,chks}:=
 ⟨j,f,qW _ _ _,qV _ _ _,λt g=>Ot v g,λt g=>by
  simp_all[ZV,Gam.at,Zi9,VV,absurd]⟩
theorem Of{d:Nat}{k:TK}{efs:List EF}{chks:List (ZG×E)}(l:d<a.tmps.size)(f:Ok B G w h)(j:¬holds s (ZI c C)):
  OPost c B G s a (a.put (J d) xy) w w h h {d:=[(d,C,k)],ps:=[d],rb:=[d],fz:=[],efs,chks}:=
 ⟨Step.refl _ _ _ _,f,qW _ _ _,qV _ _ _,λt g=>Ot _ g,λt g=>by
  simp_all[ZV,Gam.at,Zi9,absurd,Zhd,VV,ZhE]⟩
theorem RelK.uh{d t:Nat}{v u:Value}{k:TK}(f:RelK c.P B s w h (λp=>a.tmps[p]?) t v k)(g:UL d k=xw):RelK c.P B s w h (λp=>(a.put (J d) u).tmps[p]?) t v k:=by
 cases k with
 |ig p=>
  have:p≠d:=λe=>by simp_all[UL]
  show(a.put (J d) u).tmps[p]?=J v;rw[Qq this];exact f
 |_=>exact f
theorem qC:∀ {R:List Nat} {g:Gam} {t:Nat},(only g R).at t=if t∈R then g.at t else([],.no)
 | [],g,t=>rfl
 |u::R,g,t=>by
  simp only[only,ZhN,Gam.at];by_cases a:u=t;grind;rw[Zhg a];have:=qC (R:=R) (g:=g) (t:=t);simp_all[only,ZiX]
theorem PD(z:RelG c B G s a w h g){ks:List OT}{d:List AP}{aq_:List (E×Option Nat)}(n:Tc c g C ks d=J aq_)(u:∀(i:Nat) (e:E) (p:Nat),aq_[i]?=J (e,J p)->∃X,eval s e=J X){vs:Array Value}
  (o:∀(i:Nat) (e:E) (p:Nat),aq_[i]?=J (e,J p)->a.tmps[p]?=J (vs.getD i xy)):
  (∀(i:Nat) (e:E) (p:Nat),aq_[i]?=J (e,J p)->a.tmps[p]?=J (vs.getD i xy)/\((∃l b,ks[i]?=J (.mem l)/\h.bl p 0=J b/\vs.getD i xy=.pointer (J ⟨b,0,U⟩))\/∃q,ks[i]?=J (.own q))):=by
 obtain⟨r,j,t⟩:=JC n;intro i e p k;have f:i<I ks:=by rw[<-j];exact(Zh9.1 k).1
 have y:ks[i]?=J ks[i]:=Zh8 f;have x:d[i]?=J d[i]:=Zh8 Z0;grind [qS,Option.some.injEq]
theorem Z7T{ks:List OT}{a:List AP}{aq_:List (E×Option Nat)}(n:Tc c g C ks a=J aq_):∀(j:Nat) (k:OT) (y:E×Option Nat),ks[j]?=J k->aq_[j]?=J y->(y.2=U↔k=OT.fz):=by
 obtain⟨p,q,h⟩:=JC n;intro j k y f o;have l:j<I ks:=(Zh9.1 f).1;have d:=h j k _ y f (Zh8 (by omega:j<I a)) o;unfold Rg at d;grind [Option.bind_eq_some_iff,Option.some.injEq]
theorem QQ:∀ {l:List Operand} {ts:List TypeId},I (Vp l ts)=I l/\∀(i:Nat) (x:AP),(Vp l ts)[i]?=J x->∃y t,l[i]?=J y/\x=.op y t
 | [],ts=>by simp[Vp]
 |x::l,[]=>by
  obtain⟨d,f⟩:=QQ (l:=l) (ts:=[]);refine⟨by simp[Vp,d],λi y a=> ?_⟩;cases i with
  |zero=>simp[Vp]at a;exact⟨x,0,rfl,a.symm⟩
  |succ i=>simpa using f i y (by simpa[Vp]using a)
 |x::l,t::ts=>by
  obtain⟨d,f⟩:=QQ (l:=l) (ts:=ts);refine⟨by simp[Vp,d],λi y a=> ?_⟩;cases i with
  |zero=>simp[Vp]at a;exact⟨x,t,rfl,a.symm⟩
  |succ i=>simpa using f i y (by simpa[Vp]using a)
theorem Z2Y(hr:RelG c B G s a w h g)(Z:holds s<|ZI c C){o:Oper}{fn:FN}{ks:List OT}{A:List AP}(d:An c g C o=J (fn,ks,A)){f:FuncId}(u:Vu s fn=J f)(q:U5 c.P f=xk):
  ∃vs:Array Value,(execOp a.eval o).run c.P w=.ok (.enter f vs) w/\vs.size=I A/\∀(i:Nat) (x:AP),A[i]?=J x->Kj a h x (vs.getD i xy):=by
 have r:∀ {args:Array Operand} {j:Array TypeId} {K:Operand} {k:Array Value},o.op=.call {callee:=.value K,args:=args,argTypes:=j}->a.eval K=.func (.func f) #[] k->
   (execOp a.eval o).run c.P w=.ok (.enter f<|args.map a.eval++k) w:=by
  intro args j K k n N;unfold U5 at q;split at q;rename_i fn O;simp only[Zhb,Ziz,ZkB,Zls]at q;obtain⟨h1,Y⟩:=q;obtain⟨code,M⟩:=Zih.1 Y;simp[execOp,n,resolve,N,Deferred.ofValue,invoke,callFunc,O,h1,M];cases q
 have plain:∀ {args:Array Operand} {j:Array TypeId} {i:Nat} {x:AP},(Vp args.toList j.toList)[i]?=J x->Kj a h x ((args.map a.eval).getD i xy):=by
  intro args j i x z;obtain⟨y,t,X,rfl⟩:=(QQ (l:=args.toList) (ts:=j.toList)).2 i x z;rw[Zis]at X;have R:i<args.size:=(Zhe.1 X).1;show(args.map a.eval).getD i xy=a.eval y;simp[Zhd,X]
 unfold An at d;split at d;rename_i L args j n;simp only[Zha,Zho]at d;obtain⟨H,_,rfl,rfl,rfl⟩:=d;simp only[Vu,Zh7]at u;subst u;refine⟨args.map a.eval++ #[],r n rfl,by simp_all[QQ],λi x z=> ?_⟩;grind;rename_i t args j n;split at d;rename_i L k Q;simp only[Zha,Zho]at d;obtain⟨H,_,rfl,rfl,rfl⟩:=d;simp only[Vu,Zh7]at u;subst u;obtain⟨v,S,⟨vs,rfl,Y,M⟩,_⟩:=hr.look Z (show look g C t=_ from Q) rfl;have D:=(QQ (l:=args.toList) (ts:=j.toList)).1;simp only[Zjy]at D;refine⟨args.map a.eval++vs,r n<|Act.al a t _ S,Zgc,λi x z=> ?_⟩;by_cases R:i<args.size;rw[ZhI Z0]at z;have:=plain z;simp_all[Zhd,Zjd];rw[Zhy Z0,Zhz,Zha]at z;obtain⟨p,hp,rfl⟩:=z;rw[D]at hp;obtain⟨b,q1,q2⟩:=M _ p hp;refine⟨b,q1,?_⟩;simp_all[Zhd,Zku];rename_i e sh Q;simp only[Zha,Zho]at d;obtain⟨H,_,rfl,rfl,rfl⟩:=d;obtain⟨v,S,⟨x,hx,W⟩,_⟩:=hr.look Z (show look g C t=_ from Q) rfl;simp only[Vu,hx]at u;split at u;rename_i L F;simp only[Zh7]at F u;subst F u;have T:v=.func (.func L) #[] #[]:=by cases W;rfl
 subst T;refine⟨args.map a.eval++ #[],r n<|Act.al a t _ S,by simp_all[QQ],λi x z=> ?_⟩;rw[Zi4];exact plain z;cases u;grind;grind
theorem Ca:∀ {ks:List OT} {aq_:List (E×Option Nat)} {g:List V},I aq_=I ks->WC s ks (aq_.map (·.1))=J g->∃a,I a=I ks/\XH ks a=g/\∀(i:Nat) (k:OT) (y:E×Option Nat) (x:V),ks[i]?=J k->k≠.fz->aq_[i]?=J y->a[i]?=J x->eval s y.1=J x
 | [],[],g,_,d=>by
   simp only[Zj5,WC,Zh7]at d;subst d;exact⟨[],rfl,rfl,λi k y x h=>ZgN⟩
 | [],_::_,g,f,_=>by simp at f
 |_::_,[],g,f,_=>by simp at f
 |k::ks,(e,o)::aq_,g,f,d=>by
  by_cases h:k=.fz;subst h;simp only[ZhN,WC]at d;obtain⟨a,q,r,t⟩:=Ca (ks:=ks) (aq_:=aq_) Zgs d;refine⟨.bool xw::a,by simp[q],by simpa only[XH]using r,λi k y x j p l n=> ?_⟩;cases i with
  |zero=>simp at j;exact absurd j.symm p
  |succ i=>exact t i k y x (by simpa using j) p (by simpa using l) (by simpa using n)
  have w:WC s (k::ks) (e::aq_.map (·.1))=(eval s e).bind λx=>(WC s ks (aq_.map (·.1))).map (x:: ·):=by cases k<;>first|exact absurd rfl h|simp only[WC]
  rw[ZhN,w]at d;simp only[Zh6,Zha]at d;obtain⟨x,hx,B,u,rfl⟩:=d;obtain⟨a,q,r,t⟩:=Ca (ks:=ks) (aq_:=aq_) Zgs u;have A:XH (k::ks) (x::a)=x::XH ks a:=by cases k<;>first|exact absurd rfl h|simp only[XH]
  refine⟨x::a,by simp[q],by rw[A,r],λi k y z j p l n=> ?_⟩;cases i with
  |zero=>simp at l n;subst l n;exact hx
  |succ i=>exact t i k y z (by simpa using j) p (by simpa using l) (by simpa using n)
def Jt(P:Program) [Lg P](s:St)(a:OS):Prop:=(∀d∈a.efs,QH P s d)/\∀x∈a.chks,holds s x.1->∃z,eval s x.2=J z
theorem ZaR [Lg c.P]{h8 R:List Nat}{all:Gam}{o:Oper}{os:OS}{i:Nat}(T:ops[i]?=J o)(hR:R=T6 ops all o)(H:RelG c B G s a w h<|only all R)(A:QA c h8 ops all o=J os)(b1:Jt c.P s os)(hn:c.n<=a.tmps.size)
  {K:Act->World->Prop} (hK:∀a' w' h',OPost c B G s a a' w w' h h' os->(∃u,a'=a.put o.dst u)->K a' w'):Qj c.P ops i K a w:=by
 subst hR;unfold Qj;simp only[T];unfold QA at A;simp only at A;split at A;cases A;rename_i i7;have Q:∀d,o.dst=J d->d<a.tmps.size:=by
  intro d N;obtain O|j1:=Zlu d c.n;exact Zhj O hn;simp[Gg,N,Zlr.2 j1]at i7
 simp only[Zh6]at A;obtain⟨C,hC,A⟩:=A;obtain⟨d0,f2⟩:=Z3o (ops:=ops) H hC;split at A
 ·
  rename_i fn ks a9 d a2 N;unfold DM at A;split at A;cases A;simp only[Zh6]at A;obtain⟨aq_,W,A⟩:=A;split at A;cases A;rename_i g5;simp only[Zhr,Ziz,Zlx,Zkc,Zjp,ZhG]at g5;obtain⟨hn,f9⟩:=g5;have hn:=Mp.1 hn;simp only[Zh7]at A;subst A;have g3:=b1.1 _<|List.Mem.head _;obtain⟨k9,a3,M⟩:=JC W;have hz:=Z7T W;rw[N];by_cases L:holds s<|ZI c C;rw[Zhi<|d0 L];obtain⟨xs,f,R,d5,hf,⟨e4,b8⟩,hR⟩:=g3.1 L;obtain⟨vs,g4,k4,h4⟩:=Z2Y H L a2 hf e4;have a1:=Z2s H L W d5 k4 h4;obtain⟨_,h5⟩:=UV d5;have hX:∀(i:Nat) (e:E) (p:Nat),aq_[i]?=J (e,J p)->∃X,eval s e=J X:=λi e p T=>by
   obtain⟨X,_,hX⟩:=h5 i e (by rw[Zhz,T];rfl);exact⟨X,hX⟩
  have a6:=PD H W hX (vs:=vs) λi e p T=>by
   have O:i<I ks:=ZgM;have S:ks[i]?=J ks[i]:=Zh8 O;have ha:a9[i]?=J a9[i]:=Zh8 Z0;obtain⟨X,hx⟩:=hX i e p T;exact(O0 (ks:=ks) (aq_:=aq_) H L (M i _ _ _ S ha T) hx (h4 i _ ha) S T).2 p rfl
  rw[g4,Z02];refine Lg.dy (b8 B w (Vr _ h w ks aq_) vs (FW H.ok hn) a1) λe w' he=> ?_;obtain⟨v,r,ys,hx,rfl,Z,e9,g8,i3,a5,hB,a4⟩:=he;refine⟨v,rfl,?_⟩;rw[N];refine hK _ _ _ (FX H W hn (Q d N) f9 a6 hz g8 i3 Z e9 hB (r0:=r) (λe8=> ?_) (λ_=> ?_) λe6=>absurd L e6) ⟨_,by rw[N]⟩;rw[hR,a4];cases a0:XH ks ys with
  |nil=>exact absurd a0 e8
  |cons x l=>rfl
  have f3:∀b,hx.F b->(VK h hx aq_).F b:=λb D=>.inr D;cases a0:XH ks ys with
  |nil=>
   have b6:(aq_.filterMap (·.2)).isEmpty=xk:=by
    cases j8:aq_.filterMap (·.2)with
    |nil=>rfl
    |cons p l=>
     exfalso;have k0:p∈ZV (XO (c.ix d) 1 ks aq_):=by rw[Ch a3,j8];simp
     obtain⟨_,_,_,_,_,_,_,_,_,q5⟩:=qD (i0:=c.ix d) (q:=1) (ys:=ys) a3 hB.1 hz p k0;rw[a0]at q5;simp at q5
   rw[Zhi b6];refine⟨r,?_,a5.mono λb D=>GH.cd<|f3 b D⟩;simp only[eval,hR,a4,a0,Jz]
  |cons x l=>
   have b6:¬(aq_.filterMap (·.2)).isEmpty=xk:=by
    intro he;have g6:=ZjS.1 he;have:∀ {ks:List OT} {aq_:List (E×Option Nat)} {ys:List V},I aq_=I ks->(∀(j:Nat) (k:OT) (y:E×Option Nat),ks[j]?=J k->aq_[j]?=J y->(y.2=U↔k=OT.fz))->aq_.filterMap (·.2)=[]->XH ks ys=[]:=by
     intro ks;induction ks with
     |nil=>intro aq_ ys _ _ _;simp[XH]
     |cons k ks ih=>
      intro aq_ ys h1 h2 h3;obtain _|⟨y,aq_⟩:=aq_;simp at h1;have hy:y.2=U:=by
       cases hy:y.2 with
       |none=>rfl
       |some p=>simp[ZiW,hy]at h3
      have S:=(h2 0 k y rfl rfl).1 hy;subst S;obtain _|⟨z,ys⟩:=ys;simp[XH];simp only[XH];exact ih (by simpa using h1) (λj k y q1 q2=>h2 (j+1) k y (by simpa using q1)<|by simpa using q2) (by simpa[ZiW,hy]using h3)
    have:=this (ys:=ys) a3 hz g6;rw[a0]at this;cases this
   rw[Zhg b6];refine⟨r,?_,a5.mono λb D=>GH.cd<|f3 b D⟩;simp only[eval,hR,a4,a0,Jz,Zhk,TV,Zjz]
  rw[Zhg (by rw[f2 L];simp)];obtain⟨os,a0,j3⟩:=g3.2 L;obtain⟨ys,k5,h6,k6⟩:=Ca a3 a0;let vs:Array Value:=(aq_.map λy=>match y.2 with|some p=>a.tmps.getD p xy|none=>xy).toArray;have hX:∀(i:Nat) (e:E) (p:Nat),aq_[i]?=J (e,J p)->∃X,ys[i]?=J X/\eval s e=J X:=λi e p T=>by
   have O:i<I ks:=ZgM;have S:ks[i]?=J ks[i]:=Zh8 O;have h7:ys[i]?=J ys[i]:=Zh8 Z0;have e7:ks[i]≠.fz:=λe'=>by have:=(hz i _ _ S T).2 e';cases this
   exact⟨_,h7,k6 i _ _ _ S e7 T h7⟩
  have e0:∀(i:Nat) (e:E) (p:Nat),aq_[i]?=J (e,J p)->a.tmps[p]?=J (vs.getD i xy):=λi e p T=>by
   have O:i<I ks:=ZgM;have S:ks[i]?=J ks[i]:=Zh8 O;have ha:a9[i]?=J a9[i]:=Zh8 Z0;obtain⟨X,_,hx⟩:=hX i e p T;obtain⟨v,q1,_⟩:=qS (ks:=ks) (aq_:=aq_) H (M i _ _ _ S ha T) hx S T;have:vs.getD i xy=v:=by simp[vs,Zhd,T,q1]
   rw[this];exact q1
  have a6:=PD H W (λi e p T=>by obtain⟨X,_,hX⟩:=hX i e p T;exact⟨X,hX⟩) e0;refine hK _ _ _ (FX H W hn (Q d N) f9 a6 hz (FW H.ok hn) rfl (.refl _ _) (.refl _ _) (ys:=ys) ⟨k5,λi k y S e7 hy=> ?_⟩ (r0:=.bool xw) (λe8=>by rw[h6];exact j3 (by rw[<-h6];exact e8)) (λe6=>absurd e6 L) λ_=>rfl) ⟨_,by rw[N]⟩;have O:i<I ks:=(Zh9.1 S).1;have ha:a9[i]?=J a9[i]:=Zh8 Z0;have hs:aq_[i]?=J aq_[i]:=Zh8 Z0;generalize aq_[i]=y0 at hs;obtain⟨e,o⟩:=y0;obtain _|p:=o;exact absurd ((hz i k _ S hs).1 rfl) e7;obtain⟨X,f4,i4⟩:=hX i e p hs;rw[hy]at f4;cases f4;obtain⟨v,q1,q2,_⟩:=qS (ks:=ks) (aq_:=aq_) H (M i _ _ _ S ha hs) i4 S hs;have:=e0 i e p hs;rw[q1]at this;simp only[Zh7]at this;rw[<-this];exact q2
 cases A;split at A
 ·
  rename_i f d6 args ts d a2 N;unfold DL at A;split at A;cases A;simp only[Zha]at A;obtain⟨aq_,W,rfl⟩:=A;by_cases L:holds s<|ZI c C;rw[Zhi<|d0 L];obtain⟨xs,n,r,d5,j0,b8,i9,M⟩:=b1.1 _ (List.Mem.head _) L;obtain⟨hl,hx⟩:=FG H L W d5;obtain⟨e4,b8⟩:=b8;obtain⟨a7,c0,f7,f6⟩:=Z2Z H L a2 j0 e4;rw[c0,Z02];refine Lg.dy (b8 w (h.fo aq_.2.2<|aq_.2.1++d6) ((args.map a.eval).toArray++a7) (GH.sq H.ok) (by simp[hl,f7]) λj x hj=> ?_) λe w' he=> ?_;by_cases O:j<I args;rw[ZhI Z0]at hj;obtain⟨z,hz,k8⟩:=hx j args[j] (by simp[O]);rw[hj]at hz;cases hz;have:((args.map a.eval).toArray++a7).getD j xy=a.eval args[j]:=by
   rw[Zhd,Zjd (by simpa using O)];simp[O]
  rw[this];exact k8.mono (GH.dp (λe=>e) λp hp=>by simp[hp]);rw[Zhy Z0]at hj;have:=f6 _ x hj;have e:((args.map a.eval).toArray++a7).getD j xy=a7.getD (j-I xs) xy:=by
   rw[Zhd,Zhd,Zku Zge];simp[hl]
  rw[e];exact this.mono λb D=>GH.dp (λe=>by cases e) (λp hp=>by simp[hp]) b<|GH.nr (big:=xw) D;obtain⟨v,rfl,Z,a5⟩:=he;refine⟨v,rfl,?_⟩;have c7:=Z.size;let h':GH:= {F:=λb=>h.F b\/(xz (xj w)<=b/\b<xz (xj w')),bl:=h.bl,K:=h.K};have b5:Ok B G w' h':=by
   refine⟨ZhD H.ok.base c7,λb D=> ?_,λb D=> ?_,λb D=>.inl<|H.ok.fj b D,λt j b D=> ?_,H.ok.inj,λb D=>Zhj (H.ok.cx b D) c7,H.ok.cp,λb D=> ?_⟩;obtain D|D:=D;exact Zhj (H.ok.bz b D) c7;exact D.2;obtain D|D:=D;exact H.ok.cz b D;exact .inr<|ZhD H.ok.base D.1;obtain⟨h1,h2,h3⟩:=H.ok.aw t j b D;refine⟨h1,Zhj h2 c7,λhF=> ?_⟩;obtain hF|hF:=hF;exact h3 hF;omega;obtain D|D:=D;exact H.ok.fk b D;exact .inr λj5=>by have:=H.ok.cx b j5;omega
  have f0:Step B [d] [d] [] w w' h h':=⟨Z.mono H.ok.base,λb D _=>Z.block b D,λb D=>.inl D,λ_ _ _=>rfl,λ_ _=>rfl,λ_ _ _ _ hm=>(by simp at hm),rfl⟩;rw[N];have b3:∀b,h.fo aq_.2.2 (aq_.2.1++d6) b->h'.fo aq_.2.2 (aq_.2.1++d6) b:=λb D=>by
   obtain D|D:=D;exact .inl<|.inl D;exact .inr D
  refine hK _ _ h' (Oe (Q d N) f0 b5 L ?_) ⟨_,by rw[N]⟩;split
  ·
   rename_i a8;simp only[Zhb]at a8;refine⟨r,by simp only[eval,M],a5.mono λb D=> ?_⟩;obtain⟨_,D⟩|D:=D;rw[a8.1]at b3 D;exact b3 b D;exact .inl<|.inr D
  rename_i a8;refine⟨r,by simp only[eval,M],?_⟩;split;rename_i g9;simp only[Zhr]at g9;obtain e5|c1:=g9;have b4:=i9 e5;unfold WA at b4;split at b4;cases b4;rename_i j7;split at b4;rename_i f5;exact a5.gp (λy hy=>Zhn.1 f5 y hy) λl hl=>j7 l hl;cases b4;refine a5.mono λb D=> ?_;obtain⟨D,_⟩|D:=D;rw[c1]at D;cases D;exact .inl<|.inr D;rename_i d8;refine a5.mono λb D=> ?_;obtain⟨_,D⟩|D:=D;have i6:aq_.2.2=xw:=by
   cases i5:aq_.2.2;rfl;exfalso;apply a8;rw[i5]at d8⊢;simp only[ZjN];cases hz:((!(aq_.2.1++d6).isEmpty||xk)&& !J6 c f&&XM c.P o.type||J6 c f);rfl;exact(d8 hz).elim
  have:=b3 b D;rw[i6]at this;exact GH.rc this;exact .inl<|.inr D;rw[Zhg (by rw[f2 L];simp)];rw[N];exact hK _ _ h (Of (Q d N) H.ok L) ⟨_,by rw[N]⟩
 cases A;split at A
 ·
  rename_i k es d j9 N;have h0:∃k' efs chks,os= {d:=[(d,C,k')],ps:=[d],rb:=[d],fz:=[],efs,chks}/\(holds s (ZI c C)->(∀e∈es,∃z,eval s e=J z)/\∀ {v w' h'},RelK c.P B s w' h' (λp=>a.tmps[p]?) d v k->RelK c.P B s w' h' (λp=>(a.put (J d) v).tmps[p]?) d v k'):=by
   unfold DP at A;split at A;split at A;rename_i e;split at A;cases A;simp only[Zh7]at A;subst A;refine⟨_,_,_,rfl,λL=>⟨λe he=>b1.2 (ZI c C,e) (Zhq.2 ⟨e,he,rfl⟩) L,λS=> ?_⟩⟩;obtain⟨x,hx,M⟩:=b1.1 _ (List.Mem.head _) L;obtain⟨y,hy,k7⟩:=S;rw[hx]at hy;cases hy;exact⟨x,by simp only[eval,M],k7⟩;cases A;split at A;cases A;rename_i ht;simp only[Zhr,Zlx,Zkm]at ht;simp only[Zh7]at A;subst A;refine⟨_,_,_,rfl,λL=>⟨λe he=>b1.2 (ZI c C,e) (Zhq.2 ⟨e,he,rfl⟩) L,λS=>S.uh ht.1⟩⟩
  obtain⟨k',efs,chks,rfl,a1⟩:=h0;by_cases L:holds s<|ZI c C;rw[Zhi<|d0 L];obtain⟨i8,a1⟩:=a1 L;obtain⟨v,w',b7,h',k3,b5,j4⟩:=Z8f H L j9 i8 d N;rw[b7,Z03,N];exact hK _ _ h' (Oe (Q d N) k3 b5 L<|a1 j4) ⟨_,by rw[N]⟩;rw[Zhg (by rw[f2 L];simp),N];exact hK _ _ h (Of (Q d N) H.ok L) ⟨_,by rw[N]⟩
 ·
  split at A;cases A;rename_i h9;have j2:o.guard=U:=by cases hg:o.guard<;>simp_all
  have i1:C=[]:=by
   unfold zW at hC;rw[j2]at hC;simpa using hC.symm
  subst i1;rw[Zhi<|d0<|Yv s c];simp only[Zh6]at A;obtain⟨m,hm,A⟩:=A;split at A;rename_i d9;simp only[Zhb,Zhn,Zjp,ZhG]at d9;obtain⟨⟨b6,k2⟩,f8⟩:=d9;simp only[Zh7]at A;subst A;obtain⟨n,u,w',h',b7,j6,Y⟩:=Z6w H Q hm λe he=>b1.2 ([],e) (Zhq.2 ⟨e,he,rfl⟩)<|VP s;have c8:∀t,t∉m.ps->(a.put o.dst u).tmps[t]?=a.tmps[t]? :=by
   intro t ht;cases N:o.dst with
   |none=>rfl
   |some d=>
    refine Qq (λe=>ht ?_) u;rw[e];simpa[Gh,N]using f8
  have d7:OPost c B G s a (a.put o.dst u) w w' h h'<|DO (only all (T6 ops all o)) all m:=by
   refine⟨Y.step,Y.ok,qW _ _ _,qV _ _ _,c8,λt ht=> ?_⟩;simp only[DO,ZV,Zir,ZhC]at ht⊢;rw[VJ,VJ];simp only[ZV,Zir,ZhC];by_cases h1:t∈ZV m.d;have b2:t∈List.map (·.1) m.d:=h1;simp only[b2,true_or,Zi9];obtain⟨e1,e2⟩:=Y.vr t h1;exact⟨λ_ b0=>e2 b0,λhn=>absurd (by rw[e1];exact Yv s c) hn⟩;have b2:t∉List.map (·.1) m.d:=h1;by_cases h2:t∈ZV (Wi m.ps m.rb m.fz all);have b9:t∈List.map (·.1) (Wi m.ps m.rb m.fz all):=h2;simp only[b2,b9,false_or,Zi9,Zif,yR h2];exact⟨λ_ b0=>by simp[TK.bu]at b0,λhn=>absurd (Yv s c) hn⟩;have b9:t∉List.map (·.1) (Wi m.ps m.rb m.fz all):=h2;have h3:t∈m.fz:=by
    obtain(ht|ht)|ht:=ht;exact absurd ht b2;exact absurd ht b9;have:=yq (fz:=m.fz) (g:=only all (T6 ops all o));unfold ZV at this;rw[this]at ht;exact ht
   have f1:t∉m.ps:=λhp=>h1<|b6 t hp;have e3:Vs m.ps m.rb m.fz ((only all (T6 ops all o)).at t).2=xk:=by
    rw[qC];split;exact Ip h2;exact As _ _ _
   simp only[b2,b9,false_or,Zif,yp h3];refine⟨λi2 b0=> ?_,λhn=> ?_⟩;have g7:((only all (T6 ops all o)).at t).2.bu=xw:=by
    cases S:((only all (T6 ops all o)).at t).2<;>first|rfl|(rw[S]at b0;simp[RY,TK.bu]at b0)
   obtain⟨v,hv,S⟩:=H.Y t i2 g7;exact⟨v,by rw[c8 t f1];exact hv,S.freeze Y.step H.ok k2 f1 h3 e3 c8⟩;have:=H.skip t hn;simp only[Zhd,c8 t f1]at this⊢;exact this
  rw[b7];obtain rfl|⟨rfl,rfl⟩:=j6;rw[Z03];exact hK _ _ h' d7 ⟨_,rfl⟩;rw[Zba];exact hK _ _ h' d7 ⟨_,rfl⟩;cases A
end
end Vm
end
section
namespace Vm
open Go
open Go.RowKit (Below)
def gL:List XS->Nat->(Nat->Bool)->Gam->Gam
 | [],_,_,g=>g
 |x::xs,k,L,g=>gL xs (k+1) L (if L k then x.os.d++g else g)
def YL(xs:List XS)(g:Gam):Gam:=xs.foldl (λg x=>x.os.d++g) g
def yt{t}:∀ {xs} {k:Nat} {L h:Nat->Bool} {g j:Gam},(∀i x,xs[i]?=J x->t∈ZV x.os.d->L (k+i)=h (k+i))->g.at t=j.at t->(gL xs k L g).at t=(gL xs k h j).at t
 | [],_,_,_,_,_,_,a=>a
 |x::xs,k,L,h,g,j,n,a=>by
  simp[gL];refine yt (λi y o f=> ?_) ?_;have:=n (i+1) y Zgc f;grind;by_cases f:t∈ZV x.os.d;have l:=n 0 x rfl f;rw[ZiS]at l;rw[<-l];split;simp_all[VJ];exact a;have:∀b g,Gam.at (if b=xk then x.os.d++g else g) t=g.at t:=by
   intro b g;split;rw[VJ,Zhg f];rfl
  rw[this,this];exact a
def AZ{t}:∀ {xs} {k:Nat} {L:Nat->Bool} {g:Gam},(∀i x,xs[i]?=J x->L (k+i)=xk->t∉ZV x.os.d)->(gL xs k L g).at t=g.at t
 | [],_,_,_,_=>rfl
 |x::xs,k,L,g,a=>by
  simp[gL];rw[AZ λi y h j=>a (i+1) y Zgc Zgc];split;rename_i f;rw[VJ,Zhg<|a 0 x rfl f];rfl
def H8{t}:∀ {xs} {k i:Nat} {L:Nat->Bool} {g:Gam} {x:XS},xs[i]?=J x->L (k+i)=xk->t∈ZV x.os.d->(∀j y,xs[j]?=J y->i<j->L (k+j)=xk->t∉ZV y.os.d)->(gL xs k L g).at t=x.os.d.at t
 | [],_,_,_,_,_,a,_,_,_=>by simp at a
 |y::xs,k,0,L,g,x,a,f,n,l=>by
  simp at a;subst a;simp[gL];rw[ZiS]at f;rw[f,Zhi rfl,AZ λj z p h=>l (j+1) z Zgc Z0 Zgc,VJ,Zhi n]
 |y::xs,k,i+1,L,g,x,a,f,n,l=>by
  simp[gL];exact H8 (i:=i) ZgS Zgc n λj z p o h=>l (j+1) z Zgc Z0 Zgc
def H7{t}:∀ {xs} {k:Nat} {L:Nat->Bool} {g:Gam},(gL xs k L g).at t=g.at t\/∃j y,xs[j]?=J y/\L (k+j)=xk/\t∈ZV y.os.d/\(gL xs k L g).at t=y.os.d.at t
 | [],_,_,_=>.inl rfl
 |x::xs,k,L,g=>by
  simp[gL];obtain h|⟨j,y,l,n,a,h⟩:=H7 (xs:=xs) (k:=k+1) (L:=L) (g:=if L k=xk then x.os.d++g else g) (t:=t);by_cases f:L k=xk;rw[Zhi f]at h⊢;rw[VJ]at h;split at h;rename_i a;exact .inr ⟨0,x,rfl,f,a,h⟩;simp_all;simp_all;exact .inr ⟨j+1,y,Zgc,Zgc,a,h⟩
def B0:∀ {xs} {k j:Nat} {g:Gam},gL xs k (λi=>decide (i<k+j)) g=YL (xs.take j) g
 | [],_,_,_=>by simp[gL,YL]
 |x::xs,k,0,g=>by
  simp[gL];have h:∀xs a g,k<=a->gL xs a (λi=>decide (i<k+0)) g=g:=by
   intro xs;induction xs with
   |nil=>intro a g _;rfl
   |cons y p n=>
    intro a g o;simp[gL];rw[Zhg Zge];exact n _ g Z0
  exact h xs _ g Z0
 |x::xs,k,j+1,g=>by
  simp only[gL];rw[Zhi Z1];have f:=B0 (xs:=xs) (k:=k+1) (j:=j) (g:=x.os.d++g);have l:(λi=>decide (i<k+1+j))=λi=>decide (i<k+(j+1)):=by
   funext i;congr 1;apply propext;omega
  rw[l]at f;rw[f];simp[YL]
def PP{c draw k ops}:∀ {l} {g p:Gam} {a xs:List XS},ze c draw k ops l g a=J (p,xs)->
  ∃f,xs=a++f/\I f=I l/\p=YL f g/\∀j o,l[j]?=J o->∃y,f[j]?=J y/\QA c k ops (YL (f.take j) g) o=J y.os/\y.R=T6 ops (YL (f.take j) g) o/\y.T=JX draw (a++f.take j) o/\(draw=xk->∀e∈U7 o,e<I a+j)
 | [],g,p,a,xs,h=>by
   obtain⟨rfl,rfl⟩:=h;exact⟨[],Z1,rfl,rfl,Z1⟩
 |o::l,g,p,a,xs,h=>by
  simp only[ze]at h;split at h;cases h;rename_i d;simp[Zh6]at h;let⟨os,t,h⟩:=h;obtain⟨f,rfl,C,rfl,n⟩:=PP h;refine⟨{os,R:=T6 ops g o,T:=JX draw a o}::f,Z1,by simp[C],by simp[YL],λj D u=> ?_⟩;cases j with
  |zero=>
   simp at u;subst u;refine⟨_,rfl,by simpa[YL]using t,by simp[YL],Z1,λq e r=> ?_⟩;simp[q,ZjN,ZhG]at d;exact d e r
  |succ j=>
   let⟨y,w,x,z,A,B⟩:=n j D Zgc;refine⟨y,by simpa using w,by simpa[YL]using x,by simpa[YL]using z,by simpa using A,λq e r=> ?_⟩;have:=B q e r;simp at this;omega
structure Reg.Fine (c:Ctx) (draw:Bool) (ops:Array Oper) (g0:Gam) (xs:List XS):Prop where
 len:I xs=ops.size
 Y:∀(i:Nat) (o:Oper) (x:XS),ops[i]?=J o->xs[i]?=J x->QA c (yS ops) ops (YL (xs.take i) g0) o=J x.os/\x.R=T6 ops (YL (xs.take i) g0) o/\x.T=JX draw (xs.take i) o/\(draw=xk->∀e∈U7 o,e<i)
 ps:∀(i:Nat) (x:XS),xs[i]?=J x->(∀p∈x.os.ps,p∈ZV x.os.d)/\(∀p∈x.os.fz,p∈ZV x.os.d)/\LJ x.os g0=xk/\∀j∈x.T,j<i
 pair:∀(i j:Nat) (x y:XS),xs[i]?=J x->xs[j]?=J y->qy x i y j=xk
def Z3M{c draw ops g0 gf xs}(h:ze c draw (yS ops) ops ops.toList g0 []=J (gf,xs))(d:C8 g0 xs=xk):Reg.Fine c draw ops g0 xs/\gf=YL xs g0:=by
 obtain⟨z,g,t,rfl,a⟩:=PP h;simp at g;subst g;refine⟨⟨Z0,λi o x u f=> ?_,λi x f=> ?_,λi j x y f w=> ?_⟩,rfl⟩;let⟨y,k,l,n,p,r⟩:=a i o Zgc;simp_all;all_goals
  simp only[C8,Zhn,Zhb]at d;have q:∀i x,xs[i]?=J x->(x,i)∈xs.zipIdx:=λi x f=>ZjM.2 ⟨i,by rw[Zjq,f];simp⟩
 let⟨⟨⟨⟨k,l⟩,n⟩,p⟩,_⟩:=d _<|q i x f;simp_all;simp_all
section
variable {c:Ctx}{B:Nat}{G:Nat->Prop}{s:St}{a a':Act}{w w' w0:World}{h h':GH}{g0:Gam}{ops:Array Oper}{xs:List XS}{draw:Bool}{L:Nat->Bool}
def QG(xs:List XS)(L:Nat->Bool):Prop:=∀(i:Nat) (x:XS),xs[i]?=J x->L i=xk->∀j∈x.T,L j=xk
def add(L:Nat->Bool)(i:Nat):Nat->Bool:=λj=>L j||j==i
def Cy{x y i j}(g:qy x i y j=xk)(f:j≠i)(a:i∉y.T):LJ x.os y.os.d=xk/\(j∉x.T->(∀t∈ZV y.os.d,t∉ZV x.os.d)/\∀t∈ZV y.os.d,t∉x.R):=by
 simp[qy,a]at g;grind [Ac,decide_eq_false_iff_not]
def Ou{a g}(h:LJ a g=xk){t}(j:t∉ZV a.d):Vs a.ps a.rb a.fz (g.at t).2=xk:=by
 by_cases f:t∈ZV g;have:=Zhn.1 h _<|zL f;simp_all;simp_all[Ak,As]
def Reg.Fine.oe(q:Reg.Fine c draw ops g0 xs)(p:QG xs L)(r:RelG c B G s a w h<|gL xs 0 L g0){i x}(hx:xs[i]?=J x)(O:L i=xw)(N:∀j∈x.T,L j=xk):
  RelG c B G s a w h (only (YL (xs.take i) g0) x.R):=by
 have d:∀t,t∈x.R->(gL xs 0 L g0).at t=(YL (xs.take i) g0).at t:=by
  intro t o;have l:=B0 (xs:=xs) (k:=0) (j:=i) (g:=g0);simp at l;rw[<-l];refine yt (λj y z u=> ?_) rfl;rw[ZhZ];let⟨_,_,_,H⟩:=q.ps j y z;let⟨_,_,_,F⟩:=q.ps i x hx;by_cases n:j=i;simp_all;have f:=λA C=>((Cy (q.pair i j x y hx z) n C).2 A).2 t u o;obtain M|l:=Zjl n;grind;cases D:L j with
  |false=>simp;omega
  |true=>
   exfalso;refine f Zgc λK=> ?_;have:=p j y z D i K;simp_all
 refine⟨r.ok,λt=> ?_,λt=> ?_⟩;rw[qC];split;rename_i o;rw[<-d t o];exact r.Y t;simp_all[TK.bu];rw[qC];split;rename_i o;rw[<-d t o];exact r.skip t;simp_all[Yv]
def Reg.Fine.next(H:Reg.Fine c draw ops g0 xs)(C:QG xs L)(O:RelG c B G s a w h<|gL xs 0 L g0){i x}(hx:xs[i]?=J x)(hi:L i=xw)(Q:∀t∈x.os.rb,t∈x.os.ps)(hT:∀j∈x.T,L j=xk)(z:OPost c B G s a a' w w' h h' x.os):
  RelG c B G s a' w' h' (gL xs 0 (add L i) g0):=by
 let⟨N,X,a0,W⟩:=H.ps i x hx
 have key:∀t,(holds s (ZI c ((gL xs 0 (add L i) g0).at t).1)->((gL xs 0 (add L i) g0).at t).2.bu=xw->∃v,a'.tmps[t]?=J v/\RelK c.P B s w' h' (λp=>a'.tmps[p]?) t v ((gL xs 0 (add L i) g0).at t).2)/\
   (¬holds s (ZI c ((gL xs 0 (add L i) g0).at t).1)->a'.tmps.getD t xy=xy):=by
  intro t;by_cases F:t∈ZV x.os.d;have:(gL xs 0 (add L i) g0).at t=x.os.d.at t:=by
   refine H8 hx (by simp[add]) F λj y A Y D q=> ?_;have K:L j=xk:=by
    simp[add,ZhZ,Zhr,Zi2]at D;exact D.resolve_right Z0
   have f:i∉y.T:=λu=>by
    have:=C j y A K i u;simp_all
   exact((Cy (H.pair i j x y hx A) Z0 f).2 λu=>Zgc).1 t q F
  rw[this];exact z.vr t F;have o:(gL xs 0 (add L i) g0).at t=(gL xs 0 L g0).at t:=by
   refine yt (λj y A q=> ?_) rfl;by_cases n:j=i;simp_all;simp[add,n]
  rw[o];have r:=λu=>F<|N t u;have l:Vs x.os.ps x.os.rb x.os.fz ((gL xs 0 L g0).at t).2=xk:=by
   obtain R|⟨j,y,A,D,q,R⟩:=H7 (xs:=xs) (k:=0) (L:=L) (g:=g0) (t:=t);simp_all[Ou];rw[R];rw[ZhZ]at D;have n:j≠i:=Zgc;have f:i∉y.T:=λu=>by
    have:=C j y A D i u;simp_all
   exact Ou (Cy (H.pair i j x y hx A) n f).1 F
  refine⟨λS M=> ?_,λM=> ?_⟩;let⟨v,hv,Z⟩:=O.Y t S M;exact⟨v,by rw[z.tm t r];exact hv,Z.keep z.step O.ok Q r Zgc l z.tm⟩;have:=O.skip t M;simp[Zhd,z.tm t r]at this⊢;exact this
 exact⟨z.ok,Zgd,Zgd⟩
def Z3m(d:QG xs L){i x}(hx:xs[i]?=J x)(h:∀j∈x.T,L j=xk):QG xs<|add L i:=by
 intro j y g a k f;simp[add,Zi2]at a⊢;obtain a|rfl:=a;exact .inl<|d j y g a k f;simp_all
end
end Vm
namespace Vm
open Go
open Go.RowKit (Below)
section
variable {c:Ctx}{B:Nat}{G:Nat->Prop}{s:St}{a a':Act}{w w' w0:World}{h h':GH}{g0:Gam}{ops:Array Oper}{xs:List XS}{draw:Bool}{L:Nat->Bool}{n0:Nat}{ds:List Deferred}
def ZaQ{f all o g}(a:QA c f ops all o=J g):∀t∈g.rb,t∈g.ps:=by
 unfold QA at a;split at a;grind;simp only[Zh6]at a;let⟨C,_,a⟩:=a;split at a;unfold DM at a;simp[Zh6]at a;grind;grind;split at a;unfold DL at a;simp at a;grind;grind;split at a;unfold DP at a;grind;split at a;grind;simp only[Zh6]at a;let⟨m,_,a⟩:=a;split at a;rename_i d;simp at d;simp at a;subst a;exact d.1.2;grind
structure Frm (Kf:Nat->Prop) (fx:Nat->Prop) (T0:Array Value) (B:Nat) (w0:World) (a:Act) (w:World):Prop where
 below:Below B w0 w
 same:Same Kf w0 w
 fix:∀t,fx t->a.tmps[t]?=T0[t]?
def Frm.refl{Kf fx B}a w:Frm Kf fx a.tmps B w a w:=⟨.refl _ _,.refl _ _,Z1⟩
theorem Frm.trans{Kf fx T0 B w0 w w' a a'}(h:Frm Kf fx T0 B w0 a w)(h':Frm Kf fx a.tmps B w a' w'):Frm Kf fx T0 B w0 a' w':=
 ⟨h.below.trans h'.below,h.same.trans h'.same,λt d=>(h'.fix t d).trans<|h.fix t d⟩
variable {Kf fx:Nat->Prop}{T0:Array Value}
def Step.sd{j rb fz}(g:Step B j rb fz w w' h h')(a:Ok B G w h):Same h.K w w':=
 λb d=>g.same b (a.cx b d) λp _ i f=>a.cp p i b f d
def RInv(Kf fx:Nat->Prop)(T0:Array Value)(c:Ctx)(B:Nat)(G:Nat->Prop)(s:St)(g0:Gam)(xs:List XS)(w0:World)(n0:Nat)(ds:List Deferred)(L:Nat->Bool)(a:Act)(w:World):Prop:=
 (∃h,RelG c B G s a w h (gL xs 0 L g0)/\h.K=Kf)/\Frm Kf fx T0 B w0 a w/\a.tmps.size=n0/\a.defers=ds/\QG xs L
def RelG.drew{g}(f:RelG c B G s a w h g)d:RelG c B G s a {w with drawn:=d} h g:=by
 have k:Step B [] [] [] w {w with drawn:=d} h h:=⟨⟨rfl,rfl,rfl,Zhc _,Z1⟩,Z1,Z1,Z1,Z1,Z1,rfl⟩;have j:Ok B G {w with drawn:=d} h:=⟨f.ok.base,f.ok.bz,f.ok.cz,f.ok.fj,f.ok.aw,f.ok.inj,f.ok.cx,f.ok.cp,f.ok.fk⟩;refine⟨j,λt l o=> ?_,f.skip⟩;let⟨v,p,n⟩:=f.Y t l o
 exact⟨v,p,n.keep k f.ok Z1 Z1 Z1 (by
  have:Jb [] (g.at t).2=xw:=by cases(g.at t).2<;>simp[Jb]
  simp[Vs,this]) λ_ _=>rfl⟩
def RInv.mw(g:RInv Kf fx T0 c B G s g0 xs w0 n0 ds L a w)d:RInv Kf fx T0 c B G s g0 xs w0 n0 ds L a {w with drawn:=d}:=by
 let⟨⟨h,l,j⟩,k,f⟩:=g;exact⟨⟨h,l.drew d,j⟩,k.trans ⟨⟨rfl,rfl,rfl,Zhc _,Z1⟩,λ_ _=>rfl,Z1⟩,f⟩
def RInv.od [Lg c.P]{w1}(d:RInv Kf fx T0 c B G s g0 xs w0 n0 ds L a w)(h:Lg.mw c.P w w1):RInv Kf fx T0 c B G s g0 xs w0 n0 ds L a w1:=by
 rw[Lg.oi h];exact d.mw _
def OK [Lg c.P](Q:∀o∈ops,∀d,o.dst=J d->¬fx d)(p:Reg.Fine c draw ops g0 xs)(hs:∀x∈xs,Jt c.P s x.os)(Z:c.n<=n0)(M:RInv Kf fx T0 c B G s g0 xs w0 n0 ds L a w){i x}(hx:xs[i]?=J x)(F:L i=xw)(q:∀j∈x.T,L j=xk)
  {K} (N:∀a' w',RInv Kf fx T0 c B G s g0 xs w0 n0 ds (add L i) a' w'->K a' w'):Qj c.P ops i K a w:=by
 let⟨⟨h,y,k⟩,O,C,r,f⟩:=M;have S:i<ops.size:=by rw[<-p.len];exact(Zh9.1 hx).1
 let⟨D,H,W,X⟩:=p.Y i ops[i] x Z1 hx;have A:=p.oe f y hx F q;have z:=ZaQ D;refine ZaR (R:=x.R) Z1 H A D Zgc Z0 λa' w' h' g l=>N a' w' ⟨⟨h',p.next f y hx F z q g,g.step.K.trans k⟩,O.trans ⟨g.step.below,by rw[<-k];exact g.step.sd y.ok,λt ht=> ?_⟩,by rw[g.size,C],by rw[g.defers,r],Z3m f hx q⟩;obtain⟨u,rfl⟩:=l;cases Y:(ops[i]).dst with
 |none=>rfl
 |some d=>grind [Qq]
def OL [Lg c.P](f:∀o∈ops,Lg.ma c.P o)(g:∀o∈ops,∀d,o.dst=J d->¬fx d)(h:Reg.Fine c xw ops g0 xs)(u:∀x∈xs,Jt c.P s x.os)(t:c.n<=n0){Q}(A:∀a w,RInv Kf fx T0 c B G s g0 xs w0 n0 ds (λi=>decide (i<ops.size)) a w->Q .normal a w):
  ∀m k a w,k+m=ops.size->RInv Kf fx T0 c B G s g0 xs w0 n0 ds (λi=>decide (i<k)) a w->Lg.todo c.P ops Q (List.range' k m) a w
 |0,k,a,w,C,q=>by
  have:k=ops.size:=Z0;exact Lg.li Zgd
 |m+1,k,a,w,C,q=>by
  have l:k<I xs:=by rw[h.len];omega
  let⟨_,_,y,_⟩:=h.Y k ops[k] xs[k] Z1 Z1;refine Lg.nj f λw1 p=> ?_;refine OK g h u t (q.od p) (Zh8 l) Z1 (λj r=> ?_) λa' w' z=>OL f g h u t A m _ a' w' Z0 ?_;rw[y]at r;simp[JX,Zhu,ZjR,Zid]at r;simp;omega;have:add (λi=>decide (i<k)) k=λi=>decide (i<k+1):=by
   funext i;simp[add];by_cases D:i<k;grind;grind
  simp_all
def zk(n:Nat)(L:Nat->Bool):Nat:=I ((List.range n).filter λi=> !L i)
def GD{p q}:∀ {l:List Nat},(∀i∈l,q i=xk->p i=xk)->(∃i∈l,p i=xk/\q i=xw)->I (l.filter q)< I (l.filter p)
 | [],_,⟨i,a,_⟩=>by simp at a
 |x::l,h,⟨i,a,d,f⟩=>by
  have g:∀(l:List Nat),(∀i∈l,q i=xk->p i=xk)->I (l.filter q)<=I (l.filter p):=by
   intro l;induction l with
   |nil=>simp
   |cons y l j=>
    grind
  simp;obtain rfl|a:=Zhs.1 a;grind;have:=GD (l:=l) Zgd ⟨i,a,d,f⟩;grind
def u5{n L i}(d:i<n)(a:L i=xw):zk n (add L i)<zk n L:=
 GD (λj _ f=>by simp_all[add]) ⟨i,Zgc,by simp[a],by simp[add]⟩
def u9{n L}(h:zk n L=0):∀i,i<n->L i=xk:=by
 intro i d;cases f:L i with
 |true=>rfl
 |false=>
  have a:=Zj0 h;simp_all
def IW{o e}(d:e∈o.after)(a:Region.binds .any e=xk):e.on∈U7 o:=by
 simp[U7,Zk4];grind
def Gi{o j}(a:j∈U7 o):∃e∈o.after,Region.binds .any e=xk/\e.on=j:=by
 grind [U7]
def Z9a [Lg c.P](O:∀o∈ops,∀d,o.dst=J d->¬fx d)(y:Reg.Fine c xk ops g0 xs)(hs:∀x∈xs,Jt c.P s x.os)(hn:c.n<=n0){Q}(hQ:∀a w L,(∀i,i<ops.size->L i=xk)->RInv Kf fx T0 c B G s g0 xs w0 n0 ds L a w->Q .normal a w):
  ∀f listed a w,listed.size=ops.size->zk ops.size (λi=>listed.getD i xw)<=f->RInv Kf fx T0 c B G s g0 xs w0 n0 ds (λi=>listed.getD i xw) a w->zK c.P ops Q f listed a w:=by
 have R:∀(listed:Array Bool) i,listed.size=ops.size->i<ops.size->listed.getD i xk=listed.getD i xw:=by
  intro listed i q N;simp[Zhd,q,N]
 have g:∀listed,listed.size=ops.size->Region.ready .any ops listed=[]->∀i,i<ops.size->listed.getD i xw=xk:=by
  intro listed k K i;induction i using Nat.strongRecOn with
  |_ i ih=>
   intro S;cases hl:listed.getD i xw with
   |true=>rfl
   |false=>
    have A:i<I xs:=by rw[y.len];exact S
    let⟨_,_,_,M⟩:=y.Y i ops[i] xs[i] Z1 Z1
    have:i∈Region.ready .any ops listed:=Zl6.2 ⟨Zgd,ops[i],Z1,λe H hb=>by
     have h:=M rfl e.on<|IW H hb;grind⟩
    simp_all
 intro f;induction f with
 |zero=>
  intro listed a w k Z F;have l:=u9<|Nat.le_zero.1 Z;refine⟨?_,Zgc⟩;cases K:Region.ready .any ops listed with
  |nil=>rfl
  |cons i r=>
   have:i∈Region.ready .any ops listed:=by rw[K];simp
   grind [mem_ready,Array.getElem?_eq_some_iff]
 |succ f ih=>
  intro listed a w k Z F;refine⟨λK=>hQ a w _ (g listed k K) F,λi S w1 X=> ?_⟩;let⟨q,o,Y,l⟩:=Zl6.1 S;have h:=(Zhe.1 Y).1;have A:i<I xs:=by rw[y.len];exact h
  rw[R listed i k h]at q;let⟨_,_,e3,M⟩:=y.Y i o xs[i] Y Z1;have t:(λj=>(listed.setIfInBounds i xk).getD j xw)=add (λi=>listed.getD i xw) i:=by
   funext j;simp[add];by_cases a1:j=i;simp_all;simp_all[ZiX]
  refine OK O y hs hn (F.od X) (Zh8 A) q (λj T=> ?_) λa' w' a0=>ih _ a' w' Zgd ?_ Zgd;rw[e3]at T;simp[JX,Zk4,ZjR,ZiR,Zhr,Zi2,Zjp,ZhG]at T;let⟨_,e,H,W⟩:=T;obtain⟨D,N,h3,rfl⟩:=Gi H;have u:=l D N h3;obtain rfl|p:=W;exact u;have z:=M rfl D.on H;have C:D.on<I xs:=Z0;unfold Fg at p;rw[ZhL,Zhi z,Zh8 C]at p;exact F.2.2.2.2 D.on _ Z1 u j p;rw[t];have:=u5 (n:=ops.size) (L:=λi=>listed.getD i xw) h q;omega
def Z9f [Lg c.P](f:∀o∈ops,Lg.ma c.P o)(hm:draw=xk->c.P.follows .mixedOrders=xk){id}(M:Reg.Fine c draw ops g0 xs)(T:∀x∈xs,Jt c.P s x.os)(S:c.n<=a.tmps.size)(A:RelG c B G s a w h g0)(u:∀o∈ops,∀d,o.dst=J d->¬fx d)
  {Q} (Y:∀a' w' h',RelG c B G s a' w' h' (YL xs g0)->h'.K=h.K->Frm h.K fx a.tmps B w a' w'->a'.tmps.size=a.tmps.size->a'.defers=a.defers->Q .normal a' w'):Lg.wp c.P (.region id ops draw) Q a w:=by
 have O:∀L,(∀i,L i=xw)->QG xs L:=λL l i x _ hi=>Zgd;have y:∀L,(∀i,L i=xw)->∀t,(gL xs 0 L g0).at t=g0.at t:=λL l t=>AZ λi x _ hi=>Zgd;have r:∀ {w} L,(∀i,L i=xw)->RelG c B G s a w h g0->RelG c B G s a w h (gL xs 0 L g0):=λL l A=>
  ⟨A.ok,λt=>by rw[y L l t];exact A.Y t,λt=>by rw[y L l t];exact A.skip t⟩
 have p:∀ {a'} {w1 w':World} L,(∀i,i<ops.size->L i=xk)->RInv h.K fx a.tmps c B G s g0 xs w1 a.tmps.size a.defers L a' w'->Frm h.K fx a.tmps B w a w1->Q .normal a' w':=by
  rintro a' w1 w' L l ⟨⟨h',q,D⟩,Z,W,X,_⟩ H;refine Y a' w' h' ?_ D (H.trans Z) W X;have R:∀t,(gL xs 0 L g0).at t=(YL xs g0).at t:=by
   intro t;have:=B0 (xs:=xs) (k:=0) (j:=I xs) (g:=g0);rw[Ziy]at this;rw[<-this];refine yt (λi x hx _=> ?_) rfl;have z:=(Zh9.1 hx).1;rw[ZhZ,l i (by rw[<-M.len];exact z)];simp[z]
  exact⟨q.ok,λt=>by rw[<-R t];exact q.Y t,λt=>by rw[<-R t];exact q.skip t⟩
 cases draw with
 |false=>
  refine Lg.wp_region f ?_;rw[List.range_eq_range'];refine OL f (Kf:=h.K) (T0:=a.tmps) u M T S (w0:=w) (n0:=a.tmps.size) (ds:=a.defers) (λa' w' C=>p _ Z1 C<|Frm.refl _ _) ops.size 0 a w Z0 ⟨Zgc,Frm.refl _ _,rfl,rfl,Zgd⟩
 |true=>
  refine Z9b f Zgd λw1 N=> ?_;rw[show({w1 with drawn:=w1.drawn+1}:World)= {w with drawn:=w1.drawn+1}from Zii (λx=> {x with drawn:=w1.drawn+1}) (Lg.oi N)];generalize w1.drawn+1=d;have F:∀i,(Array.replicate ops.size xw).getD i xw=xw:=λi=>by
   simp;grind
  refine Z9a (Kf:=h.K) (T0:=a.tmps) u M T S (w0:= {w with drawn:=d}) (n0:=a.tmps.size) (ds:=a.defers) (λa' w' L l C=>p L l C ⟨⟨rfl,rfl,rfl,Zhc _,Z1⟩,λ_ _=>rfl,Z1⟩) ops.size _ a _ Z1 ?_ ⟨⟨h,r _ F<|A.drew d,rfl⟩,Frm.refl _ _,rfl,rfl,Zgd⟩;exact ZhD (Zkk _ _) Z1
end
end Vm
namespace Vm
open Go
mutual
theorem Yd{s t:St}:∀(e:E),(∀j,E.asks j e=xk->get s j=get t j)->eval s e=eval t e
 |.c v,_=>rfl
 |.s u,h=>ZgP
 |.m u i,h=>ZgP
 |.mm u i n,h=>ZgP
 |.ce op a b,h=>Zgg
 |.fm n a b,h=>Zgg
 |.un op a,h=>Zgh
 |.conv k a,h=>Zgh
 |.len a,h=>Zgh
 |.mn a b,h=>Zgg
 |.mx a b,h=>Zgg
 |.ext a i,h=>Zgh
 |.ba a b k,h=>Zgg
 |.ac a o,h=>Zgh
 |.bi a o n,h=>Zgh
 |.ai a b n k g,h=>Zgg
 |.ik a b d k,h=>Zgk
 |.fi a b k,h=>Zgg
 |.app a b k,h=>Zgg
 |.upd a b o d,h=>Zgk
 |.di a b n k d,h=>Zgk
 |.mk z a,h=>Zgh
 |.lit l,h=>Zgx
 |.ag l,h=>Zgx
 |.pt f l,h=>Zgx
 |.ite a b d,h=>Zgk
 |.ax a,h=>Zgh
 |.bv a,h=>Zgh
 |.one a,h=>Zgh
 |.sz a n,h=>Zgh
 |.fl a,h=>Zgh
 |.kw a,h=>Zgh
 |.lk q a b z ok,h=>Zgg
 |.dj q a b d,h=>Zgk
 |.eo a,h=>Zgh
 |.fh a,h=>Zgh
theorem SQ{s t:St}:∀(l:List E),(∀j,E.cg j l=xk->get s j=get t j)->YG s l=YG t l
 | [],_=>rfl
 |e::l,h=>by simp only[YG];rw[Yd e λj a=>h j (by simp[E.cg,a]),SQ l λj a=>h j (by simp[E.cg,a])]
end
mutual
theorem V.ab:∀(a b:V),V.same a b=xk->a=b
 | .int k n,b,h=>by
   cases b<;>simp only[V.same]at h<;>first|(cases h;done)|skip
   simp at h;rw[h.1,h.2]
 | .bool x,b,h=>by
   cases b<;>simp only[V.same]at h<;>first|(cases h;done)|skip
   simp at h;rw[h]
 |.str x,b,h=>ZgW
 | .sl l,b,h=>by
   cases b<;>simp only[V.same]at h<;>first|(cases h;done)|skip
   rw[V.cl l _ h]
 | .agg l,b,h=>by
   cases b<;>simp only[V.same]at h<;>first|(cases h;done)|skip
   rw[V.cl l _ h]
 | .aq l,b,h=>by
   cases b<;>simp only[V.same]at h<;>first|(cases h;done)|skip
   rw[V.cl l _ h]
 |.ptr l,b,h=>ZgW
 |.cy f l,b,h=>ZgW
 |.mh k,b,h=>ZgW
 | .fn f,b,h=>by
   cases b<;>simp only[V.same]at h<;>first|(cases h;done)|skip
   simp at h;rw[h]
 | .mp id d vs,b,h=>by
   cases b<;>simp only[V.same,Zhb,Zi2]at h<;>first|(cases h;done)|skip
   rw[h.1.1,V.cl d _ h.1.2,V.cl vs _ h.2]
theorem V.cl:∀(a b:List V),V.cn a b=xk->a=b
 | [],b,h=>by cases b<;>simp[V.cn]at h⊢
 |x::l,b,h=>by
  obtain _|⟨y,r⟩:=b;simp[V.cn]at h;simp only[V.cn,Zhb]at h;rw[V.ab x y h.1,V.cl l r h.2]
end
mutual
theorem E.ab:∀(a b:E),E.same a b=xk->a=b
 | .c v,b,h=>by
   cases b<;>simp only[E.same]at h<;>first|(cases h;done)|skip
   rw[V.ab v _ h]
 | .s u,b,h=>by
   cases b<;>simp only[E.same,Zi2]at h<;>first|(cases h;done)|skip
   rw[h]
 | .m u i,b,h=>by
   cases b<;>simp only[E.same,Zi2,Zhb]at h<;>first|(cases h;done)|skip
   rw[h.1,h.2]
 | .mm u i n,b,h=>by
   cases b<;>simp only[E.same,Zi2,Zhb]at h<;>first|(cases h;done)|skip
   rw[h.1.1,h.1.2,h.2]
 | .ce op x y,b,h=>by
   cases b<;>simp only[E.same,ZhG,Zhb]at h<;>first|(cases h;done)|skip
   rw[h.1.1,E.ab x _ h.1.2,E.ab y _ h.2]
 | .fm op x y,b,h=>by
   cases b<;>simp only[E.same,Zi2,Zhb]at h<;>first|(cases h;done)|skip
   rw[h.1.1,E.ab x _ h.1.2,E.ab y _ h.2]
 | .un op x,b,h=>by
   cases b<;>simp only[E.same,ZhG,Zhb]at h<;>first|(cases h;done)|skip
   rw[h.1,E.ab x _ h.2]
 | .conv k x,b,h=>by
   cases b<;>simp only[E.same,ZhG,Zhb]at h<;>first|(cases h;done)|skip
   rw[h.1,E.ab x _ h.2]
 | .len x,b,h=>by
   cases b<;>simp only[E.same]at h<;>first|(cases h;done)|skip
   rw[E.ab x _ h]
 | .mn x y,b,h=>by
   cases b<;>simp only[E.same,Zhb]at h<;>first|(cases h;done)|skip
   rw[E.ab x _ h.1,E.ab y _ h.2]
 | .mx x y,b,h=>by
   cases b<;>simp only[E.same,Zhb]at h<;>first|(cases h;done)|skip
   rw[E.ab x _ h.1,E.ab y _ h.2]
 | .ext x i,b,h=>by
   cases b<;>simp only[E.same,Zi2,Zhb]at h<;>first|(cases h;done)|skip
   rw[E.ab x _ h.1,h.2]
 | .ba x y k,b,h=>by
   cases b<;>simp only[E.same,Zi2,Zhb]at h<;>first|(cases h;done)|skip
   rw[E.ab x _ h.1.1,E.ab y _ h.1.2,h.2]
 | .ac x o,b,h=>by
   cases b<;>simp only[E.same,Zi2,Zhb]at h<;>first|(cases h;done)|skip
   rw[E.ab x _ h.1,h.2]
 | .bi x o n,b,h=>by
   cases b<;>simp only[E.same,Zi2,Zhb]at h<;>first|(cases h;done)|skip
   rw[E.ab x _ h.1.1,h.1.2,h.2]
 | .ai x y n k g,b,h=>by
   cases b<;>simp only[E.same,Zi2,Zhb]at h<;>first|(cases h;done)|skip
   rw[E.ab x _ h.1.1.1.1,E.ab y _ h.1.1.1.2,h.1.1.2,h.1.2,h.2]
 | .ik x y z k,b,h=>by
   cases b<;>simp only[E.same,Zi2,Zhb]at h<;>first|(cases h;done)|skip
   rw[E.ab x _ h.1.1.1,E.ab y _ h.1.1.2,E.ab z _ h.1.2,h.2]
 | .fi x y k,b,h=>by
   cases b<;>simp only[E.same,Zi2,Zhb]at h<;>first|(cases h;done)|skip
   rw[E.ab x _ h.1.1,E.ab y _ h.1.2,h.2]
 | .app x y k,b,h=>by
   cases b<;>simp only[E.same,Zi2,Zhb]at h<;>first|(cases h;done)|skip
   rw[E.ab x _ h.1.1,E.ab y _ h.1.2,h.2]
 | .upd x y o z,b,h=>by
   cases b<;>simp only[E.same,Zi2,Zhb]at h<;>first|(cases h;done)|skip
   rw[E.ab x _ h.1.1.1,E.ab y _ h.1.1.2,h.1.2,E.ab z _ h.2]
 | .di x y n k z,b,h=>by
   cases b<;>simp only[E.same,Zi2,Zhb]at h<;>first|(cases h;done)|skip
   rw[E.ab x _ h.1.1.1.1,E.ab y _ h.1.1.1.2,h.1.1.2,h.1.2,E.ab z _ h.2]
 | .mk v x,b,h=>by
   cases b<;>simp only[E.same,Zhb]at h<;>first|(cases h;done)|skip
   rw[V.ab v _ h.1,E.ab x _ h.2]
 | .lit l,b,h=>by
   cases b<;>simp only[E.same]at h<;>first|(cases h;done)|skip
   rw[E.cl l _ h]
 | .pt f l,b,h=>by
   cases b<;>simp only[E.same,Zhb,Zi2]at h<;>first|(cases h;done)|skip
   rw[h.1,E.cl l _ h.2]
 | .ag l,b,h=>by
   cases b<;>simp only[E.same]at h<;>first|(cases h;done)|skip
   rw[E.cl l _ h]
 | .ite x y z,b,h=>by
   cases b<;>simp only[E.same,Zhb]at h<;>first|(cases h;done)|skip
   rw[E.ab x _ h.1.1,E.ab y _ h.1.2,E.ab z _ h.2]
 | .ax x,b,h=>by
   cases b<;>simp only[E.same]at h<;>first|(cases h;done)|skip
   rw[E.ab x _ h]
 | .bv x,b,h=>by
   cases b<;>simp only[E.same]at h<;>first|(cases h;done)|skip
   rw[E.ab x _ h]
 | .one x,b,h=>by
   cases b<;>simp only[E.same]at h<;>first|(cases h;done)|skip
   rw[E.ab x _ h]
 | .sz x n,b,h=>by
   cases b<;>simp only[E.same,Zi2,Zhb]at h<;>first|(cases h;done)|skip
   rw[E.ab x _ h.1,h.2]
 | .fl x,b,h=>by
   cases b<;>simp only[E.same]at h<;>first|(cases h;done)|skip
   rw[E.ab x _ h]
 | .kw x,b,h=>by
   cases b<;>simp only[E.same]at h<;>first|(cases h;done)|skip
   rw[E.ab x _ h]
 | .lk d x y z ok,b,h=>by
   cases b<;>simp only[E.same,Zi2,ZhG,Zhb]at h<;>first|(cases h;done)|skip
   rw[h.1.1.1.1,E.ab x _ h.1.1.1.2,E.ab y _ h.1.1.2,V.ab z _ h.1.2,h.2]
 | .dj d x y z,b,h=>by
   cases b<;>simp only[E.same,ZhG,Zhb]at h<;>first|(cases h;done)|skip
   rw[h.1.1.1,E.ab x _ h.1.1.2,E.ab y _ h.1.2,E.ab z _ h.2]
 | .eo x,b,h=>by
   cases b<;>simp only[E.same]at h<;>first|(cases h;done)|skip
   rw[E.ab x _ h]
 | .fh x,b,h=>by
   cases b<;>simp only[E.same]at h<;>first|(cases h;done)|skip
   rw[E.ab x _ h]
theorem E.cl:∀(a b:List E),E.cn a b=xk->a=b
 | [],b,h=>by cases b<;>simp[E.cn]at h⊢
 |x::l,b,h=>by
  obtain _|⟨y,r⟩:=b;simp[E.cn]at h;simp only[E.cn,Zhb]at h;rw[E.ab x y h.1,E.cl l r h.2]
end
end Vm
namespace Vm
open Go
section
variable {s t:St}
def Yq{α β:Type}{x}{f:α->Option β}(h:∃z,x.bind f=J z):∃y,x=J y:=by
 grind [Option.bind_eq_some_iff]
def Wt{α β:Type}{x}{f:α->Option β}(h:∃z,x.bind f=J z):∃y,x=J y/\∃z,f y=J z:=by
 grind [Option.bind_eq_some_iff]
mutual
def Yk{x:E}:∀(e:E),E.bb x e=xk->(∃v,eval s e=J v)->∃v,eval s x=J v
 | .c v,h,j=>by
   grind [E.bb,E.ab]
 | .s u,h,j=>by
   grind [E.bb,E.ab]
 | .m u i,h,j=>by
   grind [E.bb,E.ab]
 | .mm u i n,h,j=>by
   grind [E.bb,E.ab]
 | .ce op a b,h,j=>by
   simp only[E.bb,Zhr]at h;obtain(h|h)|h:=h;grind [E.ab];exact Yk a h<|Yq j;obtain⟨y,_,p⟩:=Wt j;exact Yk b h<|Yq p
 | .fm op a b,h,j=>by
   simp only[E.bb,Zhr]at h;obtain(h|h)|h:=h;grind [E.ab];exact Yk a h<|Yq j;obtain⟨y,_,p⟩:=Wt j;exact Yk b h<|Yq p
 | .mn a b,h,j=>by
   simp only[E.bb,Zhr]at h;obtain(h|h)|h:=h;grind [E.ab];exact Yk a h<|Yq j;obtain⟨y,_,p⟩:=Wt j;exact Yk b h<|Yq p
 | .mx a b,h,j=>by
   simp only[E.bb,Zhr]at h;obtain(h|h)|h:=h;grind [E.ab];exact Yk a h<|Yq j;obtain⟨y,_,p⟩:=Wt j;exact Yk b h<|Yq p
 | .ba a b k,h,j=>by
   simp only[E.bb,Zhr]at h;obtain(h|h)|h:=h;grind [E.ab];exact Yk a h<|Yq j;obtain⟨y,_,p⟩:=Wt j;exact Yk b h<|Yq p
 | .ai a b n k g,h,j=>by
   simp only[E.bb,Zhr]at h;obtain(h|h)|h:=h;grind [E.ab];exact Yk a h<|Yq j;obtain⟨y,_,p⟩:=Wt j;exact Yk b h<|Yq p
 | .fi a b k,h,j=>by
   simp only[E.bb,Zhr]at h;obtain(h|h)|h:=h;grind [E.ab];exact Yk a h<|Yq j;obtain⟨y,_,p⟩:=Wt j;exact Yk b h<|Yq p
 | .app a b k,h,j=>by
   simp only[E.bb,Zhr]at h;obtain(h|h)|h:=h;grind [E.ab];exact Yk a h<|Yq j;obtain⟨y,_,p⟩:=Wt j;exact Yk b h<|Yq p
 | .ik a b d k,h,j=>by
   simp only[E.bb,Zhr]at h;obtain((h|h)|h)|h:=h;grind [E.ab];exact Yk a h<|Yq j;obtain⟨y,_,p⟩:=Wt j;exact Yk b h<|Yq p;obtain⟨y,_,p⟩:=Wt j;obtain⟨w,_,q⟩:=Wt p;exact Yk d h<|Yq q
 | .upd a b o d,h,j=>by
   simp only[E.bb,Zhr]at h;obtain((h|h)|h)|h:=h;grind [E.ab];exact Yk a h<|Yq j;obtain⟨y,_,p⟩:=Wt j;exact Yk b h<|Yq p;obtain⟨y,_,p⟩:=Wt j;obtain⟨w,_,q⟩:=Wt p;exact Yk d h<|Yq q
 | .di a b n k d,h,j=>by
   simp only[E.bb,Zhr]at h;obtain((h|h)|h)|h:=h;grind [E.ab];exact Yk a h<|Yq j;obtain⟨y,_,p⟩:=Wt j;exact Yk b h<|Yq p;obtain⟨y,_,p⟩:=Wt j;obtain⟨w,_,q⟩:=Wt p;exact Yk d h<|Yq q
 | .un op a,h,j=>by
   simp only[E.bb,Zhr]at h;obtain h|h:=h;grind [E.ab];exact Yk a h<|Yq j
 | .conv k a,h,j=>by
   simp only[E.bb,Zhr]at h;obtain h|h:=h;grind [E.ab];exact Yk a h<|Yq j
 | .len a,h,j=>by
   simp only[E.bb,Zhr]at h;obtain h|h:=h;grind [E.ab];exact Yk a h<|Yq j
 | .ext a i,h,j=>by
   simp only[E.bb,Zhr]at h;obtain h|h:=h;grind [E.ab];exact Yk a h<|Yq j
 | .ac a o,h,j=>by
   simp only[E.bb,Zhr]at h;obtain h|h:=h;grind [E.ab];exact Yk a h<|Yq j
 | .bi a o n,h,j=>by
   simp only[E.bb,Zhr]at h;obtain h|h:=h;grind [E.ab];exact Yk a h<|Yq j
 | .mk z a,h,j=>by
   simp only[E.bb,Zhr]at h;obtain h|h:=h;grind [E.ab];exact Yk a h<|Yq j
 | .ax a,h,j=>by
   simp only[E.bb,Zhr]at h;obtain h|h:=h;grind [E.ab];exact Yk a h<|Yq j
 | .bv a,h,j=>by
   simp only[E.bb,Zhr]at h;obtain h|h:=h;grind [E.ab];exact Yk a h<|Yq j
 | .one a,h,j=>by
   simp only[E.bb,Zhr]at h;obtain h|h:=h;grind [E.ab];exact Yk a h<|Yq j
 | .sz a n,h,j=>by
   simp only[E.bb,Zhr]at h;obtain h|h:=h;grind [E.ab];exact Yk a h<|Yq j
 | .fl a,h,j=>by
   simp only[E.bb,Zhr]at h;obtain h|h:=h;grind [E.ab];exact Yk a h<|Yq j
 | .kw a,h,j=>by
   simp only[E.bb,Zhr]at h;obtain h|h:=h;grind [E.ab];exact Yk a h<|Yq j
 | .eo a,h,j=>by
   simp only[E.bb,Zhr]at h;obtain h|h:=h;grind [E.ab];exact Yk a h<|Yq j
 | .fh a,h,j=>by
   simp only[E.bb,Zhr]at h;obtain h|h:=h;grind [E.ab];exact Yk a h<|Yq j
 | .lk A a b z ok,h,j=>by
   simp only[E.bb,Zhr]at h;obtain(h|h)|h:=h;grind [E.ab];exact Yk a h<|Yq j;obtain⟨y,_,p⟩:=Wt j;exact Yk b h<|Yq p
 | .dj A a b d,h,j=>by
   simp only[E.bb,Zhr]at h;obtain((h|h)|h)|h:=h;grind [E.ab];exact Yk a h<|Yq j;obtain⟨y,_,p⟩:=Wt j;exact Yk b h<|Yq p;obtain⟨y,_,p⟩:=Wt j;obtain⟨w,_,q⟩:=Wt p;exact Yk d h<|Yq q
 | .ite a b d,h,j=>by
   simp only[E.bb,Zhr]at h;obtain h|h:=h;grind [E.ab];exact Yk a h<|Yq j
 | .lit l,h,j=>by
   simp only[E.bb,Zhr]at h;obtain h|h:=h;grind [E.ab];obtain⟨v,j⟩:=j;simp only[eval,Zha]at j;obtain⟨t,r,_⟩:=j;exact yB l h ⟨t,r⟩
 | .pt f l,h,j=>by
   simp only[E.bb,Zhr]at h;obtain h|h:=h;grind [E.ab];obtain⟨v,j⟩:=j;simp only[eval,Zh6]at j;obtain⟨t,r,_⟩:=j;exact yB l h ⟨t,r⟩
 | .ag l,h,j=>by
   simp only[E.bb,Zhr]at h;obtain h|h:=h;grind [E.ab];obtain⟨v,j⟩:=j;simp only[eval,Zha]at j;obtain⟨t,r,_⟩:=j;exact yB l h ⟨t,r⟩
def yB{x:E}:∀(l:List E),E.gj x l=xk->(∃v,YG s l=J v)->∃v,eval s x=J v
 | [],h,_=>by simp[E.gj]at h
 |e::l,h,a=>by
  obtain⟨v,a⟩:=a;simp only[YG,Zh6,Zha]at a;obtain⟨y,f,g,d,_⟩:=a;simp only[E.gj,Zhr]at h;obtain h|h:=h;exact Yk e h ⟨y,f⟩;exact yB l h ⟨g,d⟩
end
def Kc(s:St)(l:List<|ZG×E):Prop:=∀x∈l,holds s x.1->∃v,eval s x.2=J v
def Hj{C D}(h:RO C D=xk)(a:holds s D):holds s C:=λx d=>by
 have:=Zhn.1 h x d;exact a x Zgd
def CZ:∀ {l r},Kc s l->Kc s (qU l r)->Kc s r
 |l,[],_,_=>λx q=>by simp at q
 |l,x::r,j,f=>by
  simp[qU]at f;split at f;rename_i o;intro y a d;obtain rfl|a:=Zhs.1 a;simp only[Ge,ZiR,Zhb]at o;let⟨z,g,h,k⟩:=o;have n:∃v,eval s z.2=J v:=by
   obtain g|g:=ZhC.1 g;exact j z g<|Hj h d;exact f z g<|Hj h d
  exact Yk _ k n;exact(CZ j f) y a d;have p:=CZ j λy a=>f y<|ZhK _ a;intro y a d;obtain rfl|a:=Zhs.1 a;exact f y Z1 d;exact p y a d
def YH:St->Nat->SV->St
 | [],0,x=>[x]
 | [],i+1,x=>.no::YH [] i x
 |_::s,0,x=>x::s
 |y::s,i+1,x=>y::YH s i x
def X5:∀s i j x,get (YH s i x) j=if j=i then x else get s j
 | [],0,0,x=>rfl
 | [],0,j+1,x=>by simp[YH,get]
 | [],i+1,0,x=>by simp[YH,get]
 | [],i+1,j+1,x=>by
   have:=X5 [] i j x;simp[get]at this;simp[YH,get,this]
 |y::s,0,0,x=>rfl
 |y::s,0,j+1,x=>by simp[YH,get]
 |y::s,i+1,0,x=>by simp[YH,get]
 |y::s,i+1,j+1,x=>by
  have:=X5 s i j x;simp[get]at this;simp[YH,get,this]
def VO(s:St)(C:ZG):Bool:=C.all λx=>match get s x.1 with|.v (.bool b)=>b==x.2|_=>xw
def J8{C}:VO s C=xk↔holds s C:=by
 simp[VO,holds];grind
def YR P [Lg P]:List EF->St->(St->Prop)->Prop
 | [],s,K=>K s
 |.lt i C e::l,s,K=>if VO s C=xk then(match eval s e with|some x=>YR P l (YH s i<|.v x) K|none=>False)else YR P l s K
 |.call i C f d fl aq_::l,s,K=>if VO s C=xk then(match YG s aq_,UX s f with|some xs,J n=>∃r,VC P n.1 d (xs++n.2) r/\(fl=xk->WA r=J r)/\YR P l (YH s i<|.v r) K|_,_=>False)else YR P l s K
 | .ct i C f a aq_::l,s,K=>if VO s C=xk then(match YG s aq_,Vu s f with|some xs,J n=>∃R,Vo P n a xs R/\YR P l (YH s i<|.v R) K|_,_=>False)
   else(match WC s a aq_ with|some []=>YR P l s K|some os=>YR P l (YH s i<|.v<|.aq<|.bool xw::os) K|none=>False)
def yD{C}(h:∀j,C.any (λx=>x.1==j)=xk->get s j=get t j):holds s C↔holds t C:=by
 have:=λx a=>h x.1<|ZiR.2 ⟨x,a,Z1⟩;constructor;intro d x a;rw[<-this x a];exact d x a;intro d x a;rw[this x a];exact d x a
def Tq{j l r}:E.cg j (l++r)=(E.cg j l||E.cg j r):=by
 induction l with
 |nil=>rfl
 |cons e l a=>simp[E.cg,a,Bool.or_assoc]
def GS{f}(h:∀j,E.cg j f.es=xk->get s j=get t j):Vu s f=Vu t f:=by
 cases f with
 |id n=>rfl
 |e x=>grind [Vu,Yd,FN.es,E.cg]
def GT{f}(h:∀j,E.cg j f.es=xk->get s j=get t j):UX s f=UX t f:=by
 cases f with
 |id n=>rfl
 |e x=>grind [UX,Yd,FN.es,E.cg]
def C9:∀ {ks} {aq_:List E},(∀j,E.cg j aq_=xk->get s j=get t j)->WC s ks aq_=WC t ks aq_
 | [],aq_,_=>by simp[WC]
 |k::ks,[],_=>by cases k<;>simp[WC]
 |k::ks,e::aq_,h=>by
  have d:=Yd e λj a=>h j (by simp[E.cg,a]);cases k<;>simp[WC,C9 (ks:=ks) (aq_:=aq_) λj a=>h j (by simp[E.cg,a]),d]
def Z0G{P} [Lg P]{x}(h:∀j,XL j x=xk->get s j=get t j)(k:get s (Tt x)=get t (Tt x))(l:QH P s x):QH P t x:=by
 cases x with
 |lt i C e=>
  intro d;let⟨v,u,p⟩:=l<|(yD (s:=s) (t:=t) (C:=C) λj a=>h j<|by simp_all[XL]).2 d;exact⟨v,by rw[<-Yd e λj a=>h j (by simp_all[XL,Bool.or_true])];exact u,by rw[<-p];exact k.symm⟩
 |call i C f B fl aq_=>
  intro d;let⟨xs,n,r,u,z,g,o,p⟩:=l<|(yD (s:=s) (t:=t) (C:=C) λj a=>h j<|by simp_all[XL]).2 d;exact⟨xs,n,r,by rw[<-SQ aq_ λj a=>h j Zgz];exact u,by rw[<-GT (f:=f) λj a=>h j ZgE];exact z,g,o,by rw[<-p];exact k.symm⟩
 |ct i C f ks aq_=>
  have D:=yD (s:=s) (t:=t) (C:=C) λj a=>h j (by simp_all[XL]);have F:=SQ aq_ λj a=>h j Zgz;have G:=GS (f:=f) λj a=>h j ZgE;have H:=C9 (ks:=ks) (aq_:=aq_) λj a=>h j Zgz;refine⟨λd=> ?_,λd=> ?_⟩;let⟨xs,n,R,w,g,o,y⟩:=l.1 Zgd;exact⟨xs,n,R,Zgd,Zgd,o,by rw[<-y];exact k.symm⟩;let⟨A,w,g⟩:=l.2 λh'=>Zgd;exact⟨A,Zgd,λq=>by rw[<-g q];exact k.symm⟩
def Z0m{P} [Lg P]{K}:∀ {l} {s:St},qw l=xk->YR P l s K->∃t,K t/\(∀x∈l,QH P t x)/\∀j,(∀x∈l,Tt x≠j)->get t j=get s j
 | [],s,_,h=>⟨s,h,Z1,Z1⟩
 |x::l,s,p,h=>by
  simp[qw,Zhb,Zhn,Zkt,Zls]at p;let⟨⟨g,Q⟩,p⟩:=p;have fin:∀B,(∀j,j≠Tt x->get B j=get s j)->QH P B x->YR P l B K->∃t,K t/\(∀y∈x::l,QH P t y)/\∀j,(∀y∈x::l,Tt y≠j)->get t j=get s j:=by
   intro B T X h;let⟨t,O,H,u⟩:=Z0m p h;refine⟨t,O,λy A=> ?_,λj d=> ?_⟩;obtain rfl|A:=Zhs.1 A;refine Z0G (s:=B) (λj d=>(u j λy A e=> ?_).symm) (u _ λy A e=>(Q y A).1 e).symm X;grind;simp_all;grind
  cases x with
  |lt i C e=>
   simp[YR]at h;have a:∀v j,XL j _=xk->get (YH s i v) j=get s j:=λv j d=>by
    rw[X5,Zhg];intro q;subst q;exact absurd d (by rw[show XL j _=xw from g];simp)
   split at h;rename_i k;split at h;rename_i v W;refine fin _ (λj d=>by rw[X5];exact Zhg d) (λ_=>⟨v,?_,by rw[X5,Zhi rfl]⟩) h;rw[Yd e λj d=>a _ j (by simp_all[XL,Bool.or_true])];exact W;simp_all;rename_i k;exact fin s Z1 (λo=>absurd (J8.2 o) k) h
  |call i C f Z fl aq_=>
   simp[YR]at h;have a:∀v j,XL j _=xk->get (YH s i v) j=get s j:=λv j d=>by
    rw[X5,Zhg];intro q;subst q;exact absurd d (by rw[show XL j _=xw from g];simp)
   split at h;rename_i k;split at h;rename_i xs n z L;let⟨r,D,F,N⟩:=h;refine fin _ (λj d=>by rw[X5];exact Zhg d) (λ_=>⟨xs,n,r,?_,?_,D,F,by rw[X5,Zhi rfl]⟩) N;rw[SQ aq_ λj d=>a _ j Zgz];exact z;rw[GT (f:=f) λj d=>a _ j ZgE];exact L;simp_all;rename_i k;exact fin s Z1 (λo=>absurd (J8.2 o) k) h
  |ct i C f M aq_=>
   simp[YR]at h;have a:∀v j,XL j _=xk->get s j=get (YH s i v) j:=λv j d=>by
    rw[X5,Zhg];intro q;subst q;exact absurd d (by rw[show XL j _=xw from g];simp)
   have G:∀v,holds s C↔holds _ C:=λv=>yD λj d=>a v j (by simp_all[XL]);have ha:=λv=>SQ aq_ λj d=>a v j Zgz;have hf:∀v,Vu s f=Vu _ f:=λv=>GS λj d=>a v j ZgE;have ho:∀v,WC s M aq_=WC _ M aq_:=λv=>C9 λj d=>a v j Zgz;split at h;rename_i k;split at h;rename_i xs n z L;let⟨R,D,F⟩:=h;refine fin _ (λj d=>by rw[X5];exact Zhg d) ⟨λ_=>⟨xs,n,R,?_,?_,D,by rw[X5,Zhi rfl]⟩,λo=>absurd ((G _).1<|J8.1 k) o⟩ F;grind;grind;simp_all;rename_i k;split at h;rename_i w;exact fin s Z1 ⟨λo=>absurd (J8.2 o) k,λ_=>⟨[],w,Z1⟩⟩ h;rename_i Y S w;refine fin _ (λj d=>by rw[X5];exact Zhg d) ⟨λo=>absurd (J8.2<|(G _).2 o) k,λ_=>⟨Y,?_,λ_=>by rw[X5,Zhi rfl]⟩⟩ h;grind;simp_all
end
end Vm
namespace Vm
open Go
open Go.RowKit (Below)
def WV(t:St):OV->Option SV
 |.v e=>(eval t e).map .v
 |.m l=>(YG t l).map .m
 |.no=>J .no
def U3:List (Nat×OV)->St->St->(St->Prop)->Prop
 | [],_,u,K=>K u
 | (i,o)::l,t,u,K=>match WV t o with
   |some x=>U3 l t (YH u i x) K
   |none=>False
def Sx(t:St):List (ZG×E)->Prop
 | []=>True
 |(C,e)::l=>(VO t C=xk->(eval t e).isSome=xk)/\Sx t l
def jR P [Lg P](r:Reg)(s:St)(K:St->Prop):Prop:=YR P r.efs s λt=>Sx t r.chks/\U3 r.outs t t K
def Z0l{t}:∀ {l},Sx t l->Kc t l
 | [],_=>λx a=>by simp at a
 | (C,e)::l,h=>λx a d=>by
   obtain rfl|a:=Zhs.1 a;exact Zih.1<|h.1<|J8.2 d;exact Z0l h.2 x a d
def Z0o{K t}:∀ {l} {u:St},U3 l t u K->∃a,K a/\(∀x∈l,∃y,WV t x.2=J y)/\(∀j,(∀x∈l,x.1≠j)->get a j=get u j)/\
  ∀x∈l,(∀y∈l,y.1=x.1->y.2=x.2)->∀v,WV t x.2=J v->get a x.1=v
 | [],u,h=>⟨u,h,Z1,Z1,Z1⟩
 | (i,o)::l,u,h=>by
   simp[U3]at h;split at h;rename_i v B;let⟨a,p,z,k,A⟩:=Z0o h;refine⟨a,p,λx d=> ?_,λj n=> ?_,λx d q C r=> ?_⟩;grind;rw[k j λx d=>n x (by simp[d]),X5,Zhg];exactλe=>n (i,o) Z1 e.symm;by_cases f:∃y∈l,y.1=x.1;grind;have g:x=(i,o):=by
    obtain h|h:=Zhs.1 d;exact h;simp_all
   subst g;rw[k i λy w e=>f ⟨y,w,e⟩,X5,Zhi rfl];simp_all;simp_all
section
variable {c:Ctx}{B:Nat}{G:Nat->Prop}{s t u:St}{a a':Act}{w w':World}{h h':GH}{g:Gam}{S:SS}
def RelG.ut{f}(n:f.P=c.P)(j:f.ix=c.ix)(k:RelG c B G s a w h g):RelG f B G s a w h g:=by
 have l:∀C,ZI f C=ZI c C:=λC=>by simp[ZI,j]
 refine⟨k.ok,λp d o=> ?_,λp d=> ?_⟩;rw[l]at d;rw[n];exact k.Y p d o;rw[l]at d;exact k.skip p d
theorem Yz:∀ {S} {p:Nat},(Yt c S).at p=match S.at p with|some k=>([],QZ c p k)|none=>([],.no)
 | [],p=>rfl
 | (q,k)::S,p=>by
   simp[Yt,Gam.at,SS.at];by_cases a:q=p;grind;rw[Zhg a,Zhg a];exact Yz (S:=S) (p:=p)
theorem RelC.eval{P o k e f v}(a:RelC P B s w h o k e v)(j:∀x,x.one=xk->Vm.eval s e=J x->Vm.eval t f=J x):RelC P B t w h o k f v:=by
 cases k with
 |fz=>let⟨x,g,d,l⟩:=a;exact⟨x,Zgc,d,l⟩
 |own n=>let⟨x,g,d⟩:=a;exact⟨x,j x d.one g,d⟩
 |nil=>exact⟨a.1,j _ rfl a.2⟩
 |gh=>exact a
def RelG.nc(A:RelG c B G s a w h<|Yt c S)(o:∀x∈S,get t (c.ix x.1)=get s (c.ix x.1)):RelG c B G t a w h<|Yt c S:=by
 have j:∀ {S:SS} {p:Nat} {k:OT},S.at p=J k->(p,k)∈S:=by
  intro S p k;induction S with
  |nil=>intro h;cases h
  |cons x S P=>
   grind [SS.at,List.mem_cons_of_mem]
 have q:∀p,((Yt c S).at p).1=[]:=λp=>by grind [Yz]
 refine⟨A.ok,λp _ L=> ?_,λp K=>absurd (by simp_all[Yv]) K⟩;let⟨v,M,d⟩:=A.Y p (by simp_all[Yv]) L;refine⟨v,M,?_⟩;rw[Yz]at d⊢;cases z:S.at p with
 |none=>trivial
 |some k=>
  rw[z]at d;have N:=o _<|j z;cases k with
  |fz=>let⟨x,n,g⟩:=d;exact⟨x,by simp_all[Vm.eval],g⟩
  |own Q=>let⟨x,n,g⟩:=d;exact⟨x,by simp_all[Vm.eval],g⟩
  |nil=>exact d
  |mem l=>
   let⟨b,vs,T,n,g,D,F,H⟩:=d;refine⟨b,vs,T,n,g,D,F,λi C r=>(H i C r).eval λx _ O=> ?_⟩;simp at r;obtain⟨y,_,rfl⟩:=r;simp_all[Vm.eval]
  |cy f u=>exact d
def MW{keep}:∀ {p} {k:OT},(Rc keep g).at p=J k->p∈keep/\(g.at p).1=[]/\WU (g.at p).2=J k:=by
 induction keep with
 |nil=>intro p k h;cases h
 |cons q keep d=>
  intro p k h;simp only[Rc,ZiW]at h;split at h;let⟨f,j⟩:=d (p:=p) (k:=k) h;simp_all;rename_i y a;split at a;rename_i n;simp at a;obtain⟨o,l,rfl⟩:=a;simp only[SS.at]at h;split at h;simp_all;let⟨f,j⟩:=d (p:=p) (k:=k) h;simp_all;cases a
def TK.kept:TK->Bool
 |.val .. |.own .. |.mem _=>xk
 |_=>xw
def Z7C{S0 p}(hc:(g.at p).1=[])(a:(g.at p).2.kept=xk):TG c S0 g p=if Sn (c.ix p) (Ug (g.at p).2)=xk then U else J (c.ix p,Ug (g.at p).2):=by
 unfold TG;simp[hc];cases d:Sn _ _;simp;grind [TK.kept];rfl
def Z9d{keep sh:List Nat}{S0}(hr:RelG c B G t a w h g)(Y:∀p∈keep,∀e l,g.at p=([],.val e l)->∀b,h.ext l b->h.F b)
  (D:∀p∈keep,match TG c S0 g p with|some x=>∃v,WV t x.2=J v/\get u (c.ix p)=v|none=>get u (c.ix p)=get t (c.ix p)):RelG c B G u a w h<|Yt c<|Rc keep g:=by
 have S:∀p,((Yt c<|Rc keep g).at p).1=[]:=λp=>by grind [Yz,Rc]
 refine⟨hr.ok,λp _ hn=> ?_,λp hh=>absurd (by simp_all[Yv]) hh⟩;rw[Yz]at hn⊢;cases hS:(Rc keep g).at p with
 |none=>simp_all[TK.bu]
 |some k=>
  let⟨P,R,r⟩:=MW hS;have X:(g.at p).2.bu=xw:=by cases A:(g.at p).2<;>rw[A]at r<;>first|rfl|simp[WU]at r
  let⟨v,hv,d⟩:=hr.Y p (by simp_all[Yv]) X;refine⟨v,hv,?_⟩;have C:(g.at p).2.kept=xk->(Sn (c.ix p) (Ug (g.at p).2)=xk/\get u (c.ix p)=get t (c.ix p))\/∃v,WV t (Ug (g.at p).2)=J v/\get u (c.ix p)=v:=by
   intro L;have N:=D p P;rw[Z7C R L]at N;by_cases H:Sn (c.ix p) (Ug (g.at p).2)=xk;simp_all;simp_all
  simp only;cases A:(g.at p).2 with
  |val e l=>
   rw[A]at r d C;simp[WU,Zh7]at r;subst r;let⟨x,Z,M⟩:=d;have hF:=Y p P e l Zgc;refine⟨x,?_,M.mono λb hb=>GH.cd Zgd⟩;simp[Vm.eval];obtain⟨H,W⟩|⟨v',N,Q⟩:=C rfl
   .simp[Ug]at H;cases e<;>simp[Sn]at H<;>first|(cases H;done)|skip
    simp_all[Vm.eval]
   grind [Ug,WV,Option.some.injEq]
  |own ty e=>
   rw[A]at r d C;simp[WU,Zh7]at r;subst r;let⟨x,Z,M⟩:=d;refine⟨x,?_,M⟩;simp[Vm.eval];obtain⟨H,W⟩|⟨v',N,Q⟩:=C rfl
   .simp[Ug]at H;cases e<;>simp[Sn]at H<;>first|(cases H;done)|skip
    simp_all[Vm.eval]
   grind [Ug,WV,Option.some.injEq]
  |nil=>
   rw[A]at r d;simp[WU,Zh7]at r;subst r;exact d
  |mem cs=>
   rw[A]at r d C;simp[WU,Zh7]at r;subst r;let⟨b,vs,T,N,Q,h3,h4,h5⟩:=d;refine⟨b,vs,T,N,Q,h3,by simpa using h4,λi ck hi=> ?_⟩;simp only[Zhz,Zjq,Zha]at hi;obtain⟨y,⟨q,⟨K,O,rfl⟩,rfl⟩,rfl⟩:=hi;refine(h5 i K O).eval λx a2 Z=> ?_;simp[ZhZ,Vm.eval];obtain⟨H,W⟩|⟨v',e1,e2⟩:=C rfl
   .simp only[Ug,Sn,Zhn]at H;have:=H (K.2,i)<|ZjM.2 ⟨i,Zgd⟩;let⟨kk,e⟩:=K;cases e<;>simp only at this<;>first|(cases this;done)|skip
    simp[Zhb,Zi2]at this;obtain⟨rfl,rfl⟩:=this;rw[W];simpa only[Vm.eval]using Z
   simp[Ug,WV,Zha]at e1;obtain⟨xs,a0,rfl⟩:=e1;let⟨_,D⟩:=UV a0;let⟨z,hz,a3⟩:=D i K.2 Zgd;simp_all[Zhk,YV]
  |no=>simp_all[WU]
  |kr cs=>simp_all[WU]
  |ig p=>simp_all[WU]
  |fp p i=>simp_all[WU]
  |pm p o=>simp_all[WU]
  |pc e o sh=>simp_all[WU]
  |pe p i j o k=>simp_all[WU]
  |pa p o j n k=>simp_all[WU]
  |pf e sh=>simp_all[WU]
  |cy f a1=>
   rw[A]at r d;simp[WU,Zh7]at r;subst r;exact d
end
end Vm
namespace Vm
open Go
open Go.RowKit (Below)
def Tm(c:Ctx)(s:St)(S:SS):Prop:=∀p,S.at p=J .nil->get s (c.ix p)=.v (.sl [])
def QR:∀ {S:SS} {p:Nat} {k:OT},S.at p=J k->(p,k)∈S
 | [],p,k,h=>Zgt
 | (q,a)::S,p,k,h=>by
   simp[SS.at]at h;split at h;rename_i e;subst e;cases h;simp;exact ZhK _<|QR h
section
variable {c:Ctx}{B:Nat}{G:Nat->Prop}{s t u:St}{a a':Act}{w w':World}{h h':GH}{g:Gam}{S S':SS}
theorem MV{S0 p x}(h:TG c S0 g p=J x):x.1=c.ix p:=by
 grind [TG,Option.some.injEq]
theorem AJ{l xs}(h:YG t l=J xs):∀e∈l,∃v,eval t e=J v:=by
 let⟨_,a⟩:=UV h;grind [List.getElem?_of_mem]
theorem Z7D{o v}(h:WV t o=J v):∀e∈qE o,∃v,eval t e=J v:=by
 intro e d;cases o with
 |v f=>
  grind [qE,WV,Option.map_eq_some_iff]
 |m l=>
  simp[WV]at h;let⟨xs,a,_⟩:=h;exact AJ a e d
 |no=>simp[qE]at d
theorem In{keep p e l}(d:p∈keep)(a:g.at p=([],.val e l)):∀q∈l,q∈Vv keep g:=by
 grind [Vv]
def Z99{P} [Lg P]{ix fresh sig tr fix n keep draw ops r}(a9:∀o∈ops,Lg.ma P o)(hm:draw=xk->P.follows .mixedOrders=xk)(hc:Ay P ix fresh sig tr fix n keep draw ops S=J (r,S'))
  (e7:∀p∈keep,∀q∈keep,ix p=ix q->p=q) (hP:c.P=P) (b2:c.ix=ix) (hr:RelG c B G s a w h<|Yt c S) (b4:Tm c s S) (hn:n<=a.tmps.size) {K} (hK:jR P r s K) {id Q}
  (hQ:∀a' w' s' h',K s'->RelG c B G s' a' w' h' (Yt c S')->Tm c s' S'->h'.K=h.K->Frm h.K (λt=>t∈fix) a.tmps B w a' w'->a'.tmps.size=a.tmps.size->a'.defers=a.defers->Q .normal a' w'):Lg.wp P (.region id ops draw) Q a w:=by
 unfold Ay at hc;simp only[Zh6]at hc;obtain⟨⟨gf,xs⟩,e2,hc⟩:=hc;simp only at hc;split at hc
 .rename_i M;simp only[Zhb]at M;let⟨⟨⟨b0,b6⟩,a7⟩,A⟩:=M;simp[Zh7,Zho]at hc;obtain⟨rfl,rfl⟩:=hc;generalize Z:({P:=P,ix:=ix,own:=λt=>(MY ops).contains t,fresh:=fresh,sig:=sig,tr:=tr,n:=n,kp:=keep}:Ctx)=j at*;have a4:j.P=P:=by rw[<-Z]
  have L:j.ix=ix:=by rw[<-Z]
  have e6:j.n=n:=by rw[<-Z]
  have W:∀S,Yt j S=Yt c S:=by
   intro S;simp only[Yt];refine Ziv λx _=> ?_;cases x.2<;>simp[QZ,L,b2]
  subst a4;obtain⟨hf,rfl⟩:=Z3M e2 b6;let⟨t,⟨a5,b7⟩,a6,a2⟩:=Z0m a7 hK;let⟨u,c0,f0,d7,f1⟩:=Z0o b7;have a3:Kc t (xs.flatMap λx=>x.os.chks):=by
   refine CZ (λx D hh=> ?_)<|Z0l a5;obtain D|D:=ZhC.1 D;let⟨T,z,D⟩:=ZjC.1 D;have N:=a6 T z;cases T with
   |lt i C e=>
    have:x=(C,e):=by simpa[Gj]using D
    subst this;let⟨v,hv,_⟩:=N hh;grind
   |call i C f fr fl aq_=>
    obtain⟨e,F,rfl⟩:=Zhq.1 D;let⟨ys,n,_,e5,a0,_⟩:=N hh;obtain F|F:=ZhC.1 F;cases f with
    |id q=>simp[FN.es]at F
    |e q=>
     simp[FN.es]at F;subst F;simp[UX,Zh6]at a0;let⟨v,hv,_⟩:=a0;grind
    grind [AJ]
   |ct i C f ks aq_=>
    obtain⟨e,F,rfl⟩:=Zhq.1 D;let⟨ys,n,_,e5,a0,_⟩:=N.1 hh;obtain F|F:=ZhC.1 F;cases f with
    |id q=>simp[FN.es]at F
    |e q=>
     grind [FN.es,List.mem_singleton,Vu]
    grind [AJ]
   let⟨y,hy,D⟩:=ZjC.1 D;obtain⟨e,F,rfl⟩:=Zhq.1 D;grind [Z7D]
  have d8:∀x∈xs,Jt j.P t x.os:=by
   intro x D;exact⟨λT z=>a6 T<|ZjC.2 ⟨x,D,z⟩,λy hy=>a3 y<|ZjC.2 ⟨x,D,hy⟩⟩
  have e1:RelG j B G t a w h<|Yt j S:=by
   have h1:RelG j B G s a w h<|Yt j S:=by
    rw[W];exact hr.ut hP.symm Zgc
   refine h1.nc λx D=>a2 _ λT z F=> ?_;simp only[Zhn,Zkt,Zls]at A;exact A T z x D Zgc
  have b1:∀p∈keep,match TG j S (frz (Vv keep<|YL xs<|Yt j S)<|YL xs<|Yt j S) p with|some x=>∃v,WV t x.2=J v/\get u (j.ix p)=v|none=>get u (j.ix p)=get t (j.ix p):=by
   intro p hp;have e3:∀q∈keep,∀y,TG j S (frz (Vv keep<|YL xs<|Yt j S)<|YL xs<|Yt j S) q=J y->y.1=j.ix p->q=p:=λq hq y hy F=>by
    have:=MV hy;grind
   split;grind [MU,frz,Vv,YL,Yt,MV];rename_i D;refine d7 _ λy hy F=> ?_;let⟨q,hq,f2⟩:=Zk5.1 hy;grind
  have a1:Tm c u<|Rc keep<|frz (Vv keep<|YL xs<|Yt j S)<|YL xs<|Yt j S:=by
   intro p hp;let⟨e0,c1,hk⟩:=MW hp;have d6:((frz (Vv keep<|YL xs<|Yt j S)<|YL xs<|Yt j S).at p).2=.nil:=by
    cases d5:((frz (Vv keep<|YL xs<|Yt j S)<|YL xs<|Yt j S).at p).2<;>rw[d5]at hk<;>simp[WU]at hk⊢
   have R:=b1 p e0;have b5:TG j S (frz (Vv keep<|YL xs<|Yt j S)<|YL xs<|Yt j S) p=if S.at p=J .nil then U else J (j.ix p,.v<|.c<|.sl []):=by
    unfold TG;simp[c1,d6,List.isEmpty_nil,Ug,Sn,Zhu];cases H:S.at p with
    |none=>simp
    |some k=>grind
   rw[b5]at R;rw[b2,<-L];by_cases H:S.at p=J .nil;rw[Zhi H]at R;simp only at R;rw[R,a2];have:=b4 p H;grind;intro T z F;simp only[Zhn,Zkt,Zls]at A;exact A T z _ (QR H) Zgc;rw[Zhg H]at R;grind [WV,eval,Option.some.injEq]
  have c7:∀o∈ops,∀d,o.dst=J d->¬d∈fix:=λo ho d hd hm=>by
   have:=Zhn.1 b0 o Zgc;grind
  have e4:=Z9f (c:=j) (id:=id) (Q:=Q) a9 hm hf d8 Z0 e1 c7 λa' w' h' b8 b9 hb h1 h2=>by
   have c8:=b8.ng<|Vv keep<|YL xs<|Yt j S;refine hQ a' w' u (h'.bc<|Vv keep<|YL xs<|Yt j S) c0 ?_ a1 b9 hb h1 h2;rw[<-W];have a8:=Z9d (u:=u) (keep:=keep) (sh:=[]) (S0:=S) c8 (λp hp e l X b Y=> ?_) λp hp=> ?_;exact a8.ut hP Zgc
   ·
    have e8:∀q∈l,q∈Vv keep (YL xs<|Yt j S):=by
     unfold frz at X;rw[VJ,VJ]at X;split at X
     .split at X;grind [yR]
      .rename_i b3 d0;have d9:p∈Vv keep (YL xs<|Yt j S):=by
        simp only[ZV,Zir,ZhC]at b3;have:=b3.resolve_left d0;have h3:=yq (fz:=Vv keep<|YL xs<|Yt j S) (g:=YL xs<|Yt j S);unfold ZV at h3;rw[h3]at this;exact this
       rw[yp d9]at X;simp[Zho]at X;let⟨e9,O⟩:=X;cases hk:((YL xs<|Yt j S).at p).2<;>rw[hk]at O<;>simp only[RY]at O<;>first|(cases O;done)|skip
       simp[TK.val.injEq]at O;obtain⟨rfl,rfl⟩:=O;grind [In,Prod.ext];grind;grind
     exact In hp X
    obtain Y|⟨q,hq,i,hi⟩:=Y;exact Y;simp[GH.bc]at hi;grind
   grind
  exact e4
 cases hc
end
end Vm
namespace Vm
open Go
open Go.RowKit (Below)
def GH.drop(h:GH)(a:Nat->Nat->Bool):GH:= {F:=λb=>h.F b\/∃t i,a t i=xw/\i≠0/\h.bl t i=J b,bl:=λt i=>if a t i=xk\/i=0 then h.bl t i else U,K:=h.K}
section
variable {c:Ctx}{B:Nat}{G:Nat->Prop}{s t u:St}{a a':Act}{w w':World}{h h':GH}{g:Gam}{S R:SS}
def Z7k(d:Ok B G w h)r:Ok B G w<|h.drop r:=by
 refine⟨d.base,λb a=> ?_,λb a=> ?_,λb a=>.inl<|d.fj b a,λt i b a=> ?_,λt i u j b a f=> ?_,d.cx,λt i b a=> ?_,λb a=> ?_⟩;obtain a|⟨t,i,_,_,g⟩:=a;exact d.bz b a;exact(d.aw t i b g).2.1;obtain a|⟨t,i,_,_,g⟩:=a;exact d.cz b a;exact .inr (d.aw t i b g).1;simp only[GH.drop]at a;split at a;rename_i A;let⟨n,o,p⟩:=d.aw t i b a;refine⟨n,o,λk=> ?_⟩;obtain k|⟨x,q,y,z,l⟩:=k;exact p k;obtain⟨rfl,rfl⟩:=d.inj t i x q b a l;simp_all;cases a
 .simp only[GH.drop]at a f;split at a<;>split at f<;>first|(cases a;done)|(cases f;done)|exact d.inj t i u j b a f
 simp only[GH.drop]at a;split at a;exact d.cp t i b a;cases a;obtain a|⟨t,i,_,_,g⟩:=a;exact d.fk b a;exact .inr<|d.cp t i b g
def Iu{P}(a:S7 P S R=xk){p k}(f:R.at p=J k):∃d,S.at p=J d/\TA P d k=xk:=by
 have:=Zhn.1 a _<|QR f;grind
def RelC.fv{P o t k k' e v}(g:RelC P B s w h o k e v)(a:S6 P k k'=xk)(q:∀b,h.F b->h'.F b)
  (n:∀d p,k=.own d->k'=.own p->t=o) (r:(∀d,k'≠.own d)->∀b,o=J b->h'.F b) (l:∀d,k=.nil->k'=.own d->t=U):RelC P B s w h' t k' e v:=by
 cases k with
 |fz=>
  cases k'<;>simp[S6]at a<;>first|(cases a;done)|skip
  let⟨x,f,j,u⟩:=g;exact⟨x,f,j,u.mono q⟩;exact g.cell
 |own d=>
  cases k'<;>simp only[S6]at a<;>first|(cases a;done)|skip
  let⟨x,f,j⟩:=g;exact⟨x,f,j.one,j.rd q Zgd⟩;rename_i p;simp at a;subst a;let⟨x,f,j⟩:=g;exact⟨x,f,j.mono q (n d d rfl rfl).symm⟩;exact g.cell
 |nil=>
  obtain⟨rfl,f⟩:=g;cases k'<;>simp only[S6]at a<;>first|(cases a;done)|skip
  exact⟨_,f,rfl,.nil _ _ Z0⟩;rename_i d;simp at a;rw[l d rfl rfl];exact⟨_,f,.inl ⟨[],[],rfl,a,Z1,Ziq w B d _,rfl,λi z y=>by simp[flat]at y⟩⟩;exact⟨rfl,f⟩;rfl
 |gh=>
  cases k'<;>simp[S6]at a<;>first|(cases a;done)|skip
  exact g
def Ud(S R:SS)(t i:Nat):Bool:=
 match S.at t,R.at t with
 |some (.own _),J (.own _)=>xk
 |some (.mem a),J (.mem b)=>match a[i-1]?,b[i-1]? with
  |some (.own _),J (.own _)=>xk
  |_,_=>xw
 |_,_=>xw
def It{P}:∀ {a b},Jg P a b=xk->I a=I b/\∀(i:Nat) x y,a[i]?=J x->b[i]?=J y->S6 P x y=xk
 | [],[],_=>Z1
 | [],_::_,h=>by simp[Jg]at h
 |_::_,[],h=>by simp[Jg]at h
 |x::a,y::b,h=>by
  simp[Jg]at h;let⟨g,j⟩:=It h.2;refine⟨by simp[g],λi p q d f=> ?_⟩;cases i with
  |zero=>simp at d f;subst d f;exact h.1
  |succ i=>exact j i p q Zgp Zgs
def zG(hr:RelG c B G s a w h<|Yt c S)(u:Tm c s S)(K:S7 c.P S R=xk):RelG c B G s a w (h.drop<|Ud S R) (Yt c R)/\Tm c s R:=by
 constructor
 .refine⟨Z7k hr.ok _,λp _ Y=> ?_,λp hh=>absurd (by rw[Yz];cases R.at p<;>exact Yv s c) hh⟩;rw[Yz]at Y⊢;cases t:R.at p with
  |none=>rw[t]at Y;simp[TK.bu]at Y
  |some M=>
   let⟨k,j,g⟩:=Iu K t;let⟨v,hv,d⟩:=hr.Y p (by rw[Yz,j];exact Yv s c) (by rw[Yz,j];cases k<;>rfl);refine⟨v,hv,?_⟩;rw[Yz,j]at d;have hF:∀b,h.F b->(h.drop<|Ud S R).F b:=λb z=>.inl z;cases k with
   |fz=>
    cases M<;>simp[TA]at g<;>first|(cases g;done)|skip
    let⟨x,o,q⟩:=d;exact⟨x,o,q.mono<|λb z=>GH.cd<|.inl<|GH.it z⟩
   |own N=>
    cases M<;>simp only[TA]at g<;>first|(cases g;done)|skip
    let⟨x,o,q⟩:=d;exact⟨x,o,q.rd (λb z=>GH.cd Zgd) λb z=>GH.cd<|.inr ⟨p,1,by simp[Ud,j,t],Z0,z⟩⟩;rename_i Z;simp at g;subst g;let⟨x,o,q⟩:=d;exact⟨x,o,q.mono hF<|by simp[GH.drop,Ud,j,t]⟩
   |nil=>
    subst d;have hg:=u p j;cases M<;>simp only[TA]at g<;>first|(cases g;done)|skip
    exact⟨.sl [],by simp[eval,hg],.nil _ _ Z0⟩;rename_i N;simp at g;exact⟨.sl [],by simp[eval,hg],.inl ⟨[],[],rfl,g,Z1,Ziq w B N _,by simp[GH.drop,Ud,j,t,Value.ownBlock],λi ck A=>by simp[flat]at A⟩⟩;rfl
   |mem l=>
    cases M<;>simp[TA]at g<;>first|(cases g;done)|skip
    let⟨hl,H⟩:=It g;let⟨b,vs,T,o,q,O,Q,W⟩:=d;refine⟨b,vs,T,by simp[GH.drop,o],q,O,by rw[Q];simp[hl],λi ck A=> ?_⟩;simp only[Zhz,Zjq,Zha,ZhZ]at A;obtain⟨y,⟨k2,n,rfl⟩,rfl⟩:=A;have X:i<I l:=by rw[hl];exact(Zh9.1 n).1
    have r:=Zh8 X;refine(W i (l[i],.m (c.ix p) i) Z1).fv (H i _ _ r n) hF (λN Z C D=> ?_) (λL x hx=>.inr ⟨p,i+1,?_,Z0,hx⟩) λN C D=> ?_;simp only at C D;simp[GH.drop,Ud,j,t,r,n,C,D];simp only at L;simp[Ud,j,t,Nat.add_sub_cancel,r,n];cases k2<;>first|(cases l[i]<;>rfl)|exact absurd rfl<|L _
    simp only at C D;simp[GH.drop,Ud,j,t,r,n,C,D]
   |cy f a0=>
    cases M<;>simp only[TA]at g<;>first|(cases g;done)|skip
    simp at g;obtain⟨rfl,rfl⟩:=g;let⟨vs,o,q,O⟩:=d;refine⟨vs,o,q,λi p A=> ?_⟩;let⟨b,Q,W⟩:=O i p A;exact⟨b,by simp[GH.drop,Q],W⟩
 .intro p hp;let⟨k,j,g⟩:=Iu K hp;cases k<;>simp[TA]at g<;>first|(cases g;done)|exact u p j
end
end Vm
namespace Vm
open Go
open Go.RowKit (Below)
def X2:List Nat->St->St
 | [],_=>[]
 |i::l,s=>YH (X2 l s) i<|get s i
def Ha:∀ {keep} {s:St} {i:Nat},i∈keep->get (X2 keep s) i=get s i
 | [],s,i,a=>by simp at a
 |j::l,s,i,a=>by
  simp[X2];rw[X5];split;rename_i e;rw[e];rename_i e;exact Ha Zgd
def Yw P [Lg P]:Stm->St->(St->Prop)->(Nat->St->Prop)->(St->Prop)->Prop
 |.au r,s,N,_,_=>jR P r s N
 |.skip,s,N,_,_=>N s
 |.seq a b,s,N,X,R=>Yw P a s (λf=>Yw P b f N X R) X R
 | .cond c a b,s,N,X,R=>match eval s c with
   |some (.bool xk)=>Yw P a s N X R
   |some (.bool xw)=>Yw P b s N X R
   |_=>False
 |.block id a,s,N,X,R=>Yw P a s N (λi f=>if i=id then N f else X i f) R
 |.loop d a,s,_,X,R=>∃(I:St->Prop) (μ:St->Nat),I (X2 d s)/\∀s,I s->Yw P a s (λf=>I (X2 d f)/\μ (X2 d f)<μ s) X R
 |.exit id,s,_,X,_=>X id s
 |.ret,s,_,_,R=>R s
def RelS(Kf:Nat->Prop)(fix:List Nat)(T0:Array Value)(c:Ctx)(B:Nat)(G:Nat->Prop)(w0:World)(n0:Nat)(s:St)(a:Act)(w:World)(S:SS):Prop:=
 (∃h,RelG c B G s a w h (Yt c S)/\h.K=Kf)/\Tm c s S/\Frm Kf (λt=>t∈fix) T0 B w0 a w/\a.tmps.size=n0/\a.defers=[]
section
variable {c:Ctx}{fc:FC}{B:Nat}{G:Nat->Prop}{s t u:St}{a a':Act}{w w' w0:World}{n0:Nat}{S R:SS}{Kf:Nat->Prop}{fix:List Nat}{T0:Array Value}
def RelS.fv(o:RelS Kf fix T0 c B G w0 n0 s a w S)(d:S7 c.P S R=xk):RelS Kf fix T0 c B G w0 n0 s a w R:=by
 let⟨⟨h,f,n⟩,g,j⟩:=o;let⟨k,l⟩:=zG f g d;exact⟨⟨_,k,n⟩,l,j⟩
def BA{P S M}(h:Q7 P (J S) M=xk):∃R,M=J R/\S7 P S R=xk:=by
 obtain _|R:=M;cases h;exact⟨R,rfl,h⟩
def RelS.oe(n:RelS Kf fix T0 c B G w0 n0 s a w S):RelS Kf fix T0 c B G w0 n0 (X2 (S.map λy=>c.ix y.1) s) a w S:=by
 let⟨⟨h,g,l⟩,j,k⟩:=n;have d:∀x∈S,get (X2 (S.map λy=>c.ix y.1) s) _=get s _:=λx o=>Ha<|Zhq.2 ⟨x,o,rfl⟩;exact⟨⟨h,g.nc d,l⟩,λp f=>by rw[d _<|QR f];exact j p f,k⟩
def Iw{p:Nat->Prop}:∀n,p n->∃n,p n/\∀m,p m->n<=m:=by
 intro n;induction n using Nat.strongRecOn with
 |_ n a=>
  grind
open Classical in
noncomputable def least (p:Nat->Prop):Nat:=if h:∃n,p n/\∀m,p m->n<=m then Classical.choose h else 0
def Z5R{p:Nat->Prop}(h:∃n,p n):p<|least p:=by
 let⟨n,a⟩:=h;have h':=Iw n a;unfold least;grind
def Z5Q{p n}(a:p n):least p<=n:=by
 have h':=Iw n a;unfold least;grind
def Post(Kf:Nat->Prop)(fix:List Nat)(T0:Array Value)(c:Ctx)(B:Nat)(G:Nat->Prop)(w0:World)(n0:Nat)(fl:Flow)(N:St->Prop)(X:Nat->St->Prop)(R:St->Prop)(e:Exit)(a:Act)(w:World):Prop:=
 match e with
 |.normal=>∃s S,fl.n=J S/\N s/\RelS Kf fix T0 c B G w0 n0 s a w S
 |.exit id=>∃s S,(id,S)∈fl.x/\X id s/\RelS Kf fix T0 c B G w0 n0 s a w S
 |.ret=>∃s S,S∈fl.r/\R s/\RelS Kf fix T0 c B G w0 n0 s a w S
 |_=>False
def Post.mono{fl d N k X o Rt e a w}(h:Post Kf fix T0 c B G w0 n0 fl N X Rt e a w)
  (p:∀s S,fl.n=J S->N s->RelS Kf fix T0 c B G w0 n0 s a w S->∃s S,d.n=J S/\k s/\RelS Kf fix T0 c B G w0 n0 s a w S)
  (hx:∀id s S,(id,S)∈fl.x->X id s->RelS Kf fix T0 c B G w0 n0 s a w S->∃s S,(id,S)∈d.x/\o id s/\RelS Kf fix T0 c B G w0 n0 s a w S)
  (q:∀S,S∈fl.r->S∈d.r):Post Kf fix T0 c B G w0 n0 d k o Rt e a w:=by
 cases e with
 |normal=>let⟨s,S,f,g,j⟩:=h;exact p s S f g j
 |exit id=>let⟨s,S,f,g,j⟩:=h;exact hx id s S f g j
 |ret=>let⟨s,S,f,g,j⟩:=h;exact⟨s,S,q S f,g,j⟩
 |goto l=>exact h.elim
 |panic t=>exact h.elim
 |outgrown=>exact h.elim
def RelS.mw(n:RelS Kf fix T0 c B G w0 n0 s a w S)d:RelS Kf fix T0 c B G w0 n0 s a {w with drawn:=d} S:=by
 let⟨⟨h,f,l⟩,g,j,k⟩:=n;exact⟨⟨h,f.drew d,l⟩,g,j.trans ⟨⟨rfl,rfl,rfl,Zhc _,Z1⟩,λ_ _=>rfl,Z1⟩,k⟩
def Az [Lg fc.P](hm:fc.P.follows .mixedOrders=xk)(b1:∀p∈fc.keep,∀q∈fc.keep,fc.ix p=fc.ix q->p=q)(hP:c.P=fc.P)(a3:c.ix=fc.ix)(b9:fix=fc.fix)(hn:fc.n<=n0):
  ∀code {S:SS} {st:Stm} {fl:Flow} {s:St} {a:Act} {w:World} {N:St->Prop} {X:Nat->St->Prop} {Rt:St->Prop},TS (Lg.ma fc.P) code->comp fc code S=J (st,fl)->RelS Kf fix T0 c B G w0 n0 s a w S->Yw fc.P st s N X Rt->
   Lg.wp fc.P code (Post Kf fix T0 c B G w0 n0 fl N X Rt) a w:=by
 intro code;induction code with
 |skip=>
  intro S st fl s a w N X Rt A d u t;simp[comp,Zh7,Zho]at d;obtain⟨rfl,rfl⟩:=d;exact Lg.wp_skip ⟨s,S,rfl,t,u⟩
 |label l=>
  intro S st fl s a w N X Rt A d u t;simp[comp,Zh7,Zho]at d;obtain⟨rfl,rfl⟩:=d;exact Lg.wp_label ⟨s,S,rfl,t,u⟩
 |region id ops draw=>
  intro S st fl s a w N X Rt A d u t;simp only[comp,Zha,Zho]at d;obtain⟨⟨r,S'⟩,b5,rfl,rfl⟩:=d;let⟨⟨h,g,hK⟩,k,C,h4,h5⟩:=u;refine Z99 A Zgd b5 b1 hP a3 g k (by rw[h4];exact hn) t λa' w' D h' hk L b3 a1 Y hs hd=> ?_;rw[hK,<-b9]at Y;exact⟨D,S',rfl,hk,Zgc,b3,C.trans Y,Z0,Zgd⟩
 |seq x y W a8=>
  intro S st fl s a w N X Rt A d u t;simp only[comp,Zh6]at d;let⟨⟨sx,fx⟩,Q,d⟩:=d;simp only at d;split at d;rename_i a4;simp[Zh7,Zho]at d;obtain⟨rfl,rfl⟩:=d;refine Lg.wp_seq (Lg.wp_mono (W (N:=N) (X:=X) (Rt:=Rt) A.1 Q u t) λe a' w' j=> ?_);cases e with
  |normal=>let⟨D,S',g,_⟩:=j;rw[a4]at g;cases g
  |_=>exact j
  rename_i R a5;simp only[Zha,Zho]at d;obtain⟨⟨sy,fy⟩,hy,rfl,rfl⟩:=d;refine Lg.wp_seq (Lg.wp_mono (W (N:=λD=>Yw fc.P sy D N X Rt) (X:=X) (Rt:=Rt) A.1 Q u t) λe a' w' j=> ?_);cases e with
  |normal=>
   let⟨D,S',g,k,C⟩:=j;rw[a5]at g;cases g;exact Lg.wp_mono (a8 A.2 hy C k) λe a' w' j=>j.mono (λs S g k C=>⟨s,S,g,k,C⟩) (λid s S g k C=>⟨s,S,ZhC.2<|.inr g,k,C⟩) λS hS=>ZhC.2<|.inr hS
  |exit id=>let⟨D,S',g,k⟩:=j;exact⟨D,S',ZhC.2<|.inl g,k⟩
  |ret=>let⟨D,S',g,k⟩:=j;exact⟨D,S',ZhC.2<|.inl g,k⟩
  |_=>exact j.elim
 |exit id=>
  intro S st fl s a w N X Rt A d u t;simp[comp,Zh7,Zho]at d;obtain⟨rfl,rfl⟩:=d;exact Lg.wp_exit ⟨s,S,Z1,t,u⟩
 |ret=>
  intro S st fl s a w N X Rt A d u t;simp[comp,Zh7,Zho]at d;obtain⟨rfl,rfl⟩:=d;exact Lg.wp_ret ⟨s,S,Z1,t,u⟩
 |scope x ih=>
  intro S st fl s a w N X Rt A d u t;refine Lg.ur (Lg.wp_mono (ih A (by simpa only[comp]using d) u t) λe a' w' j=> ?_);cases e<;>exact j
 |cond b8 x y W a8=>
  intro S st fl s a w N X Rt A d u t;cases b8 with
  |tmp tc=>
   simp only[comp]at d;split at d;rename_i a2;simp only[Zh6]at d;let⟨⟨sx,fx⟩,Q,⟨sy,fy⟩,hy,d⟩:=d;simp only at d;split at d;rename_i o;simp[Zhb]at o;simp[Zh7,Zho]at d;obtain⟨rfl,rfl⟩:=d;let⟨⟨h,g,a1⟩,O⟩:=u;let⟨v,hv,L⟩:=g.Y tc (by rw[Yz,a2];exact Yv s c) (by rw[Yz,a2];rfl);rw[Yz,a2]at L;let⟨xv,a7,b6⟩:=L;rw[a3]at a7;have b0:=Act.al a tc v hv;have a0:∀ {f} {fl:Flow} {e:Exit} {a':Act} {w':World},Q7 fc.P f.n fl.n=xk->(∀z∈f.x,z∈fl.x)->(∀z∈f.r,z∈fl.r)->Post Kf fix T0 c B G w0 n0 f N X Rt e a' w'->Post Kf fix T0 c B G w0 n0 fl N X Rt e a' w':=by
    intro f fl e a' w' T Q u j;refine j.mono (λs S g k C=> ?_) (λid s S g k C=>⟨s,S,Q _ g,k,C⟩) u;rw[g]at T;let⟨R,hR,o⟩:=BA T;exact⟨s,R,hR,k,C.fv (by rw[hP];exact o)⟩
   simp[Yw]at t;split at t;rename_i Y;rw[a7]at Y;cases Y;have a6:v=.bool xk:=by cases b6;rfl
   refine Lg.wp_cond_true (by rw[b0,a6]) (Lg.wp_mono (W A.1 Q ⟨⟨h,g,a1⟩,O⟩ t) λe a' w' j=> ?_);exact a0 o.1 (λz hz=>ZhC.2<|.inl hz) (λz hz=>ZhC.2<|.inl hz) j;rename_i Y;rw[a7]at Y;cases Y;have a6:v=.bool xw:=by cases b6;rfl
   refine Lg.wp_cond_false (by rw[b0,a6]) (Lg.wp_mono (a8 A.2 hy ⟨⟨h,g,a1⟩,O⟩ t) λe a' w' j=> ?_);exact a0 o.2 (λz hz=>ZhC.2<|.inr hz) (λz hz=>ZhC.2<|.inr hz) j;exact t.elim;cases d;cases d
  |_=>simp[comp]at d
 |block id x ih=>
  intro S st fl s a w N X Rt A d u t;simp only[comp,Zh6]at d;let⟨⟨sx,fx⟩,Q,d⟩:=d;simp only at d;split at d;rename_i o;simp only[Zhb,Zhn,Zhr,Zkt,Zls]at o;let⟨K,Z⟩:=o;simp[Zh7,Zho]at d;obtain⟨rfl,rfl⟩:=d;generalize yZ fc.P fx.n (BP fc.P ((fx.x.filter λy=>y.1==id).map (·.2)))=M at K Z⊢;refine Lg.wp_block (Lg.wp_mono (ih (N:=N) (X:=λi D=>if i=id then N D else X i D) (Rt:=Rt) A Q u t) λe a' w' j=> ?_);cases e with
  |normal=>
   let⟨D,S',g,k,C⟩:=j;rw[g]at K;let⟨R,hR,T⟩:=BA K;exact⟨D,R,hR,k,C.fv (by rw[hP];exact T)⟩
  |exit d0=>
   let⟨D,S',g,k,C⟩:=j;simp[Exit.inBlock];by_cases hid:d0=id;subst hid;simp at k⊢;let⟨R,hR,T⟩:=BA<|(Z _ g).resolve_left Z1;exact⟨D,R,hR,k,C.fv (by rw[hP];exact T)⟩;simp[Zhg hid]at k⊢;exact⟨D,S',Zk4.2 ⟨g,by simpa using hid⟩,k,C⟩
  |ret=>exact j
  |_=>exact j.elim
  cases d
 |loop x ih=>
  intro S st fl s a w N X Rt A d u t;simp only[comp,Zh6]at d;let⟨H,hH,⟨sx,fx⟩,Q,d⟩:=d;simp only at d;split at d;rename_i o;simp[Zhb]at o;simp[Zh7,Zho]at d;obtain⟨rfl,rfl⟩:=d;let⟨I,μ,a9,F⟩:=t;have b2:(H.map λy=>fc.ix y.1)=H.map λy=>c.ix y.1:=by rw[a3]
  rw[b2]at a9 F;refine Lg.wp_loop (λa w=>∃s,I s/\RelS Kf fix T0 c B G w0 n0 s a w H) (λa w=>least λn=>∃s,μ s=n/\I s/\RelS Kf fix T0 c B G w0 n0 s a w H) ⟨_,a9,(u.fv (by rw[hP];exact o.1)).oe⟩ λa w hI=> ?_;let⟨s0,c7,c0⟩:=hI;let⟨s1,hμ,c8,c1⟩:=Z5R (p:=λn=>∃s,μ s=n/\I s/\RelS Kf fix T0 c B G w0 n0 s a w H) ⟨μ s0,s0,rfl,c7,c0⟩;refine Lg.wp_mono (ih A Q c1<|F s1 c8) λe a' w' j=> ?_;cases e with
  |normal=>
   let⟨D,S',g,⟨k,h4⟩,C⟩:=j;have T:=o.2;rw[g]at T;have b4:=(C.fv (show S7 c.P S' H=xk by rw[hP];exact T)).oe;refine⟨⟨_,k,b4⟩,?_⟩;rw[<-hμ];exact Nat.lt_of_le_of_lt (Z5Q (p:=λn=>∃s,μ s=n/\I s/\RelS Kf fix T0 c B G w0 n0 s a' w' H) ⟨_,rfl,k,b4⟩) h4
  |exit id=>exact j
  |ret=>exact j
  |_=>exact j.elim
  cases d
 |rangeFunc f b7 d6 d5 d7 d8=>intro S st fl s a w N X Rt A d;simp[comp]at d
 |goto l=>intro S st fl s a w N X Rt A d;simp[comp]at d
 |refuse d9=>intro S st fl s a w N X Rt A d;simp[comp]at d
end
end Vm
namespace Vm
open Go
open Go.RowKit (Below)
def Tf(s:St):Nat×RK->Option V
 |(i,.v)=>match get s i with|.v x=>J x|_=>U
 |(i,.ag n)=>match get s i with|.m a=>if n<=(I a) then J (.agg<|a.take n)else U|_=>U
 |(i,.one)=>match get s i with|.m (x::_)=>J x|_=>U
def VZ(s:St):List (Nat×RK)->Option (List V)
 | []=>J []
 |x::l=>(Tf s x).bind λy=>(VZ s l).map (y:: ·)
def Wq(s:St)(l:List<|Nat×RK):Option V:=
 match l with
 | [x]=>Tf s x
 |l=>(VZ s l).map .aq
theorem Od:∀ {l} {p:Nat},p∈l->l[pos l p]?=J p
 | [],p,h=>ZgN
 |q::l,p,h=>by
  simp[pos];by_cases a:q=p;subst a;simp;rw[Zhg a];have:p∈l:=Zgc;simpa using Od this
def Oc:∀ {l r} {t:Nat},t∈l->pos (l++r) t=pos l t
 | [],r,t,h=>ZgN
 |q::l,r,t,h=>by
  simp[pos];by_cases a:q=t;simp_all;rw[Zhg a,Zhg a,Oc Zgc]
def CY{l p q}(a:p∈l)(d:q∈l)(h:pos l p=pos l q):p=q:=by
 grind [Od]
section
variable {c:Ctx}{B:Nat}{G:Nat->Prop}{s t u:St}{a a':Act}{w w' w0:World}{h:GH}{n0:Nat}{S R:SS}
def JJ(P:Program)(d:Nat->Nat):ResultVar->Nat×RK
 |.tmp t=>(d t,.v)
 |.cell a t=>(d a,if Y8 P t then .ag (P.cellsOf t)else .one)
def JI(a:Array Value):ResultVar->Sem Value
 |.tmp t=>pure<|a.getD t xy
 |.cell p t=>do loadVar t (<-asAddr (a.getD p xy))
def OO P a f:LT P a f=f.results.toList.map (JJ P a):=by
 rfl
def OQ(C:RelG c B G s a w h<|Yt c S)(R:Tm c s S){D}(hF:∀b,h.F b->D b){r}(t:∀i b,h.bl (Rl r) (i+1)=J b->D b)(q:R9 c.P S r=xk){x}(hx:Tf s (JJ c.P c.ix r)=J x):
  ∃v,(JI a.tmps r).run c.P w=.ok v w/\Rd w D x v:=by
 cases r with
 |tmp N=>
  simp only[JJ,JI]at hx⊢;simp[R9]at q;cases H:S.at N with
  |none=>simp_all
  |some k=>
   let⟨v,hv,K⟩:=C.Y N (by simp_all[Yz,Yv]) (by rw[Yz,H];cases k<;>rfl);rw[Yz,H]at K;have L:a.tmps.getD N xy=v:=by simp[Zhd,hv]
   refine⟨v,by simp[L],?_⟩;simp[Tf]at hx;have g:get s (c.ix N)=.v x:=by
    cases hg:get s (c.ix N)<;>rw[hg]at hx<;>simp at hx;rw[hx]
   cases k with
   |fz=>
    let⟨y,M,h2⟩:=K;simp[eval,g,Zh7]at M;subst M;exact h2.mono λb Q=>hF b<|GH.it Q
   |own Z=>
    let⟨y,M,h2⟩:=K;simp[eval,g,Zh7]at M;subst M;exact h2.rd hF λb Q=>t 0 b Q
   |nil=>
    have a1:=K;subst a1;have:=R N H;rw[g]at this;simp[SV.v.injEq]at this;subst this;exact .nil _ _ Z0
   |mem l=>simp_all
   |cy f l=>simp_all
 |cell p Z=>
  simp only[JJ,JI]at hx⊢;simp[R9]at q;cases H:S.at p with
  |none=>simp_all
  |some k=>
   cases k with
   |mem l=>
    rw[H]at q;simp[Zhb,Zhn,Zkt,Zls]at q;let⟨⟨hT,a0⟩,n⟩:=q;let⟨v,hv,K⟩:=C.Y p (by simp_all[Yz,Yv]) (by rw[Yz,H];rfl);rw[Yz,H]at K;obtain⟨b,vs,T,M,rfl,h3,h4⟩:=K;have L:a.tmps.getD p xy=.pointer (J ⟨b,0,U⟩):=by simp[Zhd,hv]
    rw[L];have a7:vs.size=I l:=by have:=h4.1;simp_all
    have o:∀i,i<I l->∃y,eval s (.m (c.ix p) i)=J y/\y.one=xk/\Rd w D y (vs.getD i xy):=by
     intro i A;have:=h4.2 i (l[i],.m (c.ix p) i) (by simp[A]);exact this.rd Zgd hF λZ _ b Q=>t i b Q
    let⟨d,info,hd,a4,hs,a3⟩:=Uf hT;cases O:Y8 c.P Z with
    |true=>
     rw[O]at n hx;simp at n;simp[Tf]at hx;split at hx;rename_i cs g;split at hx;rename_i a5;simp[Zh7]at hx;subst hx
     have hl:=run_loadCells_list (P:=c.P) w ⟨b,0,U⟩ vs.toList (λj u hj=>by
      rw[ZiZ,ZhZ,Zhl w b j vs T (0,0) h3];grind)
     simp[Zjy]at hl;refine⟨.agg vs,?_,?_⟩;simp_all[asAddr,ZhV,ZhU,loadVar,Um];have W:∀i y,(cs.take<|c.P.cellsOf Z)[i]?=J y->y.one=xk/\Rd w D y (vs.getD i xy):=by
      intro i y A;rw[ZhL]at A;split at A;rename_i a6;let⟨z,X,a2,Y⟩:=o i Z0;simp[eval,g,A,Zhk]at X;obtain⟨rfl,_⟩:=Sc X;simp_all;cases A
     exact .agg _ vs Zgd (λy hy=>by
      grind [List.getElem?_of_mem]) λi y A=>(W i y A).2
     cases hx;cases hx
    |false=>
     rw[O]at n hx;simp[Zhu]at n;simp[Zhu,Tf]at hx;split at hx;rename_i y0 r g;simp[Zh7]at hx;subst hx;let⟨z,X,a2,Y⟩:=o 0 n;simp[eval,g,Zhk]at X;obtain⟨rfl,_⟩:=Sc X;refine⟨vs.getD 0 xy,?_,Y⟩;have hc:w.cell? ⟨b,0,U⟩=J (vs.getD 0 xy):=by
      rw[Zhl w b 0 vs T (0,0) h3];simp_all
     simp_all[asAddr,ZhV,ZhU,loadVar];cases hx
   |_=>simp_all
def OP(f:RelG c B G s a w h<|Yt c S)(d:Tm c s S){D}(p:∀b,h.F b->D b):∀ {l:List ResultVar},(∀r∈l,R9 c.P S r=xk/\∀i b,h.bl (Rl r) (i+1)=J b->D b)->∀ {xs},VZ s (l.map<|JJ c.P c.ix)=J xs->
  ∃vs,(l.mapM<|JI a.tmps).run c.P w=.ok vs w/\I vs=I xs/\
   ∀(i:Nat) x,xs[i]?=J x->∃v,vs[i]?=J v/\Rd w D x v
 | [],_,xs,j=>by
   simp[VZ]at j;subst j;exact⟨[],Z1,rfl,Z1⟩
 |r::l,g,xs,j=>by
  simp[VZ,Zh6]at j;obtain⟨y,z,C,o,rfl⟩:=j;let⟨v,A,n⟩:=OQ f d p (g r Z1).2 (g r Z1).1 z;let⟨vs,u,t,k⟩:=OP f d p Zgc o;refine⟨v::vs,?_,by simp[t],λi x q=> ?_⟩;simp_all;cases i with
  |zero=>simp at q;subst q;exact⟨v,rfl,n⟩
  |succ i=>simpa using k i x Zgc
def LU(n:RelG c B G s a w h<|Yt c S)(k:Tm c s S){D}(K:∀b,h.F b->D b){f}(d:∀r∈f.results.toList,R9 c.P S r=xk/\∀i b,h.bl (Rl r) (i+1)=J b->D b){x}(hx:Wq s (LT c.P c.ix f)=J x):
  ∃v,(results f a.tmps).run c.P w=.ok v w/\Rd w D x v:=by
 have j:∀vs,(f.results.toList.mapM<|JI a.tmps).run c.P w=.ok vs w->
   (results f a.tmps).run c.P w=.ok (if h:vs.toArray.size=1 then vs.toArray[0]else .tuple vs.toArray) w:=by
  intro vs p;have N:results f a.tmps=(do let vs<-f.results.mapM (JI a.tmps);pure (if h:vs.size=1 then vs[0]else Value.tuple vs)):=by
   refine Zii (λg:ResultVar->Sem Value=>(do let vs<-f.results.mapM g;pure (if h:vs.size=1 then vs[0]else Value.tuple vs))) ?_;funext r;cases r<;>rfl
  rw[N,ZiH];simp;rw[p];simp
 rw[OO]at hx;generalize W:f.results.toList=l at hx d j
 match l,hx with
 | [r],hx=>
   simp[ZhN,Zj5,Wq]at hx;let⟨v,H,o⟩:=OQ n k K (d r Z1).2 (d r Z1).1 hx;refine⟨v,?_,o⟩;have:=j [v] (by simp[Zki,Zlq];rw[H];simp);simpa using this
 | [],hx=>
   simp[Zj5,Wq,VZ,ZhA,Zh7]at hx;subst hx;have:=j [] Z1;exact⟨_,by simpa using this,.aq _ _ rfl λi c A=>by simp at A⟩
 |r::X::l,hx=>
  simp only[ZhN,Wq]at hx;simp[Zha]at hx;obtain⟨xs,q,rfl⟩:=hx;let⟨vs,p,t,z⟩:=OP n k K d (xs:=xs) (by simpa only[ZhN]using q);have O:I xs=I l+2:=by
   simp only[VZ,Zh6,Zha]at q;obtain⟨y,_,R,⟨Y,_,T,M,rfl⟩,rfl⟩:=q;have:∀ {l} {xs:List V},VZ s l=J xs->I xs=I l:=by
    intro l;induction l with
    |nil=>intro xs h;simp[VZ,Zh7]at h;subst h;rfl
    |cons a l Q=>
     intro xs h;simp[VZ,Zh6,Zha]at h;obtain⟨_,_,R,L,rfl⟩:=h;simp[Q L]
   have:=this M;simp[this]
  have u:=j vs p;have C:¬vs.toArray.size=1:=Zge;rw[dif_neg C]at u;refine⟨_,u,.aq _ _ (by simp[t]) λi x A=> ?_⟩;let⟨v,H,o⟩:=z i x A;have:vs.toArray.getD i xy=v:=by simp[Zhd,H]
  rw[this];exact o
end
def SG(k:OT)(x:V):SV:=
 match k,x with
 |.mem _,.agg a=>.m a
 |_,x=>.v x
def Tp:List OT->List V->St
 |k::a,x::xs=>SG k x::Tp a xs
 |_,_=>[]
def FH:∀ {ks} {xs:List V} {i:Nat} {k:OT} {x:V},ks[i]?=J k->xs[i]?=J x->get (Tp ks xs) i=SG k x
 | [],_,_,_,_,a,_=>by simp at a
 |_::_,[],_,_,_,_,d=>by simp at d
 |k::ks,x::xs,0,f,g,a,d=>by simp at a d;subst a d;rfl
 |k::ks,x::xs,i+1,f,g,a,d=>by
  have:=FH (ks:=ks) (xs:=xs) (i:=i) ZgS Zgp;simpa[Tp,get]using this
def RS(s:St)(i:Nat)(k:OT):Option V:=
 match k with
 |.fz=>J<|.bool xw
 | .own _=>match get s i with
   |.v x=>J x
   |_=>U
 | .mem l=>match get s i with
   |.m a=>if I a=(I l) then J (.agg a)else U
   |_=>U
 |_=>U
def RR(s:St):Nat->List OT->Option (List V)
 |_,[]=>J []
 |i,k::a=>(RS s i k).bind λx=>(RR s (i+1) a).map (x:: ·)
def GE:∀ {ks} {i:Nat} {s:St} {f:List V},RR s i ks=J f->I f=I ks/\∀j k y,ks[j]?=J k->f[j]?=J y->RS s (i+j) k=J y
 | [],i,s,f,d=>by
   simp[RR]at d;subst d;exact⟨rfl,Z1⟩
 |k::ks,i,s,f,d=>by
  simp[RR,Zh6]at d;obtain⟨y,o,r,h,rfl⟩:=d;let⟨l,n⟩:=GE h;refine⟨by simp[l],λj p q g a=> ?_⟩;cases j with
  |zero=>simp at g a;subst g a;exact o
  |succ j=>
   have:=n j p q (by simpa using g) ZgS;rw[show i+(j+1)=i+1+j by omega];exact this
def En(ks:List OT)t:SS.at (ks.zipIdx.map λx=>(x.2,x.1)) t=ks[t]? :=by
 have:∀(ks:List OT) n t,SS.at ((ks.zipIdx n).map λx=>(x.2,x.1)) t=if n<=t then ks[t-n]? else U:=by
  intro ks;induction ks with
  |nil=>simp_all[SS.at]
  |cons k ks a=>
   simp[SS.at];grind
 simp_all
def nz:Option OT->Option OT
 |some .fz=>U
 |x=>x
def Z7N ks t:(Re ks).at t=nz ks[t]? :=by
 have:∀(ks:List OT) n t,SS.at ((ks.zipIdx n).filterMap λx=>match x.1 with|.fz=>U|k=>J (x.2,k)) t=if n<=t then nz ks[t-n]? else U:=by
  intro ks;induction ks with
  |nil=>intro n t;simp[SS.at,nz]
  |cons k ks j=>
   intro n t;have a:n≠t->(if n+1<=t then nz ks[t- (n+1)]? else U)=if n<=t then nz (k::ks)[t-n]? else U:=by
    intro f;by_cases g:n<=t;have d:n+1<=t:=Z0;rw[Zhi g,Zhi d,show t-n=(t- (n+1))+1 by omega];simp;have d:¬n+1<=t:=Z0;rw[Zhg g,Zhg d]
   simp[ZiW];by_cases f:n=t;subst f;have d:¬n+1<=n:=Z0;cases k<;>simp[SS.at,j,nz,d];rw[<-a f];cases k<;>simp[SS.at,j,Zhg f]
 have h:=this ks 0 t;simp[Nat.sub_zero]at h;exact h
theorem ym{P} [Lg P]{f fn cf fresh sig ks fin} [N:FitF P f](hf:P.funcs[f]?=J fn)(hm:P.follows .mixedOrders=xk)(hc:V2 P fresh sig ks fin fn=J cf)
  {xs Rt} (hw:Yw P cf.body (Tp ks xs) Rt (λ_ _=>False) Rt) {B w h vs} (a3:Ok B h.F w h) (hA:zE P B w h ks xs vs) {Q}
  (hQ:∀c s S a w' h',c.P=P->(∀t,t<I ks->c.ix t=t)->(∀t∈cf.keep,c.ix t=pos cf.keep t)->cf.fq=LT P c.ix fn->Rt s->RelG c B h.F s a w' h' (Yt c S)->Tm c s S->h'.K=h.K->Frm h.K (λt=>t∈RU ks) vs B w a w'->R8 P fn fin S=xk->
   ∃v,(results fn a.tmps).run P w'=.ok v w'/\Q (.returned v) w'):Lg.ln P f vs w Q:=by
 unfold V2 at hc;simp only[Zh6]at hc;let⟨code,hb,⟨st,fl⟩,L,hc⟩:=hc;split at hc
 .rename_i r;simp only[MG,Zhb]at r;let⟨⟨⟨X,a4⟩,b0⟩,a9⟩:=r;simp only[Zh7]at hc;subst hc;simp only at hw;generalize a1:Kv [] ((List.range<|I ks)++UT (λops=>MX ops++Db ops ops.toList []) code)=keep at*;generalize a2:Kv [] ((UT Iz code).filter λt=> !keep.contains t)=g at*;have H:∀t,t<I ks->pos (keep++g) t=t:=λt D=>by
   simp_all
  refine Lg.calls_of_wp hf hb ?_;have O:∀p∈keep,∀q∈keep,pos (keep++g) p=pos (keep++g) q->p=q:=λp A q hq he=>CY (Zij _ A) (Zij _ hq) he;let⟨b1,a5,M⟩:=hA;have a8:∀t,t∈RU ks->t<vs.size:=by
   intro t D;simp only[RU,Re,Zhq,Zk5]at D;obtain⟨y,⟨x,hx,Y⟩,rfl⟩:=D;have C:=(List.mem_zipIdx hx).2.1;have a7:y.1=x.2:=by
    split at Y;cases Y;grind
   rw[a7,a5];omega
  have j:RelS h.K (RU ks) vs {P,ix:=pos<|keep++g,own:=λ_=>xw,fresh,sig,tr:=zi fn,n:=fn.ntmps} B h.F w (vs++Array.replicate (fn.ntmps-vs.size) xy).size (Tp ks xs)
    {tmps:=vs++Array.replicate (fn.ntmps-vs.size) xy,defers:=[]} w (ks.zipIdx.map λx=>(x.2,x.1)):=by
   refine⟨⟨h,⟨a3,λt _ R=> ?_,λt hh=> ?_⟩,rfl⟩,λp A=> ?_,⟨.refl _ _,.refl _ _,λt D=> ?_⟩,rfl,rfl⟩
   .rw[Yz]at R⊢;rw[En]at R⊢;by_cases D:t<I ks
    .rw[Zh8 D]at R⊢;have C:t<I xs:=Z0;let⟨tk,d,j⟩:=M t ks[t] xs[t] Z1 Z1;refine⟨vs.getD t xy,?_,?_⟩;simp only;rw[Zjd Z0];simp[Zhd,show t<vs.size by omega]
     .have Z:get (Tp ks xs) (pos (keep++g) t)=SG ks[t] xs[t]:=by rw[H t D];exact FH Z1 Z1
      generalize ks[t]=k at d Z;generalize xs[t]=x at d Z;cases k with
      |fz=>
       simp[Ws,Zh7]at d;subst d;let⟨y,o,u⟩:=j;simp[eval,Zh7]at o;subst o;exact⟨x,by grind [eval,SG],u⟩
      |own ty=>
       simp[Ws,Zh7]at d;subst d;let⟨y,o,u⟩:=j;simp[eval,Zh7]at o;subst o;exact⟨x,by grind [eval,SG],u⟩
      |mem l=>
       cases x<;>simp only[Ws]at d<;>first|(cases d;done)|skip
       rename_i cs;split at d;rename_i W;simp[Zh7]at d;subst d;let⟨b,us,T,e1,e2,e3,e4,e5⟩:=j;refine⟨b,us,T,e1,e2,e3,Zgd,λi ck hi=> ?_⟩;simp only[Zhz,Zjq,Zha,ZhZ]at hi;obtain⟨y,⟨k2,a0,rfl⟩,rfl⟩:=hi;have C:i<I cs:=by rw[W];exact(Zh9.1 a0).1
       have hc:=e5 i (k2,.c cs[i]) Zgc;refine hc.eval λy o Y=> ?_;simp[eval,Zh7]at Y;subst Y;simp[eval,Z,SG,Zh8 C,Zhk,YV,o];grind
      |nil=>grind [Ws]
      |cy f l=>grind [Ws]
    rw[ZhP Z0]at R;cases R
   exact absurd (by rw[Yz];rw[En];split<;>exact VP _) hh;rw[En]at A;have C:p<I xs:=by have:=(Zh9.1 A).1;omega
   let⟨tk,d,_⟩:=M p .nil xs[p] A Z1;grind [Ws];grind
  refine Lg.wp_mono (Az (c:= {P,ix:=pos<|keep++g,own:=λ_=>xw,fresh,sig,tr:=zi fn,n:=fn.ntmps}) (fc:= {P,ix:=pos<|keep++g,fresh,sig,tr:=zi fn,fix:=RU ks,n:=fn.ntmps,keep}) hm O rfl rfl rfl Zge code (N.all fn code hf hb) L j hw) λe a' w' A=> ?_
  have G:∀ {s} {S:SS},R8 P fn fin S=xk->Rt s->RelS h.K (RU ks) vs {P,ix:=pos<|keep++g,own:=λ_=>xw,fresh,sig,tr:=zi fn,n:=fn.ntmps} B h.F w (vs++Array.replicate (fn.ntmps-vs.size) xy).size s a' w' S->
    a'.defers=[]/\∀w1,Lg.mw P w' w1->∃v,(results fn a'.tmps).run P w1=.ok v w1/\Q (.returned v) w1:=by
   intro s S o u z;refine⟨z.2.2.2.2,λw1 a6=> ?_⟩;rw[Lg.oi a6];replace z:=z.mw w1.drawn;let⟨⟨h',z,h4⟩,h5,h6,h7,h8⟩:=z;exact hQ _ s S a' _ h' rfl H (λt D=>Oc D) rfl u z h5 h4 h6 o
  cases e with
  |normal=>
   let⟨s,S,o,u,z⟩:=A;rw[o]at X;exact G X u z
  |ret=>
   let⟨s,S,o,u,z⟩:=A;exact G (Zhn.1 a4 S o) u z
  |exit id=>let⟨s,S,o,u,_⟩:=A;grind
  |_=>exact A.elim
 cases hc
def JV{P} [Lg P]{f fn cf fresh sig ks} [FitF P f](d:P.funcs[f]?=J fn)(hm:P.follows .mixedOrders=xk)(G:U5 P f=xk)(hc:V2 P fresh sig ks (Re ks) fn=J cf)(a0:ON fn (Re ks)=xk)
  {xs R} (hw:Yw P cf.body (Tp ks xs) (λs=>∃r,Wq s cf.fq=J r/\∃L,RR s 0 ks=J L/\R=Jz r (XH ks L)) (λ_ _=>False) (λs=>∃r,Wq s cf.fq=J r/\∃L,RR s 0 ks=J L/\R=Jz r (XH ks L))):Vo P f ks xs R:=by
 refine⟨G,λB w h vs a5 hA=>ym d hm hc hw a5 hA λc s S a w' h' hP N _ W ⟨r,hr,L,a9,hR⟩ t p hK g o=> ?_⟩;subst hP;simp only[R8,Zhb,Zhn]at o;let⟨C,a3⟩:=o;let⟨n,a4⟩:=zG t p a3;rw[W]at hr
 let⟨v,hv,a7⟩:=LU (D:=(h'.drop<|Ud S<|Re ks).F) t p (λb hb=>.inl hb) (λq hq=>by
  have h2:=Zhn.1 a0 q hq;refine⟨C q hq,λi b hb=>.inr ⟨Rl q,i+1,?_,Z0,hb⟩⟩;simp_all[Ud,ZkR,Rl]) hr
 let⟨a8,X⟩:=GE a9;refine⟨v,hv,v,r,L,h'.drop _,rfl,g.below,g.same,n.ok,hK,a7,⟨a8,λi k y hk b1 hy=> ?_⟩,hR⟩;have Q:i<I ks:=Zgc;have H:(Re ks).at i=J k:=by
  rw[Z7N,hk];cases k<;>first|rfl|simp_all
 let⟨u,hu,K⟩:=n.Y i (by simp_all[Yz,Yv]) (by rw[Yz,H];cases k<;>rfl);rw[Yz,H]at K;have a6:vs.getD i xy=u:=by
  have M:=g.fix i<|Zhq.2 ⟨(i,k),QR H,rfl⟩;rw[hu]at M;simp[Zhd,<-M]
 rw[a6];have d:=X i k y hk hy;cases k with
 |fz=>simp_all
 |own ty=>
  simp[RS]at d;split at d;rename_i x hg;simp[Zh7]at d;subst d;let⟨z,M,h2⟩:=K;simp[eval,N i Q,hg,Zh7]at M;subst M;exact⟨_,rfl,x,rfl,h2⟩;cases d
 |mem l=>
  simp[RS]at d;split at d;rename_i cs hg;split at d;rename_i b0;simp[Zh7]at d;subst d;let⟨b,us,T,e1,e2,e3,e4,e5⟩:=K;refine⟨.mem ((l.zip cs).map λy=>(y.1,.c y.2)),by simp_all[Ws],b,us,T,e1,e2,e3,Zgd,λj ck O=> ?_⟩;simp only[Zhz,Zha]at O;obtain⟨⟨kk,x⟩,O,rfl⟩:=O;rw[ZkO]at O;let⟨a1,a2⟩:=O;have hc:=e5 j (kk,.m (c.ix i) j) (by simp[a1]);have A:∀ {z},eval s (.m (c.ix i) j)=J z->z=x:=λhz=>by
   simp[eval,N i Q,hg,a2,Zhk]at hz;obtain⟨rfl,_⟩:=Sc hz;rfl
  cases kk with
  |fz=>let⟨z,Y,Z,q3⟩:=hc;have:=A Y;subst this;exact⟨_,rfl,Z,q3⟩
  |own ty=>let⟨z,Y,Z⟩:=hc;have:=A Y;subst this;exact⟨_,rfl,Z⟩
  |nil=>let⟨Y,Z⟩:=hc;have:=A Z;subst this;exact⟨Y,rfl⟩
  |gh=>exact hc
  cases d;cases d
 |nil=>simp[RS]at d
 |cy f l=>simp[RS]at d
def Ah:∀xs,Tp (xs.map λ_=>OT.fz) xs=xs.map .v
 | []=>rfl
 |x::xs=>by simp_all[ZhN,Tp,SG,Ah]
def ZT{P} [Lg P]{f fn cf fresh sig ks fin} [FitF P f](O:P.funcs[f]?=J fn)(R:P.follows .mixedOrders=xk)(j:U5 P f=xk)(hc:V2 P fresh sig ks fin fn=J cf)
  {args r} (t:ks=args.map λ_=>.fz)
  (X:Yw P cf.body (args.map .v) (λs=>Wq s cf.fq=J r) (λ_ _=>False)<|λs=>Wq s cf.fq=J r):VC P f xw args r:=by
 refine⟨j,λw G vs M W z=> ?_⟩;subst t;have u:Ok (xz<|xj w) G w {F:=G,bl:=λ_ _=>U,K:=λ_=>False}:=⟨Z0,M,Zgd,Z1,Z1,Z1,Z1,Z1,Z1⟩;refine ym (h:= {F:=G,bl:=λ_ _=>U,K:=λ_=>False}) (B:=xz<|xj w) (Rt:=λs=>Wq s cf.fq=J r) O R hc (by rw[Ah];exact X) u ⟨Z1,Zgd,λi k x H Y=> ?_⟩ λc s S a w' h' N Q _ p L d o Z n l=> ?_;simp[Zha]at H;obtain⟨y,_,rfl⟩:=H;exact⟨_,rfl,x,rfl,(z i x Y).mono λb g=>.inl g⟩;subst N;simp only[R8,Zhb,Zhn]at l;rw[p]at L
 let⟨v,T,A⟩:=LU (D:=λb=>G b\/(xz (xj w)<=b/\b<xz (xj w'))) d o (λb g=>by
  obtain C|C:=d.ok.cz b g;grind;exact .inr ⟨C,d.ok.bz b g⟩) (λq hq=>⟨Zgd,λi b g=>.inr ⟨(d.ok.aw _ _ b g).1,(d.ok.aw _ _ b g).2.1⟩⟩) L
 refine⟨v,T,v,rfl,n.below,A.mono λb g=> ?_⟩;simp_all
def OwnV.rn{P B w h o ty l v}(G:OwnV P B w h o ty (.sl l) v)(C:∀c∈flat l,c.bp=xk){G'}(L:∀b,o=J b->G' b):Rd w G' (.sl l) v:=by
 obtain⟨M,xs,k,H,f,g,z,p⟩|⟨_,_,_,_,_,_,k,_⟩:=G;case inr=>cases k
 cases k;let⟨y,A⟩:=g;obtain⟨rfl,K⟩|⟨b,cap,a,rfl,_,D,n,d,q,r⟩:=A;have:l=[]:=Zgd;subst this;exact .nil _ _ Z0;simp[Value.ownBlock]at z;refine .sl l b 0 cap _ (λi=>a.getD i xy) n d Zgd f (λi j=> ?_) λi c j=> ?_;rw[ZhZ,Zhl w b i a ty _ D];have:i<a.size:=by rw[q];exact Zhj j Zgc
 simp_all;let⟨u,t,F⟩:=p i c j;have x:a.getD i xy=u:=by
  rw[<-r,ZhL]at t;split at t;simp_all;simp at t
 rw[x];exact F.gn Zgc
def Zbd{P} [Lg P]{f fn cf fresh sig ks}{t:Nat}{ty} [FitF P f](hf:P.funcs[f]?=J fn)(hm:P.follows .mixedOrders=xk)(j:U5 P f=xk)(n:fn.results=#[.tmp t])(hc:V2 P fresh sig ks [(t,.own ty)] fn=J cf)
  {args l} (Q:ks=args.map λ_=>.fz) (O:∀c∈flat l,c.bp=xk)
  (hw:Yw P cf.body (args.map .v) (λs=>Wq s cf.fq=J (.sl l)) (λ_ _=>False)<|λs=>Wq s cf.fq=J (.sl l)):VC P f xk args<|.sl l:=by
 refine⟨j,λw G vs Y a1 W=> ?_⟩;subst Q;have T:Ok (xz<|xj w) G w {F:=G,bl:=λ_ _=>U,K:=λ_=>False}:=⟨Z0,Y,Zgd,Z1,Z1,Z1,Z1,Z1,Z1⟩;refine ym (h:= {F:=G,bl:=λ_ _=>U,K:=λ_=>False}) (B:=xz<|xj w) (Rt:=λs=>Wq s cf.fq=J _) hf hm hc (by rw[Ah];exact hw) T ⟨Z1,Zgd,λi k x q hx=> ?_⟩ λc s S a w' h' Z a0 _ H A D r hK p g=> ?_;simp[Zhz,Zha]at q;obtain⟨y,_,rfl⟩:=q;exact⟨_,rfl,x,rfl,(W i x hx).mono λb N=>.inl N⟩;subst Z;simp[R8,Zhb]at g;let⟨d,R⟩:=zG D r g.2;have o:(Yt c [(t,OT.own ty)]).at t=([],.own ty<|.s<|c.ix t):=by
  rw[Yz];simp[SS.at,QZ]
 let⟨u,hu,q⟩:=d.Y t (by simp_all[Yv]) (by rw[o];rfl);rw[o]at q;let⟨X,L,z⟩:=q;rw[H,OO,n]at A;simp[ZhN,Zj5,JJ,Wq,Tf]at A;have M:X=.sl l:=by
  simp[eval]at L;cases hg:get s _<;>rw[hg]at L A<;>simp at L A;rw[<-L,A]
 subst M;have C:Rd w' (λb=>(xk=xw/\G b)\/(xz (xj w)<=b/\b<xz (xj w'))) (.sl l) u:=by
  refine OwnV.rn z O λb N=>.inr ?_;let⟨q1,q2,_⟩:=d.ok.aw t 1 b N;exact⟨q1,q2⟩
 refine⟨u,?_,u,rfl,p.below,C⟩;simp_all[results_tmp,Zhd]
end Vm
end
section
namespace Vm
open Go Go.Conc
section
def YC(P:Z5):Program:=P
section
variable {P:Z5}{Stop:Za}{b:Zf}{k:Zn}{cs:Z8}{a:Act}{w:Z3}
theorem G1(fn:Func)(d:Ze):Calm<|results fn d:=by
 unfold results;refine .bind (FZ (λr=> ?_) _) λ_=>.pure _;cases r with
 |tmp t=>exact .pure _
 |cell a t=>exact .bind (calm_asAddr _) λ_=>calm_loadVar _ _
def ZaP{c:Code}:stepG P xk (G (b.at a<|.code (.scope c)::k) cs) w=.go (G (b.at a<|.code c:: .inScope c::k) cs) w:=Zh2
def ZaL{c:Code}:stepG P xk (G (b.at a<|.inScope c::k) cs) w=.go (G (b.at a k) cs) w:=Zh2
def ZaO:stepG P xk (G (b.at a<|.code .ret::k) cs) w=.go (G {b.at a (.code .ret::k)with mode:=.returning} cs) w:=Zh2
abbrev Zs:=Value->World->Prop
def Leaves(P:Z5)(fr:Zf)(w:Z3)(R:Zs):Prop:=
 fr.mode=.returning/\fr.defers=[]/\fr.kind=.normal/\∃fn,P.funcs[fr.fn]?=J fn/\∀d,∃v,(results fn fr.tmps).run P (w.at d)=.ok v (w.at d)/\R v (w.at d)
def ZaM{fr c:Zf}{fn:Func}{v:Zg}(a:fr.mode=.returning)(h2:fr.defers=[])(d:fr.kind=.normal)(f:P.funcs[fr.fn]?=J fn)(g:(results fn fr.tmps).run P w=.ok v w):
  stepG P xk (G fr<|c::cs) w=.go (G (c.finish v) cs) w (seen P fr.fn<|(results fn fr.tmps).events P w #[]):=by
 simp_all[G,stepG,unwind,doReturn,GStep.after]
def Leaves.km{fr c:Zf}{R:Zs}(h:Leaves P fr w R)(o:∀v w,R v w->Walk P Stop (c.finish v) cs w):Walk P Stop fr (c::cs) w:=by
 obtain⟨f,g,j,fn,k,l⟩:=h;refine .one λd=> ?_;obtain⟨v,a,p⟩:=l d;refine⟨_,_,_,_,ZaM f g j k a,Zhc _,λe n=> ?_,o v _ p⟩;have:=Ky (P:=P) (G1 fn fr.tmps) (w.at d) e<|mem_seen n;rw[a]at this;exact this
def AfterB(P:Z5)(Stop:Za)(b:Zf)(k:Zn)(cs:Z8):Exit->Act->World->Prop
 |.normal,a,w=>Walk P Stop (b.at a k) cs w
 |.exit id,a,w=>∃f,exitTo id k=J f/\Walk P Stop (b.at a f) cs w
 |.ret,a,w=>∀d,Walk P Stop {b.at a d with mode:=.returning} cs w
 |_,_,_=>False
def AfterB.push{x:Item}{e:Exit}(hx:x.plain=xk)(j:e≠.normal)(h:AfterB P Stop b k cs e a w):AfterB P Stop b (x::k) cs e a w:=by
 cases e with
 |normal=>simp_all
 |exit id=>obtain⟨f,n,d⟩:=h;exact⟨f,by cases x<;>simp_all [exitTo,Item.plain],d⟩
 |ret=>exact h
 |goto l=>exact h
 |panic g=>exact h
 |outgrown=>exact h
abbrev Zk:=Exit->Act->World->Prop
def Tl(P:Z5)(c:Code)(Q:Zk)(a:Act)(w:Z3):Prop:=
 ∀(b:Zf) (k:Zn) (cs:Z8) (Stop:Za),b.kind≠.early->(∀e d f,Q e d f->AfterB P Stop b k cs e d f)->Walk P Stop (b.at a<|.code c::k) cs w
def r9(P:Z5)(ops:Zm)(Q:Zk)(l:Zb)(a:Act)(w:Z3):Prop:=
 ∀(b:Zf) (k:Zn) (cs:Z8) (Stop:Za),b.kind≠.early->(∀e d f,Q e d f->AfterB P Stop b k cs e d f)->Walk P Stop (b.at a<|.inRegion ops l::k) cs w
def Ap(P:Z5)(f:Zq)(args:Ze)(w:Z3)(R:Ending->World->Prop):Prop:=
 ∀(cs:Z8) (Stop:Za),(∀a d,a.fn=f->Leaves P a d (λv w=>R (.returned v) w)->Walk P Stop a cs d)->Walk P Stop (Frame.enter P f args .normal) cs w
variable {Q:Zk}
def Zbv{x y:Code}(h:Tl P x (Exit.then (Tl P y Q) Q) a w):Tl P (.seq x y) Q a w:=by
 intro b k cs Stop f d;refine .go (λw=>stepG_seq) (h b (.code y::k) cs Stop f λe g n q=> ?_);cases e with
 |normal=>exact q b k cs Stop f d
 |exit id=>exact(d _ _ _ q).push rfl Z1
 |ret=>exact(d _ _ _ q).push (x:=.code y) rfl Z1
 |goto l=>exact d _ _ _ q
 |panic j=>exact d _ _ _ q
 |outgrown=>exact d _ _ _ q
def Zbu{x:Code}(h:Tl P x (Exit.noGoto Q) a w):Tl P (.scope x) Q a w:=by
 intro b k cs Stop f d;refine .go (λw=>ZaP) (h b (.inScope x::k) cs Stop f λe o r q=> ?_);cases e with
 |normal=>exact .go (λw=>ZaL)<|d _ _ _ q
 |exit id=>obtain⟨n,j,g⟩:=d _ _ _ q;exact⟨n,by simp[exitTo,j],g⟩
 |ret=>exact d _ _ _ q
 |goto l=>exact q.elim
 |panic p=>exact d _ _ _ q
 |outgrown=>exact d _ _ _ q
def Zbs{id:Nat}{c:Code}(h:Tl P c (Exit.inBlock id Q) a w):Tl P (.block id c) Q a w:=by
 intro b k cs Stop g d;refine .go (λw=>stepG_block) (h b (.inBlock id::k) cs Stop g λe p t q=> ?_);cases e with
 |normal=>exact .go (λw=>stepG_inBlock)<|d _ _ _ q
 |exit f=>
  by_cases hid:f=id;simp only[Exit.inBlock,hid,Zi9]at q;exact⟨k,by simp[exitTo,hid],d _ _ _ q⟩;simp only[Exit.inBlock,hid,Zif]at q;obtain⟨o,n,j⟩:=d _ _ _ q;have:(id==f)=xw:=by simp;exactλh=>hid h.symm
  exact⟨o,by simp_all[exitTo],j⟩
 |ret=>exact d _ _ _ q
 |goto l=>exact d _ _ _ q
 |panic r=>exact d _ _ _ q
 |outgrown=>exact d _ _ _ q
def Zbt{c:Code}(I:Act->World->Prop)(μ:Act->World->Nat)(p:I a w)
  (round:∀a w,I a w->Tl P c (Exit.then (λd g=>I d g/\μ d g<μ a w) Q) a w):Tl P (.loop c) Q a w:=by
 intro b k cs Stop j f;have key:∀n a w,μ a w=n->I a w->Walk P Stop (b.at a<|.code c:: .inLoop c::k) cs w:=by
  intro n;induction n using Nat.strongRecOn with
  |_ n r=>
   intro a w o h;refine round a w h b (.inLoop c::k) cs Stop j λe d g q=> ?_;cases e with
   |normal=>exact .go (λw=>stepG_inLoop)<|r (μ d g) (o▸q.2) d g rfl q.1
   |exit id=>exact(f _ _ _ q).push rfl Z1
   |ret=>exact(f _ _ _ q).push (x:=.inLoop c) rfl Z1
   |goto l=>exact f _ _ _ q
   |panic t=>exact f _ _ _ q
   |outgrown=>exact f _ _ _ q
 exact .go (λw=>stepG_loop)<|key _ a w rfl p
def Walk.op{ops:Zm}{i:Nat}{rest:Zb}{o:Oper}(p:ops[i]?=J o)(t:Region.wanted o (yielded ops a.tmps)=xk)(r:b.kind≠.early)(y:∀o∈ops,QU P o.op=xk)
  (h:∀d,match(execOp a.eval o).run P (w.at d)with
   |.ok (.value v) l=>Walk P Stop (b.at (a.put o.dst v)<|.inRegion ops rest::k) cs l
   |.ok .skip l=>Walk P Stop (b.at (a.put o.dst xy)<|.inRegion ops rest::k) cs l
   |.ok (.enter f args) l=>Walk P Stop (Frame.enter P f args .normal) (b.at a (.inRegion ops (i::rest)::k)::cs) l
   |_=>False):Walk P Stop (b.at a<|.inRegion ops (i::rest)::k) cs w:=by
 refine .one λd=> ?_;have h:=h d;have j:=(JK P (execOp a.eval o)<|w.at d).1;have g:EvsB (xz<|xj<|Ye<|(execOp a.eval o).run P<|w.at d)<|listed P b.fn a o<|w.at d:=λe u=>Gu (y o<|ZjJ p) a (w.at d) e<|mem_listed u
 revert h
 cases q:(execOp a.eval o).run P (w.at d)with
 |halt x l=>simp
 |ok n l=>
  rw[q]at j g;cases n<;>first|simp|skip
  exactλh=>⟨_,_,_,_,stepG_value p t r q,j,g,h⟩;exactλh=>⟨_,_,_,_,stepG_none p t r q,j,g,h⟩;exactλh=>⟨_,_,_,_,stepG_enter p t r q,j,g,h⟩
def ZaN{ops:Zm}{i:Nat}{rest:Zb}(f:ops[i]?=U):stepG P xk (G (b.at a<|.inRegion ops (i::rest)::k) cs) w=.go (G (b.at a<|.inRegion ops rest::k) cs) w #[]:=by
 have d:(b.at a<|.inRegion ops (i::rest)::k).finish xy=b.at a (.inRegion ops rest::k):=by rw[ZjK,f];rfl
 simp_all[G,stepG,stepG.exec,Frame.at]
end
instance besI (P:Z5):Lg (YC P) where
 wp c Q a w:=Tl P c Q a w
 ln f args w R:=Ap P f args w R
 todo ops Q l a w:=r9 P ops Q l a w
 mw w w1:=∃d,w1=w.at d
 ma o:=QU P o.op=xk
 oi h:=by obtain⟨d,rfl⟩:=h;rfl
 dy h k:=λcs Stop hs=>h cs Stop λfr w' h1 h2=>hs fr w' h1 (by
  obtain⟨q1,q2,q3,fn,q4,q5⟩:=h2;exact⟨q1,q2,q3,fn,q4,λd=>by obtain⟨v,r1,r2⟩:=q5 d;simp_all⟩)
 wp_mono h k:=λb kk cs Stop hb hc=>h b kk cs Stop hb λe a w q=>hc e a w<|k e a w q
 wp_skip h:=λb k cs Stop hb hc=>.go (λw=>stepG_skip)<|hc _ _ _ h
 wp_label h:=λb k cs Stop hb hc=>.go (λw=>stepG_label)<|hc _ _ _ h
 wp_exit h:=λb k cs Stop hb hc=>by
  obtain⟨k',hk',hg⟩:=hc _ _ _ h;exact .go (λw=>stepG_exit hk') hg
 wp_ret h:=λb k cs Stop hb hc=>.go (λw=>ZaO)<|hc _ _ _ h _
 wp_seq h:=Zbv h
 ur h:=Zbu h
 wp_cond_true hc h:=λb k cs Stop hb hq=>.go (λw=>stepG_cond hc)<|h b k cs Stop hb hq
 wp_cond_false hc h:=λb k cs Stop hb hq=>.go (λw=>stepG_cond hc)<|h b k cs Stop hb hq
 wp_block h:=Zbs h
 wp_loop I μ h k:=Zbt I μ h k
 wp_region _ h:=λb k cs Stop hb hc=>.go (λw=>stepG_region)<|h b k cs Stop hb hc
 vq {id ops Q a w} _ h:=λb k cs Stop hb hc=>.one λd=>⟨_,_,_,_,stepG_region_draw,Zhc _,λe he=>by simp at he,h (w.at d) ⟨d,rfl⟩ _ b k cs Stop hb hc⟩
 li h:=λb k cs Stop hb hc=>.go (λw=>stepG_region_end)<|hc _ _ _ h
 nj {ops Q i rest a w} hf h:=λb k cs Stop hb hc=>by
  cases ho:ops[i]? with
  |none=>
   have h:=h w ⟨w.drawn,rfl⟩;rw[ho]at h;exact .go (λw=>ZaN ho)<|h b k cs Stop hb hc
  |some o=>
   rw[ho]at h;dsimp only at h;by_cases hw:Region.wanted o (yielded ops a.tmps)=xk;refine .op ho hw hb hf λd=> ?_;have h:=h (w.at d) ⟨d,rfl⟩;rw[Zhi hw]at h
   revert h
   show JU (Ap P) o a (r9 P ops Q rest) ((execOp a.eval o).run P<|w.at d)->_;cases(execOp a.eval o).run P (w.at d)with
   |halt x w'=>exact id
   |ok n w'=>
    cases n<;>first|exact id|exactλh=>h b k cs Stop hb hc|skip
    refineλh=>h _ Stop λfr w2 h1 hL=>hL.km λv w3 hr=> ?_;obtain⟨v',e,hr⟩:=hr;cases e;rw[ZjK,ho];exact hr b k cs Stop hb hc
   have h:=h w ⟨w.drawn,rfl⟩;rw[Zhg hw]at h;exact .go (λw=>stepG_unwanted ho Zgc)<|h b k cs Stop hb hc
 calls_of_wp {f fn c args w R} hf hb h:=λcs Stop hs=>by
  have hf:P.funcs[f]?=J fn:=hf;rw[enter_at args hf hb];refine h (base f) [] cs Stop (by simp[base]) λe a' w' q=> ?_;cases e with
  |normal=>exact .go (λw=>stepG_end)<|hs _ _ rfl ⟨rfl,q.1,rfl,fn,hf,λd=>q.2 (w'.at d) ⟨d,rfl⟩⟩
  |ret=>exactλtodo=>hs _ _ rfl ⟨rfl,q.1,rfl,fn,hf,λd=>q.2 (w'.at d) ⟨d,rfl⟩⟩
  |_=>exact q.elim
end
end Vm
end
section
namespace Vm
open Go Go.Conc
open Go.RowKit (Below)
abbrev Zr:=List V
inductive NoM:V->Prop where
 |int (k:IntKind) (n:Int):NoM<|.int k n
 |bool (b:Bool):NoM<|.bool b
 |str (s:ByteArray):NoM<|.str s
 |fn (f:Zq):NoM<|.fn f
 |mh (k:Nat):NoM<|.mh k
 |sl (l:Zr):(∀c∈flat l,NoM c)->NoM (.sl l)
 |agg (l:Zr):(∀c∈l,NoM c)->NoM (.agg l)
 |aq (l:Zr):(∀c∈l,NoM c)->NoM (.aq l)
 |ptr (l:Zr):(∀c∈l,NoM c)->NoM (.ptr l)
 |cy (f:Zq) (l:Zr):(∀c∈l,NoM c)->NoM (.cy f l)
def FixV.mono{n m v}(h:FixV n v)(f:n<=m):FixV m v:=λρ a=>h ρ λb d=>a b Z0
def KJ{l:Zp}(h:∀v∈l,∃n,FixV n v):∃n,∀v∈l,FixV n v:=by
 induction l with
 |nil=>simp
 |cons v l g=>
  let⟨n,f⟩:=h v Z1;let⟨m,d⟩:=g λx a=>h x (by simp[a])
  exact⟨max n m,λx a=>by
   obtain rfl|a:=Zhs.1 a;exact f.mono Z0;exact(d x a).mono Z0⟩
def SR{n}{a:Ze}(h:∀v∈a,FixV n v):=λρ f=>Qd λx d=>h x d ρ f
def J5:∀v:Zg,∃n,FixV n v
 |.bool b=>⟨0,λρ _=>Uk ..⟩
 |.int k n=>⟨0,λρ _=>Wp ..⟩
 |.float k b=>⟨0,λρ _=>Sf ..⟩
 |.complex k a b=>⟨0,λρ _=>Df ..⟩
 |.string s=>⟨0,λρ _=>Si ..⟩
 |.pointer U=>⟨0,λρ _=>UG ..⟩
 |.pointer (J a)=>⟨a.block+1,λρ h=>by rw[WM];simp[ZW,h a.block<|ZjT _]⟩
 |.slice U n c=>⟨0,λρ _=>Zh4⟩
 |.slice (J a) n c=>⟨a.block+1,λρ h=>by simp[Zu,ZW,h a.block<|ZjT _]⟩
 |.map U=>⟨0,λρ _=>Zh4⟩
 |.map (J r)=>⟨r+1,λρ h=>by simp[Zu,h r<|ZjT _]⟩
 |.chan U=>⟨0,λρ _=>Zh4⟩
 |.chan (J r)=>⟨r+1,λρ h=>by simp[Zu,h r<|ZjT _]⟩
 |.nilIface=>⟨0,λρ _=>Zh4⟩
 |.nilFunc=>⟨0,λρ _=>Zh4⟩
 | .iface t v=>by
   obtain⟨n,f⟩:=J5 v;exact⟨n,λρ h=>by simp only[Zu];rw[f ρ h]⟩
 | .func fn a b=>by
   obtain⟨n,f⟩:=KJ (l:=a.toList) λv d=>J5 v;obtain⟨m,o⟩:=KJ (l:=b.toList) λv d=>J5 v;refine⟨max (max n m) (match fn with|.yield l=>l+1|_=>0),λρ h=> ?_⟩;simp only[Zu]
   rw[SR (n:=max n m) (a:=a) (λv d=>(f v Zgp).mono<|Zlf ..) ρ λb j=>h b<|Zhj j<|Zlf ..,
    SR (n:=max n m) (a:=b) (λv d=>(o v Zgp).mono<|Nat.le_max_right ..) ρ λb j=>h b<|Zhj j<|Zlf ..]
   cases fn with
   |yield l=>simp only[Vj];rw[h l<|Zhj (ZjT l)<|Nat.le_max_right ..]
   |_=>rfl
 | .agg g=>by
   obtain⟨n,f⟩:=KJ (l:=g.toList) λv d=>J5 v;exact⟨n,λρ h=>by rw[WF,SR (λv d=>f v Zgp) ρ h]⟩
 | .tuple g=>by
   obtain⟨n,f⟩:=KJ (l:=g.toList) λv d=>J5 v;exact⟨n,λρ h=>by rw[Ul,SR (λv d=>f v Zgp) ρ h]⟩
termination_by v=>sizeOf v
decreasing_by
 all_goals simp_wf
 all_goals first|(have:=Array.sizeOf_lt_of_mem (show _∈_ from Zgp);omega)|omega
def G8:Option Obj->Array Value
 |some (.cells c _ _)=>c
 |_=> #[]
def GO(w:Z3)(vs:Ze):∃n,xz (xj w)<=n/\(∀v∈vs,FixV n v)/\∀(b:Nat) c e d,w.heap[b]?=J (.cells c e d)->Kd n (.cells c e d):=by
 let⟨n,f⟩:=KJ (l:=vs.toList++(w.heap.toList.flatMap λo=>(G8<|J o).toList)) λv _=>J5 v;refine⟨max n<|xz<|xj w,Z0,λv g=>(f v<|by simp[g]).mono Z0,λb c e d j ρ h=> ?_⟩;simp[XW];rw[SR (n:=max n<|xz<|xj w) (a:=c) (λv g=>(f v ?_).mono Z0) ρ h];grind [G8]
def yY{X:Cx}{w t b o v}(f:¬X.O b)(k:∀c e a,w.heap[b]?=J (.cells c e a)->X.G b)(g:xz (xj w)<=X.n0)(h:w.cell? ⟨b,o,U⟩=J v):(X.cq w t).cell? ⟨b,o,U⟩=J v:=by
 let⟨_,c,e,a,d,j⟩:=Kr h;have:(X.cq w t).heap[b]?=J (.cells c e (0,c.size)):=by
  rw[BO,Zhi<|Zhj ((Zhe.1 d).1) g,d];unfold Cx.iz;dsimp only;rw[Zhg f,Zhi Zgc]
 simp_all[World.cell?]
def AT{l}{i:Nat}{c}(h:(flat l)[i]?=J c):c∈flat l:=Zgc
def OG{X:Cx}{w t G}(y:∀b,¬X.O b)(D:∀b c e A,G b->w.heap[b]?=J (.cells c e A)->X.G b)(z:xz (xj w)<=X.n0){x v}(h:Rd w G x v)(d:NoM x):Rd (X.cq w t) G x v:=by
 induction h with
 |int k n=>exact .int k n
 |bool b=>exact .bool b
 |str s=>exact .str s
 |nil a cap h=>exact .nil a cap h
 |sl l b o cap k vs j r u C B _ p=>
  cases d with
  |sl _ d=>exact .sl l b o cap k vs j r u C (λi g=>yY (y b) Zgc z Zgd) λi c g=>Zgc
 |agg q vs j r _ p=>
  cases d with
  |agg _ d=>exact .agg q vs j r λi c g=>p i c g<|d c<|Zhh g
 |aq l vs j _ p=>
  cases d with
  |aq _ d=>exact .aq l vs j λi c g=>p i c g Zgc
 |ptr q b o vs u j B _ p=>
  cases d with
  |ptr _ d=>exact .ptr q b o vs u j (λi g=>yY (y b) Zgc z Zgd) λi c g=>Zgc
 |fn f=>exact .fn f
 |cy f q vs j _ p=>
  cases d with
  |cy _ _ d=>exact .cy f q vs j λi c g=>p i c g Zgc
 |im=>exact .im
 |io=>exact .io
 |mg=>cases d
 |mp=>cases d
def OF{X:Cx}{z w}(y:X.WR z w){D x v}(h:Rd z D x v)(d:NoM x):Rd w (λA=>∃b,D b/\A=X.ρ b) x<|Zu X.ρ v:=by
 induction h with
 |int k n=>rw[Wp];exact .int k n
 |bool b=>rw[Uk];exact .bool b
 |str s=>rw[Si];exact .str s
 |nil a cap h=>
  have:Zu X.ρ (.slice a 0 cap)=.slice (a.map<|ZW X.ρ) 0 cap:=by cases a<;>simp[Zu]
  rw[this];exact .nil _ cap h
 |sl l b o cap k vs j r t B u _ q=>
  cases d with
  |sl _ d=>
   have:Zu X.ρ (.slice (J ⟨b,o,U⟩) (I l) cap)=.slice (J ⟨X.ρ b,o,U⟩) (I l) cap:=by simp[Zu,ZW]
   rw[this];exact .sl l _ o cap k (λi=>Zu X.ρ _) j r ⟨b,t,rfl⟩ B (λi g=>(y.cell<|u i g).1) λi c g=>Zgc
 |agg p vs j r _ q=>
  cases d with
  |agg _ d=>
   rw[WF];exact .agg p _ Zgc r λi c g=>by grind [RZ,List.mem_of_getElem?]
 |aq l vs j _ q=>
  cases d with
  |aq _ d=>
   rw[Ul];exact .aq l _ Zgc λi c g=>by grind [RZ,List.mem_of_getElem?]
 |ptr p b o vs t j u _ q=>
  cases d with
  |ptr _ d=>
   rw[WM];exact .ptr p _ o (λi=>Zu X.ρ _) ⟨b,t,rfl⟩ j (λi g=>(y.cell<|u i g).1) λi c g=>Zgc
 |fn f=>
  have:Zu X.ρ (.func (.func f) #[] #[])=.func (.func f) #[] #[]:=by simp[Zu,Vj]
  rw[this];exact .fn f
 |cy f p vs j _ q=>
  cases d with
  |cy _ _ d=>
   have:Zu X.ρ (.func (.func f) #[] vs)=.func (.func f) #[] (vs.map<|Zu X.ρ):=by simp[Zu,Vj]
   rw[this];exact .cy f p _ Zgc λi c g=>by grind [RZ,List.mem_of_getElem?]
 |im=>rw[UG];exact .im
 |io=>rw[jg];exact .io
 |mg=>cases d
 |mp=>cases d
inductive Look {α:Type}:Sem α->Prop where
 |pure (a:α):Look<|.pure a
 |halt (h:Halt):Look<|.halt h
 |load {m:Mode} {a:Addr} {k:Value->Sem α}:(∀v,Look<|k v)->Look (.load m a k)
 |prog {k:Program->Sem α}:(∀p,Look<|k p)->Look (.program k)
def Look.world{α p}{s:Sem α}(h:Look s)w:Ye (s.run p w)=w:=by
 induction h with
 |pure a=>rfl
 |halt h=>rfl
 |load _ d=>
  unfold Sem.run;split;exact d _;split;exact d _;rfl
 |prog _ d=>exact d _
theorem Look.bind{α β s}{f:α->Sem β}(h:Look s)(g:∀a,Look<|f a):Look<|s>>=f:=by
 induction h with
 |pure a=>exact g a
 |halt h=>exact .halt h
 |load _ d=>exact .load d
 |prog _ d=>exact .prog d
def IK{α β:Type}{f:α->Sem β}(d:∀a,Look<|f a):∀l:List α,Look (l.mapM f)
 | []=>by simp[Zlq];exact .pure _
 |a::l=>by
  simp[Zki];exact(d a).bind λb=>(IK d l).bind λg=>.pure _
def BI{α:Type}(s:String):Look (stuck s:Sem α):=.halt _
def IL:Look program:=.prog λp=>.pure p
def Z62(t:Zh):Look<|typeInfo t:=IL.bind λp=>by split<;>first|exact .pure _|exact BI _
def Z65(t:Zh):Look<|underlying t:=IL.bind λp=>by split<;>first|exact .pure _|exact BI _
def Z64(t:Zh):Look<|sizeOf t:=(Z62 t).bind λi=>.pure _
def Z61(t:Zh):Look<|isAgg t:=(Z65 t).bind λd=>by cases d<;>exact .pure _
def IJ(a:Addr):∀(n i:Nat) (d:Ze),Look (loadCellsFrom a i n d)
 |0,_,_=>.pure _
 |n+1,i,d=>.load λv=>IJ a n _ _
def Z66(t:Zh)(a:Addr):Look<|loadVar t a:=(Z61 t).bind λb=>by
 cases b with
 |true=>exact(Z64 t).bind λn=>(IJ a n 0 #[]).bind λc=>.pure _
 |false=>exact .load λv=>.pure v
def IM(fn:Func)(d:Ze):Look<|results fn d:=by
 unfold results;rw[ZiH];refine Look.bind (s:=Functor.map _ _) ?_ λ_=>.pure _;rw[map_eq_pure_bind];refine(IK (λr=> ?_) _).bind λ_=>.pure _;cases r with
 |tmp t=>exact .pure _
 |cell a t=>
  refine Look.bind ?_ λa=>Z66 _ _;unfold asAddr;split;exact .pure _;exact .prog λp=>.halt _;exact BI _
def Z8m{P:Z5}{c:Nat}{K:Z4}{j:(Nat->Prop)->Goroutine->World->Prop}{n:Za}{es:List Ev}{O:Z4}{g:Zj}{w:Z3}(h:Play P xk c K j es O g w):
  es=[]->∀(r:Zf) (p:Z8) (a:Z3),g=G r p->(a.os,a.output)=(w.os,w.output)->a.tape=w.tape->xz (xj a)<=xz (xj w)->(∀b,b<xz (xj a)->w.heap[b]?=a.heap[b]?)->(∀b,O b->xz (xj a)<=b/\b<xz (xj w))->(∀b,K b->b<xz (xj a))->
  (∀O l k f,j O (G l k) f->(a.os,a.output)=(f.os,f.output)->a.tape=f.tape->xz (xj a)<=xz (xj f)->(∀b,b<xz (xj a)->f.heap[b]?=a.heap[b]?)->(∀b,O b->xz (xj a)<=b/\b<xz (xj f))->Walk P n l k f)->Walk P n r p w:=by
 induction h with
 | @stop O g w Y=>
   intro _ r p a z x S T W X _ A;subst z;exact A O r p w (Y w<|.refl _ _ _) x S T W X
 |ev=>intro t;cases t
 | @step es O R L w x _ Z=>
   intro t r p a z M N e3 Q D F A;injection z with q1 q2;subst q1 q2;refine .one λd=> ?_;have H:Rely K O w<|w.at d:=Rely.at _ _ _ d;obtain⟨l,k,f,q,k1,u⟩:=x (w.at d) H;have C:xz (xj w)<=xz (xj f):=u.sz;have B:∀b,Vd O (w.at d) f b->xz (xj a)<=b/\b<xz (xj f):=λb o=>by
    obtain o|o:=o;have:=D b o;omega;have:xz (xj w)<=b:=o.1;have:=o.2;omega
   refine⟨l,k,f,q,k1,C,λe t=> ?_,Z (w.at d) _ f q H k1 t l k a rfl (M.trans u.os.symm) (N.trans u.tape.symm) Z0 (λb o=> ?_) B F A⟩;have:=u.nf e t;unfold EvC at this;unfold EvB EvC;split<;>simp only[*]at this;obtain h|h:=this;exact .inl (B _ h).2;have:=F _ h.2;exact .inl Z0;exact(B _ this).2;exact this;trivial;have:=u.keep b (by show b<xz (xj w);omega) λy=>by have:=(D b y).1;omega
   rw[this];exact Q b o
structure Sub (P Q:Program):Prop where
 same:P= {Q with funcs:=P.funcs,globals:=P.globals}
 nu:Q.globals=#[]
 zero:∀t i z,Q.info? t=J i->i.zero=J z->FixV 0 z
 fn:∀(f:Zq) (fn:Func),Q.funcs[f]?=J fn->(fn.name= "?" /\fn.origin= "?" /\fn.body=U)\/((fn.name== "runtime.NumGoroutine")=xw/\P.funcs[f]?=J fn/\∃c,fn.body=J c/\X1 Q xw c=xk)
def TU(P Q:Z5)(n0:Nat)(G O:Z4):Cx:=
 {Q,fs:=P.funcs,gs:=P.globals,ρ:=id,n0,G,O
  KL:=λl=>X1 Q xk l.assign=xk/\X1 Q xk l.body=xk/\l.pending.all Jc=xk/\((∃fn c,Q.funcs[l.fn]?=J fn/\P.funcs[l.fn]?=J fn/\fn.body=J c/\X1 Q xw c=xk)\/(Q.funcs[l.fn]?=U/\P.funcs[l.fn]?=U)\/∃fn a,Q.funcs[l.fn]?=J fn/\P.funcs[l.fn]?=J a/\a.results=fn.results)
  KD:=λd=>Ue d=xk}
def Sub.ok{P Q:Z5}(h:Sub P Q)(n0:Nat)(G O:Z4)(ρ:Zl):((TU P Q n0 G O).at ρ).Ok:=
 ⟨λt i z a f=>h.zero t i z a f ρ λb g=>Z0,h.nu,λl=>Zj8,λd=>Zj8,h.fn⟩
def Sub.P{P Q:Z5}(h:Sub P Q)(n0:Nat)(G O:Z4):(TU P Q n0 G O).P=P:=h.same.symm
def Gp{P Q:Z5}(o:Sub P Q){f:Zq}{fn:Func}(l:Q.funcs[f]?=J fn)(q:fn.body≠U)(vs:Ze)(n0:Nat)(G O:Z4)(ρ:Zl):
  P.funcs[f]?=J fn/\Frame.enter Q f vs .normal=Frame.enter P f vs .normal/\((TU P Q n0 G O).at ρ).St (Frame.enter P f vs .normal) []:=by
 obtain⟨_,_,h⟩|⟨p,a,c,g,j⟩:=o.fn f fn l;simp_all;refine⟨a,by grind [Frame.enter],⟨⟨λi k=> ?_,λd r=> ?_,?_,?_⟩,λc n=>by simp at n,?_⟩⟩;simp[Frame.enter,a,g]at k;subst k;have:(Frame.enter P f vs .normal).roundOf.isSome=xw:=by simp[Frame.enter,a,g,Frame.roundOf]
 rw[this];exact j;simp_all[Frame.enter];simp_all[Frame.enter];left;exact⟨fn,c,l,a,g,j⟩;rfl
def Z3A{P:Z5}{f:Zq}{vs:Ze}{n:Nat}(h:∀v∈vs,FixV n v):Ez n<|Frame.enter P f vs .normal:=by
 intro ρ a;have d:(vs++Array.replicate (((P.funcs[f]?).map (·.ntmps)).getD 0-vs.size) xy).map (Zu ρ)=vs++Array.replicate (((P.funcs[f]?).map (·.ntmps)).getD 0-vs.size) xy:=by
  rw[Zjf,SR h ρ a];simp[Sj]
 simp_all[Frame.enter,Zy,YJ,Wo]
def Fh{X:Cx}{a w:Z3}(h:X.WR a w)(d:Nat):X.WR a<|w.at d:=⟨h.os,h.nl,h.H,h.inj,h.blk⟩
def IA{P Q:Z5}(hs:Sub P Q){f:Zq}{fr:Bool}{args:Zr}{r:V}(hv:VC Q f fr args r)(ha:∀x∈args,NoM x)(hr:NoM r):VC (YC P) f fr args r:=by
 obtain⟨hc,hv⟩:=hv;obtain⟨fn,hq,H,a8⟩:∃fn,Q.funcs[f]?=J fn/\fn.body≠U/\(fn.name== "runtime.NumGoroutine")=xw:=by
  unfold U5 at hc;grind
 have b7:=(Gp hs hq H #[] 0 (λ_=>False) (λ_=>False) id).1;refine⟨?_,λw G vs hG b1 a9 cs b3 hk=> ?_⟩;show U5 P f=xk;simp_all[U5,Zhb,Ziz];obtain⟨n0,T,a6,a5⟩:=GO w vs;let X:Cx:=TU P Q n0 (λb=>G b/\∃c e fr,w.heap[b]?=J (.cells c e fr)) (λ_=>False);have A:∀ρ,(X.at ρ).P=P:=λρ=>hs.same.symm;have a7:∀t,xz (xj<|X.cq w t)=n0:=λt=>by simp[Cx.cq,X,TU]
 have N:=λρ=>Gp hs hq H vs n0 (λb=>G b/\∃c e fr,w.heap[b]?=J (.cells c e fr)) (λ_=>False) ρ
 have hw:=Ee X (hs.ok n0 _ _) (c:=0) (es:=[]) (fr:=Frame.enter P f vs .normal) (cs:=[]) (ds:=cs) (main:=xk) (wc:=w) Z1 (λρ=>(N ρ).2.2)
  (λg S=>by
   rw[Zic.1 S];exact Z3A a6)
  (λb o ho hO=>by
   obtain hO|⟨_,c,e,fr,he⟩:=hO;exact hO.elim;rw[ho]at he;cases he;exact a5 b c e fr ho)
  (Post:=λwl l F q=>F=[]/\l.fn=f/\∃v,l.leaving Q q (.returned v)/\Rd q (λb=>(fr=xw/\G b)\/(xz (xj wl)<=b/\b<xz (xj q))) r v)
  (λt=>by
   obtain⟨e,u,l,⟨v,rfl,_,y⟩,⟨n,hn⟩,B,hl⟩:=hv (X.cq w t) G vs (λb H=>Zgc) b1
    (λi x hx=>OG (X:=X) (λb h=>h) (λb c e fr S hc=>⟨S,c,e,fr,hc⟩) T (a9 i x hx)<|ha x<|Zhh hx) [YS Q]
   rw[(N id).2.1]at hn;exact⟨n,l,[],u,hn,rfl,B,v,hl,y⟩)
 have hw:Play P xk 0 X.G _ [] X.O (Conc.G (Frame.enter P f vs .normal)<|[]++cs) w:=(A id)▸hw;refine Z8m hw rfl _ cs w rfl rfl rfl (Zhc _) (λ_ _=>rfl) (λb H=>H.elim) (λb H=>hG b H.1) λO l F u b0 e1 e2 e3 e4 e5=> ?_;obtain⟨ρ,t,a,b4,q,fc,cc,S,hid,⟨rfl,B,v,⟨h1,h2,h3,k,h4,h5⟩,y⟩,C⟩:=b0;injection S with Z q2;subst Z q2;have p:l=Zy ρ a:=C.bo;have W:F=cs:=C.under;subst W;have a4:l.fn=f:=by rw[p];exact B
 have R:k=fn:=by rw[B,hq]at h4;exact(ZiJ h4).symm
 subst R;refine hk l u a4 ⟨by rw[p];show Wo ρ a.mode=_;rw[h1];rfl,by rw[p];show a.defers.map _=_;grind,by rw[p];exact h3,k,Zgc,λd=> ?_⟩;have Y:(X.at ρ).WR q<|u.at d:=Fh C.wr d;have K:=IM k<|a.tmps.map<|Zu ρ;have L:Ye ((results k<|a.tmps.map<|Zu ρ).run P<|u.at d)=u.at d:=K.world _
 have z:=(Bh (X:=X.at ρ) (V:=[]) k a.tmps).run q (u.at d) #[] Y (λr hr=>by simp at hr)
  (λj hj=>by
   rw[A ρ]at hj;have e:(Ye<|(results k<|a.tmps.map<|Zu (X.at ρ).ρ).run P<|u.at d).drawn=(u.at d).drawn:=Zii World.drawn L;omega)
  (λj hj=>by
   rw[A ρ]at hj;have e:xz (xj<|Ye<|(results k<|a.tmps.map<|Zu (X.at ρ).ρ).run P<|u.at d)=xz (xj<|u.at d):=Zii (λw=>xz<|xj w) L;omega)
 have a1:(results k a.tmps).run (X.at ρ).Q q=.ok v q:=h5;rw[a1,A ρ]at z;obtain⟨b,a0,b5,he,a2,b6⟩:=z;have D:(results k<|a.tmps.map<|Zu ρ).run P (u.at d)=.ok b a0:=by
  have:=Zii Prod.fst he;rw[Zji]at this;exact this
 have b2:a0=u.at d:=by
  have:=L;rw[D]at this;exact this
 subst b2;have M:b=Zu ρ v:=a2;refine⟨b,by rw[p];exact D,b,rfl,⟨(Zii Prod.fst e1).symm,e2.symm,(Zii Prod.snd e1).symm,e3,e4⟩,?_⟩;rw[M];refine(OF Y y hr).mono λb' a3=> ?_;obtain⟨x,hx,rfl⟩:=a3;obtain⟨Z,q2⟩|⟨Z,q2⟩:=hx;left;have:(X.at ρ).ρ x=x:=hid x<|Zhj (hG x q2) T;grind;right;rw[a7]at Z;have:=e5 _<|C.own x (.inl Z) q2;exact this
end Vm
end
section
namespace Vm
open Go Go.Conc Go.ConcN
def Ow{P:Z5}:∀(k:Nat) {g:Zj},QuitsIn P k g->g.LeavesIn P k
 |0,g,h=>h
 |k+1,g,h=>by
  obtain h|⟨d,a,f,j⟩:=h;exact .inl h;exact .inr ⟨a,⟨d, #[],λe l=>by simp at l,f⟩,Ow k j⟩
def Ov{P:Z5}(w:Z3):∀(k:Nat) {g:Zj},QuitsIn P k g->g.endsWith P w k 0=J 0
 |0,g,h=>by
  have h:g.status=.finished:=h;unfold Goroutine.endsWith;rw[h]
 |k+1,g,h=>by
  unfold Goroutine.endsWith;obtain h|⟨a,j,d,f⟩:=h;rw[h];rw[a,d w];exact Ov w k f
def TBt.vd{sz:Nat}{t:Trace}(h:TBt sz t):t.HandedOver:=by
 intro i g p f o;obtain⟨x,r,q,_⟩:=o;obtain⟨op,k,l⟩:=touch_of r;obtain⟨j,y,u,n,d⟩:=h.iy i op x k l q;have a:t.g? j=J 0:=by simp[Trace.g?,u,n]
 refine⟨j,a,?_⟩;obtain rfl|d:=d;rw[p]at a;exact absurd (ZiJ a) f;exact d
def ZaK{P:Z5}{fr:Zf}{w:Z3}{fn:Func}{v:Zg}(a:fr.mode=.returning)(h2:fr.defers=[])(d:fr.kind=.normal)(f:P.funcs[fr.fn]?=J fn)(g:(results fn fr.tmps).run P w=.ok v w)(h:P.inits.idxOf? fr.fn=U):
  stepG P xk (G fr []) w=.ended (.done v) w (seen P fr.fn<|(results fn fr.tmps).events P w #[]):=by
 simp[G,stepG,unwind,doReturn,a,h2,d,f,g,h,GStep.after]
def EndsW(P:Z5)(Post:Zs)(gs:Zd)(w:Z3)(sl:Option<|Nat×Nat)(t:Trace):Prop:=
 ∃N last d o f a,runNT P N (crowd gs w sl) t=(.next last,d)/\stepT P last=(.ended o f,a)/\Good P Post last o f (d++a)
def EndsW.step{P:Z5}{Post:Zs}{gs a:Zd}{w w1:Z3}{sl f:Option (Nat×Nat)}{t:Trace}{ops:Array MemOp}(h:stepT P (crowd gs w sl)=(.next<|crowd a w1 f,ops))(k:EndsW P Post a w1 f<|t++ops):EndsW P Post gs w sl t:=by
 obtain⟨N,last,l,o,n,d,g,j⟩:=k;exact⟨N+1,last,l,o,n,d,by simp only[runNT,h];exact g,j⟩
def Z3z{P:Z5}{Post:Zs}{fr:Zf}{gs:Zd}{w:Z3}{sl:Option (Nat×Nat)}{t:Trace}{q:Zl}(C:P.inits.idxOf? fr.fn=U)(hl:YO P gs.size gs q)(y:gs[0]?=J (G fr []))(ht:TBt (xz<|xj w) t)(X:Leaves P fr w Post):EndsW P Post gs w sl t:=by
 have h:∀(a:Zd) g,a[a.size]? ≠J g:=λa g e=>by
  have:=(Zhe.1 e).1;omega
 obtain⟨Q,R,S,fn,T,W⟩:=X;refine PB (Wn:=EndsW P Post) EndsW.step hl (λi g C k=> ?_) ⟨0,_,.inl rfl,y,rfl⟩ λa L u d K q' i g H r l o D f N=> ?_;obtain rfl|rfl:=C;rw[y]at k;cases k;exact⟨awake_of<|.inl rfl,λg1 g2 d=>woken_run rfl⟩;exact absurd k<|h gs g;obtain rfl|rfl:=D;have z:a[0]?=J (G fr []):=by rw[l 0<|.inl rfl];exact y
 obtain⟨v,O,hp⟩:=W d;have A:=runT_crowd_ended (P:=P) (sl:=K) (i:=0) z<|ZaK Q R S T O C;have B:EvsB (xz<|xj<|w.at d)<|seen P fr.fn<|(results fn fr.tmps).events P (w.at d) #[]:=λe A=>by
  have:=Ky (P:=P) (G1 fn fr.tmps) (w.at d) e<|mem_seen A;rw[O]at this;exact this
 have n:TBt (xz<|xj<|w.at d)<|t++MemOp.ofEvents 0 fr.fn (G fr []).frame.place (seen P fr.fn<|(results fn fr.tmps).events P (w.at d) #[]):=ht.main (Zhc _) B;refine⟨0,crowd a (w.at L) u,t,.done v,w.at d,_,rfl,H.trans A,v,rfl,hp,n.gi,n.vd,⟨λg k=> ?_,rfl⟩,λi g f Y=> ?_⟩;have k:g∈a.toList.drop 1:=k;obtain⟨j,Z,rfl⟩:=List.mem_iff_getElem.1 k;have F:j< I (a.toList.drop 1):=Z;simp only[Zjg,Zjy]at F;have e:(a.toList.drop 1)[j]=a[j+1]'Z0:=by simp[Zkl]
 rw[e];have:=o (j+1) (a[j+1]'Z0) Z0 Z0<|Zi1 Z0;exact⟨_,Ow _ this⟩;have p:=(Zhe.1 f).1;have p:i<a.size:=p;have:=o i g Z0 Z0 f;refine⟨q' i,?_⟩;have x:=n.du i;have x:Trace.deaf _ i _=0:=x;have M:=Ov (crowd a (w.at L) u).world _ this;rw[<-x]at M;exact M.trans<|Zii J x;rw[<-r]at f;exact absurd f<|h a g
def Z4d{P:Z5}{f:Zq}{args:Ze}{W:Z3}{Post:Zs}(z:P.inits.idxOf? f=U)(h:Ap P f args W λe k=>∃v,e=.returned v/\Post v k):
  ∃M last o k L,runNT P (M+1) (solo (G (Frame.enter P f args .normal) []) W) #[]=(.ended o k,L)/\runN P M (solo (G (Frame.enter P f args .normal) []) W)=.next last/\step P last=.ended o k/\Good P Post last o k L:=by
 have hw:Walk P (λl C w=>C=[]/\l.fn=f/\Leaves P l w Post) (Frame.enter P f args .normal) [] W:=h [] _ λl k y ⟨D,r,u,fn,S,T⟩=>.stop λd=>⟨rfl,y,D,r,u,fn,S,λQ=>by
  obtain⟨v,hv,v',e,hp⟩:=T Q;cases e;exact⟨v,hv,hp⟩⟩
 have n:=hw W.drawn #[G (Frame.enter P f args .normal) []] U #[] (λ_=>0) (λi g D r u=>by
   have:=(Zhe.1 u).1;simp at this r;omega) rfl ⟨λsaid=> ?_,λi=>rfl,λop A=>by simp at A,λi op x z=>by simp at z⟩
 obtain⟨N,gs,w,sl,t,hr,l,C,q,R,⟨rfl,rfl,X⟩,Z,ht⟩:=n;obtain⟨p,last,O,o,k,B,k1,F,k3⟩:=Z3z (sl:=sl) z Z R ht X;have H:runNT P (N+p) (solo (G (Frame.enter P l.fn args .normal) []) W) #[]=(.next last,O):=jo N hr k1;refine⟨N+p,last,o,k,O++B,?_,?_,?_,k3⟩;refine jo (K:=1) (N+p) H ?_;simp only[runNT,F];rw[<-runNT_fst _ _ _ #[],H];rw[<-stepT_fst,F];rintro⟨i,j,_,⟨a,b,Y,_⟩,_⟩;simp[Trace.act?]at Y
end Vm
end
section
namespace Vm
open Go Go.Conc
def Cl(v:Zg):Prop:=∀ρ,Zu ρ v=v
def Cl.fix{v:Zg}(h:Cl v):FixV 0 v:=λρ _=>h ρ
theorem Aw{cs:Ze}(h:∀v∈cs,Cl v):Cl<|.agg cs:=λρ=>by rw[WF,Qd λx a=>h x a ρ]
def G9{v:Zg}(h:Cl v):∀x∈v.cells,Cl x:=by
 cases v with
 |agg d=>
  intro x a ρ;have:=h ρ;rw[WF]at this;injection this with this;obtain⟨i,f⟩:=Array.getElem?_of_mem (show x∈d from a);grind
 |_=>intro x a;have:x=_:=(by simpa[Value.cells]using a);rw[this];exact h
def GZ{α β:Type}{Q:β->Prop}{f:α->β->Option (ForInStep β)}(g:∀a b s,Q b->f a b=J s->match s with|.done b=>Q b|.yield b=>Q b):∀(l:List α) (b d:β),Q b->forIn l b f=J d->Q d
 | [],b,d,h,e=>by
   simp_all
 |a::l,b,d,h,e=>by
  rw[List.forIn_cons]at e;obtain⟨s,j,e⟩:=Zh6.1 e;have:=g a b s h j;cases s with
  |done c=>simp_all
  |yield c=>exact GZ g l c d this e
def To(i:TypeInfo):Prop:=∀z,i.zero=J z->Cl z
def ZbQ{info:TypeId->Option TypeInfo}(l:∀t i,info t=J i->To i){fs:Array Field}{i:TypeInfo}(h:Made.reckonStruct info fs=J i):To i:=by
 unfold Made.reckonStruct at h;dsimp only at h;rw[<-Array.forIn_toList]at h;obtain⟨r,o,h⟩:=Zh6.1 h
 have u:=GZ (Q:=λr=>∀g,r.2.2.2.2.2.2.2.1=J g->∀v∈g,Cl v) (λa b s n d=>by
  obtain⟨i,q,d⟩:=Zh6.1 d;have fin:∀g,(if b.2.1+i.size>Made.mostCells then U else do pure ((<-b.2.2.2.2.2.2.2.1)++(<-i.zero).cells):Option<|Array Value)=J g->∀v∈g,Cl v:=λg f=>by
   split at f;cases f;obtain⟨w,p,f⟩:=Zh6.1 f;obtain⟨x,k,f⟩:=Zh6.1 f;cases f;intro v j;obtain j|j:=ZiK.1 j;exact n w p v j;exact G9 (l _ i q x k) v j
  clear n l o h
  revert fin
  generalize (if b.2.1+i.size>Made.mostCells then U else do pure ((<-b.2.2.2.2.2.2.2.1)++(<-i.zero).cells):Option<|Array Value)=Z at d⊢;intro fin;split at d;cases d;split at d;cases d;split at d;obtain⟨tag,_,d⟩:=Zh6.1 d;split at d;cases d;exact fin;cases d;exact fin;obtain⟨tag,_,d⟩:=Zh6.1 d;split at d;cases d;exact fin;cases d;exact fin) _ _ _ (λg f=>by cases f;intro v j;simp at j) o
 have key:∀ {z:Zg},r.2.2.2.2.2.2.2.1.map Value.agg=J z->Cl z:=λf=>by
  obtain⟨g,k,rfl⟩:=Zha.1 f;exact Aw<|u g k
 split at h;cases h;exactλz f=>key f;cases h;exactλz f=>key f
def zu{d:TypeDesc}{s:String}{v:Zg}{b:Bool}{n:Nat}(h:Cl v):To<|Made.word d s v b n:=λz a=>by
 cases a;exact h
def ZbP{info:TypeId->Option TypeInfo}(l:∀t i,info t=J i->To i){d:TypeDesc}{i:TypeInfo}(h:Made.reckon info d=J i):To i:=by
 cases d with
 |struct r=>exact ZbQ l h
 |pointer e=>
  obtain⟨x,f,h⟩:=Zh6.1 h;have w:∀ {s},(do pure (Made.word (.pointer e) ("*" ++(<-s)) (.pointer U) xk):Option TypeInfo)=J i->To i:=λh=>by
   obtain⟨y,_,h⟩:=Zh6.1 h;cases h;exact zu λρ=>UG ρ
  grind
 |slice e=>
  obtain⟨x,f,h⟩:=Zh6.1 h;obtain⟨y,_,h⟩:=Zh6.1 h;cases h;exact zu λρ=>Zh4
 |map k e=>
  obtain⟨x,f,h⟩:=Zh6.1 h;obtain⟨y,_,h⟩:=Zh6.1 h;obtain⟨B,_,h⟩:=Zh6.1 h;obtain⟨C,_,h⟩:=Zh6.1 h;cases h;exact zu λρ=>Zh4
 |chan d e=>
  obtain⟨x,f,h⟩:=Zh6.1 h;obtain⟨y,_,h⟩:=Zh6.1 h;cases h;exact zu λρ=>Zh4
 |func u A v=>
  obtain⟨x,f,h⟩:=Zh6.1 h;cases h;exact zu λρ=>jg ρ
 |array n e=>
  obtain⟨x,f,h⟩:=Zh6.1 h;obtain⟨y,_,h⟩:=Zh6.1 h;cases h;intro z g;dsimp only at g;split at g;cases g;split at g;grind [Aw];obtain⟨q,o,rfl⟩:=Zha.1 g;refine Aw λv j=> ?_;obtain⟨a,p,j⟩:=Array.mem_flatten.1 j;rw[(Array.mem_replicate.1 p).2]at j;exact G9 (l e x f q o) v j
 |_=>cases h
theorem Z0w{T:Tables}(a:∀(t:Zh) (i:TypeInfo),T.types[t]?=J i->To i):∀(n:Nat) (t:Zh) (i:TypeInfo),Made.infoAt T n t=J i->To i
 |0,t,i,h=>Zgt
 |n+1,t,i,h=>by
  unfold Made.infoAt at h;split at h;exact a t i h;obtain⟨d,_,h⟩:=Zh6.1 h;exact ZbP (λt i h=>Z0w a n t i h) h
def Z0u(l:List TypeInfo):Bool:=l.all λi=>match i.zero with|some z=>still 9 z|none=>xk
def ZbO{P:Z5}(h:Z0u P.types.toList=xk){t:Zh}{i:TypeInfo}(a:P.info? t=J i):To i:=by
 have d:∀(t:Zh) (i:TypeInfo),P.types[t]?=J i->To i:=λt i f z g ρ=>by
  have:=Zhn.1 h i Zgc;grind [LR]
 have a:(if t<P.types.size then P.types[t]? else Made.infoAt P.toTables Made.depth t)=J i:=a;grind [Z0w]
def OJ(fn:Func):Func:= {fn with name:= "?",origin:= "?",body:=U}
def WY(P:Z5)(l:Zb):Program:= {P with globals:=#[],funcs:=P.funcs.mapIdx λi fn=>if l.contains i then OJ fn else fn}
def Zaw{P:Z5}{l:Zb}{f:Nat}{fn:Func}(h:P.funcs[f]?=J fn)(a:l.contains f=xw):(WY P l).funcs[f]?=J fn:=by
 simp_all[WY,Zkj,ZhA,Zhu,Zif]
def qz(Q:Z5)(l:Zb):List Func->Nat->Bool
 | [],_=>xk
 |fn::a,i=>(l.contains i||(!(fn.name== "runtime.NumGoroutine")&&(match fn.body with|some c=>X1 Q xw c|none=>xw)))&&qz Q l a (i+1)
def MI{Q:Z5}{l:Zb}:∀ {a:List Func} {i j:Nat} {fn:Func},qz Q l a i=xk->a[j]?=J fn->l.contains (i+j)=xk\/((fn.name== "runtime.NumGoroutine")=xw/\∃c,fn.body=J c/\X1 Q xw c=xk)
 | [],i,j,fn,_,h=>ZgN
 |g::a,i,j,fn,d,h=>by
  simp only[qz,Zhb,Zhr,Ziz]at d;obtain⟨k,f⟩:=d;cases j with
  |zero=>
   grind
  |succ j=>
   rw[Zk3]at h;have:=MI f h;grind
def ZaB{P:Z5}{l:Zb}(o:Z0u P.types.toList=xk)(n:qz (WY P l) l P.funcs.toList 0=xk):Sub P<|WY P l:=by
 refine⟨rfl,rfl,λt i z a d=>Cl.fix<|ZbO (P:=WY P l) o a z d,λf fn j=> ?_⟩;simp only[WY,Zkj]at j;obtain⟨g,p,rfl⟩:=Zha.1 j;by_cases k:l.contains f=xk;rw[Zhi k];exact .inl ⟨rfl,rfl,rfl⟩;rw[Zhg k];obtain h|⟨a,d⟩:=MI n (Zgc:P.funcs.toList[f]?=J g);simp_all;simp_all
end Vm
end
section
namespace Vm
open Go Go.Proofs
def jI(P:Z5)(l:Zb)(t:Zh):(WY P l).underlying t=P.underlying t:=Cx.dc {Q:=P,fs:=(WY P l).funcs,gs:=#[],ρ:=id,n0:=0,G:=λ_=>False,O:=λ_=>False,KL:=λ_=>False,KD:=λ_=>False} t
def Zax(P:Z5)(l:Zb)(t:Zh):(WY P l).info? t=P.info? t:=Cx.dx {Q:=P,fs:=(WY P l).funcs,gs:=#[],ρ:=id,n0:=0,G:=λ_=>False,O:=λ_=>False,KL:=λ_=>False,KD:=λ_=>False} t
def PH(P:Z5)(l:Zb)(t:Zh)(w:Z3):(typeInfo t).run (WY P l) w=(typeInfo t).run P w:=by
 unfold typeInfo;simp only[ZhV,Zjo,ZhU,Zax];cases P.info? t<;>simp only[stuck,ZjV,Sem.run]
def PI(P:Z5)(l:Zb)(t:Zh)(w:Z3):(underlying t).run (WY P l) w=(underlying t).run P w:=by
 unfold underlying;simp only[ZhV,Zjo,ZhU,jI];cases P.underlying t<;>simp only[stuck,ZjV,Sem.run]
def Zaz(P:Z5)(l:Zb)(t:Zh)(w:Z3):(Go.sizeOf t).run (WY P l) w=(Go.sizeOf t).run P w:=by
 unfold Go.sizeOf;simp only[ZhV,PH];cases(typeInfo t).run P w<;>simp only[Result.andThen,ZjV]
def Zay(P:Z5)(l:Zb)(t:Zh)(w:Z3):(isAgg t).run (WY P l) w=(isAgg t).run P w:=by
 unfold isAgg;simp only[ZhV,PI];cases(underlying t).run P w with
 |ok d w'=>cases d<;>simp only[ZhU,ZjV]
 |halt h w'=>simp only[Result.andThen]
def Pe(P:Z5)(t:Zh)(w:Z3):(zeroValue t).run P w=((typeInfo t).run P w).andThen λi w'=>match i.zero with|some v=>.ok v w'|none=>.halt (.unsupported (.resourceLimit "a value of more than 2^22 cells")) w':=by
 unfold zeroValue;rw[ZhV];refine Zii _ (funext λi=>funext λw'=> ?_);cases i.zero with
 |none=>rfl
 |some v=>rfl
def ZaA(P:Z5)(l:Zb)(t:Zh)(w:Z3):(zeroValue t).run (WY P l) w=(zeroValue t).run P w:=by
 rw[Pe,Pe,PH]
def Zav{P:Z5}{f:Zq}{fn:Func}(h:P.funcs[f]?=J fn)(hb:fn.body.isNone=xw)(hn:(fn.name== "runtime.NumGoroutine")=xw)(args:Ze)(w:Z3):(callFunc f args).run P w=.ok (.enter f args) w:=by
 unfold callFunc;simp only[ZhV,Zjo,ZhU,h,hb,hn,Zhu,Zif];rfl
def zI:List Nat:=[0,1,3,8,105,106,107,108,109,110,111,112,113,114,115,116,117,118,119,120]
noncomputable def xP:Program:=WY Tryz.prog zI
def ZH{f:Nat}{fn:Func}(h:Tryz.prog.funcs[f]?=J fn)(e:zI.contains f=xw):xP.funcs[f]?=J fn:=Zaw h e
def Xh{f:Zq}{fn:Func}(h:xP.funcs[f]?=J fn)(b:fn.body.isNone=xw)(n:(fn.name== "runtime.NumGoroutine")=xw):∀(args:Ze) (w:Z3),(callFunc f args).run xP w=.ok (.enter f args) w:=Zav h b n
@[simp]theorem Zco(t:Zh):xP.underlying t=Tryz.prog.underlying t:=jI _ _ t
@[simp]theorem Zcm(t:Zh)(w:Z3):(underlying t).run xP w=(underlying t).run Tryz.prog w:=PI _ _ t w
@[simp]theorem Zcl(t:Zh)(w:Z3):(Go.sizeOf t).run xP w=(Go.sizeOf t).run Tryz.prog w:=Zaz _ _ t w
@[simp]theorem Zck(t:Zh)(w:Z3):(isAgg t).run xP w=(isAgg t).run Tryz.prog w:=Zay _ _ t w
@[simp]theorem Zcn(t:Zh)(w:Z3):(zeroValue t).run xP w=(zeroValue t).run Tryz.prog w:=ZaA _ _ t w
@[simp]def Z1u:=ZH Tryz.func4 rfl
@[simp]def Z1E:=ZH Tryz.func5 rfl
@[simp]def Z1P:=ZH Tryz.func6 rfl
@[simp]def RE:=ZH Tryz.func7 rfl
@[simp]def ES:=ZH Tryz.func10 rfl
@[simp]def ZbR:=Xh ES rfl rfl
@[simp]def Z1c:=ZH Tryz.func11 rfl
@[simp]def EV:=ZH Tryz.func12 rfl
@[simp]def ZbW:=Xh EV rfl rfl
@[simp]def Z1d:=ZH Tryz.func13 rfl
@[simp]def Z1e:=ZH Tryz.func14 rfl
@[simp]def Z1f:=ZH Tryz.func15 rfl
@[simp]def Z1g:=ZH Tryz.func16 rfl
@[simp]def Z1h:=ZH Tryz.func17 rfl
@[simp]def EW:=ZH Tryz.func18 rfl
@[simp]def ZbX:=Xh EW rfl rfl
@[simp]def EX:=ZH Tryz.func19 rfl
@[simp]def ZbY:=Xh EX rfl rfl
@[simp]def A2:=ZH Tryz.func20 rfl
@[simp]def ZbZ:=Xh A2 rfl rfl
@[simp]def EY:=ZH Tryz.func21 rfl
@[simp]def Zc0:=Xh EY rfl rfl
@[simp]def Z1i:=ZH Tryz.func22 rfl
@[simp]def Z1j:=ZH Tryz.func23 rfl
@[simp]def EZ:=ZH Tryz.func24 rfl
@[simp]def Zc1:=Xh EZ rfl rfl
@[simp]def Z1k:=ZH Tryz.func25 rfl
@[simp]def Z1l:=ZH Tryz.func26 rfl
@[simp]def Z1m:=ZH Tryz.func27 rfl
@[simp]def Z1n:=ZH Tryz.func28 rfl
@[simp]def Z1o:=ZH Tryz.func30 rfl
@[simp]def Z1p:=ZH Tryz.func31 rfl
@[simp]def Z1q:=ZH Tryz.func32 rfl
@[simp]def F0:=ZH Tryz.func33 rfl
@[simp]def Zc2:=Xh F0 rfl rfl
@[simp]def F1:=ZH Tryz.func34 rfl
@[simp]def Zc3:=Xh F1 rfl rfl
@[simp]def F2:=ZH Tryz.func35 rfl
@[simp]def Zc4:=Xh F2 rfl rfl
@[simp]def F3:=ZH Tryz.func36 rfl
@[simp]def Zc5:=Xh F3 rfl rfl
@[simp]def Z1r:=ZH Tryz.func37 rfl
@[simp]def Z1s:=ZH Tryz.func38 rfl
@[simp]def Z1t:=ZH Tryz.func39 rfl
@[simp]def Z1v:=ZH Tryz.func40 rfl
@[simp]def Z1w:=ZH Tryz.func41 rfl
@[simp]def Z1x:=ZH Tryz.func42 rfl
@[simp]def Z1y:=ZH Tryz.func43 rfl
@[simp]def F4:=ZH Tryz.func44 rfl
@[simp]def Zc6:=Xh F4 rfl rfl
@[simp]def Z1z:=ZH Tryz.func45 rfl
@[simp]def Z1A:=ZH Tryz.func46 rfl
@[simp]def Z1B:=ZH Tryz.func47 rfl
@[simp]def Z1C:=ZH Tryz.func48 rfl
@[simp]def Z1D:=ZH Tryz.func49 rfl
@[simp]def Z1F:=ZH Tryz.func50 rfl
@[simp]def Z1G:=ZH Tryz.func51 rfl
@[simp]def Z1H:=ZH Tryz.func52 rfl
@[simp]def Z1I:=ZH Tryz.func53 rfl
@[simp]def Z1J:=ZH Tryz.func54 rfl
@[simp]def Z1K:=ZH Tryz.func55 rfl
@[simp]def Z1L:=ZH Tryz.func56 rfl
@[simp]def Z1M:=ZH Tryz.func57 rfl
@[simp]def Z1N:=ZH Tryz.func58 rfl
@[simp]def Z1O:=ZH Tryz.func59 rfl
@[simp]def Z1Q:=ZH Tryz.func60 rfl
@[simp]def Z1R:=ZH Tryz.func61 rfl
@[simp]def F5:=ZH Tryz.func62 rfl
@[simp]def Zc7:=Xh F5 rfl rfl
@[simp]def A3:=ZH Tryz.func63 rfl
@[simp]def Zc8:=Xh A3 rfl rfl
@[simp]def F6:=ZH Tryz.func64 rfl
@[simp]def Zc9:=Xh F6 rfl rfl
@[simp]def F7:=ZH Tryz.func65 rfl
@[simp]def Zca:=Xh F7 rfl rfl
@[simp]def Z1S:=ZH Tryz.func66 rfl
@[simp]def Z1T:=ZH Tryz.func67 rfl
@[simp]def Z1U:=ZH Tryz.func68 rfl
@[simp]def Z1V:=ZH Tryz.func69 rfl
@[simp]def Z1W:=ZH Tryz.func70 rfl
@[simp]def Z1X:=ZH Tryz.func71 rfl
@[simp]def Z1Y:=ZH Tryz.func72 rfl
@[simp]def Z1Z:=ZH Tryz.func73 rfl
@[simp]def Z20:=ZH Tryz.func74 rfl
@[simp]def Z21:=ZH Tryz.func75 rfl
@[simp]def Z22:=ZH Tryz.func76 rfl
@[simp]def F8:=ZH Tryz.func77 rfl
@[simp]def Z23:=ZH Tryz.func78 rfl
@[simp]def A4:=ZH Tryz.func79 rfl
@[simp]def Zcb:=Xh A4 rfl rfl
@[simp]def A5:=ZH Tryz.func80 rfl
@[simp]def Zcc:=Xh A5 rfl rfl
@[simp]def F9:=ZH Tryz.func81 rfl
@[simp]def Zcd:=Xh F9 rfl rfl
@[simp]def Fa:=ZH Tryz.func82 rfl
@[simp]def Zce:=Xh Fa rfl rfl
@[simp]def Fb:=ZH Tryz.func83 rfl
@[simp]def Zcf:=Xh Fb rfl rfl
@[simp]def Fc:=ZH Tryz.func84 rfl
@[simp]def Z24:=ZH Tryz.func85 rfl
@[simp]def Z25:=ZH Tryz.func86 rfl
@[simp]def Z26:=ZH Tryz.func87 rfl
@[simp]def Z27:=ZH Tryz.func88 rfl
@[simp]def Z28:=ZH Tryz.func89 rfl
@[simp]def Z29:=ZH Tryz.func90 rfl
@[simp]def Z2a:=ZH Tryz.func91 rfl
@[simp]def Z2b:=ZH Tryz.func92 rfl
@[simp]def Z2c:=ZH Tryz.func93 rfl
@[simp]def Z2d:=ZH Tryz.func94 rfl
@[simp]def Z2e:=ZH Tryz.func95 rfl
@[simp]def Fd:=ZH Tryz.func96 rfl
@[simp]def Zcg:=Xh Fd rfl rfl
@[simp]def Fe:=ZH Tryz.func97 rfl
@[simp]def Zch:=Xh Fe rfl rfl
@[simp]def Ki:=ZH Tryz.func98 rfl
@[simp]def Zci:=Xh Ki rfl rfl
@[simp]def A6:=ZH Tryz.func99 rfl
@[simp]def Zcj:=Xh A6 rfl rfl
@[simp]def A1:=ZH Tryz.func100 rfl
@[simp]def ZbS:=Xh A1 rfl rfl
@[simp]def ET:=ZH Tryz.func101 rfl
@[simp]def RD:=ZH Tryz.func102 rfl
@[simp]def ZbT:=Xh RD rfl rfl
@[simp]def zH:=ZH Tryz.func103 rfl
@[simp]def ZbU:=Xh zH rfl rfl
@[simp]def EU:=ZH Tryz.func104 rfl
@[simp]def ZbV:=Xh EU rfl rfl
def Z2f:=(jI Tryz.prog zI 3).trans Tryz.underlying3
def QM:=(jI Tryz.prog zI 28).trans Tryz.underlying28
def QL:Sub Tryz.prog xP:=ZaB Z2 Z2
end Vm
end
