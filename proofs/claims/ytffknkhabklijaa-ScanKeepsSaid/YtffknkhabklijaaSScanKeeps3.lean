import Derived.Conc.CrowdStepC
import Derived.Listen
import Derived.Test.YtffknkhabklijaaSScanKeeps2
set_option linter.unusedSimpArgs false
set_option linter.unusedVariables false
set_option linter.defProp false
open Option renaming some→xk,none→xw
open Bool renaming true→xy,false→xh
open List renaming length→P
open Array renaming size→U
open Go.World renaming heap→R
open List renaming length→xq
open Array renaming size→xz
open Go.World renaming heap→xj
theorem Zdw{p:Prop}(h:p:=by grind [maxLen]):p:=h
theorem Zdd{p:Prop}(h:p:=by simp_all[eval,Option.bind_eq_some_iff]):p:=h
theorem Zdb{p:Prop}(h:p:=by rw[List.getElem?_map,List.getElem?_eq_getElem n];rfl):p:=h
theorem Zdg{p:Prop}(h:p:=by rw[←a0];exact(List.getElem?_eq_some_iff.1 Q).1):p:=h
theorem Zdo{p:Prop}(h:p:=by simp only[eval];rw[h u (by simp[E.asks])]):p:=h
theorem ZcN{p:Prop}(h:p:=by simp only[eval];rw[Y6 a fun j p=>h j (by simp[E.asks,p]),Y6 b fun j p=>h j (by simp[E.asks,p])]):p:=h
theorem ZcO{p:Prop}(h:p:=by simp only[eval];rw[Y6 a fun j p=>h j (by simp[E.asks,p])]):p:=h
theorem ZcR{p:Prop}(h:p:=by simp only[eval];rw[Y6 a fun j p=>h j (by simp[E.asks,p]),Y6 b fun j p=>h j (by simp[E.asks,p]),Y6 d fun j p=>h j (by simp[E.asks,p])]):p:=h
theorem Zd2{p:Prop}(h:p:=by simp only[eval];rw[Su l fun j p=>h j (by simp[E.asks,p])]):p:=h
theorem Zdu{p:Prop}(h:p:=by cases b<;>simp[V.same]at h):p:=h
theorem Zdv{p:Prop}(h:p:=by simp_all[Xz,Bool.true_or]):p:=h
theorem Zd4{p:Prop}(h:p:=by simp_all[Xz,UY,Bool.or_true]):p:=h
theorem Zd9{p:Prop}(h:p:=by simp_all[Xz,UY,Bool.true_or,Bool.or_true]):p:=h
def ZhP:=@Nat.div_lt_iff_lt_mul
def Zh0:=@Nat.mod_lt
def Zgo:=@List.isEmpty_iff
def Zfm:=@List.map_nil
def Zhl:=@Nat.mul_le_mul
def ZhN:=@List.length_replicate
def Zho:=@List.eq_of_mem_replicate
def Zhj:=@List.exists_mem_of_ne_nil
def ZdN:=@Go.RowKit.Below.heap_alloc
def ZeA:=@List.nil_append
def ZhY:=@Go.growslice_fits
def Zf7:=@Go.World.ownsRow_nil
def Zf0:=@Array.toList_inj
def Zh6:=@Go.MapKept.sameNow_of_keys
def Zhd:=@Go.MapKept.run_checkKey
def Zh5:=@Go.MapKept.run_findKey
def Zfs:=@Go.MapKept.run_getObj_map
def Zgz:=@List.mem_filterMap
def Zge:=@List.map_map
def Zfj:=@List.not_mem_nil
def Zh1:=@bne_iff_ne
def Zg2:=@Array.length_toList
def ZfD:=@Go.setRow_other
def Zi0:=@Go.setRow_heap
def Zfl:=@List.length_singleton
def ZeJ:=@List.getElem?_eq_none
def Zfh:=@List.mem_or_eq_of_mem_set
def Zfe:=@List.getElem?_set_self
def ZeS:=@List.getElem?_set_ne
def Zgi:=@Bool.not_eq_false
def Zha:=@beq_eq_false_iff_ne
def ZfM:=@List.length_drop
def ZgF:=@Go.MapKept.run_setObj_map
def Zep:=@Array.getElem?_modify
def Zfq:=@List.any_eq_true
def Zhn:=@Go.Calls.mono
def ZhD:=@List.reverse_singleton
def ZgR:=@List.singleton_append
def ZhE:=@Option.map_eq_none_iff
def Zfu:=@List.filterMap_cons
def Zhk:=@List.getElem?_zip_eq_some
def ZfX:=@List.getElem?_zipIdx
def ZfJ:=@Array.getElem?_append_left
def Zh2:=@Array.getElem?_append_right
def Zfo:=@List.getElem?_cons_zero
def Zgj:=@Bool.true_and
def ZhZ:=@List.take_zero
def ZgQ:=@List.mem_iff_getElem?
def Zgy:=@List.mem_filter
def ZhM:=@List.length_filter_le
def ZfN:=@List.mem_flatMap
def ZeV:=@List.mem_append_left
def Zhm:=@Option.isNone_iff_eq_none
def Zgc:=@Go.Frame.finish_at
def Zgp:=@Nat.lt_succ_self
def ZhQ:=@Nat.le_max_left
def ZfA:=@Iff.rfl
def ZgP:=@Array.getElem?_mapIdx
def Zgw:=@List.getElem?_cons_succ
section
namespace Vm
open Go
open Go.RowKit (Below)
theorem jm{k:Nat}{l:List V}(d:∀x∈l,x.fits k)(r:0<k){i:Nat}{c:V}(n:(flat l)[i]?=xk c):∃q j z,l[q]?=xk z/\j<k/\i=q*k+j/\z.cells[j]?=xk c:=by
 have f:i<P l*k:=by rw[<-TA d];exact(ZdH.1 n).1
 have t:i / k<P l:=by rw[ZhP r];exact f
 have p:=Zh0 i r;have u:=Nat.div_add_mod i k;refine⟨i / k,i%k,l[i / k],ZdG t,p,ZcJ,?_⟩;rw[<-Vp d (ZdG t) (i%k) p,show i / k*k+i%k=i from by grind];exact n
section
variable {c:Ctx}{B:Nat}{G:Nat->Prop}{s:St}{a:Act}{w w':World}{h:GH}{g:Gam}{C:ZB}
theorem Ri{P:Program}{d:TypeId}(f:U5 P d=xy):∃i z,P.info? d=xk i/\i.zero=xk z/\z.cells.size=i.size/\0<i.size/\i.bytes<=32768/\P.cellsOf d=i.size:=by
 unfold U5 at f;split at f;rename_i i j;split at f;simp_all[ZdJ,Zeq,Ze2,Program.cellsOf];grind;grind
theorem AN{B B':Nat}{e:TypeId}{k n:Nat}{v:Value}{xs:List Value}(f:w.ownsRow B' e k v n xs)(l:B<=B'):w.ownsRow B e k v n xs:=by
 refine⟨f.1,?_⟩;obtain p|⟨g,cap,d,rfl,j,r⟩:=f.2;grind;exact .inr ⟨g,cap,d,rfl,Zeh l j,r⟩
theorem Ar(f:Ok B G w h)(y:w.grownBy w' xw){O:TypeId}{e:E}{sh:List Nat}{l:List V}{v:Value}{xs:List Value}(he:eval s e=xk (.sl l))(hk:0<c.P.cellsOf O)(A:∀x∈l,x.fits (c.P.cellsOf O))
  (H:w'.ownsRow (xz (xj w)) O (c.P.cellsOf O) v (P l) xs) (a0:∀(i:Nat) (J:V),(flat l)[i]?=xk J->∃u,xs[i]?=xk u/\Rd w (h.ext sh) J u)
  {W:Option Nat} {k:TK} {es:List E} (T:Tk c W O e sh=xk (k,es)) (tm:Nat->Option Value) (d:Nat) (hd:W=xk d):PRes c B G s w h tm d k v w':=by
 subst hd;unfold Tk at T;have I:=AN H f.base;have Y:=Z0I f sh;simp only at T;split at T
 .rename_i z;simp only[ZdJ,Zgo]at z;obtain⟨_,rfl⟩:=z;simp only[ZdF,ZdU]at T;obtain⟨rfl,rfl⟩:=T;have N:∀ {h':GH},(∀b,h.F b->h'.F b)->∀(i:Nat) (J:V),(flat l)[i]?=xk J->∃u,xs[i]?=xk u/\Rd w' h'.F J u:=by
   intro h' hF i J S;obtain⟨u,hu,hr⟩:=a0 i J S;exact⟨u,hu,hr.F.keep (BS f y f.f_lt) hF⟩
  cases hv:v.ownBlock with
  |none=>
   refine⟨{F:=h.F,bl:=λt j=>if t=d then xw else h.bl t j,K:=h.K},⟨Qk f y,λb r _=>y.block b r Z1,λ_ r=>r,λt ht _=> ?_,λt ht=> ?_,λ_ _ _ _ hm=>(by simp at hm),rfl⟩,
    ⟨Zeh f.base y.size,λb r=>ZdS (f.f_lt b r) y.size,f.f_or,f.g_F,λt j b r=> ?_,λt j u q b r M=> ?_,λb r=>ZdS (f.k_lt b r) y.size,λt j b r=> ?_,f.k_F⟩,.sl l,he,.inl ⟨l,xs,rfl,hk,A,I,ZcJ,N λ_ r=>r⟩⟩
   simp_all;simp_all;simp only at r;split at r;cases r;obtain⟨Q,R,h3⟩:=f.b_lt t j b r;exact⟨Q,ZdS R y.size,h3⟩
   .simp only at r M;split at r<;>split at M<;>first|(cases r;done)|(cases M;done)|exact f.inj t j u q b r M
   simp only at r;split at r;cases r;exact f.k_bl t j b r
  |some n=>
   obtain⟨Q,R⟩:=H.lt n hv;obtain⟨D,U⟩:=qk f y d 1 Q R;exact⟨_,U,D,.sl l,he,.inl ⟨l,xs,rfl,hk,A,I,by grind [GH.give],N λ_ r=>r⟩⟩
 simp only[ZdF,ZdU]at T;obtain⟨rfl,rfl⟩:=T;obtain⟨rfl,hn⟩|⟨n,cap,L,rfl,Q,hh,Z,X,a1,a2⟩:=H.2;have hl:l=[]:=ZeB hn;subst hl
 refine⟨h,⟨Qk f y,λb r _=>y.block b r Z1,λ_ r=>r,λ_ _ _=>rfl,λ_ _=>rfl,λ_ _ _ _ hm=>(by simp at hm),rfl⟩,
  ⟨Zeh f.base y.size,λb r=>ZdS (f.f_lt b r) y.size,f.f_or,f.g_F,λt j b r=> ?_,f.inj,λb r=>ZdS (f.k_lt b r) y.size,f.k_bl,f.k_F⟩,.sl [],he,.nil _ _ (ZeQ _)⟩
 obtain⟨Q,R,h3⟩:=f.b_lt t j b r;exact⟨Q,ZdS R y.size,h3⟩;have R:n<xz (xj w'):=(ZdM.1 hh).1;obtain⟨D,U⟩:=Z7w f y [d] [d] Q R;refine⟨_,U,D,.sl l,he,.sl l n 0 cap (c.P.cellsOf O) (λi=>L.getD i undef) Z X (.inl (.inr rfl)) A (λi S=> ?_) λi J S=> ?_⟩;rw[Zet,ZdT w' n i L O (0,0) hh];have:i<L.size:=by rw[a1];exact ZdS S (Zeo _ Z)
 simp_all;obtain⟨u,hu,hr⟩:=a0 i J S;have a3:L.getD i undef=u:=by
  rw[<-a2,Zej]at hu;split at hu;simp_all;simp at hu
 rw[a3];refine hr.keep (BS f y Y) λb r=> ?_;obtain r|⟨p,hp,i,S⟩:=r;exact .inl (.inl r);exact .inr ⟨p,hp,i,S⟩
theorem He(D:RelG c B G s a w h g)(u:holds s (ZE c C)){fl ag:Bool}{n:Nat}(A:n≠0):∀ {l:List Operand} {d:List E×List Nat},Kk g C fl l=xk d->∀ {p:List V},YA s (d.1.map (WK ag n))=xk p->
  xq p=xq l/\∀(i:Nat) (x:Operand),l[i]?=xk x->∃z,p[i]?=xk z/\(∀l,z≠.tup l)/\(ag=xy->xq z.cells=n)/\(ag=xh->z.one=xy)/\Rd w (h.ext d.2) z (a.eval x)
 | [],d,j,p,k=>by
   simp only[Kk,ZdF]at j;subst j;simp only[Zfm,YA,ZdF]at k;subst k;exact⟨rfl,λi x q=>by simp at q⟩
 |x::l,d,j,p,k=>by
  simp only[Kk,ZdE,ZdI]at j;obtain⟨T,N,b,f,rfl⟩:=j;simp only[Zee,YA,ZdE,ZdI]at k;obtain⟨z,r,S,t,rfl⟩:=k;obtain⟨L,M⟩:=He D u A f t;obtain⟨k1,O,P,Q⟩:=jY D u N A r;refine⟨by simp[L],λi y q=> ?_⟩;cases i with
  |zero=>
   simp at q;subst q;exact⟨z,Z1,k1,O,P,Q.mono λb f=>GH.ext_left f⟩
  |succ i=>
   obtain⟨R,U,F,H,I,J⟩:=M i y ZcJ;exact⟨R,ZcJ,F,H,I,J.mono λb f=>GH.ext_right f⟩
theorem Z4J(hr:RelG c B G s a w h g)(hC:holds s (ZE c C)){T:TypeId}{n:Nat}{parts:Array (Nat×Operand)}{a0:Option Nat}{k:TK}{es:List E}(f:Ba c g C a0 T n parts.toList=xk (k,es))(b2:∀e∈es,∃z,eval s e=xk z)(tm:Nat->Option Value)(d:Nat)(hd:a0=xk d):
  ∃v w',(Instr.buildSlice T n (parts.map λ(i,x)=>(i,a.eval x))).run c.P w=.ok v w'/\PRes c B G s w h tm d k v w':=by
 unfold Ba at f;split at f;rename_i A hT;have b0:=Jd hT;simp only[ZdE]at f;obtain⟨ops,a3,f⟩:=f;split at f;rename_i Q;obtain⟨I,hn,c7,b1,O⟩:=Q;obtain⟨i,z,hi,b9,d0,h0,c6,S⟩:=Ri b1;have he:∃zz,eval s (.lit (ops.1.map (WK (Y3 c.P A) (c.P.cellsOf A))))=xk zz:=by
  unfold Tk at f;subst hd;simp only at f;split at f<;>(simp only[ZdF,ZdU]at f;obtain⟨_,rfl⟩:=f;exact b2 _ (List.Mem.head _))
 obtain⟨zz,Z⟩:=he;have a8:=Z;simp only[eval,ZdI]at Z;obtain⟨zs,a7,rfl⟩:=Z;obtain⟨hl,hx⟩:=He hr hC Z0 a3 a7;have J:P parts.toList=n:=by
  have:=ZeX List.length I;simpa using this
 have b4:P zs=n:=by rw[hl,Zek,J]
 have X:∀(q:Nat) (p:Nat×Operand),parts.toList[q]?=xk p->p.1=q:=by
  intro q p M;have h1:(parts.toList.map (·.1))[q]?=xk p.1:=ZcJ;rw[I,List.getElem?_range]at h1;simp_all;grind
 have U:∀z,(∀l,z≠V.tup l)->(Y3 c.P A=xy->P z.cells=c.P.cellsOf A)->(Y3 c.P A=xh->z.one=xy)->P z.cells=c.P.cellsOf A:=by
  intro z h1 h2 h3;obtain O|O:=O;grind;grind [Y3,Ti]
 have u:∀(q:Nat) (p:Nat×Operand),parts.toList[q]?=xk p->∃z,zs[q]?=xk z/\z.fits (c.P.cellsOf A)/\(a.eval p.2).cells.size=c.P.cellsOf A/\∀(j:Nat) (ck:V),z.cells[j]?=xk ck->Rd w (h.ext ops.2) ck ((a.eval p.2).cells.getD j undef):=by
  intro q p M;obtain⟨z,N,e2,e3,e4,e5⟩:=hx q p.2 ZcJ;obtain⟨s1,s2,s3⟩:=e5.cells e2;have hc:=U z e2 e3 e4;exact⟨z,N,⟨hc,s2⟩,by rw[s1,hc],s3⟩
 have H:∀x∈zs,x.fits (c.P.cellsOf A):=by
  intro x b7;obtain⟨q,M⟩:=Zeb b7;have t:q<P parts.toList:=ZcJ;obtain⟨z,N,e2,_⟩:=u q _ (ZdG t);rw[M]at N;cases N;exact e2
 have D:((Array.range (n*i.size)).map (λx=>z.cells[x%z.cells.size]!)).size=n*i.size:=Z1
 obtain⟨R,hR,a2,_,a1⟩:=jh (λq=>xk (q*i.size,i.size)) (parts.toList.map λp=>(p.1,a.eval p.2)) ((Array.range (n*i.size)).map (λx=>z.cells[x%z.cells.size]!)) (by
  intro p f;obtain⟨p',W,rfl⟩:=ZdX.1 f;obtain⟨q,M⟩:=Zeb W;obtain⟨_,_,_,e3,_⟩:=u q p' M;have a4:=X q p' M;have t:q<n:=ZcJ;refine⟨p'.1*i.size,ZcJ,?_⟩;simp only;rw[e3,S,a4,D,<-Zf8];exact Zeo _ t)
 rw[D]at a2;have c1:¬(n*i.size>2 ^ 24):=by
  have:n*i.size<=256*256:=Zhl Z0 Z0;omega
 have F:n*i.size=0\/n*i.size≠0:=Z0;have a5:(Instr.buildSlice T n (parts.map λ(i,x)=>(i,a.eval x))).run c.P w=.ok (.slice (xk ⟨xz (xj w),0,xw⟩) n n) (w.alloc (.cells R A)):=by
  have Y:¬(16777216<n*i.size):=Z0;obtain F|F:=F;have b5:n=0:=by
   obtain hh|hh:=Nat.mul_eq_zero.1 F;exact hh;omega
  subst b5;have b6:parts=#[]:=by
   have:parts.size=0:=by simpa using J
   exact ZeN this
  subst b6;have c5:R=#[]:=by
   have:R.size=0:=by simpa using a2
   exact ZeN this
  simp_all[Instr.buildSlice,Zev,U1,Instr.fill,newRow,Array.range_zero'];simp[Instr.buildSlice,Zev b0,U1 hi,Y,F,yU hi b9,hR,newRow]
 refine⟨_,_,a5,?_⟩;have hg:=Zf4 w (.cells R A) xw;have L:=World.ownsRow_lit (base:=xz (xj w)) (e:=A) (size:=c.P.cellsOf A) w R n (ZdL _) Zdw ZcJ;rw[<-b4]at L⊢;refine Ar hr.ok hg a8 Z0 H L (λj ck hj=> ?_) f tm d hd;obtain⟨q,r,y,M,c9,rfl,b8⟩:=jm H Z0 hj;have t:q<P parts.toList:=ZcJ;obtain⟨y',N,e2,e3,e4⟩:=u q _ (ZdG t);rw[M]at N;cases N;have a4:=X q _ (ZdG t);obtain⟨pre,a9,c8⟩:∃pre a9,parts.toList=pre++parts.toList[q]::a9:=List.append_of_mem (Ze0 t);have a6:(a.eval parts.toList[q].2).cells.size=i.size:=by rw[e3,S]
 have b3:=a1 ((parts.toList.take q).map λp=>(p.1,a.eval p.2)) (parts.toList[q].1,a.eval parts.toList[q].2) ((parts.toList.drop (q+1)).map λp=>(p.1,a.eval p.2)) (by
  grind [List.drop_eq_getElem_cons,List.take_append_drop]) (q*i.size) ZcJ (by
  intro p f o n' ho;obtain⟨p',W,rfl⟩:=ZdX.1 f;obtain⟨m,hm⟩:=Zeb W;rw[Ze9]at hm;have:=X _ _ hm;simp only[ZdF,ZdU]at ho;obtain⟨rfl,rfl⟩:=ho;left;simp only;rw[a6,this,<-Zf8];grind) r ZcJ
 refine⟨(a.eval parts.toList[q].2).cells.getD r undef,?_,e4 r ck b8⟩;rw[Zf3,S,b3];have c0:r< (a.eval parts.toList[q].2).cells.size:=Z0;simp only[ZdK];grind;grind;grind
theorem Z7D(z:Array Value)(n:Nat)(d:0<z.size)(j:Nat)(f:j<n):(madeCells z n).toList[j]?=z[j%z.size]? :=by
 simp_all[Zh0,madeCells]
theorem Z6A(l:RelG c B G s a w h g){n m:Operand}(d:BR n m=xy){k:IntKind}{q:Int}(j:a.eval n=.int k q):∃f,a.eval m=.int f q:=by
 unfold BR at d;split at d;simp_all;simp_all[Zeq,Act.eval,Value.int.injEq];cases d
theorem Z4U(hr:RelG c B G s a w h g)(hC:holds s (ZE c C)){T:TypeId}{n m:Operand}{W:Option Nat}{k:TK}{es:List E}(t:Bh c g C W T n m=xk (k,es))(b1:∀e∈es,∃z,eval s e=xk z)(tm:Nat->Option Value)(d:Nat)(hd:W=xk d):
  ∃v w',(Instr.makeSlice T (a.eval n) (a.eval m)).run c.P w=.ok v w'/\PRes c B G s w h tm d k v w':=by
 unfold Bh at t;split at t;rename_i A hT;have a7:=Jd hT;simp only[ZdE]at t;obtain⟨N,hz,⟨e,sh⟩,he,t⟩:=t;split at t;rename_i H;simp only[ZdJ,ZdY,Zeq]at H;obtain⟨⟨b6,b0⟩,D⟩:=H;obtain⟨i,z,hi,a4,c6,h0,a8,a9⟩:=Ri b0;obtain⟨i',z',Y,M,I,f⟩:=CJ hz;rw[hi]at Y;cases Y;rw[a4]at M;cases M;have b2:∃zz,eval s (.mk (if Y3 c.P A then .agg N else N.headD (.agg [])) e)=xk zz:=by
  unfold Tk at t;subst hd;simp only at t;split at t<;>(simp only[ZdF,ZdU]at t;obtain⟨_,rfl⟩:=t;exact b1 _ (List.Mem.head _))
 obtain⟨zz,l⟩:=b2;have a6:=l;obtain⟨y,hy,b8⟩:=WD hr hC he;simp only[eval,hy,ZdQ]at l;generalize c0:(if Y3 c.P A then V.agg N else N.headD (.agg []))=zv at*;unfold K7 at l;split at l;rename_i ki q;split at l;rename_i hq;obtain⟨b4,b5⟩:=hq;obtain⟨q,rfl⟩:=ZdV b4;simp only[ZdF,ZdW]at l;subst l;have Z:q<=4294967296:=by simp only[Y4]at b5;omega
 have hn:=b8.int_eq;obtain⟨k',hm⟩:=Z6A hr b6 hn;rw[hn,hm];have hb:i.bytes*q<=281474976710656:=by
  have:i.bytes*q<=32768*4294967296:=Zhl a8 Z;omega
 obtain⟨w',a2,L,hg⟩:=run_make_full (P:=c.P) w (xz (xj w)) T A i z i.size a7 hi a4 rfl ki k' q hb Zdw (ZdL _);refine⟨_,_,a2,?_⟩;have a5:zv.cells=N:=by
  rw[<-c0];obtain D|D:=D;rw[if_pos D];rfl;split;rfl;have h1:xq N=1:=D
  match N,h1,f,I with
  | [x],_,f,I=>
    simp only[List.headD_cons];obtain⟨x',R,S⟩:=f 0 (z.cells[0]'Z0) (Zed _);grind [Ti,qP]
 have F:∀(j:Nat) (O:V),N[j]?=xk O->∃u,z.cells[j]?=xk u/\WV u=xk O:=by
  intro j O U;have a0:j<z.cells.size:=by rw[I];exact(ZdH.1 U).1
  obtain⟨x',R,S⟩:=f j _ (Zed a0);rw[U]at R;cases R;exact⟨_,Zed a0,S⟩
 have b9:zv.fits (c.P.cellsOf A):=by
  refine⟨ZcK,λO X=> ?_⟩;rw[a5]at X;obtain⟨j,U⟩:=Zeb X;obtain⟨u,_,S⟩:=F j O U;exact qP S
 have J:∀x∈List.replicate q zv,x.fits (c.P.cellsOf A):=λx hx=>ZcK;rw[<-a9]at L;have Q:w'.ownsRow (xz (xj w)) A (c.P.cellsOf A) (.slice (xk ⟨xz (xj w),0,xw⟩) q q) (xq (List.replicate q zv)) (madeCells z.cells (q*c.P.cellsOf A)).toList:=by rw[ZhN];exact L
 refine Ar hr.ok hg a6 Z0 J Q (λj O U=> ?_) t tm d hd;obtain⟨p,r,y',a1,c5,rfl,a3⟩:=jm J Z0 U;have b3:p<q:=by simpa using(ZdH.1 a1).1
 have b7:y'=zv:=Zho (ZdO a1);subst b7;rw[a5]at a3;obtain⟨u,hu,S⟩:=F r O a3;refine⟨u,?_,LA S _ _⟩;have c1:p*c.P.cellsOf A+c.P.cellsOf A<=q*c.P.cellsOf A:=by rw[<-Zf8];exact Zeo _ b3
 grind [Z7D,Nat.mul_comm,Nat.mul_add_mod,Nat.mod_eq_of_lt];grind;grind;grind;grind
end
end Vm
namespace Vm
open Go
open Go.RowKit (Below)
open Go.MapKept (IsKey bytes_beq sameNow_of_keys run_checkKey run_findKey run_keyThatStays)
section
variable {c:Ctx}{B:Nat}{G:Nat->Prop}{s:St}{a:Act}{w w':World}{h:GH}{g:Gam}{C:ZB}
theorem Z6i{P:Program}{t ty e:TypeId}{i:TypeInfo}(k:P.underlying t=xk (.slice e))(j:P.info? e=xk i){size:Nat}{v:Value}{n:Nat}{xs:List Value}(d:w.ownsRow B e size v n xs)(l:Nat):
  (Builtin.append_ #[t,t] ty #[v,.slice xw 0 l]).run P w=.ok v w:=by
 obtain⟨rfl,rfl⟩|⟨g,cap,p,rfl,_,_,f,_⟩:=d.2;simp[Builtin.append_,Zev k,Go.sizeOf,typeInfo,j,Builtin.lenOf,Builtin.firstCells];simp[Builtin.append_,Zev k,Go.sizeOf,typeInfo,j,Builtin.lenOf,Builtin.firstCells,f,storeCells]
theorem yQ{P:Program}{t ty e:TypeId}(X:P.underlying t=xk (.slice e))(a3:U5 P e=xy){v:Value}{n:Nat}{xs:List Value}(f:w.ownsRow B e (P.cellsOf e) v n xs)(hB:B<=xz (xj w))
  {Gy:Nat->Prop} {l:List V} {y:Value} (hy:Rd w Gy (.sl l) y) (hk:Xp (P.cellsOf e) l=xy) (M:n+xq l<=Y4):
  ∃v' w' d,(Builtin.append_ #[t,t] ty #[v,y]).run P w=.ok v' w'/\w'.ownsRow B e (P.cellsOf e) v' (n+xq l) (xs++d)/\w.grownBy w' v.ownBlock/\
   (v'.ownBlock=v.ownBlock\/(w.grownBy w' xw/\w'.ownsRow (xz (xj w)) e (P.cellsOf e) v' (n+xq l) (xs++d)))/\
   (∀x∈l,x.fits (P.cellsOf e))/\∀(i:Nat) (L:V),(flat l)[i]?=xk L->∃u,d[i]?=xk u/\Rd w Gy L u:=by
 obtain⟨i,z,I,hz,a9,h0,a1,S⟩:=Ri a3;have a7:=MO hk
 have W:(∃A,y=.slice xw 0 A/\l=[])\/∃H A,∃d:List Value,y=.slice (xk H) (xq l) A/\xq d=xq l*P.cellsOf e/\(∀j u,d[j]?=xk u->w.cell? (H.add j)=xk u)/\(∀u∈d,u.oneCell'=xy)/\
   (∀x∈l,x.fits (P.cellsOf e))/\∀(i:Nat) (L:V),(flat l)[i]?=xk L->∃u,d[i]?=xk u/\Rd w Gy L u:=by
  cases hy with
  |nil H A hc=>
   obtain _|H:=H;simp;exact .inr ⟨H,A,[],rfl,Z1,λj u hj=>by simp at hj,λu hu=>by simp at hu,λx hx=>by simp at hx,λi L I=>by simp[flat]at I⟩
  |sl _ b o cap kk vs h1 h2 h3 Z h5 h6=>
   refine .inr ⟨⟨b,o,xw⟩,cap,(List.range (xq l*P.cellsOf e)).map vs,rfl,Z1,?_⟩;by_cases T:l=[];simp_all[flat];obtain⟨x,hx⟩:=Zhj l T;have a5:kk=P.cellsOf e:=by rw[<-(Z x hx).1,a7 x hx]
   subst a5;have a6:=TA Z;refine⟨λj u hj=> ?_,λu hu=> ?_,Z,λi L I=> ?_⟩;grind [List.getElem?_eq_some_iff,Addr.add_lit];obtain⟨j,hj,rfl⟩:=ZdX.1 hu;have b3:=ZfW.1 hj;have hf:(flat l)[j]?=xk ((flat l)[j]'Z0):=ZdG _;have Q:=h6 j _ hf;rw[Q.one_eq];obtain⟨x,hx,a2⟩:=Z0U hf;exact(Z x hx).2 _ a2;grind
 obtain⟨A,rfl,rfl⟩|⟨H,A,d,rfl,T,r,h1,F,N⟩:=W;refine⟨v,w,[],Z6i X I f A,ZcK,⟨rfl,rfl,rfl,ZdL _,λ_ _ _=>rfl⟩,.inl rfl,λx hx=>by simp at hx,λi L I=>by simp[flat]at I⟩;simp only[Y4]at M;have a0:n+xq l<=maxLen:=Zdw;have J:(n+xq l)*i.bytes<=140737488355328:=by
  have:(n+xq l)*i.bytes<=4294967296*32768:=Zhl M a1;omega
 have U:xq (xs++d)=(n+xq l)*P.cellsOf e:=by rw[Zes,f.1,T,Nat.add_mul]
 have D:∀(p:Nat),p<n+xq l->∀(row:Option Nat) (Y:Array Value),Y=xs.toArray++d.toArray->
   (w.drew.alloc (.cells (Y++Builtin.zeroCells z.cells (grownCap w (n+xq l) p e- (n+xq l))) e)).ownsRow (xz (xj w)) e (P.cellsOf e)
    (.slice (xk ⟨xz (xj w),0,xw⟩) (n+xq l) (grownCap w (n+xq l) p e)) (n+xq l) (xs++d)/\
   w.grownBy (w.drew.alloc (.cells (Y++Builtin.zeroCells z.cells (grownCap w (n+xq l) p e- (n+xq l))) e)) row:=by
  rintro p ho row Y rfl;have a4:=grownCap_ge w (n+xq l) p e;have R:grownCap w (n+xq l) p e<=maxLen:=grownCap_le_maxLen w (n+xq l) p e a0;refine⟨⟨U,.inr ⟨xz (xj w),_,_,rfl,ZdL _,Ze7 w.drew _,a4,R,?_,?_⟩⟩,⟨rfl,rfl,rfl,Z1,λk hk _=>ZdN w.drew _ k hk⟩⟩;simp only[Array.size_append,ZeW,size_zeroCells,a9,f.1,T,S,<-Nat.add_mul];simp_all;grind
 obtain⟨rfl,rfl⟩|⟨g,cap,b1,rfl,b2,hg,b4,R,b0,a8⟩:=f.2;have hx:xs=[]:=ZeB ZcK;subst hx;by_cases hm:xq l=0;have hn:d=[]:=ZeB ZcK;subst hn;refine⟨.slice xw 0 0,w,[],?_,ZcK,⟨rfl,rfl,rfl,ZdL _,λ_ _ _=>rfl⟩,.inl rfl,F,N⟩;simp[Builtin.append_,Zev X,Go.sizeOf,typeInfo,I,Builtin.lenOf,hm,Builtin.firstCells,loadCells,loadCellsFrom];have Q:=run_append_nil (P:=P) w t ty e i z X I hz H (xq l) A d ZcJ r Z0 Z0 ZcJ;have q:=D 0 Z0;simp only[Zet,ZeA]at q⊢;obtain⟨g1,g2⟩:=q xw d.toArray Z1;grind [AN];by_cases O:n+xq l<=cap;obtain⟨w',Q,ho,q⟩:=run_append_fits (P:=P) w B t ty e i (P.cellsOf e) X I S.symm g n cap xs f H (xq l) A d T r h1 O;exact⟨_,_,d,Q,ho,q,.inl rfl,F,N⟩;have holds:∀j u,xs[j]?=xk u->w.cell? ((⟨g,0,xw⟩:Addr).add j)=xk u:=f.cells (g:=g) rfl;have Q:=run_append_grow (P:=P) w t ty e i z X I hz ⟨g,0,xw⟩ n cap xs ZcJ holds H (xq l) A d ZcJ r Z0 Z0 (ZhY Z0 J);have q:=D cap Z0;obtain⟨g1,g2⟩:=q xw _ rfl;exact⟨_,_,d,Q,AN g1 hB,(q _ _ rfl).2,.inr ⟨g2,g1⟩,F,N⟩
theorem Qh{k:Nat}{x y z:V}(d:R9 k x y=xk z):∃l r,x=.sl l/\y=.sl r/\P l+P r<=Y4/\Xp k r=xy/\z=.sl (l++r):=by
 unfold R9 at d;split at d;simp_all;grind
theorem Z0Z{x z:V}(d:jo x=xk z):x=z/\∃l,z=.sl l/\∀y∈Vm.flat l,y.flatc=xy:=by
 unfold jo at d;split at d;rename_i l;split at d;rename_i f;simp only[ZdF]at d;exact⟨d,l,d.symm,λy j=>ZdR.1 f y j⟩;grind;grind
theorem Eg(F:RelG c B G s a w h g)(t:holds s (ZE c C)){x:Operand}{d:E×List Nat}(hx:Yu g C x=xk d){fl:Bool}{z:V}(k:eval s (Sr fl d).1=xk z):
  ∃r,Rd w r z (a.eval x)/\∀l,z=.sl l->∀(i:Nat) (f:V) (u:Value),(flat l)[i]?=xk f->Rd w r f u->Rd w (h.ext (Sr fl d).2) f u:=by
 obtain⟨y,I,q⟩:=WD F t (show Yu g C x=xk (d.1,d.2)from hx);unfold Sr at k⊢;split;grind;rename_i A;rw[if_neg A]at k;split;rename_i n;rw[if_pos n]at k;simp only[eval,I,ZdQ]at k;obtain⟨rfl,l,rfl,j⟩:=Z0Z k;refine⟨_,q,λJ p i f u D H=> ?_⟩;cases p;exact H.flat (j f (ZdO D));grind
theorem Z4n{f:Option Nat}{d:Nat}(p:f=xk d){n:TypeId}{e:E}{sh:List Nat}{k:TK}{es:List E}(j:Tk c f n e sh=xk (k,es))(l:∀e∈es,∃z,eval s e=xk z):∃z,eval s e=xk z:=by
 unfold Tk at j;subst p;simp only at j;split at j<;>(simp only[ZdF,ZdU]at j;obtain⟨_,rfl⟩:=j;exact l _ (List.Mem.head _))
theorem Z4F(N:RelG c B G s a w h g)(W:holds s (ZE c C)){T U ty:TypeId}{x y:Operand}{l:Option Nat}{k:TK}{es:List E}(f:B6 c g C l T U x y=xk (k,es))(J:∀e∈es,∃z,eval s e=xk z)(Z:Nat->Option Value)(d:Nat)(I:l=xk d):
  ∃v w',(Builtin.append_ #[T,U] ty #[a.eval x,a.eval y]).run c.P w=.ok v w'/\PRes c B G s w h Z d k v w':=by
 unfold B6 at f;split at f;rename_i p hT;have F:=Jd hT;split at f;rename_i n;obtain⟨rfl,q⟩:=n;split at f;rename_i hk;simp only[ZdE]at f;obtain⟨S,hb,f⟩:=f;rw[QW N W hk];have u:Tk c l p (.app (.c (.sl [])) (Sr (XB c.P p) S).1 (c.P.cellsOf p)) (Sr (XB c.P p) S).2=xk (k,es):=by
  subst I;simp only at f;split at f;grind;exact f
 obtain⟨z,D⟩:=Z4n I u J;have a3:=D;simp only[eval,ZdQ,ZdE]at D;obtain⟨yy,R,D⟩:=D;obtain⟨l0,r,L,rfl,X,Q,rfl⟩:=Qh D;cases L;obtain⟨G',O,H⟩:=Eg N W hb R;obtain⟨i,zz,hi,a4,a5,h0,a0,a1⟩:=Ri q;obtain⟨v',w',Y,A,j,hg,a2,t,M⟩:=yQ (ty:=ty) F q (Zf7 w (xz (xj w)) p (c.P.cellsOf p)) (ZdL _) O Q Z0;refine⟨v',w',A,?_⟩;simp only[Zet,ZeA]at j
 exact Ar N.ok hg ZcK Z0 t j (λi ck hi=>by
  grind) u Z d I
 grind;grind;grind
theorem WP(j:RelG c B G s a w h g)(d:holds s (ZE c C)){x:Operand}{b:E×List Nat}(f:Yu g C x=xk b):∃y,eval s b.1=xk y/\Rd w (h.ext b.2) y (a.eval x):=WD j d (show Yu g C x=xk (b.1,b.2)from f)
def PRun(c:Ctx)(B:Nat)(G:Nat->Prop)(s:St)(a:Act)(w:World)(h:GH)(o:Oper)(d:Nat)(k:TK):Prop:=
 ∃v w',(execOp a.eval o).run c.P w=.ok (.value v) w'/\PRes c B G s w h (λp=>a.tmps[p]?) d k v w'
theorem PRun.of{o:Oper}{d:Nat}{k:TK}{m:Sem Value}(n:execOp a.eval o=(do pure (.value (<-m))))(l:∃v w',m.run c.P w=.ok v w'/\PRes c B G s w h (λp=>a.tmps[p]?) d k v w'):PRun c B G s a w h o d k:=by
 obtain⟨v,w',j,f⟩:=l;exact⟨v,w',ZcK,f⟩
theorem Has.pr(l:Ok B G w h){o:Oper}{d:Nat}{k:TK}{m:Sem Value}(n:execOp a.eval o=(do pure (.value (<-m))))(j:Has c B s w h (λp=>a.tmps[p]?) d k m):PRun c B G s a w h o d k:=by
 obtain⟨v,f,q⟩:=j;grind [PRun.of,PRes.here]
theorem LJ{s:St}{e:E}{aq_:List V}{o:Nat}{z:V}(h:eval s e=xk (.agg aq_))(d:eval s (.fld e o)=xk z):aq_[o]?=xk z:=by
 simp_all[eval,ZdQ,ZX,V.pc,ZdE,YP]
def VA(P:Program)(T:TypeId)(vs:Array Value)(o:Nat):Value:=if Y3 P T then .agg (vs.extract o (o+P.cellsOf T))else vs.getD o undef
theorem Z15{vs:Array Value}{o n i:Nat}(d:i<n)(h:o+n<=vs.size):(vs.extract o (o+n)).getD i undef=vs.getD (o+i) undef:=by
 simp only[ZdK,ZhC];simp_all
theorem ID{P:Program}{T:TypeId}{vs:Array Value}{o n q:Nat}(h:o+n<=vs.size)(f:q+P.cellsOf T<=n)(d:P.cellsOf T≠0):VA P T (vs.extract o (o+n)) q=VA P T vs (o+q):=by
 grind [VA,Array.extract_extract,Z15]
theorem Z0F{P:Program}{a b e:E}:∀(d:Nat) (T:TypeId) (o:Nat),U6 P a b d T o=xk e->P.cellsOf T≠0/\(P.underlying T).isSome=xy
 |0,_,_,h=>by simp[U6]at h
 |d+1,T,o,h=>by
  grind [U6]
theorem Mq{P:Program}{s:St}{Q R:E}{aq_ O:List V}{xs ys:Array Value}{G' G'':Nat->Prop}(W:eval s Q=xk (.agg aq_))(X:eval s R=xk (.agg O))(a1:xs.size=xq aq_)(a2:ys.size=xq O)
  (hx:∀i c,aq_[i]?=xk c->Rd w G' c (xs.getD i undef)) (hy:∀i c,O[i]?=xk c->Rd w G'' c (ys.getD i undef)):∀(d D:Nat) (T:TypeId) (o:Nat) (e:E) (z:V),d<=D->o+P.cellsOf T<=xs.size->o+P.cellsOf T<=ys.size->U6 P Q R d T o=xk e->eval s e=xk z->
  ∃r:Bool,(Op.equalIn (D+1) T (VA P T xs o) (VA P T ys o)).run P w=.ok r w/\z=.bool r
 |0,D,T,o,e,z,_,_,_,j,p=>by simp[U6]at j
 |d+1,D,T,o,e,z,hD,Y,Z,j,p=>by
  simp only[U6]at j;split at j
  .rename_i A;split at j;case isFalse=>cases j
   simp only[ZdF]at j;subst j;simp only[eval,ZdE]at p;obtain⟨u,hu,v,hv,k⟩:=p;have H:=LJ W (z:=u) (o:=o) Zdd;have I:=LJ X (z:=v) (o:=o) Zdd;have S:=hx o u H;have U:=hy o v I;have n:Y3 P T=xh:=by simp[Y3,A]
   simp only[VA,n,ZdZ,Zeu];generalize xs.getD o undef=vx at*;generalize ys.getD o undef=vy at*;cases S<;>cases U<;>simp only[Ss]at k<;>(try (simp at k;done))
   simp_all[ZdF,run_equalIn_bool]
  .rename_i q A;split at j;case isFalse=>cases j
   simp only[ZdF]at j;subst j;simp only[eval,ZdE]at p;obtain⟨u,hu,v,hv,k⟩:=p;have H:=LJ W (z:=u) (o:=o) Zdd;have I:=LJ X (z:=v) (o:=o) Zdd;have S:=hx o u H;have U:=hy o v I;have n:Y3 P T=xh:=by simp[Y3,A]
   simp only[VA,n,ZdZ,Zeu];generalize xs.getD o undef=vx at*;generalize ys.getD o undef=vy at*;cases S<;>cases U<;>simp only[Xc]at k<;>(try (simp at k;done))
   simp_all[ZdF,run_equalIn_int]
  .rename_i fs A;split at j;case isFalse=>cases j
   rename_i F;obtain⟨a3,h0,a0⟩:=F;have n:Y3 P T=xy:=by simp[Y3,A]
   have M:P.fieldsOf T=fs:=by unfold Program.fieldsOf;rw[A]
   simp only[VA,n,Zer];obtain⟨J,rfl⟩:∃J,D=J+1:=⟨D-1,Z0⟩
   have key:∀(l:List Field) (e:E) (z:V),Ql P (U6 P Q R d) (P.cellsOf T) o l=xk e->eval s e=xk z->
     ∃r:Bool,(Op.eqFields (J+1) (xs.extract o (o+P.cellsOf T)) (ys.extract o (o+P.cellsOf T)) l).run P w=.ok r w/\z=.bool r:=by
    intro l;induction l with
    |nil=>
     intro e z j p;simp only[Ql,ZdF]at j;subst j;simp_all[eval,ZdF,Op.eqFields]
    |cons f l ih=>
     intro e z j p;simp only[Ql]at j;split at j;case isFalse=>cases j
     rename_i hc;obtain⟨hn,ho⟩:=hc;simp only[ZdE,ZdI]at j;obtain⟨x,L,y,a4,rfl⟩:=j;simp only[eval,ZdE]at p;obtain⟨zx,k,p⟩:=p;obtain⟨N,cu⟩:=Z0F d f.type _ L;obtain⟨t,ht,rfl⟩:=Mq W X a1 a2 hx hy d J f.type (o+f.offset) x zx Z0 Z0 Z0 L k;have p1:(part f.type (xs.extract o (o+P.cellsOf T)) f.offset).run P w=.ok (VA P f.type xs (o+f.offset)) w:=by
      rw[<-ID Y ho N];exact BN (w:=w) (P:=P) cu N ZcK
     have p2:(part f.type (ys.extract o (o+P.cellsOf T)) f.offset).run P w=.ok (VA P f.type ys (o+f.offset)) w:=by
      rw[<-ID Z ho N];exact BN (w:=w) (P:=P) cu N ZcK
     simp only[Op.eqFields,hn,ne_eq,not_false_eq_true,Zer,Zel,p1,p2,ht,Zem];cases t;simp_all[QH,eval,ZdF];simp_all[QH]
   obtain⟨r,hr,rfl⟩:=key _ e z j p;refine⟨r,?_,rfl⟩;have:=run_equalIn_struct w (J+1) T (xs.extract o (o+P.cellsOf T)) (ys.extract o (o+P.cellsOf T)) (by rw[M];exact A) a0;rw[M]at this;exact this.trans hr
  cases j
theorem Ek{P:Program}{s:St}{A D:E}:∀(d:Nat) (T:TypeId) (o:Nat) (e:E) (z:V),U6 P A D d T o=xk e->eval s e=xk z->∃q t I,eval s (.fld A q)=xk t/\eval s (.fld D q)=xk I
 |0,_,_,_,_,h,_=>by simp[U6]at h
 |d+1,T,o,e,z,h,j=>by
  simp only[U6]at h;split at h
  .split at h;case isFalse=>cases h
   simp only[ZdF]at h;subst h;simp only[eval,ZdE]at j;obtain⟨a,n,b,p,_⟩:=j;exact⟨o,a,b,by simpa only[eval,ZdE]using n,by simpa only[eval,ZdE]using p⟩
  .split at h;case isFalse=>cases h
   simp only[ZdF]at h;subst h;simp only[eval,ZdE]at j;obtain⟨a,n,b,p,_⟩:=j;exact⟨o,a,b,by simpa only[eval,ZdE]using n,by simpa only[eval,ZdE]using p⟩
  .rename_i F J;split at h;case isFalse=>cases h
   rename_i H;cases k:F.toList with
   |nil=>exact absurd k H.1
   |cons f l=>
    rw[k]at h;simp only[Ql]at h;split at h;case isFalse=>cases h
    simp only[ZdE,ZdI]at h;obtain⟨x,r,y,_,rfl⟩:=h;simp only[eval,ZdE]at j;obtain⟨L,u,_⟩:=j;exact Ek d _ _ _ _ r u
  cases h
theorem Mr{P:Program}{s:St}{N O e:E}{u v z:V}{L M:Value}{T:TypeId}{G' G'':Nat->Prop}(l:Qs P T N O=xk e)(hu:eval s N=xk u)(hv:eval s O=xk v)(I:Rd w G' u L)(J:Rd w G'' v M)(U:eval s e=xk z):
  ∃(r:Bool) (f j:Array Value),L=.agg f/\M=.agg j/\(Op.equal T L M).run P w=.ok r w/\z=.bool r/\P.eqGuardType P.depth T=xh:=by
 unfold Qs at l;split at l;case isFalse=>cases l
 rename_i d;obtain⟨k,H⟩:=d;obtain⟨q,t,t',A,R⟩:=Ek 4 T 0 e z l U;have Q:∀ {n:E} {x:V} {y:V},eval s n=xk x->eval s (.fld (.sz (.isag n) (P.cellsOf T)) q)=xk y->∃aq_,x=.agg aq_/\xq aq_=P.cellsOf T/\eval s (.sz (.isag n) (P.cellsOf T))=xk (.agg aq_):=λ{n x y} hx p=>by
  simp only[eval,hx,ZdQ]at p⊢;cases x<;>simp only[RB,Option.bind_none,ZdQ]at p⊢ <;>(try (cases p;done));rename_i aq_;unfold Vi at p⊢;by_cases Z:(V.agg aq_).cells.length=P.cellsOf T;exact⟨aq_,rfl,Z,ZcJ⟩;simp_all
 obtain⟨aq_,rfl,a0,D⟩:=Q hu A;obtain⟨bs,rfl,a1,F⟩:=Q hv R;cases I with
 |agg _ f A R Y=>
  cases J with
  |agg _ j k1 k2 k3=>
   obtain⟨r,S,rfl⟩:=Mq (P:=P) D F A k1 Y k3 4 9999 T 0 e z Z0 Z0 Z0 l U;refine⟨r,f,j,rfl,rfl,?_,rfl,H⟩;have W:VA P T f 0=.agg f:=by
    unfold VA;rw[if_pos k,Zet,show P.cellsOf T=f.size by omega];simp
   have X:VA P T j 0=.agg j:=by
    unfold VA;rw[if_pos k,Zet,show P.cellsOf T=j.size by omega];simp
   rw[W,X]at S;exact S
theorem Z4H(W:RelG c B G s a w h g)(S:holds s (ZE c C)){op:BinOp}{T:TypeId}{x y:Operand}{k:TK}{es:List E}(J:B8 c g C op T x y=xk (k,es))(I:∀e∈es,∃z,eval s e=xk z)(d:Nat):
  Has c B s w h (λp=>a.tmps[p]?) d k (do eqGuard op T x y (a.eval x) (a.eval y);binOp op T (a.eval x) (a.eval y)):=by
 unfold B8 at J;simp only[ZdE,ZdI,ZdU]at J;obtain⟨n,Z,q,H,rfl,rfl⟩:=J;obtain⟨u,A,j⟩:=WP W S Z;obtain⟨v,D,l⟩:=WP W S H;obtain⟨z,f⟩:=I _ (List.Mem.head _);have R:=f;have fin:∀ {m:Sem Value},(∃r,m.run c.P w=.ok r w/\Rd w h.F z r)->Has c B s w h (λp=>a.tmps[p]?) d (.val (Ls c.P T op n.1 q.1) []) m:=by
  rintro m ⟨r,L,M⟩;exact⟨r,L,z,R,M.mono λb H=>GH.ext_F H⟩
 have plain:eval s (.bin op n.1 q.1)=xk z->Has c B s w h (λp=>a.tmps[p]?) d (.val (Ls c.P T op n.1 q.1) []) (do eqGuard op T x y (a.eval x) (a.eval y);binOp op T (a.eval x) (a.eval y)):=by
  intro f;simp only[eval,A,D,ZdQ]at f;exact fin (Z6j f j l T x y)
 unfold Ls at f;split at f;rename_i U;split at f;simp only[eval,A,D,ZdQ]at f;exact fin (Ms (neg:=xh) f j l U x y);simp only[eval,A,D,ZdQ]at f;exact fin (Ms (neg:=xy) f j l U x y);simp_all;split at f;cases t:Qs c.P T n.1 q.1 with
 |none=>simp_all
 |some e=>
  rw[t]at f;obtain⟨r,xs,ys,N,Q,X,rfl,Y⟩:=Mr t A D j l f;refine fin ⟨.bool r,?_,.bool _⟩;simp_all[eqGuard,binOp,ZfU]
 cases t:Qs c.P T n.1 q.1 with
 |none=>simp_all
 |some e=>
  rw[t]at f;simp only[Ze4,Zec,eval,ZdE]at f;obtain⟨y',O,f⟩:=f;obtain⟨r,xs,ys,N,Q,X,rfl,Y⟩:=Mr t A D j l O;simp only[Sc,ZdF]at f;subst f;refine fin ⟨.bool (!r),?_,.bool _⟩;simp_all[eqGuard,binOp,ZfU]
 simp_all
theorem QZ{x z:V}{e:E}{d:Nat}{sh:List Nat}{m:Sem Value}(l:eval s e=xk z)(k:∃r,m.run c.P w=.ok r w/\Rd w (h.ext sh) z r)(n:Nat->Option Value):Has c B s w h n d (.val e sh) m:=by
 obtain⟨r,f,j⟩:=k;exact⟨r,f,z,l,j⟩
theorem J0{m:Sem Value}{z:V}(k:∃r,m.run c.P w=.ok r w/\Rd w h.F z r)(sh:List Nat):∃r,m.run c.P w=.ok r w/\Rd w (h.ext sh) z r:=by
 obtain⟨r,d,f⟩:=k;exact⟨r,d,f.mono λb j=>GH.ext_F j⟩
theorem DW(q:RelG c B G s a w h g)(n:holds s (ZE c C)):∀ {l:List Operand} {j:List Nat},Jz g C l=xk j->P j=P l/\∀(i p:Nat),j[i]?=xk p->∃x b,l[i]?=xk x/\h.bl p 0=xk b/\a.eval x=.pointer (xk ⟨b,0,xw⟩)
 | [],j,d=>by
   simp only[Jz,ZdF]at d;subst d;exact⟨rfl,λi p f=>by simp at f⟩
 |x::l,j,d=>by
  simp only[Jz]at d;split at d;rename_i t F A;simp only[ZdI]at d;obtain⟨H,k,rfl⟩:=d;obtain⟨y,z⟩:=DW q n k;obtain⟨v,D,⟨b,vs,T,r,u,_⟩,_⟩:=q.look n (show look g C t=_ from A) rfl;refine⟨by simp[y],λi p f=> ?_⟩;cases i with
  |zero=>simp at f;subst f;exact⟨_,b,rfl,r,by rw[Act.eval_tmp a t v D];exact u⟩
  |succ i=>simpa using z i p ZcY
  cases d
theorem Z4S(z:RelG c B G s a w h g)(y:holds s (ZE c C)){f:Go.Fn}{first j:Array Operand}{k:TK}{es:List E}(l:Bi g C f first.toList j.toList=xk (k,es))(d:Nat):
  Has c B s w h (λp=>a.tmps[p]?) d k (Instr.makeFunc f (first.map a.eval) (j.map a.eval)):=by
 unfold Bi at l;split at l;rename_i n x A;simp only[ZdF,ZdU]at l;obtain⟨rfl,rfl⟩:=l;have q:first=#[]:=Zf0.1 Z0;have u:j=#[]:=Zf0.1 Z0;subst q u;exact⟨.func (.func n) #[] #[],by simp[Instr.makeFunc],.fn n,rfl,.fn n⟩;rename_i n x _;simp only[ZdI,ZdU]at l;obtain⟨H,r,rfl,rfl⟩:=l;have q:first=#[]:=Zf0.1 Z0;subst q;obtain⟨F,t⟩:=DW z y r;refine⟨.func (.func n) #[] (j.map a.eval),by simp[Instr.makeFunc],j.map a.eval,rfl,ZcK,λi p D=> ?_⟩;grind;cases l
theorem Z4T(f:Ok B G w h){T:TypeId}{k:TK}{es:List E}(l:Bj c T=xk (k,es))(t:Nat->Option Value)(d:Nat):
  ∃v w',(Instr.makeMap T xw).run c.P w=.ok v w'/\PRes c B G s w h t d k v w':=by
 unfold Bj at l;split at l;simp only[ZdF,ZdU]at l;obtain⟨rfl,rfl⟩:=l;have r:=Zf4 w (.map #[] 0) xw;obtain⟨j,q⟩:=qk f r d 1 (n:=U (R w)) (ZdL _) Z1;refine⟨.map (xk (U (R w))),w.alloc (.map #[] 0),?_,_,q,j,.mp 0 [] [],rfl,.inr ⟨0,[],[],U (R w), #[],0,rfl,rfl,by simp[GH.give],f.base,.inl rfl,Ze7 w _,rfl,rfl,λi c p=>by simp at p,λi c p=>by simp at p⟩⟩;rfl;cases l
theorem Z8n{P:Program}{T:TypeId}{x:V}(n:CL P T=xk x):∃z,(∀w:World,(zeroValue T).run P w=.ok z w)/\∀(w:World) (G:Nat->Prop),Rd w G x z:=by
 unfold CL at n;simp only[ZdE]at n;obtain⟨z,⟨i,d,p⟩,k⟩:=n;refine⟨z,λw=>yU d p w,λw G=> ?_⟩;split at k;rename_i j;simp only[ZdI]at k;obtain⟨t,l,rfl⟩:=k;obtain⟨u,A⟩:=Aa l;have key:∀(i:Nat) (c:V),t[i]?=xk c->WV (j.getD i undef)=xk c:=by
  intro i c d;have f:i<j.size:=by have:=(ZdH.1 d).1;rw[u]at this;simpa using this
  obtain⟨y,r,q⟩:=A i j[i] (by simp[f]);rw[d]at r;cases r;simpa[ZdK,f]using q
 refine .agg t j ZcK (λc q=> ?_) λi c d=>LA (key i c d) w G;grind [List.getElem?_of_mem,qP];grind [LA]
def Td:KC->TypeDesc
 |.b=>.bool
 |.i k=>.int k
 |.s=>.string
theorem FV{P:Program}{t:TypeId}{f:KC}(d:zn P t=xk f):P.underlying t=xk (Td f):=by
 unfold zn at d;split at d<;>first|(simp only[ZdF]at d;subst d;assumption)|cases d
theorem K0{d:KC}{k:V}(j:WY d k=xy){w:World}{G':Nat->Prop}{v:Value}(f:Rd w G' k v):IsKey (Td d) v:=by
 cases d<;>cases f<;>simp_all [WY,IsKey,Td]
theorem FX{d:KC}{k y:V}{r:Bool}(j:WY d k=xy)(f:K3 k y=xk r){w w2:World}{G' G'':Nat->Prop}{v u:Value}(n:Rd w G' k v)(l:Rd w2 G'' y u):IsKey (Td d) u/\(r=xy↔v=u):=by
 cases d<;>cases n<;>simp[WY]at j<;>cases l<;>simp[K3]at f
 grind [IsKey,Td];obtain⟨rfl,rfl⟩:=f;simp[IsKey,Td,j];grind [IsKey,Td,bytes_beq]
theorem JK{L:KC}{k:V}(t:WY L k=xy){w w2:World}{G' G'':Nat->Prop}{v:Value}(z:Rd w G' k v):∀ {ks:List V} {l:List MapEntry} {r:Option Nat},T6 k ks=xk r->xq ks=xq l->
  (∀(i:Nat) (c:V),ks[i]?=xk c->Rd w2 G'' c (l.getD i default).key)->∀n,match r with
   |none=>Instr.findNow (Td L) v l n=xk xw
   |some j=>∃e,l[j]?=xk e/\e.key=v/\Instr.findNow (Td L) v l n=xk (xk (n+j,e.val))
 | [],l,r,f,u,_,n=>by
   simp only[T6,ZdF]at f;subst f;have:l=[]:=ZeB u.symm;subst this;rfl
 |y::ks,[],r,_,u,_,n=>by simp at u
 |y::ks,e::l,r,f,u,x,n=>by
  simp only[T6]at f;have M:Rd w2 G'' y e.key:=by simpa using x 0 y rfl
  split at f;rename_i I;obtain⟨F,H⟩:=FX t I z M;simp only[ZdF]at f;subst f;have A:=H.1 rfl;obtain⟨q,D,d⟩:=Zh6 (K0 t z) F;have p:q=xy:=d.2 A;subst p;exact⟨e,rfl,A.symm,by simp[Instr.findNow,D]⟩;rename_i I;obtain⟨F,H⟩:=FX t I z M;obtain⟨q,D,d⟩:=Zh6 (K0 t z) F;have p:q=xh:=by
   cases q with
   |false=>rfl
   |true=>have:=H.2 (d.1 rfl);cases this
  subst p;simp only[ZdI]at f;obtain⟨T,J,rfl⟩:=f;have N:=JK t z J (by simpa using u) (λi c S=>by simpa using x (i+1) c (by simpa using S)) (n+1);obtain _|j:=T;simpa[Instr.findNow,D]using N;obtain⟨O,P,Q,R⟩:=N;exact⟨O,by simpa using P,Q,by simp[Instr.findNow,D,R];omega⟩;cases f
theorem Gt{p:KC}{k z y:V}{ks vs:List V}{id:Nat}{ok:Bool}(n:Ud p (.mp id ks vs) k z ok=xk y){l:List MapEntry}{w2:World}{G' G'':Nat->Prop}{F q:Value}(D:Rd w G' k F)(M:∀(w:World) (G:Nat->Prop),Rd w G z q)(u:P ks=P l)(h2:P vs=P l)
  (A:∀(i:Nat) (c:V),ks[i]?=xk c->Rd w2 G'' c (l.getD i default).key) (L:∀(i:Nat) (c:V),vs[i]?=xk c->Rd w2 G'' c (l.getD i default).val):
  WY p k=xy/\∃r,Instr.findNow (Td p) F l 0=xk r/\Rd w2 G'' y (if ok then .tuple #[(match r with|some (_,v)=>(v,xy)|none=>(q,xh)).1,.bool (match r with|some (_,v)=>(v,xy)|none=>(q,xh)).2]else(match r with|some (_,v)=>(v,xy)|none=>(q,xh)).1):=by
 have tup:∀ {x:V} {v:Value} {b:Bool},Rd w2 G'' x v->Rd w2 G'' (if ok then .tup [x,.bool b]else x) (if ok then .tuple #[v,.bool b]else v):=by
  intro x v b hx;cases ok;exact hx;refine .tup _ _ rfl λi c f=> ?_
  match i,f with
  |0,f=>simp_all
  |1,f=>simp at f;subst f;simpa using Rd.bool b
  |i+2,f=>simp at f
 unfold Ud at n;split at n;cases n;rename_i d;have d:WY p k=xy:=ZcW;refine⟨d,?_⟩;simp only at n;split at n;rename_i j t;obtain⟨e,H,I,J⟩:=JK d D t u A 0;grind;rename_i t;have:=JK d D t u A 0;grind;cases n
theorem Z4Q(W:RelG c B G s a w h g)(S:holds s (ZE c C)){T:TypeId}{x k:Operand}{ok:Bool}{X:TK}{es:List E}(H:Ku c g C T x k ok=xk (X,es))(N:∀e∈es,∃z,eval s e=xk z)(d:Nat):
  Has c B s w h (λp=>a.tmps[p]?) d X (Instr.lookup T (a.eval x) (a.eval k) ok):=by
 unfold Ku at H;split at H;rename_i kt el U;simp only[ZdE,ZdI,ZdU]at H;obtain⟨kc,P,z,hz,Q,Z,eb,hb,rfl,rfl⟩:=H;obtain⟨u,hu,I⟩:=WD W S Z;obtain⟨v,hv,n⟩:=WD W S hb;obtain⟨y,J⟩:=N _ (List.Mem.head _);have L:=J;simp only[eval,hu,hv,ZdQ]at J;obtain⟨zv,M,q⟩:=Z8n hz;have j:=FV P;generalize a0:a.eval x=av at I;cases I with
 |nomp=>
  obtain⟨D,r,O,f⟩:=Gt (w2:=w) (G'':=h.ext Q.2) J n q (l:=[]) rfl rfl (λi c F=>by simp at F) (λi c F=>by simp at F);refine⟨_,?_,y,L,f⟩;have t:=Zhd (w:=w) j (K0 D n);have A:=Zh5 (w:=w) j O;obtain _|p:=r;simp_all[Instr.lookup,Zev,Result.andThen];simp_all[Instr.lookup,Zev,Result.andThen]
 |mp id ks xs b Y es h0 h1 R h3 h4 h5 h6=>
  obtain⟨D,r,O,f⟩:=Gt (w2:=w) (G'':=h.ext Q.2) J n q (l:=es.toList) Z0 Z0 (λi c F=>ZcK) (λi c F=>ZcK);refine⟨_,?_,y,L,f⟩;have t:=Zhd (w:=w) j (K0 D n);have A:=Zh5 (w:=w) j O;obtain _|p:=r;simp[Instr.lookup,Zev U,Zfs R,t,A,M,Result.andThen];simp[Instr.lookup,Zev U,Zfs R,t,A,M,Result.andThen]
 |_=>simp[Ud]at J
 cases H
theorem Z4P{T:TypeId}{x k:Operand}{ok:Bool}{e:E}{sh:List Nat}{es:List E}(d:Ku c g C T x k ok=xk (.val e sh,es)):es=[e]:=by
 unfold Ku at d;split at d;simp only[ZdE,ZdI,ZdU,TK.val.injEq]at d;grind;cases d
theorem Z4R(I:RelG c B G s a w h g)(H:holds s (ZE c C)){T:TypeId}{x k:Operand}{ok:Bool}{A:TK}{es:List E}(f:Bg c g C T x k ok=xk (A,es))(n:∀e∈es,∃z,eval s e=xk z)(d:Nat):
  Has c B s w h (λp=>a.tmps[p]?) d A (Instr.lookup T (a.eval x) (a.eval k) ok):=by
 simp only[Bg,ZdE]at f;obtain⟨⟨O,D⟩,l,f⟩:=f;simp only at f;split at f;rename_i e N;simp only[ZdF,ZdU]at f;obtain⟨rfl,rfl⟩:=f;have F:=Z4P l;subst F;have y:=n _ (List.Mem.head _);have M:∃z,eval s e=xk z:=by
  obtain⟨z,j⟩:=y;unfold XA at j;split at j;simp_all;split at j;simp only[eval,ZdE]at j;obtain⟨u,J,_⟩:=j;exact⟨u,J⟩;simp_all
 obtain⟨v,L,Q,r,q⟩:=Z4Q I H l ZcK d;obtain⟨z,j,t⟩:=Rp (b:=(e,N)) (fl:=(!ok&&Ef c.P T)) r q y;exact⟨v,L,z,j,t⟩;cases f
theorem Z6q{x z:V}(d:SD x=xk z){G':Nat->Prop}{v:Value}(q:Rd w G' x v){T ty k e:TypeId}(f:c.P.underlying T=xk (.map k e)):
  ∃r,(Builtin.len_ #[T] ty #[v]).run c.P w=.ok r w/\Rd w h.F z r:=by
 cases q with
 |nomp=>
  simp only[SD,ZdF]at d;subst d;exact⟨.int .i64 0,Zdp,.int _ _⟩
 |mp id ks H b j l t u n p y A D=>
  simp only[SD,ZdF]at d;subst d;exact⟨.int .i64 l.size,by simp[Builtin.len_,Zev f,Zfs n,goInt,Result.andThen],by rw[p];exact .int _ _⟩
 |_=>simp[SD]at d
theorem Bp(A:RelG c B G s a w h g)(H:holds s (ZE c C)){o:Oper}{k:TK}{es:List E}(f:pk c g C o=xk (k,es))(l:∀e∈es,∃z,eval s e=xk z)(d:Nat)(hd:o.dst=xk d):PRun c B G s a w h o d k:=by
 have j:=A.ok;obtain⟨dst,op,type,pos,after,guard⟩:=o;simp only at hd;unfold pk at f;simp only at f;split at f;exact⟨_,w,rfl,PRes.here j (Z4V A H f d)⟩;rename_i x;obtain⟨v,h1,h2⟩:=Z4W A H f l {dst,op:=.nilCheck x,type,pos,after,guard} rfl d;exact⟨v,w,h1,PRes.here j h2⟩;exact⟨_,w,rfl,PRes.here j (Z4G A H f l d)⟩;exact PRun.of rfl (Z4E j f _ d);exact PRun.of rfl (Z4I A H f l _ d);exact Has.pr j rfl (Z4H A H f l d);simp only[IJ,ZdI,ZdU]at f;obtain⟨Q,M,rfl,rfl⟩:=f;obtain⟨u,L,D⟩:=WP A H M;obtain⟨z,t⟩:=l _ (List.Mem.head _);have I:=t;simp only[eval,L,ZdQ]at t;exact Has.pr j rfl (QZ (x:=u) I (J0 (Z6u t D) []) _);rename_i c1 c5 x;unfold IF at f;split at f;grind;rename_i c6;split at f;rename_i kk a2;simp only[ZdI,ZdU]at f;obtain⟨Q,M,rfl,rfl⟩:=f;obtain⟨u,L,D⟩:=WP A H M;obtain⟨z,t⟩:=l _ (List.Mem.head _);have I:=t;simp only[eval,L,ZdQ]at t;exact Has.pr j rfl (QZ (x:=u) I (J0 (Z6k t D (by cases hh:c.P.underlying c1<;>simp_all) a2) []) _);grind;rename_i x i;simp only[IG,ZdI,ZdU]at f;obtain⟨Q,M,rfl,rfl⟩:=f;obtain⟨u,L,D⟩:=WP A H M;obtain⟨z,t⟩:=l _ (List.Mem.head _);have he:∃q,eval s (.ext Q.1 i)=xk q:=by
  unfold XA at t;split at t;simp_all;split at t;simp only[eval,L,ZdQ]at t⊢;cases hq:Ty u i with
  |none=>simp_all
  |some q=>simp
  simp_all
 obtain⟨q,hq⟩:=he;have a9:=hq;simp only[eval,L,ZdQ]at hq;obtain⟨r,b0,b1⟩:=Z6l (c:=c) (w:=w) hq D;obtain⟨z',b9,b2⟩:=Rp (h:=h) (fl:=XB c.P type) (b:=(.ext Q.1 i,Q.2)) a9 b1 ⟨z,t⟩;exact Has.pr j rfl ⟨r,b0,z',b9,b2⟩;exact Has.pr j rfl (Z4O A H f l d);exact Has.pr j rfl (Z4K A H f l d);exact Has.pr j rfl (Z4M A H f l d);exact Has.pr j rfl (Z4L A H f l d);exact Has.pr j rfl (Z4N A H f l d);exact Has.pr j rfl (Z4Z A H f l d)
 ·
  rename_i T parts;unfold IE at f;simp only[ZdE]at f;obtain⟨fs,hT,zs,t,b,hb,f⟩:=f;split at f;rename_i R;have b4:b.2.2=[]:=by simpa using R
  have a7:∃z,eval s (.ag (b.1.map (·.2)))=xk z:=by
   split at f<;>(simp only[ZdF,ZdU]at f;obtain⟨_,rfl⟩:=f;exact l _ (List.Mem.head _))
  obtain⟨z,a5⟩:=a7;have W:=a5;simp only[eval,ZdI]at W;obtain⟨xs,b6,b7⟩:=W;obtain⟨hl,hx⟩:=Uv b6;have c7:P xs=P b.1:=ZcJ
  obtain⟨vs,a4,b3,a0,J⟩:=Mp A H hT t hb (λck a6=>by
   obtain⟨i,Z⟩:=Zeb a6;obtain⟨x,_,he⟩:=hx i ck.2 ZcK;simp_all)
  rw[b4]at a0 J;refine Has.pr j rfl ⟨.agg vs,a4,?_⟩;have b5:∀(i:Nat) (x:V),xs[i]?=xk x->x.one=xy/\Rd w (h.ext b.2.1) x (vs.getD i undef):=by
   intro i x Z;have a8:i<P b.1:=by have:=(ZdH.1 Z).1;omega
   obtain⟨y,hy,b8⟩:=hx i (b.1[i]).2 ZcK;rw[Z]at hy;cases hy;have X:=J i b.1[i] (ZdG a8);unfold BRel at X;split at X;simp_all;obtain⟨e1,e2⟩:=X;rw[b8]at e2;cases e2;rw[e1];exact⟨rfl,.nil _ _ (ZeQ _)⟩;simp_all;grind
  have S:∀x∈xs,x.one=xy:=λx c8=>by
   grind [List.getElem?_of_mem]
  have c0:z=.agg xs:=by rw[<-b7];simp only[Ts,VS S]
  split at f;rename_i a3;simp only[ZdJ,Zgo]at a3;simp only[ZdF,ZdU]at f;obtain⟨rfl,rfl⟩:=f;refine⟨vs,rfl,b3,λi ck Z=> ?_⟩;have X:=J i ck Z;unfold BRel at X;obtain⟨kk,e⟩:=ck;cases kk with
  |own ty=>simp_all
  |nil=>exact X
  |fz=>
   obtain⟨x,e1,e2,e3⟩:=X;rw[a3.1]at e3;exact⟨x,e1,e2,e3.F⟩
  |dead=>grind
  simp only[ZdF,ZdU]at f;obtain⟨rfl,rfl⟩:=f;refine⟨z,a5,?_⟩;rw[c0];exact .agg xs vs Z0 S λi x Z=>(b5 i x Z).2;grind
 exact PRun.of rfl (Z4J A H f l _ d hd);exact PRun.of rfl (Z4U A H f l _ d hd);exact Has.pr j rfl (Z4S A H f d);exact PRun.of rfl (Z4T j f _ d);exact Has.pr j rfl (Z4R A H f l d)
 ·
  rename_i args argTypes;split at f;rename_i x T hx hT;have p:args=#[x]:=Zf0.1 Z0;have O:argTypes=#[T]:=Zf0.1 Z0;subst p O;have Y:execOp a.eval {dst,op:=.call {callee:=.builtin .len,args:=#[x],argTypes:=#[T]},type,pos,after,guard}=(do pure (.value (<-Builtin.len_ #[T] type #[a.eval x]))):=by
   simp[execOp,resolve,invoke,builtin]
  unfold II at f;split at f;rename_i e N;simp only[ZdI,ZdU]at f;obtain⟨Q,M,rfl,rfl⟩:=f;obtain⟨u,L,D⟩:=WP A H M;obtain⟨z,t⟩:=l _ (List.Mem.head _);have I:=t;simp only[eval,L,ZdQ]at t;exact Has.pr j Y (QZ (x:=u) I (J0 (Z6m t D N) []) _);rename_i n e N;simp only[ZdF,ZdU]at f;obtain⟨rfl,rfl⟩:=f;refine Has.pr j Y ⟨.int .i64 n,?_,_,rfl,.int _ _⟩;simp[Builtin.len_,Zev N,goInt];rename_i k e N;simp only[ZdI,ZdU]at f;obtain⟨Q,M,rfl,rfl⟩:=f;obtain⟨u,L,D⟩:=WP A H M;obtain⟨z,t⟩:=l _ (List.Mem.head _);have I:=t;simp only[eval,L,ZdQ]at t;exact Has.pr j Y (QZ (x:=u) I (J0 (Z6q t D N) []) _);grind;grind
 rename_i args _;split at f;rename_i x y hx;have p:args=#[x,y]:=Zf0.1 Z0;subst p;simp only[yt,ZdZ,Zeu,ZdE,ZdI,ZdU]at f;obtain⟨Q,M,eb,hb,rfl,rfl⟩:=f;obtain⟨u,L,D⟩:=WP A H M;obtain⟨v,hv,a1⟩:=WP A H hb;obtain⟨z,t⟩:=l _ (List.Mem.head _);have I:=t;simp only[eval,L,hv,ZdQ]at t;exact Has.pr j (by simp[execOp,resolve,invoke,builtin];rfl) (QZ (x:=u) I (J0 (Z6p t D a1 _ type) []) _);grind;rename_i args _;split at f;rename_i x y hx;have p:args=#[x,y]:=Zf0.1 Z0;subst p;simp only[yt,Zer,ZdE,ZdI,ZdU]at f;obtain⟨Q,M,eb,hb,rfl,rfl⟩:=f;obtain⟨u,L,D⟩:=WP A H M;obtain⟨v,hv,a1⟩:=WP A H hb;obtain⟨z,t⟩:=l _ (List.Mem.head _);have I:=t;simp only[eval,L,hv,ZdQ]at t;exact Has.pr j (by simp[execOp,resolve,invoke,builtin];rfl) (QZ (x:=u) I (J0 (Z6n t D a1 _ type) []) _);grind;rename_i args argTypes;split at f;rename_i x y T U hx hT;have p:args=#[x,y]:=Zf0.1 Z0;have O:argTypes=#[T,U]:=Zf0.1 Z0;subst p O;exact PRun.of (by simp[execOp,resolve,invoke,builtin]) (Z4F (ty:=type) A H f l _ d hd);grind;grind
end
end Vm
namespace Vm
open Go
open Go.RowKit (Below)
theorem qH:∀ {g:Gam} {t:Nat},t∉ZQ g->g.at t=([],.no)
 | [],t,_=>rfl
 | (u,x)::g,t,d=>by
   simp only[ZQ,Zee,Ze3,not_or]at d;simp only[Gam.at];rw[if_neg (λe=>d.1 e.symm)];exact qH d.2
theorem Lr:∀ {g:Gam} {t:Nat},t∈ZQ g->(t,g.at t)∈g
 | [],t,d=>by simp[ZQ]at d
 | (u,x)::g,t,d=>by
   simp only[Gam.at];by_cases f:u=t;subst f;simp;rw[if_neg f];have:t∈ZQ g:=by
    simp only[ZQ,Zee,Ze3]at d;exact d.resolve_left λe=>f e.symm
   exact Zei _ (Lr this)
theorem Vn:∀(a b:Gam) (t:Nat),(a++b).at t=if t∈ZQ a then a.at t else b.at t
 | [],b,t=>Zdz
 | (u,x)::a,b,t=>by
   simp only[ZeT,Gam.at];by_cases d:u=t;grind [ZQ];rw[if_neg d,if_neg d,Vn a b t];grind [ZQ,List.map]
theorem zp{ps rb fz:List Nat}{g:Gam}{t:Nat}(d:t∈ZQ (XW ps rb fz g)):(XW ps rb fz g).at t=([],.no):=by
 grind [Lr,XW,Option.some.injEq,Prod.mk.injEq]
theorem Z2E{ps rb fz:List Nat}{g:Gam}{t:Nat}(f:t∉ZQ (XW ps rb fz g)){x:ZB×TK}(hx:(t,x)∈g):Va ps rb fz x.2=xy:=by
 by_cases d:Va ps rb fz x.2=xy;exact d;exfalso;apply f;simp only[ZQ,XW,ZdX,Zgz];exact⟨(t,[],.no),⟨(t,x),hx,by simp[d]⟩,rfl⟩
theorem qO(ps rb fz:List Nat):Va ps rb fz .no=xy:=by simp[Va,Un,leads,QE]
theorem FY{ps rb fz:List Nat}{g:Gam}{t:Nat}(d:t∉ZQ (XW ps rb fz g)):Va ps rb fz (g.at t).2=xy:=by
 grind [ZQ,Z2E,Lr,qH,qO]
theorem LY{fz:List Nat}{g:Gam}:ZQ (VT fz g)=fz:=by
 simp only[ZQ,VT,Zge]
 conv=>rhs;rw[<-List.map_id fz]
 rfl
theorem LX:∀ {fz:List Nat} {g:Gam} {t:Nat},t∈fz->(VT fz g).at t=((g.at t).1,Rq (g.at t).2)
 | [],g,t,d=>Zdn
 |p::fz,g,t,d=>by
  simp only[VT,Zee,Gam.at];by_cases f:p=t;grind;rw[if_neg f];exact LX ((Ze3.1 d).resolve_left λe=>f e.symm)
def GH.thaw(h:GH)(fz:List Nat):GH:= {F:=λb=>h.F b\/∃p∈fz,∃i,h.bl p (i+1)=xk b,bl:=λp i=>if p∈fz/\i≠0 then xw else h.bl p i,K:=h.K}
section
variable {c:Ctx}{B:Nat}{G:Nat->Prop}{s:St}{a:Act}{w w':World}{h h':GH}{g:Gam}{C:ZB}{fz:List Nat}
theorem L6(f:Ok B G w h)(fz:List Nat):Ok B G w (h.thaw fz)/\Step B [] [] fz w w h (h.thaw fz):=by
 refine⟨⟨f.base,λb d=> ?_,λb d=> ?_,λb d=>.inl (f.g_F b d),λt i b d=> ?_,λt i u j b d k=> ?_,f.k_lt,λt i b d=> ?_,λb d=> ?_⟩,
  Zef _ _,λb d _=>rfl,λb d=>.inl d,λt _ q=> ?_,λt _=> ?_,λt i b _ q d=>.inr ⟨t,q,i,d⟩,rfl⟩
 obtain d|⟨p,_,i,l⟩:=d;exact f.f_lt b d;exact(f.b_lt p (i+1) b l).2.1;obtain d|⟨p,_,i,l⟩:=d;exact f.f_or b d;exact .inr (f.b_lt p (i+1) b l).1;simp only[GH.thaw]at d;split at d;cases d;rename_i A;obtain⟨r,x,y⟩:=f.b_lt t i b d;refine⟨r,x,λn=> ?_⟩;obtain n|⟨p,D,j,z⟩:=n;exact y n;obtain⟨rfl,rfl⟩:=f.inj t i p (j+1) b d z;simp_all
 .simp only[GH.thaw]at d k;split at d<;>split at k<;>first|(cases d;done)|(cases k;done)|exact f.inj t i u j b d k
 simp only[GH.thaw]at d;split at d;cases d;exact f.k_bl t i b d;obtain d|⟨p,_,i,l⟩:=d;exact f.k_F b d;exact .inr (f.k_bl p (i+1) b l);simp_all[GH.thaw];simp[GH.thaw]
theorem Cq{sh:List Nat}(d:∀p∈sh,p∈fz):∀b,h.ext sh b->(h.thaw fz).F b:=by
 intro b f;obtain f|⟨p,k,i,j⟩:=f;exact .inl f;exact .inr ⟨p,d p k,i,j⟩
theorem OwnV.one{P:Program}{o:Option Nat}{ty:TypeId}{x:V}{v:Value}(d:OwnV P B w h o ty x v):x.one=xy:=by
 obtain⟨l,f,rfl,_⟩|⟨_,_,_,_,_,_,rfl,_⟩:=d<;>rfl
theorem RelC.freeze{P:Program}{o:Option Nat}{k:CK}{e:E}{v:Value}(j:RelC P B s w h o k e v)(q:Same h.F w w')(d:∀b,h.F b->h'.F b)(t:∀b,o=xk b->w'.heap[b]?=w.heap[b]?)(p:∀b,o=xk b->h'.F b)(u:Option Nat):
  RelC P B s w' h' u (F1 k) e v:=by
 cases k with
 |fz=>obtain⟨x,l,n,f⟩:=j;exact⟨x,l,n,f.keep q d⟩
 |own y=>
  obtain⟨x,l,n⟩:=j;have f:=n.keep (h':=h') q d t;exact⟨x,l,f.one,f.rd (λb r=>r) p⟩
 |nil=>exact j
 |dead=>exact j
theorem RelK.freeze{Q z:Nat->Option Value}{t:Nat}{v:Value}{k:TK}{ps rb:List Nat}(D:RelK c.P B s w h Q t v k)(j:Step B ps rb fz w w' h h')(f:Ok B G w h)(y:∀t∈rb,t∈ps)
  (l:t∉ps) (r:t∈fz) (n:Va ps rb fz k=xy) (O:∀p,p∉ps->z p=Q p):RelK c.P B s w' h' z t v (Rq k):=by
 have L:Same h.F w w':=λb d=>j.F_same f d;cases q:k.owning with
 |false=>
  have:=D.keep j f y l (λ_=>q) n O;cases k<;>first|exact this|simp[TK.owning]at q
 |true=>
  cases k<;>first|(simp[TK.owning]at q;done)|skip
  rename_i ty e;obtain⟨x,S,A⟩:=D;have I:=A.keep (h':=h') L j.F λb d=>j.bl_same f l d;exact⟨x,S,I.rd (λb d=>GH.ext_F d) λb d=>GH.ext_F (j.fzF t 0 b l r d)⟩;rename_i R;obtain⟨b,vs,T,A,I,U,J,W⟩:=D;refine⟨b,vs,T,by rw[j.fz0 t (λY=>l (y t Y))];exact A,I,by rw[j.bl_same f l A];exact U,by simpa using J,λi Z u=> ?_⟩;simp only[Ze1,ZdI]at u;obtain⟨H,M,rfl⟩:=u;exact(W i H M).freeze L j.F (λb d=>j.bl_same f l d) (λb d=>j.fzF t i b l r d) _;rename_i R;obtain⟨vs,rfl,J⟩:=D;simp only[Rq];split;trivial;rename_i X;obtain⟨x,hx,_,N⟩:=J.rd (G':=λb=>h.F b\/∃i,h.bl t (i+1)=xk b) (by simpa using X) (λb d=>.inl d) (λ_ i b d=>.inr ⟨i,d⟩);refine⟨_,hx,N.keep (λb d=> ?_) λb d=> ?_⟩;obtain d|⟨i,u⟩:=d;exact L b d;exact j.bl_same f l u;obtain d|⟨i,u⟩:=d;exact GH.ext_F (j.F b d);exact GH.ext_F (j.fzF t i b l r u)
theorem RelG.step{a':Act}{ps rb:List Nat}{d:Gam}(n:RelG c B G s a w h g)(L:Step B ps rb fz w w' h h')(r:Ok B G w' h')(u:∀t∈rb,t∈ps)(x:∀p,p∉ps->a'.tmps[p]?=a.tmps[p]?)
  (I:∀t∈ps,t∈ZQ d)
  (Q:∀t∈ZQ d,(holds s (ZE c (d.at t).1)->(d.at t).2.isNo=xh->∃v,a'.tmps[t]?=xk v/\RelK c.P B s w' h' (λp=>a'.tmps[p]?) t v (d.at t).2)/\(¬holds s (ZE c (d.at t).1)->a'.tmps.getD t undef=undef)):
  RelG c B G s a' w' h' (d++XW ps rb fz g++VT fz g++g):=by
 have key:∀t,(holds s (ZE c ((d++XW ps rb fz g++VT fz g++g).at t).1)->((d++XW ps rb fz g++VT fz g++g).at t).2.isNo=xh->∃v,a'.tmps[t]?=xk v/\RelK c.P B s w' h' (λp=>a'.tmps[p]?) t v ((d++XW ps rb fz g++VT fz g++g).at t).2)/\
   (¬holds s (ZE c ((d++XW ps rb fz g++VT fz g++g).at t).1)->a'.tmps.getD t undef=undef):=by
  intro t;rw[Vn,Vn,Vn];simp only[ZQ,Zf6,Ze8];by_cases D:t∈ZQ d;have f:t∈List.map (·.1) d:=D;simp_all;have f:t∉List.map (·.1) d:=D;by_cases z:t∈ZQ (XW ps rb fz g);have j:t∈List.map (·.1) (XW ps rb fz g):=z;simp only[f,j,false_or,true_or,Zer,Zeu,zp z];simp_all[TK.isNo,absurd,Vt,ZE];have j:t∉List.map (·.1) (XW ps rb fz g):=z;have J:=FY z;have y:t∉ps:=λN=>D (I t N);by_cases q:t∈fz;have k:t∈List.map (·.1) (VT fz g):=by have:=LY (fz:=fz) (g:=g);unfold ZQ at this;rw[this];exact q
  simp only[f,j,k,false_or,Zer,Zeu,LX q];refine⟨λF l=> ?_,λl=> ?_⟩;have H:(g.at t).2.isNo=xh:=by
   cases A:(g.at t).2<;>first|rfl|simp_all[Rq,TK.isNo]
  obtain⟨v,O,A⟩:=n.at_ t F H;exact⟨v,ZcK,A.freeze L n.ok u y q J x⟩;have:=n.skip t l;simp_all;have k:t∉List.map (·.1) (VT fz g):=by have:=LY (fz:=fz) (g:=g);unfold ZQ at this;rw[this];exact q
  simp only[f,j,k,false_or,Zeu];refine⟨λF l=> ?_,λl=> ?_⟩;obtain⟨v,O,A⟩:=n.at_ t F l;exact⟨v,ZcK,A.keep L n.ok u y (λM=>absurd M q) J x⟩;have:=n.skip t l;simp_all
 exact⟨r,λt=>(key t).1,λt=>(key t).2⟩
theorem RelG.frz(l:RelG c B G s a w h g)(fz:List Nat):RelG c B G s a w (h.thaw fz) (Vm.frz fz g):=by
 obtain⟨f,j⟩:=L6 l.ok fz;have:=l.step (d:=[]) (a':=a) j f (λ_ h=>h) (λ_ _=>rfl) (λt k=>by simp at k) (λt k=>by simp[ZQ]at k);simpa[Vm.frz]using this
end
end Vm
namespace Vm
open Go
open Go.RowKit (Below)
def GH.put(h:GH)(d:Nat)(f:Nat->Option Nat)(r:Nat->Nat->Option Nat):GH:= {F:=h.F,bl:=λu=>if u=d then f else r u,K:=h.K}
def YS(h:GH)(ts:List Nat)(u:Nat)(i:Nat):Option Nat:=if u∈ts then xw else h.bl u i
section
variable {c:Ctx}{B:Nat}{G:Nat->Prop}{s:St}{a a':Act}{w w':World}{h h':GH}{g:Gam}{C:ZB}{fz ps rb:List Nat}
theorem Ok.put(k:Ok B G w h)(q:U (R w)<=U (R w')){d:Nat}{f:Nat->Option Nat}{r:Nat->Nat->Option Nat}
  (z:∀u i b,u≠d->r u i=xk b->h.bl u i=xk b) (J:∀i b,f i=xk b->(U (R w)<=b/\b<U (R w'))\/∃t j,h.bl t j=xk b)
  (L:∀i j b,f i=xk b->f j=xk b->i=j) (I:∀i b u j,u≠d->f i=xk b->r u j=xk b->False):Ok B G w' (h.put d f r):=by
 refine⟨Zeh k.base q,λb l=>ZdS (k.f_lt b l) q,k.f_or,k.g_F,λt i b l=> ?_,λt i u j b l n=> ?_,λb l=>ZdS (k.k_lt b l) q,λt i b l H=> ?_,k.k_F⟩;simp only[GH.put]at l;have y:∀t j,h.bl t j=xk b->B<=b/\b<U (R w')/\¬h.F b:=λt j x=>by
  obtain⟨A,D,P⟩:=k.b_lt t j b x;grind
 split at l;obtain⟨A,D⟩|⟨t,j,x⟩:=J i b l;exact⟨Zeh k.base A,D,λO=>by have:=k.f_lt _ O;omega⟩;exact y t j x;rename_i p;exact y t i (z t i b p l);simp only[GH.put]at l n;split at l<;>split at n;grind;grind;grind;rename_i M N;exact k.inj t i u j b (z t i b M l) (z u j b N n);simp only[GH.put]at l;split at l;obtain⟨A,D⟩|⟨t,j,x⟩:=J i b l;have:=k.k_lt _ H;omega;exact k.k_bl t j b x H;rename_i p;exact k.k_bl t i b (z t i b p l) H
theorem WZ{ts:List Nat}{u i b:Nat}(d:YS h ts u i=xk b):h.bl u i=xk b/\u∉ts:=by
 simp_all[YS]
theorem Gu{ts:List Nat}{u:Nat}(d:u∉ts):YS h ts u=h.bl u:=by
 grind [YS]
theorem Sb(k:Below B w w')(j:∀b,b<U (R w)->(∀p∈ps,∀i,h.bl p i≠xk b)->w'.heap[b]?=w.heap[b]?){d:Nat}{f:Nat->Option Nat}{ts:List Nat}
  (r:d∈ps) (n:∀t∈ts,t∈ps/\t∈rb) (x:d∉rb->f 0=h.bl d 0):Step B ps rb [] w w' h (h.put d f (YS h ts)):=by
 refine⟨k,j,λ_ k=>k,λt l _=> ?_,λt l=> ?_,λ_ _ _ _ u=>(by simp at u),rfl⟩;have q:t≠d:=λe=>l (e▸r);simp only[GH.put,if_neg q];grind [Gu];simp only[GH.put];split;simp_all;rw[Gu λe=>l (n t e).2]
theorem Step.after(h2:Step B ps rb [] w w' (h.thaw fz) h'):Step B ps rb fz w w' h h':=by
 have j:∀p i b,(h.thaw fz).bl p i=xk b->h.bl p i=xk b:=by
  intro p i b d;simp only[GH.thaw]at d;split at d;cases d;exact d
 refine⟨h2.below,λb d n=>h2.same b d λp q i l=>n p q i (j p i b l),λb d=>h2.F b (.inl d),λt k f=> ?_,λt k=> ?_,λt i b _ f d=>h2.F b (.inr ⟨t,f,i,d⟩),h2.K⟩;rw[h2.bl t k Z1];grind [GH.thaw];rw[h2.fz0 t k];simp[GH.thaw]
structure MPost (c:Ctx) (B:Nat) (G:Nat->Prop) (s:St) (a':Act) (w w':World) (h h':GH) (m:MS):Prop where
 step:Step B m.ps m.rb m.fz w w' h h'
 ok:Ok B G w' h'
 ent:∀t∈ZQ m.d,(m.d.at t).1=[]/\((m.d.at t).2.isNo=xh->∃u,a'.tmps[t]?=xk u/\RelK c.P B s w' h' (λp=>a'.tmps[p]?) t u (m.d.at t).2)
theorem Wk{d:Nat}{k:TK}{ts:List Nat}(l:∃u,a'.tmps[d]?=xk u/\RelK c.P B s w' h' (λp=>a'.tmps[p]?) d u k):
  ∀t∈ZQ ((d,[],k)::ts.map λt=>(t,([]:ZB),TK.no)),(Gam.at ((d,[],k)::ts.map λt=>(t,([]:ZB),TK.no)) t).1=[]/\
   ((Gam.at ((d,[],k)::ts.map λt=>(t,([]:ZB),TK.no)) t).2.isNo=xh->∃u,a'.tmps[t]?=xk u/\RelK c.P B s w' h' (λp=>a'.tmps[p]?) t u (Gam.at ((d,[],k)::ts.map λt=>(t,([]:ZB),TK.no)) t).2):=by
 intro t n;simp only[Gam.at];by_cases f:d=t;simp_all;rw[if_neg f];have:∀(ts:List Nat),Gam.at (ts.map λt=>(t,([]:ZB),TK.no)) t=([],.no):=by
  intro ts;induction ts with
  |nil=>rfl
  |cons u ts q=>simp_all[Zee,Gam.at,ite_self]
 rw[this];exact⟨rfl,λj=>by simp[TK.isNo]at j⟩
theorem VB{d:Nat}(f:d<a.tmps.size)(v:Value):(a.put (xk d) v).tmps[d]?=xk v:=by
 simp[Act.put,f]
theorem RV{d t:Nat}(f:t≠d)(v:Value):(a.put (xk d) v).tmps[t]?=a.tmps[t]? :=by
 simp[Act.put,ZeE (ZfK f)]
theorem Yp(s:St)(c:Ctx):holds s (ZE c []):=Vt s
theorem jW(t:RelG c B G s a w h g){fl:Bool}{x:Operand}{b:E×List Nat}(k:SA g fl x=xk b){z:V}(l:eval s b.1=xk z):Rd w (h.thaw b.2).F z (a.eval x):=by
 simp only[SA,ZdI]at k;obtain⟨n,q,rfl⟩:=k;obtain⟨y,u,f⟩:=WP t (Yp s c) q;obtain⟨A,d,j⟩:=Rp (fl:=fl) (b:=n) u f ⟨z,l⟩;rw[l]at d;cases d;exact j.mono (Cq λp r=>r)
theorem jX(f:RelG c B G s a w h g){fl ag:Bool}{n:Nat}{x:Operand}{b:E×List Nat}(d:SA g fl x=xk b){z:V}(j:eval s (WK ag n b.1)=xk z):
  (∀l,z≠.tup l)/\(ag=xy->P z.cells=n)/\(ag=xh->z.one=xy)/\Rd w (h.thaw b.2).F z (a.eval x):=by
 grind [qo,jW]
theorem OwnV.mono{P:Program}{o d:Option Nat}{ty:TypeId}{x:V}{v:Value}(k:OwnV P B w h o ty x v)(f:∀b,h.F b->h'.F b)(j:o=d):OwnV P B w h' d ty x v:=by
 subst j;exact k.keep (.refl _ _) f λ_ _=>rfl
theorem Fb(p:RelG c B G s a w h g){ty:TypeId}{d t:Nat}{e:E}{v:Value}(z:d<a.tmps.size)(D:t≠d){y:V}(F:eval s e=xk y)(f:OwnV c.P B w h (h.bl t 1) ty y v):
  ∃h',MPost c B G s (a.put (xk d) v) w w h h' {d:=[(d,[],.own ty e),(t,[],.no)],ps:=[d,t],rb:=[d,t],fz:=[],es:=[]}:=by
 refine⟨h.put d (λi=>if i=1 then h.bl t 1 else xw) (YS h [t]),Sb (Zef _ _) (λ_ _ _=>rfl) Z1 (λu q=>by simp at q;grind) (λA=>by simp at A),
  p.ok.put (ZdL _) (λu i b _ k=>(WZ k).1) (λi b k=> ?_) (λi j b l n=> ?_) (λi b u j q l n=> ?_),Wk (ts:=[t]) ⟨v,VB z v,y,F,?_⟩⟩
 grind;simp_all;split at l;obtain⟨r,x⟩:=WZ n;exact x (by simp[(p.ok.inj t 1 u j b l r).1]);cases l;exact f.mono (λ_ k=>k) (by simp[GH.put])
theorem Z3t(n:RelG c B G s a w h g){d t:Nat}{cs:List (CK×E)}{v:Value}(H:d<a.tmps.size)(L:t≠d)(I:RelK c.P B s w h (λp=>a.tmps[p]?) t v (.mem cs)):
  ∃h',MPost c B G s (a.put (xk d) v) w w h h' {d:=[(d,[],.mem cs),(t,[],.no)],ps:=[d,t],rb:=[d,t],fz:=[],es:=[]}:=by
 obtain⟨b,vs,T,x,rfl,y,z,A⟩:=I
 refine⟨h.put d (λi=>h.bl t i) (YS h [t]),Sb (Zef _ _) (λ_ _ _=>rfl) Z1 (λu q=>by simp at q;grind) (λJ=>by simp at J),
  n.ok.put (ZdL _) (λu i b _ f=>(WZ f).1) (λi b f=>.inr ⟨t,i,f⟩) (λi j b k l=>(n.ok.inj t i t j b k l).2) (λi b u j q k l=> ?_),Wk (ts:=[t]) ⟨_,VB H _,b,vs,T,by simp[GH.put,x],rfl,y,z,λi r k=> ?_⟩⟩
 obtain⟨D,F⟩:=WZ l;exact F (by simp[(n.ok.inj t i u j b k D).1]);have:=(A i r k).keep (h':=h.put d (λi=>h.bl t i) (YS h [t])) (w':=w) (.refl _ _) (λ_ f=>f) λ_ _=>rfl;simp_all[GH.put]
def GH.yield(h:GH)(d p:Nat):GH:= {F:=λb=>h.F b\/∃i,h.bl p i=xk b,bl:=λu i=>if u=p\/u=d then xw else h.bl u i,K:=h.K}
theorem Z17(J:RelG c B G s a w h g){d p:Nat}{cs:List (CK×E)}(O:d<a.tmps.size)(Q:p≠d)(D:memOf g p=xk cs)(A:Wi cs=xh){z:V}(L:eval s (.pt xw (cs.map (·.2)))=xk z){v:Value}(S:∃b,h.bl p 0=xk b/\v=.pointer (xk ⟨b,0,xw⟩)):
  ∃h',MPost c B G s (a.put (xk d) v) w w h h' {d:=[(d,[],.val (.pt xw (cs.map (·.2))) []),(p,[],.no)],ps:=[d,p],rb:=[d,p],fz:=[],es:=[.pt xw (cs.map (·.2))]}:=by
 obtain⟨b,vs,T,H,_,M,N⟩:=J.memOf D;obtain⟨X,n,rfl⟩:=S;rw[H]at n;cases n;have f:=J.ok;have l:∀u i x,(h.yield d p).bl u i=xk x->h.bl u i=xk x/\u≠p:=by
  intro u i x hx;simp only[GH.yield]at hx;split at hx;cases hx;simp_all
 refine⟨h.yield d p,⟨Zef _ _,λ_ _ _=>rfl,λb k=>.inl k,λt R _=> ?_,λt R=> ?_,λ_ _ _ _ D=>(by simp at D),rfl⟩,⟨f.base,λb k=> ?_,λb k=> ?_,λb k=>.inl (f.g_F b k),λt i b k=> ?_,λt i u j b k y=>f.inj t i u j b (l _ _ _ k).1 (l _ _ _ y).1,f.k_lt,λt i b k=>f.k_bl t i b (l _ _ _ k).1,λb k=> ?_⟩,
  Wk (ts:=[p]) ⟨_,VB O _,z,L,K6 H M N A L (λb k=>.inl (.inl k)) λi b k=>.inl (.inr ⟨i,k⟩)⟩⟩
 simp_all[Ze3,Zfj,ZgN,not_or,GH.yield];simp_all[Ze3,Zfj,ZgN,not_or,GH.yield];obtain k|⟨i,r⟩:=k;exact f.f_lt b k;exact(f.b_lt p i b r).2.1;obtain k|⟨i,r⟩:=k;exact f.f_or b k;exact .inr (f.b_lt p i b r).1;obtain⟨q,F⟩:=l _ _ _ k;obtain⟨U,W,Y⟩:=f.b_lt t i b q;refine⟨U,W,λI=> ?_⟩;obtain I|⟨j,P⟩:=I;grind;exact F (f.inj t i p j b q P).1;obtain k|⟨i,r⟩:=k;exact f.k_F b k;exact .inr (f.k_bl p i b r)
theorem GC(r:RelG c B G s a w h g){ty:TypeId}{d:Nat}{x:Operand}{m:MS}(O:d<a.tmps.size)(f:zG c g ty d x=xk m)(H:∀e∈m.es,∃z,eval s e=xk z):
  ∃h',MPost c B G s (a.put (xk d) (a.eval x)) w w h h' m:=by
 unfold zG at f;split at f;rename_i t U e A;split at f;cases f;rename_i F;have T:t≠d:=λe=>F (.inl e);simp only[ZdF]at f;subst f;obtain⟨v,M,⟨y,Y,J⟩,_⟩:=r.look (Yp s c) (show look g [] t=_ from A) rfl;grind [Act.eval_tmp,Fb];rename_i t W A;split at f;cases f;rename_i F;have T:t≠d:=λe=>F (.inl e);simp only[ZdF]at f;subst f;obtain⟨v,M,q,_⟩:=r.look (Yp s c) (show look g [] t=_ from A) rfl;grind [Act.eval_tmp,Z3t];rename_i t p A;split at f;rename_i k;simp only[ZdJ,Zh1,ne_eq]at k;simp only[ZdE]at f;obtain⟨W,Q,f⟩:=f;split at f;cases f;rename_i X;simp only[ZdF]at f;subst f;obtain⟨z,N⟩:=H _ (List.Mem.head _);obtain⟨v,M,q,_⟩:=r.look (Yp s c) (show look g [] t=_ from A) rfl;rw[Act.eval_tmp a t v M];exact Z17 r O k.2 Q ZcK N q;cases f;rename_i A;simp only[ZdF]at f;subst f;rw[QW r (Yp s c) A]
 exact⟨h.put d (λ_=>xw) (YS h []),Sb (Zef _ _) (λ_ _ _=>rfl) Z1 (λu L=>by simp at L) (λR=>by simp at R),
  r.ok.put (ZdL _) (λu i b _ n=>(WZ n).1) (λi b n=>by cases n) (λi j b D P=>by cases D) (λi b u j L D P=>by cases D),Wk (ts:=[]) ⟨_,VB O _,rfl⟩⟩
 split at f;rename_i p U e l;simp only[ZdF]at f;subst f;unfold Fa at l;split at l;rename_i Z A;split at l;rename_i k;simp only[ZdJ,Zh1,ne_eq]at k;simp only[ZdI,ZdU]at l;obtain⟨⟨q1,q2⟩,l,rfl,rfl,rfl⟩:=l;obtain⟨v,M,y,Y,J⟩:=r.ownOf l;have q:a.tmps[Z]?=xk (a.eval _):=XC r (Yp s c) A rfl 0;grind [Option.some.injEq,Fb];grind;grind;simp only[ZdI]at f;obtain⟨b,n,rfl⟩:=f;obtain⟨z,N⟩:=H b.1 Z1;have S:=jW r n N;obtain⟨I,_⟩:=L6 r.ok b.2
 exact⟨(h.thaw b.2).put d (λ_=>xw) (YS (h.thaw b.2) []),Step.after (Sb (Zef _ _) (λ_ _ _=>rfl) Z1 (λu L=>by simp at L) (λR=>by simp at R)),
  I.put (ZdL _) (λu i b _ n=>(WZ n).1) (λi b n=>by cases n) (λi j b D P=>by cases D) (λi b u j L D P=>by cases D),Wk (ts:=[]) ⟨_,VB O _,z,N,S.mono λb n=>GH.ext_F n⟩⟩
def WH(d:Array Value)(o:Nat)(new:Array Value):Array Value:=(d.toList.take o++new.toList++d.toList.drop (o+new.size)).toArray
theorem BL{d new:Array Value}{o:Nat}(f:o+new.size<=d.size):(WH d o new).size=d.size:=by
 grind [WH]
theorem BK{d new:Array Value}{o:Nat}(f:o+new.size<=d.size){i:Nat}(j:i<new.size):(WH d o new).getD (o+i) undef=new.getD i undef:=by
 simp only[WH,ZdK,Zfk];grind
theorem yO{d new:Array Value}{o:Nat}(f:o+new.size<=d.size){i:Nat}(j:i<o\/o+new.size<=i):(WH d o new).getD i undef=d.getD i undef:=by
 simp only[WH,ZdK,Zfk];grind
theorem BO{P:Program}{T:TypeId}(q:X1 P T=xy){b o:Nat}{f:Array Value}{ty:TypeId}(r:w.heap[b]?=xk (.cells f ty (0,0))){v:Value}(D:v.cells.size=P.cellsOf T)(k:∀(i:Nat),i<v.cells.size->(v.cells.getD i undef).oneCell'=xy)(t:o+v.cells.size<=f.size):
  (Instr.storeAt T (.pointer (xk ⟨b,o,xw⟩)) v).run P w=.ok () (w.setRow b (WH f o v.cells)):=by
 obtain⟨d,i,z,A,F,_⟩:=VW q
 have x:=run_storeCells_at (P:=P) b o ty v.cells.toList 0 f w r Z0 (λu y=>by
  obtain⟨j,l⟩:=Zeb y;have n:j<v.cells.size:=by simpa using(ZdH.1 l).1
  have:=k j n;have p:v.cells.getD j undef=u:=by
   simp only[ZdK];rw[Zf3]at l;rw[l];rfl
  simp_all)
 simp_all[Zfr,Zg2,Instr.storeAt,Instr.sureAddr,storeVar,U1,WH]
theorem below_setRow(w:World){b:Nat}(d:B<=b)(cs:Array Value):Below B w (w.setRow b cs):=
 ⟨rfl,rfl,rfl,Z1,λk f=>ZfD w b k cs Z0⟩
theorem BW(f:Ok B G w h){b:Nat}(cs:Array Value){G':Nat->Prop}(d:∀x,G' x->x≠b):Same G' w (w.setRow b cs):=λx hx=>ZfD w b x cs (d x hx)
theorem yX{cs new:List (CK×E)}{o:Nat}(j:o+P new<=P cs):P (J8 cs o new)=P cs/\∀(i:Nat) (d:CK×E),(J8 cs o new)[i]?=xk d->(o<=i/\i<o+P new/\new[i-o]?=xk d)\/((i<o\/o+P new<=i)/\cs[i]?=xk d):=by
 unfold J8;refine⟨ZcL,λi d f=> ?_⟩;by_cases k:i<o;grind;by_cases l:i<o+P new;grind;right;rw[Ze6 ZcL,Ze9]at f;grind
theorem N5(k:Ok B G w h){p o b:Nat}{cs new:List (CK×E)}{l row:Array Value}{ty:TypeId}(z:h.bl p 0=xk b)(hh:w.heap[b]?=xk (.cells l ty (0,0)))(D:RelCs c.P B s w h p cs l)
  (a1:row.size=l.size) (Z:o+P new<=P cs) (Q:∀i,i<o\/o+P new<=i->row.getD i undef=l.getD i undef) {ts:List Nat} {f:Nat->Option Nat} (a4:p∉ts)
  (H:f 0=h.bl p 0) (n:∀i,i<o\/o+P new<=i->f (i+1)=h.bl p (i+1)) (J:∀i x,i<P new->f (o+i+1)=xk x->h.bl p (o+i+1)=xk x\/∃t∈ts,∃j,h.bl t j=xk x)
  (N:∀i j x,f i=xk x->f j=xk x->i=j)
  (O:∀(i:Nat) (q:CK×E),new[i]?=xk q->RelC c.P B s w h (f (o+i+1)) q.1 q.2 (row.getD (o+i) undef)) (tm:Nat->Option Value):
  ∃h',Ok B G (w.setRow b row) h'/\Step B (p::ts) ts [] w (w.setRow b row) h h'/\
   RelK c.P B s (w.setRow b row) h' tm p (.pointer (xk ⟨b,0,xw⟩)) (.mem (J8 cs o new)):=by
 obtain⟨W,a2,X⟩:=k.b_lt p 0 b z;obtain⟨a0,L⟩:=yX Z;have y:Same h.F w (w.setRow b row):=BW k _ λx hx e=>X (e▸hx);have I:∀i x,f (i+1)=xk x->x≠b/\((h.bl p (i+1)=xk x)\/∃t∈ts,∃j,h.bl t j=xk x):=by
  intro i x hx;have r:h.bl p (i+1)=xk x\/∃t∈ts,∃j,h.bl t j=xk x:=by
   by_cases a3:o<=i/\i<o+P new;have:=J (i-o) x Z0;grind;grind
  refine⟨λe=> ?_,r⟩;subst e;obtain r|⟨t,R,j,hj⟩:=r;grind;grind
 refine⟨h.put p f (YS h ts),k.put Z1 (λu i x _ hx=>(WZ hx).1) (λi x hx=>.inr ?_) N (λi x u j hu M hj=> ?_),
  Sb (below_setRow w W _) (λx hx hn=>ZfD w b x _ λe=>hn p Z1 0 (e▸z)) Z1 (λt R=>⟨by simp[R],R⟩) (λ_=>H),b,row,ty,by grind [GH.put],rfl,Zi0 w b l _ ty (0,0) hh,by rw[a1,D.1,a0],λi q M=> ?_⟩
 cases i with
 |zero=>grind
 |succ i=>
  grind
 obtain⟨k1,k2⟩:=WZ hj;cases i with
 |zero=>rw[H]at M;exact hu (k.inj u j p 0 x k1 M).1
 |succ i=>
  rcases(I i x M).2 with r|⟨t,R,j',Y⟩;exact hu (k.inj u j p (i+1) x k1 r).1;exact k2 ((k.inj u j t j' x k1 Y).1▸R)
 have A:(h.put p f (YS h ts)).bl p (i+1)=f (i+1):=by simp[GH.put]
 rw[A];have d:∀x,f (i+1)=xk x->(w.setRow b row).heap[x]?=w.heap[x]? :=λx hx=>ZfD w b x _ (I i x hx).1;obtain⟨S,r,T⟩|⟨S,T⟩:=L i q M;have:=O (i-o) q T;rw[show o+(i-o)=i from by omega]at this;exact this.keep y (λ_ U=>U) d;have:=D.2 i q T;rw[Q i S,n i S];rw[n i S]at d;exact this.keep y (λ_ U=>U) d
theorem KE{p o:Nat}{new:List (CK×E)}{k:TK}(f:Ug g p o new=xk k):∃d,memOf g p=xk d/\o+P new<=P d/\k=.mem (J8 d o new):=by
 grind [Ug,Option.bind_eq_some_iff,Option.some.injEq]
theorem L5(R:RelG c B G s a w h g){T:TypeId}(S:X1 c.P T=xy){p o b:Nat}{new:List (CK×E)}{k:TK}(W:Ug g p o new=xk k)(r:h.bl p 0=xk b){v:Value}(J:v.cells.size=c.P.cellsOf T)(l:P new=c.P.cellsOf T)
  {ts:List Nat} {f:Nat->Option Nat} (L:p∉ts) (I:f 0=h.bl p 0) (n:∀i,i<o\/o+P new<=i->f (i+1)=h.bl p (i+1)) (z:∀i x,i<P new->f (o+i+1)=xk x->h.bl p (o+i+1)=xk x\/∃t∈ts,∃j,h.bl t j=xk x)
  (A:∀i j x,f i=xk x->f j=xk x->i=j)
  (F:∀(i:Nat) (H:CK×E),new[i]?=xk H->RelC c.P B s w h (f (o+i+1)) H.1 H.2 (v.cells.getD i undef)):
  ∃w' h',(Instr.storeAt T (.pointer (xk ⟨b,o,xw⟩)) v).run c.P w=.ok () w'/\Ok B G w' h'/\Step B (p::ts) ts [] w w' h h'/\∃u,a.tmps[p]?=xk u/\RelK c.P B s w' h' (λp=>a.tmps[p]?) p u k:=by
 obtain⟨cs,U,D,rfl⟩:=KE W;obtain⟨b',q,ty,N,M,O,y⟩:=R.memOf U;rw[r]at N;cases N;have d:o+v.cells.size<=q.size:=by rw[y.1,J,<-l];exact D
 have X:v.cells.size=P new:=by rw[J,l]
 obtain⟨h',k1,Y,Z⟩:=N5 (row:=WH q o v.cells) R.ok r O y (BL d) D (λi Q=>yO d Z0) L I n z A (λi H Q=>by
  grind [BK,List.getElem?_eq_some_iff]) (λp=>a.tmps[p]?)
 refine⟨_,h',BO S O J (λi Q=> ?_) d,k1,Y,_,M,Z⟩;exact(F i new[i] (ZdG Z0)).cell
theorem Z7Q{n:Nat}{e:E}{z:V}{v:Value}(x:eval s e=xk z)(u:∀l,z≠.tup l)(k:Rd w h.F z v)(o:Option Nat){i:Nat}{f:CK×E}(j:i<P z.cells)(r:f=(CK.fz,E.fld e i)):RelC c.P B s w h o f.1 f.2 (v.cells.getD i undef):=by
 subst r;obtain⟨t,p,q⟩:=k.cells u;have d:z.cells[i]?=xk z.cells[i]:=ZdG j;refine⟨z.cells[i],?_,p _ (Ze0 _),q i _ d⟩;simp_all[eval,ZdQ,ZX,IB,YP,if_pos,Ze0]
theorem M2{β:Type}{n i:Nat}{f:Nat->β}{y:β}(d:((List.range n).map f)[i]?=xk y):i<n/\y=f i:=by
 grind
theorem GG(r:RelG c B G s a w h g){T:TypeId}(Z:X1 c.P T=xy)(a5:Y3 c.P T=xy\/c.P.cellsOf T=1){p o:Nat}{x:Operand}{m:MS}(u:zJ c g T p o x=xk m)(a2:∀e∈m.es,∃z,eval s e=xk z){b:Nat}(N:h.bl p 0=xk b):
  ∃w' h',(Instr.storeAt T (.pointer (xk ⟨b,o,xw⟩)) (a.eval x)).run c.P w=.ok () w'/\MPost c B G s a w w' h h' m:=by
 have H:∀fz,(h.thaw fz).bl p 0=xk b:=λfz=>by simp[GH.thaw,N]
 unfold zJ at u;simp only at u;split at u;rename_i a0;split at u;rename_i t cs hk;split at u;rename_i D;obtain⟨hl,F,_⟩:=D;simp only[ZdI]at u;obtain⟨k,q,rfl⟩:=u;obtain⟨v,hv,⟨vs,rfl,a1⟩,_⟩:=r.look (Yp s c) (show look g [] t=_ from hk) rfl;rw[Act.eval_tmp a t _ hv]
 obtain⟨w',h',I,J,L,M⟩:=L5 r Z q N (v:=.agg vs) (by show vs.size=_;rw[a1.1,hl]) hl (ts:=[t]) (f:=λi=>if o+1<=i/\i<o+1+(P cs) then h.bl t (i-o)else h.bl p i) (by simpa using ZfK F)
  (if_neg Z0) (λi d=>if_neg Z0) (λi x d hx=>.inr ⟨t,Z1,_,by rw[if_pos Z0]at hx;exact hx⟩) (λi j x d A=>by
   split at d<;>split at A;have:=(r.ok.inj t _ t _ x d A).2;omega;exact absurd (r.ok.inj t _ p _ x d A).1 F;exact absurd (r.ok.inj t _ p _ x A d).1 F;exact(r.ok.inj p _ p _ x d A).2)
  (λi Y d=>by
   have a3:=(ZdH.1 d).1;rw[if_pos Z0,show o+i+1-o=i+1 from by omega];exact a1.2 i Y d)
 exact⟨w',h',I,L,J,Wk (ts:=[t]) M⟩;cases u;simp only[ZdE,ZdI]at u;obtain⟨R,S,k,q,rfl⟩:=u;obtain⟨z,hz⟩:=a2 _ (List.Mem.head _);obtain⟨k1,k2,k3,k4⟩:=jX r S hz;obtain⟨O,a6,U⟩:=k4.cells k1
 obtain⟨w',h',I,J,L,M⟩:=L5 (r.frz R.2) Z q (H _) (O.trans (k2 rfl)) Z1 (ts:=[]) (f:=(h.thaw R.2).bl p) Z1 rfl (λ_ _=>rfl) (λi x _ hx=>.inl hx)
  (λi j x d A=>((L6 r.ok R.2).1.inj p i p j x d A).2) (λi Y d=>by
   obtain⟨a3,rfl⟩:=M2 d;exact Z7Q (n:=0) hz k1 k4 _ (by rw[k2 rfl];exact a3) rfl)
 exact⟨w',h',I,L.after,J,Wk (ts:=[]) M⟩;rename_i a0;have X:c.P.cellsOf T=1:=a5.resolve_left a0;split at u;rename_i t ty e hk;split at u;rename_i D;obtain⟨F,_⟩:=D;simp only[ZdI]at u;obtain⟨k,q,rfl⟩:=u;obtain⟨v,hv,⟨y,hy,Q⟩,_⟩:=r.look (Yp s c) (show look g [] t=_ from hk) rfl;rw[Act.eval_tmp a t _ hv];have a4:v.cells=#[v]:=by
  obtain⟨l,xs,_,_,_,⟨_,hc⟩,_⟩|⟨_,_,_,_,_,_,_,rfl,_⟩:=Q;obtain⟨rfl,_⟩|⟨_,_,_,rfl,_⟩:=hc<;>rfl;rfl
 obtain⟨w',h',I,J,L,M⟩:=L5 r Z q N (v:=v) (by rw[a4,X];rfl) (by rw[X];rfl) (ts:=[t]) (f:=λi=>if i=o+1 then h.bl t 1 else h.bl p i) (by simpa using ZfK F)
  (if_neg Z0) (λi d=>if_neg (by simp only[Zfl]at d;omega)) (λi x d hx=>.inr ⟨t,Z1,1,by simp only[Zfl]at d;rw[if_pos Z0]at hx;exact hx⟩) (λi j x d A=>by
   split at d<;>split at A;omega;exact absurd (r.ok.inj t _ p _ x d A).1 F;exact absurd (r.ok.inj t _ p _ x A d).1 F;exact(r.ok.inj p _ p _ x d A).2)
  (λi Y d=>by
   cases i with
   |zero=>simp at d;subst d;rw[if_pos Z0,a4];exact⟨y,hy,Q⟩
   |succ i=>simp at d)
 exact⟨w',h',I,L,J,Wk (ts:=[t]) M⟩;cases u;rename_i hk;simp only[ZdI]at u;obtain⟨k,q,rfl⟩:=u;rw[QW r (Yp s c) hk]
 obtain⟨w',h',I,J,L,M⟩:=L5 r Z q N (v:=.slice xw 0 0) (by rw[X];rfl) (by rw[X];rfl) (ts:=[]) (f:=h.bl p) Z1 rfl (λ_ _=>rfl) (λi x _ hx=>.inl hx)
  (λi j x d A=>(r.ok.inj p i p j x d A).2) (λi Y d=>by
   cases i with
   |zero=>simp at d;subst d;exact⟨rfl,rfl⟩
   |succ i=>simp at d)
 exact⟨w',h',I,L,J,Wk (ts:=[]) M⟩;simp only[ZdE,ZdI]at u;obtain⟨R,S,k,q,rfl⟩:=u;obtain⟨z,hz⟩:=a2 _ (List.Mem.head _);obtain⟨a7,W⟩:=Ha hz;have k4:=jW r S a7;obtain⟨O,a6,U⟩:=k4.cells (Hb W);rw[Ti W]at O U
 obtain⟨w',h',I,J,L,M⟩:=L5 (r.frz R.2) Z q (H _) (O.trans (by rw[X];rfl)) (by rw[X];rfl) (ts:=[]) (f:=(h.thaw R.2).bl p) Z1 rfl (λ_ _=>rfl) (λi x _ hx=>.inl hx)
  (λi j x d A=>((L6 r.ok R.2).1.inj p i p j x d A).2) (λi Y d=>by
   cases i with
   |zero=>simp at d;subst d;exact⟨z,hz,W,U 0 z rfl⟩
   |succ i=>simp at d)
 exact⟨w',h',I,L.after,J,Wk (ts:=[]) M⟩
end
end Vm
namespace Vm
open Go
open Go.RowKit (Below)
theorem MI{cs b:List V}{o:Nat}(f:o+P b<=P cs):P (setCells cs o b)=P cs/\(∀i,i<P b->(setCells cs o b)[o+i]?=b[i]?)/\∀i,i<o\/o+P b<=i->(setCells cs o b)[i]?=cs[i]? :=by
 unfold setCells;refine⟨ZcL,λi d=> ?_,λi d=> ?_⟩;grind;obtain d|d:=d;grind;rw[Ze6 ZcL,Ze9];grind
theorem Z6M{cs b:List V}{o:Nat}{x:V}(hx:x∈setCells cs o b):x∈cs\/x∈b:=by
 grind [setCells,List.mem_of_mem_take,List.mem_of_mem_drop]
theorem Z5e{y:V}{k o:Nat}{b:List V}(F:y.fits k)(N:∀x∈b,x.one=xy)(A:b≠[])(d:o+xq b<=xq y.cells):
  (y.put o b).fits k/\(∀i,i<xq b->(y.put o b).cells[o+i]?=b[i]?)/\∀i,i<o\/o+xq b<=i->(y.put o b).cells[i]?=y.cells[i]? :=by
 have other:y.cells=[y]->y.put o b=b.headD y->(y.put o b).fits k/\(∀i,i<xq b->(y.put o b).cells[o+i]?=b[i]?)/\∀i,i<o\/o+xq b<=i->(y.put o b).cells[i]?=y.cells[i]? :=by
  intro H t;have q:xq y.cells=1:=by rw[H];rfl
  match b,A,d with
  | [z],_,d=>
    simp only[Zfl]at d;have P:o=0:=Z0;subst P;have I:=N z Z1;have D:y.put 0 [z]=z:=by rw[t];rfl
    rw[D];refine⟨⟨by rw[Ti I,<-F.1,q];rfl,λc j=>by simp_all[Ti]⟩,λi O=> ?_,λi O=> ?_⟩;have:i=0:=ZcJ;subst this;rw[Ti I];simp_all[Ti,ZeJ]
  |z::R::r,_,d=>grind
 cases y with
 |agg u=>
  have p:o+xq b<=xq u:=d;obtain⟨J,L,M⟩:=MI p;refine⟨⟨by show xq (setCells u o b)=k;rw[J];exact F.1,λc j=> ?_⟩,L,M⟩;obtain j|j:=Z6M (show c∈setCells u o b from j);exact F.2 c j;simp_all
 |tup l=>exact other rfl rfl
 |int k n=>exact other rfl rfl
 |bool v=>exact other rfl rfl
 |str v=>exact other rfl rfl
 |sl l=>exact other rfl rfl
 |ptr l=>exact other rfl rfl
 |fn f=>exact other rfl rfl
 |clo f u=>exact other rfl rfl
 |nul k=>exact other rfl rfl
 |mp id ks Q=>exact other rfl rfl
theorem Nm{x i z u:V}{o:Nat}(d:R1 x i o z=xk u):∃l f q y,x=.sl l/\i=.int f (q:Nat)/\l[q]?=xk y/\o+P z.cells<=P y.cells/\z.cells≠[]/\u=.sl (l.set q (y.put o z.cells)):=by
 unfold R1 at d;split at d;rename_i l f i;split at d;rename_i k;obtain⟨q,rfl⟩:=ZdV k;rw[ZdW,ZdE]at d;obtain⟨y,n,d⟩:=d;split at d;rename_i j;simp only[ZdF]at d;exact⟨l,f,q,y,rfl,rfl,n,j.1,j.2,d.symm⟩;grind;grind;grind
section
variable {c:Ctx}{B:Nat}{G:Nat->Prop}{s:St}{a a':Act}{w w':World}{h h':GH}{g:Gam}{C:ZB}{fz ps rb:List Nat}
theorem OwnV.store(U:Ok B G w h){p i n:Nat}{ty:TypeId}{x u:V}{v:Value}(hv:OwnV c.P B w h (h.bl p i) ty x v)(O:h.bl p i=xk n){ki:IntKind}{q off:Nat}{z:V}(hu:R1 x (.int ki (q:Nat)) off z=xk u)
  {T:TypeId} (hT:X1 c.P T=xy) {H:Value} (c0:∀l,z≠.tup l) (b9:Rd w h.F z H) (d8:P z.cells=c.P.cellsOf T):
  ∃row,(Instr.storeAt T (.pointer (xk ⟨n,q*c.P.cellsOf ty+off,xw⟩)) H).run c.P w=.ok () (w.setRow n row)/\OwnV c.P B (w.setRow n row) h (h.bl p i) ty u v:=by
 obtain⟨l,xs,rfl,h0,R,X,J,b1⟩|⟨_,_,_,_,_,_,rfl,_⟩:=hv;case inr=>grind [Nm]
 obtain⟨l',d9,f,y,a4,a9,hy,S,a7,rfl⟩:=Nm hu;cases a4;simp only[V.int.injEq]at a9;have b0:f=q:=Z0;subst b0;obtain⟨d0,c1,a6⟩:=U.b_lt p i n O;obtain⟨Z,b4,a0⟩:=b9.cells c0;have a2:=R y (ZdO hy);obtain⟨f1,f2,f3⟩:=Z5e a2 (λx hx=>b4 x hx) a7 S;have hq:f<P l:=(ZdH.1 hy).1;have d5:f*c.P.cellsOf ty+c.P.cellsOf ty<=P l*c.P.cellsOf ty:=by rw[<-Zf8];exact Zeo _ hq
 rw[a2.1]at S;obtain⟨rfl,hn⟩|⟨M,cap,d,rfl,hB,hh,a5,Q,b5,b6⟩:=X.2;omega;have a8:M=n:=by
  have:Value.ownBlock (.slice (xk ⟨M,0,xw⟩) (P l) cap)=xk M:=rfl;rw[this,O]at J;cases J;rfl
 subst a8;have c7:P l*c.P.cellsOf ty<=d.size:=by rw[b5];exact Zeo _ a5
 have t:(f*c.P.cellsOf ty+off)+H.cells.size<=d.size:=by rw[Z];omega
 refine⟨WH d (f*c.P.cellsOf ty+off) H.cells,BO hT hh Z0 (λj hj=> ?_) t,?_⟩;have a3:j<P z.cells:=by rw[<-Z];exact hj
 have:=a0 j z.cells[j] (ZdG a3);rw[this.one_eq];simp_all;have A:∀x∈l.set f (y.put off z.cells),x.fits (c.P.cellsOf ty):=by
  intro x hx;obtain hx|rfl:=Zfh hx;simp_all;exact f1
 have N:Same h.F w (w.setRow M (WH d (f*c.P.cellsOf ty+off) H.cells)):=BW U _ λx hx e=>a6 (e▸hx);have b2:=BL t;refine .inl ⟨l.set f (y.put off z.cells),(WH d (f*c.P.cellsOf ty+off) H.cells).toList.take (P l*c.P.cellsOf ty),rfl,h0,A,⟨ZcK,.inr ⟨M,cap,_,Z1,hB,Zi0 w M d _ ty (0,0) hh,ZcK,Q,Z0,Z1⟩⟩,J,λj ck hj=> ?_⟩;obtain⟨k,r,y2,I,hr,rfl,b8⟩:=jm A h0 hj;have Y:k<P l:=by simpa using(ZdH.1 I).1
 have c5:k*c.P.cellsOf ty+c.P.cellsOf ty<=P l*c.P.cellsOf ty:=by rw[<-Zf8];exact Zeo _ Y
 have c9:k*c.P.cellsOf ty+r< (WH d (f*c.P.cellsOf ty+off) H.cells).size:=by rw[b2];omega
 refine⟨(WH d (f*c.P.cellsOf ty+off) H.cells).getD (k*c.P.cellsOf ty+r) undef,?_,?_⟩;rw[Zej,if_pos Z0,Zf3];simp_all
 ·
  have e0:∀y0,l[k]?=xk y0->y0.cells[r]?=xk ck->(k*c.P.cellsOf ty+r<f*c.P.cellsOf ty+off\/f*c.P.cellsOf ty+off+H.cells.size<=k*c.P.cellsOf ty+r)->
    Rd (w.setRow M (WH d (f*c.P.cellsOf ty+off) H.cells)) h.F ck ((WH d (f*c.P.cellsOf ty+off) H.cells).getD (k*c.P.cellsOf ty+r) undef):=by
   intro y0 d6 d7 W;obtain⟨u0,a1,b3⟩:=b1 (k*c.P.cellsOf ty+r) ck (by simp_all[Vp]);rw[yO t W];have:d.getD (k*c.P.cellsOf ty+r) undef=u0:=by
    rw[<-b6,Zej,if_pos Z0]at a1;have b7:d[k*c.P.cellsOf ty+r]?=xk u0:=by simpa using a1
    simp[ZdK,b7]
   rw[this];exact b3.keep N λ_ J=>J
  by_cases L:k=f;subst L;rw[Zfe hq]at I;cases I;by_cases c8:off<=r/\r<off+P z.cells;have h2:=f2 (r-off) Z0;rw[show off+(r-off)=r from by omega,b8]at h2;have h3:=BK t (i:=r-off) Z0;rw[show k*c.P.cellsOf ty+off+(r-off)=k*c.P.cellsOf ty+r from by omega]at h3;rw[h3];exact(a0 (r-off) ck h2.symm).keep N λ_ J=>J;grind;rw[ZeS (ZfK L)]at I;have c6:k*c.P.cellsOf ty+c.P.cellsOf ty<=f*c.P.cellsOf ty\/f*c.P.cellsOf ty+c.P.cellsOf ty<=k*c.P.cellsOf ty:=by
   obtain D|D:=ZgB L;left;rw[<-Zf8];exact Zeo _ D;right;rw[<-Zf8];exact Zeo _ D
  grind
theorem Z3p(hr:RelG c B G s a w h g){T:TypeId}(hT:X1 c.P T=xy)(b6:Y3 c.P T=xy\/c.P.cellsOf T=1){p off kk:Nat}{i:Option Nat}{j:E}{x:Operand}{m:MS}(r:Al c g T p i j off kk x=xk m)(a1:∀e∈m.es,∃z,eval s e=xk z)
  {n q:Nat} (a0:h.bl p (SM i)=xk n) {ki:IntKind} (hj:eval s j=xk (.int ki (q:Nat))):
  ∃w' h',(Instr.storeAt T (.pointer (xk ⟨n,q*kk+off,xw⟩)) (a.eval x)).run c.P w=.ok () w'/\MPost c B G s a w w' h h' m:=by
 unfold Al at r;simp only[ZdE]at r;obtain⟨Q,a6,r⟩:=r;split at r;cases r;rename_i b1;have a4:p∉Q.2:=by simpa using b1
 have U:∀i,(h.thaw Q.2).bl p i=h.bl p i:=λi=>by simp[GH.thaw,a4]
 have d:=hr.frz Q.2;have N:∀ {e1 e2:E} {u:V},eval s (.upd e1 j off e2)=xk u->∃y z,eval s e1=xk y/\eval s e2=xk z/\R1 y (.int ki (q:Nat)) off z=xk u:=by
  intro e1 e2 u O;simp only[eval,hj,ZdQ,ZdE]at O;obtain⟨y,hy,z,Z,O⟩:=O;exact⟨y,z,hy,Z,O⟩
 have zs:∀ {z:V},eval s (WK (Y3 c.P T) (c.P.cellsOf T) Q.1)=xk z->(∀l,z≠.tup l)/\Rd w (h.thaw Q.2).F z (a.eval x)/\P z.cells=c.P.cellsOf T:=by
  intro z Z;obtain⟨k1,k2,k3,k4⟩:=jX hr a6 Z;refine⟨k1,k4,?_⟩;cases b7:Y3 c.P T with
  |true=>grind
  |false=>
   simp_all[Ti]
 split at r;simp only[ZdE]at r;obtain⟨⟨ty,e⟩,ho,r⟩:=r;split at r;rename_i R;simp only[ZdF]at r;subst r;simp only at R;subst R;obtain⟨v,hv,y,hy,H⟩:=d.ownOf ho;obtain⟨u,O⟩:=a1 _ (List.Mem.head _);obtain⟨y',z,M,Z,L⟩:=N O;rw[hy]at M;cases M;obtain⟨k1,k2,k3⟩:=zs Z;have f:(h.thaw Q.2).bl p 1=xk n:=by rw[U];exact a0
 obtain⟨row,J,I⟩:=H.store d.ok f L hT k1 k2 k3;obtain⟨Y,a3,_⟩:=d.ok.b_lt p 1 n f
 refine⟨_,h.thaw Q.2,J,Step.after ⟨below_setRow w Y _,λx hx hn=>ZfD w n x _ λe=>hn p Z1 1 (e▸f),λ_ A=>A,λ_ _ _=>rfl,λ_ _=>rfl,λ_ _ _ _ r=>(by simp at r),rfl⟩,
  ⟨by simp;exact d.ok.base,λb A=>(by simp;exact d.ok.f_lt b A),d.ok.f_or,d.ok.g_F,λt i b A=>(by simp;exact d.ok.b_lt t i b A),d.ok.inj,λb A=>(by simp;exact d.ok.k_lt b A),d.ok.k_bl,d.ok.k_F⟩,Wk (ts:=[]) ⟨v,hv,u,O,I⟩⟩
 cases r;rename_i q0;simp only[ZdE]at r;obtain⟨cs,W,r⟩:=r;split at r;rename_i ty e0 hc;split at r;rename_i R;subst R;simp only[ZdI]at r;obtain⟨k,a5,rfl⟩:=r;obtain⟨b5,D,a8,rfl⟩:=KE a5;rw[W]at D;cases D;obtain⟨b,vs,b4,S,b3,hh,X⟩:=d.memOf W;obtain⟨y,hy,H⟩:=X.2 q0 _ hc;obtain⟨u,O⟩:=a1 _ (List.Mem.head _);obtain⟨y',z,M,Z,L⟩:=N O;rw[hy]at M;cases M;obtain⟨k1,k2,k3⟩:=zs Z;have f:(h.thaw Q.2).bl p (q0+1)=xk n:=by rw[U];exact a0
 obtain⟨row,J,I⟩:=H.store d.ok f L hT k1 k2 k3;obtain⟨Y,a3,a9⟩:=d.ok.b_lt p (q0+1) n f;have b8:b≠n:=λe=>by
  subst e;have:=(d.ok.inj p 0 p (q0+1) b S f).2;omega
 obtain⟨b2,a2⟩:=yX a8
 refine⟨_,h.thaw Q.2,J,Step.after ⟨below_setRow w Y _,λx hx hn=>ZfD w n x _ λe=>hn p Z1 (q0+1) (e▸f),λ_ A=>A,λ_ _ _=>rfl,λ_ _=>rfl,λ_ _ _ _ r=>(by simp at r),rfl⟩,
  ⟨by simp;exact d.ok.base,λb A=>(by simp;exact d.ok.f_lt b A),d.ok.f_or,d.ok.g_F,λt i b A=>(by simp;exact d.ok.b_lt t i b A),d.ok.inj,λb A=>(by simp;exact d.ok.k_lt b A),d.ok.k_bl,d.ok.k_F⟩,
  Wk (ts:=[]) ⟨_,b3,b,vs,b4,S,rfl,by simp_all[ZfD],by rw[X.1,b2],λi ck hi=> ?_⟩⟩
 obtain⟨h1,h2,h3⟩|⟨h1,h3⟩:=a2 i ck hi;have a7:i=q0:=by simp only[Zfl]at h2;omega
 subst a7;simp at h3;subst h3;exact⟨u,O,I⟩;refine(X.2 i ck h3).keep (BW d.ok _ λx hx e=>a9 (e▸hx)) (λ_ A=>A) λx hx=>ZfD w n x _ λe=> ?_;subst e;have:=(d.ok.inj p (i+1) p (q0+1) x hx f).2;grind;cases r;cases r
theorem OG{x i u z:V}{n k:Nat}(f:Ut x i n k z=xk u):∃d l j,x=.agg d/\i=.int l (j:Nat)/\j<n/\P d=n*k/\P z.cells=k/\u=.agg (setCells d (j*k) z.cells):=by
 unfold Ut at f;split at f;rename_i d l i;split at f;rename_i t;obtain⟨p,y,q,r⟩:=t;obtain⟨j,rfl⟩:=ZdV p;simp only[ZdW,ZdF]at f;exact⟨d,l,j,rfl,rfl,Z0,q,r,f.symm⟩;grind;grind
theorem Z3o(hr:RelG c B G s a w h g){T:TypeId}(hT:X1 c.P T=xy){p o n d:Nat}{j:E}{x:Operand}{m:MS}(H:Ak c g T p o j n d x=xk m)(a7:∀e∈m.es,∃z,eval s e=xk z)
  {b q:Nat} (Y:h.bl p 0=xk b) {ki:IntKind} (hj:eval s j=xk (.int ki (q:Nat))) (hq:q<n):
  ∃w' h',(Instr.storeAt T (.pointer (xk ⟨b,o+q*d,xw⟩)) (a.eval x)).run c.P w=.ok () w'/\MPost c B G s a w w' h h' m:=by
 unfold Ak at H;simp only[ZdE]at H;obtain⟨b0,a5,H⟩:=H;split at H;cases H;rename_i I;simp only[ZdY,ZeH,Ze2,not_or,Decidable.not_not,Zgi,Zgo]at I;obtain⟨d5,hk⟩:=I;simp only[ZdE]at H;obtain⟨cs,O,H⟩:=H;split at H;rename_i W;obtain⟨a2,a1⟩:=W;simp only[ZdI]at H;obtain⟨k,a3,rfl⟩:=H;obtain⟨c6,J,a9,rfl⟩:=KE a3;rw[O]at J;cases J;obtain⟨b',D,ty,h1,b6,hh,R⟩:=hr.memOf O;rw[Y]at h1;cases h1;obtain⟨u,hu⟩:=a7 _ (List.Mem.head _);have b7:=hu;simp only[eval,hj,ZdQ,ZdE]at hu;obtain⟨y,hy,z,hz,hu⟩:=hu;obtain⟨l,e4,r,rfl,b2,b3,Z,c0,rfl⟩:=OG hu;have b4:r=q:=by simp only[V.int.injEq]at b2;omega
 subst b4;obtain⟨k1,k2,k3,k4⟩:=jX hr a5 hz;have hF:∀b,(h.thaw b0.2).F b->h.F b:=by
  intro b X;obtain X|⟨t,ht,_⟩:=X;exact X;simp_all
 have k4:=k4.mono hF;obtain⟨a4,d0,b5⟩:=k4.cells k1;have b1:Wi ((cs.drop o).take (n*d))=xh:=by
  simp only[Wi,ZgI,ZgU,Zha,ne_eq];intro ck Q hd;have:=ZdR.1 a1 ck Q;rw[hd]at this;simp at this
 have c9:Us ((cs.drop o).take (n*d))=xh:=by
  simp only[Us,ZgI,ZgU];intro ck Q;have:=ZdR.1 a1 ck Q;simp only[Zeq]at this;rw[this]
 obtain⟨xs,d7,d8,d9,b8,e0⟩:=R.part_rd a2 b1 (G':=h.F) (λ_ X=>X) (λho=>ZcK);have c1:r*d+d<=n*d:=by rw[<-Zf8];exact Zeo _ b3
 have S:0<n*d\/n*d=0:=Z0;have a6:l=xs:=by
  obtain c5|b9:=S;grind [eval,UL,jc,Option.some.injEq,V.agg.injEq];simp_all
 subst a6;have d6:(a.eval x).cells.size=d:=by rw[a4,c0]
 have c8:o+n*d<=D.size:=by
  have:=R.1;simp only[ZeU,ZfM]at a2;omega
 have A:(o+r*d)+(a.eval x).cells.size<=D.size:=Z0;have N:∀i (y:V),l[i]?=xk y->y.one=xy/\Rd w h.F y (D.getD (o+i) undef):=by
  intro i y M;have U:i<n*d:=by rw[<-Z];exact(ZdH.1 M).1
  cases b8 with
  |agg _ _ e1 e2 e3=>
   have:=e3 i y M;have hg:((D.toList.drop o).take (n*d)).toArray.getD i undef=D.getD (o+i) undef:=by
    simp only[ZdK,Zfk,Zej,if_pos U,Ze9,Zf3]
   grind
 obtain⟨g1,g2,g3⟩:=MI (cs:=l) (b:=z.cells) (o:=r*d) Z0
 obtain⟨h',e1,e2,e3⟩:=N5 (row:=WH D (o+r*d) (a.eval x).cells) (new:=(List.range (n*d)).map λi=>(CK.fz,E.fld (E.aput (if UL (c.ix p) o ((cs.drop o).take (n*d))=xy then E.mm (c.ix p) o (n*d)else .ag (((cs.drop o).take (n*d)).map (·.2))) j n d (WK (Y3 c.P T) (c.P.cellsOf T) b0.1)) i)) hr.ok Y hh R (BL A) a9 (λi M=>yO A ZcJ) (ts:=[]) (f:=h.bl p) Z1 rfl (λ_ _=>rfl) (λi x _ hx=>.inl hx)
  (λi j x M hj=>(hr.ok.inj p i p j x M hj).2) (λi ck M=>by
   obtain⟨U,rfl⟩:=M2 M;have a0:i< P (setCells l (r*d) z.cells):=by rw[g1,Z];exact U
   have key:((setCells l (r*d) z.cells)[i]).one=xy/\Rd w h.F (setCells l (r*d) z.cells)[i] ((WH D (o+r*d) (a.eval x).cells).getD (o+i) undef):=by
    have L:(setCells l (r*d) z.cells)[i]?=xk (setCells l (r*d) z.cells)[i]:=ZdG a0;by_cases c7:r*d<=i/\i<r*d+d;have h2:=g2 (i-r*d) Z0;rw[show r*d+(i-r*d)=i from by omega,L]at h2;have h3:=BK A (i:=i-r*d) Z0;rw[show o+r*d+(i-r*d)=o+i from by omega]at h3;grind;have h2:=g3 i Z0;rw[L]at h2;rw[yO A Z0];exact N i _ h2.symm
   refine⟨_,?_,key.1,key.2⟩;refine Eq.trans (b:=(xk (V.agg (setCells l (r*d) z.cells))).bind λy=>ZX y i) (ZeX (λy=>Option.bind y λy=>ZX y i) b7) ?_;show((setCells l (r*d) z.cells)[i]?).bind YP=_;rw[ZdG a0,ZdQ];unfold YP;grind) (λp=>a.tmps[p]?)
 exact⟨_,h',BO hT hh Z0 (λi M=>by
  have a8:i<P z.cells:=by rw[<-a4];exact M
  rw[(b5 i _ (ZdG a8)).one_eq];simp_all) A,e2,e1,Wk (ts:=[]) ⟨_,b6,e3⟩⟩
 cases H
end
end Vm
namespace Vm
open Go
open Go.RowKit (Below)
open Go.MapKept (IsKey bytes_beq sameNow_of_keys run_checkKey run_findKey run_keyThatStays)
def WQ(w:World)(b:Nat)(o:Obj):World:= {w with heap:=w.heap.setIfInBounds b o}
theorem yW(w:World)(b:Nat)(o:Obj):U (R (WQ w b o))=U (R w):=by simp[WQ]
theorem KV(w:World)(b x:Nat)(o:Obj)(h:x≠b):(WQ w b o).heap[x]?=w.heap[x]? :=by
 simp[WQ,ZeE (ZfK h)]
theorem Z6L{w:World}{b:Nat}(o:Obj)(h:b<U (R w)):(WQ w b o).heap[b]?=xk o:=by
 simp[WQ,h]
theorem P9{B:Nat}(w:World){b:Nat}(o:Obj)(h:B<=b):Below B w (WQ w b o):=
 ⟨rfl,rfl,rfl,by simp[WQ],λx hx=>KV w b x o Z0⟩
section
variable {c:Ctx}{B:Nat}{G:Nat->Prop}{s:St}{a a':Act}{w w':World}{h h':GH}{g:Gam}{C:ZB}{fz ps rb:List Nat}
theorem Z3h(n:RelG c B G s a w h g){d:Nat}{T:TypeId}{x:Operand}{m:MS}(Y:d<a.tmps.size)(r:Af c g d T x=xk m):
  ∃v w' h',(Instr.box T (a.eval x)).run c.P w=.ok v w'/\MPost c B G s (a.put (xk d) v) w w' h h' m:=by
 unfold Af at r;split at r
 .rename_i t ty e H;split at r
  .rename_i q;obtain⟨U,_⟩:=q;simp only[ZdF]at r;subst r;obtain⟨v,W,⟨y,hy,D⟩,_⟩:=n.look (Yp s c) (show look g [] t=_ from H) rfl;rw[Act.eval_tmp a t v W];have N:v.cells=#[v]:=by
    obtain⟨l,xs,_,_,_,⟨_,Z⟩,_⟩|⟨_,_,_,_,_,_,_,rfl,_⟩:=D;obtain⟨rfl,_⟩|⟨_,_,_,rfl,_⟩:=Z<;>rfl;rfl
   have A:=Zf4 w (.cells v.cells T) xw;have S:xz (xj (w.alloc (.cells v.cells T)))=xz (xj w)+1:=Z1;have Q:Same h.F w (w.alloc (.cells v.cells T)):=λb f=>A.block b (n.ok.f_lt b f) Z1
   refine⟨.pointer (xk ⟨xz (xj w),0,xw⟩),_,h.put d (λi=>if i=0 then xk (xz (xj w)) else if i=1 then h.bl t 1 else xw) (YS h [t]),by simp[Instr.box,BM],
    Sb (Qk n.ok A) (λb f _=>A.block b f Z1) Z1 (λu I=>by simp at I;subst I;simp) (λR=>by simp at R),
    n.ok.put Z0 (λu i b _ f=>(WZ f).1) (λi b f=> ?_) (λi j b k p=> ?_) (λi b u j I k p=> ?_),Wk (ts:=[t]) ⟨_,VB Y _,xz (xj w),v.cells,T,by simp[GH.put],rfl,Ze7 w _,by rw[N];rfl,λi X k=> ?_⟩⟩
   split at f;simp only[ZdF]at f;subst f;exact .inl ⟨ZdL _,Z0⟩;split at f;exact .inr ⟨t,1,f⟩;cases f
   .have z:∀ {b},h.bl t 1=xk b->b<xz (xj w):=λf=>(n.ok.b_lt t 1 _ f).2.1;split at k<;>split at p<;>(try split at k)<;>(try split at p)<;>first|(cases k;done)|(cases p;done)|omega|skip
    simp only[ZdF]at k;subst k;have:=z p;omega;simp only[ZdF]at p;subst p;have:=z k;omega
   obtain⟨J,O⟩:=WZ p;split at k;simp only[ZdF]at k;subst k;have:=(n.ok.b_lt u j _ J).2.1;omega;split at k;exact O (by simp[(n.ok.inj t 1 u j b k J).1]);cases k;cases i with
   |zero=>
    simp at k;subst k;refine⟨y,hy,?_⟩;have M:v.cells.getD 0 undef=v:=by rw[N];rfl
    rw[M];have H:=D.keep (h':=h.put d (λi=>if i=0 then xk (xz (xj w)) else if i=1 then h.bl t 1 else xw) (YS h [t])) Q (λ_ f=>f) λb f=>A.block b (n.ok.b_lt t 1 b f).2.1 Z1;simpa[GH.put]using H
   |succ i=>simp at k
  cases r
 rename_i t cs H;split at r;rename_i q;obtain⟨U,_⟩:=q;simp only[ZdF]at r;subst r;obtain⟨v,W,⟨vs,rfl,L⟩,_⟩:=n.look (Yp s c) (show look g [] t=_ from H) rfl;rw[Act.eval_tmp a t _ W];have A:=Zf4 w (.cells (Value.agg vs).cells T) xw;have S:xz (xj (w.alloc (.cells (Value.agg vs).cells T)))=xz (xj w)+1:=Z1;have Q:Same h.F w (w.alloc (.cells (Value.agg vs).cells T)):=λb f=>A.block b (n.ok.f_lt b f) Z1;have z:∀ {i b},h.bl t i=xk b->b<xz (xj w):=λf=>(n.ok.b_lt t _ _ f).2.1
 refine⟨.pointer (xk ⟨xz (xj w),0,xw⟩),_,h.put d (λi=>if i=0 then xk (xz (xj w)) else h.bl t i) (YS h [t]),by simp[Instr.box,BM],
  Sb (Qk n.ok A) (λb f _=>A.block b f Z1) Z1 (λu I=>by simp at I;subst I;simp) (λR=>by simp at R),
  n.ok.put Z0 (λu i b _ f=>(WZ f).1) (λi b f=> ?_) (λi j b k p=> ?_) (λi b u j I k p=> ?_),Wk (ts:=[t]) ⟨_,VB Y _,xz (xj w),vs,T,by simp[GH.put],rfl,Ze7 w _,L.1,λi X k=> ?_⟩⟩
 split at f;simp only[ZdF]at f;subst f;exact .inl ⟨ZdL _,Z0⟩;exact .inr ⟨t,i,f⟩;split at k<;>split at p;omega;simp only[ZdF]at k;subst k;have:=z p;omega;simp only[ZdF]at p;subst p;have:=z k;omega;exact(n.ok.inj t i t j b k p).2;obtain⟨J,O⟩:=WZ p;split at k;simp only[ZdF]at k;subst k;have:=(n.ok.b_lt u j _ J).2.1;omega;exact O (by simp[(n.ok.inj t i u j b k J).1]);have H:=(L.2 i X k).keep (h':=h.put d (λi=>if i=0 then xk (xz (xj w)) else h.bl t i) (YS h [t])) Q (λ_ f=>f) λb f=>A.block b (n.ok.b_lt t (i+1) b f).2.1 Z1;simpa[GH.put]using H;cases r;cases r
def Z50(c:Ctx)(B:Nat)(s:St)(a:Act)(w:World)(h:GH)(g:Gam)(p:Nat)(ty:TypeId)(e:E)(v:Value):Option Nat->Prop
 |none=>a.tmps[p]?=xk v
 |some j=>∃d,memOf g p=xk d/\d[j]?=xk (.own ty,e)/\∃b vs T,h.bl p 0=xk b/\a.tmps[p]?=xk (.pointer (xk ⟨b,0,xw⟩))/\w.heap[b]?=xk (.cells vs T (0,0))/\RelCs c.P B s w h p d vs/\vs.getD j undef=v
theorem Z38(A:RelG c B G s a w h g){x:Operand}{p:Nat}{i:Option Nat}{ty:TypeId}{e:E}(f:A9 g x=xk (p,i,ty,e)):
  ∃X,eval s e=xk X/\OwnV c.P B w h (h.bl p (SM i)) ty X (a.eval x)/\Z50 c B s a w h g p ty e (a.eval x) i:=by
 unfold A9 at f;split at f;rename_i t F H z;split at f;simp only[ZdF,ZdU]at f;obtain⟨rfl,rfl,rfl,rfl⟩:=f;obtain⟨v,D,⟨X,y,d⟩,_⟩:=A.look (Yp s c) (show look g [] t=_ from z) rfl;rw[Act.eval_tmp a t v D];exact⟨X,y,d,D⟩;cases f;rename_i x _ _ q z;simp only[ZdI]at f;obtain⟨⟨F,H⟩,Q,f⟩:=f;simp only[ZdU]at f;obtain⟨rfl,rfl,rfl,rfl⟩:=f;obtain⟨v,D,X,y,d⟩:=A.ownOf Q;have l:a.tmps[q]?=xk (a.eval x):=XC A (Yp s c) z rfl 0;rw[D]at l;simp only[ZdF]at l;rw[<-l];exact⟨X,y,d,D⟩;rename_i x _ _ q j z;simp only[ZdE]at f;obtain⟨N,r,f⟩:=f;split at f;rename_i F H M;simp only[ZdF,ZdU]at f;obtain⟨rfl,rfl,rfl,rfl⟩:=f;obtain⟨b,vs,T,I,O,J,L⟩:=A.memOf r;obtain⟨X,y,d⟩:=L.2 j _ M;obtain⟨R,u,k⟩:∃b,h.bl q 0=xk b/\w.cell? ⟨b,j,xw⟩=xk (a.eval x):=XC A (Yp s c) z rfl 0;rw[I]at u;cases u;rw[ZdT w b j vs T (0,0) J]at k;have n:vs.getD j undef=a.eval x:=by simp[ZdK,k]
 rw[n]at d;exact⟨X,y,d,N,r,M,b,vs,T,I,O,J,L,n⟩;cases f;cases f
theorem GE(J:RelG c B G s a w h g)(ha:a'.tmps=a.tmps){T:TypeId}{x:Operand}{f:E->E}{m:MS}(L:zI g T x f=xk m)(a9:∀e∈m.es,∃z,eval s e=xk z)
  (S:∀e z,eval s (f e)=xk z->∃X,eval s e=xk X/\∃id ks U,X=.mp id ks U):
  ∃e id ks U b Q O,eval s e=xk (.mp id ks U)/\(∃z,eval s (f e)=xk z)/\a.eval x=.map (xk b)/\w.heap[b]?=xk (.map Q O)/\P ks=Q.size/\P U=Q.size/\
   (∀(i:Nat) (c:V),ks[i]?=xk c->Rd w h.F c (Q.getD i default).key)/\(∀(i:Nat) (c:V),U[i]?=xk c->Rd w h.F c (Q.getD i default).val)/\
   ∀r u d n,eval s (f e)=xk (.mp id r u)->P r=d.size->P u=d.size->(∀(i:Nat) (c:V),r[i]?=xk c->Rd w h.F c (d.getD i default).key)->(∀(i:Nat) (c:V),u[i]?=xk c->Rd w h.F c (d.getD i default).val)->
    MPost c B G s a' w (WQ w b (.map d n)) h h m:=by
 unfold zI at L;simp only[ZdE]at L;obtain⟨⟨p,i,ty,e⟩,a8,L⟩:=L;split at L;rename_i a2;simp only at a2;subst a2;simp only[ZdI]at L;obtain⟨k,I,rfl⟩:=L;obtain⟨X,hX,a1,A⟩:=Z38 J a8;obtain⟨z,hz⟩:=a9 _ (List.Mem.head _);obtain⟨X',W,id,ks,U,rfl⟩:=S e z hz;rw[hX]at W;cases W;obtain⟨l,_,hl,_⟩|⟨b9,r,u,b,Q,O,a7,hv,N,hB,hid,hh,h1,h2,h3,h4⟩:=a1;cases hl;cases a7;refine⟨e,id,ks,U,b,Q,O,hX,⟨z,hz⟩,hv,hh,h1,h2,h3,h4,λr u d n he a3 a4 a5 a6=> ?_⟩;obtain⟨b7,b3,b4⟩:=J.ok.b_lt p (SM i) b N;have hF:Same h.F w (WQ w b (.map d n)):=λy M=>KV w b y _ λe=>b4 (e▸M);have H:OwnV c.P B (WQ w b (.map d n)) h (h.bl p (SM i)) ty (.mp id r u) (a.eval x):=
  .inr ⟨id,r,u,b,d,n,rfl,hv,N,hB,hid,Z6L _ b3,a3,a4,λi c Z=>(a5 i c Z).keep hF λ_ R=>R,λi c Z=>(a6 i c Z).keep hF λ_ R=>R⟩
 refine⟨⟨P9 w _ hB,λy M hn=>KV w b y _ λe=>hn p Z1 (SM i) (e▸N),λ_ R=>R,λ_ _ _=>rfl,λ_ _=>rfl,λ_ _ _ _ L=>(by simp at L),rfl⟩,
  ⟨by grind [yW],λy M=>by rw[yW];exact J.ok.f_lt y M,J.ok.f_or,J.ok.g_F,λt j y M=>by rw[yW];exact J.ok.b_lt t j y M,J.ok.inj,λy M=>by rw[yW];exact J.ok.k_lt y M,J.ok.k_bl,J.ok.k_F⟩,?_⟩
 obtain _|j:=i;simp only[IT,ZdF]at I;subst I;exact Wk (ts:=[]) ⟨_,by rw[ha];exact A,_,he,H⟩;obtain⟨cs,a0,hc,b0,vs,T',e1,e2,e3,e4,e5⟩:=A;obtain⟨b6,D,b2,rfl⟩:=KE I;rw[a0]at D;cases D;have b8:b0≠b:=λe=>by
  simp_all
 obtain⟨b5,Y⟩:=yX b2;refine Wk (ts:=[]) ⟨_,ZcK,b0,vs,T',e1,rfl,by simp_all[KV],by rw[e4.1,b5],λq ck Z=> ?_⟩;obtain⟨q1,q2,q3⟩|⟨q1,q3⟩:=Y q ck Z;have b1:q=j:=by simp only[Zfl]at q2;omega
 subst b1;simp at q3;subst q3;exact⟨_,he,by rw[e5];exact H⟩;refine(e4.2 q ck q3).keep hF (λ_ R=>R) λy M=>KV w b y _ λe=> ?_;subst e;have:=(J.ok.inj p (q+1) p (j+1) y M N).2;grind;cases L
theorem Z3j(D:RelG c B G s a w h g)(A:a'.tmps=a.tmps){T ty:TypeId}{x:Operand}{m:MS}(f:Ah c g T x=xk m)(n:∀e∈m.es,∃z,eval s e=xk z):
  ∃v w' h',(Builtin.clear_ #[T] ty #[a.eval x]).run c.P w=.ok v w'/\MPost c B G s a' w w' h h' m:=by
 unfold Ah at f;split at f;rename_i k;unfold jR at k;split at k;rename_i N F l;obtain⟨e,id,ks,O,b,H,d,r,_,t,q,I,J,L,M,u⟩:=GE D A f n λe z j=>by
  simp only[eval,ZdE]at j;obtain⟨X,y,j⟩:=j;refine⟨X,y,?_⟩;cases X<;>simp[K5]at j;simp
 refine⟨.tuple #[],WQ w b (.map #[] d),h,?_,u [] [] #[] d (by simp[eval,r,K5]) rfl rfl (λi c p=>by simp at p) (λi c p=>by simp at p)⟩;rw[t];simp[Builtin.clear_,Zev l,Zfs q,ZgF _ q,Result.andThen,WQ];cases k;cases f
theorem Z3n(hr:RelG c B G s a w h g)(ha:a'.tmps=a.tmps){T:TypeId}{x k v:Operand}{m:MS}(t:Aj c g T x k v=xk m)(a0:∀e∈m.es,∃z,eval s e=xk z):
  ∃w' h',(Instr.mapUpdate T (a.eval x) (a.eval k) (a.eval v)).run c.P w=.ok () w'/\MPost c B G s a' w w' h h' m:=by
 unfold Aj at t;split at t;rename_i kt el hT;simp only[ZdE]at t;obtain⟨kc,a3,ek,hk,ev,hv,t⟩:=t;split at t;cases t;rename_i O;have a5:ev.2=[]:=by simpa using O
 obtain⟨kv,Q,r⟩:=WD hr (Yp s c) hk;obtain⟨vv,R,q⟩:=WD hr (Yp s c) hv;rw[a5]at q;have q:=q.F;obtain⟨e,id,ks,xs,b,A,y,h1,⟨z,f⟩,h3,U,M,Z,W,h8,h9⟩:=GE hr ha t a0 λe z f=>by
  simp only[eval,Q,R,ZdQ,ZdE]at f;obtain⟨X,hX,f⟩:=f;obtain⟨_,_,_,_,_,rfl,_⟩:=GM f;exact⟨_,hX,_,_,_,rfl⟩
 have S:=f;simp only[eval,h1,Q,R,ZdQ]at f;unfold UG at f;split at f;cases f;rename_i p;have p:WY kc kv=xy:=by simpa using p
 have J:=FV a3;have u:=K0 p r;have a2:Rd w h.F kv (a.eval k):=r.flat (by cases kc<;>cases kv<;>simp[WY,V.flatc]at p⊢);have N:=Zhd (w:=w) J u;have a4:=run_keyThatStays (P:=c.P) (w:=w) u;simp only at f;rw[h3];split at f;rename_i j hf;obtain⟨en,e1,e2,Y⟩:=JK (w2:=w) (G'':=h.F) p r hf (l:=A.toList) (by simpa using M) (λi c d=>by simpa[ZdK]using W i c d) 0;simp only[ZdF]at f;subst f;have I:A[j]?=xk en:=by simpa using e1
 have a1:j<A.size:=(ZdM.1 I).1;have D:=Zh5 (w:=w) J Y;refine⟨WQ w b (.map (A.modify j λe=> {e with key:=a.eval k,val:=a.eval v}) y),h,?_,h9 _ _ _ _ S (by simpa using M) (by simpa using Z) (λi c d=> ?_) (λi c d=> ?_)⟩;have:A[j]=en:=by rw[Zed a1]at I;simpa using I
 simp[Instr.mapUpdate,Zev hT,Zfs U,N,D,I,this,e2,a4,ZgF _ U,Result.andThen,WQ];have:=W i c d;rw[ZdK,Zep];rw[ZdK]at this;by_cases n:j=i;subst n;rw[I]at this;simp only[Zer,I,Ze4,Zec];simp only[Zec,e2]at this;exact this;rw[if_neg n];exact this;rw[ZdK,Zep];by_cases n:j=i;subst n;simp only[Zer,I,Ze4,Zec];rw[Zfe Z0]at d;cases d;exact q;rw[if_neg n];rw[ZeS n]at d;have:=h8 i c d;rw[ZdK]at this;exact this;rename_i hf;have Y:=JK (w2:=w) (G'':=h.F) p r hf (l:=A.toList) (by simpa using M) (λi c d=>by simpa[ZdK]using W i c d) 0;simp only[ZdF]at f;subst f;have D:=Zh5 (w:=w) J Y;refine⟨WQ w b (.map (A.push {key:=a.eval k,val:=a.eval v,born:=y}) (y+1)),h,?_,h9 _ _ _ _ S (by simp[M]) (by simp[Z]) (λi c d=> ?_) (λi c d=> ?_)⟩;simp[Instr.mapUpdate,Zev hT,Zfs U,N,D,ZgF _ U,Result.andThen,WQ];rw[ZdK,Zg1];by_cases L:i<xq ks;rw[Zea L]at d;rw[if_neg Z0];have:=W i c d;rw[ZdK]at this;exact this;rw[Ze6 Z0]at d;have H:i=xq ks:=by
  have:=(ZdH.1 d).1;simp at this;omega
 subst H;simp at d;subst d;rw[if_pos M];exact a2;rw[ZdK,Zg1];by_cases L:i<xq xs;rw[Zea L]at d;rw[if_neg Z0];have:=h8 i c d;rw[ZdK]at this;exact this;rw[Ze6 Z0]at d;have H:i=xq xs:=by
  have:=(ZdH.1 d).1;simp at this;omega
 subst H;simp at d;subst d;rw[if_pos Z];exact q;cases f;cases t
end
end Vm
namespace Vm
open Go
open Go.RowKit (Below)
theorem L1:∀ {f:List (CK×E)} {d:List Nat} {i t:Nat},YY f d i=xk t->t∈d
 | [],_,_,_,h=>by simp[YY]at h
 | (k,e)::f,d,i,t,h=>by
   cases k with
   |own j=>
    obtain _|⟨u,d⟩:=d;simp[YY]at h;cases i with
    |zero=>simp[YY]at h;simp[h]
    |succ i=>exact Zei _ (L1 (by simpa[YY]using h))
   |_=>
    cases i with
    |zero=>simp[YY]at h
    |succ i=>exact L1 (by simpa[YY]using h)
theorem C7:∀ {f:List (CK×E)} {d:List Nat} {i j t:Nat},d.Nodup->YY f d i=xk t->YY f d j=xk t->i=j
 | [],_,_,_,_,_,h,_=>by simp[YY]at h
 | (k,e)::f,d,i,j,t,l,h,h'=>by
   cases k with
   |own q=>
    obtain _|⟨u,d⟩:=d;simp[YY]at h;obtain⟨p,n⟩:=ZfI.1 l;cases i with
    |zero=>
     cases j with
     |zero=>rfl
     |succ j=>
      grind [YY,absurd,L1]
    |succ i=>
     cases j with
     |zero=>
      grind [YY,absurd,L1]
     |succ j=>exact ZeX (· +1) (C7 n (by simpa[YY]using h) (by simp_all[YY]))
   |_=>
    cases i with
    |zero=>simp[YY]at h
    |succ i=>
     cases j with
     |zero=>simp[YY]at h'
     |succ j=>exact ZeX (· +1) (C7 l (by simpa[YY]using h) (by simp_all[YY]))
section
variable {c:Ctx}{B:Nat}{G:Nat->Prop}{s:St}{a a':Act}{w w':World}{h h':GH}{g:Gam}{C:ZB}{fz ps rb:List Nat}
theorem Z3i(hr:RelG c B G s a w h g){T:TypeId}{parts:Array (Nat×Operand)}{d:Nat}(hd:d<a.tmps.size){m:MS}(q:Ag c g d T parts.toList=xk m)(W:∀e∈m.es,∃z,eval s e=xk z):
  ∃v h',(Instr.build T (parts.map λ(i,x)=>(i,a.eval x))).run c.P w=.ok v w/\MPost c B G s (a.put (xk d) v) w w h h' m:=by
 unfold Ag at q;simp only[ZdE]at q;obtain⟨fs,hT,zs,hz,b,F,q⟩:=q;split at q;cases q;rename_i k;simp only[ZdY,ZeH,not_or,Zfq,not_exists,not_and,Zgi]at k;obtain⟨L,H⟩:=k;have H:=Au H;have L:∀t∈b.2.2,t∉b.2.1/\t≠d:=by
  intro t O;have:=L t O;simp only[Zfc,Ze2,Zeq]at this;exact⟨this.1.1,this.1.2⟩
 simp only[ZdF]at q;subst q;obtain⟨z,a2⟩:=W _ (List.Mem.head _);have r:=a2;simp only[eval,ZdI]at r;obtain⟨xs,a1,a4⟩:=r;obtain⟨hl,hx⟩:=Uv a1
 obtain⟨vs,J,a0,Z,A⟩:=Mp hr (Yp s c) hT hz F (λM U=>by
  obtain⟨i,n⟩:=Zeb U;obtain⟨x,_,he⟩:=hx i M.2 ZcK;simp_all)
 obtain⟨l,_⟩:=L6 hr.ok b.2.1;let f:Nat->Option Nat:=λi=>match i with|0=>xw|i+1=>(YY b.1 b.2.2 i).bind λt=>(h.thaw b.2.1).bl t 1
 have X:∀i x,f i=xk x->∃Q t,i=Q+1/\YY b.1 b.2.2 Q=xk t/\(h.thaw b.2.1).bl t 1=xk x:=by
  intro i x n;cases i with
  |zero=>cases n
  |succ i=>
   simp only[f,ZdE]at n;simp_all
 refine⟨.agg vs,(h.thaw b.2.1).put d f (YS (h.thaw b.2.1) b.2.2),J,Step.after (Sb (Zef _ _) (λ_ _ _=>rfl) Z1 (λu hu=>⟨by simp[hu],by simp[hu]⟩) (λhn=>by simp at hn)),
  l.put (ZdL _) (λu i b _ F=>(WZ F).1) (λi x hx=> ?_) (λi j x n Y=> ?_) (λi x u j hu n Y=> ?_),Wk ⟨.agg vs,VB hd _,vs,rfl,a0,λi M n=> ?_⟩⟩
 grind;obtain⟨Q,t,rfl,O,D⟩:=X i x n;obtain⟨j',t',rfl,a3,R⟩:=X j x Y;have:=(l.inj t 1 t' 1 x D R).1;grind [C7];obtain⟨Q,t,rfl,O,D⟩:=X i x n;obtain⟨k1,k2⟩:=WZ Y;exact k2 ((l.inj u j t 1 x k1 D).1▸L1 O);have S:((h.thaw b.2.1).put d f (YS (h.thaw b.2.1) b.2.2)).bl d (i+1)=(YY b.1 b.2.2 i).bind λt=>(h.thaw b.2.1).bl t 1:=by simp[GH.put,f]
 rw[S];have N:=A i M n;unfold BRel at N;obtain⟨kk,e⟩:=M;cases kk with
 |own ty=>
  obtain⟨t,D,h2,h3,y,hy,I⟩:=N;refine⟨y,hy,I.mono (λ_ F=>.inl F) ?_⟩;simp_all[GH.thaw]
 |nil=>exact N
 |fz=>
  obtain⟨y,D,h2,h3⟩:=N;exact⟨y,D,h2,h3.mono (Cq λp hp=>hp)⟩
 |dead=>grind
theorem qB(d:Ok B G w h){o:Option Nat}(ho:∀b,o=xk b->∃t i,h.bl t i=xk b){J T ty:TypeId}{x z:V}{v y:Value}(hv:OwnV c.P B w h o J x v)(hT:c.P.underlying T=xk (.slice J))(S:U5 c.P J=xy)
  {R:List V} {Gy:Nat->Prop} (hy:Rd w Gy (.sl R) y) (A:∀(i:Nat) (q:V) (u:Value),(flat R)[i]?=xk q->Rd w Gy q u->Rd w h.F q u) (hz:R9 (c.P.cellsOf J) x (.sl R)=xk z):
  ∃I w',(Builtin.append_ #[T,T] ty #[v,y]).run c.P w=.ok I w'/\Below B w w'/\(∀b,b<xz (xj w)->o≠xk b->w'.heap[b]?=w.heap[b]?)/\
   (I.ownBlock=o\/∀b,I.ownBlock=xk b->xz (xj w)<=b/\b<xz (xj w'))/\∀h':GH,h'.F=h.F->OwnV c.P B w' h' I.ownBlock J z I:=by
 obtain⟨l,xs,rfl,h0,M,p,n,a1⟩|⟨_,_,_,_,_,_,rfl,_⟩:=hv;case inr=>grind [Qh]
 obtain⟨l1,r,W,a0,N,a2,rfl⟩:=Qh hz;cases W;cases a0;obtain⟨I,w',Q,O,Z,hg,Y,D,H⟩:=yQ (ty:=ty) hT S p d.base hy a2 N;have f:∀b,b<xz (xj w)->o≠xk b->w'.heap[b]?=w.heap[b]? :=λb n hn=>hg.block b n ZcJ;have L:Same h.F w w':=λb n=>f b (d.f_lt b n) λe=>by
  obtain⟨t,i,j⟩:=ho b e;exact(d.b_lt t i b j).2.2 n
 refine⟨I,w',O,(Zef B w).grown hg d.base λk hk=> ?_,f,?_,λh' hF=>.inl ⟨l++R,xs++Q,rfl,h0,λx hx=> ?_,ZcK,rfl,λi q j=> ?_⟩⟩;rw[‹v.ownBlock=o›]at hk;obtain⟨t,i,j⟩:=ho k hk;exact(d.b_lt t i k j).1;obtain h1|⟨h1,h2⟩:=Y;simp_all;exact .inr λb n=>h2.lt b n;obtain hx|hx:=Ze8.1 hx;simp_all;exact D x hx;have U:=TA M;rw[jk]at j;by_cases X:i< P (flat l);rw[Zea X]at j;obtain⟨u,hu,hr⟩:=a1 i q j;exact⟨u,ZcJ,hr.keep L λb n=>ZcK⟩;rw[Ze6 Z0]at j;obtain⟨u,hu,hr⟩:=H _ q j;have a3:P xs=P (flat l):=by rw[p.1,U]
 exact⟨u,ZcJ,(A _ q u j hr).keep L λb n=>ZcK⟩
theorem qA{d f:E}{k:Nat}{z:V}(j:eval s (.app d f k)=xk z):∃x y,eval s d=xk x/\eval s f=xk y/\R9 k x y=xk z:=by
 simp_all[eval,ZdE]
theorem Dn(f:Ok B G w h){t0 i0 d:Nat}{ts:List Nat}{o:Option Nat}(F:∀b,o=xk b->∃t∈ts,h.bl t 1=xk b)(y:d∉ts){v':Value}(l:Below B w w')(k:∀b,b<U (R w)->o≠xk b->w'.heap[b]?=w.heap[b]?)
  (A:v'.ownBlock=o\/∀b,v'.ownBlock=xk b->U (R w)<=b/\b<U (R w')):
  Ok B G w' (h.put d (λi=>if i=1 then v'.ownBlock else xw) (YS h ts))/\Step B (d::ts) (d::ts) [] w w' h (h.put d (λi=>if i=1 then v'.ownBlock else xw) (YS h ts)):=by
 have z:∀i b,(if i=1 then v'.ownBlock else xw)=xk b->i=1/\((U (R w)<=b/\b<U (R w'))\/∃t∈ts,h.bl t 1=xk b):=by
  intro i b n;split at n;grind;cases n
 refine⟨f.put l.size (λu i b _ l=>(WZ l).1) (λi b n=> ?_) (λi j b n r=>ZcJ) (λi b u j H n r=> ?_),
  Sb l (λb l x=>k b l λe=> ?_) Z1 (λt p=>⟨by simp[p],by simp[p]⟩) (λx=>by simp at x)⟩
 grind;obtain⟨k1,D⟩:=WZ r;rcases(z i b n).2 with q|⟨t,p,q⟩;have:=(f.b_lt u j b k1).2.1;omega;exact D ((f.inj u j t 1 b k1 q).1▸p);grind
theorem Z3g(hr:RelG c B G s a w h g){T U ty:TypeId}{x y:Operand}{d:Nat}(hd:d<a.tmps.size){m:MS}(l:Ae c g d T U x y=xk m)(a3:∀e∈m.es,∃z,eval s e=xk z):
  ∃v w' h',(Builtin.append_ #[T,U] ty #[a.eval x,a.eval y]).run c.P w=.ok v w'/\MPost c B G s (a.put (xk d) v) w w' h h' m:=by
 unfold Ae at l;split at l;rename_i el hT;have a2:=Jd hT;split at l;rename_i n;obtain⟨rfl,Y⟩:=n;simp only[ZdE]at l;obtain⟨b0,b7,l⟩:=l;generalize a6:Sr (XB c.P el) b0=D at l;have f:=hr.frz D.2;have L:∀ {yy:V} {l2:List V},eval s D.1=xk yy->yy=.sl l2->∃Gy,Rd w Gy (.sl l2) (a.eval y)/\∀(i:Nat) (W:V) (u:Value),(flat l2)[i]?=xk W->Rd w Gy W u->Rd w (h.thaw D.2).F W u:=by
  rintro yy l2 M rfl;obtain⟨Gy,X,h2⟩:=Eg hr (Yp s c) b7 (fl:=XB c.P el) (by rw[a6];exact M);rw[a6]at h2;exact⟨Gy,X,λi W u hi hu=>(h2 _ rfl i W u hi hu).mono (Cq λp hp=>hp)⟩
 have a1:∀ {t:Nat} {e:E} {v:Value},t≠d->(∃y,eval s e=xk y/\OwnV c.P B w (h.thaw D.2) ((h.thaw D.2).bl t 1) el y v)->m= {d:=[(d,[],.own el (.app e D.1 (c.P.cellsOf el))),(t,[],.no)],ps:=[d,t],rb:=[d,t],fz:=D.2,es:=[.app e D.1 (c.P.cellsOf el)]}->
   ∃J w' h',(Builtin.append_ #[T,T] ty #[v,a.eval y]).run c.P w=.ok J w'/\MPost c B G s (a.put (xk d) J) w w' h h' m:=by
  rintro t e v H ⟨yv,Z,A⟩ rfl;obtain⟨z,hz⟩:=a3 _ (List.Mem.head _);obtain⟨xx,yy,I,M,q⟩:=qA hz;rw[Z]at I;cases I;obtain⟨_,l2,_,rfl,_⟩:=Qh q;obtain⟨Gy,e1,e2⟩:=L M rfl;obtain⟨J,w',k1,k2,k3,k4,k5⟩:=qB (ty:=ty) f.ok (λb r=>⟨t,1,r⟩) A a2 Y e1 e2 q;obtain⟨q1,q2⟩:=Dn (d:=d) (ts:=[t]) (t0:=0) (i0:=0) f.ok (λb r=>⟨t,Z1,r⟩) ZcJ k2 k3 k4;exact⟨J,w',_,k1,q2.after,q1,Wk (ts:=[t]) ⟨J,VB hd J,z,hz,(k5 (h.thaw D.2) rfl).mono (λ_ r=>r) (by simp[GH.put])⟩⟩
 split at l;rename_i hk;simp only[ZdF]at l;subst l;have hv:=QW f (Yp s c) hk;rw[hv];obtain⟨z,hz⟩:=a3 _ (List.Mem.head _);obtain⟨xx,yy,I,M,q⟩:=qA hz;simp only[eval,ZdF]at I;subst I;obtain⟨_,l2,_,rfl,_⟩:=Qh q;obtain⟨Gy,e1,e2⟩:=L M rfl;obtain⟨i,zz,hi,d5,d6,h0,c9,O⟩:=Ri Y;have A:OwnV c.P B w (h.thaw D.2) xw el (.sl []) (.slice xw 0 0):=.inl ⟨[],[],rfl,Z0,λx hx=>by simp at hx,Zf7 w B el _,rfl,λi W hi=>by simp[flat]at hi⟩;obtain⟨J,w',k1,k2,k3,k4,k5⟩:=qB (ty:=ty) f.ok (λb r=>by cases r) A a2 Y e1 e2 q;obtain⟨q1,q2⟩:=Dn (d:=d) (ts:=[]) (t0:=0) (i0:=0) f.ok (λb r=>by cases r) Z1 k2 k3 k4;exact⟨J,w',_,k1,q2.after,q1,Wk (ts:=[]) ⟨J,VB hd J,z,hz,(k5 (h.thaw D.2) rfl).mono (λ_ r=>r) (by simp[GH.put])⟩⟩;rename_i t b5 e hk;split at l;rename_i n;obtain⟨rfl,H,_⟩:=n;simp only[ZdF]at l;obtain⟨v,hv,R,_⟩:=f.look (Yp s c) (show look _ [] t=_ from hk) rfl;rw[Act.eval_tmp a t v hv];exact a1 H R l.symm;cases l;rename_i p hk;simp only[ZdE]at l;obtain⟨⟨b5,e⟩,ho,l⟩:=l;split at l;rename_i n;obtain⟨b3,a9⟩:=n;simp only at b3;subst b3;simp only[ZdF]at l;obtain⟨u,hu,R⟩:=f.ownOf ho;have hv:=XC f (Yp s c) hk rfl 0;have b4:=hu.symm.trans hv;simp only[ZdF]at b4;rw[<-b4];exact a1 a9 R l.symm;cases l;rename_i p i hk;simp only[ZdE]at l;obtain⟨cs,a0,l⟩:=l;split at l;rename_i b5 e hc;split at l;rename_i n;obtain⟨rfl,a9⟩:=n;simp only[ZdI]at l;obtain⟨k,b1,rfl⟩:=l;obtain⟨c7,Q,c1,rfl⟩:=KE b1;rw[a0]at Q;cases Q;obtain⟨b,vs,b6,r,d0,hh,O⟩:=f.memOf a0;have hv:=XC f (Yp s c) hk rfl 0;obtain⟨b',a5,N⟩:=hv;rw[r]at a5;cases a5;rw[ZdT w b i vs b6 (0,0) hh]at N;have a7:∀v,vs[i]?=xk v->vs.getD i undef=v:=λv hv=>ZcK;obtain⟨yv,Z,A⟩:=O.2 i _ hc;rw[a7 _ N]at A;simp only at A Z;obtain⟨z,hz⟩:=a3 _ (List.Mem.head _);obtain⟨xx,yy,I,M,q⟩:=qA hz;rw[Z]at I;cases I;obtain⟨_,l2,_,rfl,_⟩:=Qh q;obtain⟨Gy,e1,e2⟩:=L M rfl;obtain⟨J,w',k1,k2,k3,k4,k5⟩:=qB (ty:=ty) f.ok (λb r=>⟨p,i+1,r⟩) A a2 Y e1 e2 q;have hF:Same (h.thaw D.2).F w w':=λx hx=>k3 x (f.ok.f_lt x hx) λe=>(f.ok.b_lt p (i+1) x e).2.2 hx;have c8:w'.heap[b]?=w.heap[b]? :=k3 b (f.ok.b_lt p 0 b r).2.1 λe=>by
  have:=(f.ok.inj p 0 p (i+1) b r e).2;omega
 obtain⟨c5,a4⟩:=yX c1;have hf:∀j x,(if j=1 then J.ownBlock else xw)=xk x->j=1/\((xz (xj w)<=x/\x<xz (xj w'))\/(h.thaw D.2).bl p (i+1)=xk x):=by
  intro j x S;split at S;grind;cases S
 have b2:∀u j x,(if u=p/\j=i+1 then xw else(h.thaw D.2).bl u j)=xk x->(h.thaw D.2).bl u j=xk x/\¬(u=p/\j=i+1):=by
  intro u j x S;split at S;cases S;grind
 refine⟨J,w',(h.thaw D.2).put d (λj=>if j=1 then J.ownBlock else xw) (λu j=>if u=p/\j=i+1 then xw else(h.thaw D.2).bl u j),k1,Step.after ⟨k2,λx hx hn=>k3 x hx λe=>hn p Z1 (i+1) e,λ_ r=>r,λt ht _=> ?_,λt ht=> ?_,λ_ _ _ _ l=>(by simp at l),rfl⟩,
  f.ok.put k2.size (λu j x _ hx=>(b2 u j x hx).1) (λj x hx=> ?_) (λj j' x S a8=>ZcJ) (λj x u j' hu S a8=> ?_),λt ht=> ?_⟩
 grind [GH.put];have X:t≠d:=ZcJ;simp[GH.put,X];grind;obtain⟨q1,q2⟩:=b2 u j' x a8;rcases(hf j x S).2 with X|X;have:=(f.ok.b_lt u j' x q1).2.1;omega;exact q2 (f.ok.inj u j' p (i+1) x q1 X);simp only[ZQ,Zee,Zfm,Ze3,Zfj,ZgN]at ht;by_cases H:t=d;subst H;simp only[Gam.at,Zer];exact⟨trivial,λ_=>⟨J,VB hd J,z,hz,(k5 (h.thaw D.2) rfl).mono (λ_ r=>r) (by simp[GH.put])⟩⟩;have c6:t=p:=ht.resolve_left H;subst c6;simp only[Gam.at,if_neg (ZfK H),Zer];refine⟨trivial,λ_=>⟨_,by grind [RV],b,vs,b6,by simpa[GH.put,H]using r,rfl,ZcJ,by rw[O.1,c5],λj W S=> ?_⟩⟩;obtain⟨X,h2,h3⟩|⟨X,h3⟩:=a4 j W S;have c0:j=i:=by simp only[Zfl]at h2;omega
 subst c0;simp at h3;subst h3;exact(O.2 j _ hc).cell;have b9:j≠i:=by simp only[Zfl]at X;omega
 have b8:((h.thaw D.2).put d (λj=>if j=1 then J.ownBlock else xw) (λu j=>if u=t/\j=i+1 then xw else(h.thaw D.2).bl u j)).bl t (j+1)=(h.thaw D.2).bl t (j+1):=by simp[GH.put,H,b9]
 rw[b8];exact(O.2 j W h3).keep hF (λ_ r=>r) λx hx=>k3 x (f.ok.b_lt t (j+1) x hx).2.1 λe=>by
  have:=(f.ok.inj t (j+1) t (i+1) x hx e).2;omega
 cases l;cases l;cases l;cases l;cases l
def CX(c:Ctx)(B:Nat)(G:Nat->Prop)(s:St)(a:Act)(w:World)(h:GH)(o:Oper)(m:MS):Prop:=
 ∃n u w' h',(execOp a.eval o).run c.P w=.ok n w'/\(n=.value u\/n=.skip/\u=undef)/\MPost c B G s (a.put o.dst u) w w' h h' m
theorem Z3q(F:RelG c B G s a w h g){o:Oper}(L:∀d,o.dst=xk d->d<a.tmps.size){m:MS}(l:mk c g o=xk m)(A:∀e∈m.es,∃z,eval s e=xk z):CX c B G s a w h o m:=by
 obtain⟨dst,op,type,pos,after,guard⟩:=o;unfold mk at l;simp only at l L;split at l;rename_i x d;obtain⟨h',Q⟩:=GC F (L _ rfl) l A;exact⟨_,_,w,h',rfl,.inl rfl,Q⟩;rename_i x d;obtain⟨h',Q⟩:=GC F (L _ rfl) l A;exact⟨_,_,w,h',rfl,.inl rfl,Q⟩;rename_i T S x;unfold GF at l;split at l;cases l;rename_i H;simp only[ZdY,ZeH,not_or,Zgi,Bool.or_eq_false_iff,not_and,Zeq]at H;obtain⟨N,M⟩:=H;have M:Y3 c.P T=xy\/c.P.cellsOf T=1:=by
  cases X:Y3 c.P T with
  |true=>simp
  |false=>simp_all
 have fin:∀ {R:Value},a.eval S=R->(∃w' h',(Instr.storeAt T R (a.eval x)).run c.P w=.ok () w'/\MPost c B G s a w w' h h' m)->CX c B G s a w h {dst:=xw,op:=.store T S x,type,pos,after,guard} m:=by
  rintro R rfl ⟨w',h',r,D⟩;refine⟨.skip,undef,w',h',?_,.inr ⟨rfl,rfl⟩,D⟩;simp[execOp,r]
 split at l;rename_i Z J;obtain⟨t,rfl,⟨v,hv,O,⟨b,vs,ty,r,rfl,_⟩⟩,_⟩:=(QV F (Yp s c) J rfl).resolve_left Z1;exact fin O (GG F N M l A r);rename_i p o J;obtain⟨b,r,D⟩:=XC F (Yp s c) J rfl 0;grind [GG];rename_i p i j o k J;obtain⟨n,q,r,⟨Y,D⟩,W⟩:=XC F (Yp s c) J rfl 0;grind [Z3p];rename_i p o j n k J;obtain⟨b,q,r,⟨Y,D⟩,W,h4⟩:=XC F (Yp s c) J rfl 0;grind [Z3o];cases l;rename_i T parts d;obtain⟨v,h',r,D⟩:=Z3i F (L _ rfl) l A;exact⟨.value v,v,w,h',by simp[execOp,r],.inl rfl,D⟩;rename_i T x d;obtain⟨v,w',h',r,D⟩:=Z3h F (L _ rfl) l;exact⟨.value v,v,w',h',by simp[execOp,r],.inl rfl,D⟩;rename_i T m' k v;obtain⟨w',h',r,D⟩:=Z3n (a':=a) F rfl l A;exact⟨.skip,undef,w',h',by simp[execOp,r],.inr ⟨rfl,rfl⟩,D⟩;rename_i args f;split at l;rename_i x T hx N;have u:args=#[x]:=Zf0.1 Z0;have I:f=#[T]:=Zf0.1 Z0;subst u I;obtain⟨v,w',h',r,D⟩:=Z3j (a':=a) (ty:=type) F rfl l A;exact⟨.value v,v,w',h',by simp[execOp,resolve,invoke,builtin,r],.inl rfl,D⟩;cases l;rename_i args f d;split at l;rename_i x y T U hx N;have u:args=#[x,y]:=Zf0.1 Z0;have I:f=#[T,U]:=Zf0.1 Z0;subst u I;obtain⟨v,w',h',r,D⟩:=Z3g (ty:=type) F (L _ rfl) l A;exact⟨.value v,v,w',h',by simp[execOp,resolve,invoke,builtin,r],.inl rfl,D⟩;cases l;cases l
end
end Vm
namespace Vm
open Go
def Jf(calls:FuncId->Array Value->World->(Ending->World->Prop)->Prop)(o:Oper)(a:Act)(K:Act->World->Prop):Result Next->Prop
 |.ok (.value v) w'=>K (a.put o.dst v) w'
 |.ok .skip w'=>K (a.put o.dst undef) w'
 |.ok (.enter f args) w'=>calls f args w' λe d=>∃v,e=.returned v/\K (a.put o.dst v) d
 |_=>False
section
variable (calls:FuncId->Array Value->World->(Ending->World->Prop)->Prop)(o:Oper)(a:Act)(K:Act->World->Prop)(w:World)
theorem No(v:Value):Jf calls o a K (.ok (.value v) w)=K (a.put o.dst v) w:=rfl
theorem Z7O:Jf calls o a K (.ok .skip w)=K (a.put o.dst undef) w:=rfl
theorem Nn(f:FuncId)(args:Array Value):Jf calls o a K (.ok (.enter f args) w)=calls f args w λe d=>∃v,e=.returned v/\K (a.put o.dst v) d:=rfl
end
def Pf(d:World->World->Prop)(P:Program)(fn:Func)(R:Ending->World->Prop):Exit->Act->World->Prop
 |.normal,a,w|.ret,a,w=>a.defers=[]/\∀w1,d w w1->∃v,(results fn a.tmps).run P w1=.ok v w1/\R (.returned v) w1
 |_,_,_=>False
class Lg (P:Program) where
 wp:Code->(Exit->Act->World->Prop)->Act->World->Prop
 calls:FuncId->Array Value->World->(Ending->World->Prop)->Prop
 todo:Array Oper->(Exit->Act->World->Prop)->List Nat->Act->World->Prop
 sim:World->World->Prop
 fit:Oper->Prop
 sim_eq:∀ {w w1},sim w w1->w1= {w with drawn:=w1.drawn}
 calls_mono:∀ {f args w} {R R':Ending->World->Prop},calls f args w R->(∀e w',R e w'->R' e w')->calls f args w R'
 wp_mono:∀ {c a w} {Q Q':Exit->Act->World->Prop},wp c Q a w->(∀e a w,Q e a w->Q' e a w)->wp c Q' a w
 wp_skip:∀ {Q a w},Q .normal a w->wp .skip Q a w
 wp_label:∀ {l Q a w},Q .normal a w->wp (.label l) Q a w
 wp_exit:∀ {id Q a w},Q (.exit id) a w->wp (.exit id) Q a w
 wp_ret:∀ {Q a w},Q .ret a w->wp .ret Q a w
 wp_seq:∀ {x y Q a w},wp x (Exit.then (wp y Q) Q) a w->wp (.seq x y) Q a w
 wp_scope:∀ {x} {Q:Exit->Act->World->Prop} {a w},wp x (Exit.noGoto Q) a w->wp (.scope x) Q a w
 wp_cond_true:∀ {c x y Q} {a:Act} {w},a.eval c=.bool xy->wp x Q a w->wp (.cond c x y) Q a w
 wp_cond_false:∀ {c x y Q} {a:Act} {w},a.eval c=.bool xh->wp y Q a w->wp (.cond c x y) Q a w
 wp_block:∀ {id x Q a w},wp x (Exit.inBlock id Q) a w->wp (.block id x) Q a w
 wp_loop:∀ {x Q a w} (I:Act->World->Prop) (μ:Act->World->Nat),I a w->(∀a w,I a w->wp x (Exit.then (λa' w'=>I a' w'/\μ a' w'<μ a w) Q) a w)->wp (.loop x) Q a w
 wp_region:∀ {id ops Q a w},(∀o∈ops,fit o)->todo ops Q (List.range ops.size) a w->wp (.region id ops xh) Q a w
 wp_draw:∀ {id ops Q a} {w:World},(∀o∈ops,fit o)->(∀w1,sim w w1->∀t,todo ops Q (Region.schedule (P.follows .mixedOrders) ops t) a {w1 with drawn:=w1.drawn+1})->wp (.region id ops xy) Q a w
 todo_nil:∀ {ops Q a w},Q .normal a w->todo ops Q [] a w
 todo_cons:∀ {ops Q i rest a w},(∀o∈ops,fit o)->(∀w1,sim w w1->match ops[i]? with
   |none=>todo ops Q rest a w1
   |some o=>if Region.wanted o (yielded ops a.tmps)=xy then Jf calls o a (todo ops Q rest) ((execOp a.eval o).run P w1)else todo ops Q rest (a.put o.dst undef) w1)->todo ops Q (i::rest) a w
 calls_of_wp:∀ {f fn c args w R},P.funcs[f]?=xk fn->fn.body=xk c->wp c (Pf sim P fn R) {tmps:=args++Array.replicate (fn.ntmps-args.size) undef,defers:=[]} w->calls f args w R
instance (priority:=low) loneQ (P:Program):Lg P where
 wp c Q a w:=c.wp P Q a w
 calls f args w R:=Calls P f args w R
 todo ops Q l a w:=wpOps P ops Q l a w
 sim w w1:=w1=w
 fit _:=True
 sim_eq h:=by subst h;rfl
 calls_mono h k:=Zhn h k
 wp_mono h k:=Go.wp_mono h k
 wp_skip h:=Go.wp_skip h
 wp_label h:=Go.wp_label h
 wp_exit h:=Go.wp_exit h
 wp_ret h:=Go.wp_ret h
 wp_seq h:=Go.wp_seq h
 wp_scope h:=Go.wp_scope_straight h
 wp_cond_true:=Go.wp_cond_true
 wp_cond_false:=Go.wp_cond_false
 wp_block h:=Go.wp_block h
 wp_loop I μ h k:=Go.wp_loop I μ h k
 wp_region _ h:=Go.wp_region h
 wp_draw _ h:=Go.wp_region_draw λt=>h _ rfl t
 todo_nil h:=h
 todo_cons {ops Q i rest a w} _ h:=by
  have h:=h w rfl;rw[wpOps_cons];unfold wpOp
  revert h
  cases hi:ops[i]? with
  |none=>exact id
  |some o=>
   dsimp only;split;intro h;left;unfold Oper.wp
   revert h
   cases(execOp a.eval o).run P w with
   |halt x w'=>exact False.elim
   |ok n w'=>
    cases n<;>first|exact id|exact False.elim|skip
    exactλh=>Zhn h λe w'' he=>by
     obtain⟨v,rfl,hk⟩:=he;exact hk
   exact id
 calls_of_wp {f fn c args w R} hf hb h:=Go.calls_of_wp hf hb (Go.wp_mono h λe a w he=>by
  cases e with
  |normal=>obtain⟨h1,h2⟩:=he;obtain⟨v,h3,h4⟩:=h2 w rfl;exact⟨h1,v,h3,h4⟩
  |ret=>obtain⟨h1,h2⟩:=he;obtain⟨v,h3,h4⟩:=h2 w rfl;exact⟨h1,v,h3,h4⟩
  |_=>exact he.elim)
def RQ(P:Program) [Lg P](ops:Array Oper)(i:Nat)(K:Act->World->Prop)(a:Act)(w:World):Prop:=
 match ops[i]? with
 |none=>K a w
 |some o=>if Region.wanted o (yielded ops a.tmps)=xy then Jf (Lg.calls P) o a K ((execOp a.eval o).run P w)else K (a.put o.dst undef) w
theorem Z47{P:Program} [Lg P]{ops:Array Oper}{i:Nat}{K j:Act->World->Prop}{a:Act}{w:World}(h:∀a w,K a w->j a w)(d:RQ P ops i K a w):RQ P ops i j a w:=by
 unfold RQ at*;split;exact h _ _ (by simpa[*]using d);rename_i o q;simp only[q]at d;split;rename_i f;rw[if_pos f]at d
 revert d
 cases(execOp a.eval o).run P w with
 |halt x w'=>exact id
 |ok n w'=>
  cases n<;>first|exact id|exact h _ _|skip
  exactλk=>Lg.calls_mono k λe r ⟨v,l,p⟩=>⟨v,l,h _ _ p⟩
 rename_i f;rw[if_neg f]at d;exact h _ _ d
def Lq(P:Program) [Lg P](ops:Array Oper)(Q:Exit->Act->World->Prop):Nat->Array Bool->Act->World->Prop
 |0,listed,a,w=>Region.ready .any ops listed=[]/\Q .normal a w
 |n+1,listed,a,w=>(Region.ready .any ops listed=[]->Q .normal a w)/\∀i∈Region.ready .any ops listed,∀w1,Lg.sim P w w1->RQ P ops i (Lq P ops Q n (listed.setIfInBounds i xy)) a w1
theorem OE{P:Program} [Lg P]{ops:Array Oper}{Q:Exit->Act->World->Prop}(n:∀o∈ops,Lg.fit P o):∀(d t:Nat) (listed:Array Bool) (a:Act) (w:World),Lq P ops Q d listed a w->
  Lg.todo P ops Q (Region.linearise.go .any ops d t listed []) a w:=by
 intro d;induction d with
 |zero=>intro t listed a w h;exact Lg.todo_nil h.2
 |succ d y=>
  intro t listed a w h;obtain⟨r,u⟩:=h;simp only[Region.linearise.go]
  change Lg.todo P ops Q (match(Region.ready .any ops listed)[t% xq (Region.ready .any ops listed)]? with
   |some i=>Region.linearise.go .any ops d (t / xq (Region.ready .any ops listed)) (listed.setIfInBounds i xy) [i]
   |none=>[].reverse) a w
  cases j:(Region.ready .any ops listed)[t% xq (Region.ready .any ops listed)]? with
  |none=>
   have f:Region.ready .any ops listed=[]:=by
    cases p:Region.ready .any ops listed with
    |nil=>rfl
    |cons x l=>
     rw[p]at j;have k:t% xq (x::l)< xq (x::l):=Zh0 _ Z1;simp at j;simp at k;omega
   exact Lg.todo_nil (r f)
  |some i=>
   simp only[];rw[linearise_go_acc,ZhD,ZgR];exact Lg.todo_cons n λw1 q=>Z47 (λa w=>y _ _ a w) (u i (ZdO j) w1 q)
theorem Z5S{P:Program} [Lg P]{ops:Array Oper}{Q:Exit->Act->World->Prop}{id:Nat}{a:Act}{w:World}(d:∀o∈ops,Lg.fit P o)(f:P.follows .mixedOrders=xy)
  (h:∀w1,Lg.sim P w w1->Lq P ops Q ops.size (Array.replicate ops.size xh) a {w1 with drawn:=w1.drawn+1}):Lg.wp P (.region id ops xy) Q a w:=
 Lg.wp_draw d λw1 j t=>by
  simp only[Region.schedule,f,Bool.true_or,Zer];exact OE d ops.size t _ a _ (h w1 j)
def Tt(p:Oper->Prop):Code->Prop
 |.region _ ops _=>∀o∈ops,p o
 |.seq x y=>Tt p x/\Tt p y
 |.cond _ x y=>Tt p x/\Tt p y
 |.block _ x|.loop x|.scope x=>Tt p x
 |_=>True
class FitF (P:Program) [Lg P] (f:FuncId):Prop where
 all:∀fn c,P.funcs[f]?=xk fn->fn.body=xk c->Tt (Lg.fit P) c
theorem Di{p:Oper->Prop}(h:∀o,p o):∀c:Code,Tt p c:=by
 intro c;induction c with
 |region id ops d=>exactλo _=>h o
 |seq x y hx f=>exact⟨hx,f⟩
 |cond c x y hx f=>exact⟨hx,f⟩
 |block id x hx=>exact hx
 |loop x hx=>exact hx
 |scope x hx=>exact hx
 |_=>trivial
instance (priority:=low) fit_lone (P:Program) (f:FuncId): @FitF P (loneQ P) f:=⟨λ_ c _ _=>Di (λ_=>trivial) c⟩
end Vm
namespace Vm
open Go
open Go.RowKit (Below)
def VO(P:Program)(f:FuncId):Bool:=
 match P.funcs[f]? with
 |some fn=> !(fn.name== "runtime.NumGoroutine")&&fn.body.isSome
 |none=>xh
def VC(P:Program) [Lg P](f:FuncId)(fr:Bool)(args:List V)(r:V):Prop:=
 VO P f=xy/\∀(w:World) (G:Nat->Prop) (vs:Array Value),(∀b,G b->b<U (R w))->vs.size=xq args->(∀(i:Nat) (x:V),args[i]?=xk x->Rd w G x (vs.getD i undef))->
  Lg.calls P f vs w λe w'=>∃v,e=.returned v/\Below (U (R w)) w w'/\Rd w' (λb=>(fr=xh/\G b)\/(U (R w)<=b/\b<U (R w'))) r v
def Wc(k:OT)(x:V):Option TK:=
 match k,x with
 |.fz,x=>xk (.val (.c x) [])
 |.own f,x=>xk (.own f (.c x))
 |.mem l,.agg d=>if P d=(P l) then xk (.mem ((l.zip d).map λy=>(y.1,.c y.2)))else xw
 |_,_=>xw
def Ll(P:Program)(B:Nat)(w:World)(h:GH)(ks:List OT)(xs:List V)(vs:Array Value):Prop:=
 xq xs=xq ks/\vs.size=xq ks/\∀(i:Nat) (k:OT) (x:V),ks[i]?=xk k->xs[i]?=xk x->∃d,Wc k x=xk d/\RelK P B [] w h (λ_=>xw) i (vs.getD i undef) d
def D4(P:Program)(B:Nat)(w:World)(h:GH)(ks:List OT)(ys:List V)(vs:Array Value):Prop:=
 xq ys=xq ks/\∀(i:Nat) (k:OT) (y:V),ks[i]?=xk k->k≠.fz->ys[i]?=xk y->∃d,Wc k y=xk d/\RelK P B [] w h (λ_=>xw) i (vs.getD i undef) d
def Xu:List OT->List V->List V
 |.fz::ks,_::d=>Xu ks d
 |_::ks,y::d=>y::Xu ks d
 |_,_=>[]
def QX(r:V)(d:List V):V:=
 match d with
 | []=>r
 |d=>.tup (r::d)
def V6(P:Program) [Lg P](f:FuncId)(ks:List OT)(xs:List V)(R:V):Prop:=
 VO P f=xy/\∀(B:Nat) (w:World) (h:GH) (vs:Array Value),Ok B h.F w h->Ll P B w h ks xs vs->
  Lg.calls P f vs w λe w'=>∃v r d h',e=.returned v/\Below B w w'/\Same h.K w w'/\Ok B h.F w' h'/\h'.K=h.K/\Rd w' h'.F r v/\D4 P B w' h' ks d vs/\R=QX r (Xu ks d)
def Vb(s:St):FN->Option FuncId
 |.id f=>xk f
 | .e x=>match eval s x with
   |some (.fn f)=>xk f
   |_=>xw
def Qo:V->Option (FuncId×List V)
 |.fn f=>xk (f,[])
 |.clo f d=>xk (f,d)
 |_=>xw
def Ux(s:St):FN->Option (FuncId×List V)
 |.id f=>xk (f,[])
 |.e x=>(eval s x).bind Qo
def Wo(s:St):List OT->List E->Option (List V)
 |.fz::ks,_::d=>Wo s ks d
 |_::ks,e::d=>(eval s e).bind λx=>(Wo s ks d).map (x:: ·)
 |_,_=>xk []
def Qc(P:Program) [Lg P](s:St):EF->Prop
 |.lt i C e=>holds s C->∃x,eval s e=xk x/\get s i=.v x
 |.call i C f k fl aq_=>holds s C->∃d n r,YA s aq_=xk d/\Ux s f=xk n/\VC P n.1 k (d++n.2) r/\(fl=xy->Wl r=xk r)/\get s i=.v r
 | .callm i C f ks aq_=>(holds s C->∃d n R,YA s aq_=xk d/\Vb s f=xk n/\V6 P n ks d R/\get s i=.v R)/\
   (¬holds s C->∃j,Wo s ks aq_=xk j/\(j≠[]->get s i=.v (.tup (.bool xh::j))))
section
variable {c:Ctx}{B:Nat}{G:Nat->Prop}{s:St}{a a':Act}{w w':World}{h h':GH}{g:Gam}{C:ZB}{fz ps rb:List Nat}{ops:Array Oper}
def To:List (E×Option Nat)->Nat->Option Nat
 | [],_=>xw
 |x::l,u=>if x.2=xk u then xk 0 else(To l u).map (· +1)
theorem L0:∀ {l:List (E×Option Nat)} {u i:Nat},To l u=xk i->∃e,l[i]?=xk (e,xk u)
 | [],u,i,d=>by cases d
 | (e,o)::l,u,i,d=>by
   simp only[To]at d;split at d;rename_i f;have f:o=xk u:=f;simp only[ZdF]at d;subst d f;exact⟨e,rfl⟩;simp only[ZdI]at d;obtain⟨j,p,rfl⟩:=d;obtain⟨k,n⟩:=L0 p;exact⟨k,by simpa using n⟩
theorem C6:∀ {l:List (E×Option Nat)} {u:Nat},To l u=xw->u∉l.filterMap (·.2)
 | [],u,_,f=>by simp at f
 | (e,o)::l,u,d,f=>by
   simp only[To]at d;split at d;cases d;rename_i j;have j:¬o=xk u:=j;simp only[ZhE]at d;have:=C6 d;simp_all
theorem Jb{l:List (E×Option Nat)}{e:E}{u i:Nat}(d:l[i]?=xk (e,xk u)):u∈l.filterMap (·.2):=
 Zgz.2 ⟨_,ZdO d,rfl⟩
theorem GP:∀ {l:List Nat},TQ l=xy↔l.Nodup
 | []=>by simp[TQ]
 |x::l=>by
  simp_all[TQ,ZdJ,ZeH,Zfc,ZgD,ZfI,GP]
theorem qg:∀ {l:List (E×Option Nat)} {e n:E} {u i j:Nat},(l.filterMap (·.2)).Nodup->l[i]?=xk (e,xk u)->l[j]?=xk (n,xk u)->i=j
 | [],e,n,u,i,j,_,f,_=>by simp at f
 | (t,o)::l,e,n,u,i,j,d,f,k=>by
   have r:(l.filterMap (·.2)).Nodup:=by
    obtain _|p:=o;simpa using d;simp only[Zfu,ZfI]at d;exact d.2
   cases i with
   |zero=>
    simp at f;cases j with
    |zero=>rfl
    |succ j=>
     exfalso;have q:=Jb (l:=l) (i:=j) (by simpa using k);rw[f.2]at d;simp only[Zfu,ZfI]at d;exact d.1 q
   |succ i=>
    cases j with
    |zero=>
     exfalso;simp at k;have q:=Jb (l:=l) (i:=i) ZcY;rw[k.2]at d;simp only[Zfu,ZfI]at d;exact d.1 q
    |succ j=>
     have:=qg (i:=i) (j:=j) r ZcY (by simpa using k);rw[this]
theorem Z7a{l:List (E×Option Nat)}(f:(l.filterMap (·.2)).Nodup){e:E}{u i:Nat}(d:l[i]?=xk (e,xk u)):To l u=xk i:=by
 cases hx:To l u with
 |none=>exact absurd (Jb d) (C6 hx)
 |some j=>
  grind [L0,qg]
def V8(g:Gam)(h:GH)(ks:List OT)(aq_:List (E×Option Nat))(i j:Nat):Option Nat:=
 match(aq_[i]?).bind (·.2),ks[i]? with
 |some p,xk (.mem _)=>match j with
  |0=>h.bl p 0
  |j+1=>match(memOf g p).bind λd=>d[j]? with
   |some (.own _,_)=>h.bl p (j+1)
   |_=>xw
 |some p,xk (.own _)=>if j=1 then h.bl p 1 else xw
 |_,_=>xw
theorem Re{ks:List OT}{aq_:List (E×Option Nat)}{i j b:Nat}(d:V8 g h ks aq_ i j=xk b):∃p e k,aq_[i]?=xk (e,xk p)/\ks[i]?=xk k/\k≠.fz/\h.bl p j=xk b/\(∀f,k=.own f->j=1):=by
 unfold V8 at d;grind
def V9(g:Gam)(h:GH)(w:World)(ks:List OT)(aq_:List (E×Option Nat)):GH:=
 {F:=h.F,bl:=V8 g h ks aq_,K:=λb=>b<U (R w)/\∀i j,V8 g h ks aq_ i j≠xk b}
theorem DP(f:Ok B G w h){ks:List OT}{aq_:List (E×Option Nat)}(z:(aq_.filterMap (·.2)).Nodup):Ok B h.F w (V9 g h w ks aq_):=by
 refine⟨f.base,f.f_lt,λb d=>.inl d,λb d=>d,λt i b d=> ?_,λt i u j b d l=> ?_,λb d=>d.1,λt i b d y=>y.2 t i d,λb d=>.inl d⟩;obtain⟨p,_,_,_,_,_,k,_⟩:=Re d;exact f.b_lt p i b k;obtain⟨p,e,_,k,_,_,n,_⟩:=Re d;obtain⟨q,A,_,r,_,_,x,_⟩:=Re l;obtain⟨rfl,rfl⟩:=f.inj p i q j b n x;exact⟨qg z k r,rfl⟩
def Jt(a:Act)(h:GH)(x:AP)(v:Value):Prop:=
 match x with
 |.op x _=>v=a.eval x
 |.cap p=>∃b,h.bl p 0=xk b/\v=.pointer (xk ⟨b,0,xw⟩)
theorem H7:∀ {a b:List CK},QT c.P a b=xy->P a=P b/\∀(i:Nat) (x y:CK),a[i]?=xk x->b[i]?=xk y->x=y\/x=.nil/\(y=.fz\/∃j,y=.own j/\0<c.P.cellsOf j)
 | [],[],_=>⟨rfl,λi x y hx=>by simp at hx⟩
 | [],_::_,h=>by simp[QT]at h
 |_::_,[],h=>by simp[QT]at h
 |x::a,y::b,h=>by
  simp only[QT,ZdJ,ZdY,Zeq]at h;obtain⟨d,k⟩:=h;obtain⟨l,n⟩:=H7 k;refine⟨by simp[l],λi p q hx f=> ?_⟩;cases i with
  |zero=>
   simp at hx f;subst hx f;obtain d|d:=d;exact .inl d;split at d;simp only[Ze2]at d;exact .inr ⟨rfl,.inr ⟨_,rfl,d⟩⟩;exact .inr ⟨rfl,.inl rfl⟩;cases d
  |succ i=>exact n i p q (by simpa using hx) ZcY
theorem RelC.const{P:Program}{o:Option Nat}{k:CK}{e:E}{v:Value}{x:V}(j:RelC P B s w h o k e v)(hx:eval s e=xk x){h2:GH}(p:h2.F=h.F):RelC P B [] w h2 o k (.c x) v:=by
 cases k with
 |fz=>obtain⟨y,d,f,l⟩:=j;rw[hx]at d;cases d;exact⟨x,rfl,f,l.mono λb n=>ZcK⟩
 |own q=>obtain⟨y,d,f⟩:=j;rw[hx]at d;cases d;exact⟨x,rfl,f.mono (λb n=>ZcK) rfl⟩
 |nil=>obtain⟨d,f⟩:=j;rw[hx]at f;cases f;exact⟨d,rfl⟩
 |dead=>exact j
theorem Z7b(l:RelG c B G s a w h g)(k:holds s (ZE c C)){x:AP}{p:Nat}{v:Value}(d:Ca g C x=xk p)(f:Jt a h x v):∃b,h.bl p 0=xk b/\v=.pointer (xk ⟨b,0,xw⟩):=by
 unfold Ca at d;split at d;simp only[ZdF]at d;subst d;exact f;rename_i t y;have f:v=a.eval (.tmp t):=f;subst f;split at d;rename_i n j;simp only[ZdF]at d;subst d;obtain⟨v,f,⟨b,vs,T,r,u,_⟩,_⟩:=l.look k (show look g C t=_ from j) rfl;simp_all[Act.eval_tmp];rename_i q j;simp only[ZdF]at d;subst d;exact XC l k j rfl 0;cases d;cases d
theorem yr(hr:RelG c B G s a w h g){k:OT}{x:AP}{e:E}{p:Nat}(d:SL c g C k x=xk (e,xk p)){X:V}(hX:eval s e=xk X){ks:List OT}{aq_:List (E×Option Nat)}{i:Nat}(hk:ks[i]?=xk k)(hi:aq_[i]?=xk (e,xk p)):
  ∃v,a.tmps[p]?=xk v/\(∃tk,Wc k X=xk tk/\RelK c.P B [] w (V9 g h w ks aq_) (λ_=>xw) i v tk)/\((∃l b,k=.mem l/\h.bl p 0=xk b/\v=.pointer (xk ⟨b,0,xw⟩))\/∃R,k=.own R):=by
 unfold SL at d;split at d;split at d;simp only[ZdE]at d;obtain⟨_,_,d⟩:=d;split at d;simp at d;cases d;cases d
 ·
  rename_i l;simp only[ZdE]at d;obtain⟨p,hs,r,J,d⟩:=d;split at d;rename_i A;simp only[ZdJ,ZeH]at A;obtain⟨N,Q⟩:=A;simp only[ZdF,ZdU]at d;obtain⟨rfl,rfl⟩:=d;obtain⟨b,vs,T,h1,h2,h3,h4⟩:=hr.memOf J;obtain⟨a1,Z⟩:=H7 Q;simp only[Zek]at a1;have W:=hX;simp only[eval,ZdI]at W;obtain⟨xs,b0,a7⟩:=W;obtain⟨a9,L⟩:=Uv b0;have b3:P xs=P r:=by simpa using a9
  have a2:∀x∈xs,x.one=xy:=λx hx=>by
   obtain⟨j,I⟩:=Zeb hx;have n:j<P r:=by have:=(ZdH.1 I).1;omega
   obtain⟨x',D,f⟩:=L j (r[j]).2 Zdb;rw[I]at D;cases D;have M:=h4.2 j r[j] (ZdG n)
   obtain⟨z,hz,b1,_⟩:=M.rd (G':=λ_=>True) (λhd=>by
    have:Wi r=xy:=Zfq.2 ⟨r[j],Ze0 n,by simp[hd]⟩;rw[N]at this;cases this) (λ_ _=>trivial) λ_ _ _ _=>trivial
   rw[f]at hz;cases hz;exact b1
  have a6:X=.agg xs:=by rw[<-a7];simp only[Ts,VS a2]
  subst a6;have a8:P xs=P l:=Z0;have Y:V8 g h ks aq_ i 0=h.bl p 0:=by simp[V8,hi,hk]
  refine⟨_,h2,⟨.mem ((l.zip xs).map λy=>(y.1,.c y.2)),by simp only[Wc,a8,Zer],b,vs,T,by show V8 g h ks aq_ i 0=_;rw[Y];exact h1,rfl,h3,by rw[h4.1];simp;omega,λj ck I=> ?_⟩,.inl ⟨l,b,rfl,h1,rfl⟩⟩;simp only[Ze1,ZdI]at I;obtain⟨⟨a5,x1⟩,I,rfl⟩:=I;rw[Zhk]at I;obtain⟨a0,O⟩:=I;have n:j<P r:=by have:=(ZdH.1 O).1;omega
  obtain⟨x',D,f⟩:=L j (r[j]).2 Zdb;simp only at O a0;rw[O]at D;cases D;have M:=h4.2 j r[j] (ZdG n);have F:V8 g h ks aq_ i (j+1)=match r[j]with|(.own _,_)=>h.bl p (j+1)|_=>xw:=by
   simp only[V8,hi,hk,J,ZdQ,ZdG n];rcases r[j]with ⟨kk,e⟩;cases kk<;>rfl
  obtain H|⟨H,rfl|⟨R,rfl,h0⟩⟩:=Z j (r[j]).1 a5 Zdb a0;rw[<-H];show RelC c.P B [] w (V9 g h w ks aq_) (V8 g h ks aq_ i (j+1)) (r[j]).1 (.c x1) (vs.getD j undef);rw[F];have t:=M.const f (h2:=V9 g h w ks aq_) rfl;generalize r[j]=q at t;obtain⟨kk,e⟩:=q;cases kk with
  |own R=>exact t
  |fz=>exact t
  |nil=>exact t
  |dead=>exact t
  show RelC c.P B [] w (V9 g h w ks aq_) (V8 g h ks aq_ i (j+1)) .fz (.c x1) (vs.getD j undef);generalize r[j]=q at H M f;obtain⟨kk,e⟩:=q;simp only at H;subst H;obtain⟨e1,S⟩:=M;simp only at f S;rw[S]at f;cases f;rw[e1];exact⟨_,rfl,rfl,.nil _ _ (ZeQ _)⟩;show RelC c.P B [] w (V9 g h w ks aq_) (V8 g h ks aq_ i (j+1)) (.own R) (.c x1) (vs.getD j undef);rw[F];generalize r[j]=q at H M f;obtain⟨kk,e⟩:=q;simp only at H;subst H;obtain⟨e1,S⟩:=M;simp only at f S;rw[S]at f;cases f;rw[e1];exact⟨_,rfl,.inl ⟨[],[],rfl,h0,λx hx=>by simp at hx,Zf7 w B R _,rfl,λi ck hi=>by simp[flat]at hi⟩⟩;cases d
 ·
  rename_i R;simp only[ZdE]at d;obtain⟨p,hs,⟨b2,e'⟩,ho,d⟩:=d;split at d;rename_i a4;simp only at a4;subst a4;simp only[ZdF,ZdU]at d;obtain⟨rfl,rfl⟩:=d;obtain⟨u,hu,X',U,a3⟩:=hr.ownOf ho;rw[hX]at U;cases U;have F:V8 g h ks aq_ i 1=h.bl p 1:=by simp[V8,hi,hk]
  refine⟨u,hu,⟨_,rfl,X,rfl,?_⟩,.inr ⟨_,rfl⟩⟩;show OwnV c.P B w (V9 g h w ks aq_) (V8 g h ks aq_ i 1) b2 X u;rw[F];exact a3.mono (λ_ hb=>hb) rfl;cases d
 cases d
theorem IA(H:RelG c B G s a w h g)(I:holds s (ZE c C)){k:OT}{x:AP}{y:E×Option Nat}(d:SL c g C k x=xk y){X:V}(D:eval s y.1=xk X){v:Value}(l:Jt a h x v){ks:List OT}{aq_:List (E×Option Nat)}{i:Nat}(U:ks[i]?=xk k)(T:aq_[i]?=xk y):
  (∃Q,Wc k X=xk Q/\RelK c.P B [] w (V9 g h w ks aq_) (λ_=>xw) i v Q)/\∀p,y.2=xk p->a.tmps[p]?=xk v:=by
 obtain⟨e,o⟩:=y;obtain _|p:=o;refine⟨?_,λp d=>by cases d⟩;unfold SL at d;split at d;split at d;rename_i x ty;simp only[ZdE]at d;obtain⟨R,J,d⟩:=d;split at d;rename_i n;simp only[ZdF,ZdU,and_true]at d;subst d;obtain⟨z,Y,N⟩:=WP H I J;obtain⟨z',A,j⟩:=Rp (fl:=XB c.P ty) (b:=R) Y N ⟨X,D⟩;simp only at D;rw[D]at A;cases A;have l:v=a.eval x:=l;subst l;rw[Zgo.1 n]at j;exact⟨_,rfl,X,rfl,j.F.mono λb S=>GH.ext_F S⟩;cases d;cases d;simp only[ZdE]at d;obtain⟨_,_,_,_,d⟩:=d;split at d;grind;cases d;simp only[ZdE]at d;obtain⟨_,_,_,_,d⟩:=d;split at d;grind;cases d;cases d;obtain⟨u,hu,r,L⟩:=yr H d D U T;have W:u=v:=by
  unfold SL at d;split at d;split at d;simp only[ZdE]at d;obtain⟨_,_,d⟩:=d;split at d;grind;cases d;cases d;simp only[ZdE]at d;obtain⟨Z,f,cs,O,d⟩:=d;split at d;simp only[ZdF,ZdU]at d;obtain⟨_,rfl⟩:=d;obtain⟨b,q1,rfl⟩:=Z7b H I f l;simp_all;cases d;simp only[ZdE]at d;obtain⟨Z,f,⟨a1,e'⟩,ho,d⟩:=d;split at d;simp only[ZdF,ZdU]at d;obtain⟨_,rfl⟩:=d;unfold MQ at f;split at f;rename_i t tt;have l:v=a.eval (.tmp t):=l;subst l;split at f;simp_all[ZdF,Act.eval_tmp];rename_i q M;simp only[ZdF]at f;subst f;have r:a.tmps[q]?=xk (a.eval (.tmp t)):=XC H I M rfl 0;simp_all;cases f;cases f;cases d;cases d
 simp_all
end
end Vm
namespace Vm
open Go
open Go.RowKit (Below)
section
variable {c:Ctx}{B:Nat}{G:Nat->Prop}{s:St}{a a':Act}{w w':World}{h h' hx:GH}{g:Gam}{C:ZB}{fz ps rb:List Nat}{ops:Array Oper}{ks:List OT}{aq_:List (E×Option Nat)}
structure OPost (c:Ctx) (B:Nat) (G:Nat->Prop) (s:St) (a a':Act) (w w':World) (h h':GH) (os:OS):Prop where
 step:Step B os.ps os.rb os.fz w w' h h'
 ok:Ok B G w' h'
 size:a'.tmps.size=a.tmps.size
 defers:a'.defers=a.defers
 tm:∀t,t∉os.ps->a'.tmps[t]?=a.tmps[t]?
 ent:∀t∈ZQ os.d,(holds s (ZE c (os.d.at t).1)->(os.d.at t).2.isNo=xh->∃v,a'.tmps[t]?=xk v/\RelK c.P B s w' h' (λp=>a'.tmps[p]?) t v (os.d.at t).2)/\(¬holds s (ZE c (os.d.at t).1)->a'.tmps.getD t undef=undef)
theorem yx(a:Act)(d:Option Nat)(v:Value):(a.put d v).tmps.size=a.tmps.size:=by
 cases d<;>simp[Act.put]
theorem yw(a:Act)(d:Option Nat)(v:Value):(a.put d v).defers=a.defers:=by
 cases d<;>rfl
theorem IU{d:Nat}(v:Value){t:Nat}(f:t∉ [d]):(a.put (xk d) v).tmps[t]?=a.tmps[t]? :=RV ZcJ v
def Vo(h hx:GH)(aq_:List (E×Option Nat)):GH:=
 {F:=λb=>h.F b\/hx.F b,K:=h.K,
  bl:=λu j=>match To aq_ u with
   |some i=>if j=0 then h.bl u 0 else hx.bl i j
   |none=>h.bl u j}
theorem OZ(f:Ok B G w h)(hn:(aq_.filterMap (·.2)).Nodup)(n:Ok B h.F w' hx)(Q:hx.K=(V9 g h w ks aq_).K)(L:xz (xj w)<=xz (xj w'))
  (W:∀(i:Nat) (e:E) (p:Nat),aq_[i]?=xk (e,xk p)->(∃l,ks[i]?=xk (.mem l)/\hx.bl i 0=h.bl p 0)\/∃O,ks[i]?=xk (.own O)):Ok B G w' (Vo h hx aq_):=by
 have D:∀b,h.K b->(V9 g h w ks aq_).K b:=λb d=>⟨f.k_lt b d,λi j z=>by
  obtain⟨p,_,_,_,_,_,r,_⟩:=Re z;exact f.k_bl p j b r d⟩
 have WY:∀ {t j b:Nat},h.bl t j=xk b->To aq_ t=xw->hx.K b:=by
  intro t j b d ht;rw[Q];refine⟨(f.b_lt t j b d).2.1,λi q z=> ?_⟩;obtain⟨p,e,_,r,_,_,T,_⟩:=Re z;obtain⟨rfl,_⟩:=f.inj t j p q b d T;exact C6 ht (Jb r)
 have Z:∀ {t i:Nat} {e:E} {b:Nat},aq_[i]?=xk (e,xk t)->(∃O,ks[i]?=xk (OT.own O))->h.bl t 0=xk b->hx.K b:=by
  intro t i e b R I d;rw[Q];refine⟨(f.b_lt t 0 b d).2.1,λX q z=> ?_⟩;obtain⟨p,e',k,r,P,_,T,h4⟩:=Re z;obtain⟨rfl,rfl⟩:=f.inj t 0 p q b d T;have:=qg hn R r;subst this;obtain⟨O,I⟩:=I;rw[I]at P;cases P;have:=h4 O rfl;omega
 have a0:∀ {t j b:Nat},h.bl t j=xk b->hx.K b->¬(h.F b\/hx.F b):=by
  intro t j b d y x;obtain x|x:=x;exact(f.b_lt t j b d).2.2 x;obtain r|r:=n.k_F b x;exact(f.b_lt t j b d).2.2 r;simp_all
 refine⟨n.base,λb d=> ?_,λb d=> ?_,λb d=>.inl (f.g_F b d),λt j b d=> ?_,λt j u q b d U=> ?_,λb d=>ZdS (f.k_lt b d) L,λt j b d y=> ?_,λb d=> ?_⟩;obtain d|d:=d;exact ZdS (f.f_lt b d) L;exact n.f_lt b d;obtain d|d:=d;exact f.f_or b d;obtain r|r:=n.f_or b d;exact f.f_or b r;omega;simp only[Vo]at d⊢;split at d;rename_i i H;obtain⟨e,R⟩:=L0 H;split at d;rename_i hj;subst hj;obtain⟨l,I,h0⟩|I:=W i e t R;rw[<-h0]at d;obtain⟨M,N,Y⟩:=n.b_lt i 0 b d;refine⟨M,N,λx=> ?_⟩;obtain x|x:=x;exact Y (n.g_F b x);grind;obtain⟨M,N,_⟩:=f.b_lt t 0 b d;grind;obtain⟨M,N,Y⟩:=n.b_lt i j b d;refine⟨M,N,λx=> ?_⟩;obtain x|x:=x;exact Y (n.g_F b x);grind;rename_i H;obtain⟨M,N,_⟩:=f.b_lt t j b d;grind
 ·
  have place:∀ {t j:Nat},(Vo h hx aq_).bl t j=xk b->(∃i e,aq_[i]?=xk (e,xk t)/\hx.bl i j=xk b)\/(h.bl t j=xk b/\hx.K b):=by
   intro t j d;simp only[Vo]at d;split at d;grind [L0];grind
  obtain⟨i,e,R,r⟩|⟨r,P⟩:=place d<;>obtain⟨X,e',a1,A⟩|⟨A,S⟩:=place U
  obtain⟨rfl,rfl⟩:=n.inj i j X q b r A;simp_all;exact absurd S (n.k_bl i j b r);exact absurd P (n.k_bl X q b A);exact f.inj t j u q b r A
 have J:=D b y;rw[<-Q]at J;simp only[Vo]at d;split at d;rename_i i H;split at d;exact f.k_bl t 0 b (by assumption) y;exact n.k_bl i j b d J;exact f.k_bl t j b d y;obtain d|d:=d;exact f.k_F b d;obtain r|r:=n.k_F b d;exact f.k_F b r;exact .inr λy=>r (by rw[Q];exact D b y)
theorem P0(q:Ok B G w h){d:Nat}(k:Below B w w')(f:Same (V9 g h w ks aq_).K w w'):Step B (d::aq_.filterMap (·.2)) [d] [] w w' h (Vo h hx aq_):=by
 refine⟨k,λb l u=>f b ⟨l,λi j n=> ?_⟩,λb n=>.inl n,λt r _=> ?_,λt r=> ?_,λ_ _ _ _ p=>(by simp at p),rfl⟩;grind [Re,Jb];grind [To,L0,absurd,List.mem_cons_of_mem,Jb,Vo];grind [Vo]
theorem yc{i0:Nat}:∀ {q:Nat} {ks:List OT} {aq_:List (E×Option Nat)} {ys:List V},xq aq_=xq ks->xq ys=xq ks->(∀(j:Nat) (k:OT) (y:E×Option Nat),ks[j]?=xk k->aq_[j]?=xk y->(y.2=xw↔k=OT.fz))->∀(t:Nat),t∈ZQ (XD i0 q ks aq_)->
  ∃(j:Nat) (k:OT) (e:E) (y:V) (r:Nat),ks[j]?=xk k/\aq_[j]?=xk (e,xk t)/\ys[j]?=xk y/\(XD i0 q ks aq_).at t=([],Ka i0 (q+r) k)/\(Xu ks ys)[r]?=xk y
 |q,[],aq_,ys,_,_,_,t,d=>by
  have:XD i0 q [] aq_=[]:=by unfold XD;rfl
  rw[this]at d;simp[ZQ]at d
 |q,k::ks,[],ys,x,_,_,t,d=>by simp at x
 |q,k::ks,(e,o)::aq_,[],_,z,_,t,d=>by simp at z
 |q,k::ks,(e,o)::aq_,y::ys,x,z,P,t,d=>by
  have Q:=P 0 k (e,o) rfl rfl;have n:∀(j:Nat) (k:OT) (y:E×Option Nat),ks[j]?=xk k->aq_[j]?=xk y->(y.2=xw↔k=.fz):=λj k y R S=>P (j+1) k y (by simpa using R) (by simpa using S);obtain _|p:=o;have f:k=.fz:=Q.1 rfl;subst f;have D:XD i0 q (.fz::ks) ((e,xw)::aq_)=XD i0 q ks aq_:=by simp only[XD]
  have u:Xu (.fz::ks) (y::ys)=Xu ks ys:=by simp only[Xu]
  rw[D]at d⊢;obtain⟨j,H,A,O,r,I,J,L,M,N⟩:=yc (ys:=ys) (by simpa using x) (by simpa using z) n t d;exact⟨j+1,H,A,O,r,by simpa using I,by simpa using J,by simpa using L,M,by rw[u];exact N⟩;have f:k≠.fz:=λe=>by have:=Q.2 e;cases this
  have D:XD i0 q (k::ks) ((e,xk p)::aq_)=(p,[],Ka i0 q k)::XD i0 (q+1) ks aq_:=by simp only[XD]
  have u:Xu (k::ks) (y::ys)=y::Xu ks ys:=by cases k<;>first|exact absurd rfl f|simp only[Xu]
  rw[D]at d⊢;by_cases l:p=t;subst l;exact⟨0,k,e,y,0,rfl,rfl,rfl,by simp[Gam.at],by rw[u];rfl⟩;have F:t∈ZQ (XD i0 (q+1) ks aq_):=by
   simp only[ZQ,Zee,Ze3]at d;exact d.resolve_left λe=>l e.symm
  obtain⟨j,H,A,O,r,I,J,L,M,N⟩:=yc (ys:=ys) (by simpa using x) (by simpa using z) n t F;exact⟨j+1,H,A,O,r+1,by simpa using I,by simpa using J,by simpa using L,by simp only[Gam.at,if_neg l];rw[M,ZeZ,ZgS 1 r],by rw[u];simpa using N⟩
theorem AL{i0:Nat}:∀ {q:Nat} {ks:List OT} {aq_:List (E×Option Nat)},P aq_=P ks->ZQ (XD i0 q ks aq_)=aq_.filterMap (·.2)
 |q,[],[],_=>by simp[XD,ZQ]
 |q,[],_::_,h=>Zdi
 |q,k::ks,[],h=>Zdi
 |q,k::ks,(e,o)::aq_,h=>by
  obtain _|p:=o;have d:XD i0 q (k::ks) ((e,xw)::aq_)=XD i0 q ks aq_:=by simp only[XD]
  rw[d,AL (by simpa using h)];simp;have d:XD i0 q (k::ks) ((e,xk p)::aq_)=(p,[],Ka i0 q k)::XD i0 (q+1) ks aq_:=by simp only[XD]
  rw[d];have:=AL (i0:=i0) (q:=q+1) (ks:=ks) (aq_:=aq_) (by simpa using h);simp only[ZQ,Zee]at this⊢;rw[this];simp
theorem Z3D{P:Program}{i0 q j p:Nat}{k:OT}{y:V}{L:List V}{v:Value}(hk:k≠.fz)(N:get s i0=.v (.tup L))(X:L[q]?=xk y){hx h':GH}(n:∃W,Wc k y=xk W/\RelK P B [] w' hx (λ_=>xw) j v W)
  (S:∀b,hx.F b->h'.F b) (h0:(∃l,k=.mem l)->h'.bl p 0=hx.bl j 0) (D:∀i,h'.bl p (i+1)=hx.bl j (i+1)) (tm:Nat->Option Value):RelK P B s w' h' tm p v (Ka i0 q k):=by
 obtain⟨W,d,n⟩:=n;have H:eval s (.ext (.s i0) q)=xk y:=by simp only[eval,N,ZdQ,Ty,X]
 cases k with
 |fz=>simp_all
 |own ty=>
  simp only[Wc,ZdF]at d;subst d;obtain⟨x,O,M⟩:=n;simp only[eval,ZdF]at O;subst O;exact⟨y,H,M.mono S (D 0).symm⟩
 |mem l=>
  cases y<;>simp only[Wc]at d<;>first|(cases d;done)|skip
  rename_i Q;split at d;rename_i J;simp only[ZdF]at d;subst d;obtain⟨b,vs,T,e1,Y,Z,e4,e5⟩:=n;refine⟨b,vs,T,ZcK,Y,Z,ZcK,λi ck u=> ?_⟩;simp only[Ze1,ZdI]at u;obtain⟨⟨kk,i'⟩,u,rfl⟩:=u;rw[ZfX,ZdI]at u;obtain⟨z,u,I⟩:=u;simp only[ZdU,Zet]at I;obtain⟨rfl,rfl⟩:=I;have U:i<xq Q:=by rw[J];exact(ZdH.1 u).1
  have R:=e5 i (z,.c Q[i]) ZcJ;show RelC P B s w' h' (h'.bl p (i+1)) z (.fld (.ext (.s i0) q) i) (vs.getD i undef);rw[D];have r:Q[i].one=xy->eval s (.fld (.ext (.s i0) q) i)=xk Q[i]:=λh1=>by
   simp only[eval,N,ZdQ,Ty,X,ZX,V.pc,ZdG U,YP,h1,Zer]
  cases z with
  |fz=>
   obtain⟨x,A,t,q3⟩:=R;simp only[eval,ZdF]at A;subst A;exact⟨_,r t,t,q3.mono S⟩
  |own ty=>
   obtain⟨x,A,t⟩:=R;simp only[eval,ZdF]at A;subst A;exact⟨_,r t.one,t.mono S rfl⟩
  |nil=>
   obtain⟨A,t⟩:=R;simp only[eval,ZdF]at t;exact⟨A,by rw[r (by rw[t];rfl),t]⟩
  |dead=>exact R
  grind
 |nil=>grind [Wc]
 |clo f l=>grind [Wc]
theorem QY:∀ {ks:List OT} {d:List AP} {aq_:List (E×Option Nat)},UJ c g C ks d=xk aq_->P d=P ks/\P aq_=P ks/\∀(i:Nat) (k:OT) (x:AP) (y:E×Option Nat),ks[i]?=xk k->d[i]?=xk x->aq_[i]?=xk y->SL c g C k x=xk y
 | [],[],aq_,h=>by
   simp only[UJ,ZdF]at h;subst h;exact⟨rfl,rfl,λi k x y u=>by simp at u⟩
 | [],_::_,aq_,h=>by simp[UJ]at h
 |_::_,[],aq_,h=>by simp[UJ]at h
 |k::ks,x::l,aq_,h=>by
  simp only[UJ,ZdE,ZdI]at h;obtain⟨y,z,H,f,rfl⟩:=h;obtain⟨q,r,t⟩:=QY f;refine⟨by simp[q],by simp[r],λi A D F j n p=> ?_⟩;cases i with
  |zero=>simp at j n p;subst j n p;exact z
  |succ i=>exact t i A D F ZcJ ZcJ ZcJ
theorem OI(H:RelG c B G s a w h g)(A:holds s (ZE c C)){d:List AP}(F:UJ c g C ks d=xk aq_){xs:List V}(q:YA s (aq_.map (·.1))=xk xs){vs:Array Value}(I:vs.size=P d)(n:∀(i:Nat) (x:AP),d[i]?=xk x->Jt a h x (vs.getD i undef)):
  Ll c.P B w (V9 g h w ks aq_) ks xs vs:=by
 obtain⟨J,t,u⟩:=QY F;obtain⟨y,z⟩:=Uv q;refine⟨by rw[y];simpa using t,Z0,λi k x j hx=> ?_⟩;have D:i<P ks:=(ZdH.1 j).1;have r:d[i]?=xk d[i]:=ZdG Z0;have l:aq_[i]?=xk aq_[i]:=ZdG Z0;obtain⟨L,f,p⟩:=z i (aq_[i]).1 (by rw[Ze1,l];rfl);rw[hx]at f;cases f;exact(IA H A (u i k _ _ j r l) p (n i _ r) j l).1
theorem DQ(hr:RelG c B G s a w h g){W:List AP}(hp:UJ c g C ks W=xk aq_)(hn:(aq_.filterMap (·.2)).Nodup){d:Nat}(hd:d<a.tmps.size)(a0:d∉aq_.filterMap (·.2)){all:Gam}{efs:List EF}{chks:List (ZB×E)}{kd:TK}
  {vs:Array Value} (H:∀(i:Nat) (e:E) (p:Nat),aq_[i]?=xk (e,xk p)->a.tmps[p]?=xk (vs.getD i undef)/\((∃l b,ks[i]?=xk (.mem l)/\h.bl p 0=xk b/\vs.getD i undef=.pointer (xk ⟨b,0,xw⟩))\/∃U,ks[i]?=xk (.own U)))
  (hz:∀(j:Nat) (k:OT) (y:E×Option Nat),ks[j]?=xk k->aq_[j]?=xk y->(y.2=xw↔k=OT.fz))
  (O:Ok B h.F w' hx) (hK:hx.K=(V9 g h w ks aq_).K) (x:Below B w w') (D:Same (V9 g h w ks aq_).K w w') {ys:List V} (R:D4 c.P B w' hx ks ys vs) {r0:V} (J:Xu ks ys≠[]->get s (c.ix d)=.v (.tup (r0::Xu ks ys)))
  {u:Value} (hu:holds s (ZE c C)->RelK c.P B s w' (Vo h hx aq_) (λp=>(a.put (xk d) u).tmps[p]?) d u kd) (a3:¬holds s (ZE c C)->u=undef):
  OPost c B G s a (a.put (xk d) u) w w' h (Vo h hx aq_) {d:=(d,C,kd)::XD (c.ix d) 1 ks aq_++XW (d::aq_.filterMap (·.2)) [d] [] all,ps:=d::aq_.filterMap (·.2),rb:=[d],fz:=[],efs,chks}:=by
 obtain⟨h1,h2,h3⟩:=QY hp;have L:∀(i:Nat) (e:E) (p:Nat),aq_[i]?=xk (e,xk p)->(∃l,ks[i]?=xk (.mem l)/\hx.bl i 0=h.bl p 0)\/∃U,ks[i]?=xk (.own U):=by
  intro i e p hi;obtain⟨_,A⟩:=H i e p hi;obtain⟨l,b,S,hb,hv⟩|S:=A
  .refine .inl ⟨l,S,?_⟩;have Y:i<P ys:=by rw[R.1];exact(ZdH.1 S).1
   obtain⟨tk,f,Q⟩:=R.2 i _ ys[i] S Z1 (ZdG Y);generalize ys[i]=y at f;cases y<;>simp only[Wc]at f<;>first|(cases f;done)|skip
   split at f;simp only[ZdF]at f;subst f;obtain⟨b',a4,T,e1,e2,_⟩:=Q;simp_all;grind
  grind
 have N:=OZ hr.ok hn O hK x.size L;have Z:=P0 (hx:=hx) (d:=d) hr.ok x D;refine⟨Z,N,yx _ _ _,yw _ _ _,λt z=>RV (λe=>z (by simp[e])) u,λt z=> ?_⟩;simp only[ZeT,Gam.at];by_cases I:d=t;simp_all[Zer,VB,ZdK,Zec];rw[if_neg I,Vn];by_cases n:t∈ZQ (XD (c.ix d) 1 ks aq_);rw[if_pos n];obtain⟨j,k,e,y,r,q1,q2,q3,q4,q5⟩:=yc (i0:=c.ix d) (q:=1) (ys:=ys) h2 R.1 hz t n;rw[q4];refine⟨λ_ _=>⟨vs.getD j undef,by rw[RV (ZfK I)];grind,?_⟩,λhh=>absurd (Yp s c) hh⟩;have M:k≠.fz:=λe'=>ZcJ;have X:=Z7a hn q2;refine Z3D (h':=Vo h hx aq_) M (J λe'=>ZcK) ZcJ (R.2 j k y q1 M q3) (λb hb=>.inr hb) (λhm=> ?_) (λi=>by simp[Vo,X]) _;obtain⟨l,_,h0⟩|⟨U,a2⟩:=L j e t q2;grind [Vo];grind;rw[if_neg n];have a1:t∈ZQ (XW (d::aq_.filterMap (·.2)) [d] [] all):=by
  simp only[ZQ,Zee,Zf6,ZeT,Ze3,Ze8]at z n⊢;obtain z|z|z:=z;omega;simp_all;exact z
 simp_all[zp,TK.isNo,absurd,Yp]
end
end Vm
namespace Vm
open Go
open Go.RowKit (Below)
section
variable {c:Ctx}{B:Nat}{G:Nat->Prop}{s:St}{a a':Act}{w w':World}{h h':GH}{g:Gam}{C:ZB}{fz ps rb:List Nat}{ops:Array Oper}
theorem GH.exb_of{h:GH}{big:Bool}{sh:List Nat}{b:Nat}(d:h.ext sh b):h.exb big sh b:=by
 obtain d|⟨p,j,i,f⟩:=d;exact .inl d;exact .inr ⟨p,j,i+1,.inr Z0,f⟩
theorem GH.exb_ext{h:GH}{sh:List Nat}{b:Nat}(f:h.exb xh sh b):h.ext sh b:=by
 obtain f|⟨p,k,i,d,j⟩:=f;exact .inl f;obtain d|d:=d;cases d;cases i with
 |zero=>omega
 |succ i=>exact .inr ⟨p,k,i,j⟩
theorem GH.exb_mono{h:GH}{big d:Bool}{sh f:List Nat}(q:big=xy->d=xy)(n:∀p∈sh,p∈f):∀b,h.exb big sh b->h.exb d f b:=by
 intro b hx;obtain hx|⟨p,l,i,k,j⟩:=hx;exact .inl hx;refine .inr ⟨p,n p l,i,?_,j⟩;grind
theorem GH.exb_lt(d:Ok B G w h){big:Bool}{sh:List Nat}:∀b,h.exb big sh b->b<U (R w):=by
 intro b f;obtain f|⟨p,_,i,_,j⟩:=f;exact d.f_lt b f;exact(d.b_lt p i b j).2.1
theorem DV(H:RelG c B G s a w h g){G':Nat->Prop}(A:∀b,h.F b->G' b):∀ {d:List Nat} {r:List E} {n:List V},(∀p∈d,∀i b,h.bl p i=xk b->G' b)->Jy g d=xk r->YA s r=xk n->
  xq n=xq d/\∀(i p b:Nat) (x:V),d[i]?=xk p->n[i]?=xk x->h.bl p 0=xk b->Rd w G' x (.pointer (xk ⟨b,0,xw⟩))
 | [],r,n,_,f,hx=>by
   simp only[Jy,ZdF]at f;subst f;simp only[YA,ZdF]at hx;subst hx;exact⟨rfl,λi p b x t=>by simp at t⟩
 |q::l,r,n,D,f,hx=>by
  simp only[Jy,ZdE]at f;obtain⟨W,N,f⟩:=f;split at f;cases f;rename_i X;simp only[ZdI]at f;obtain⟨J,y,rfl⟩:=f;simp only[YA,ZdE,ZdI]at hx;obtain⟨z,P,S,k,rfl⟩:=hx;obtain⟨L,M⟩:=DV H A (λp O=>D p (by simp[O])) y k;refine⟨by simp[L],λi p b x t j u=> ?_⟩;cases i with
  |zero=>
   simp at t j;subst t j;obtain⟨U,vs,T,I,_,Q,R⟩:=H.memOf N;rw[u]at I;cases I;exact K6 u Q R ZcJ P A (D q Z1)
  |succ i=>exact M i p b x ZcJ ZdD u
theorem Pa(u:RelG c B G s a w h g)(D:holds s (ZE c C)){x:Operand}{e:E}{sh:List Nat}(d:U4 g (Yk g C x) (SJ x)=xk (e,sh)){z:V}(r:eval s e=xk z):Rd w (h.exb xy sh) z (a.eval x):=by
 have L:∀b,h.F b->h.exb xy sh b:=λb U=>.inl U;have M:∀p∈sh,∀i b,h.bl p i=xk b->h.exb xy sh b:=λp Y i b O=>.inr ⟨p,Y,i,.inl rfl,O⟩;cases x with
 |tmp t=>
  simp only[Yk,SJ]at d;cases j:look g C t with
  |mem J=>
   rw[j]at d;simp only[U4]at d;split at d;cases d;rename_i W;simp only[ZdF,ZdU]at d;obtain⟨rfl,rfl⟩:=d;obtain⟨v,y,⟨b,vs,T,H,rfl,A,I⟩,_⟩:=u.look D j rfl;rw[Act.eval_tmp a t _ y];exact K6 H A I ZcJ r L (M t Z1)
  |pm p o=>
   rw[j]at d;cases o with
   |succ o=>simp[U4]at d
   |zero=>
    simp only[U4,ZdE]at d;obtain⟨J,X,d⟩:=d;split at d;cases d;rename_i W;simp only[ZdF,ZdU]at d;obtain⟨rfl,rfl⟩:=d;obtain⟨v,y,⟨b,H,rfl⟩,_⟩:=u.look D j rfl;obtain⟨b',vs,T,R,_,A,I⟩:=u.memOf X;rw[H]at R;cases R;rw[Act.eval_tmp a t _ y];exact K6 H A I ZcJ r L (M p Z1)
  |clo f n=>
   rw[j]at d;simp only[U4,ZdI,ZdU]at d;obtain⟨es,N,rfl,rfl⟩:=d;obtain⟨v,y,⟨vs,rfl,R,A⟩,_⟩:=u.look D j rfl;rw[Act.eval_tmp a t _ y];simp only[eval,ZdE]at r;obtain⟨xs,Q,r⟩:=r;simp only[Kx,ZdF]at r;subst r;obtain⟨S,h2⟩:=DV u L M N Q;refine .clo f xs vs Z0 λi x O=> ?_;have P:i<xq n:=by have:=(ZdH.1 O).1;omega
   obtain⟨b,I,q4⟩:=A i n[i] (by simp[P]);have:vs.getD i undef=.pointer (xk ⟨b,0,xw⟩):=by simp[ZdK,q4]
   grind
  |big e' a0=>
   rw[j]at d;simp only[U4,ZdF,ZdU]at d;obtain⟨rfl,rfl⟩:=d;obtain⟨v,y,⟨x,hx,Z⟩,_⟩:=u.look D j rfl;simp_all[Act.eval_tmp]
  |_=>rw[j]at d;simp[U4]at d
 |const v=>
  have:∀k,U4 g k 0=xk (e,sh)->(∃J,k=.mem J)\/(∃p o,k=.pm p o)\/(∃f l,k=.clo f l)\/∃e l,k=.big e l:=by
   intro k j;cases k<;>first|(simp[U4]at j;done)|exact .inl ⟨_,rfl⟩|exact .inr (.inl ⟨_,_,rfl⟩)|exact .inr (.inr (.inl ⟨_,_,rfl⟩))|simp
  have S:=this _ d;grind [Yk]
 |func f=>grind [Yk,U4]
 |global q=>grind [Yk,U4]
theorem OH(u:RelG c B G s a w h g)(q:holds s (ZE c C)){fl:Bool}{x:Operand}{r:E×List Nat×Bool}(d:qD g C fl x=xk r){z:V}(n:eval s r.1=xk z):Rd w (h.exb r.2.2 r.2.1) z (a.eval x):=by
 unfold qD at d;split at d;rename_i p l;simp only[ZdF]at d;subst d;obtain⟨y,A,j⟩:=WP u q l;obtain⟨F,f,k⟩:=Rp (b:=p) A j ⟨z,n⟩;rw[n]at f;cases f;exact k.mono λb t=>GH.exb_of t;simp only[ZdI]at d;obtain⟨D,l,rfl⟩:=d;grind [Pa]
theorem Dy(D:RelG c B G s a w h g)(A:holds s (ZE c C)):∀ {l:List Operand} {u:List TypeId} {d:List E×List Nat×Bool},Ju c.P g C l u=xk d->∀ {j:List V},YA s d.1=xk j->
  P j=P l/\∀(i:Nat) (x:Operand),l[i]?=xk x->∃z,j[i]?=xk z/\Rd w (h.exb d.2.2 d.2.1) z (a.eval x)
 | [],u,d,f,j,hx=>by
   simp only[Ju,ZdF]at f;subst f;simp only[YA,ZdF]at hx;subst hx;exact⟨rfl,λi x k=>by simp at k⟩
 |x::l,u,d,f,j,hx=>by
  simp only[Ju,ZdE,ZdI]at f;obtain⟨O,J,b,L,rfl⟩:=f;simp only[YA,ZdE,ZdI]at hx;obtain⟨z,r,M,q,rfl⟩:=hx;obtain⟨H,I⟩:=Dy D A L q;have t:=OH D A J r;refine⟨by simp[H],λi y k=> ?_⟩;cases i with
  |zero=>simp at k;subst k;exact⟨z,Z1,t.mono (GH.exb_mono (λe=>by simp[e]) λp n=>by simp[n])⟩
  |succ i=>
   obtain⟨N,Q,F⟩:=I i y ZcJ;exact⟨N,ZcJ,F.mono (GH.exb_mono (λe=>by simp[e]) λp n=>by simp[n])⟩
theorem Z01(N:RelG c B G s a w h g)(L:holds s (ZE c C)){o:Oper}{fn:FN}{sh:List Nat}{args:List Operand}{ts:List TypeId}(d:qK g C o=xk (fn,sh,args,ts)){n:FuncId×List V}(p:Ux s fn=xk n)(k:VO c.P n.1=xy):
  ∃j:Array Value,(execOp a.eval o).run c.P w=.ok (.enter n.1 ((args.map a.eval).toArray++j)) w/\j.size=P n.2/\∀(i:Nat) (x:V),n.2[i]?=xk x->Rd w (h.ext sh) x (j.getD i undef):=by
 have r:∀ {f:FuncId} {args:Array Operand} {q:Array TypeId} {z:Operand} {j:Array Value},VO c.P f=xy->o.op=.call {callee:=.value z,args:=args,argTypes:=q}->a.eval z=.func (.func f) #[] j->
   (execOp a.eval o).run c.P w=.ok (.enter f ((args.toList.map a.eval).toArray++j)) w:=by
  intro f args q z j k l A;unfold VO at k;split at k;rename_i fn D;simp only[ZdJ,ZeH,Zha,ne_eq]at k;obtain⟨H,I⟩:=k;obtain⟨code,J⟩:=ZeP.1 I;have:(args.toList.map a.eval).toArray=args.map a.eval:=by rw[<-Zf1,Array.toArray_toList]
  rw[this];simp[execOp,l,resolve,A,Deferred.ofValue,invoke,callFunc,D,H,J];cases k
 unfold qK at d;split at d;rename_i R u q l;simp only[ZdF,ZdU]at d;obtain⟨rfl,rfl,rfl,rfl⟩:=d;simp only[Ux,ZdF]at p;subst p;exact⟨#[],r k l rfl,rfl,λi x F=>by simp at F⟩;rename_i t u q l;split at d;rename_i e Q M;simp only[ZdF,ZdU]at d;obtain⟨rfl,rfl,rfl,rfl⟩:=d;obtain⟨v,O,⟨x,hx,y⟩,_⟩:=N.look L (show look g C t=_ from M) rfl;simp only[Ux,hx,ZdQ]at p;unfold Qo at p;split at p;simp only[ZdF]at p;subst p;cases y;exact⟨#[],r k l (Act.eval_tmp a t _ O),rfl,λi x F=>by simp at F⟩;simp only[ZdF]at p;subst p;cases y with
 |clo _ _ vs H I=>grind [Act.eval_tmp]
 cases p;grind;grind
theorem Z4Y(I:RelG c B G s a w h g)(L:holds s (ZE c C)){o:Oper}{x y z:Operand}(X:o.op=.pick x y z){k:TK}{es:List E}(n:Bn c g C x y z=xk (k,es))(M:∀e∈es,∃z,eval s e=xk z)(d:Nat):PRun c B G s a w h o d k:=by
 unfold Bn at n;split at n;rename_i t u W;split at n;cases n;rename_i Q;have Q:u=c.ix t:=by simpa using Q
 subst Q;simp only[ZdE,ZdI,ZdU]at n;obtain⟨Z,N,ez,O,rfl,rfl⟩:=n;obtain⟨v,Y,⟨T,f,S⟩,_⟩:=I.look L (show look g C t=_ from W) rfl;obtain⟨q,j⟩:=M _ (List.Mem.head _);have H:=j;simp only[eval]at j f;rw[f,ZdQ]at j;have J:get s (c.ix t)=.v T:=by
  cases U:get s (c.ix t)<;>rw[U]at f<;>simp at f;rw[f]
 have F:∀b,T=.bool b->(execOp a.eval o).run c.P w=.ok (.value (if b=xy then a.eval y else a.eval z)) w:=by
  intro b D;subst D;have R:v=.bool b:=by cases S;rfl
  subst R;unfold execOp;simp only[X,Act.eval_tmp a t _ Y];cases b<;>simp[asBool]
 unfold QH at j;split at j;have l:holds s (ZE c (C++[(t,xy)])):=by
  have:ZE c (C++[(t,xy)])=ZE c C++[(c.ix t,xy)]:=by simp[ZE]
  rw[this,jx];refine⟨L,λx hx=> ?_⟩;simp at hx;subst hx;exact J
 obtain⟨r,p,A⟩:=WP I l N;rw[p]at j;cases j;exact⟨_,w,F xy rfl,PRes.here I.ok ⟨_,H,A.mono λb D=>GH.ext_left D⟩⟩;have l:holds s (ZE c (C++[(t,xh)])):=by
  have:ZE c (C++[(t,xh)])=ZE c C++[(c.ix t,xh)]:=by simp[ZE]
  rw[this,jx];refine⟨L,λx hx=> ?_⟩;simp at hx;subst hx;exact J
 obtain⟨r,p,A⟩:=WP I l O;rw[p]at j;cases j;exact⟨_,w,F xh rfl,PRes.here I.ok ⟨_,H,A.mono λb D=>GH.ext_right D⟩⟩;cases j;cases n
theorem Z4X(l:RelG c B G s a w h g)(n:holds s (ZE c C)){o:Oper}{k:TK}{es:List E}(f:Bm c g C o=xk (k,es))(j:∀e∈es,∃z,eval s e=xk z)(d:Nat)(p:o.dst=xk d):PRun c B G s a w h o d k:=by
 unfold Bm at f;split at f;rename_i x y z q;exact Z4Y l n q f j d;split at f;cases f;exact Bp l n f j d p;rename_i q;split at f;cases f;split at f;simp only[ZdI,ZdU]at f;obtain⟨b,u,rfl,rfl⟩:=f;obtain⟨y,r,t⟩:=WP l n u;exact⟨_,w,by unfold execOp;rw[q];rfl,PRes.here l.ok ⟨y,r,t⟩⟩;exact Bp l n f j d p;exact Bp l n f j d p
theorem Z0r(F:RelG c B G s a w h g){o:Oper}(hc:LD c ops g o=xk C):(holds s (ZE c C)->Region.wanted o (yielded ops a.tmps)=xy)/\(¬holds s (ZE c C)->Region.wanted o (yielded ops a.tmps)=xh):=by
 unfold LD at hc;unfold Region.wanted;split at hc;simp_all[ZdF,trivial,absurd,Yp];rename_i j d z;simp only[ZdE]at hc;obtain⟨t,P,hc⟩:=hc;simp only[z];have O:yielded ops a.tmps j=match a.tmps[t]? with|some (.bool b)=>xk b|_=>xw:=by
  unfold yielded;rw[show(ops[j]?).bind (·.dst)=xk t from by grind,ZdQ];generalize a.tmps[t]?=q;obtain _|v:=q;rfl;rfl
 split at hc;rename_i k u l;split at hc;rename_i L;subst L;simp only[ZdF]at hc;subst hc;have I:ZE c (k++[(t,d)])=ZE c k++[(c.ix t,d)]:=by simp[ZE]
 have D:holds s (ZE c (k++[(t,d)]))↔holds s (ZE c k)/\get s (c.ix t)=.v (.bool d):=by
  rw[I,jx];simp[holds]
 by_cases y:holds s (ZE c k);obtain⟨v,M,f⟩:=F.at_ t ZcK (by rw[l];rfl);rw[l]at f;obtain⟨x,hx,r⟩:=f;have p:get s (c.ix t)=.v x:=by
  simp only[eval]at hx;cases z:get s (c.ix t)<;>rw[z]at hx<;>simp at hx;rw[hx]
 rw[O,M];constructor;intro n;have:=(D.1 n).2;rw[p]at this;simp only[SV.v.injEq]at this;subst this;have N:v=.bool d:=by cases r;rfl
 simp_all;intro n;have J:x≠.bool d:=λe=>n (D.2 ⟨y,by rw[p,e]⟩);cases r<;>first
  |rfl
  |simp_all
 have H:=F.skip t ZcK;have A:(match a.tmps[t]? with|some (.bool b)=>xk b|_=>xw)=(xw:Option Bool):=by
  cases n:a.tmps[t]? with
  |none=>rfl
  |some v=>
   simp only[ZdK,n,Zec]at H;subst H;rfl
 simp_all;cases hc;cases hc
theorem IO{d:Nat}{k:TK}{v:Value}{efs:List EF}{chks:List (ZB×E)}(q:d<a.tmps.size)(l:Step B [d] [d] [] w w' h h')(f:Ok B G w' h')(n:holds s (ZE c C))(r:RelK c.P B s w' h' (λp=>(a.put (xk d) v).tmps[p]?) d v k):
  OPost c B G s a (a.put (xk d) v) w w' h h' {d:=[(d,C,k)],ps:=[d],rb:=[d],fz:=[],efs,chks}:=
 ⟨l,f,yx _ _ _,yw _ _ _,λt j=>IU v j,λt j=>by
  simp_all[ZQ,Gam.at,Zer,VB,absurd]⟩
theorem IP{d:Nat}{k:TK}{efs:List EF}{chks:List (ZB×E)}(n:d<a.tmps.size)(f:Ok B G w h)(l:¬holds s (ZE c C)):
  OPost c B G s a (a.put (xk d) undef) w w h h {d:=[(d,C,k)],ps:=[d],rb:=[d],fz:=[],efs,chks}:=
 ⟨Step.refl _ _ _ _,f,yx _ _ _,yw _ _ _,λt j=>IU _ j,λt j=>by
  simp_all[ZQ,Gam.at,Zer,absurd,ZdK,VB,Zec]⟩
theorem RelK.other{d t:Nat}{v u:Value}{k:TK}(f:RelK c.P B s w h (λp=>a.tmps[p]?) t v k)(j:Un d k=xh):RelK c.P B s w h (λp=>(a.put (xk d) u).tmps[p]?) t v k:=by
 cases k with
 |ref p=>
  have:p≠d:=λe=>by simp_all[Un]
  show(a.put (xk d) u).tmps[p]?=xk v;rw[RV this];exact f
 |_=>exact f
theorem ya:∀ {R:List Nat} {g:Gam} {t:Nat},(only g R).at t=if t∈R then g.at t else([],.no)
 | [],g,t=>rfl
 |u::R,g,t=>by
  simp only[only,Zee,Gam.at];by_cases d:u=t;grind;rw[if_neg d];have:=ya (R:=R) (g:=g) (t:=t);simp_all[only,ZfK]
theorem MR(A:RelG c B G s a w h g){ks:List OT}{d:List AP}{aq_:List (E×Option Nat)}(n:UJ c g C ks d=xk aq_)(x:∀(i:Nat) (e:E) (p:Nat),aq_[i]?=xk (e,xk p)->∃X,eval s e=xk X){vs:Array Value}
  (q:∀(i:Nat) (e:E) (p:Nat),aq_[i]?=xk (e,xk p)->a.tmps[p]?=xk (vs.getD i undef)):
  (∀(i:Nat) (e:E) (p:Nat),aq_[i]?=xk (e,xk p)->a.tmps[p]?=xk (vs.getD i undef)/\((∃l b,ks[i]?=xk (.mem l)/\h.bl p 0=xk b/\vs.getD i undef=.pointer (xk ⟨b,0,xw⟩))\/∃r,ks[i]?=xk (.own r))):=by
 obtain⟨t,j,u⟩:=QY n;intro i e p k;have f:i<P ks:=by rw[<-j];exact(ZdH.1 k).1
 have z:ks[i]?=xk ks[i]:=ZdG f;have y:d[i]?=xk d[i]:=ZdG Z0;grind [yr,Option.some.injEq]
theorem Z4A{ks:List OT}{d:List AP}{aq_:List (E×Option Nat)}(q:UJ c g C ks d=xk aq_):∀(j:Nat) (k:OT) (y:E×Option Nat),ks[j]?=xk k->aq_[j]?=xk y->(y.2=xw↔k=OT.fz):=by
 obtain⟨t,u,n⟩:=QY q;intro j k y l r;have p:j<P ks:=(ZdH.1 l).1;have f:=n j k _ y l (ZdG (by omega:j<P d)) r;unfold SL at f;grind [Option.bind_eq_some_iff,Option.some.injEq]
theorem Qi:∀ {l:List Operand} {ts:List TypeId},P (V7 l ts)=P l/\∀(i:Nat) (x:AP),(V7 l ts)[i]?=xk x->∃y t,l[i]?=xk y/\x=.op y t
 | [],ts=>by simp[V7]
 |x::l,[]=>by
  obtain⟨f,j⟩:=Qi (l:=l) (ts:=[]);refine⟨by simp[V7,f],λi y d=> ?_⟩;cases i with
  |zero=>simp[V7]at d;exact⟨x,0,rfl,d.symm⟩
  |succ i=>simpa using j i y (by simpa[V7]using d)
 |x::l,t::ts=>by
  obtain⟨f,j⟩:=Qi (l:=l) (ts:=ts);refine⟨by simp[V7,f],λi y d=> ?_⟩;cases i with
  |zero=>simp[V7]at d;exact⟨x,t,rfl,d.symm⟩
  |succ i=>simpa using j i y (by simpa[V7]using d)
theorem Z00(Z:RelG c B G s a w h g)(X:holds s (ZE c C)){o:Oper}{fn:FN}{ks:List OT}{A:List AP}(d:qJ c g C o=xk (fn,ks,A)){f:FuncId}(u:Vb s fn=xk f)(q:VO c.P f=xy):
  ∃vs:Array Value,(execOp a.eval o).run c.P w=.ok (.enter f vs) w/\vs.size=P A/\∀(i:Nat) (x:AP),A[i]?=xk x->Jt a h x (vs.getD i undef):=by
 have r:∀ {args:Array Operand} {j:Array TypeId} {I:Operand} {k:Array Value},o.op=.call {callee:=.value I,args:=args,argTypes:=j}->a.eval I=.func (.func f) #[] k->
   (execOp a.eval o).run c.P w=.ok (.enter f (args.map a.eval++k)) w:=by
  intro args j I k n M;unfold VO at q;split at q;rename_i fn N;simp only[ZdJ,ZeH,Zha,ne_eq]at q;obtain⟨h1,W⟩:=q;obtain⟨code,L⟩:=ZeP.1 W;simp[execOp,n,resolve,M,Deferred.ofValue,invoke,callFunc,N,h1,L];cases q
 have plain:∀ {args:Array Operand} {j:Array TypeId} {i:Nat} {x:AP},(V7 args.toList j.toList)[i]?=xk x->Jt a h x ((args.map a.eval).getD i undef):=by
  intro args j i x z;obtain⟨y,t,U,rfl⟩:=(Qi (l:=args.toList) (ts:=j.toList)).2 i x z;rw[Zf3]at U;have Q:i<args.size:=(ZdM.1 U).1;show(args.map a.eval).getD i undef=a.eval y;simp[ZdK,U]
 unfold qJ at d;split at d;rename_i J args j n;simp only[ZdI,ZdU]at d;obtain⟨H,_,rfl,rfl,rfl⟩:=d;simp only[Vb,ZdF]at u;subst u;refine⟨args.map a.eval++ #[],r n rfl,by simp_all[Qi],λi x z=> ?_⟩;grind;rename_i t args j n;split at d;rename_i J k O;simp only[ZdI,ZdU]at d;obtain⟨H,_,rfl,rfl,rfl⟩:=d;simp only[Vb,ZdF]at u;subst u;obtain⟨v,R,⟨vs,rfl,W,L⟩,_⟩:=Z.look X (show look g C t=_ from O) rfl;have D:=(Qi (l:=args.toList) (ts:=j.toList)).1;simp only[Zg2]at D;refine⟨args.map a.eval++vs,r n (Act.eval_tmp a t _ R),ZcJ,λi x z=> ?_⟩;by_cases Q:i<args.size;rw[Zea Z0]at z;have:=plain z;simp_all[ZdK,ZfJ];rw[Ze6 Z0,Ze1,ZdI]at z;obtain⟨p,Y,rfl⟩:=z;rw[D]at Y;obtain⟨b,q1,q2⟩:=L _ p Y;refine⟨b,q1,?_⟩;simp_all[ZdK,Zh2];rename_i e sh O;simp only[ZdI,ZdU]at d;obtain⟨H,_,rfl,rfl,rfl⟩:=d;obtain⟨v,R,⟨x,hx,T⟩,_⟩:=Z.look X (show look g C t=_ from O) rfl;simp only[Vb,hx]at u;split at u;rename_i J F;simp only[ZdF]at F u;subst F u;have S:v=.func (.func J) #[] #[]:=by cases T;rfl
 subst S;refine⟨args.map a.eval++ #[],r n (Act.eval_tmp a t _ R),by simp_all[Qi],λi x z=> ?_⟩;rw[Zez];exact plain z;cases u;grind;grind
theorem AE:∀ {ks:List OT} {aq_:List (E×Option Nat)} {l:List V},P aq_=P ks->Wo s ks (aq_.map (·.1))=xk l->∃d,P d=P ks/\Xu ks d=l/\∀(i:Nat) (k:OT) (y:E×Option Nat) (x:V),ks[i]?=xk k->k≠.fz->aq_[i]?=xk y->d[i]?=xk x->eval s y.1=xk x
 | [],[],l,_,f=>by
   simp only[Zfm,Wo,ZdF]at f;subst f;exact⟨[],rfl,rfl,λi k y x n=>by simp at n⟩
 | [],_::_,l,j,_=>by simp at j
 |_::_,[],l,j,_=>by simp at j
 |k::ks,(e,o)::aq_,l,j,f=>by
  by_cases n:k=.fz;subst n;simp only[Zee,Wo]at f;obtain⟨d,u,A,D⟩:=AE (ks:=ks) (aq_:=aq_) ZdD f;refine⟨.bool xh::d,by simp[u],by simpa only[Xu]using A,λi k y x p t q r=> ?_⟩;cases i with
  |zero=>simp at p;exact absurd p.symm t
  |succ i=>exact D i k y x (by simpa using p) t (by simpa using q) (by simpa using r)
  have H:Wo s (k::ks) (e::aq_.map (·.1))=(eval s e).bind λx=>(Wo s ks (aq_.map (·.1))).map (x:: ·):=by cases k<;>first|exact absurd rfl n|simp only[Wo]
  rw[Zee,H]at f;simp only[ZdE,ZdI]at f;obtain⟨x,hx,J,F,rfl⟩:=f;obtain⟨d,u,A,D⟩:=AE (ks:=ks) (aq_:=aq_) ZdD F;have I:Xu (k::ks) (x::d)=x::Xu ks d:=by cases k<;>first|exact absurd rfl n|simp only[Xu]
  refine⟨x::d,by simp[u],by rw[I,A],λi k y z p t q r=> ?_⟩;cases i with
  |zero=>simp at q r;subst q r;exact hx
  |succ i=>exact D i k y z (by simpa using p) t (by simpa using q) (by simpa using r)
def QS(P:Program) [Lg P](s:St)(d:OS):Prop:=(∀f∈d.efs,Qc P s f)/\∀x∈d.chks,holds s x.1->∃z,eval s x.2=xk z
theorem Z7v [Lg c.P]{g9 R:List Nat}{all:Gam}{o:Oper}{os:OS}{i:Nat}(Q:ops[i]?=xk o)(hR:R=UE ops all o)(H:RelG c B G s a w h (only all R))(A:Q4 c g9 ops all o=xk os)(a8:QS c.P s os)(hn:c.n<=a.tmps.size)
  {K:Act->World->Prop} (hK:∀a' w' h',OPost c B G s a a' w w' h h' os->(∃u,a'=a.put o.dst u)->K a' w'):RQ c.P ops i K a w:=by
 subst hR;unfold RQ;simp only[Q];unfold Q4 at A;simp only at A;split at A;cases A;rename_i i1;have N:∀d,o.dst=xk d->d<a.tmps.size:=by
  intro d L;obtain M|i5:=ZhS d c.n;exact ZdS M hn;simp[Ec,L,Zhs.2 i5]at i1
 simp only[ZdE]at A;obtain⟨C,hC,A⟩:=A;obtain⟨c1,e6⟩:=Z0r (ops:=ops) H hC;split at A
 ·
  rename_i fn ks a6 d Z L;unfold Ce at A;split at A;cases A;simp only[ZdE]at A;obtain⟨aq_,S,A⟩:=A;split at A;cases A;rename_i f6;simp only[ZdY,ZeH,not_or,Zgi,Zfc,Ze2]at f6;obtain⟨hn,f3⟩:=f6;have hn:=GP.1 hn;simp only[ZdF]at A;subst A;have f4:=a8.1 _ (List.Mem.head _);obtain⟨k3,a0,J⟩:=QY S;have hz:=Z4A S;rw[L];by_cases I:holds s (ZE c C);rw[if_pos (c1 I)];obtain⟨xs,f,R,c5,hf,⟨d6,b5⟩,hR⟩:=f4.1 I;obtain⟨vs,f5,j7,g5⟩:=Z00 H I Z hf d6;have Y:=OI H I S c5 j7 g5;obtain⟨_,g6⟩:=Uv c5;have hX:∀(i:Nat) (e:E) (p:Nat),aq_[i]?=xk (e,xk p)->∃X,eval s e=xk X:=λi e p Q=>by
   obtain⟨X,_,hX⟩:=g6 i e (by rw[Ze1,Q];rfl);exact⟨X,hX⟩
  have a3:=MR H S hX (vs:=vs) λi e p Q=>by
   have M:i<P ks:=Zdg;have O:ks[i]?=xk ks[i]:=ZdG M;have ha:a6[i]?=xk a6[i]:=ZdG Z0;obtain⟨X,hx⟩:=hX i e p Q;exact(IA (ks:=ks) (aq_:=aq_) H I (J i _ _ _ O ha Q) hx (g5 i _ ha) O Q).2 p rfl
  rw[f5,Nn];refine Lg.calls_mono (b5 B w (V9 _ h w ks aq_) vs (DP H.ok hn) Y) λe w' he=> ?_;obtain⟨v,r,ys,hx,rfl,U,e3,f9,h6,a2,hB,a1⟩:=he;refine⟨v,rfl,?_⟩;rw[L];refine hK _ _ _ (DQ H S hn (N d L) f3 a3 hz f9 h6 U e3 hB (r0:=r) (λe0=> ?_) (λ_=> ?_) λd8=>absurd I d8) ⟨_,by rw[L]⟩;rw[hR,a1];cases W:Xu ks ys with
  |nil=>exact absurd W e0
  |cons x l=>rfl
  have e7:∀b,hx.F b->(Vo h hx aq_).F b:=λb D=>.inr D;cases W:Xu ks ys with
  |nil=>
   have b3:(aq_.filterMap (·.2)).isEmpty=xy:=by
    cases j2:aq_.filterMap (·.2)with
    |nil=>rfl
    |cons p l=>
     exfalso;have j4:p∈ZQ (XD (c.ix d) 1 ks aq_):=by rw[AL a0,j2];simp
     obtain⟨_,_,_,_,_,_,_,_,_,q5⟩:=yc (i0:=c.ix d) (q:=1) (ys:=ys) a0 hB.1 hz p j4;rw[W]at q5;simp at q5
   rw[if_pos b3];refine⟨r,?_,a2.mono λb D=>GH.ext_F (e7 b D)⟩;simp only[eval,hR,a1,W,QX]
  |cons x l=>
   have b3:¬(aq_.filterMap (·.2)).isEmpty=xy:=by
    intro he;have f7:=Zgo.1 he;have:∀ {ks:List OT} {aq_:List (E×Option Nat)} {ys:List V},P aq_=P ks->(∀(j:Nat) (k:OT) (y:E×Option Nat),ks[j]?=xk k->aq_[j]?=xk y->(y.2=xw↔k=OT.fz))->aq_.filterMap (·.2)=[]->Xu ks ys=[]:=by
     intro ks;induction ks with
     |nil=>intro aq_ ys _ _ _;simp[Xu]
     |cons k ks ih=>
      intro aq_ ys h1 h2 h3;obtain _|⟨y,aq_⟩:=aq_;simp at h1;have hy:y.2=xw:=by
       cases hy:y.2 with
       |none=>rfl
       |some p=>simp[Zfu,hy]at h3
      have O:=(h2 0 k y rfl rfl).1 hy;subst O;obtain _|⟨z,ys⟩:=ys;simp[Xu];simp only[Xu];exact ih (by simpa using h1) (λj k y q1 q2=>h2 (j+1) k y (by simpa using q1) (by simpa using q2)) (by simpa[Zfu,hy]using h3)
    have:=this (ys:=ys) a0 hz f7;rw[W]at this;cases this
   rw[if_neg b3];refine⟨r,?_,a2.mono λb D=>GH.ext_F (e7 b D)⟩;simp only[eval,hR,a1,W,QX,ZdQ,Ty,Zfo]
  rw[if_neg (by rw[e6 I];simp)];obtain⟨os,W,i7⟩:=f4.2 I;obtain⟨ys,j8,g7,j9⟩:=AE a0 W;let vs:Array Value:=(aq_.map λy=>match y.2 with|some p=>a.tmps.getD p undef|none=>undef).toArray;have hX:∀(i:Nat) (e:E) (p:Nat),aq_[i]?=xk (e,xk p)->∃X,ys[i]?=xk X/\eval s e=xk X:=λi e p Q=>by
   have M:i<P ks:=Zdg;have O:ks[i]?=xk ks[i]:=ZdG M;have g8:ys[i]?=xk ys[i]:=ZdG Z0;have d9:ks[i]≠.fz:=λe'=>by have:=(hz i _ _ O Q).2 e';cases this
   exact⟨_,g8,j9 i _ _ _ O d9 Q g8⟩
  have d0:∀(i:Nat) (e:E) (p:Nat),aq_[i]?=xk (e,xk p)->a.tmps[p]?=xk (vs.getD i undef):=λi e p Q=>by
   have M:i<P ks:=Zdg;have O:ks[i]?=xk ks[i]:=ZdG M;have ha:a6[i]?=xk a6[i]:=ZdG Z0;obtain⟨X,_,hx⟩:=hX i e p Q;obtain⟨v,q1,_⟩:=yr (ks:=ks) (aq_:=aq_) H (J i _ _ _ O ha Q) hx O Q;have:vs.getD i undef=v:=by simp[vs,ZdK,Q,q1]
   rw[this];exact q1
  have a3:=MR H S (λi e p Q=>by obtain⟨X,_,hX⟩:=hX i e p Q;exact⟨X,hX⟩) d0;refine hK _ _ _ (DQ H S hn (N d L) f3 a3 hz (DP H.ok hn) rfl (.refl _ _) (.refl _ _) (ys:=ys) ⟨j8,λi k y O d9 hy=> ?_⟩ (r0:=.bool xh) (λe0=>by rw[g7];exact i7 (by rw[<-g7];exact e0)) (λd8=>absurd d8 I) λ_=>rfl) ⟨_,by rw[L]⟩;have M:i<P ks:=(ZdH.1 O).1;have ha:a6[i]?=xk a6[i]:=ZdG Z0;have hs:aq_[i]?=xk aq_[i]:=ZdG Z0;generalize aq_[i]=y0 at hs;obtain⟨e,o⟩:=y0;obtain _|p:=o;exact absurd ((hz i k _ O hs).1 rfl) d9;obtain⟨X,e8,h7⟩:=hX i e p hs;rw[hy]at e8;cases e8;obtain⟨v,q1,q2,_⟩:=yr (ks:=ks) (aq_:=aq_) H (J i _ _ _ O ha hs) h7 O hs;have:=d0 i e p hs;rw[q1]at this;simp only[ZdF]at this;rw[<-this];exact q2
 cases A;split at A
 ·
  rename_i f c6 args ts d Z L;unfold Cd at A;split at A;cases A;simp only[ZdI]at A;obtain⟨aq_,S,rfl⟩:=A;by_cases I:holds s (ZE c C);rw[if_pos (c1 I)];obtain⟨xs,n,r,c5,i4,b5,i3,J⟩:=a8.1 _ (List.Mem.head _) I;obtain⟨hl,hx⟩:=Dy H I S c5;obtain⟨d6,b5⟩:=b5;obtain⟨a4,b7,f1,f0⟩:=Z01 H I Z i4 d6;rw[b7,Nn];refine Lg.calls_mono (b5 w (h.exb aq_.2.2 (aq_.2.1++c6)) ((args.map a.eval).toArray++a4) (GH.exb_lt H.ok) (by simp[hl,f1]) λj x hj=> ?_) λe w' he=> ?_;by_cases M:j<P args;rw[Zea Z0]at hj;obtain⟨z,hz,k2⟩:=hx j args[j] (by simp[M]);rw[hj]at hz;cases hz;have:((args.map a.eval).toArray++a4).getD j undef=a.eval args[j]:=by
   rw[ZdK,ZfJ (by simpa using M)];simp[M]
  rw[this];exact k2.mono (GH.exb_mono (λe=>e) λp hp=>by simp[hp]);rw[Ze6 Z0]at hj;have:=f0 _ x hj;have e:((args.map a.eval).toArray++a4).getD j undef=a4.getD (j-P xs) undef:=by
   rw[ZdK,ZdK,Zh2 ZcL];simp[hl]
  rw[e];exact this.mono λb D=>GH.exb_mono (λe=>by cases e) (λp hp=>by simp[hp]) b (GH.exb_of (big:=xh) D);obtain⟨v,rfl,U,a2⟩:=he;refine⟨v,rfl,?_⟩;have b9:=U.size;let h':GH:= {F:=λb=>h.F b\/(xz (xj w)<=b/\b<xz (xj w')),bl:=h.bl,K:=h.K};have b2:Ok B G w' h':=by
   refine⟨Zeh H.ok.base b9,λb D=> ?_,λb D=> ?_,λb D=>.inl (H.ok.g_F b D),λt j b D=> ?_,H.ok.inj,λb D=>ZdS (H.ok.k_lt b D) b9,H.ok.k_bl,λb D=> ?_⟩;obtain D|D:=D;exact ZdS (H.ok.f_lt b D) b9;exact D.2;obtain D|D:=D;exact H.ok.f_or b D;exact .inr (Zeh H.ok.base D.1);obtain⟨h1,h2,h3⟩:=H.ok.b_lt t j b D;refine⟨h1,ZdS h2 b9,λhF=> ?_⟩;obtain hF|hF:=hF;exact h3 hF;omega;obtain D|D:=D;exact H.ok.k_F b D;exact .inr λi9=>by have:=H.ok.k_lt b i9;omega
  have e4:Step B [d] [d] [] w w' h h':=⟨U.mono H.ok.base,λb D _=>U.block b D,λb D=>.inl D,λ_ _ _=>rfl,λ_ _=>rfl,λ_ _ _ _ hm=>(by simp at hm),rfl⟩;rw[L];have b0:∀b,h.exb aq_.2.2 (aq_.2.1++c6) b->h'.exb aq_.2.2 (aq_.2.1++c6) b:=λb D=>by
   obtain D|D:=D;exact .inl (.inl D);exact .inr D
  refine hK _ _ h' (IO (N d L) e4 b2 I ?_) ⟨_,by rw[L]⟩;split
  ·
   rename_i a5;simp only[ZdJ]at a5;refine⟨r,by simp only[eval,J],a2.mono λb D=> ?_⟩;obtain⟨_,D⟩|D:=D;rw[a5.1]at b0 D;exact b0 b D;exact .inl (.inr D)
  rename_i a5;refine⟨r,by simp only[eval,J],?_⟩;split;rename_i g3;simp only[ZdY]at g3;obtain d7|b8:=g3;have b1:=i3 d7;unfold Wl at b1;split at b1;cases b1;rename_i j1;split at b1;rename_i e9;exact a2.flatAll (λy hy=>ZdR.1 e9 y hy) λl hl=>j1 l hl;cases b1;refine a2.mono λb D=> ?_;obtain⟨D,_⟩|D:=D;rw[b8]at D;cases D;exact .inl (.inr D);rename_i c8;refine a2.mono λb D=> ?_;obtain⟨_,D⟩|D:=D;have h9:aq_.2.2=xh:=by
   cases h8:aq_.2.2;rfl;exfalso;apply a5;rw[h8]at c8⊢;simp only[Zgj];cases hz:((!(aq_.2.1++c6).isEmpty||xy)&& !Qz c f&&XB c.P o.type||Qz c f);rfl;exact(c8 hz).elim
  have:=b0 b D;rw[h9]at this;exact GH.exb_ext this;exact .inl (.inr D);rw[if_neg (by rw[e6 I];simp)];rw[L];exact hK _ _ h (IP (N d L) H.ok I) ⟨_,by rw[L]⟩
 cases A;split at A
 ·
  rename_i k es d j3 L;have g4:∃k' efs chks,os= {d:=[(d,C,k')],ps:=[d],rb:=[d],fz:=[],efs,chks}/\(holds s (ZE c C)->(∀e∈es,∃z,eval s e=xk z)/\∀ {v w' h'},RelK c.P B s w' h' (λp=>a.tmps[p]?) d v k->RelK c.P B s w' h' (λp=>(a.put (xk d) v).tmps[p]?) d v k'):=by
   unfold Ch at A;split at A;split at A;rename_i e;split at A;cases A;simp only[ZdF]at A;subst A;refine⟨_,_,_,rfl,λI=>⟨λe he=>a8.2 (ZE c C,e) (ZdX.2 ⟨e,he,rfl⟩) I,λO=> ?_⟩⟩;obtain⟨x,hx,J⟩:=a8.1 _ (List.Mem.head _) I;obtain⟨y,hy,k0⟩:=O;rw[hx]at hy;cases hy;exact⟨x,by simp only[eval,J],k0⟩;cases A;split at A;cases A;rename_i ht;simp only[ZdY,not_or,ZgU]at ht;simp only[ZdF]at A;subst A;refine⟨_,_,_,rfl,λI=>⟨λe he=>a8.2 (ZE c C,e) (ZdX.2 ⟨e,he,rfl⟩) I,λO=>O.other ht.1⟩⟩
  obtain⟨k',efs,chks,rfl,Y⟩:=g4;by_cases I:holds s (ZE c C);rw[if_pos (c1 I)];obtain⟨i2,Y⟩:=Y I;obtain⟨v,w',b4,h',j6,b2,i8⟩:=Z4X H I j3 i2 d L;rw[b4,No,L];exact hK _ _ h' (IO (N d L) j6 b2 I (Y i8)) ⟨_,by rw[L]⟩;rw[if_neg (by rw[e6 I];simp),L];exact hK _ _ h (IP (N d L) H.ok I) ⟨_,by rw[L]⟩
 ·
  split at A;cases A;rename_i h0;have i6:o.guard=xw:=by cases hg:o.guard<;>simp_all
  have h4:C=[]:=by
   unfold LD at hC;rw[i6]at hC;simpa using hC.symm
  subst h4;rw[if_pos (c1 (Yp s c))];simp only[ZdE]at A;obtain⟨m,hm,A⟩:=A;split at A;rename_i c9;simp only[ZdJ,ZdR,Zfc,Ze2]at c9;obtain⟨⟨b3,j5⟩,f2⟩:=c9;simp only[ZdF]at A;subst A;obtain⟨n,u,w',h',b4,j0,T⟩:=Z3q H N hm λe he=>a8.2 ([],e) (ZdX.2 ⟨e,he,rfl⟩) (Vt s);have c0:∀t,t∉m.ps->(a.put o.dst u).tmps[t]?=a.tmps[t]? :=by
   intro t ht;cases L:o.dst with
   |none=>rfl
   |some d=>
    refine RV (λe=>ht ?_) u;rw[e];simpa[Ed,L]using f2
  have c7:OPost c B G s a (a.put o.dst u) w w' h h' (Cg (only all (UE ops all o)) all m):=by
   refine⟨T.step,T.ok,yx _ _ _,yw _ _ _,c0,λt ht=> ?_⟩;simp only[Cg,ZQ,Zf6,Ze8]at ht⊢;rw[Vn,Vn];simp only[ZQ,Zf6,Ze8];by_cases h1:t∈ZQ m.d;have a9:t∈List.map (·.1) m.d:=h1;simp only[a9,true_or,Zer];obtain⟨e1,e2⟩:=T.ent t h1;exact⟨λ_ a7=>e2 a7,λhn=>absurd (by rw[e1];exact Yp s c) hn⟩;have a9:t∉List.map (·.1) m.d:=h1;by_cases h2:t∈ZQ (XW m.ps m.rb m.fz all);have b6:t∈List.map (·.1) (XW m.ps m.rb m.fz all):=h2;simp only[a9,b6,false_or,Zer,Zeu,zp h2];exact⟨λ_ a7=>by simp[TK.isNo]at a7,λhn=>absurd (Yp s c) hn⟩;have b6:t∉List.map (·.1) (XW m.ps m.rb m.fz all):=h2;have h3:t∈m.fz:=by
    obtain(ht|ht)|ht:=ht;exact absurd ht a9;exact absurd ht b6;have:=LY (fz:=m.fz) (g:=only all (UE ops all o));unfold ZQ at this;rw[this]at ht;exact ht
   have e5:t∉m.ps:=λhp=>h1 (b3 t hp);have d5:Va m.ps m.rb m.fz ((only all (UE ops all o)).at t).2=xy:=by
    rw[ya];split;exact FY h2;exact qO _ _ _
   simp only[a9,b6,false_or,Zeu,LX h3];refine⟨λh5 a7=> ?_,λhn=> ?_⟩;have f8:((only all (UE ops all o)).at t).2.isNo=xh:=by
    cases O:((only all (UE ops all o)).at t).2<;>first|rfl|(rw[O]at a7;simp[Rq,TK.isNo]at a7)
   obtain⟨v,hv,O⟩:=H.at_ t h5 f8;exact⟨v,by rw[c0 t e5];exact hv,O.freeze T.step H.ok j5 e5 h3 d5 c0⟩;have:=H.skip t hn;simp only[ZdK,c0 t e5]at this⊢;exact this
  rw[b4];obtain rfl|⟨rfl,rfl⟩:=j0;rw[No];exact hK _ _ h' c7 ⟨_,rfl⟩;rw[Z7O];exact hK _ _ h' c7 ⟨_,rfl⟩;cases A
end
end Vm
end
section
namespace Vm
open Go
open Go.RowKit (Below)
def gL:List XS->Nat->(Nat->Bool)->Gam->Gam
 | [],_,_,g=>g
 |x::xs,k,L,g=>gL xs (k+1) L (if L k then x.os.d++g else g)
def YB(xs:List XS)(g:Gam):Gam:=xs.foldl (λg x=>x.os.d++g) g
def LZ{t}:∀ {xs} {k:Nat} {L l:Nat->Bool} {g n:Gam},(∀i x,xs[i]?=xk x->t∈ZQ x.os.d->L (k+i)=l (k+i))->g.at t=n.at t->(gL xs k L g).at t=(gL xs k l n).at t
 | [],_,_,_,_,_,_,f=>f
 |x::xs,k,L,l,g,n,p,f=>by
  simp[gL];refine LZ (λi y q j=> ?_) ?_;have:=p (i+1) y ZcJ j;grind;by_cases j:t∈ZQ x.os.d;have o:=p 0 x rfl j;rw[Zfr]at o;rw[<-o];split;simp_all[Vn,if_pos];exact f;have:∀b g,Gam.at (if b=xy then x.os.d++g else g) t=g.at t:=by
   intro b g;split;rw[Vn,if_neg j];rfl
  rw[this,this];exact f
def js{t}:∀ {xs} {k:Nat} {L:Nat->Bool} {g:Gam},(∀i x,xs[i]?=xk x->L (k+i)=xy->t∉ZQ x.os.d)->(gL xs k L g).at t=g.at t
 | [],_,_,_,_=>rfl
 |x::xs,k,L,g,f=>by
  simp[gL];rw[js λi y l n=>f (i+1) y ZcJ ZcJ];split;rename_i j;rw[Vn,if_neg (f 0 x rfl j)];rfl
def F5{t}:∀ {xs} {k i:Nat} {L:Nat->Bool} {g:Gam} {x:XS},xs[i]?=xk x->L (k+i)=xy->t∈ZQ x.os.d->(∀j y,xs[j]?=xk y->i<j->L (k+j)=xy->t∉ZQ y.os.d)->(gL xs k L g).at t=x.os.d.at t
 | [],_,_,_,_,_,f,_,_,_=>by simp at f
 |y::xs,k,0,L,g,x,f,l,p,o=>by
  simp at f;subst f;simp[gL];rw[Zfr]at l;rw[l,if_pos rfl,js λj z r n=>o (j+1) z ZcJ Z0 ZcJ,Vn,if_pos p]
 |y::xs,k,i+1,L,g,x,f,l,p,o=>by
  simp[gL];exact F5 (i:=i) ZcY ZcJ p λj z r q n=>o (j+1) z ZcJ Z0 ZcJ
def F4{t}:∀ {xs} {k:Nat} {L:Nat->Bool} {g:Gam},(gL xs k L g).at t=g.at t\/∃j y,xs[j]?=xk y/\L (k+j)=xy/\t∈ZQ y.os.d/\(gL xs k L g).at t=y.os.d.at t
 | [],_,_,_=>.inl rfl
 |x::xs,k,L,g=>by
  simp[gL];obtain h|⟨j,y,n,o,f,h⟩:=F4 (xs:=xs) (k:=k+1) (L:=L) (g:=if L k=xy then x.os.d++g else g) (t:=t);by_cases l:L k=xy;rw[if_pos l]at h⊢;rw[Vn]at h;split at h;rename_i f;exact .inr ⟨0,x,rfl,l,f,h⟩;simp_all;simp_all;exact .inr ⟨j+1,y,ZcJ,ZcJ,f,h⟩
def jt:∀ {xs} {k j:Nat} {g:Gam},gL xs k (λi=>decide (i<k+j)) g=YB (xs.take j) g
 | [],_,_,_=>by simp[gL,YB]
 |x::xs,k,0,g=>by
  simp only[gL];simp[ZhZ,YB,List.foldl_nil];have n:∀xs f g,k<=f->gL xs f (λi=>decide (i<k+0)) g=g:=by
   intro xs;induction xs with
   |nil=>intro f g _;rfl
   |cons y r p=>
    intro f g q;simp[gL];rw[if_neg ZcL];exact p _ g Z0
  exact n xs _ g Z0
 |x::xs,k,j+1,g=>by
  simp only[gL];rw[if_pos Z1];have l:=jt (xs:=xs) (k:=k+1) (j:=j) (g:=x.os.d++g);have o:(λi=>decide (i<k+1+j))=λi=>decide (i<k+(j+1)):=by
   funext i;congr 1;apply propext;omega
  rw[o]at l;rw[l];simp[YB]
def N3{c draw n ops}:∀ {l} {g q:Gam} {d xs:List XS},Jc c draw n ops l g d=xk (q,xs)->
  ∃k,xs=d++k/\P k=P l/\q=YB k g/\∀j o,l[j]?=xk o->∃y,k[j]?=xk y/\Q4 c n ops (YB (k.take j) g) o=xk y.os/\y.R=UE ops (YB (k.take j) g) o/\y.T=Jh draw (d++k.take j) o/\(draw=xy->∀e∈Sq o,e<P d+j)
 | [],g,q,d,xs,h=>by
   simp[Jc,ZdF,ZdU]at h;obtain⟨rfl,rfl⟩:=h;exact⟨[],Z1,rfl,rfl,λj o r=>by simp at r⟩
 |o::l,g,q,d,xs,h=>by
  simp only[Jc]at h;split at h;cases h;rename_i f;simp[ZdE]at h;let⟨os,A,h⟩:=h;obtain⟨k,rfl,J,rfl,p⟩:=N3 h;refine⟨{os,R:=UE ops g o,T:=Jh draw d o}::k,Z1,by simp[J],by simp[YB],λj K r=> ?_⟩;cases j with
  |zero=>
   simp at r;subst r;refine⟨_,rfl,by simpa[YB]using A,by simp[YB],Z1,λx e z=> ?_⟩;simp[x,Zgj,ZeH,Zgi,ZdR,Ze2]at f;exact f e z
  |succ j=>
   let⟨y,C,D,F,H,I⟩:=p j K ZcJ;refine⟨y,by simpa using C,by simpa[YB]using D,by simpa[YB]using F,by simpa using H,λx e z=> ?_⟩;have:=I x e z;simp at this;omega
structure Reg.Fine (c:Ctx) (draw:Bool) (ops:Array Oper) (g0:Gam) (xs:List XS):Prop where
 len:P xs=ops.size
 at_:∀(i:Nat) (o:Oper) (x:XS),ops[i]?=xk o->xs[i]?=xk x->Q4 c (zq ops) ops (YB (xs.take i) g0) o=xk x.os/\x.R=UE ops (YB (xs.take i) g0) o/\x.T=Jh draw (xs.take i) o/\(draw=xy->∀e∈Sq o,e<i)
 ps:∀(i:Nat) (x:XS),xs[i]?=xk x->(∀p∈x.os.ps,p∈ZQ x.os.d)/\(∀p∈x.os.fz,p∈ZQ x.os.d)/\KG x.os g0=xy/\∀j∈x.T,j<i
 pair:∀(i j:Nat) (x y:XS),xs[i]?=xk x->xs[j]?=xk y->zX x i y j=xy
def Z0P{c draw ops g0 gf xs}(h:Jc c draw (zq ops) ops ops.toList g0 []=xk (gf,xs))(f:AC g0 xs=xy):Reg.Fine c draw ops g0 xs/\gf=YB xs g0:=by
 obtain⟨H,l,C,rfl,d⟩:=N3 h;simp[ZeA]at l;subst l;refine⟨⟨Z0,λi o x D k=> ?_,λi x k=> ?_,λi j x y k F=> ?_⟩,rfl⟩;let⟨y,n,p,q,r,A⟩:=d i o ZcJ;simp_all;all_goals
  simp only[AC,ZdR,ZdJ]at f;have z:∀i x,xs[i]?=xk x->(x,i)∈xs.zipIdx:=λi x k=>ZgQ.2 ⟨i,by rw[ZfX,k];simp⟩
 let⟨⟨⟨⟨n,p⟩,q⟩,r⟩,_⟩:=f _ (z i x k);simp_all;simp_all
section
variable {c:Ctx}{B:Nat}{G:Nat->Prop}{s:St}{a a':Act}{w w' w0:World}{h h':GH}{g0:Gam}{ops:Array Oper}{xs:List XS}{draw:Bool}{L:Nat->Bool}
def Qb(xs:List XS)(L:Nat->Bool):Prop:=∀(i:Nat) (x:XS),xs[i]?=xk x->L i=xy->∀j∈x.T,L j=xy
def add(L:Nat->Bool)(i:Nat):Nat->Bool:=λj=>L j||j==i
def B1{x y i j}(l:zX x i y j=xy)(f:j≠i)(k:i∉y.T):KG x.os y.os.d=xy/\(j∉x.T->(∀t∈ZQ y.os.d,t∉ZQ x.os.d)/\∀t∈ZQ y.os.d,t∉x.R):=by
 simp[zX,ZdY,ZdJ,Zeq,f,false_or,Zfc,Ze2,k]at l;grind [qz,List.all_eq_true,Bool.not_eq_true',decide_eq_false_iff_not]
def IV{f g}(k:KG f g=xy){t}(l:t∉ZQ f.d):Va f.ps f.rb f.fz (g.at t).2=xy:=by
 by_cases j:t∈ZQ g;have:=ZdR.1 k _ (Lr j);simp_all;simp_all[qH,qO]
def Reg.Fine.only(q:Reg.Fine c draw ops g0 xs)(p:Qb xs L)(r:RelG c B G s a w h (gL xs 0 L g0)){i x}(hx:xs[i]?=xk x)(N:L i=xh)(M:∀j∈x.T,L j=xy):
  RelG c B G s a w h (only (YB (xs.take i) g0) x.R):=by
 have d:∀t,t∈x.R->(gL xs 0 L g0).at t=(YB (xs.take i) g0).at t:=by
  intro t o;have l:=jt (xs:=xs) (k:=0) (j:=i) (g:=g0);simp[Zet]at l;rw[<-l];refine LZ (λj y A z=> ?_) rfl;rw[Zet];let⟨_,_,_,J⟩:=q.ps j y A;let⟨_,_,_,I⟩:=q.ps i x hx;by_cases n:j=i;simp_all;have f:=λD F=>((B1 (q.pair i j x y hx A) n F).2 D).2 t z o;obtain K|l:=ZgB n;grind;cases H:L j with
  |false=>simp;omega
  |true=>
   exfalso;refine f (λC=>ZcJ) λC=> ?_;have:=p j y A H i C;simp_all
 refine⟨r.ok,λt=> ?_,λt=> ?_⟩;rw[ya];split;rename_i o;rw[<-d t o];exact r.at_ t;simp_all[TK.isNo];rw[ya];split;rename_i o;rw[<-d t o];exact r.skip t;simp_all[absurd,Yp]
def Reg.Fine.next(I:Reg.Fine c draw ops g0 xs)(F:Qb xs L)(O:RelG c B G s a w h (gL xs 0 L g0)){i x}(hx:xs[i]?=xk x)(hi:L i=xh)(Q:∀t∈x.os.rb,t∈x.os.ps)(hT:∀j∈x.T,L j=xy)(A:OPost c B G s a a' w w' h h' x.os):
  RelG c B G s a' w' h' (gL xs 0 (add L i) g0):=by
 let⟨N,J,a0,X⟩:=I.ps i x hx
 have key:∀t,(holds s (ZE c ((gL xs 0 (add L i) g0).at t).1)->((gL xs 0 (add L i) g0).at t).2.isNo=xh->∃v,a'.tmps[t]?=xk v/\RelK c.P B s w' h' (λp=>a'.tmps[p]?) t v ((gL xs 0 (add L i) g0).at t).2)/\
   (¬holds s (ZE c ((gL xs 0 (add L i) g0).at t).1)->a'.tmps.getD t undef=undef):=by
  intro t;by_cases C:t∈ZQ x.os.d;have:(gL xs 0 (add L i) g0).at t=x.os.d.at t:=by
   refine F5 hx (by simp[add]) C λj y D Y H r=> ?_;have K:L j=xy:=by
    simp[add,Zet,ZdY,Zeq]at H;exact H.resolve_right Z0
   have l:i∉y.T:=λf=>by
    have:=F j y D K i f;simp_all
   exact((B1 (I.pair i j x y hx D) Z0 l).2 λf=>ZcJ).1 t r C
  rw[this];exact A.ent t C;have q:(gL xs 0 (add L i) g0).at t=(gL xs 0 L g0).at t:=by
   refine LZ (λj y D r=> ?_) rfl;by_cases o:j=i;simp_all;simp[add,o]
  rw[q];have z:=λf=>C (N t f);have n:Va x.os.ps x.os.rb x.os.fz ((gL xs 0 L g0).at t).2=xy:=by
   obtain U|⟨j,y,D,H,r,U⟩:=F4 (xs:=xs) (k:=0) (L:=L) (g:=g0) (t:=t);simp_all[IV];rw[U];rw[Zet]at H;have o:j≠i:=λe=>ZcK;have l:i∉y.T:=λf=>by
    have:=F j y D H i f;simp_all
   exact IV (B1 (I.pair i j x y hx D) o l).1 C
  refine⟨λW M=> ?_,λM=> ?_⟩;let⟨v,hv,Z⟩:=O.at_ t W M;exact⟨v,by rw[A.tm t z];exact hv,Z.keep A.step O.ok Q z (λf=>absurd (J t f) C) n A.tm⟩;have:=O.skip t M;simp[ZdK,A.tm t z]at this⊢;exact this
 exact⟨A.ok,λt=>(key t).1,λt=>(key t).2⟩
def Z0p(f:Qb xs L){i x}(hx:xs[i]?=xk x)(o:∀j∈x.T,L j=xy):Qb xs (add L i):=by
 intro j y n d k l;simp[add,ZdY,Zeq]at d⊢;obtain d|rfl:=d;exact .inl (f j y n d k l);simp_all
end
end Vm
namespace Vm
open Go
open Go.RowKit (Below)
section
variable {c:Ctx}{B:Nat}{G:Nat->Prop}{s:St}{a a':Act}{w w' w0:World}{h h':GH}{g0:Gam}{ops:Array Oper}{xs:List XS}{draw:Bool}{L:Nat->Bool}{n0:Nat}{ds:List Deferred}
def Z7u{j all o k}(d:Q4 c j ops all o=xk k):∀t∈k.rb,t∈k.ps:=by
 unfold Q4 at d;split at d;grind;simp only[ZdE]at d;let⟨C,_,d⟩:=d;split at d;unfold Ce at d;simp[ZdE]at d;grind;grind;split at d;unfold Cd at d;simp[ZdI]at d;grind;grind;split at d;unfold Ch at d;grind;split at d;grind;simp only[ZdE]at d;let⟨m,_,d⟩:=d;split at d;rename_i f;simp[ZdJ,ZdR,Zfc,Ze2]at f;simp[ZdF]at d;subst d;exact f.1.2;grind
structure Frm (Kf:Nat->Prop) (fx:Nat->Prop) (T0:Array Value) (B:Nat) (w0:World) (a:Act) (w:World):Prop where
 below:Below B w0 w
 same:Same Kf w0 w
 fix:∀t,fx t->a.tmps[t]?=T0[t]?
def Frm.refl{Kf fx B}a w:Frm Kf fx a.tmps B w a w:=⟨.refl _ _,.refl _ _,λ_ _=>rfl⟩
theorem Frm.trans{Kf fx T0 B w0 w w' a a'}(h:Frm Kf fx T0 B w0 a w)(h':Frm Kf fx a.tmps B w a' w'):Frm Kf fx T0 B w0 a' w':=
 ⟨h.below.trans h'.below,h.same.trans h'.same,λt d=>(h'.fix t d).trans (h.fix t d)⟩
variable {Kf fx:Nat->Prop}{T0:Array Value}
def Step.K_same{l n fz}(k:Step B l n fz w w' h h')(d:Ok B G w h):Same h.K w w':=
 λb f=>k.same b (d.k_lt b f) λp _ i j=>d.k_bl p i b j f
def RInv(Kf fx:Nat->Prop)(T0:Array Value)(c:Ctx)(B:Nat)(G:Nat->Prop)(s:St)(g0:Gam)(xs:List XS)(w0:World)(n0:Nat)(ds:List Deferred)(L:Nat->Bool)(a:Act)(w:World):Prop:=
 (∃h,RelG c B G s a w h (gL xs 0 L g0)/\h.K=Kf)/\Frm Kf fx T0 B w0 a w/\a.tmps.size=n0/\a.defers=ds/\Qb xs L
def RelG.drew{g}(f:RelG c B G s a w h g)d:RelG c B G s a {w with drawn:=d} h g:=by
 have k:Step B [] [] [] w {w with drawn:=d} h h:=⟨⟨rfl,rfl,rfl,ZdL _,λ_ _=>rfl⟩,λ_ _ _=>rfl,λ_ n=>n,λ_ _ _=>rfl,λ_ _=>rfl,λ_ _ _ _ p=>(by simp at p),rfl⟩;have j:Ok B G {w with drawn:=d} h:=⟨f.ok.base,f.ok.f_lt,f.ok.f_or,f.ok.g_F,f.ok.b_lt,f.ok.inj,f.ok.k_lt,f.ok.k_bl,f.ok.k_F⟩;refine⟨j,λt l q=> ?_,f.skip⟩;let⟨v,r,o⟩:=f.at_ t l q
 exact⟨v,r,o.keep k f.ok (λ_ h=>h) Z1 (λh=>Zdi) (by
  have:QE [] (g.at t).2=xh:=by cases(g.at t).2<;>simp[QE]
  simp[Va,this]) λ_ _=>rfl⟩
def RInv.sim(j:RInv Kf fx T0 c B G s g0 xs w0 n0 ds L a w)d:RInv Kf fx T0 c B G s g0 xs w0 n0 ds L a {w with drawn:=d}:=by
 let⟨⟨h,n,k⟩,l,f⟩:=j;exact⟨⟨h,n.drew d,k⟩,l.trans ⟨⟨rfl,rfl,rfl,ZdL _,λ_ _=>rfl⟩,λ_ _=>rfl,λ_ _=>rfl⟩,f⟩
def RInv.of_sim [Lg c.P]{w1}(d:RInv Kf fx T0 c B G s g0 xs w0 n0 ds L a w)(h:Lg.sim c.P w w1):RInv Kf fx T0 c B G s g0 xs w0 n0 ds L a w1:=by
 rw[Lg.sim_eq h];exact d.sim _
def M9 [Lg c.P](Q:∀o∈ops,∀d,o.dst=xk d->¬fx d)(r:Reg.Fine c draw ops g0 xs)(U:∀x∈xs,QS c.P s x.os)(Z:c.n<=n0)(M:RInv Kf fx T0 c B G s g0 xs w0 n0 ds L a w){i x}(hx:xs[i]?=xk x)(I:L i=xh)(y:∀j∈x.T,L j=xy)
  {K} (N:∀a' w',RInv Kf fx T0 c B G s g0 xs w0 n0 ds (add L i) a' w'->K a' w'):RQ c.P ops i K a w:=by
 let⟨⟨h,A,l⟩,O,F,z,f⟩:=M;have p:i<ops.size:=by rw[<-r.len];exact(ZdH.1 hx).1
 let⟨H,J,W,X⟩:=r.at_ i ops[i] x (Zed p) hx;have D:=r.only f A hx I y;have C:=Z7u H;refine Z7v (R:=x.R) (Zed p) J D H (U x (ZdO hx)) Z0 λa' w' h' k q=>N a' w' ⟨⟨h',r.next f A hx I C y k,k.step.K.trans l⟩,O.trans ⟨k.step.below,by rw[<-l];exact k.step.K_same A.ok,λt ht=> ?_⟩,by rw[k.size,F],by rw[k.defers,z],Z0p f hx y⟩;obtain⟨u,rfl⟩:=q;cases Y:(ops[i]).dst with
 |none=>rfl
 |some d=>grind [RV,Array.getElem_mem]
def Ma [Lg c.P](f:∀o∈ops,Lg.fit c.P o)(l:∀o∈ops,∀d,o.dst=xk d->¬fx d)(r:Reg.Fine c xh ops g0 xs)(F:∀x∈xs,QS c.P s x.os)(D:c.n<=n0){Q}(A:∀a w,RInv Kf fx T0 c B G s g0 xs w0 n0 ds (λi=>decide (i<ops.size)) a w->Q .normal a w):
  ∀m k a w,k+m=ops.size->RInv Kf fx T0 c B G s g0 xs w0 n0 ds (λi=>decide (i<k)) a w->Lg.todo c.P ops Q (List.range' k m) a w
 |0,k,a,w,J,y=>by
  have:k=ops.size:=Z0;subst this;exact Lg.todo_nil (A a w y)
 |m+1,k,a,w,J,y=>by
  have p:k<P xs:=by rw[r.len];omega
  have q:k<ops.size:=Z0;let⟨_,_,H,_⟩:=r.at_ k ops[k] xs[k] (Zed q) (ZdG p);refine Lg.todo_cons f λw1 z=> ?_;refine M9 l r F D (y.of_sim z) (ZdG p) Z1 (λj C=> ?_) λa' w' I=>Ma f l r F D A m _ a' w' Z0 ?_;rw[H]at C;simp[Jh,ZdZ,Zeu,ZfW,ZeU]at C;simp;omega;have:add (λi=>decide (i<k)) k=λi=>decide (i<k+1):=by
   funext i;simp[add];by_cases K:i<k;grind;grind
  simp_all
def qp(n:Nat)(L:Nat->Bool):Nat:=P ((List.range n).filter λi=> !L i)
def EC{p q}:∀ {l:List Nat},(∀i∈l,q i=xy->p i=xy)->(∃i∈l,p i=xy/\q i=xh)->P (l.filter q)< P (l.filter p)
 | [],_,⟨i,d,_⟩=>Zdn
 |x::l,f,⟨i,d,j,k⟩=>by
  have n:∀(l:List Nat),(∀i∈l,q i=xy->p i=xy)->P (l.filter q)<=P (l.filter p):=by
   intro l;induction l with
   |nil=>simp
   |cons y l o=>
    grind
  simp[List.filter_cons];obtain rfl|d:=Ze3.1 d;grind;have:=EC (l:=l) (λi d=>f i (by simp[d])) ⟨i,d,j,k⟩;grind
def Z7J{n L i}(f:i<n)(d:L i=xh):qp n (add L i)<qp n L:=
 EC (λj _ k=>by simp_all[add,ZeH,Bool.or_eq_false_iff]) ⟨i,ZcJ,by simp[d],by simp[add]⟩
def Z7K{n L}(h:qp n L=0):∀i,i<n->L i=xy:=by
 intro i f;cases j:L i with
 |true=>rfl
 |false=>
  have d:=ZeB h;simp_all
def Z3d{o e}(f:e∈o.after)(d:Region.binds .any e=xy):e.on∈Sq o:=by
 simp[Sq,ZdX,Zgy];grind
def Z0z{o j}(d:j∈Sq o):∃e∈o.after,Region.binds .any e=xy/\e.on=j:=by
 grind [Sq]
def Z5R [Lg c.P](X:∀o∈ops,∀d,o.dst=xk d->¬fx d)(I:Reg.Fine c xy ops g0 xs)(hs:∀x∈xs,QS c.P s x.os)(hn:c.n<=n0){Q}(hQ:∀a w L,(∀i,i<ops.size->L i=xy)->RInv Kf fx T0 c B G s g0 xs w0 n0 ds L a w->Q .normal a w):
  ∀f listed a w,listed.size=ops.size->qp ops.size (λi=>listed.getD i xh)<=f->RInv Kf fx T0 c B G s g0 xs w0 n0 ds (λi=>listed.getD i xh) a w->Lq c.P ops Q f listed a w:=by
 have Y:∀(listed:Array Bool) i,listed.size=ops.size->i<ops.size->listed.getD i xy=listed.getD i xh:=by
  intro listed i C U;simp[ZdK,C,U]
 have l:∀listed,listed.size=ops.size->Region.ready .any ops listed=[]->∀i,i<ops.size->listed.getD i xh=xy:=by
  intro listed y O i;induction i using Nat.strongRecOn with
  |_ i ih=>
   intro J;cases hl:listed.getD i xh with
   |true=>rfl
   |false=>
    have q:i<P xs:=by rw[I.len];exact J
    let⟨_,_,_,T⟩:=I.at_ i ops[i] xs[i] (Zed J) (ZdG q)
    have:i∈Region.ready .any ops listed:=mem_ready.2 ⟨ZcK,ops[i],Zed J,λe N hb=>by
     have p:=T rfl e.on (Z3d N hb);grind⟩
    simp_all
 intro f;induction f with
 |zero=>
  intro listed a w y hu D;have k:=Z7K (Nat.le_zero.1 hu);refine⟨?_,hQ a w _ k D⟩;cases O:Region.ready .any ops listed with
  |nil=>rfl
  |cons i r=>
   have:i∈Region.ready .any ops listed:=by rw[O];simp
   grind [mem_ready,Array.getElem?_eq_some_iff]
 |succ f ih=>
  intro listed a w y hu D;refine⟨λO=>hQ a w _ (l listed y O) D,λi J w1 a1=> ?_⟩;let⟨C,o,ho,k⟩:=mem_ready.1 J;have p:=(ZdM.1 ho).1;have q:i<P xs:=by rw[I.len];exact p
  rw[Y listed i y p]at C;let⟨_,_,e3,T⟩:=I.at_ i o xs[i] ho (ZdG q);have W:=D.2.2.2.2;have F:(λj=>(listed.setIfInBounds i xy).getD j xh)=add (λi=>listed.getD i xh) i:=by
   funext j;simp[add];by_cases a3:j=i;simp_all;simp_all[getD_set_ne,ZfK]
  refine M9 X I hs hn (D.of_sim a1) (ZdG q) C (λj Z=> ?_) λa' w' a2=>ih _ a' w' ZcK ?_ ZcK;rw[e3]at Z;simp[Jh,Zer,Zgy,ZfW,Zfq,ZdY,Zeq,Zfc,Ze2]at Z;let⟨_,e,N,a0⟩:=Z;obtain⟨M,U,h3,rfl⟩:=Z0z N;have H:=k M U h3;obtain rfl|A:=a0;exact H;have K:=T rfl M.on N;have z:M.on<P xs:=Z0;unfold D9 at A;rw[Zej,if_pos K,ZdG z]at A;exact W M.on _ (ZdG z) H j A;rw[F];have:=Z7J (n:=ops.size) (L:=λi=>listed.getD i xh) p C;omega
def Z5U [Lg c.P](f:∀o∈ops,Lg.fit c.P o)(hm:draw=xy->c.P.follows .mixedOrders=xy){id}(M:Reg.Fine c draw ops g0 xs)(W:∀x∈xs,QS c.P s x.os)(U:c.n<=a.tmps.size)(z:RelG c B G s a w h g0)(C:∀o∈ops,∀d,o.dst=xk d->¬fx d)
  {Q} (Z:∀a' w' h',RelG c B G s a' w' h' (YB xs g0)->h'.K=h.K->Frm h.K fx a.tmps B w a' w'->a'.tmps.size=a.tmps.size->a'.defers=a.defers->Q .normal a' w'):Lg.wp c.P (.region id ops draw) Q a w:=by
 have q:∀L,(∀i,L i=xh)->Qb xs L:=λL p i x _ N=>ZcK;have D:∀L,(∀i,L i=xh)->∀t,(gL xs 0 L g0).at t=g0.at t:=λL p t=>js λi x _ N=>ZcK;have l:∀ {w} L,(∀i,L i=xh)->RelG c B G s a w h g0->RelG c B G s a w h (gL xs 0 L g0):=λL p z=>
  ⟨z.ok,λt=>by rw[D L p t];exact z.at_ t,λt=>by rw[D L p t];exact z.skip t⟩
 have r:∀ {a'} {w1 w':World} L,(∀i,i<ops.size->L i=xy)->RInv h.K fx a.tmps c B G s g0 xs w1 a.tmps.size a.defers L a' w'->Frm h.K fx a.tmps B w a w1->Q .normal a' w':=by
  rintro a' w1 w' L p ⟨⟨h',y,I⟩,hb,X,Y,_⟩ J;refine Z a' w' h' ?_ I (J.trans hb) X Y;have T:∀t,(gL xs 0 L g0).at t=(YB xs g0).at t:=by
   intro t;have:=jt (xs:=xs) (k:=0) (j:=P xs) (g:=g0);rw[Zfa]at this;rw[<-this];refine LZ (λi x hx _=> ?_) rfl;have F:=(ZdH.1 hx).1;rw[Zet,p i (by rw[<-M.len];exact F)];simp[F]
  exact⟨y.ok,λt=>by rw[<-T t];exact y.at_ t,λt=>by rw[<-T t];exact y.skip t⟩
 cases draw with
 |false=>
  refine Lg.wp_region f ?_;rw[List.range_eq_range'];refine Ma f (Kf:=h.K) (T0:=a.tmps) C M W U (w0:=w) (n0:=a.tmps.size) (ds:=a.defers) (λa' w' H=>r _ (λi N=>by simp[N]) H (Frm.refl _ _)) ops.size 0 a w Z0 ⟨⟨h,l _ (λi=>Z1) z,rfl⟩,Frm.refl _ _,rfl,rfl,q _ λi=>Z1⟩
 |true=>
  refine Z5S f (hm rfl) λw1 O=> ?_;rw[show({w1 with drawn:=w1.drawn+1}:World)= {w with drawn:=w1.drawn+1}from ZeX (λx=> {x with drawn:=w1.drawn+1}) (Lg.sim_eq O)];generalize w1.drawn+1=d;have A:∀i,(Array.replicate ops.size xh).getD i xh=xh:=λi=>by
   simp[ZdK,Array.getElem?_replicate];grind
  refine Z5R (Kf:=h.K) (T0:=a.tmps) C M W U (w0:= {w with drawn:=d}) (n0:=a.tmps.size) (ds:=a.defers) (λa' w' L p H=>r L p H ⟨⟨rfl,rfl,rfl,ZdL _,λ_ _=>rfl⟩,λ_ _=>rfl,λ_ _=>rfl⟩) ops.size _ a _ Z1 ?_ ⟨⟨h,l _ A (z.drew d),rfl⟩,Frm.refl _ _,rfl,rfl,q _ A⟩;exact Zeh (ZhM _ _) Z1
end
end Vm
namespace Vm
open Go
mutual
theorem Y6{s t:St}:∀(e:E),(∀j,E.asks j e=xy->get s j=get t j)->eval s e=eval t e
 |.c v,_=>rfl
 |.s u,h=>Zdo
 |.m u i,h=>Zdo
 |.mm u i n,h=>Zdo
 |.bin op a b,h=>ZcN
 |.eqv n a b,h=>ZcN
 |.un op a,h=>ZcO
 |.conv k a,h=>ZcO
 |.len a,h=>ZcO
 |.mn a b,h=>ZcN
 |.mx a b,h=>ZcN
 |.ext a i,h=>ZcO
 |.idx a b k,h=>ZcN
 |.fld a o,h=>ZcO
 |.flds a o n,h=>ZcO
 |.ai a b n k g,h=>ZcN
 |.slc a b d k,h=>ZcR
 |.slcl a b k,h=>ZcN
 |.app a b k,h=>ZcN
 |.upd a b o d,h=>ZcR
 |.aput a b n k d,h=>ZcR
 |.mk z a,h=>ZcO
 |.lit l,h=>Zd2
 |.ag l,h=>Zd2
 |.pt f l,h=>Zd2
 |.ite a b d,h=>ZcR
 |.star a,h=>ZcO
 |.isag a,h=>ZcO
 |.one a,h=>ZcO
 |.sz a n,h=>ZcO
 |.fl a,h=>ZcO
 |.fls a,h=>ZcO
 |.lk q a b z ok,h=>ZcN
 |.mput q a b d,h=>ZcR
 |.mlen a,h=>ZcO
 |.mclr a,h=>ZcO
theorem Su{s t:St}:∀(l:List E),(∀j,E.asksIn j l=xy->get s j=get t j)->YA s l=YA t l
 | [],_=>rfl
 |e::l,h=>by simp only[YA];rw[Y6 e λj d=>h j (by simp[E.asksIn,d]),Su l λj d=>h j (by simp[E.asksIn,d])]
end
mutual
theorem V.same_eq:∀(a b:V),V.same a b=xy->a=b
 | .int k n,b,h=>by
   cases b<;>simp only[V.same]at h<;>first|(cases h;done)|skip
   simp at h;rw[h.1,h.2]
 | .bool x,b,h=>by
   cases b<;>simp only[V.same]at h<;>first|(cases h;done)|skip
   simp at h;rw[h]
 |.str x,b,h=>Zdu
 | .sl l,b,h=>by
   cases b<;>simp only[V.same]at h<;>first|(cases h;done)|skip
   rw[V.sames_eq l _ h]
 | .agg l,b,h=>by
   cases b<;>simp only[V.same]at h<;>first|(cases h;done)|skip
   rw[V.sames_eq l _ h]
 | .tup l,b,h=>by
   cases b<;>simp only[V.same]at h<;>first|(cases h;done)|skip
   rw[V.sames_eq l _ h]
 |.ptr l,b,h=>Zdu
 |.clo f l,b,h=>Zdu
 |.nul k,b,h=>Zdu
 | .fn f,b,h=>by
   cases b<;>simp only[V.same]at h<;>first|(cases h;done)|skip
   simp at h;rw[h]
 | .mp id d vs,b,h=>by
   cases b<;>simp only[V.same,ZdJ,Zeq]at h<;>first|(cases h;done)|skip
   rw[h.1.1,V.sames_eq d _ h.1.2,V.sames_eq vs _ h.2]
theorem V.sames_eq:∀(a b:List V),V.sames a b=xy->a=b
 | [],b,h=>by cases b<;>simp[V.sames]at h⊢
 |x::l,b,h=>by
  obtain _|⟨y,r⟩:=b;simp[V.sames]at h;simp only[V.sames,ZdJ]at h;rw[V.same_eq x y h.1,V.sames_eq l r h.2]
end
mutual
theorem E.same_eq:∀(a b:E),E.same a b=xy->a=b
 | .c v,b,h=>by
   cases b<;>simp only[E.same]at h<;>first|(cases h;done)|skip
   rw[V.same_eq v _ h]
 | .s u,b,h=>by
   cases b<;>simp only[E.same,Zeq,ZdJ]at h<;>first|(cases h;done)|skip
   rw[h]
 | .m u i,b,h=>by
   cases b<;>simp only[E.same,Zeq,ZdJ]at h<;>first|(cases h;done)|skip
   rw[h.1,h.2]
 | .mm u i n,b,h=>by
   cases b<;>simp only[E.same,Zeq,ZdJ]at h<;>first|(cases h;done)|skip
   rw[h.1.1,h.1.2,h.2]
 | .bin op x y,b,h=>by
   cases b<;>simp only[E.same,Ze2,ZdJ]at h<;>first|(cases h;done)|skip
   rw[h.1.1,E.same_eq x _ h.1.2,E.same_eq y _ h.2]
 | .eqv op x y,b,h=>by
   cases b<;>simp only[E.same,Zeq,ZdJ]at h<;>first|(cases h;done)|skip
   rw[h.1.1,E.same_eq x _ h.1.2,E.same_eq y _ h.2]
 | .un op x,b,h=>by
   cases b<;>simp only[E.same,Ze2,ZdJ]at h<;>first|(cases h;done)|skip
   rw[h.1,E.same_eq x _ h.2]
 | .conv k x,b,h=>by
   cases b<;>simp only[E.same,Ze2,ZdJ]at h<;>first|(cases h;done)|skip
   rw[h.1,E.same_eq x _ h.2]
 | .len x,b,h=>by
   cases b<;>simp only[E.same]at h<;>first|(cases h;done)|skip
   rw[E.same_eq x _ h]
 | .mn x y,b,h=>by
   cases b<;>simp only[E.same,ZdJ]at h<;>first|(cases h;done)|skip
   rw[E.same_eq x _ h.1,E.same_eq y _ h.2]
 | .mx x y,b,h=>by
   cases b<;>simp only[E.same,ZdJ]at h<;>first|(cases h;done)|skip
   rw[E.same_eq x _ h.1,E.same_eq y _ h.2]
 | .ext x i,b,h=>by
   cases b<;>simp only[E.same,Zeq,ZdJ]at h<;>first|(cases h;done)|skip
   rw[E.same_eq x _ h.1,h.2]
 | .idx x y k,b,h=>by
   cases b<;>simp only[E.same,Zeq,ZdJ]at h<;>first|(cases h;done)|skip
   rw[E.same_eq x _ h.1.1,E.same_eq y _ h.1.2,h.2]
 | .fld x o,b,h=>by
   cases b<;>simp only[E.same,Zeq,ZdJ]at h<;>first|(cases h;done)|skip
   rw[E.same_eq x _ h.1,h.2]
 | .flds x o n,b,h=>by
   cases b<;>simp only[E.same,Zeq,ZdJ]at h<;>first|(cases h;done)|skip
   rw[E.same_eq x _ h.1.1,h.1.2,h.2]
 | .ai x y n k g,b,h=>by
   cases b<;>simp only[E.same,Zeq,ZdJ]at h<;>first|(cases h;done)|skip
   rw[E.same_eq x _ h.1.1.1.1,E.same_eq y _ h.1.1.1.2,h.1.1.2,h.1.2,h.2]
 | .slc x y z k,b,h=>by
   cases b<;>simp only[E.same,Zeq,ZdJ]at h<;>first|(cases h;done)|skip
   rw[E.same_eq x _ h.1.1.1,E.same_eq y _ h.1.1.2,E.same_eq z _ h.1.2,h.2]
 | .slcl x y k,b,h=>by
   cases b<;>simp only[E.same,Zeq,ZdJ]at h<;>first|(cases h;done)|skip
   rw[E.same_eq x _ h.1.1,E.same_eq y _ h.1.2,h.2]
 | .app x y k,b,h=>by
   cases b<;>simp only[E.same,Zeq,ZdJ]at h<;>first|(cases h;done)|skip
   rw[E.same_eq x _ h.1.1,E.same_eq y _ h.1.2,h.2]
 | .upd x y o z,b,h=>by
   cases b<;>simp only[E.same,Zeq,ZdJ]at h<;>first|(cases h;done)|skip
   rw[E.same_eq x _ h.1.1.1,E.same_eq y _ h.1.1.2,h.1.2,E.same_eq z _ h.2]
 | .aput x y n k z,b,h=>by
   cases b<;>simp only[E.same,Zeq,ZdJ]at h<;>first|(cases h;done)|skip
   rw[E.same_eq x _ h.1.1.1.1,E.same_eq y _ h.1.1.1.2,h.1.1.2,h.1.2,E.same_eq z _ h.2]
 | .mk v x,b,h=>by
   cases b<;>simp only[E.same,ZdJ]at h<;>first|(cases h;done)|skip
   rw[V.same_eq v _ h.1,E.same_eq x _ h.2]
 | .lit l,b,h=>by
   cases b<;>simp only[E.same]at h<;>first|(cases h;done)|skip
   rw[E.sames_eq l _ h]
 | .pt f l,b,h=>by
   cases b<;>simp only[E.same,ZdJ,Zeq]at h<;>first|(cases h;done)|skip
   rw[h.1,E.sames_eq l _ h.2]
 | .ag l,b,h=>by
   cases b<;>simp only[E.same]at h<;>first|(cases h;done)|skip
   rw[E.sames_eq l _ h]
 | .ite x y z,b,h=>by
   cases b<;>simp only[E.same,ZdJ]at h<;>first|(cases h;done)|skip
   rw[E.same_eq x _ h.1.1,E.same_eq y _ h.1.2,E.same_eq z _ h.2]
 | .star x,b,h=>by
   cases b<;>simp only[E.same]at h<;>first|(cases h;done)|skip
   rw[E.same_eq x _ h]
 | .isag x,b,h=>by
   cases b<;>simp only[E.same]at h<;>first|(cases h;done)|skip
   rw[E.same_eq x _ h]
 | .one x,b,h=>by
   cases b<;>simp only[E.same]at h<;>first|(cases h;done)|skip
   rw[E.same_eq x _ h]
 | .sz x n,b,h=>by
   cases b<;>simp only[E.same,Zeq,ZdJ]at h<;>first|(cases h;done)|skip
   rw[E.same_eq x _ h.1,h.2]
 | .fl x,b,h=>by
   cases b<;>simp only[E.same]at h<;>first|(cases h;done)|skip
   rw[E.same_eq x _ h]
 | .fls x,b,h=>by
   cases b<;>simp only[E.same]at h<;>first|(cases h;done)|skip
   rw[E.same_eq x _ h]
 | .lk d x y z ok,b,h=>by
   cases b<;>simp only[E.same,Zeq,Ze2,ZdJ]at h<;>first|(cases h;done)|skip
   rw[h.1.1.1.1,E.same_eq x _ h.1.1.1.2,E.same_eq y _ h.1.1.2,V.same_eq z _ h.1.2,h.2]
 | .mput d x y z,b,h=>by
   cases b<;>simp only[E.same,Ze2,ZdJ]at h<;>first|(cases h;done)|skip
   rw[h.1.1.1,E.same_eq x _ h.1.1.2,E.same_eq y _ h.1.2,E.same_eq z _ h.2]
 | .mlen x,b,h=>by
   cases b<;>simp only[E.same]at h<;>first|(cases h;done)|skip
   rw[E.same_eq x _ h]
 | .mclr x,b,h=>by
   cases b<;>simp only[E.same]at h<;>first|(cases h;done)|skip
   rw[E.same_eq x _ h]
theorem E.sames_eq:∀(a b:List E),E.sames a b=xy->a=b
 | [],b,h=>by cases b<;>simp[E.sames]at h⊢
 |x::l,b,h=>by
  obtain _|⟨y,r⟩:=b;simp[E.sames]at h;simp only[E.sames,ZdJ]at h;rw[E.same_eq x y h.1,E.sames_eq l r h.2]
end
end Vm
namespace Vm
open Go
section
variable {s t:St}
def Yi{α β:Type}{x}{f:α->Option β}(h:∃z,x.bind f=xk z):∃y,x=xk y:=by
 grind [Option.bind_eq_some_iff]
def Wd{α β:Type}{x}{f:α->Option β}(h:∃z,x.bind f=xk z):∃y,x=xk y/\∃z,f y=xk z:=by
 grind [Option.bind_eq_some_iff]
mutual
def Yc{x:E}:∀(e:E),E.has x e=xy->(∃v,eval s e=xk v)->∃v,eval s x=xk v
 | .c v,h,j=>by
   grind [E.has,E.same_eq]
 | .s u,h,j=>by
   grind [E.has,E.same_eq]
 | .m u i,h,j=>by
   grind [E.has,E.same_eq]
 | .mm u i n,h,j=>by
   grind [E.has,E.same_eq]
 | .bin op a b,h,j=>by
   simp only[E.has,ZdY]at h;obtain(h|h)|h:=h;grind [E.same_eq];exact Yc a h (Yi j);obtain⟨y,_,p⟩:=Wd j;exact Yc b h (Yi p)
 | .eqv op a b,h,j=>by
   simp only[E.has,ZdY]at h;obtain(h|h)|h:=h;grind [E.same_eq];exact Yc a h (Yi j);obtain⟨y,_,p⟩:=Wd j;exact Yc b h (Yi p)
 | .mn a b,h,j=>by
   simp only[E.has,ZdY]at h;obtain(h|h)|h:=h;grind [E.same_eq];exact Yc a h (Yi j);obtain⟨y,_,p⟩:=Wd j;exact Yc b h (Yi p)
 | .mx a b,h,j=>by
   simp only[E.has,ZdY]at h;obtain(h|h)|h:=h;grind [E.same_eq];exact Yc a h (Yi j);obtain⟨y,_,p⟩:=Wd j;exact Yc b h (Yi p)
 | .idx a b k,h,j=>by
   simp only[E.has,ZdY]at h;obtain(h|h)|h:=h;grind [E.same_eq];exact Yc a h (Yi j);obtain⟨y,_,p⟩:=Wd j;exact Yc b h (Yi p)
 | .ai a b n k g,h,j=>by
   simp only[E.has,ZdY]at h;obtain(h|h)|h:=h;grind [E.same_eq];exact Yc a h (Yi j);obtain⟨y,_,p⟩:=Wd j;exact Yc b h (Yi p)
 | .slcl a b k,h,j=>by
   simp only[E.has,ZdY]at h;obtain(h|h)|h:=h;grind [E.same_eq];exact Yc a h (Yi j);obtain⟨y,_,p⟩:=Wd j;exact Yc b h (Yi p)
 | .app a b k,h,j=>by
   simp only[E.has,ZdY]at h;obtain(h|h)|h:=h;grind [E.same_eq];exact Yc a h (Yi j);obtain⟨y,_,p⟩:=Wd j;exact Yc b h (Yi p)
 | .slc a b d k,h,j=>by
   simp only[E.has,ZdY]at h;obtain((h|h)|h)|h:=h;grind [E.same_eq];exact Yc a h (Yi j);obtain⟨y,_,p⟩:=Wd j;exact Yc b h (Yi p);obtain⟨y,_,p⟩:=Wd j;obtain⟨C,_,q⟩:=Wd p;exact Yc d h (Yi q)
 | .upd a b o d,h,j=>by
   simp only[E.has,ZdY]at h;obtain((h|h)|h)|h:=h;grind [E.same_eq];exact Yc a h (Yi j);obtain⟨y,_,p⟩:=Wd j;exact Yc b h (Yi p);obtain⟨y,_,p⟩:=Wd j;obtain⟨C,_,q⟩:=Wd p;exact Yc d h (Yi q)
 | .aput a b n k d,h,j=>by
   simp only[E.has,ZdY]at h;obtain((h|h)|h)|h:=h;grind [E.same_eq];exact Yc a h (Yi j);obtain⟨y,_,p⟩:=Wd j;exact Yc b h (Yi p);obtain⟨y,_,p⟩:=Wd j;obtain⟨C,_,q⟩:=Wd p;exact Yc d h (Yi q)
 | .un op a,h,j=>by
   simp only[E.has,ZdY]at h;obtain h|h:=h;grind [E.same_eq];exact Yc a h (Yi j)
 | .conv k a,h,j=>by
   simp only[E.has,ZdY]at h;obtain h|h:=h;grind [E.same_eq];exact Yc a h (Yi j)
 | .len a,h,j=>by
   simp only[E.has,ZdY]at h;obtain h|h:=h;grind [E.same_eq];exact Yc a h (Yi j)
 | .ext a i,h,j=>by
   simp only[E.has,ZdY]at h;obtain h|h:=h;grind [E.same_eq];exact Yc a h (Yi j)
 | .fld a o,h,j=>by
   simp only[E.has,ZdY]at h;obtain h|h:=h;grind [E.same_eq];exact Yc a h (Yi j)
 | .flds a o n,h,j=>by
   simp only[E.has,ZdY]at h;obtain h|h:=h;grind [E.same_eq];exact Yc a h (Yi j)
 | .mk z a,h,j=>by
   simp only[E.has,ZdY]at h;obtain h|h:=h;grind [E.same_eq];exact Yc a h (Yi j)
 | .star a,h,j=>by
   simp only[E.has,ZdY]at h;obtain h|h:=h;grind [E.same_eq];exact Yc a h (Yi j)
 | .isag a,h,j=>by
   simp only[E.has,ZdY]at h;obtain h|h:=h;grind [E.same_eq];exact Yc a h (Yi j)
 | .one a,h,j=>by
   simp only[E.has,ZdY]at h;obtain h|h:=h;grind [E.same_eq];exact Yc a h (Yi j)
 | .sz a n,h,j=>by
   simp only[E.has,ZdY]at h;obtain h|h:=h;grind [E.same_eq];exact Yc a h (Yi j)
 | .fl a,h,j=>by
   simp only[E.has,ZdY]at h;obtain h|h:=h;grind [E.same_eq];exact Yc a h (Yi j)
 | .fls a,h,j=>by
   simp only[E.has,ZdY]at h;obtain h|h:=h;grind [E.same_eq];exact Yc a h (Yi j)
 | .mlen a,h,j=>by
   simp only[E.has,ZdY]at h;obtain h|h:=h;grind [E.same_eq];exact Yc a h (Yi j)
 | .mclr a,h,j=>by
   simp only[E.has,ZdY]at h;obtain h|h:=h;grind [E.same_eq];exact Yc a h (Yi j)
 | .lk D a b z ok,h,j=>by
   simp only[E.has,ZdY]at h;obtain(h|h)|h:=h;grind [E.same_eq];exact Yc a h (Yi j);obtain⟨y,_,p⟩:=Wd j;exact Yc b h (Yi p)
 | .mput D a b d,h,j=>by
   simp only[E.has,ZdY]at h;obtain((h|h)|h)|h:=h;grind [E.same_eq];exact Yc a h (Yi j);obtain⟨y,_,p⟩:=Wd j;exact Yc b h (Yi p);obtain⟨y,_,p⟩:=Wd j;obtain⟨C,_,q⟩:=Wd p;exact Yc d h (Yi q)
 | .ite a b d,h,j=>by
   simp only[E.has,ZdY]at h;obtain h|h:=h;grind [E.same_eq];exact Yc a h (Yi j)
 | .lit l,h,j=>by
   simp only[E.has,ZdY]at h;obtain h|h:=h;grind [E.same_eq];obtain⟨v,j⟩:=j;simp only[eval,ZdI]at j;obtain⟨A,r,_⟩:=j;exact z8 l h ⟨A,r⟩
 | .pt f l,h,j=>by
   simp only[E.has,ZdY]at h;obtain h|h:=h;grind [E.same_eq];obtain⟨v,j⟩:=j;simp only[eval,ZdE]at j;obtain⟨A,r,_⟩:=j;exact z8 l h ⟨A,r⟩
 | .ag l,h,j=>by
   simp only[E.has,ZdY]at h;obtain h|h:=h;grind [E.same_eq];obtain⟨v,j⟩:=j;simp only[eval,ZdI]at j;obtain⟨A,r,_⟩:=j;exact z8 l h ⟨A,r⟩
def z8{x:E}:∀(l:List E),E.hasIn x l=xy->(∃v,YA s l=xk v)->∃v,eval s x=xk v
 | [],h,_=>by simp[E.hasIn]at h
 |e::l,h,d=>by
  obtain⟨v,d⟩:=d;simp only[YA,ZdE,ZdI]at d;obtain⟨y,j,k,f,_⟩:=d;simp only[E.hasIn,ZdY]at h;obtain h|h:=h;exact Yc e h ⟨y,j⟩;exact z8 l h ⟨k,f⟩
end
def Jm(s:St)(l:List (ZB×E)):Prop:=∀x∈l,holds s x.1->∃v,eval s x.2=xk v
def Fe{C D}(h:Rg C D=xy)(d:holds s D):holds s C:=λx f=>by
 have:=ZdR.1 h x f;exact d x ZcK
def Br:∀ {l r},Jm s l->Jm s (yu l r)->Jm s r
 |l,[],_,_=>λx D=>by simp at D
 |l,x::r,o,j=>by
  simp[yu]at j;split at j;rename_i C;have p:=Br o j;intro y d f;obtain rfl|d:=Ze3.1 d;simp only[Ea,Zfq,ZdJ]at C;let⟨z,k,n,q⟩:=C;have A:∃v,eval s z.2=xk v:=by
   obtain k|k:=Ze8.1 k;exact o z k (Fe n f);exact j z k (Fe n f)
  exact Yc _ q A;exact p y d f;have p:=Br o λy d=>j y (Zei _ d);intro y d f;obtain rfl|d:=Ze3.1 d;exact j y (ZeL ..) f;exact p y d f
def YC:St->Nat->SV->St
 | [],0,x=>[x]
 | [],i+1,x=>.no::YC [] i x
 |_::s,0,x=>x::s
 |y::s,i+1,x=>y::YC s i x
def YX:∀s i j x,get (YC s i x) j=if j=i then x else get s j
 | [],0,0,x=>rfl
 | [],0,j+1,x=>by simp[YC,get]
 | [],i+1,0,x=>by simp[YC,get]
 | [],i+1,j+1,x=>by
   have:=YX [] i j x;simp[get]at this;simp[YC,get,this]
 |y::s,0,0,x=>rfl
 |y::s,0,j+1,x=>by simp[YC,get]
 |y::s,i+1,0,x=>by simp[YC,get]
 |y::s,i+1,j+1,x=>by
  have:=YX s i j x;simp[get]at this;simp[YC,get,this]
def Vs(s:St)(C:ZB):Bool:=C.all λx=>match get s x.1 with|.v (.bool b)=>b==x.2|_=>xh
def QC{C}:Vs s C=xy↔holds s C:=by
 simp[Vs,ZdR,holds];grind
def YK P [Lg P]:List EF->St->(St->Prop)->Prop
 | [],s,K=>K s
 |.lt i C e::l,s,K=>if Vs s C=xy then(match eval s e with|some x=>YK P l (YC s i (.v x)) K|none=>False)else YK P l s K
 |.call i C f j fl aq_::l,s,K=>if Vs s C=xy then(match YA s aq_,Ux s f with|some xs,xk n=>∃r,VC P n.1 j (xs++n.2) r/\(fl=xy->Wl r=xk r)/\YK P l (YC s i (.v r)) K|_,_=>False)else YK P l s K
 | .callm i C f d aq_::l,s,K=>if Vs s C=xy then(match YA s aq_,Vb s f with|some xs,xk n=>∃R,V6 P n d xs R/\YK P l (YC s i (.v R)) K|_,_=>False)
   else(match Wo s d aq_ with|some []=>YK P l s K|some os=>YK P l (YC s i (.v (.tup (.bool xh::os)))) K|none=>False)
def za{C}(h:∀j,C.any (λx=>x.1==j)=xy->get s j=get t j):holds s C↔holds t C:=by
 have:=λx d=>h x.1 (Zfq.2 ⟨x,d,Z1⟩);constructor;intro f x d;rw[<-this x d];exact f x d;intro f x d;rw[this x d];exact f x d
def UY{j l r}:E.asksIn j (l++r)=(E.asksIn j l||E.asksIn j r):=by
 induction l with
 |nil=>rfl
 |cons e l d=>simp[E.asksIn,d,Bool.or_assoc]
def EO{f}(h:∀j,E.asksIn j f.es=xy->get s j=get t j):Vb s f=Vb t f:=by
 cases f with
 |id n=>rfl
 |e x=>grind [Vb,Y6,FN.es,E.asksIn]
def EQ{f}(h:∀j,E.asksIn j f.es=xy->get s j=get t j):Ux s f=Ux t f:=by
 cases f with
 |id n=>rfl
 |e x=>grind [Ux,Y6,FN.es,E.asksIn]
def AD:∀ {ks} {aq_:List E},(∀j,E.asksIn j aq_=xy->get s j=get t j)->Wo s ks aq_=Wo t ks aq_
 | [],aq_,_=>by simp[Wo]
 |k::ks,[],_=>by cases k<;>simp[Wo]
 |k::ks,e::aq_,h=>by
  have l:=AD (ks:=ks) (aq_:=aq_) λj d=>h j (by simp[E.asksIn,d]);have f:=Y6 e λj d=>h j (by simp[E.asksIn,d]);cases k<;>simp[Wo,l,f]
def O6{P} [Lg P]{x}(h:∀j,Xz j x=xy->get s j=get t j)(p:get s (T4 x)=get t (T4 x))(q:Qc P s x):Qc P t x:=by
 cases x with
 |lt i C e=>
  intro k;have l:=(za (s:=s) (t:=t) (C:=C) λj d=>h j Zdv).2 k;let⟨v,D,z⟩:=q l;exact⟨v,by rw[<-Y6 e λj d=>h j (by simp_all[Xz,Bool.or_true])];exact D,by rw[<-z];exact p.symm⟩
 |call i C f K fl aq_=>
  intro k;have l:=(za (s:=s) (t:=t) (C:=C) λj d=>h j Zdv).2 k;let⟨xs,n,r,D,I,o,y,z⟩:=q l;exact⟨xs,n,r,by rw[<-Su aq_ λj d=>h j Zd4];exact D,by rw[<-EQ (f:=f) λj d=>h j Zd9];exact I,o,y,by rw[<-z];exact p.symm⟩
 |callm i C f ks aq_=>
  have F:=za (s:=s) (t:=t) (C:=C) λj d=>h j Zdv;have M:=Su aq_ λj d=>h j Zd4;have N:=EO (f:=f) λj d=>h j Zd9;have O:=AD (ks:=ks) (aq_:=aq_) λj d=>h j Zd4;refine⟨λk=> ?_,λk=> ?_⟩;let⟨xs,n,R,l,o,y,H⟩:=q.1 (F.2 k);exact⟨xs,n,R,ZcK,ZcK,y,by rw[<-H];exact p.symm⟩;let⟨J,l,o⟩:=q.2 λh'=>k (F.1 h');exact⟨J,ZcK,λA=>by rw[<-o A];exact p.symm⟩
def NK{P} [Lg P]{K}:∀ {l} {s:St},zV l=xy->YK P l s K->∃t,K t/\(∀x∈l,Qc P t x)/\∀j,(∀x∈l,T4 x≠j)->get t j=get s j
 | [],s,_,h=>⟨s,h,λx Q=>by simp at Q,λ_ _=>rfl⟩
 |x::l,s,z,h=>by
  simp[zV,ZdJ,ZeH,ZdR,Zh1,ne_eq]at z;let⟨⟨o,hl⟩,z⟩:=z;have fin:∀M,(∀j,j≠T4 x->get M j=get s j)->Qc P M x->YK P l M K->∃t,K t/\(∀y∈x::l,Qc P t y)/\∀j,(∀y∈x::l,T4 y≠j)->get t j=get s j:=by
   intro M a0 Q h;let⟨t,Z,U,D⟩:=NK z h;refine⟨t,Z,λy J=> ?_,λj k=> ?_⟩;obtain rfl|J:=Ze3.1 J;refine O6 (s:=M) (λj k=>(D j λy J e=> ?_).symm) (D _ λy J e=>(hl y J).1 e).symm Q;grind;simp_all;grind
  cases x with
  |lt i C e=>
   simp[YK]at h;have d:∀v j,Xz j _=xy->get (YC s i v) j=get s j:=λv j k=>by
    rw[YX,if_neg];intro A;subst A;exact absurd k (by rw[show Xz j _=xh from o];simp)
   split at h;rename_i p;split at h;rename_i v hv;refine fin _ (λj k=>by rw[YX];exact if_neg k) (λ_=>⟨v,?_,by rw[YX,if_pos rfl]⟩) h;rw[Y6 e λj k=>d _ j (by simp_all[Xz,Bool.or_true])];exact hv;simp_all;rename_i p;exact fin s (λ_ _=>rfl) (λq=>absurd (QC.2 q) p) h
  |call i C f fr fl aq_=>
   simp[YK]at h;have d:∀v j,Xz j _=xy->get (YC s i v) j=get s j:=λv j k=>by
    rw[YX,if_neg];intro A;subst A;exact absurd k (by rw[show Xz j _=xh from o];simp)
   split at h;rename_i p;split at h;rename_i xs n I W;let⟨r,N,O,Y⟩:=h;refine fin _ (λj k=>by rw[YX];exact if_neg k) (λ_=>⟨xs,n,r,?_,?_,N,O,by rw[YX,if_pos rfl]⟩) Y;rw[Su aq_ λj k=>d _ j Zd4];exact I;rw[EQ (f:=f) λj k=>d _ j Zd9];exact W;simp_all;rename_i p;exact fin s (λ_ _=>rfl) (λq=>absurd (QC.2 q) p) h
  |callm i C f X aq_=>
   simp[YK]at h;have d:∀v j,Xz j _=xy->get s j=get (YC s i v) j:=λv j k=>by
    rw[YX,if_neg];intro A;subst A;exact absurd k (by rw[show Xz j _=xh from o];simp)
   have T:∀v,holds s C↔holds _ C:=λv=>za λj k=>d v j Zdv;have ha:=λv=>Su aq_ λj k=>d v j Zd4;have hf:∀v,Vb s f=Vb _ f:=λv=>EO λj k=>d v j Zd9;have ho:∀v,Wo s X aq_=Wo _ X aq_:=λv=>AD λj k=>d v j Zd4;split at h;rename_i p;split at h;rename_i xs n I W;let⟨R,N,O⟩:=h;refine fin _ (λj k=>by rw[YX];exact if_neg k) ⟨λ_=>⟨xs,n,R,?_,?_,N,by rw[YX,if_pos rfl]⟩,λq=>absurd ((T _).1 (QC.1 p)) q⟩ O;grind;grind;simp_all;rename_i p;split at h;rename_i H;exact fin s (λ_ _=>rfl) ⟨λq=>absurd (QC.2 q) p,λ_=>⟨[],H,λF=>absurd rfl F⟩⟩ h;rename_i os F H;refine fin _ (λj k=>by rw[YX];exact if_neg k) ⟨λq=>absurd (QC.2 ((T _).2 q)) p,λ_=>⟨os,?_,λ_=>by rw[YX,if_pos rfl]⟩⟩ h;grind;simp_all
end
end Vm
namespace Vm
open Go
open Go.RowKit (Below)
def WF(t:St):OV->Option SV
 |.v e=>(eval t e).map .v
 |.m l=>(YA t l).map .m
 |.no=>xk .no
def VJ:List (Nat×OV)->St->St->(St->Prop)->Prop
 | [],_,u,K=>K u
 | (i,o)::l,t,u,K=>match WF t o with
   |some x=>VJ l t (YC u i x) K
   |none=>False
def Sf(t:St):List (ZB×E)->Prop
 | []=>True
 |(C,e)::l=>(Vs t C=xy->(eval t e).isSome=xy)/\Sf t l
def qs P [Lg P](r:Reg)(s:St)(K:St->Prop):Prop:=YK P r.efs s λt=>Sf t r.chks/\VJ r.outs t t K
def NJ{t}:∀ {l},Sf t l->Jm t l
 | [],_=>λx d=>Zdn
 | (C,e)::l,h=>λx d f=>by
   obtain rfl|d:=Ze3.1 d;exact ZeP.1 (h.1 (QC.2 f));exact NJ h.2 x d f
def NN{K t}:∀ {l} {u:St},VJ l t u K->∃f,K f/\(∀x∈l,∃y,WF t x.2=xk y)/\(∀j,(∀x∈l,x.1≠j)->get f j=get u j)/\
  ∀x∈l,(∀y∈l,y.1=x.1->y.2=x.2)->∀v,WF t x.2=xk v->get f x.1=v
 | [],u,h=>⟨u,h,λx d=>Zdn,λ_ _=>rfl,λx d=>Zdn⟩
 | (i,o)::l,u,h=>by
   simp[VJ]at h;split at h;rename_i v H;let⟨f,r,D,p,F⟩:=NN h;refine⟨f,r,λx d=> ?_,λj q=> ?_,λx d z I A=> ?_⟩;grind;rw[p j λx d=>q x (by simp[d]),YX,if_neg];exactλe=>q (i,o) Z1 e.symm;by_cases k:∃y∈l,y.1=x.1;grind;have n:x=(i,o):=by
    obtain h|h:=Ze3.1 d;exact h;simp_all
   subst n;rw[p i λy C e=>k ⟨y,C,e⟩,YX,if_pos rfl];simp_all;simp_all
section
variable {c:Ctx}{B:Nat}{G:Nat->Prop}{s t u:St}{a a':Act}{w w':World}{h h':GH}{g:Gam}{S:SS}
def RelG.ctx{f}(n:f.P=c.P)(j:f.ix=c.ix)(k:RelG c B G s a w h g):RelG f B G s a w h g:=by
 have l:∀C,ZE f C=ZE c C:=λC=>by simp[ZE,j]
 refine⟨k.ok,λp d o=> ?_,λp d=> ?_⟩;rw[l]at d;rw[n];exact k.at_ p d o;rw[l]at d;exact k.skip p d
theorem Yt:∀ {S} {p:Nat},(Yo c S).at p=match S.at p with|some k=>([],Qr c p k)|none=>([],.no)
 | [],p=>rfl
 | (q,k)::S,p=>by
   simp[Yo,Zee,Gam.at,SS.at];by_cases d:q=p;grind;rw[if_neg d,if_neg d];exact Yt (S:=S) (p:=p)
theorem RelC.eval{P o k e n v}(f:RelC P B s w h o k e v)(l:∀x,x.one=xy->Vm.eval s e=xk x->Vm.eval t n=xk x):RelC P B t w h o k n v:=by
 cases k with
 |fz=>let⟨x,j,d,p⟩:=f;exact⟨x,l x d j,d,p⟩
 |own q=>let⟨x,j,d⟩:=f;exact⟨x,l x d.one j,d⟩
 |nil=>exact⟨f.1,l _ rfl f.2⟩
 |dead=>exact f
def RelG.agree(D:RelG c B G s a w h (Yo c S))(q:∀x∈S,get t (c.ix x.1)=get s (c.ix x.1)):RelG c B G t a w h (Yo c S):=by
 have n:∀ {S:SS} {p:Nat} {k:OT},S.at p=xk k->(p,k)∈S:=by
  intro S p k;induction S with
  |nil=>intro h;cases h
  |cons x S Q=>
   grind [SS.at,List.mem_cons_of_mem]
 have r:∀p,((Yo c S).at p).1=[]:=λp=>by grind [Yt]
 refine⟨D.ok,λp _ M=> ?_,λp K=>absurd (by simp_all[Yp]) K⟩;let⟨v,N,d⟩:=D.at_ p (by simp_all[Yp]) M;refine⟨v,N,?_⟩;rw[Yt]at d⊢;cases C:S.at p with
 |none=>trivial
 |some k=>
  rw[C]at d;have O:=q _ (n C);cases k with
  |fz=>let⟨x,o,j⟩:=d;exact⟨x,by simp_all[Vm.eval],j⟩
  |own U=>let⟨x,o,j⟩:=d;exact⟨x,by simp_all[Vm.eval],j⟩
  |nil=>exact d
  |mem l=>
   let⟨b,vs,T,o,j,H,I,J⟩:=d;refine⟨b,vs,T,o,j,H,I,λi F z=>(J i F z).eval λx _ P=> ?_⟩;simp[Ze1,ZdI]at z;obtain⟨y,_,rfl⟩:=z;simp_all[Vm.eval]
  |clo f A=>exact d
def Hm{keep}:∀ {p} {k:OT},(SK keep g).at p=xk k->p∈keep/\(g.at p).1=[]/\WE (g.at p).2=xk k:=by
 induction keep with
 |nil=>intro p k h;cases h
 |cons q keep f=>
  intro p k h;simp only[SK,Zfu]at h;split at h;let⟨j,l⟩:=f (p:=p) (k:=k) h;simp_all;rename_i y d;split at d;rename_i o;simp[ZdI]at d;obtain⟨r,n,rfl⟩:=d;simp only[SS.at]at h;split at h;simp_all;let⟨j,l⟩:=f (p:=p) (k:=k) h;simp_all;cases d
def TK.kept:TK->Bool
 |.val .. |.own .. |.mem _=>xy
 |_=>xh
def Z4l{S0 p}(hc:(g.at p).1=[])(d:(g.at p).2.kept=xy):Tj c S0 g p=if S9 (c.ix p) (Vy (g.at p).2)=xy then xw else xk (c.ix p,Vy (g.at p).2):=by
 unfold Tj;simp[hc,Zhx,Zer];cases f:S9 _ _;simp[ZdZ,Zeu];grind [TK.kept];rfl
def Z5T{keep sh:List Nat}{S0}(hr:RelG c B G t a w h g)(Y:∀p∈keep,∀e l,g.at p=([],.val e l)->∀b,h.ext l b->h.F b)
  (D:∀p∈keep,match Tj c S0 g p with|some x=>∃v,WF t x.2=xk v/\get u (c.ix p)=v|none=>get u (c.ix p)=get t (c.ix p)):RelG c B G u a w h (Yo c (SK keep g)):=by
 have U:∀p,((Yo c (SK keep g)).at p).1=[]:=λp=>by grind [Yt,SK]
 refine⟨hr.ok,λp _ hn=> ?_,λp hh=>absurd (by simp_all[Yp]) hh⟩;rw[Yt]at hn⊢;cases hS:(SK keep g).at p with
 |none=>simp_all[TK.isNo]
 |some k=>
  let⟨O,Q,r⟩:=Hm hS;have X:(g.at p).2.isNo=xh:=by cases A:(g.at p).2<;>rw[A]at r<;>first|rfl|simp[WE]at r
  let⟨v,hv,d⟩:=hr.at_ p (by simp_all[Yp]) X;refine⟨v,hv,?_⟩;have C:(g.at p).2.kept=xy->(S9 (c.ix p) (Vy (g.at p).2)=xy/\get u (c.ix p)=get t (c.ix p))\/∃v,WF t (Vy (g.at p).2)=xk v/\get u (c.ix p)=v:=by
   intro J;have M:=D p O;rw[Z4l Q J]at M;by_cases H:S9 (c.ix p) (Vy (g.at p).2)=xy;simp_all;simp_all
  simp only;cases A:(g.at p).2 with
  |val e l=>
   rw[A]at r d C;simp[WE,ZdF]at r;subst r;let⟨x,Z,K⟩:=d;have hF:=Y p O e l ZcJ;refine⟨x,?_,K.mono λb hb=>GH.ext_F (hF b hb)⟩;simp[Vm.eval];obtain⟨H,W⟩|⟨v',M,P⟩:=C rfl
   .simp[Vy]at H;cases e<;>simp[S9]at H<;>first|(cases H;done)|skip
    simp_all[Zeq,Vm.eval]
   grind [Vy,WF,Option.some.injEq]
  |own ty e=>
   rw[A]at r d C;simp[WE,ZdF]at r;subst r;let⟨x,Z,K⟩:=d;refine⟨x,?_,K⟩;simp[Vm.eval];obtain⟨H,W⟩|⟨v',M,P⟩:=C rfl
   .simp[Vy]at H;cases e<;>simp[S9]at H<;>first|(cases H;done)|skip
    simp_all[Zeq,Vm.eval]
   grind [Vy,WF,Option.some.injEq]
  |nil=>
   rw[A]at r d;simp[WE,ZdF]at r;subst r;exact d
  |mem cs=>
   rw[A]at r d C;simp[WE,ZdF]at r;subst r;let⟨b,vs,T,M,P,h3,h4,h5⟩:=d;refine⟨b,vs,T,M,P,h3,by simpa using h4,λi ck hi=> ?_⟩;simp only[Ze1,ZfX,ZdI]at hi;obtain⟨y,⟨q,⟨I,N,rfl⟩,rfl⟩,rfl⟩:=hi;refine(h5 i I N).eval λx a2 Z=> ?_;simp[Zet,Vm.eval];obtain⟨H,W⟩|⟨v',e1,e2⟩:=C rfl
   .simp only[Vy,S9,ZdR]at H;have:=H (I.2,i) (ZgQ.2 ⟨i,ZcK⟩);let⟨kk,e⟩:=I;cases e<;>simp only at this<;>first|(cases this;done)|skip
    simp[ZdJ,Zeq]at this;obtain⟨rfl,rfl⟩:=this;rw[W];simpa only[Vm.eval]using Z
   simp[Vy,WF,ZdI]at e1;obtain⟨xs,a0,rfl⟩:=e1;let⟨_,D⟩:=Uv a0;let⟨z,hz,a3⟩:=D i I.2 ZcK;simp_all[ZdQ,YP,if_pos]
  |no=>simp_all[WE]
  |ags cs=>simp_all[WE]
  |ref p=>simp_all[WE]
  |refm p i=>simp_all[WE]
  |pm p o=>simp_all[WE]
  |pc e o sh=>simp_all[WE]
  |pe p i j o k=>simp_all[WE]
  |pa p o j n k=>simp_all[WE]
  |big e sh=>simp_all[WE]
  |clo f a1=>
   rw[A]at r d;simp[WE,ZdF]at r;subst r;exact d
end
end Vm
namespace Vm
open Go
open Go.RowKit (Below)
def UU(c:Ctx)(s:St)(S:SS):Prop:=∀p,S.at p=xk .nil->get s (c.ix p)=.v (.sl [])
def Qj:∀ {S:SS} {p:Nat} {k:OT},S.at p=xk k->(p,k)∈S
 | [],p,k,h=>ZcZ
 | (q,d)::S,p,k,h=>by
   simp[SS.at]at h;split at h;rename_i e;subst e;cases h;simp;exact Zei _ (Qj h)
section
variable {c:Ctx}{B:Nat}{G:Nat->Prop}{s t u:St}{a a':Act}{w w':World}{h h':GH}{g:Gam}{S S':SS}
theorem Hl{S0 p x}(h:Tj c S0 g p=xk x):x.1=c.ix p:=by
 grind [Tj,Vy,Option.some.injEq]
theorem jd{l xs}(h:YA t l=xk xs):∀e∈l,∃v,eval t e=xk v:=by
 let⟨_,d⟩:=Uv h;grind [List.getElem?_of_mem]
theorem Z4m{o v}(h:WF t o=xk v):∀e∈yd o,∃v,eval t e=xk v:=by
 intro e f;cases o with
 |v j=>
  grind [yd,WF,Option.map_eq_some_iff]
 |m l=>
  simp[WF,ZdI]at h;let⟨xs,d,_⟩:=h;exact jd d e f
 |no=>simp[yd]at f
theorem FW{keep p e l}(f:p∈keep)(d:g.at p=([],.val e l)):∀q∈l,q∈Vd keep g:=by
 grind [Vd]
def Z5Q{P:Program} [Lg P]{ix:Nat->Nat}{fresh:FuncId->Bool}{sig:FuncId->Option (List OT)}{tr fix:List Nat}{n:Nat}{keep:List Nat}{draw:Bool}{ops:Array Oper}{r:Reg}(a8:∀o∈ops,Lg.fit P o)(hm:draw=xy->P.follows .mixedOrders=xy)(hc:qT P ix fresh sig tr fix n keep draw ops S=xk (r,S'))
  (e3:∀p∈keep,∀q∈keep,ix p=ix q->p=q) (hP:c.P=P) (b1:c.ix=ix) (hr:RelG c B G s a w h (Yo c S)) (b3:UU c s S) (hn:n<=a.tmps.size) {K:St->Prop} (hK:qs P r s K) {id:Nat} {Q:Exit->Act->World->Prop}
  (hQ:∀a' w' s' h',K s'->RelG c B G s' a' w' h' (Yo c S')->UU c s' S'->h'.K=h.K->Frm h.K (λt=>t∈fix) a.tmps B w a' w'->a'.tmps.size=a.tmps.size->a'.defers=a.defers->Q .normal a' w'):Lg.wp P (.region id ops draw) Q a w:=by
 unfold qT at hc;simp only[ZdE]at hc;obtain⟨⟨gf,xs⟩,d8,hc⟩:=hc;simp only at hc;split at hc
 .rename_i J;simp only[ZdJ]at J;obtain⟨⟨⟨a9,b5⟩,a6⟩,A⟩:=J;simp only[ZdF,ZdU]at hc;obtain⟨rfl,rfl⟩:=hc;generalize T:({P:=P,ix:=ix,own:=λt=>(Ho ops).contains t,fresh:=fresh,sig:=sig,tr:=tr,n:=n,kp:=keep}:Ctx)=j at*;have a3:j.P=P:=by rw[<-T]
  have I:j.ix=ix:=by rw[<-T]
  have e2:j.n=n:=by rw[<-T]
  have W:∀S,Yo j S=Yo c S:=by
   intro S;simp only[Yo];refine Zfv λx _=> ?_;cases x.2<;>simp[Qr,I,b1]
  clear T;subst a3;obtain⟨hf,rfl⟩:=Z0P d8 b5;obtain⟨t,⟨a4,b6⟩,a5,a1⟩:=NK a6 hK;obtain⟨u,b9,e6,c9,e7⟩:=NN b6;have a2:Jm t (xs.flatMap λx=>x.os.chks):=by
   refine Br (λx D hh=> ?_) (NJ a4);obtain D|D:=Ze8.1 D;obtain⟨U,z,D⟩:=ZfN.1 D;have M:=a5 U z;cases U with
   |lt i C e=>
    have:x=(C,e):=by simpa[Ee]using D
    subst this;obtain⟨v,hv,_⟩:=M hh;grind
   |call i C f fr fl aq_=>
    obtain⟨e,F,rfl⟩:=ZdX.1 D;obtain⟨ys,n,_,e1,Z,_⟩:=M hh;obtain F|F:=Ze8.1 F;cases f with
    |id q=>simp[FN.es]at F
    |e q=>
     simp only[FN.es,ZeO]at F;subst F;simp only[Ux,ZdE]at Z;obtain⟨v,hv,_⟩:=Z;grind
    grind [jd]
   |callm i C f ks aq_=>
    obtain⟨e,F,rfl⟩:=ZdX.1 D;obtain⟨ys,n,_,e1,Z,_⟩:=M.1 hh;obtain F|F:=Ze8.1 F;cases f with
    |id q=>simp[FN.es]at F
    |e q=>
     grind [FN.es,List.mem_singleton,Vb]
    grind [jd]
   obtain⟨y,hy,D⟩:=ZfN.1 D;obtain⟨e,F,rfl⟩:=ZdX.1 D;grind [Z4m]
  have d0:∀x∈xs,QS j.P t x.os:=by
   intro x D;exact⟨λU z=>a5 U (ZfN.2 ⟨x,D,z⟩),λy hy=>a2 y (ZfN.2 ⟨x,D,hy⟩)⟩
  have d7:RelG j B G t a w h (Yo j S):=by
   have h1:RelG j B G s a w h (Yo j S):=by
    rw[W];exact hr.ctx hP.symm ZcJ
   refine h1.agree λx D=>a1 _ λU z F=> ?_;simp only[ZdR,Zh1,ne_eq]at A;exact A U z x D ZcJ
  have b0:∀p∈keep,match Tj j S (frz (Vd keep (YB xs (Yo j S))) (YB xs (Yo j S))) p with|some x=>∃v,WF t x.2=xk v/\get u (j.ix p)=v|none=>get u (j.ix p)=get t (j.ix p):=by
   intro p hp;have d9:∀q∈keep,∀y,Tj j S (frz (Vd keep (YB xs (Yo j S))) (YB xs (Yo j S))) q=xk y->y.1=j.ix p->q=p:=λq hq y hy F=>by
    have:=Hl hy;grind
   split;grind [Hk,frz,Vd,YB,Yo,Hl];rename_i D;refine c9 _ λy hy F=> ?_;obtain⟨q,hq,e8⟩:=Zgz.1 hy;grind
  have a0:UU c u (SK keep (frz (Vd keep (YB xs (Yo j S))) (YB xs (Yo j S)))):=by
   intro p hp;obtain⟨d6,c0,hk⟩:=Hm hp;have c8:((frz (Vd keep (YB xs (Yo j S))) (YB xs (Yo j S))).at p).2=.nil:=by
    cases c7:((frz (Vd keep (YB xs (Yo j S))) (YB xs (Yo j S))).at p).2<;>rw[c7]at hk<;>simp[WE]at hk⊢
   have O:=b0 p d6;have b4:Tj j S (frz (Vd keep (YB xs (Yo j S))) (YB xs (Yo j S))) p=if S.at p=xk .nil then xw else xk (j.ix p,.v (.c (.sl []))):=by
    unfold Tj;simp only[c0,c8,Zhx,Zer,Vy,S9,ZdZ,Zeu];cases H:S.at p with
    |none=>simp
    |some k=>grind
   rw[b4]at O;rw[b1,<-I];by_cases H:S.at p=xk .nil;rw[if_pos H]at O;simp only at O;rw[O,a1];have:=b3 p H;grind;intro U z F;simp only[ZdR,Zh1,ne_eq]at A;exact A U z _ (Qj H) ZcJ;rw[if_neg H]at O;grind [WF,eval,Option.some.injEq]
  have c1:∀o∈ops,∀d,o.dst=xk d->¬d∈fix:=λo ho d hd hm=>by
   have:=ZdR.1 a9 o ZcJ;grind
  have e0:=Z5U (c:=j) (id:=id) (Q:=Q) a8 hm hf d0 Z0 d7 c1 λa' w' h' b7 b8 hb h1 h2=>by
   have c5:=b7.frz (Vd keep (YB xs (Yo j S)));refine hQ a' w' u (h'.thaw (Vd keep (YB xs (Yo j S)))) b9 ?_ a0 b8 hb h1 h2;rw[<-W];have a7:=Z5T (u:=u) (keep:=keep) (sh:=[]) (S0:=S) c5 (λp hp e l X b Y=> ?_) λp hp=> ?_;exact a7.ctx hP ZcJ
   ·
    have e4:∀q∈l,q∈Vd keep (YB xs (Yo j S)):=by
     unfold frz at X;rw[Vn,Vn]at X;split at X
     .split at X;grind [zp]
      .rename_i b2 c6;have d5:p∈Vd keep (YB xs (Yo j S)):=by
        simp only[ZQ,Zf6,Ze8]at b2;have:=b2.resolve_left c6;have h3:=LY (fz:=Vd keep (YB xs (Yo j S))) (g:=YB xs (Yo j S));unfold ZQ at h3;rw[h3]at this;exact this
       rw[LX d5]at X;simp only[ZdU]at X;obtain⟨e5,N⟩:=X;cases hk:((YB xs (Yo j S)).at p).2<;>rw[hk]at N<;>simp only[Rq]at N<;>first|(cases N;done)|skip
       simp only[TK.val.injEq]at N;obtain⟨rfl,rfl⟩:=N;grind [FW,Prod.ext];grind;grind
     exact FW hp X
    obtain Y|⟨q,hq,i,hi⟩:=Y;exact Y;simp only[GH.thaw]at hi;grind
   grind
  exact e0
 cases hc
end
end Vm
namespace Vm
open Go
open Go.RowKit (Below)
def GH.drop(h:GH)(d:Nat->Nat->Bool):GH:= {F:=λb=>h.F b\/∃t i,d t i=xh/\i≠0/\h.bl t i=xk b,bl:=λt i=>if d t i=xy\/i=0 then h.bl t i else xw,K:=h.K}
section
variable {c:Ctx}{B:Nat}{G:Nat->Prop}{s t u:St}{a a':Act}{w w':World}{h h':GH}{g:Gam}{S R:SS}
def Z45(f:Ok B G w h)y:Ok B G w (h.drop y):=by
 refine⟨f.base,λb d=> ?_,λb d=> ?_,λb d=>.inl (f.g_F b d),λt i b d=> ?_,λt i u j b d k=> ?_,f.k_lt,λt i b d=> ?_,λb d=> ?_⟩;obtain d|⟨t,i,_,_,l⟩:=d;exact f.f_lt b d;exact(f.b_lt t i b l).2.1;obtain d|⟨t,i,_,_,l⟩:=d;exact f.f_or b d;exact .inr (f.b_lt t i b l).1;simp only[GH.drop]at d;split at d;rename_i D;let⟨p,q,r⟩:=f.b_lt t i b d;refine⟨p,q,λn=> ?_⟩;obtain n|⟨z,x,A,C,o⟩:=n;exact r n;obtain⟨rfl,rfl⟩:=f.inj t i z x b d o;simp_all;cases d
 .simp only[GH.drop]at d k;split at d<;>split at k<;>first|(cases d;done)|(cases k;done)|exact f.inj t i u j b d k
 simp only[GH.drop]at d;split at d;exact f.k_bl t i b d;cases d;obtain d|⟨t,i,_,_,l⟩:=d;exact f.k_F b d;exact .inr (f.k_bl t i b l)
def G8{P}(d:TM P S R=xy){p k}(j:R.at p=xk k):∃f,S.at p=xk f/\Te P f k=xy:=by
 have:=ZdR.1 d _ (Qj j);grind
def RelC.weak{P o A k k' e v}(n:RelC P B s w h o k e v)(d:TL P k k'=xy)(z:∀b,h.F b->h'.F b)
  (r:∀f y,k=.own f->k'=.own y->A=o) (l:(∀f,k'≠.own f)->∀b,o=xk b->h'.F b) (q:∀f,k=.nil->k'=.own f->A=xw):RelC P B s w h' A k' e v:=by
 cases k with
 |fz=>
  cases k'<;>simp[TL]at d<;>first|(cases d;done)|skip
  let⟨x,j,p,C⟩:=n;exact⟨x,j,p,C.mono z⟩;exact n.cell
 |own f=>
  cases k'<;>simp only[TL]at d<;>first|(cases d;done)|skip
  let⟨x,j,p⟩:=n;exact⟨x,j,p.one,p.rd z (l Z1)⟩;rename_i y;simp[Zeq]at d;subst d;let⟨x,j,p⟩:=n;exact⟨x,j,p.mono z (r f f rfl rfl).symm⟩;exact n.cell
 |nil=>
  obtain⟨rfl,j⟩:=n;cases k'<;>simp only[TL]at d<;>first|(cases d;done)|skip
  exact⟨_,j,rfl,.nil _ _ (ZeQ _)⟩;rename_i f;simp[Ze2]at d;rw[q f rfl rfl];exact⟨_,j,.inl ⟨[],[],rfl,d,λx H=>by simp at H,Zf7 w B f _,rfl,λi I D=>by simp[flat]at D⟩⟩;exact⟨rfl,j⟩;rfl
 |dead=>
  cases k'<;>simp[TL]at d<;>first|(cases d;done)|skip
  exact n
def Vc(S R:SS)(t i:Nat):Bool:=
 match S.at t,R.at t with
 |some (.own _),xk (.own _)=>xy
 |some (.mem a),xk (.mem b)=>match a[i-1]?,b[i-1]? with
  |some (.own _),xk (.own _)=>xy
  |_,_=>xh
 |_,_=>xh
def G7{P}:∀ {a b},QI P a b=xy->xq a=xq b/\∀(i:Nat) x y,a[i]?=xk x->b[i]?=xk y->TL P x y=xy
 | [],[],_=>⟨rfl,λi x y l=>by simp at l⟩
 | [],_::_,h=>by simp[QI]at h
 |_::_,[],h=>by simp[QI]at h
 |x::a,y::b,h=>by
  simp[QI,ZdJ]at h;let⟨j,k⟩:=G7 h.2;refine⟨by simp[j],λi p q d f=> ?_⟩;cases i with
  |zero=>simp at d f;subst d f;exact h.1
  |succ i=>exact k i p q ZcW ZcY
def Lm(hr:RelG c B G s a w h (Yo c S))(C:UU c s S)(M:TM c.P S R=xy):RelG c B G s a w (h.drop (Vc S R)) (Yo c R)/\UU c s R:=by
 constructor
 .refine⟨Z45 hr.ok _,λp _ hn=> ?_,λp hh=>absurd (by rw[Yt];cases R.at p<;>exact Yp s c) hh⟩;rw[Yt]at hn⊢;cases A:R.at p with
  |none=>rw[A]at hn;simp[TK.isNo]at hn
  |some O=>
   let⟨k,n,j⟩:=G8 M A;let⟨v,hv,d⟩:=hr.at_ p (by rw[Yt,n];exact Yp s c) (by rw[Yt,n];cases k<;>rfl);refine⟨v,hv,?_⟩;rw[Yt,n]at d;simp only at d⊢;have Z:∀b,h.F b->(h.drop (Vc S R)).F b:=λb D=>.inl D;have a0:∀b,h.ext [] b->(h.drop (Vc S R)).ext [] b:=λb D=>GH.ext_F (.inl (GH.ext_nil D));cases k with
   |fz=>
    cases O<;>simp[Te]at j<;>first|(cases j;done)|skip
    let⟨x,q,r⟩:=d;exact⟨x,q,r.mono a0⟩
   |own Q=>
    cases O<;>simp only[Te]at j<;>first|(cases j;done)|skip
    let⟨x,q,r⟩:=d;exact⟨x,q,r.rd (λb D=>GH.ext_F (Z b D)) λb D=>GH.ext_F (.inr ⟨p,1,by simp[Vc,n,A],Z0,D⟩)⟩;rename_i a3;simp[Zeq]at j;subst j;let⟨x,q,r⟩:=d;exact⟨x,q,r.mono Z (by simp[GH.drop,Vc,n,A])⟩
   |nil=>
    have a2:=d;subst a2;have hg:=C p n;cases O<;>simp only[Te]at j<;>first|(cases j;done)|skip
    exact⟨.sl [],by simp[eval,hg],.nil _ _ (ZeQ _)⟩;rename_i Q;simp[Ze2]at j;exact⟨.sl [],by simp[eval,hg],.inl ⟨[],[],rfl,j,λx hx=>by simp at hx,Zf7 w B Q _,by simp[GH.drop,Vc,n,A,Value.ownBlock],λi ck H=>by simp[flat]at H⟩⟩;rfl
   |mem l=>
    cases O<;>simp[Te]at j<;>first|(cases j;done)|skip
    rename_i l';let⟨hl,K⟩:=G7 j;let⟨b,vs,T,q,r,U,W,X⟩:=d;refine⟨b,vs,T,by simp[GH.drop,q],r,U,by rw[W];simp[hl],λi ck H=> ?_⟩;simp only[Ze1,ZfX,ZdI,Zet]at H;obtain⟨y,⟨k2,o,rfl⟩,rfl⟩:=H;have a1:i<P l:=by rw[hl];exact(ZdH.1 o).1
    have z:=ZdG a1;have Y:=X i (l[i],.m (c.ix p) i) Z1;refine Y.weak (K i _ _ z o) Z (λQ a3 I J=> ?_) (λN x hx=>.inr ⟨p,i+1,?_,Z0,hx⟩) λQ I J=> ?_;simp only at I J;simp[GH.drop,Vc,n,A,z,o,I,J];simp only at N;simp[Vc,n,A,Nat.add_sub_cancel,z,o];cases k2<;>first|(cases l[i]<;>rfl)|exact absurd rfl (N _)
    simp only at I J;simp[GH.drop,Vc,n,A,z,o,I,J]
   |clo f a4=>
    cases O<;>simp only[Te]at j<;>first|(cases j;done)|skip
    simp[ZdJ,Zeq]at j;obtain⟨rfl,rfl⟩:=j;let⟨vs,q,r,U⟩:=d;refine⟨vs,q,r,λi p H=> ?_⟩;let⟨b,W,X⟩:=U i p H;exact⟨b,by simp[GH.drop,W],X⟩
 .intro p hp;let⟨k,n,j⟩:=G8 M hp;cases k<;>simp[Te]at j<;>first|(cases j;done)|exact C p n
end
end Vm
namespace Vm
open Go
open Go.RowKit (Below)
def YU:List Nat->St->St
 | [],_=>[]
 |i::l,s=>YC (YU l s) i (get s i)
def F7:∀ {keep} {s:St} {i:Nat},i∈keep->get (YU keep s) i=get s i
 | [],s,i,d=>Zdn
 |j::l,s,i,d=>by
  simp[YU];rw[YX];split;rename_i e;rw[e];rename_i e;exact F7 ((Ze3.1 d).resolve_left e)
def Yq P [Lg P]:Stm->St->(St->Prop)->(Nat->St->Prop)->(St->Prop)->Prop
 |.reg r,s,N,_,_=>qs P r s N
 |.skip,s,N,_,_=>N s
 |.seq a b,s,N,X,R=>Yq P a s (λf=>Yq P b f N X R) X R
 | .cond c a b,s,N,X,R=>match eval s c with
   |some (.bool xy)=>Yq P a s N X R
   |some (.bool xh)=>Yq P b s N X R
   |_=>False
 |.block id a,s,N,X,R=>Yq P a s N (λi f=>if i=id then N f else X i f) R
 |.loop d a,s,_,X,R=>∃(I:St->Prop) (μ:St->Nat),I (YU d s)/\∀s,I s->Yq P a s (λf=>I (YU d f)/\μ (YU d f)<μ s) X R
 |.exit id,s,_,X,_=>X id s
 |.ret,s,_,_,R=>R s
def RelS(Kf:Nat->Prop)(fix:List Nat)(T0:Array Value)(c:Ctx)(B:Nat)(G:Nat->Prop)(w0:World)(n0:Nat)(s:St)(a:Act)(w:World)(S:SS):Prop:=
 (∃h,RelG c B G s a w h (Yo c S)/\h.K=Kf)/\UU c s S/\Frm Kf (λt=>t∈fix) T0 B w0 a w/\a.tmps.size=n0/\a.defers=[]
section
variable {c:Ctx}{fc:FC}{B:Nat}{G:Nat->Prop}{s t u:St}{a a':Act}{w w' w0:World}{n0:Nat}{S R:SS}{Kf:Nat->Prop}{fix:List Nat}{T0:Array Value}
def RelS.weak(p:RelS Kf fix T0 c B G w0 n0 s a w S)(d:TM c.P S R=xy):RelS Kf fix T0 c B G w0 n0 s a w R:=by
 let⟨⟨h,f,o⟩,j,k⟩:=p;let⟨l,n⟩:=Lm f j d;exact⟨⟨_,l,o⟩,n,k⟩
def A1{P S M}(h:RD P (xk S) M=xy):∃R,M=xk R/\TM P S R=xy:=by
 obtain _|R:=M;cases h;exact⟨R,rfl,h⟩
def RelS.only(o:RelS Kf fix T0 c B G w0 n0 s a w S):RelS Kf fix T0 c B G w0 n0 (YU (S.map λy=>c.ix y.1) s) a w S:=by
 let⟨⟨h,j,n⟩,k,l⟩:=o;have d:∀x∈S,get (YU (S.map λy=>c.ix y.1) s) _=get s _:=λx q=>F7 (ZdX.2 ⟨x,q,rfl⟩);exact⟨⟨h,j.agree d,n⟩,λp f=>by rw[d _ (Qj f)];exact k p f,l⟩
def Ga{p:Nat->Prop}:∀n,p n->∃n,p n/\∀m,p m->n<=m:=by
 intro n;induction n using Nat.strongRecOn with
 |_ n d=>
  grind
open Classical in
noncomputable def least (p:Nat->Prop):Nat:=if h:∃n,p n/\∀m,p m->n<=m then Classical.choose h else 0
def Z2N{p:Nat->Prop}(h:∃n,p n):p (least p):=by
 obtain⟨n,d⟩:=h;have h':=Ga n d;unfold least;grind
def Z2M{p:Nat->Prop}{n:Nat}(d:p n):least p<=n:=by
 have h':=Ga n d;unfold least;grind
def Post(Kf:Nat->Prop)(fix:List Nat)(T0:Array Value)(c:Ctx)(B:Nat)(G:Nat->Prop)(w0:World)(n0:Nat)(fl:Flow)(N:St->Prop)(X:Nat->St->Prop)(R:St->Prop)(e:Exit)(a:Act)(w:World):Prop:=
 match e with
 |.normal=>∃s S,fl.n=xk S/\N s/\RelS Kf fix T0 c B G w0 n0 s a w S
 |.exit id=>∃s S,(id,S)∈fl.x/\X id s/\RelS Kf fix T0 c B G w0 n0 s a w S
 |.ret=>∃s S,S∈fl.r/\R s/\RelS Kf fix T0 c B G w0 n0 s a w S
 |_=>False
def Post.mono{fl d:Flow}{N o:St->Prop}{X p:Nat->St->Prop}{Rt:St->Prop}{e:Exit}{a:Act}{w:World}(h:Post Kf fix T0 c B G w0 n0 fl N X Rt e a w)
  (q:∀s S,fl.n=xk S->N s->RelS Kf fix T0 c B G w0 n0 s a w S->∃s S,d.n=xk S/\o s/\RelS Kf fix T0 c B G w0 n0 s a w S)
  (hx:∀id s S,(id,S)∈fl.x->X id s->RelS Kf fix T0 c B G w0 n0 s a w S->∃s S,(id,S)∈d.x/\p id s/\RelS Kf fix T0 c B G w0 n0 s a w S)
  (y:∀S,S∈fl.r->S∈d.r):Post Kf fix T0 c B G w0 n0 d o p Rt e a w:=by
 cases e with
 |normal=>obtain⟨s,S,f,j,k⟩:=h;exact q s S f j k
 |exit id=>obtain⟨s,S,f,j,k⟩:=h;exact hx id s S f j k
 |ret=>obtain⟨s,S,f,j,k⟩:=h;exact⟨s,S,y S f,j,k⟩
 |goto l=>exact h.elim
 |panic z=>exact h.elim
 |outgrown=>exact h.elim
def RelS.sim(o:RelS Kf fix T0 c B G w0 n0 s a w S)(d:Nat):RelS Kf fix T0 c B G w0 n0 s a {w with drawn:=d} S:=by
 obtain⟨⟨h,f,n⟩,j,k,l⟩:=o;exact⟨⟨h,f.drew d,n⟩,j,k.trans ⟨⟨rfl,rfl,rfl,ZdL _,λ_ _=>rfl⟩,λ_ _=>rfl,λ_ _=>rfl⟩,l⟩
def qU [Lg fc.P](hm:fc.P.follows .mixedOrders=xy)(b2:∀p∈fc.keep,∀q∈fc.keep,fc.ix p=fc.ix q->p=q)(hP:c.P=fc.P)(a4:c.ix=fc.ix)(c0:fix=fc.fix)(hn:fc.n<=n0):
  ∀(code:Code) {S:SS} {st:Stm} {fl:Flow} {s:St} {a:Act} {w:World} {N:St->Prop} {X:Nat->St->Prop} {Rt:St->Prop},Tt (Lg.fit fc.P) code->comp fc code S=xk (st,fl)->RelS Kf fix T0 c B G w0 n0 s a w S->Yq fc.P st s N X Rt->
   Lg.wp fc.P code (Post Kf fix T0 c B G w0 n0 fl N X Rt) a w:=by
 intro code;induction code with
 |skip=>
  intro S st fl s a w N X Rt F d D C;simp only[comp,ZdF,ZdU]at d;obtain⟨rfl,rfl⟩:=d;exact Lg.wp_skip ⟨s,S,rfl,C,D⟩
 |label l=>
  intro S st fl s a w N X Rt F d D C;simp only[comp,ZdF,ZdU]at d;obtain⟨rfl,rfl⟩:=d;exact Lg.wp_label ⟨s,S,rfl,C,D⟩
 |region id ops draw=>
  intro S st fl s a w N X Rt F d D C;simp only[comp,ZdI,ZdU]at d;obtain⟨⟨r,S'⟩,b6,rfl,rfl⟩:=d;obtain⟨⟨h,j,hK⟩,o,J,h4,h5⟩:=D;refine Z5Q F (λ_=>hm) b6 b2 hP a4 j o (by rw[h4];exact hn) C λa' w' K h' hk O b4 Y hb hs hd=> ?_;rw[hK,<-c0]at hb;exact⟨K,S',rfl,hk,⟨h',O,Y.trans hK⟩,b4,J.trans hb,hs.trans h4,hd.trans h5⟩
 |seq x y a0 a9=>
  intro S st fl s a w N X Rt F d D C;simp only[comp,ZdE]at d;obtain⟨⟨sx,fx⟩,W,d⟩:=d;simp only at d;split at d;rename_i a5;simp only[ZdF,ZdU]at d;obtain⟨rfl,rfl⟩:=d;refine Lg.wp_seq (Lg.wp_mono (a0 (N:=N) (X:=X) (Rt:=Rt) F.1 W D C) λe a' w' k=> ?_);cases e with
  |normal=>obtain⟨K,S',j,_⟩:=k;rw[a5]at j;cases j
  |_=>exact k
  rename_i R a6;simp only[ZdI,ZdU]at d;obtain⟨⟨sy,fy⟩,hy,rfl,rfl⟩:=d;refine Lg.wp_seq (Lg.wp_mono (a0 (N:=λK=>Yq fc.P sy K N X Rt) (X:=X) (Rt:=Rt) F.1 W D C) λe a' w' k=> ?_);cases e with
  |normal=>
   obtain⟨K,S',j,o,J⟩:=k;rw[a6]at j;cases j;exact Lg.wp_mono (a9 F.2 hy J o) λe a' w' k=>k.mono (λs S j o J=>⟨s,S,j,o,J⟩) (λid s S j o J=>⟨s,S,Ze8.2 (.inr j),o,J⟩) λS hS=>Ze8.2 (.inr hS)
  |exit id=>obtain⟨K,S',j,o⟩:=k;exact⟨K,S',Ze8.2 (.inl j),o⟩
  |ret=>obtain⟨K,S',j,o⟩:=k;exact⟨K,S',Ze8.2 (.inl j),o⟩
  |_=>exact k.elim
 |exit id=>
  intro S st fl s a w N X Rt F d D C;simp only[comp,ZdF,ZdU]at d;obtain⟨rfl,rfl⟩:=d;exact Lg.wp_exit ⟨s,S,Z1,C,D⟩
 |ret=>
  intro S st fl s a w N X Rt F d D C;simp only[comp,ZdF,ZdU]at d;obtain⟨rfl,rfl⟩:=d;exact Lg.wp_ret ⟨s,S,Z1,C,D⟩
 |scope x ih=>
  intro S st fl s a w N X Rt F d D C;refine Lg.wp_scope (Lg.wp_mono (ih F (by simpa only[comp]using d) D C) λe a' w' k=> ?_);cases e<;>exact k
 |cond b9 x y a0 a9=>
  intro S st fl s a w N X Rt F d D C;cases b9 with
  |tmp tc=>
   simp only[comp]at d;split at d;rename_i a3;simp only[ZdE]at d;obtain⟨⟨sx,fx⟩,W,⟨sy,fy⟩,hy,d⟩:=d;simp only at d;split at d;rename_i A;simp only[ZdJ]at A;simp only[ZdF,ZdU]at d;obtain⟨rfl,rfl⟩:=d;obtain⟨⟨h,j,Y⟩,U⟩:=D;obtain⟨v,hv,O⟩:=j.at_ tc (by rw[Yt,a3];exact Yp s c) (by rw[Yt,a3];rfl);rw[Yt,a3]at O;obtain⟨xv,a8,b7⟩:=O;rw[a4]at a8;have b1:=Act.eval_tmp a tc v hv;have a2:∀ {f:Flow} {fl:Flow} {e:Exit} {a':Act} {w':World},RD fc.P f.n fl.n=xy->(∀z∈f.x,z∈fl.x)->(∀z∈f.r,z∈fl.r)->Post Kf fix T0 c B G w0 n0 f N X Rt e a' w'->Post Kf fix T0 c B G w0 n0 fl N X Rt e a' w':=by
    intro f fl e a' w' Z W D k;refine k.mono (λs S j o J=> ?_) (λid s S j o J=>⟨s,S,W _ j,o,J⟩) D;rw[j]at Z;obtain⟨R,hR,A⟩:=A1 Z;exact⟨s,R,hR,o,J.weak (by rw[hP];exact A)⟩
   simp only[Yq]at C;split at C;rename_i hb;rw[a8]at hb;cases hb;have a7:v=.bool xy:=by cases b7;rfl
   refine Lg.wp_cond_true (by rw[b1,a7]) (Lg.wp_mono (a0 F.1 W ⟨⟨h,j,Y⟩,U⟩ C) λe a' w' k=> ?_);exact a2 A.1 (λz hz=>Ze8.2 (.inl hz)) (λz hz=>Ze8.2 (.inl hz)) k;rename_i hb;rw[a8]at hb;cases hb;have a7:v=.bool xh:=by cases b7;rfl
   refine Lg.wp_cond_false (by rw[b1,a7]) (Lg.wp_mono (a9 F.2 hy ⟨⟨h,j,Y⟩,U⟩ C) λe a' w' k=> ?_);exact a2 A.2 (λz hz=>Ze8.2 (.inr hz)) (λz hz=>Ze8.2 (.inr hz)) k;exact C.elim;cases d;cases d
  |_=>simp[comp]at d
 |block id x ih=>
  intro S st fl s a w N X Rt F d D C;simp only[comp,ZdE]at d;obtain⟨⟨sx,fx⟩,W,d⟩:=d;simp only at d;split at d;rename_i A;simp only[ZdJ,ZdR,ZdY,Zh1,ne_eq]at A;obtain⟨T,a1⟩:=A;simp only[ZdF,ZdU]at d;obtain⟨rfl,rfl⟩:=d;generalize zD fc.P fx.n (Ad fc.P ((fx.x.filter λy=>y.1==id).map (·.2)))=M at T a1⊢;refine Lg.wp_block (Lg.wp_mono (ih (N:=N) (X:=λi K=>if i=id then N K else X i K) (Rt:=Rt) F W D C) λe a' w' k=> ?_);cases e with
  |normal=>
   obtain⟨K,S',j,o,J⟩:=k;rw[j]at T;obtain⟨R,hR,Z⟩:=A1 T;exact⟨K,R,hR,o,J.weak (by rw[hP];exact Z)⟩
  |exit c8=>
   obtain⟨K,S',j,o,J⟩:=k;simp only[Exit.inBlock];by_cases hid:c8=id;subst hid;simp only[Zer]at o⊢;obtain⟨R,hR,Z⟩:=A1 ((a1 _ j).resolve_left Z1);exact⟨K,R,hR,o,J.weak (by rw[hP];exact Z)⟩;simp only[if_neg hid]at o⊢;exact⟨K,S',Zgy.2 ⟨j,by simpa using hid⟩,o,J⟩
  |ret=>exact k
  |_=>exact k.elim
  cases d
 |loop x ih=>
  intro S st fl s a w N X Rt F d D C;simp only[comp,ZdE]at d;obtain⟨H,hH,⟨sx,fx⟩,W,d⟩:=d;simp only at d;split at d;rename_i A;simp only[ZdJ]at A;simp only[ZdF,ZdU]at d;obtain⟨rfl,rfl⟩:=d;obtain⟨I,μ,b0,Q⟩:=C;have b3:(H.map λy=>fc.ix y.1)=H.map λy=>c.ix y.1:=by rw[a4]
  rw[b3]at b0 Q;refine Lg.wp_loop (λa w=>∃s,I s/\RelS Kf fix T0 c B G w0 n0 s a w H) (λa w=>least λn=>∃s,μ s=n/\I s/\RelS Kf fix T0 c B G w0 n0 s a w H) ⟨_,b0,(D.weak (by rw[hP];exact A.1)).only⟩ λa w hI=> ?_;obtain⟨s0,c6,c1⟩:=hI;obtain⟨s1,hμ,c7,c5⟩:=Z2N (p:=λn=>∃s,μ s=n/\I s/\RelS Kf fix T0 c B G w0 n0 s a w H) ⟨μ s0,s0,rfl,c6,c1⟩;refine Lg.wp_mono (ih F W c5 (Q s1 c7)) λe a' w' k=> ?_;cases e with
  |normal=>
   obtain⟨K,S',j,⟨o,h4⟩,J⟩:=k;have Z:=A.2;rw[j]at Z;have b5:=(J.weak (show TM c.P S' H=xy by rw[hP];exact Z)).only;refine⟨⟨_,o,b5⟩,?_⟩;rw[<-hμ];exact Nat.lt_of_le_of_lt (Z2M (p:=λn=>∃s,μ s=n/\I s/\RelS Kf fix T0 c B G w0 n0 s a' w' H) ⟨_,rfl,o,b5⟩) h4
  |exit id=>exact k
  |ret=>exact k
  |_=>exact k.elim
  cases d
 |rangeFunc f b8 d0 c9 d5 d6=>intro S st fl s a w N X Rt F d;simp[comp]at d
 |goto l=>intro S st fl s a w N X Rt F d;simp[comp]at d
 |refuse d7=>intro S st fl s a w N X Rt F d;simp[comp]at d
end
end Vm
namespace Vm
open Go
open Go.RowKit (Below)
def UN(s:St):Nat×RK->Option V
 |(i,.v)=>match get s i with|.v x=>xk x|_=>xw
 |(i,.ag n)=>match get s i with|.m d=>if n<=(P d) then xk (.agg (d.take n))else xw|_=>xw
 |(i,.one)=>match get s i with|.m (x::_)=>xk x|_=>xw
def VG(s:St):List (Nat×RK)->Option (List V)
 | []=>xk []
 |x::l=>(UN s x).bind λy=>(VG s l).map (y:: ·)
def W9(s:St)(l:List (Nat×RK)):Option V:=
 match l with
 | [x]=>UN s x
 |l=>(VG s l).map .tup
theorem IN:∀ {l:List Nat} {p:Nat},p∈l->l[pos l p]?=xk p
 | [],p,h=>Zdi
 |q::l,p,h=>by
  simp only[pos];by_cases d:q=p;subst d;simp;rw[if_neg d];have:p∈l:=(Ze3.1 h).resolve_left λe=>d e.symm;simpa using IN this
def IM:∀ {l r:List Nat} {t:Nat},t∈l->pos (l++r) t=pos l t
 | [],r,t,h=>Zdi
 |q::l,r,t,h=>by
  simp only[ZeT,pos];by_cases d:q=t;simp_all;rw[if_neg d,if_neg d,IM ((Ze3.1 h).resolve_left λe=>d e.symm)]
def Bq{l:List Nat}{p q:Nat}(d:p∈l)(f:q∈l)(h:pos l p=pos l q):p=q:=by
 grind [IN]
section
variable {c:Ctx}{B:Nat}{G:Nat->Prop}{s t u:St}{a a':Act}{w w' w0:World}{h:GH}{n0:Nat}{S R:SS}
def J4(P:Program)(d:Nat->Nat):ResultVar->Nat×RK
 |.tmp t=>(d t,.v)
 |.cell a t=>(d a,if Y3 P t then .ag (P.cellsOf t)else .one)
def J3(d:Array Value):ResultVar->Sem Value
 |.tmp t=>pure (d.getD t undef)
 |.cell p t=>do loadVar t (<-asAddr (d.getD p undef))
def Md(P:Program)(d:Nat->Nat)(f:Func):KO P d f=f.results.toList.map (J4 P d):=by
 rfl
def Mf(I:RelG c B G s a w h (Yo c S))(X:UU c s S){D:Nat->Prop}(hF:∀b,h.F b->D b){r:ResultVar}(H:∀i b,h.bl (SR r) (i+1)=xk b->D b)(A:SI c.P S r=xy){x:V}(hx:UN s (J4 c.P c.ix r)=xk x):
  ∃v,(J3 a.tmps r).run c.P w=.ok v w/\Rd w D x v:=by
 cases r with
 |tmp Q=>
  simp only[J4,J3]at hx⊢;simp only[SI]at A;cases J:S.at Q with
  |none=>simp_all
  |some k=>
   obtain⟨v,hv,M⟩:=I.at_ Q (by simp_all[Yt,Yp]) (by rw[Yt,J];cases k<;>rfl);rw[Yt,J]at M;have N:a.tmps.getD Q undef=v:=by simp[ZdK,hv]
   refine⟨v,by simp[N],?_⟩;simp only[UN]at hx;have n:get s (c.ix Q)=.v x:=by
    cases hg:get s (c.ix Q)<;>rw[hg]at hx<;>simp at hx;rw[hx]
   cases k with
   |fz=>
    obtain⟨y,O,h2⟩:=M;simp only[eval,n,ZdF]at O;subst O;exact h2.mono λb W=>hF b (GH.ext_nil W)
   |own ty=>
    obtain⟨y,O,h2⟩:=M;simp only[eval,n,ZdF]at O;subst O;exact h2.rd hF λb W=>H 0 b W
   |nil=>
    have a1:v=.slice xw 0 0:=M;subst a1;have:=X Q J;rw[n]at this;simp only[SV.v.injEq]at this;subst this;exact .nil _ _ (ZeQ _)
   |mem l=>simp_all
   |clo f l=>simp_all
 |cell p ty=>
  simp only[J4,J3]at hx⊢;simp only[SI]at A;cases J:S.at p with
  |none=>simp_all
  |some k=>
   cases k with
   |mem l=>
    rw[J]at A;simp only[ZdJ,ZdR,Zh1,ne_eq]at A;obtain⟨⟨hT,K⟩,o⟩:=A;obtain⟨v,hv,M⟩:=I.at_ p (by simp_all[Yt,Yp]) (by rw[Yt,J];rfl);rw[Yt,J]at M;obtain⟨b,vs,T,O,rfl,h3,h4⟩:=M;have N:a.tmps.getD p undef=.pointer (xk ⟨b,0,xw⟩):=by simp[ZdK,hv]
    rw[N];have a7:vs.size=xq l:=by have:=h4.1;simp_all
    have q:∀i,i<xq l->∃y,eval s (.m (c.ix p) i)=xk y/\y.one=xy/\Rd w D y (vs.getD i undef):=by
     intro i C;have:=h4.2 i (l[i],.m (c.ix p) i) (by simp[C]);exact this.rd (K l[i] (Ze0 C)) hF λty _ b W=>H i b W
    obtain⟨d,info,hd,a4,hs,a3⟩:=VW hT;cases U:Y3 c.P ty with
    |true=>
     rw[U]at o hx;simp only[Zer,Zeq]at o;simp only[Zer,UN]at hx;split at hx;rename_i cs n;split at hx;rename_i a5;simp only[ZdF]at hx;subst hx
     have hl:=run_loadCells_list (P:=c.P) w ⟨b,0,xw⟩ vs.toList (λj u hj=>by
      rw[Zfp,Zet,ZdT w b j vs T (0,0) h3];grind)
     simp only[Zg2]at hl;refine⟨.agg vs,?_,?_⟩;simp_all[asAddr,Zel,ZfC,Zem,loadVar,U1];have Y:∀(i:Nat) (y:V),(cs.take (c.P.cellsOf ty))[i]?=xk y->y.one=xy/\Rd w D y (vs.getD i undef):=by
      intro i y C;rw[Zej]at C;split at C;rename_i a6;obtain⟨z,Z,a2,a0⟩:=q i Z0;simp only[eval,n,C,ZdQ]at Z;obtain⟨rfl,_⟩:=TS Z;simp_all;cases C
     exact .agg _ vs ZcK (λy hy=>by
      grind [List.getElem?_of_mem]) λi y C=>(Y i y C).2
     cases hx;cases hx
    |false=>
     rw[U]at o hx;simp only[ZdZ,Zeu,Ze2]at o;simp only[ZdZ,Zeu,UN]at hx;split at hx;rename_i y0 r n;simp only[ZdF]at hx;subst hx;obtain⟨z,Z,a2,a0⟩:=q 0 o;simp only[eval,n,Zfo,ZdQ]at Z;obtain⟨rfl,_⟩:=TS Z;refine⟨vs.getD 0 undef,?_,a0⟩;have hc:w.cell? ⟨b,0,xw⟩=xk (vs.getD 0 undef):=by
      rw[ZdT w b 0 vs T (0,0) h3];have:0<vs.size:=Z0;simp_all
     simp_all[asAddr,Zel,ZfC,Zem,loadVar];cases hx
   |_=>simp_all
def Me(f:RelG c B G s a w h (Yo c S))(d:UU c s S){D:Nat->Prop}(A:∀b,h.F b->D b):∀ {l:List ResultVar},(∀r∈l,SI c.P S r=xy/\∀i b,h.bl (SR r) (i+1)=xk b->D b)->∀ {xs:List V},VG s (l.map (J4 c.P c.ix))=xk xs->
  ∃vs:List Value,(l.mapM (J3 a.tmps)).run c.P w=.ok vs w/\P vs=P xs/\
   ∀(i:Nat) (x:V),xs[i]?=xk x->∃v,vs[i]?=xk v/\Rd w D x v
 | [],_,xs,k=>by
   simp only[Zfm,VG,ZdF]at k;subst k;exact⟨[],Z1,rfl,λi x n=>by simp at n⟩
 |r::l,j,xs,k=>by
  simp only[Zee,VG,ZdE,ZdI]at k;obtain⟨y,J,M,z,rfl⟩:=k;obtain⟨v,K,p⟩:=Mf f d A (j r Z1).2 (j r Z1).1 J;obtain⟨vs,I,C,o⟩:=Me f d A (λq H=>j q (by simp[H])) z;refine⟨v::vs,?_,by simp[C],λi x n=> ?_⟩;simp_all;cases i with
  |zero=>simp at n;subst n;exact⟨v,rfl,p⟩
  |succ i=>simpa using o i x ZcJ
def KP(n:RelG c B G s a w h (Yo c S))(k:UU c s S){D:Nat->Prop}(K:∀b,h.F b->D b){f:Func}(d:∀r∈f.results.toList,SI c.P S r=xy/\∀i b,h.bl (SR r) (i+1)=xk b->D b){x:V}(hx:W9 s (KO c.P c.ix f)=xk x):
  ∃v,(results f a.tmps).run c.P w=.ok v w/\Rd w D x v:=by
 have j:∀vs:List Value,(f.results.toList.mapM (J3 a.tmps)).run c.P w=.ok vs w->
   (results f a.tmps).run c.P w=.ok (if h:vs.toArray.size=1 then vs.toArray[0]else .tuple vs.toArray) w:=by
  intro vs p;have O:results f a.tmps=(do let vs<-f.results.mapM (J3 a.tmps);pure (if h:vs.size=1 then vs[0]else Value.tuple vs)):=by
   unfold results;refine ZeX (λg:ResultVar->Sem Value=>(do let vs<-f.results.mapM g;pure (if h:vs.size=1 then vs[0]else Value.tuple vs))) ?_;funext r;cases r<;>rfl
  rw[O,Zff];simp only[Zel,ZhB];rw[p];simp
 rw[Md]at hx;generalize X:f.results.toList=l at hx d j
 match l,hx with
 | [r],hx=>
   simp only[Zee,Zfm,W9]at hx;obtain⟨v,J,o⟩:=Mf n k K (d r Z1).2 (d r Z1).1 hx;refine⟨v,?_,o⟩;have:=j [v] (by simp only[Zg5,ZgZ,Zel];rw[J];simp);simpa using this
 | [],hx=>
   simp only[Zfm,W9,VG,Ze4,ZdF]at hx;subst hx;have:=j [] Z1;exact⟨_,by simpa using this,.tup _ _ rfl λi c H=>by simp at H⟩
 |r::Y::l,hx=>
  simp only[Zee,W9]at hx;simp only[ZdI]at hx;obtain⟨xs,q,rfl⟩:=hx;obtain⟨vs,p,z,C⟩:=Me n k K d (xs:=xs) (by simpa only[Zee]using q);have Q:P xs=P l+2:=by
   simp only[VG,ZdE,ZdI]at q;obtain⟨y,_,U,⟨Z,_,W,N,rfl⟩,rfl⟩:=q;have:∀ {l:List (Nat×RK)} {xs:List V},VG s l=xk xs->P xs=P l:=by
    intro l;induction l with
    |nil=>intro xs h;simp only[VG,ZdF]at h;subst h;rfl
    |cons a l T=>
     intro xs h;simp only[VG,ZdE,ZdI]at h;obtain⟨_,_,U,M,rfl⟩:=h;simp[T M]
   have:=this N;simp at this;simp[this]
  have A:=j vs p;have I:¬vs.toArray.size=1:=ZcL;rw[dif_neg I]at A;refine⟨_,A,.tup _ _ (by simp[z]) λi x H=> ?_⟩;obtain⟨v,J,o⟩:=C i x H;have:vs.toArray.getD i undef=v:=by simp[ZdK,J]
  rw[this];exact o
end
def Sk(k:OT)(x:V):SV:=
 match k,x with
 |.mem _,.agg d=>.m d
 |_,x=>.v x
def UX:List OT->List V->St
 |k::d,x::xs=>Sk k x::UX d xs
 |_,_=>[]
def Dz:∀ {ks:List OT} {xs:List V} {i:Nat} {k:OT} {x:V},ks[i]?=xk k->xs[i]?=xk x->get (UX ks xs) i=Sk k x
 | [],_,_,_,_,d,_=>Zdn
 |_::_,[],_,_,_,_,f=>by simp at f
 |k::ks,x::xs,0,j,l,d,f=>by simp at d f;subst d f;rfl
 |k::ks,x::xs,i+1,j,l,d,f=>by
  have:=Dz (ks:=ks) (xs:=xs) (i:=i) ZcW ZcY;simpa[UX,get]using this
def Rn(s:St)(i:Nat)(k:OT):Option V:=
 match k with
 |.fz=>xk (.bool xh)
 | .own _=>match get s i with
   |.v x=>xk x
   |_=>xw
 | .mem l=>match get s i with
   |.m d=>if P d=(P l) then xk (.agg d)else xw
   |_=>xw
 |_=>xw
def Rl(s:St):Nat->List OT->Option (List V)
 |_,[]=>xk []
 |i,k::d=>(Rn s i k).bind λx=>(Rl s (i+1) d).map (x:: ·)
def ED:∀ {o:List OT} {i:Nat} {s:St} {n:List V},Rl s i o=xk n->P n=P o/\∀(j:Nat) (k:OT) (y:V),o[j]?=xk k->n[j]?=xk y->Rn s (i+j) k=xk y
 | [],i,s,n,f=>by
   simp only[Rl,ZdF]at f;subst f;exact⟨rfl,λj k y l=>by simp at l⟩
 |k::o,i,s,n,f=>by
  simp only[Rl,ZdE,ZdI]at f;obtain⟨y,x,C,p,rfl⟩:=f;obtain⟨q,r⟩:=ED p;refine⟨by simp[q],λj z A l d=> ?_⟩;cases j with
  |zero=>simp at l d;subst l d;exact x
  |succ j=>
   have:=r j z A (by simpa using l) ZcW;rw[show i+(j+1)=i+1+j by omega];exact this
def CM(ks:List OT)(t:Nat):SS.at (ks.zipIdx.map λx=>(x.2,x.1)) t=ks[t]? :=by
 have:∀(ks:List OT) (n t:Nat),SS.at ((ks.zipIdx n).map λx=>(x.2,x.1)) t=if n<=t then ks[t-n]? else xw:=by
  intro ks;induction ks with
  |nil=>simp_all[SS.at]
  |cons k ks d=>
   intro n t;simp only[Zhz,Zee,SS.at,d];grind
 have:=this ks 0 t;simp_all
def nz:Option OT->Option OT
 |some .fz=>xw
 |x=>x
def Z4v(ks:List OT)(t:Nat):(TU ks).at t=nz ks[t]? :=by
 have:∀(ks:List OT) (n t:Nat),SS.at ((ks.zipIdx n).filterMap λx=>match x.1 with|.fz=>xw|k=>xk (x.2,k)) t=if n<=t then nz ks[t-n]? else xw:=by
  intro ks;induction ks with
  |nil=>intro n t;simp[SS.at,nz]
  |cons k ks o=>
   intro n t;have d:n≠t->(if n+1<=t then nz ks[t- (n+1)]? else xw)=if n<=t then nz (k::ks)[t-n]? else xw:=by
    intro j;by_cases l:n<=t;have f:n+1<=t:=Z0;rw[if_pos l,if_pos f,show t-n=(t- (n+1))+1 by omega];simp;have f:¬n+1<=t:=Z0;rw[if_neg l,if_neg f]
   simp only[Zhz,Zfu];by_cases j:n=t;subst j;have f:¬n+1<=n:=Z0;cases k<;>simp[SS.at,o,nz,f];rw[<-d j];cases k<;>simp only[SS.at,o,if_neg j]
 have h:=this ks 0 t;simp only[ZeQ,Zer,Nat.sub_zero]at h;exact h
theorem LV{P:Program} [Lg P]{f:FuncId}{fn:Func}{cf:Fn}{fresh:FuncId->Bool}{sig:FuncId->Option (List OT)}{ks:List OT}{fin:SS} [U:FitF P f](hf:P.funcs[f]?=xk fn)(hm:P.follows .mixedOrders=xy)(hc:ZK P fresh sig ks fin fn=xk cf)
  {xs:List V} {Rt:St->Prop} (hw:Yq P cf.body (UX ks xs) Rt (λ_ _=>False) Rt) {B:Nat} {w:World} {h:GH} {vs:Array Value} (a4:Ok B h.F w h) (hA:Ll P B w h ks xs vs) {Q:Ending->World->Prop}
  (hQ:∀(c:Ctx) (s:St) (S:SS) (a:Act) (w':World) (h':GH),c.P=P->(∀t,t<xq ks->c.ix t=t)->(∀t∈cf.keep,c.ix t=pos cf.keep t)->cf.res=KO P c.ix fn->Rt s->RelG c B h.F s a w' h' (Yo c S)->UU c s S->h'.K=h.K->Frm h.K (λt=>t∈Ro ks) vs B w a w'->SG P fn fin S=xy->
   ∃v,(results fn a.tmps).run P w'=.ok v w'/\Q (.returned v) w'):Lg.calls P f vs w Q:=by
 unfold ZK at hc;simp only[ZdE]at hc;obtain⟨code,hb,⟨st,fl⟩,N,hc⟩:=hc;split at hc
 .rename_i C;simp only[H6,ZdJ]at C;obtain⟨⟨⟨Z,a5⟩,b0⟩,a0⟩:=C;simp only[ZdF]at hc;subst hc;simp only at hw;generalize a2:JF [] ((List.range (xq ks))++Uu (λops=>Hn ops++BD ops ops.toList []) code)=keep at*;generalize a3:JF [] ((Uu Gc code).filter λt=> !keep.contains t)=j at*;have M:∀t,t<xq ks->pos (keep++j) t=t:=λt A=>by
   have:=ZdR.1 a0 t (ZfW.2 A);simp_all
  refine Lg.calls_of_wp hf hb ?_;have W:∀p∈keep,∀q∈keep,pos (keep++j) p=pos (keep++j) q->p=q:=λp I q hq he=>Bq (ZeV _ I) (ZeV _ hq) he;obtain⟨b1,a6,O⟩:=hA;have a9:∀t,t∈Ro ks->t<vs.size:=by
   intro t A;simp only[Ro,TU,ZdX,Zgz]at A;obtain⟨y,⟨x,hx,hy⟩,rfl⟩:=A;have r:=(List.mem_zipIdx hx).2.1;have:y.2=y.2:=rfl;have a8:y.1=x.2:=by
    split at hy;cases hy;grind
   rw[a8,a6];omega
  have o:RelS h.K (Ro ks) vs {P,ix:=pos (keep++j),own:=λ_=>xh,fresh,sig,tr:=L7 fn,n:=fn.ntmps} B h.F w (vs++Array.replicate (fn.ntmps-vs.size) undef).size (UX ks xs)
    {tmps:=vs++Array.replicate (fn.ntmps-vs.size) undef,defers:=[]} w (ks.zipIdx.map λx=>(x.2,x.1)):=by
   refine⟨⟨h,⟨a4,λt _ X=> ?_,λt hh=> ?_⟩,rfl⟩,λp I=> ?_,⟨.refl _ _,.refl _ _,λt A=> ?_⟩,rfl,rfl⟩
   .rw[Yt]at X⊢;rw[CM]at X⊢;by_cases A:t<xq ks
    .rw[ZdG A]at X⊢;have r:t<xq xs:=Z0;obtain⟨tk,d,o⟩:=O t ks[t] xs[t] (ZdG A) (ZdG r);refine⟨vs.getD t undef,?_,?_⟩;simp only;rw[ZfJ Z0];simp[ZdK,show t<vs.size by omega]
     .have hg:get (UX ks xs) (pos (keep++j) t)=Sk ks[t] xs[t]:=by rw[M t A];exact Dz (ZdG A) (ZdG r)
      generalize ks[t]=k at d hg;generalize xs[t]=x at d hg;cases k with
      |fz=>
       simp only[Wc,ZdF]at d;subst d;obtain⟨y,z,D⟩:=o;simp only[eval,ZdF]at z;subst z;exact⟨x,by grind [eval,Sk],D⟩
      |own ty=>
       simp only[Wc,ZdF]at d;subst d;obtain⟨y,z,D⟩:=o;simp only[eval,ZdF]at z;subst z;exact⟨x,by grind [eval,Sk],D⟩
      |mem l=>
       cases x<;>simp only[Wc]at d<;>first|(cases d;done)|skip
       rename_i cs;split at d;rename_i Y;simp only[ZdF]at d;subst d;obtain⟨b,us,T,e1,e2,e3,e4,e5⟩:=o;refine⟨b,us,T,e1,e2,e3,ZcK,λi ck hi=> ?_⟩;simp only[Ze1,ZfX,ZdI,Zet]at hi;obtain⟨y,⟨k2,a1,rfl⟩,rfl⟩:=hi;have r:i<xq cs:=by rw[Y];exact(ZdH.1 a1).1
       have hc:=e5 i (k2,.c cs[i]) ZcJ;refine hc.eval λy z hy=> ?_;simp only[eval,ZdF]at hy;subst hy;simp only[eval,hg,Sk,ZdG r,ZdQ,YP,z,Zer];grind
      |nil=>grind [Wc]
      |clo f l=>grind [Wc]
    rw[ZeJ Z0]at X;cases X
   exact absurd (by rw[Yt];rw[CM];split<;>exact Vt _) hh;rw[CM]at I;have r:p<xq xs:=by have:=(ZdH.1 I).1;omega
   obtain⟨tk,d,_⟩:=O p .nil xs[p] I (ZdG r);grind [Wc];grind
  refine Lg.wp_mono (qU (c:= {P,ix:=pos (keep++j),own:=λ_=>xh,fresh,sig,tr:=L7 fn,n:=fn.ntmps}) (fc:= {P,ix:=pos (keep++j),fresh,sig,tr:=L7 fn,fix:=Ro ks,n:=fn.ntmps,keep}) hm W rfl rfl rfl ZcL code (U.all fn code hf hb) N o hw) λe a' w' I=> ?_
  have J:∀ {s:St} {S:SS},SG P fn fin S=xy->Rt s->RelS h.K (Ro ks) vs {P,ix:=pos (keep++j),own:=λ_=>xh,fresh,sig,tr:=L7 fn,n:=fn.ntmps} B h.F w (vs++Array.replicate (fn.ntmps-vs.size) undef).size s a' w' S->
    a'.defers=[]/\∀w1,Lg.sim P w' w1->∃v,(results fn a'.tmps).run P w1=.ok v w1/\Q (.returned v) w1:=by
   intro s S z D H;refine⟨H.2.2.2.2,λw1 a7=> ?_⟩;rw[Lg.sim_eq a7];replace H:=H.sim w1.drawn;obtain⟨⟨h',H,h4⟩,h5,h6,h7,h8⟩:=H;exact hQ _ s S a' _ h' rfl M (λt A=>IM A) rfl D H h5 h4 h6 z
  cases e with
  |normal=>
   obtain⟨s,S,z,D,H⟩:=I;rw[z]at Z;exact J Z D H
  |ret=>
   obtain⟨s,S,z,D,H⟩:=I;exact J (ZdR.1 a5 S z) D H
  |exit id=>obtain⟨s,S,z,D,_⟩:=I;grind
  |_=>exact I.elim
 cases hc
def Jg{P:Program} [Lg P]{f:FuncId}{fn:Func}{cf:Fn}{fresh:FuncId->Bool}{sig:FuncId->Option (List OT)}{ks:List OT} [FitF P f](d:P.funcs[f]?=xk fn)(hm:P.follows .mixedOrders=xy)(K:VO P f=xy)(hc:ZK P fresh sig ks (TU ks) fn=xk cf)(a1:Mc fn (TU ks)=xy)
  {xs:List V} {R:V} (hw:Yq P cf.body (UX ks xs) (λs=>∃r,W9 s cf.res=xk r/\∃O,Rl s 0 ks=xk O/\R=QX r (Xu ks O)) (λ_ _=>False) (λs=>∃r,W9 s cf.res=xk r/\∃O,Rl s 0 ks=xk O/\R=QX r (Xu ks O))):V6 P f ks xs R:=by
 refine⟨K,λB w h vs a4 hA=>LV d hm hc hw a4 hA λc s S a w' h' hP Q _ Z ⟨r,hr,O,a8,hR⟩ C A hK n p=> ?_⟩;subst hP;simp only[SG,ZdJ,ZdR]at p;obtain⟨J,a2⟩:=p;obtain⟨o,a3⟩:=Lm C A a2;rw[Z]at hr
 obtain⟨v,hv,a6⟩:=KP (D:=(h'.drop (Vc S (TU ks))).F) C A (λb hb=>.inl hb) (λq hq=>by
  have H:=J q hq;have h2:=ZdR.1 a1 q hq;refine⟨H,λi b hb=>.inr ⟨SR q,i+1,?_,Z0,hb⟩⟩;simp_all[Vc,Zhm,SR]) hr
 obtain⟨a7,a0⟩:=ED a8;refine⟨v,hv,v,r,O,h'.drop (Vc S (TU ks)),rfl,n.below,n.same,o.ok,hK,a6,⟨a7,λi k y hk b0 hy=> ?_⟩,hR⟩;have Y:i<xq ks:=(ZdH.1 hk).1;have M:(TU ks).at i=xk k:=by
  rw[Z4v,hk];cases k<;>first|rfl|simp_all
 obtain⟨u,hu,N⟩:=o.at_ i (by simp_all[Yt,Yp]) (by rw[Yt,M];cases k<;>rfl);rw[Yt,M]at N;have a5:vs.getD i undef=u:=by
  have H:=n.fix i (ZdX.2 ⟨(i,k),Qj M,rfl⟩);rw[hu]at H;simp[ZdK,<-H]
 rw[a5];have d:=a0 i k y hk hy;rw[Zet]at d;cases k with
 |fz=>simp_all
 |own ty=>
  simp only[Rn]at d;split at d;rename_i x hg;simp only[ZdF]at d;subst d;obtain⟨z,H,h2⟩:=N;simp only[eval,Q i Y,hg,ZdF]at H;subst H;exact⟨_,rfl,x,rfl,h2⟩;cases d
 |mem l=>
  simp only[Rn]at d;split at d;rename_i cs hg;split at d;rename_i a9;simp only[ZdF]at d;subst d;obtain⟨b,us,T,e1,e2,e3,e4,e5⟩:=N;refine⟨.mem ((l.zip cs).map λy=>(y.1,.c y.2)),by simp_all[Wc,Zer],b,us,T,e1,e2,e3,ZcK,λj ck U=> ?_⟩;simp only[Ze1,ZdI]at U;obtain⟨⟨kk,x⟩,U,rfl⟩:=U;rw[Zhk]at U;obtain⟨W,X⟩:=U;simp only at W X;have hc:=e5 j (kk,.m (c.ix i) j) (by simp[W]);have I:∀ {z:V},eval s (.m (c.ix i) j)=xk z->z=x:=λhz=>by
   simp only[eval,Q i Y,hg,X,ZdQ]at hz;obtain⟨rfl,_⟩:=TS hz;rfl
  show RelC c.P B [] w' _ _ kk (.c x) (us.getD j undef);cases kk with
  |fz=>obtain⟨z,q1,q2,q3⟩:=hc;have:=I q1;subst this;exact⟨_,rfl,q2,q3⟩
  |own ty=>obtain⟨z,q1,q2⟩:=hc;have:=I q1;subst this;exact⟨_,rfl,q2⟩
  |nil=>obtain⟨q1,q2⟩:=hc;have:=I q2;subst this;exact⟨q1,rfl⟩
  |dead=>exact hc
  cases d;cases d
 |nil=>simp[Rn]at d
 |clo f l=>simp[Rn]at d
def qE:∀(xs:List V),UX (xs.map λ_=>OT.fz) xs=xs.map .v
 | []=>rfl
 |x::xs=>by simp_all[Zee,UX,Sk,qE]
def ZU{P:Program} [Lg P]{f:FuncId}{fn:Func}{cf:Fn}{fresh:FuncId->Bool}{sig:FuncId->Option (List OT)}{ks:List OT}{fin:SS} [FitF P f](U:P.funcs[f]?=xk fn)(X:P.follows .mixedOrders=xy)(o:VO P f=xy)(hc:ZK P fresh sig ks fin fn=xk cf)
  {args:List V} {r:V} (C:ks=args.map λ_=>.fz)
  (hw:Yq P cf.body (args.map .v) (λs=>W9 s cf.res=xk r) (λ_ _=>False) (λs=>W9 s cf.res=xk r)):VC P f xh args r:=by
 refine⟨o,λw G vs Q a0 I=> ?_⟩;subst C;have H:Ok (xz (xj w)) G w {F:=G,bl:=λ_ _=>xw,K:=λ_=>False}:=⟨ZdL _,Q,λb d=>.inl d,λb d=>d,λt i b d=>(by cases d),λt i u j b d=>(by cases d),λb d=>d.elim,λt i b d=>(by cases d),λb d=>.inl d⟩;refine LV (h:= {F:=G,bl:=λ_ _=>xw,K:=λ_=>False}) (B:=xz (xj w)) (Rt:=λs=>W9 s cf.res=xk r) U X hc (by rw[qE];exact hw) H ⟨Z1,ZcK,λi k x N hx=> ?_⟩ λc s S a w' h' T W _ A O l z hK p n=> ?_;simp only[Ze1,ZdI]at N;obtain⟨y,_,rfl⟩:=N;exact⟨_,rfl,x,rfl,(I i x hx).mono λb d=>.inl d⟩;subst T;simp only[SG,ZdJ,ZdR]at n;rw[A]at O
 obtain⟨v,Z,J⟩:=KP (D:=λb=>G b\/(xz (xj w)<=b/\b<xz (xj w'))) l z (λb d=>by
  obtain M|M:=l.ok.f_or b d;grind;exact .inr ⟨M,l.ok.f_lt b d⟩) (λq Y=>⟨n.1 q Y,λi b d=>.inr ⟨(l.ok.b_lt _ _ b d).1,(l.ok.b_lt _ _ b d).2.1⟩⟩) O
 refine⟨v,Z,v,rfl,p.below,J.mono λb d=> ?_⟩;simp_all
def OwnV.rd_flat{P:Program}{B:Nat}{w:World}{h:GH}{o:Option Nat}{ty:TypeId}{l:List V}{v:Value}(N:OwnV P B w h o ty (.sl l) v)(q:∀c∈flat l,c.flatc=xy){G':Nat->Prop}(K:∀b,o=xk b->G' b):Rd w G' (.sl l) v:=by
 obtain⟨Q,xs,r,O,j,n,D,x⟩|⟨_,_,_,_,_,_,r,_⟩:=N;case inr=>cases r
 cases r;obtain⟨F,H⟩:=n;obtain⟨rfl,J⟩|⟨b,cap,d,rfl,_,I,k,f,y,z⟩:=H;have:l=[]:=ZeB J;subst this;exact .nil _ _ (ZeQ _);simp only[Value.ownBlock]at D;refine .sl l b 0 cap (P.cellsOf ty) (λi=>d.getD i undef) k f (K b D.symm) j (λi p=> ?_) λi c p=> ?_;rw[Zet,ZdT w b i d ty (0,0) I];have:i<d.size:=by rw[y];exact ZdS p (Zeo _ k)
 simp_all;obtain⟨u,A,M⟩:=x i c p;have C:d.getD i undef=u:=by
  rw[<-z,Zej]at A;split at A;simp_all;simp at A
 rw[C];exact M.flat (q c (ZdO p))
def Z7R{P:Program} [Lg P]{f:FuncId}{fn:Func}{cf:Fn}{fresh:FuncId->Bool}{sig:FuncId->Option (List OT)}{ks:List OT}{t:Nat}{ty:TypeId} [FitF P f](hf:P.funcs[f]?=xk fn)(hm:P.follows .mixedOrders=xy)(p:VO P f=xy)(q:fn.results=#[.tmp t])(hc:ZK P fresh sig ks [(t,.own ty)] fn=xk cf)
  {args:List V} {l:List V} (T:ks=args.map λ_=>.fz) (Q:∀c∈flat l,c.flatc=xy)
  (hw:Yq P cf.body (args.map .v) (λs=>W9 s cf.res=xk (.sl l)) (λ_ _=>False) (λs=>W9 s cf.res=xk (.sl l))):VC P f xy args (.sl l):=by
 refine⟨p,λw G vs Z a1 Y=> ?_⟩;subst T;have W:Ok (xz (xj w)) G w {F:=G,bl:=λ_ _=>xw,K:=λ_=>False}:=⟨ZdL _,Z,λb d=>.inl d,λb d=>d,λt i b d=>(by cases d),λt i u j b d=>(by cases d),λb d=>d.elim,λt i b d=>(by cases d),λb d=>.inl d⟩;refine LV (h:= {F:=G,bl:=λ_ _=>xw,K:=λ_=>False}) (B:=xz (xj w)) (Rt:=λs=>W9 s cf.res=xk (.sl l)) hf hm hc (by rw[qE];exact hw) W ⟨Z1,ZcK,λi k x A hx=> ?_⟩ λc s S a w' h' hP a0 _ M H J C hK z o=> ?_;simp only[Ze1,ZdI]at A;obtain⟨y,_,rfl⟩:=A;exact⟨_,rfl,x,rfl,(Y i x hx).mono λb d=>.inl d⟩;subst hP;simp only[SG,ZdJ,ZdR]at o;obtain⟨n,U⟩:=Lm J C o.2;have r:(Yo c [(t,OT.own ty)]).at t=([],.own ty (.s (c.ix t))):=by
  rw[Yt];simp[SS.at,Qr]
 obtain⟨u,hu,A⟩:=n.at_ t (by simp_all[Yp]) (by rw[r];rfl);rw[r]at A;obtain⟨X,N,D⟩:=A;rw[M,Md,q]at H;simp only[Zee,Zfm,J4,W9,UN]at H;have O:X=.sl l:=by
  simp only[eval]at N;cases hg:get s (c.ix t)<;>rw[hg]at N H<;>simp at N H;rw[<-N,H]
 subst O;have I:Rd w' (λb=>(xy=xh/\G b)\/(xz (xj w)<=b/\b<xz (xj w'))) (.sl l) u:=by
  refine OwnV.rd_flat D Q λb d=>.inr ?_;obtain⟨q1,q2,_⟩:=n.ok.b_lt t 1 b d;exact⟨q1,q2⟩
 refine⟨u,?_,u,rfl,z.below,I⟩;simp_all[results_tmp,ZdK]
end Vm
end
section
namespace Vm
open Go Go.Conc
section
def YI(P:Z5):Program:=P
section
variable {P:Z5}{Stop:Z7}{b:Zf}{k:Zp}{cs:Z6}{a:Act}{w:Z4}
theorem DU(fn:Func)(d:Za):Calm (results fn d):=by
 unfold results;refine .bind (DS (λr=> ?_) _) λ_=>.pure _;cases r with
 |tmp t=>exact .pure _
 |cell a t=>exact .bind (calm_asAddr _) λ_=>calm_loadVar _ _
def Z7t{c:Code}:stepG P xy (G (b.at a (.code (.scope c)::k)) cs) w=.go (G (b.at a (.code c:: .inScope c::k)) cs) w:=Zdz
def Z7p{c:Code}:stepG P xy (G (b.at a (.inScope c::k)) cs) w=.go (G (b.at a k) cs) w:=Zdz
def Z7s:stepG P xy (G (b.at a (.code .ret::k)) cs) w=.go (G {b.at a (.code .ret::k)with mode:=.returning} cs) w:=Zdz
abbrev Zr:=Value->World->Prop
def Leaves(P:Z5)(fr:Zf)(w:Z4)(R:Zr):Prop:=
 fr.mode=.returning/\fr.defers=[]/\fr.kind=.normal/\∃fn,P.funcs[fr.fn]?=xk fn/\∀d,∃v,(results fn fr.tmps).run P (w.at d)=.ok v (w.at d)/\R v (w.at d)
def Z7q{fr c:Zf}{fn:Func}{v:Ze}(d:fr.mode=.returning)(h2:fr.defers=[])(f:fr.kind=.normal)(g:P.funcs[fr.fn]?=xk fn)(h:(results fn fr.tmps).run P w=.ok v w):
  stepG P xy (G fr (c::cs)) w=.go (G (c.finish v) cs) w (seen P fr.fn ((results fn fr.tmps).events P w #[])):=by
 simp_all[G,stepG,unwind,doReturn,GStep.after]
def Leaves.walk{fr c:Zf}{R:Zr}(h:Leaves P fr w R)(q:∀v w,R v w->Walk P Stop (c.finish v) cs w):Walk P Stop fr (c::cs) w:=by
 obtain⟨g,j,l,fn,n,o⟩:=h;refine .one λd=> ?_;obtain⟨v,f,r⟩:=o d;refine⟨_,_,_,_,Z7q g j l n f,ZdL _,λe p=> ?_,q v _ r⟩;have:=LM (P:=P) (DU fn fr.tmps) (w.at d) e (mem_seen p);rw[f]at this;exact this
def AfterB(P:Z5)(Stop:Z7)(b:Zf)(k:Zp)(cs:Z6):Exit->Act->World->Prop
 |.normal,a,w=>Walk P Stop (b.at a k) cs w
 |.exit id,a,w=>∃f,exitTo id k=xk f/\Walk P Stop (b.at a f) cs w
 |.ret,a,w=>∀d,Walk P Stop {b.at a d with mode:=.returning} cs w
 |_,_,_=>False
def AfterB.push{x:Item}{e:Exit}(hx:x.plain=xy)(j:e≠.normal)(h:AfterB P Stop b k cs e a w):AfterB P Stop b (x::k) cs e a w:=by
 cases e with
 |normal=>simp_all
 |exit id=>obtain⟨f,n,d⟩:=h;exact⟨f,by cases x<;>simp_all [exitTo,Item.plain],d⟩
 |ret=>exact h
 |goto l=>exact h
 |panic g=>exact h
 |outgrown=>exact h
abbrev Zh:=Exit->Act->World->Prop
def US(P:Z5)(c:Code)(Q:Zh)(a:Act)(w:Z4):Prop:=
 ∀(b:Zf) (k:Zp) (cs:Z6) (Stop:Z7),b.kind≠.early->(∀e d f,Q e d f->AfterB P Stop b k cs e d f)->Walk P Stop (b.at a (.code c::k)) cs w
def Ng(P:Z5)(ops:Zq)(Q:Zh)(l:Zd)(a:Act)(w:Z4):Prop:=
 ∀(b:Zf) (k:Zp) (cs:Z6) (Stop:Z7),b.kind≠.early->(∀e d f,Q e d f->AfterB P Stop b k cs e d f)->Walk P Stop (b.at a (.inRegion ops l::k)) cs w
def qL(P:Z5)(f:Zo)(args:Za)(w:Z4)(R:Ending->World->Prop):Prop:=
 ∀(cs:Z6) (Stop:Z7),(∀d g,d.fn=f->Leaves P d g (λv w=>R (.returned v) w)->Walk P Stop d cs g)->Walk P Stop (Frame.enter P f args .normal) cs w
variable {Q:Zh}
def Z89{x y:Code}(h:US P x (Exit.then (US P y Q) Q) a w):US P (.seq x y) Q a w:=by
 intro b k cs Stop f d;refine .go (λw=>stepG_seq) (h b (.code y::k) cs Stop f λe g n q=> ?_);cases e with
 |normal=>exact q b k cs Stop f d
 |exit id=>exact(d _ _ _ q).push rfl Z1
 |ret=>exact(d _ _ _ q).push (x:=.code y) rfl Z1
 |goto l=>exact d _ _ _ q
 |panic j=>exact d _ _ _ q
 |outgrown=>exact d _ _ _ q
def Z88{x:Code}(h:US P x (Exit.noGoto Q) a w):US P (.scope x) Q a w:=by
 intro b k cs Stop f d;refine .go (λw=>Z7t) (h b (.inScope x::k) cs Stop f λe o r q=> ?_);cases e with
 |normal=>exact .go (λw=>Z7p) (d _ _ _ q)
 |exit id=>obtain⟨n,j,g⟩:=d _ _ _ q;exact⟨n,by simp[exitTo,j],g⟩
 |ret=>exact d _ _ _ q
 |goto l=>exact q.elim
 |panic p=>exact d _ _ _ q
 |outgrown=>exact d _ _ _ q
def Z86{id:Nat}{c:Code}(h:US P c (Exit.inBlock id Q) a w):US P (.block id c) Q a w:=by
 intro b k cs Stop g d;refine .go (λw=>stepG_block) (h b (.inBlock id::k) cs Stop g λe p t q=> ?_);cases e with
 |normal=>exact .go (λw=>stepG_inBlock) (d _ _ _ q)
 |exit f=>
  by_cases hid:f=id;simp only[Exit.inBlock,hid,Zer]at q;exact⟨k,by simp[exitTo,hid],d _ _ _ q⟩;simp only[Exit.inBlock,hid,Zeu]at q;obtain⟨o,n,j⟩:=d _ _ _ q;have:(id==f)=xh:=by simp;exactλh=>hid h.symm
  exact⟨o,by simp_all[exitTo],j⟩
 |ret=>exact d _ _ _ q
 |goto l=>exact d _ _ _ q
 |panic r=>exact d _ _ _ q
 |outgrown=>exact d _ _ _ q
def Z87{c:Code}(I:Act->World->Prop)(μ:Act->World->Nat)(p:I a w)
  (round:∀a w,I a w->US P c (Exit.then (λd g=>I d g/\μ d g<μ a w) Q) a w):US P (.loop c) Q a w:=by
 intro b k cs Stop j f;have key:∀n a w,μ a w=n->I a w->Walk P Stop (b.at a (.code c:: .inLoop c::k)) cs w:=by
  intro n;induction n using Nat.strongRecOn with
  |_ n r=>
   intro a w o h;refine round a w h b (.inLoop c::k) cs Stop j λe d g q=> ?_;cases e with
   |normal=>exact .go (λw=>stepG_inLoop) (r (μ d g) (o▸q.2) d g rfl q.1)
   |exit id=>exact(f _ _ _ q).push rfl Z1
   |ret=>exact(f _ _ _ q).push (x:=.inLoop c) rfl Z1
   |goto l=>exact f _ _ _ q
   |panic t=>exact f _ _ _ q
   |outgrown=>exact f _ _ _ q
 exact .go (λw=>stepG_loop) (key _ a w rfl p)
def Walk.op{ops:Zq}{i:Nat}{rest:Zd}{o:Oper}(p:ops[i]?=xk o)(t:Region.wanted o (yielded ops a.tmps)=xy)(r:b.kind≠.early)(y:∀o∈ops,Qm P o.op=xy)
  (h:∀d,match(execOp a.eval o).run P (w.at d)with
   |.ok (.value v) l=>Walk P Stop (b.at (a.put o.dst v) (.inRegion ops rest::k)) cs l
   |.ok .skip l=>Walk P Stop (b.at (a.put o.dst undef) (.inRegion ops rest::k)) cs l
   |.ok (.enter f args) l=>Walk P Stop (Frame.enter P f args .normal) (b.at a (.inRegion ops (i::rest)::k)::cs) l
   |_=>False):Walk P Stop (b.at a (.inRegion ops (i::rest)::k)) cs w:=by
 refine .one λd=> ?_;have h:=h d;have j:=(J6 P (execOp a.eval o) (w.at d)).1;have g:EvsB (U (R (Y9 ((execOp a.eval o).run P (w.at d))))) (listed P b.fn a o (w.at d)):=λe u=>En (y o (Zgb p)) a (w.at d) e (mem_listed u)
 revert h
 cases q:(execOp a.eval o).run P (w.at d)with
 |halt x l=>simp
 |ok n l=>
  rw[q]at j g;cases n<;>first|simp|skip
  exactλh=>⟨_,_,_,_,stepG_value p t r q,j,g,h⟩;exactλh=>⟨_,_,_,_,stepG_none p t r q,j,g,h⟩;exactλh=>⟨_,_,_,_,stepG_enter p t r q,j,g,h⟩
def Z7r{ops:Zq}{i:Nat}{rest:Zd}(f:ops[i]?=xw):stepG P xy (G (b.at a (.inRegion ops (i::rest)::k)) cs) w=.go (G (b.at a (.inRegion ops rest::k)) cs) w #[]:=by
 have d:(b.at a (.inRegion ops (i::rest)::k)).finish undef=b.at a (.inRegion ops rest::k):=by rw[Zgc,f];rfl
 simp_all[G,stepG,stepG.exec,Frame.at]
end
instance besI (P:Z5):Lg (YI P) where
 wp c Q a w:=US P c Q a w
 calls f args w R:=qL P f args w R
 todo ops Q l a w:=Ng P ops Q l a w
 sim w w1:=∃d,w1=w.at d
 fit o:=Qm P o.op=xy
 sim_eq h:=by obtain⟨d,rfl⟩:=h;rfl
 calls_mono h k:=λcs Stop hs=>h cs Stop λfr w' h1 h2=>hs fr w' h1 (by
  obtain⟨q1,q2,q3,fn,q4,q5⟩:=h2;exact⟨q1,q2,q3,fn,q4,λd=>by obtain⟨v,r1,r2⟩:=q5 d;simp_all⟩)
 wp_mono h k:=λb kk cs Stop hb hc=>h b kk cs Stop hb λe a w q=>hc e a w (k e a w q)
 wp_skip h:=λb k cs Stop hb hc=>.go (λw=>stepG_skip) (hc _ _ _ h)
 wp_label h:=λb k cs Stop hb hc=>.go (λw=>stepG_label) (hc _ _ _ h)
 wp_exit h:=λb k cs Stop hb hc=>by
  obtain⟨k',hk',hg⟩:=hc _ _ _ h;exact .go (λw=>stepG_exit hk') hg
 wp_ret h:=λb k cs Stop hb hc=>.go (λw=>Z7s) (hc _ _ _ h _)
 wp_seq h:=Z89 h
 wp_scope h:=Z88 h
 wp_cond_true hc h:=λb k cs Stop hb hq=>.go (λw=>stepG_cond hc) (h b k cs Stop hb hq)
 wp_cond_false hc h:=λb k cs Stop hb hq=>.go (λw=>stepG_cond hc) (h b k cs Stop hb hq)
 wp_block h:=Z86 h
 wp_loop I μ h k:=Z87 I μ h k
 wp_region _ h:=λb k cs Stop hb hc=>.go (λw=>stepG_region) (h b k cs Stop hb hc)
 wp_draw {id ops Q a w} _ h:=λb k cs Stop hb hc=>.one λd=>⟨_,_,_,_,stepG_region_draw,ZdL _,λe he=>by simp at he,h (w.at d) ⟨d,rfl⟩ _ b k cs Stop hb hc⟩
 todo_nil h:=λb k cs Stop hb hc=>.go (λw=>stepG_region_end) (hc _ _ _ h)
 todo_cons {ops Q i rest a w} hf h:=λb k cs Stop hb hc=>by
  cases ho:ops[i]? with
  |none=>
   have h:=h w ⟨w.drawn,rfl⟩;rw[ho]at h;exact .go (λw=>Z7r ho) (h b k cs Stop hb hc)
  |some o=>
   rw[ho]at h;dsimp only at h;by_cases hw:Region.wanted o (yielded ops a.tmps)=xy;refine .op ho hw hb hf λd=> ?_;have h:=h (w.at d) ⟨d,rfl⟩;rw[if_pos hw]at h
   revert h
   show Jf (qL P) o a (Ng P ops Q rest) ((execOp a.eval o).run P (w.at d))->_;cases(execOp a.eval o).run P (w.at d)with
   |halt x w'=>exact id
   |ok n w'=>
    cases n<;>first|exact id|exactλh=>h b k cs Stop hb hc|skip
    refineλh=>h _ Stop λfr w2 h1 hL=>hL.walk λv w3 hr=> ?_;obtain⟨v',e,hr⟩:=hr;cases e;rw[Zgc,ho];exact hr b k cs Stop hb hc
   have h:=h w ⟨w.drawn,rfl⟩;rw[if_neg hw]at h;exact .go (λw=>stepG_unwanted ho ZcJ) (h b k cs Stop hb hc)
 calls_of_wp {f fn c args w R} hf hb h:=λcs Stop hs=>by
  have hf:P.funcs[f]?=xk fn:=hf;rw[enter_at args hf hb];refine h (base f) [] cs Stop (by simp[base]) λe a' w' q=> ?_;cases e with
  |normal=>exact .go (λw=>stepG_end) (hs _ _ rfl ⟨rfl,q.1,rfl,fn,hf,λd=>q.2 (w'.at d) ⟨d,rfl⟩⟩)
  |ret=>exactλtodo=>hs _ _ rfl ⟨rfl,q.1,rfl,fn,hf,λd=>q.2 (w'.at d) ⟨d,rfl⟩⟩
  |_=>exact q.elim
end
end Vm
end
section
namespace Vm
open Go Go.Conc
open Go.RowKit (Below)
abbrev Zn:=List V
inductive NoM:V->Prop where
 |int (k:Zs) (n:Int):NoM (.int k n)
 |bool (b:Bool):NoM (.bool b)
 |str (s:ByteArray):NoM (.str s)
 |fn (f:Zo):NoM (.fn f)
 |nul (k:Nat):NoM (.nul k)
 |sl (l:Zn):(∀c∈flat l,NoM c)->NoM (.sl l)
 |agg (l:Zn):(∀c∈l,NoM c)->NoM (.agg l)
 |tup (l:Zn):(∀c∈l,NoM c)->NoM (.tup l)
 |ptr (l:Zn):(∀c∈l,NoM c)->NoM (.ptr l)
 |clo (f:Zo) (l:Zn):(∀c∈l,NoM c)->NoM (.clo f l)
def FixV.mono{n m v}(h:FixV n v)(f:n<=m):FixV m v:=λρ a=>h ρ λb d=>a b Z0
def JN{l:Zl}(h:∀v∈l,∃n,FixV n v):∃n,∀v∈l,FixV n v:=by
 induction l with
 |nil=>simp
 |cons v l g=>
  let⟨n,f⟩:=h v Z1;let⟨m,d⟩:=g λx a=>h x (by simp[a])
  exact⟨max n m,λx a=>by
   obtain rfl|a:=Ze3.1 a;exact f.mono Z0;exact(d x a).mono Z0⟩
def Sv{n}{a:Za}(h:∀v∈a,FixV n v):=λρ f=>RI λx d=>h x d ρ f
def Qy:∀v:Ze,∃n,FixV n v
 |.bool b=>⟨0,λρ _=>U0 ..⟩
 |.int k n=>⟨0,λρ _=>XP ..⟩
 |.float k b=>⟨0,λρ _=>TW ..⟩
 |.complex k a b=>⟨0,λρ _=>BH ..⟩
 |.string s=>⟨0,λρ _=>TZ ..⟩
 |.pointer xw=>⟨0,λρ _=>Uh ..⟩
 |.pointer (xk a)=>⟨a.block+1,λρ h=>by rw[Wr];simp[ZR,h a.block (Zgp _)]⟩
 |.slice xw n c=>⟨0,λρ _=>ZdC⟩
 |.slice (xk a) n c=>⟨a.block+1,λρ h=>by simp[Zt,ZR,h a.block (Zgp _)]⟩
 |.map xw=>⟨0,λρ _=>ZdC⟩
 |.map (xk r)=>⟨r+1,λρ h=>by simp[Zt,h r (Zgp _)]⟩
 |.chan xw=>⟨0,λρ _=>ZdC⟩
 |.chan (xk r)=>⟨r+1,λρ h=>by simp[Zt,h r (Zgp _)]⟩
 |.nilIface=>⟨0,λρ _=>ZdC⟩
 |.nilFunc=>⟨0,λρ _=>ZdC⟩
 | .iface t v=>by
   obtain⟨n,f⟩:=Qy v;exact⟨n,λρ h=>by simp only[Zt];rw[f ρ h]⟩
 | .func fn a b=>by
   obtain⟨n,f⟩:=JN (l:=a.toList) λv d=>Qy v;obtain⟨m,o⟩:=JN (l:=b.toList) λv d=>Qy v;refine⟨max (max n m) (match fn with|.yield l=>l+1|_=>0),λρ h=> ?_⟩;simp only[Zt]
   rw[Sv (n:=max n m) (a:=a) (λv d=>(f v ZcW).mono (ZhQ ..)) ρ λb j=>h b (ZdS j (ZhQ ..)),
    Sv (n:=max n m) (a:=b) (λv d=>(o v ZcW).mono (Nat.le_max_right ..)) ρ λb j=>h b (ZdS j (ZhQ ..))]
   cases fn with
   |yield l=>simp only[V2];rw[h l (ZdS (Zgp l) (Nat.le_max_right ..))]
   |_=>rfl
 | .agg g=>by
   obtain⟨n,f⟩:=JN (l:=g.toList) λv d=>Qy v;exact⟨n,λρ h=>by rw[Wq,Sv (λv d=>f v ZcW) ρ h]⟩
 | .tuple g=>by
   obtain⟨n,f⟩:=JN (l:=g.toList) λv d=>Qy v;exact⟨n,λρ h=>by rw[Ui,Sv (λv d=>f v ZcW) ρ h]⟩
termination_by v=>sizeOf v
decreasing_by
 all_goals simp_wf
 all_goals first|(have:=Array.sizeOf_lt_of_mem (show _∈_ from ZcW);omega)|omega
def DZ:Option Obj->Array Value
 |some (.cells c _ _)=>c
 |_=> #[]
def EM(w:Z4)(vs:Za):∃n,U (R w)<=n/\(∀v∈vs,FixV n v)/\∀(b:Nat) c e d,w.heap[b]?=xk (.cells c e d)->Jo n (.cells c e d):=by
 let⟨n,f⟩:=JN (l:=vs.toList++(w.heap.toList.flatMap λo=>(DZ (xk o)).toList)) λv _=>Qy v;refine⟨max n (U (R w)),Z0,λv g=>(f v (by simp[g])).mono Z0,λb c e d j ρ h=> ?_⟩;simp[XO];rw[Sv (n:=max n (U (R w))) (a:=c) (λv g=>(f v ?_).mono Z0) ρ h];grind [DZ]
def zC{X:Cx}{w t b o v}(f:¬X.O b)(k:∀c e a,w.heap[b]?=xk (.cells c e a)->X.G b)(g:U (R w)<=X.n0)(h:w.cell? ⟨b,o,xw⟩=xk v):(X.mask w t).cell? ⟨b,o,xw⟩=xk v:=by
 let⟨_,c,e,a,d,j⟩:=JB h;have:(X.mask w t).heap[b]?=xk (.cells c e (0,c.size)):=by
  rw[Ac,if_pos (ZdS ((ZdM.1 d).1) g),d];unfold Cx.maskO;dsimp only;rw[if_neg f,if_pos ZcJ]
 simp_all[World.cell?]
def jl{l}{i:Nat}{c}(h:(flat l)[i]?=xk c):c∈flat l:=ZcJ
def M5{X:Cx}{w t G}(y:∀b,¬X.O b)(D:∀b c e A,G b->w.heap[b]?=xk (.cells c e A)->X.G b)(z:U (R w)<=X.n0){x v}(h:Rd w G x v)(d:NoM x):Rd (X.mask w t) G x v:=by
 induction h with
 |int k n=>exact .int k n
 |bool b=>exact .bool b
 |str s=>exact .str s
 |nil a cap h=>exact .nil a cap h
 |sl l b o cap k vs j r u C B _ p=>
  cases d with
  |sl _ d=>exact .sl l b o cap k vs j r u C (λi g=>zC (y b) ZcJ z ZcK) λi c g=>ZcJ
 |agg q vs j r _ p=>
  cases d with
  |agg _ d=>exact .agg q vs j r λi c g=>p i c g (d c (ZdO g))
 |tup l vs j _ p=>
  cases d with
  |tup _ d=>exact .tup l vs j λi c g=>p i c g ZcJ
 |ptr q b o vs u j B _ p=>
  cases d with
  |ptr _ d=>exact .ptr q b o vs u j (λi g=>zC (y b) ZcJ z ZcK) λi c g=>ZcJ
 |fn f=>exact .fn f
 |clo f q vs j _ p=>
  cases d with
  |clo _ _ d=>exact .clo f q vs j λi c g=>p i c g ZcJ
 |nul0=>exact .nul0
 |nul1=>exact .nul1
 |nomp=>cases d
 |mp=>cases d
def M4{X:Cx}{z w}(y:X.WR z w){D x v}(h:Rd z D x v)(d:NoM x):Rd w (λA=>∃b,D b/\A=X.ρ b) x (Zt X.ρ v):=by
 induction h with
 |int k n=>rw[XP];exact .int k n
 |bool b=>rw[U0];exact .bool b
 |str s=>rw[TZ];exact .str s
 |nil a cap h=>
  have:Zt X.ρ (.slice a 0 cap)=.slice (a.map (ZR X.ρ)) 0 cap:=by cases a<;>simp[Zt]
  rw[this];exact .nil _ cap h
 |sl l b o cap k vs j r t B u _ q=>
  cases d with
  |sl _ d=>
   have:Zt X.ρ (.slice (xk ⟨b,o,xw⟩) (P l) cap)=.slice (xk ⟨X.ρ b,o,xw⟩) (P l) cap:=by simp[Zt,ZR]
   rw[this];exact .sl l _ o cap k (λi=>Zt X.ρ _) j r ⟨b,t,rfl⟩ B (λi g=>(y.cell (u i g)).1) λi c g=>ZcJ
 |agg p vs j r _ q=>
  cases d with
  |agg _ d=>
   rw[Wq];exact .agg p _ ZcJ r λi c g=>by grind [Rr,List.mem_of_getElem?]
 |tup l vs j _ q=>
  cases d with
  |tup _ d=>
   rw[Ui];exact .tup l _ ZcJ λi c g=>by grind [Rr,List.mem_of_getElem?]
 |ptr p b o vs t j u _ q=>
  cases d with
  |ptr _ d=>
   rw[Wr];exact .ptr p _ o (λi=>Zt X.ρ _) ⟨b,t,rfl⟩ j (λi g=>(y.cell (u i g)).1) λi c g=>ZcJ
 |fn f=>
  have:Zt X.ρ (.func (.func f) #[] #[])=.func (.func f) #[] #[]:=by simp[Zt,V2]
  rw[this];exact .fn f
 |clo f p vs j _ q=>
  cases d with
  |clo _ _ d=>
   have:Zt X.ρ (.func (.func f) #[] vs)=.func (.func f) #[] (vs.map (Zt X.ρ)):=by simp[Zt,V2]
   rw[this];exact .clo f p _ ZcJ λi c g=>by grind [Rr,List.mem_of_getElem?]
 |nul0=>rw[Uh];exact .nul0
 |nul1=>rw[yJ];exact .nul1
 |nomp=>cases d
 |mp=>cases d
inductive Look {α:Type}:Sem α->Prop where
 |pure (a:α):Look (.pure a)
 |halt (h:Halt):Look (.halt h)
 |load {m:Mode} {a:Addr} {k:Value->Sem α}:(∀v,Look (k v))->Look (.load m a k)
 |prog {k:Program->Sem α}:(∀p,Look (k p))->Look (.program k)
def Look.world{α p}{s:Sem α}(h:Look s)w:Y9 (s.run p w)=w:=by
 induction h with
 |pure a=>rfl
 |halt h=>rfl
 |load _ d=>
  unfold Sem.run;split;exact d _;split;exact d _;rfl
 |prog _ d=>exact d _
theorem Look.bind{α β s}{f:α->Sem β}(h:Look s)(g:∀a,Look (f a)):Look (s>>=f):=by
 induction h with
 |pure a=>exact g a
 |halt h=>exact .halt h
 |load _ d=>exact .load d
 |prog _ d=>exact .prog d
def Gl{α β:Type}{f:α->Sem β}(d:∀a,Look (f a)):∀l:List α,Look (l.mapM f)
 | []=>by simp[ZgZ];exact .pure _
 |a::l=>by
  simp[Zg5];exact(d a).bind λb=>(Gl d l).bind λg=>.pure _
def A7{α:Type}(s:String):Look (stuck s:Sem α):=.halt _
def Gm:Look program:=.prog λp=>.pure p
def Z2X(t:Zg):Look (typeInfo t):=Gm.bind λp=>by split<;>first|exact .pure _|exact A7 _
def Z30(t:Zg):Look (underlying t):=Gm.bind λp=>by split<;>first|exact .pure _|exact A7 _
def Z2Z(t:Zg):Look (sizeOf t):=(Z2X t).bind λi=>.pure _
def Z2W(t:Zg):Look (isAgg t):=(Z30 t).bind λd=>by cases d<;>exact .pure _
def Gk(a:Addr):∀(n i:Nat) (d:Za),Look (loadCellsFrom a i n d)
 |0,_,_=>.pure _
 |n+1,i,d=>.load λv=>Gk a n _ _
def Z31(t:Zg)(a:Addr):Look (loadVar t a):=(Z2W t).bind λb=>by
 cases b with
 |true=>exact(Z2Z t).bind λn=>(Gk a n 0 #[]).bind λc=>.pure _
 |false=>exact .load λv=>.pure v
def Gn(fn:Func)(d:Za):Look (results fn d):=by
 unfold results;rw[Zff];refine Look.bind (s:=Functor.map _ _) ?_ λ_=>.pure _;rw[ZhB];refine(Gl (λr=> ?_) _).bind λ_=>.pure _;cases r with
 |tmp t=>exact .pure _
 |cell a t=>
  refine Look.bind ?_ λa=>Z31 _ _;unfold asAddr;split;exact .pure _;exact .prog λp=>.halt _;exact A7 _
def Z53{P:Z5}{c:Nat}{K:Z3}{j:(Nat->Prop)->Goroutine->World->Prop}{n:Z7}{es:ZcH}{O:Z3}{g:Zi}{w:Z4}(h:Play P xy c K j es O g w):
  es=[]->∀(r:Zf) (p:Z6) (a:Z4),g=G r p->(a.os,a.output)=(w.os,w.output)->a.tape=w.tape->xz (xj a)<=xz (xj w)->(∀b,b<xz (xj a)->w.heap[b]?=a.heap[b]?)->(∀b,O b->xz (xj a)<=b/\b<xz (xj w))->(∀b,K b->b<xz (xj a))->
  (∀O l k f,j O (G l k) f->(a.os,a.output)=(f.os,f.output)->a.tape=f.tape->xz (xj a)<=xz (xj f)->(∀b,b<xz (xj a)->f.heap[b]?=a.heap[b]?)->(∀b,O b->xz (xj a)<=b/\b<xz (xj f))->Walk P n l k f)->Walk P n r p w:=by
 induction h with
 | @stop O g w U=>
   intro _ r p a z x Q R S T _ A;subst z;exact A O r p w (U w (.refl _ _ _)) x Q R S T
 |ev=>intro t;cases t
 | @step es O N I w x _ W=>
   intro t r p a z J L Z M D F A;injection z with X Y;subst X Y;refine .one λd=> ?_;have H:Rely K O w (w.at d):=Rely.at _ _ _ d;obtain⟨l,k,f,q,k1,u⟩:=x (w.at d) H;have C:xz (xj w)<=xz (xj f):=u.sz;have B:∀b,WW O (w.at d) f b->xz (xj a)<=b/\b<xz (xj f):=λb o=>by
    obtain o|o:=o;have:=D b o;omega;have:xz (xj w)<=b:=o.1;have:=o.2;omega
   refine⟨l,k,f,q,k1,C,λe t=> ?_,W (w.at d) _ f q H k1 t l k a rfl (J.trans u.os.symm) (L.trans u.tape.symm) Z0 (λb o=> ?_) B F A⟩;have:=u.evs e t;unfold EvC at this;unfold EvB EvC;split<;>simp only[*]at this;obtain h|h:=this;exact .inl (B _ h).2;have:=F _ h.2;exact .inl Z0;exact(B _ this).2;exact this;trivial;have:=u.keep b (by show b<xz (xj w);omega) λy=>by have:=(D b y).1;omega
   rw[this];exact M b o
structure Sub (P Q:Program):Prop where
 same:P= {Q with funcs:=P.funcs,globals:=P.globals}
 glob:Q.globals=#[]
 zero:∀t i z,Q.info? t=xk i->i.zero=xk z->FixV 0 z
 fn:∀(f:Zo) (fn:Func),Q.funcs[f]?=xk fn->(fn.name= "?" /\fn.origin= "?" /\fn.body=xw)\/((fn.name== "runtime.NumGoroutine")=xh/\P.funcs[f]?=xk fn/\∃c,fn.body=xk c/\YT Q xh c=xy)
def Tw(P Q:Z5)(n0:Nat)(G O:Z3):Cx:=
 {Q,fs:=P.funcs,gs:=P.globals,ρ:=id,n0,G,O
  KL:=λl=>YT Q xy l.assign=xy/\YT Q xy l.body=xy/\l.pending.all QF=xy/\((∃fn c,Q.funcs[l.fn]?=xk fn/\P.funcs[l.fn]?=xk fn/\fn.body=xk c/\YT Q xh c=xy)\/(Q.funcs[l.fn]?=xw/\P.funcs[l.fn]?=xw)\/∃fn a,Q.funcs[l.fn]?=xk fn/\P.funcs[l.fn]?=xk a/\a.results=fn.results)
  KD:=λd=>VV d=xy}
def Sub.ok{P Q:Z5}(h:Sub P Q)(n0:Nat)(G O:Z3)(ρ:Zk):((Tw P Q n0 G O).at ρ).Ok:=
 ⟨λt i z a f=>h.zero t i z a f ρ λb g=>Z0,h.glob,λl=>ZfA,λd=>ZfA,h.fn⟩
def Sub.P{P Q:Z5}(h:Sub P Q)(n0:Nat)(G O:Z3):(Tw P Q n0 G O).P=P:=h.same.symm
def Ej{P Q:Z5}(o:Sub P Q){f:Zo}{fn:Func}(l:Q.funcs[f]?=xk fn)(q:fn.body≠xw)(vs:Za)(n0:Nat)(G O:Z3)(ρ:Zk):
  P.funcs[f]?=xk fn/\Frame.enter Q f vs .normal=Frame.enter P f vs .normal/\((Tw P Q n0 G O).at ρ).St (Frame.enter P f vs .normal) []:=by
 obtain⟨_,_,h⟩|⟨p,a,c,g,j⟩:=o.fn f fn l;simp_all;refine⟨a,by grind [Frame.enter],⟨⟨λi k=> ?_,λd r=> ?_,?_,?_⟩,λc n=>by simp at n,?_⟩⟩;simp[Frame.enter,a,g]at k;subst k;have:(Frame.enter P f vs .normal).roundOf.isSome=xh:=by simp[Frame.enter,a,g,Frame.roundOf]
 rw[this];exact j;simp_all[Frame.enter];simp_all[Frame.enter];left;exact⟨fn,c,l,a,g,j⟩;rfl
def Z0E{P:Z5}{f:Zo}{vs:Za}{n:Nat}(h:∀v∈vs,FixV n v):CT n (Frame.enter P f vs .normal):=by
 intro ρ a;have d:(vs++Array.replicate (((P.funcs[f]?).map (·.ntmps)).getD 0-vs.size) undef).map (Zt ρ)=vs++Array.replicate (((P.funcs[f]?).map (·.ntmps)).getD 0-vs.size) undef:=by
  rw[ZfL,Sv h ρ a];simp[S3]
 simp_all[Frame.enter,Zw,YE,W1]
def Da{X:Cx}{a w:Z4}(h:X.WR a w)(d:Nat):X.WR a (w.at d):=⟨h.os,h.nl,h.low,h.inj,h.blk⟩
def Gd{P Q:Z5}(hs:Sub P Q){f:Zo}{fr:Bool}{args:Zn}{r:V}(hv:VC Q f fr args r)(ha:∀x∈args,NoM x)(hr:NoM r):VC (YI P) f fr args r:=by
 obtain⟨hc,hv⟩:=hv;obtain⟨fn,hq,H,a7⟩:∃fn,Q.funcs[f]?=xk fn/\fn.body≠xw/\(fn.name== "runtime.NumGoroutine")=xh:=by
  unfold VO at hc;grind
 have b6:=(Ej hs hq H #[] 0 (λ_=>False) (λ_=>False) id).1;refine⟨?_,λw G vs hG b0 a8 cs b2 hk=> ?_⟩;show VO P f=xy;simp_all[VO,ZdJ,ZeH];obtain⟨n0,R,a5,a4⟩:=EM w vs;let X:Cx:=Tw P Q n0 (λb=>G b/\∃c e fr,w.heap[b]?=xk (.cells c e fr)) (λ_=>False);have A:∀ρ,(X.at ρ).P=P:=λρ=>hs.same.symm;have a6:∀t,xz (xj (X.mask w t))=n0:=λt=>by simp[Cx.mask,X,Tw]
 have L:=λρ=>Ej hs hq H vs n0 (λb=>G b/\∃c e fr,w.heap[b]?=xk (.cells c e fr)) (λ_=>False) ρ
 have hw:=CE X (hs.ok n0 _ _) (c:=0) (es:=[]) (fr:=Frame.enter P f vs .normal) (cs:=[]) (ds:=cs) (main:=xy) (wc:=w) Z1 (λρ=>(L ρ).2.2)
  (λg N=>by
   rw[ZeO.1 N];exact Z0E a5)
  (λb o ho hO=>by
   obtain hO|⟨_,c,e,fr,Z⟩:=hO;exact hO.elim;rw[ho]at Z;cases Z;exact a4 b c e fr ho)
  (Post:=λwl l F q=>F=[]/\l.fn=f/\∃v,l.leaving Q q (.returned v)/\Rd q (λb=>(fr=xh/\G b)\/(xz (xj wl)<=b/\b<xz (xj q))) r v)
  (λt=>by
   obtain⟨e,u,l,⟨v,rfl,_,y⟩,⟨n,hn⟩,B,hl⟩:=hv (X.mask w t) G vs (λb H=>ZcJ) b0
    (λi x hx=>M5 (X:=X) (λb h=>h) (λb c e fr N hc=>⟨N,c,e,fr,hc⟩) R (a8 i x hx) (ha x (ZdO hx))) [YL Q]
   rw[(L id).2.1]at hn;exact⟨n,l,[],u,hn,rfl,B,v,hl,y⟩)
 have hw:Play P xy 0 X.G _ [] X.O (Conc.G (Frame.enter P f vs .normal) ([]++cs)) w:=(A id)▸hw;refine Z53 hw rfl _ cs w rfl rfl rfl (ZdL _) (λ_ _=>rfl) (λb H=>H.elim) (λb H=>hG b H.1) λO l F u a9 e1 e2 e3 e4 e5=> ?_;obtain⟨ρ,t,a,b3,q,fc,cc,N,hid,⟨rfl,B,v,⟨h1,h2,h3,k,h4,h5⟩,y⟩,C⟩:=a9;injection N with U W;subst U W;have p:l=Zw ρ a:=C.top;have S:F=cs:=C.under;subst S;have a3:l.fn=f:=by rw[p];exact B
 have M:k=fn:=by rw[B,hq]at h4;exact(Zfx h4).symm
 subst M;refine hk l u a3 ⟨by rw[p];show W1 ρ a.mode=_;rw[h1];rfl,by rw[p];show a.defers.map _=_;grind,by rw[p];exact h3,k,ZcJ,λd=> ?_⟩;have T:(X.at ρ).WR q (u.at d):=Da C.wr d;have I:=Gn k (a.tmps.map (Zt ρ));have J:Y9 ((results k (a.tmps.map (Zt ρ))).run P (u.at d))=u.at d:=I.world _
 have z:=(jK (X:=X.at ρ) (V:=[]) k a.tmps).run q (u.at d) #[] T (λr hr=>by simp at hr)
  (λj hj=>by
   rw[A ρ]at hj;have e:(Y9 ((results k (a.tmps.map (Zt (X.at ρ).ρ))).run P (u.at d))).drawn=(u.at d).drawn:=ZeX World.drawn J;omega)
  (λj hj=>by
   rw[A ρ]at hj;have e:xz (xj (Y9 ((results k (a.tmps.map (Zt (X.at ρ).ρ))).run P (u.at d))))=xz (xj (u.at d)):=ZeX (λw=>xz (xj w)) J;omega)
 have a0:(results k a.tmps).run (X.at ρ).Q q=.ok v q:=h5;rw[a0,A ρ]at z;obtain⟨b,Y,b4,Z,a1,b5⟩:=z;have D:(results k (a.tmps.map (Zt ρ))).run P (u.at d)=.ok b Y:=by
  have:=ZeX Prod.fst Z;rw[ZfP]at this;exact this
 have b1:Y=u.at d:=by
  have:=J;rw[D]at this;exact this
 subst b1;have K:b=Zt ρ v:=a1;refine⟨b,by rw[p];exact D,b,rfl,⟨(ZeX Prod.fst e1).symm,e2.symm,(ZeX Prod.snd e1).symm,e3,e4⟩,?_⟩;rw[K];refine(M4 T y hr).mono λb' a2=> ?_;obtain⟨x,hx,rfl⟩:=a2;obtain⟨U,W⟩|⟨U,W⟩:=hx;left;have:(X.at ρ).ρ x=x:=hid x (ZdS (hG x W) R);grind;right;rw[a6]at U;have:=e5 _ (C.own x (.inl U) W);exact this
end Vm
end
section
namespace Vm
open Go Go.Conc Go.ConcN
def IX{P:Z5}:∀(k:Nat) {g:Zi},QuitsIn P k g->g.LeavesIn P k
 |0,g,h=>h
 |k+1,g,h=>by
  obtain h|⟨d,a,f,j⟩:=h;exact .inl h;exact .inr ⟨a,⟨d, #[],λe l=>by simp at l,f⟩,IX k j⟩
def IW{P:Z5}(w:Z4):∀(k:Nat) {g:Zi},QuitsIn P k g->g.endsWith P w k 0=xk 0
 |0,g,h=>by
  have h:g.status=.finished:=h;unfold Goroutine.endsWith;rw[h]
 |k+1,g,h=>by
  unfold Goroutine.endsWith;obtain h|⟨a,j,d,f⟩:=h;rw[h];rw[a,d w];exact IW w k f
def TBt.over{sz:Nat}{t:Trace}(h:TBt sz t):t.HandedOver:=by
 intro i g p f o;obtain⟨x,r,q,_⟩:=o;obtain⟨op,k,l⟩:=touch_of r;obtain⟨j,y,u,n,d⟩:=h.known i op x k l q;have a:t.g? j=xk 0:=by simp[Trace.g?,u,n]
 refine⟨j,a,?_⟩;obtain rfl|d:=d;rw[p]at a;exact absurd (Zfx a) f;exact d
def Z7o{P:Z5}{fr:Zf}{w:Z4}{fn:Func}{v:Ze}(a:fr.mode=.returning)(h2:fr.defers=[])(d:fr.kind=.normal)(f:P.funcs[fr.fn]?=xk fn)(g:(results fn fr.tmps).run P w=.ok v w)(h:P.inits.idxOf? fr.fn=xw):
  stepG P xy (G fr []) w=.ended (.done v) w (seen P fr.fn ((results fn fr.tmps).events P w #[])):=by
 simp[G,stepG,unwind,doReturn,a,h2,d,f,g,h,GStep.after]
def EndsW(P:Z5)(Post:Zr)(gs:Zc)(w:Z4)(sl:Option (Nat×Nat))(t:Trace):Prop:=
 ∃N last d o f a,runNT P N (crowd gs w sl) t=(.next last,d)/\stepT P last=(.ended o f,a)/\Good P Post last o f (d++a)
def EndsW.step{P:Z5}{Post:Zr}{gs a:Zc}{w w1:Z4}{sl f:Option (Nat×Nat)}{t:Trace}{ops:Array MemOp}(h:stepT P (crowd gs w sl)=(.next (crowd a w1 f),ops))(k:EndsW P Post a w1 f (t++ops)):EndsW P Post gs w sl t:=by
 obtain⟨N,last,l,o,n,d,g,j⟩:=k;exact⟨N+1,last,l,o,n,d,by simp only[runNT,h];exact g,j⟩
def Z0D{P:Z5}{Post:Zr}{fr:Zf}{gs:Zc}{w:Z4}{sl:Option (Nat×Nat)}{t:Trace}{q:Zk}(C:P.inits.idxOf? fr.fn=xw)(X:YG P gs.size gs q)(y:gs[0]?=xk (G fr []))(Z:TBt (xz (xj w)) t)(T:Leaves P fr w Post):EndsW P Post gs w sl t:=by
 have h:∀(a:Zc) g,a[a.size]? ≠xk g:=λa g e=>by
  have:=(ZdM.1 e).1;omega
 obtain⟨N,O,Q,fn,R,S⟩:=T;refine MP (Wn:=EndsW P Post) EndsW.step X (λi g C k=> ?_) ⟨0,_,.inl rfl,y,rfl⟩ λa J u d I q' i g H r l o D f L=> ?_;obtain rfl|rfl:=C;rw[y]at k;cases k;exact⟨awake_of (.inl rfl),λg1 g2 d=>woken_run rfl⟩;exact absurd k (h gs g);obtain rfl|rfl:=D;have z:a[0]?=xk (G fr []):=by rw[l 0 (.inl rfl)];exact y
 obtain⟨v,M,Y⟩:=S d;have A:=runT_crowd_ended (P:=P) (sl:=I) (i:=0) z (Z7o N O Q R M C);have B:EvsB (xz (xj (w.at d))) (seen P fr.fn ((results fn fr.tmps).events P (w.at d) #[])):=λe A=>by
  have:=LM (P:=P) (DU fn fr.tmps) (w.at d) e (mem_seen A);rw[M]at this;exact this
 have n:TBt (xz (xj (w.at d))) (t++MemOp.ofEvents 0 fr.fn (G fr []).frame.place (seen P fr.fn ((results fn fr.tmps).events P (w.at d) #[]))):=Z.main (ZdL _) B;refine⟨0,crowd a (w.at J) u,t,.done v,w.at d,_,rfl,H.trans A,v,rfl,Y,n.clean,n.over,⟨λg k=> ?_,rfl⟩,λi g f U=> ?_⟩;have k:g∈a.toList.drop 1:=k;obtain⟨j,W,rfl⟩:=List.mem_iff_getElem.1 k;have F:j< xq (a.toList.drop 1):=W;simp only[ZfM,Zg2]at F;have e:(a.toList.drop 1)[j]=a[j+1]'Z0:=by simp[ZgS]
 rw[e];have:=o (j+1) (a[j+1]'Z0) Z0 Z0 (Zed Z0);exact⟨_,IX _ this⟩;have p:=(ZdM.1 f).1;have p:i<a.size:=p;have:=o i g Z0 Z0 f;refine⟨q' i,?_⟩;have x:=n.hears i;have x:Trace.deaf _ i _=0:=x;have K:=IW (crowd a (w.at J) u).world _ this;rw[<-x]at K;exact K.trans (ZeX xk x);rw[<-r]at f;exact absurd f (h a g)
def Z1c{P:Z5}{f:Zo}{args:Za}{W:Z4}{Post:Zr}(z:P.inits.idxOf? f=xw)(h:qL P f args W λe k=>∃v,e=.returned v/\Post v k):
  ∃M last o k I,runNT P (M+1) (solo (G (Frame.enter P f args .normal) []) W) #[]=(.ended o k,I)/\runN P M (solo (G (Frame.enter P f args .normal) []) W)=.next last/\step P last=.ended o k/\Good P Post last o k I:=by
 have hw:Walk P (λl C w=>C=[]/\l.fn=f/\Leaves P l w Post) (Frame.enter P f args .normal) [] W:=h [] _ λl k y ⟨D,r,u,fn,Q,R⟩=>.stop λd=>⟨rfl,y,D,r,u,fn,Q,λL=>by
  obtain⟨v,hv,v',e,X⟩:=R L;cases e;exact⟨v,hv,X⟩⟩
 have n:=hw W.drawn #[G (Frame.enter P f args .normal) []] xw #[] (λ_=>0) (λi g D r u=>by
   have:=(ZdM.1 u).1;simp at this r;omega) rfl ⟨λsaid=> ?_,λi=>rfl,λop A=>by simp at A,λi op x z=>by simp at z⟩
 obtain⟨N,gs,w,sl,t,Y,l,C,q,O,⟨rfl,rfl,S⟩,U,Z⟩:=n;obtain⟨p,last,J,o,k,B,k1,F,k3⟩:=Z0D (sl:=sl) z U O Z S;have H:runNT P (N+p) (solo (G (Frame.enter P l.fn args .normal) []) W) #[]=(.next last,J):=yP N Y k1;refine⟨N+p,last,o,k,J++B,?_,?_,?_,k3⟩;refine yP (K:=1) (N+p) H ?_;simp only[runNT,F];rw[<-runNT_fst _ _ _ #[],H];rw[<-stepT_fst,F];rintro⟨i,j,_,⟨a,b,T,_⟩,_⟩;simp[Trace.act?]at T
end Vm
end
section
namespace Vm
open Go Go.Conc
def Cl(v:Ze):Prop:=∀ρ,Zt ρ v=v
def Cl.fix{v:Ze}(h:Cl v):FixV 0 v:=λρ _=>h ρ
theorem qS{cs:Za}(h:∀v∈cs,Cl v):Cl (.agg cs):=λρ=>by rw[Wq,RI λx a=>h x a ρ]
def E5{v:Ze}(h:Cl v):∀x∈v.cells,Cl x:=by
 cases v with
 |agg d=>
  intro x a ρ;have:=h ρ;rw[Wq]at this;injection this with this;obtain⟨i,f⟩:=Array.getElem?_of_mem (show x∈d from a);grind
 |_=>intro x a;have:x=_:=(by simpa[Value.cells]using a);rw[this];exact h
def EV{α β:Type}{Q:β->Prop}{f:α->β->Option (ForInStep β)}(g:∀a b s,Q b->f a b=xk s->match s with|.done b=>Q b|.yield b=>Q b):∀(l:List α) (b d:β),Q b->forIn l b f=xk d->Q d
 | [],b,d,h,e=>by
   simp_all
 |a::l,b,d,h,e=>by
  rw[List.forIn_cons]at e;obtain⟨s,j,e⟩:=ZdE.1 e;have:=g a b s h j;cases s with
  |done c=>simp_all
  |yield c=>exact EV g l c d this e
def UW(i:TypeInfo):Prop:=∀z,i.zero=xk z->Cl z
def Z8s{info:TypeId->Option TypeInfo}(l:∀t i,info t=xk i->UW i){fs:Array Field}{i:TypeInfo}(h:Made.reckonStruct info fs=xk i):UW i:=by
 unfold Made.reckonStruct at h;dsimp only at h;rw[<-Array.forIn_toList]at h;obtain⟨r,o,h⟩:=ZdE.1 h
 have u:=EV (Q:=λr=>∀g,r.2.2.2.2.2.2.2.1=xk g->∀v∈g,Cl v) (λa b s n d=>by
  obtain⟨i,q,d⟩:=ZdE.1 d;have fin:∀g,(if b.2.1+i.size>Made.mostCells then xw else do pure ((<-b.2.2.2.2.2.2.2.1)++(<-i.zero).cells):Option (Array Value))=xk g->∀v∈g,Cl v:=λg f=>by
   split at f;cases f;obtain⟨w,p,f⟩:=ZdE.1 f;obtain⟨x,k,f⟩:=ZdE.1 f;cases f;intro v j;obtain j|j:=Zfi.1 j;exact n w p v j;exact E5 (l _ i q x k) v j
  clear n l o h
  revert fin
  generalize (if b.2.1+i.size>Made.mostCells then xw else do pure ((<-b.2.2.2.2.2.2.2.1)++(<-i.zero).cells):Option (Array Value))=Z at d⊢;intro fin;split at d;cases d;split at d;cases d;split at d;obtain⟨tag,_,d⟩:=ZdE.1 d;split at d;cases d;exact fin;cases d;exact fin;obtain⟨tag,_,d⟩:=ZdE.1 d;split at d;cases d;exact fin;cases d;exact fin) _ _ _ (λg f=>by cases f;intro v j;simp at j) o
 have key:∀ {z:Ze},r.2.2.2.2.2.2.2.1.map Value.agg=xk z->Cl z:=λf=>by
  obtain⟨g,k,rfl⟩:=ZdI.1 f;exact qS (u g k)
 split at h;cases h;exactλz f=>key f;cases h;exactλz f=>key f
def Ld{d:TypeDesc}{s:String}{v:Ze}{b:Bool}{n:Nat}(h:Cl v):UW (Made.word d s v b n):=λz a=>by
 cases a;exact h
def Z8r{info:TypeId->Option TypeInfo}(l:∀t i,info t=xk i->UW i){d:TypeDesc}{i:TypeInfo}(h:Made.reckon info d=xk i):UW i:=by
 cases d with
 |struct r=>exact Z8s l h
 |pointer e=>
  obtain⟨x,f,h⟩:=ZdE.1 h;have w:∀ {s},(do pure (Made.word (.pointer e) ("*" ++(<-s)) (.pointer xw) xy):Option TypeInfo)=xk i->UW i:=λh=>by
   obtain⟨y,_,h⟩:=ZdE.1 h;cases h;exact Ld λρ=>Uh ρ
  grind
 |slice e=>
  obtain⟨x,f,h⟩:=ZdE.1 h;obtain⟨y,_,h⟩:=ZdE.1 h;cases h;exact Ld λρ=>ZdC
 |map k e=>
  obtain⟨x,f,h⟩:=ZdE.1 h;obtain⟨y,_,h⟩:=ZdE.1 h;obtain⟨B,_,h⟩:=ZdE.1 h;obtain⟨C,_,h⟩:=ZdE.1 h;cases h;exact Ld λρ=>ZdC
 |chan d e=>
  obtain⟨x,f,h⟩:=ZdE.1 h;obtain⟨y,_,h⟩:=ZdE.1 h;cases h;exact Ld λρ=>ZdC
 |func u A v=>
  obtain⟨x,f,h⟩:=ZdE.1 h;cases h;exact Ld λρ=>yJ ρ
 |array n e=>
  obtain⟨x,f,h⟩:=ZdE.1 h;obtain⟨y,_,h⟩:=ZdE.1 h;cases h;intro z g;dsimp only at g;split at g;cases g;split at g;grind [qS];obtain⟨q,o,rfl⟩:=ZdI.1 g;refine qS λv j=> ?_;obtain⟨a,p,j⟩:=Array.mem_flatten.1 j;rw[(Array.mem_replicate.1 p).2]at j;exact E5 (l e x f q o) v j
 |_=>cases h
theorem NW{T:Tables}(a:∀(t:Zg) (i:TypeInfo),T.types[t]?=xk i->UW i):∀(n:Nat) (t:Zg) (i:TypeInfo),Made.infoAt T n t=xk i->UW i
 |0,t,i,h=>ZcZ
 |n+1,t,i,h=>by
  unfold Made.infoAt at h;split at h;exact a t i h;obtain⟨d,_,h⟩:=ZdE.1 h;exact Z8r (λt i h=>NW a n t i h) h
def NU(l:List TypeInfo):Bool:=l.all λi=>match i.zero with|some z=>still 9 z|none=>xy
def Z8q{P:Z5}(h:NU P.types.toList=xy){t:Zg}{i:TypeInfo}(a:P.info? t=xk i):UW i:=by
 have d:∀(t:Zg) (i:TypeInfo),P.types[t]?=xk i->UW i:=λt i f z g ρ=>by
  have:=ZdR.1 h i ZcJ;grind [KN]
 have a:(if t<P.types.size then P.types[t]? else Made.infoAt P.toTables Made.depth t)=xk i:=a;grind [NW]
def M8(fn:Func):Func:= {fn with name:= "?",origin:= "?",body:=xw}
def WI(P:Z5)(l:Zd):Program:= {P with globals:=#[],funcs:=P.funcs.mapIdx λi fn=>if l.contains i then M8 fn else fn}
def ZF{P:Z5}{l:Zd}{f:Nat}{fn:Func}(h:P.funcs[f]?=xk fn)(a:l.contains f=xh):(WI P l).funcs[f]?=xk fn:=by
 simp_all[WI,ZgP,Ze4,ZdZ,Zeu]
def zY(Q:Z5)(l:Zd):List Func->Nat->Bool
 | [],_=>xy
 |fn::a,i=>(l.contains i||(!(fn.name== "runtime.NumGoroutine")&&(match fn.body with|some c=>YT Q xh c|none=>xh)))&&zY Q l a (i+1)
def H8{Q:Z5}{l:Zd}:∀ {a:List Func} {i j:Nat} {fn:Func},zY Q l a i=xy->a[j]?=xk fn->l.contains (i+j)=xy\/((fn.name== "runtime.NumGoroutine")=xh/\∃c,fn.body=xk c/\YT Q xh c=xy)
 | [],i,j,fn,_,h=>Zdi
 |g::a,i,j,fn,d,h=>by
  simp only[zY,ZdJ,ZdY,ZeH]at d;obtain⟨k,f⟩:=d;cases j with
  |zero=>
   grind
  |succ j=>
   rw[Zgw]at h;have:=H8 f h;grind
def Z7h{P:Z5}{l:Zd}(o:NU P.types.toList=xy)(n:zY (WI P l) l P.funcs.toList 0=xy):Sub P (WI P l):=by
 refine⟨rfl,rfl,λt i z a d=>Cl.fix (Z8q (P:=WI P l) o a z d),λf fn j=> ?_⟩;simp only[WI,ZgP]at j;obtain⟨g,p,rfl⟩:=ZdI.1 j;by_cases k:l.contains f=xy;rw[if_pos k];exact .inl ⟨rfl,rfl,rfl⟩;rw[if_neg k];obtain h|⟨a,d⟩:=H8 n (ZcJ:P.funcs.toList[f]?=xk g);simp_all;simp_all
end Vm
end
