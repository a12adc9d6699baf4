import Derived.Test.YtffknkhabklijaaGreatSForwardKeeps2
set_option linter.unusedSimpArgs false
set_option linter.unusedVariables false
set_option linter.defProp false
theorem Zdd{p:Prop}(h:p:=by grind [maxLen]):p:=h
theorem ZcV{p:Prop}(h:p:=by simp_all[eval,Option.bind_eq_some_iff]):p:=h
theorem ZcT{p:Prop}(h:p:=by rw[List.getElem?_map,List.getElem?_eq_getElem n];rfl):p:=h
theorem Zd0{p:Prop}(h:p:=by rw[←a0];exact(List.getElem?_eq_some_iff.1 Q).1):p:=h
theorem Zd4{p:Prop}(h:p:=by simp only[eval];rw[h u (by simp[E.asks])]):p:=h
theorem Zct{p:Prop}(h:p:=by simp only[eval];rw[Y8 a fun j p=>h j (by simp[E.asks,p]),Y8 b fun j p=>h j (by simp[E.asks,p])]):p:=h
theorem Zcu{p:Prop}(h:p:=by simp only[eval];rw[Y8 a fun j p=>h j (by simp[E.asks,p])]):p:=h
theorem Zcx{p:Prop}(h:p:=by simp only[eval];rw[Y8 a fun j p=>h j (by simp[E.asks,p]),Y8 b fun j p=>h j (by simp[E.asks,p]),Y8 d fun j p=>h j (by simp[E.asks,p])]):p:=h
theorem ZcM{p:Prop}(h:p:=by simp only[eval];rw[Sm l fun j p=>h j (by simp[E.asks,p])]):p:=h
theorem Zdb{p:Prop}(h:p:=by cases b<;>simp[V.same]at h):p:=h
theorem Zdc{p:Prop}(h:p:=by simp_all[XD,Bool.true_or]):p:=h
theorem ZcO{p:Prop}(h:p:=by simp_all[XD,UP,Bool.or_true]):p:=h
theorem ZcS{p:Prop}(h:p:=by simp_all[XD,UP,Bool.true_or,Bool.or_true]):p:=h
def Zhq:=@Nat.div_lt_iff_lt_mul
def Zgw:=@Nat.mod_lt
def ZfV:=@List.isEmpty_iff
def Zf8:=@List.map_nil
def Zhx:=@Nat.mul_le_mul
def Zho:=@List.length_replicate
def ZgZ:=@List.eq_of_mem_replicate
def Zds:=@Go.RowKit.Below.heap_alloc
def Zej:=@List.nil_append
def ZeN:=@Go.World.ownsRow_nil
def ZeB:=@Array.toList_inj
def ZgC:=@Go.MapKept.sameNow_of_keys
def ZgN:=@Go.MapKept.run_checkKey
def ZgB:=@Go.MapKept.run_findKey
def ZeZ:=@Go.MapKept.run_getObj_map
def Zg7:=@List.mem_filterMap
def ZfM:=@List.map_map
def Zgy:=@bne_iff_ne
def ZfA:=@Array.length_toList
def Zf7:=@Go.setRow_other
def Zhy:=@Go.setRow_heap
def ZeU:=@List.length_singleton
def Zeq:=@List.getElem?_eq_none
def Zf3:=@List.mem_or_eq_of_mem_set
def ZfF:=@List.getElem?_set_self
def ZeW:=@List.getElem?_set_ne
def ZfP:=@Bool.not_eq_false
def ZgJ:=@beq_eq_false_iff_ne
def Zfi:=@List.length_drop
def Zgc:=@Go.MapKept.run_setObj_map
def Zep:=@Array.getElem?_modify
def ZeX:=@List.any_eq_true
def ZgY:=@Go.Calls.mono
def Zhe:=@List.reverse_singleton
def Zgn:=@List.singleton_append
def Zhf:=@Option.map_eq_none_iff
def Zf1:=@List.filterMap_cons
def ZgU:=@List.getElem?_zip_eq_some
def Zfv:=@List.getElem?_zipIdx
def Zfg:=@Array.getElem?_append_left
def Zgz:=@Array.getElem?_append_right
def ZfB:=@List.getElem?_cons_zero
def Zgt:=@Bool.true_and
def Zhw:=@List.take_zero
def Zgm:=@List.mem_iff_getElem?
def Zg6:=@List.mem_filter
def Zgl:=@List.length_filter_le
def Zfj:=@List.mem_flatMap
def ZeI:=@List.mem_append_left
def ZgV:=@Option.isNone_iff_eq_none
def ZfK:=@Go.Frame.finish_at
def ZfN:=@Nat.le_max_left
def Zgs:=@Nat.le_max_right
def ZfW:=@Nat.lt_succ_self
section
namespace Vm
open Go
open Go.RowKit (Below)
theorem jf{k:Nat}{l:List V}(d:∀x∈l,x.fits k)(r:0<k){i:Nat}{c:V}(n:(flat l)[i]?=some c):∃q j z,l[q]?=some z/\j<k/\i=q*k+j/\z.cells[j]?=some c:=by
 have f:i<l.length*k:=by rw[<-Tt d];exact(Zdl.1 n).1
 have t:i / k<l.length:=by rw[Zhq r];exact f
 have p:=Zgw i r;have u:=Nat.div_add_mod i k;refine⟨i / k,i%k,l[i / k],Zdk t,p,Zcp,?_⟩;rw[<-Vu d (Zdk t) (i%k) p,show i / k*k+i%k=i from by grind];exact n
section
variable {c:Ctx}{B:Nat}{G:Nat->Prop}{s:St}{a:Act}{w w':World}{h:GH}{g:Gam}{C:ZC}
theorem Ju{P:Program}{d:TypeId}(f:Ur P d=true):∃i z,P.info? d=some i/\i.zero=some z/\z.cells.size=i.size/\0<i.size/\i.bytes<=32768/\P.cellsOf d=i.size:=by
 unfold Ur at f;split at f
 ·rename_i i j;split at f
  ·simp_all[Zdn,Ze5,ZdH,Program.cellsOf]
  grind
 grind
theorem AG{B B':Nat}{e:TypeId}{k n:Nat}{v:Value}{xs:List Value}(f:w.ownsRow B' e k v n xs)(l:B<=B'):w.ownsRow B e k v n xs:=by
 refine⟨f.1,?_⟩;obtain p|⟨g,cap,d,rfl,j,r⟩:=f.2
 ·grind
 ·exact .inr ⟨g,cap,d,rfl,ZdP l j,r⟩
theorem Am(f:Ok B G w h)(y:w.grownBy w' none){O:TypeId}{e:E}{sh:List Nat}{l:List V}{v:Value}{xs:List Value}(he:eval s e=some (.sl l))(hk:0<c.P.cellsOf O)(A:∀x∈l,x.fits (c.P.cellsOf O))
  (H:w'.ownsRow w.heap.size O (c.P.cellsOf O) v l.length xs) (a0:∀(i:Nat) (J:V),(flat l)[i]?=some J->∃u,xs[i]?=some u/\Rd w (h.ext sh) J u)
  {W:Option Nat} {k:TK} {es:List E} (T:Tb c W O e sh=some (k,es)) (tm:Nat->Option Value) (d:Nat) (hd:W=some d):PRes c B G s w h tm d k v w':=by
 subst hd;unfold Tb at T;have I:=AG H f.base;have Y:=Z0G f sh;simp only at T;split at T
 ·rename_i z;simp only[Zdn,ZfV]at z;obtain⟨_,rfl⟩:=z;simp only[Zdj,Zdx]at T;obtain⟨rfl,rfl⟩:=T
  have N:∀ {h':GH},(∀b,h.F b->h'.F b)->∀(i:Nat) (J:V),(flat l)[i]?=some J->∃u,xs[i]?=some u/\Rd w' h'.F J u:=by
   intro h' hF i J S;obtain⟨u,hu,hr⟩:=a0 i J S;exact⟨u,hu,hr.F.keep (BN f y f.f_lt) hF⟩
  cases hv:v.ownBlock with
  |none=>
   refine⟨{F:=h.F,bl:=λt j=>if t=d then none else h.bl t j,K:=h.K},⟨Qd f y,λb r _=>y.block b r Z1,λ_ r=>r,λt ht _=> ?_,λt ht=> ?_,λ_ _ _ _ hm=>(by simp at hm),rfl⟩,
    ⟨ZdP f.base y.size,λb r=>Zdw (f.f_lt b r) y.size,f.f_or,f.g_F,λt j b r=> ?_,λt j u q b r M=> ?_,λb r=>Zdw (f.k_lt b r) y.size,λt j b r=> ?_,f.k_F⟩,.sl l,he,.inl ⟨l,xs,rfl,hk,A,I,Zcp,N λ_ r=>r⟩⟩
   ·simp_all
   ·simp_all
   ·simp only at r;split at r
    ·cases r
    ·obtain⟨Q,R,h3⟩:=f.b_lt t j b r;exact⟨Q,Zdw R y.size,h3⟩
   ·simp only at r M;split at r<;>split at M<;>first|(cases r;done)|(cases M;done)|exact f.inj t j u q b r M
   ·simp only at r;split at r
    ·cases r
    ·exact f.k_bl t j b r
  |some n=>
   obtain⟨Q,R⟩:=H.lt n hv;obtain⟨D,U⟩:=yY f y d 1 Q R;exact⟨_,U,D,.sl l,he,.inl ⟨l,xs,rfl,hk,A,I,by grind [GH.give],N λ_ r=>r⟩⟩
 ·simp only[Zdj,Zdx]at T;obtain⟨rfl,rfl⟩:=T;obtain⟨rfl,hn⟩|⟨n,cap,L,rfl,Q,hh,Z,X,a1,a2⟩:=H.2
  ·have hl:l=[]:=Zeb hn;subst hl
   refine⟨h,⟨Qd f y,λb r _=>y.block b r Z1,λ_ r=>r,λ_ _ _=>rfl,λ_ _=>rfl,λ_ _ _ _ hm=>(by simp at hm),rfl⟩,
    ⟨ZdP f.base y.size,λb r=>Zdw (f.f_lt b r) y.size,f.f_or,f.g_F,λt j b r=> ?_,f.inj,λb r=>Zdw (f.k_lt b r) y.size,f.k_bl,f.k_F⟩,.sl [],he,.nil _ _ (Zex _)⟩
   obtain⟨Q,R,h3⟩:=f.b_lt t j b r;exact⟨Q,Zdw R y.size,h3⟩
  ·have R:n<w'.heap.size:=(Zdq.1 hh).1;obtain⟨D,U⟩:=Z7k f y [d] [d] Q R;refine⟨_,U,D,.sl l,he,.sl l n 0 cap (c.P.cellsOf O) (λi=>L.getD i undef) Z X (.inl (.inr rfl)) A (λi S=> ?_) λi J S=> ?_⟩
   ·rw[Ze7,ZdE w' n i L O (0,0) hh];have:i<L.size:=by rw[a1];exact Zdw S (Ze0 _ Z)
    simp_all
   ·obtain⟨u,hu,hr⟩:=a0 i J S
    have a3:L.getD i undef=u:=by
     rw[<-a2,ZdY]at hu;split at hu
     ·simp_all
     ·simp at hu
    rw[a3];refine hr.keep (BN f y Y) λb r=> ?_;obtain r|⟨p,hp,i,S⟩:=r
    ·exact .inl (.inl r)
    ·exact .inr ⟨p,hp,i,S⟩
theorem GV(D:RelG c B G s a w h g)(u:holds s (ZI c C)){fl ag:Bool}{n:Nat}(A:n≠0):∀ {l:List Operand} {d:List E×List Nat},K9 g C fl l=some d->∀ {p:List V},YB s (d.1.map (WK ag n))=some p->
  p.length=l.length/\∀(i:Nat) (x:Operand),l[i]?=some x->∃z,p[i]?=some z/\(∀l,z≠.tup l)/\(ag=true->z.cells.length=n)/\(ag=false->z.one=true)/\Rd w (h.ext d.2) z (a.eval x)
 | [],d,j,p,k=>by
   simp only[K9,Zdj]at j;subst j;simp only[Zf8,YB,Zdj]at k;subst k;exact⟨rfl,λi x q=>by simp at q⟩
 |x::l,d,j,p,k=>by
  simp only[K9,Zdi,Zdm]at j;obtain⟨T,N,b,f,rfl⟩:=j;simp only[ZdK,YB,Zdi,Zdm]at k;obtain⟨z,r,S,t,rfl⟩:=k;obtain⟨L,M⟩:=GV D u A f t;obtain⟨k1,O,P,Q⟩:=jS D u N A r;refine⟨by simp[L],λi y q=> ?_⟩;cases i with
  |zero=>
   simp at q;subst q;exact⟨z,Z1,k1,O,P,Q.mono λb f=>GH.ext_left f⟩
  |succ i=>
   obtain⟨R,U,F,H,I,J⟩:=M i y Zcp;exact⟨R,Zcp,F,H,I,J.mono λb f=>GH.ext_right f⟩
theorem Z4I(hr:RelG c B G s a w h g)(hC:holds s (ZI c C)){T:TypeId}{n:Nat}{parts:Array (Nat×Operand)}{a0:Option Nat}{k:TK}{es:List E}(f:B4 c g C a0 T n parts.toList=some (k,es))(b2:∀e∈es,∃z,eval s e=some z)(tm:Nat->Option Value)(d:Nat)(hd:a0=some d):
  ∃v w',(Instr.buildSlice T n (parts.map λ(i,x)=>(i,a.eval x))).run c.P w=.ok v w'/\PRes c B G s w h tm d k v w':=by
 unfold B4 at f;split at f
 ·rename_i A hT;have b0:=J4 hT;simp only[Zdi]at f;obtain⟨ops,a3,f⟩:=f;split at f
  ·rename_i Q;obtain⟨I,hn,d6,b1,O⟩:=Q;obtain⟨i,z,hi,b9,d9,h0,d5,S⟩:=Ju b1
   have he:∃zz,eval s (.lit (ops.1.map (WK (Y5 c.P A) (c.P.cellsOf A))))=some zz:=by
    unfold Tb at f;subst hd;simp only at f;split at f<;>(simp only[Zdj,Zdx]at f;obtain⟨_,rfl⟩:=f;exact b2 _ (List.Mem.head _))
   obtain⟨zz,Z⟩:=he;have a8:=Z;simp only[eval,Zdm]at Z;obtain⟨zs,a7,rfl⟩:=Z;obtain⟨hl,hx⟩:=GV hr hC Z0 a3 a7
   have J:parts.toList.length=n:=by
    have:=Zez List.length I;simpa using this
   have b4:zs.length=n:=by rw[hl,Ze9,J]
   have X:∀(q:Nat) (p:Nat×Operand),parts.toList[q]?=some p->p.1=q:=by
    intro q p M;have h1:(parts.toList.map (·.1))[q]?=some p.1:=Zcp;rw[I,List.getElem?_range]at h1
    ·simp_all
    ·grind
   have U:∀z,(∀l,z≠V.tup l)->(Y5 c.P A=true->z.cells.length=c.P.cellsOf A)->(Y5 c.P A=false->z.one=true)->z.cells.length=c.P.cellsOf A:=by
    intro z h1 h2 h3;obtain O|O:=O
    ·grind
    ·grind [Y5,T9]
   have u:∀(q:Nat) (p:Nat×Operand),parts.toList[q]?=some p->∃z,zs[q]?=some z/\z.fits (c.P.cellsOf A)/\(a.eval p.2).cells.size=c.P.cellsOf A/\∀(j:Nat) (ck:V),z.cells[j]?=some ck->Rd w (h.ext ops.2) ck ((a.eval p.2).cells.getD j undef):=by
    intro q p M;obtain⟨z,N,e2,e3,e4,e5⟩:=hx q p.2 Zcp;obtain⟨s1,s2,s3⟩:=e5.cells e2;have hc:=U z e2 e3 e4;exact⟨z,N,⟨hc,s2⟩,by rw[s1,hc],s3⟩
   have H:∀x∈zs,x.fits (c.P.cellsOf A):=by
    intro x b7;obtain⟨q,M⟩:=ZdM b7;have t:q<parts.toList.length:=Zcp;obtain⟨z,N,e2,_⟩:=u q _ (Zdk t);rw[M]at N;cases N;exact e2
   have D:((Array.range (n*i.size)).map (λx=>z.cells[x%z.cells.size]!)).size=n*i.size:=Z1
   obtain⟨R,hR,a2,_,a1⟩:=ja (λq=>some (q*i.size,i.size)) (parts.toList.map λp=>(p.1,a.eval p.2)) ((Array.range (n*i.size)).map (λx=>z.cells[x%z.cells.size]!)) (by
    intro p f;obtain⟨p',W,rfl⟩:=ZdB.1 f;obtain⟨q,M⟩:=ZdM W;obtain⟨_,_,_,e3,_⟩:=u q p' M;have a4:=X q p' M;have t:q<n:=Zcp;refine⟨p'.1*i.size,Zcp,?_⟩;simp only;rw[e3,S,a4,D,<-ZeJ];exact Ze0 _ t)
   rw[D]at a2
   have c1:¬(n*i.size>2 ^ 24):=by
    have:n*i.size<=256*256:=Zhx Z0 Z0;omega
   have F:n*i.size=0\/n*i.size≠0:=Z0
   have a5:(Instr.buildSlice T n (parts.map λ(i,x)=>(i,a.eval x))).run c.P w=.ok (.slice (some ⟨w.heap.size,0,none⟩) n n) (w.alloc (.cells R A)):=by
    have Y:¬(16777216<n*i.size):=Z0;obtain F|F:=F
    ·have b5:n=0:=by
      obtain hh|hh:=Nat.mul_eq_zero.1 F
      ·exact hh
      ·omega
     subst b5
     have b6:parts=#[]:=by
      have:parts.size=0:=by simpa using J
      exact Zeo this
     subst b6
     have d0:R=#[]:=by
      have:R.size=0:=by simpa using a2
      exact Zeo this
     simp_all[Instr.buildSlice,Ze6,U1,Instr.fill,newRow,Array.range_zero']
    ·simp[Instr.buildSlice,Ze6 b0,U1 hi,Y,F,yF hi b9,hR,newRow]
   refine⟨_,_,a5,?_⟩;have hg:=ZeK w (.cells R A) none;have L:=World.ownsRow_lit (base:=w.heap.size) (e:=A) (size:=c.P.cellsOf A) w R n (Zdp _) Zdd Zcp;rw[<-b4]at L⊢;refine Am hr.ok hg a8 Z0 H L (λj ck hj=> ?_) f tm d hd;obtain⟨q,r,y,M,d8,rfl,b8⟩:=jf H Z0 hj;have t:q<parts.toList.length:=Zcp;obtain⟨y',N,e2,e3,e4⟩:=u q _ (Zdk t);rw[M]at N;cases N;have a4:=X q _ (Zdk t);obtain⟨pre,a9,d7⟩:∃pre a9,parts.toList=pre++parts.toList[q]::a9:=List.append_of_mem (ZdA t);have a6:(a.eval parts.toList[q].2).cells.size=i.size:=by rw[e3,S]
   have b3:=a1 ((parts.toList.take q).map λp=>(p.1,a.eval p.2)) (parts.toList[q].1,a.eval parts.toList[q].2) ((parts.toList.drop (q+1)).map λp=>(p.1,a.eval p.2)) (by
    grind [List.drop_eq_getElem_cons,List.take_append_drop]) (q*i.size) Zcp (by
    intro p f o n' ho;obtain⟨p',W,rfl⟩:=ZdB.1 f;obtain⟨m,hm⟩:=ZdM W;rw[ZdW]at hm;have:=X _ _ hm;simp only[Zdj,Zdx]at ho;obtain⟨rfl,rfl⟩:=ho;left;simp only;rw[a6,this,<-ZeJ]
    grind) r Zcp
   refine⟨(a.eval parts.toList[q].2).cells.getD r undef,?_,e4 r ck b8⟩;rw[ZeE,S,b3];have c0:r< (a.eval parts.toList[q].2).cells.size:=Z0;simp only[Zdo]
   grind
  grind
 grind
theorem Z7r(z:Array Value)(n:Nat)(d:0<z.size)(j:Nat)(f:j<n):(madeCells z n).toList[j]?=z[j%z.size]? :=by
 simp_all[Zgw,madeCells]
theorem Z6x(l:RelG c B G s a w h g){n m:Operand}(d:BM n m=true){k:IntKind}{q:Int}(j:a.eval n=.int k q):∃f,a.eval m=.int f q:=by
 unfold BM at d;split at d
 ·simp_all
 ·simp_all[Ze5,Act.eval,Value.int.injEq]
 ·cases d
theorem Z4T(hr:RelG c B G s a w h g)(hC:holds s (ZI c C)){T:TypeId}{n m:Operand}{W:Option Nat}{k:TK}{es:List E}(t:Bb c g C W T n m=some (k,es))(b1:∀e∈es,∃z,eval s e=some z)(tm:Nat->Option Value)(d:Nat)(hd:W=some d):
  ∃v w',(Instr.makeSlice T (a.eval n) (a.eval m)).run c.P w=.ok v w'/\PRes c B G s w h tm d k v w':=by
 unfold Bb at t;split at t
 ·rename_i A hT;have a7:=J4 hT;simp only[Zdi]at t;obtain⟨N,hz,⟨e,sh⟩,he,t⟩:=t;split at t
  ·rename_i H;simp only[Zdn,ZdC,Ze5]at H;obtain⟨⟨b6,b0⟩,D⟩:=H;obtain⟨i,z,hi,a4,d5,h0,a8,a9⟩:=Ju b0;obtain⟨i',z',Y,M,I,f⟩:=CD hz;rw[hi]at Y;cases Y;rw[a4]at M;cases M
   have b2:∃zz,eval s (.mk (if Y5 c.P A then .agg N else N.headD (.agg [])) e)=some zz:=by
    unfold Tb at t;subst hd;simp only at t;split at t<;>(simp only[Zdj,Zdx]at t;obtain⟨_,rfl⟩:=t;exact b1 _ (List.Mem.head _))
   obtain⟨zz,l⟩:=b2;have a6:=l;obtain⟨y,hy,b8⟩:=WD hr hC he;simp only[eval,hy,Zdt]at l;generalize c0:(if Y5 c.P A then V.agg N else N.headD (.agg []))=zv at*;unfold JW at l;split at l
   ·rename_i ki q;split at l
    ·rename_i hq;obtain⟨b4,b5⟩:=hq;obtain⟨q,rfl⟩:=Zdz b4;simp only[Zdj,ZdF]at l;subst l;have Z:q<=4294967296:=by simp only[Y2]at b5;omega
     have hn:=b8.int_eq;obtain⟨k',hm⟩:=Z6x hr b6 hn;rw[hn,hm]
     have hb:i.bytes*q<=281474976710656:=by
      have:i.bytes*q<=32768*4294967296:=Zhx a8 Z;omega
     obtain⟨w',a2,L,hg⟩:=run_make_full (P:=c.P) w w.heap.size T A i z i.size a7 hi a4 rfl ki k' q hb Zdd (Zdp _);refine⟨_,_,a2,?_⟩
     have a5:zv.cells=N:=by
      rw[<-c0];obtain D|D:=D
      ·rw[if_pos D];rfl
      ·split
       ·rfl
       ·have h1:N.length=1:=D
        match N,h1,f,I with
        | [x],_,f,I=>
          simp only[List.headD_cons];obtain⟨x',R,S⟩:=f 0 (z.cells[0]'Z0) (ZdQ _)
          grind [T9,qJ]
     have F:∀(j:Nat) (O:V),N[j]?=some O->∃u,z.cells[j]?=some u/\WU u=some O:=by
      intro j O U;have a0:j<z.cells.size:=by rw[I];exact(Zdl.1 U).1
      obtain⟨x',R,S⟩:=f j _ (ZdQ a0);rw[U]at R;cases R;exact⟨_,ZdQ a0,S⟩
     have b9:zv.fits (c.P.cellsOf A):=by
      refine⟨Zcq,λO X=> ?_⟩;rw[a5]at X;obtain⟨j,U⟩:=ZdM X;obtain⟨u,_,S⟩:=F j O U;exact qJ S
     have J:∀x∈List.replicate q zv,x.fits (c.P.cellsOf A):=λx hx=>Zcq;rw[<-a9]at L;have Q:w'.ownsRow w.heap.size A (c.P.cellsOf A) (.slice (some ⟨w.heap.size,0,none⟩) q q) (List.replicate q zv).length (madeCells z.cells (q*c.P.cellsOf A)).toList:=by rw[Zho];exact L
     refine Am hr.ok hg a6 Z0 J Q (λj O U=> ?_) t tm d hd;obtain⟨p,r,y',a1,d0,rfl,a3⟩:=jf J Z0 U;have b3:p<q:=by simpa using(Zdl.1 a1).1
     have b7:y'=zv:=ZgZ (Zdr a1);subst b7;rw[a5]at a3;obtain⟨u,hu,S⟩:=F r O a3;refine⟨u,?_,Ll S _ _⟩;have c1:p*c.P.cellsOf A+c.P.cellsOf A<=q*c.P.cellsOf A:=by rw[<-ZeJ];exact Ze0 _ b3
     grind [Z7r,Nat.mul_comm,Nat.mul_add_mod,Nat.mod_eq_of_lt]
    grind
   grind
  grind
 grind
end
end Vm
namespace Vm
open Go
open Go.RowKit (Below)
open Go.MapKept (IsKey bytes_beq sameNow_of_keys run_checkKey run_findKey run_keyThatStays)
section
variable {c:Ctx}{B:Nat}{G:Nat->Prop}{s:St}{a:Act}{w w':World}{h:GH}{g:Gam}{C:ZC}
theorem Z6f{P:Program}{t ty e:TypeId}{i:TypeInfo}(k:P.underlying t=some (.slice e))(j:P.info? e=some i){size:Nat}{v:Value}{n:Nat}{xs:List Value}(d:w.ownsRow B e size v n xs)(l:Nat):
  (Builtin.append_ #[t,t] ty #[v,.slice none 0 l]).run P w=.ok v w:=by
 obtain⟨rfl,rfl⟩|⟨g,cap,p,rfl,_,_,f,_⟩:=d.2
 ·simp[Builtin.append_,Ze6 k,Go.sizeOf,typeInfo,j,Builtin.lenOf,Builtin.firstCells]
 ·simp[Builtin.append_,Ze6 k,Go.sizeOf,typeInfo,j,Builtin.lenOf,Builtin.firstCells,f,storeCells]
theorem BH{P:Program}{t ty e:TypeId}(X:P.underlying t=some (.slice e))(a3:Ur P e=true){v:Value}{n:Nat}{xs:List Value}(f:w.ownsRow B e (P.cellsOf e) v n xs)(hB:B<=w.heap.size)
  {Gy:Nat->Prop} {l:List V} {y:Value} (hy:Rd w Gy (.sl l) y) (hk:Xj (P.cellsOf e) l=true) (M:n+l.length<=Y2):
  ∃v' w' d,(Builtin.append_ #[t,t] ty #[v,y]).run P w=.ok v' w'/\w'.ownsRow B e (P.cellsOf e) v' (n+l.length) (xs++d)/\w.grownBy w' v.ownBlock/\
   (v'.ownBlock=v.ownBlock\/(w.grownBy w' none/\w'.ownsRow w.heap.size e (P.cellsOf e) v' (n+l.length) (xs++d)))/\
   (∀x∈l,x.fits (P.cellsOf e))/\∀(i:Nat) (L:V),(flat l)[i]?=some L->∃u,d[i]?=some u/\Rd w Gy L u:=by
 obtain⟨i,z,I,hz,a9,h0,a1,S⟩:=Ju a3;have a7:=MW hk
 have W:(∃A,y=.slice none 0 A/\l=[])\/∃H A,∃d:List Value,y=.slice (some H) l.length A/\d.length=l.length*P.cellsOf e/\(∀j u,d[j]?=some u->w.cell? (H.add j)=some u)/\(∀u∈d,u.oneCell'=true)/\
   (∀x∈l,x.fits (P.cellsOf e))/\∀(i:Nat) (L:V),(flat l)[i]?=some L->∃u,d[i]?=some u/\Rd w Gy L u:=by
  cases hy with
  |nil H A hc=>
   cases H with
   |none=>simp
   |some H=>exact .inr ⟨H,A,[],rfl,Z1,λj u hj=>by simp at hj,λu hu=>by simp at hu,λx hx=>by simp at hx,λi L I=>by simp[flat]at I⟩
  |sl _ b o cap kk vs h1 h2 h3 Z h5 h6=>
   refine .inr ⟨⟨b,o,none⟩,cap,(List.range (l.length*P.cellsOf e)).map vs,rfl,Z1,?_⟩;by_cases T:l=[]
   ·simp_all[flat]
   ·obtain⟨x,hx⟩:=List.exists_mem_of_ne_nil l T;have a5:kk=P.cellsOf e:=by rw[<-(Z x hx).1,a7 x hx]
    subst a5;have a6:=Tt Z;refine⟨λj u hj=> ?_,λu hu=> ?_,Z,λi L I=> ?_⟩
    ·grind [List.getElem?_eq_some_iff,Addr.add_lit]
    ·obtain⟨j,hj,rfl⟩:=ZdB.1 hu;have b3:=Zft.1 hj;have hf:(flat l)[j]?=some ((flat l)[j]'Z0):=Zdk _;have Q:=h6 j _ hf;rw[Q.one_eq];obtain⟨x,hx,a2⟩:=Z0U hf;exact(Z x hx).2 _ a2
    grind
 obtain⟨A,rfl,rfl⟩|⟨H,A,d,rfl,T,r,h1,F,N⟩:=W
 ·refine⟨v,w,[],Z6f X I f A,Zcq,⟨rfl,rfl,rfl,Zdp _,λ_ _ _=>rfl⟩,.inl rfl,λx hx=>by simp at hx,λi L I=>by simp[flat]at I⟩
 ·simp only[Y2]at M;have a0:n+l.length<=maxLen:=Zdd
  have J:(n+l.length)*i.bytes<=140737488355328:=by
   have:(n+l.length)*i.bytes<=4294967296*32768:=Zhx M a1;omega
  have U:(xs++d).length=(n+l.length)*P.cellsOf e:=by rw[Ze8,f.1,T,Nat.add_mul]
  have D:∀(p:Nat),p<n+l.length->∀(row:Option Nat) (Y:Array Value),Y=xs.toArray++d.toArray->
    (w.drew.alloc (.cells (Y++Builtin.zeroCells z.cells (grownCap w (n+l.length) p e- (n+l.length))) e)).ownsRow w.heap.size e (P.cellsOf e)
     (.slice (some ⟨w.heap.size,0,none⟩) (n+l.length) (grownCap w (n+l.length) p e)) (n+l.length) (xs++d)/\
    w.grownBy (w.drew.alloc (.cells (Y++Builtin.zeroCells z.cells (grownCap w (n+l.length) p e- (n+l.length))) e)) row:=by
   rintro p ho row Y rfl;have a4:=grownCap_ge w (n+l.length) p e;have R:grownCap w (n+l.length) p e<=maxLen:=grownCap_le_maxLen w (n+l.length) p e a0;refine⟨⟨U,.inr ⟨w.heap.size,_,_,rfl,Zdp _,ZdO w.drew _,a4,R,?_,?_⟩⟩,⟨rfl,rfl,rfl,Z1,λk hk _=>Zds w.drew _ k hk⟩⟩
   ·simp only[Array.size_append,ZeH,size_zeroCells,a9,f.1,T,S,<-Nat.add_mul];simp_all
   ·grind
  obtain⟨rfl,rfl⟩|⟨g,cap,b1,rfl,b2,hg,b4,R,b0,a8⟩:=f.2
  ·have hx:xs=[]:=Zeb Zcq;subst hx;by_cases hm:l.length=0
   ·have hn:d=[]:=Zeb Zcq;subst hn;refine⟨.slice none 0 0,w,[],?_,Zcq,⟨rfl,rfl,rfl,Zdp _,λ_ _ _=>rfl⟩,.inl rfl,F,N⟩;simp[Builtin.append_,Ze6 X,Go.sizeOf,typeInfo,I,Builtin.lenOf,hm,Builtin.firstCells,loadCells,loadCellsFrom]
   ·have Q:=run_append_nil (P:=P) w t ty e i z X I hz H l.length A d Zcp r Z0 Z0 Zcp;have q:=D 0 Z0;simp only[Ze7,Zej]at q⊢;obtain⟨g1,g2⟩:=q none d.toArray Z1
    grind [AG]
  ·by_cases O:n+l.length<=cap
   ·obtain⟨w',Q,ho,q⟩:=run_append_fits (P:=P) w B t ty e i (P.cellsOf e) X I S.symm g n cap xs f H l.length A d T r h1 O;exact⟨_,_,d,Q,ho,q,.inl rfl,F,N⟩
   ·have holds:∀j u,xs[j]?=some u->w.cell? ((⟨g,0,none⟩:Addr).add j)=some u:=f.cells (g:=g) rfl;have Q:=run_append_grow (P:=P) w t ty e i z X I hz ⟨g,0,none⟩ n cap xs Zcp holds H l.length A d Zcp r Z0 Z0 (growslice_fits Z0 J);have q:=D cap Z0;obtain⟨g1,g2⟩:=q none _ rfl;exact⟨_,_,d,Q,AG g1 hB,(q _ _ rfl).2,.inr ⟨g2,g1⟩,F,N⟩
theorem Qa{k:Nat}{x y z:V}(d:R1 k x y=some z):∃l r,x=.sl l/\y=.sl r/\l.length+r.length<=Y2/\Xj k r=true/\z=.sl (l++r):=by
 unfold R1 at d;split at d
 ·simp_all
 grind
theorem Z10{x z:V}(d:jh x=some z):x=z/\∃l,z=.sl l/\∀y∈Vm.flat l,y.flatc=true:=by
 unfold jh at d;split at d
 ·rename_i l;split at d
  ·rename_i f;simp only[Zdj]at d;exact⟨d,l,d.symm,λy j=>Zdu.1 f y j⟩
  grind
 grind
theorem DY(F:RelG c B G s a w h g)(t:holds s (ZI c C)){x:Operand}{d:E×List Nat}(hx:YC g C x=some d){fl:Bool}{z:V}(k:eval s (Sk fl d).1=some z):
  ∃r,Rd w r z (a.eval x)/\∀l,z=.sl l->∀(i:Nat) (f:V) (u:Value),(flat l)[i]?=some f->Rd w r f u->Rd w (h.ext (Sk fl d).2) f u:=by
 obtain⟨y,I,q⟩:=WD F t (show YC g C x=some (d.1,d.2)from hx);unfold Sk at k⊢;split
 ·grind
 ·rename_i A;rw[if_neg A]at k;split
  ·rename_i n;rw[if_pos n]at k;simp only[eval,I,Zdt]at k;obtain⟨rfl,l,rfl,j⟩:=Z10 k;refine⟨_,q,λJ p i f u D H=> ?_⟩;cases p;exact H.flat (j f (Zdr D))
  grind
theorem Z4p{f:Option Nat}{d:Nat}(p:f=some d){n:TypeId}{e:E}{sh:List Nat}{k:TK}{es:List E}(j:Tb c f n e sh=some (k,es))(l:∀e∈es,∃z,eval s e=some z):∃z,eval s e=some z:=by
 unfold Tb at j;subst p;simp only at j;split at j<;>(simp only[Zdj,Zdx]at j;obtain⟨_,rfl⟩:=j;exact l _ (List.Mem.head _))
theorem Z4E(N:RelG c B G s a w h g)(W:holds s (ZI c C)){T U ty:TypeId}{x y:Operand}{l:Option Nat}{k:TK}{es:List E}(f:B0 c g C l T U x y=some (k,es))(J:∀e∈es,∃z,eval s e=some z)(Z:Nat->Option Value)(d:Nat)(I:l=some d):
  ∃v w',(Builtin.append_ #[T,U] ty #[a.eval x,a.eval y]).run c.P w=.ok v w'/\PRes c B G s w h Z d k v w':=by
 unfold B0 at f;split at f
 ·rename_i p hT;have F:=J4 hT;split at f
  ·rename_i n;obtain⟨rfl,q⟩:=n;split at f
   ·rename_i hk;simp only[Zdi]at f;obtain⟨S,hb,f⟩:=f;rw[QQ N W hk]
    have u:Tb c l p (.app (.c (.sl [])) (Sk (XF c.P p) S).1 (c.P.cellsOf p)) (Sk (XF c.P p) S).2=some (k,es):=by
     subst I;simp only at f;split at f
     grind
     ·exact f
    obtain⟨z,D⟩:=Z4p I u J;have a3:=D;simp only[eval,Zdt,Zdi]at D;obtain⟨yy,R,D⟩:=D;obtain⟨l0,r,L,rfl,X,Q,rfl⟩:=Qa D;cases L;obtain⟨G',O,H⟩:=DY N W hb R;obtain⟨i,zz,hi,a4,a5,h0,a0,a1⟩:=Ju q;obtain⟨v',w',Y,A,j,hg,a2,t,M⟩:=BH (ty:=ty) F q (ZeN w w.heap.size p (c.P.cellsOf p)) (Zdp _) O Q Z0;refine⟨v',w',A,?_⟩;simp only[Ze7,Zej]at j
    exact Am N.ok hg Zcq Z0 t j (λi ck hi=>by
     grind) u Z d I
   grind
  grind
 grind
theorem V2(j:RelG c B G s a w h g)(d:holds s (ZI c C)){x:Operand}{b:E×List Nat}(f:YC g C x=some b):∃y,eval s b.1=some y/\Rd w (h.ext b.2) y (a.eval x):=WD j d (show YC g C x=some (b.1,b.2)from f)
def PRun(c:Ctx)(B:Nat)(G:Nat->Prop)(s:St)(a:Act)(w:World)(h:GH)(o:Oper)(d:Nat)(k:TK):Prop:=
 ∃v w',(execOp a.eval o).run c.P w=.ok (.value v) w'/\PRes c B G s w h (λp=>a.tmps[p]?) d k v w'
theorem PRun.of{o:Oper}{d:Nat}{k:TK}{m:Sem Value}(n:execOp a.eval o=(do pure (.value (<-m))))(l:∃v w',m.run c.P w=.ok v w'/\PRes c B G s w h (λp=>a.tmps[p]?) d k v w'):PRun c B G s a w h o d k:=by
 obtain⟨v,w',j,f⟩:=l;exact⟨v,w',Zcq,f⟩
theorem Has.pr(l:Ok B G w h){o:Oper}{d:Nat}{k:TK}{m:Sem Value}(n:execOp a.eval o=(do pure (.value (<-m))))(j:Has c B s w h (λp=>a.tmps[p]?) d k m):PRun c B G s a w h o d k:=by
 obtain⟨v,f,q⟩:=j
 grind [PRun.of,PRes.here]
theorem Lu{s:St}{e:E}{aq_:List V}{o:Nat}{z:V}(h:eval s e=some (.agg aq_))(d:eval s (.fld e o)=some z):aq_[o]?=some z:=by
 simp_all[eval,Zdt,ZZ,V.pc,Zdi,YR]
def VA(P:Program)(T:TypeId)(vs:Array Value)(o:Nat):Value:=if Y5 P T then .agg (vs.extract o (o+P.cellsOf T))else vs.getD o undef
theorem Z17{vs:Array Value}{o n i:Nat}(d:i<n)(h:o+n<=vs.size):(vs.extract o (o+n)).getD i undef=vs.getD (o+i) undef:=by
 simp only[Zdo,Zhc];simp_all
theorem Iz{P:Program}{T:TypeId}{vs:Array Value}{o n q:Nat}(h:o+n<=vs.size)(f:q+P.cellsOf T<=n)(d:P.cellsOf T≠0):VA P T (vs.extract o (o+n)) q=VA P T vs (o+q):=by
 grind [VA,Array.extract_extract,Z17]
theorem Z0F{P:Program}{a b e:E}:∀(d:Nat) (T:TypeId) (o:Nat),U5 P a b d T o=some e->P.cellsOf T≠0/\(P.underlying T).isSome=true
 |0,_,_,h=>by simp[U5]at h
 |d+1,T,o,h=>by
  grind [U5]
theorem My{P:Program}{s:St}{Q R:E}{aq_ O:List V}{xs ys:Array Value}{G' G'':Nat->Prop}(W:eval s Q=some (.agg aq_))(X:eval s R=some (.agg O))(a1:xs.size=aq_.length)(a2:ys.size=O.length)
  (hx:∀i c,aq_[i]?=some c->Rd w G' c (xs.getD i undef)) (hy:∀i c,O[i]?=some c->Rd w G'' c (ys.getD i undef)):∀(d D:Nat) (T:TypeId) (o:Nat) (e:E) (z:V),d<=D->o+P.cellsOf T<=xs.size->o+P.cellsOf T<=ys.size->U5 P Q R d T o=some e->eval s e=some z->
  ∃r:Bool,(Op.equalIn (D+1) T (VA P T xs o) (VA P T ys o)).run P w=.ok r w/\z=.bool r
 |0,D,T,o,e,z,_,_,_,j,p=>by simp[U5]at j
 |d+1,D,T,o,e,z,hD,Y,Z,j,p=>by
  simp only[U5]at j;split at j
  ·rename_i A;split at j
   case isFalse=>cases j
   simp only[Zdj]at j;subst j;simp only[eval,Zdi]at p;obtain⟨u,hu,v,hv,k⟩:=p;have H:=Lu W (z:=u) (o:=o) ZcV;have I:=Lu X (z:=v) (o:=o) ZcV;have S:=hx o u H;have U:=hy o v I;have n:Y5 P T=false:=by simp[Y5,A]
   simp only[VA,n,Zdy,Ze1];generalize xs.getD o undef=vx at*;generalize ys.getD o undef=vy at*;cases S<;>cases U<;>simp only[Sl]at k<;>(try (simp at k;done))
   simp_all[Zdj,run_equalIn_bool]
  ·rename_i q A;split at j
   case isFalse=>cases j
   simp only[Zdj]at j;subst j;simp only[eval,Zdi]at p;obtain⟨u,hu,v,hv,k⟩:=p;have H:=Lu W (z:=u) (o:=o) ZcV;have I:=Lu X (z:=v) (o:=o) ZcV;have S:=hx o u H;have U:=hy o v I;have n:Y5 P T=false:=by simp[Y5,A]
   simp only[VA,n,Zdy,Ze1];generalize xs.getD o undef=vx at*;generalize ys.getD o undef=vy at*;cases S<;>cases U<;>simp only[Xk]at k<;>(try (simp at k;done))
   simp_all[Zdj,run_equalIn_int]
  ·rename_i fs A;split at j
   case isFalse=>cases j
   rename_i F;obtain⟨a3,h0,a0⟩:=F;have n:Y5 P T=true:=by simp[Y5,A]
   have M:P.fieldsOf T=fs:=by unfold Program.fieldsOf;rw[A]
   simp only[VA,n,Ze3];obtain⟨J,rfl⟩:∃J,D=J+1:=⟨D-1,Z0⟩
   have key:∀(l:List Field) (e:E) (z:V),Qe P (U5 P Q R d) (P.cellsOf T) o l=some e->eval s e=some z->
     ∃r:Bool,(Op.eqFields (J+1) (xs.extract o (o+P.cellsOf T)) (ys.extract o (o+P.cellsOf T)) l).run P w=.ok r w/\z=.bool r:=by
    intro l
    induction l with
    |nil=>
     intro e z j p;simp only[Qe,Zdj]at j;subst j;simp_all[eval,Zdj,Op.eqFields]
    |cons f l ih=>
     intro e z j p;simp only[Qe]at j;split at j
     case isFalse=>cases j
     rename_i hc;obtain⟨hn,ho⟩:=hc;simp only[Zdi,Zdm]at j;obtain⟨x,L,y,a4,rfl⟩:=j;simp only[eval,Zdi]at p;obtain⟨zx,k,p⟩:=p;obtain⟨N,cu⟩:=Z0F d f.type _ L;obtain⟨t,ht,rfl⟩:=My W X a1 a2 hx hy d J f.type (o+f.offset) x zx Z0 Z0 Z0 L k
     have p1:(part f.type (xs.extract o (o+P.cellsOf T)) f.offset).run P w=.ok (VA P f.type xs (o+f.offset)) w:=by
      rw[<-Iz Y ho N];exact BJ (w:=w) (P:=P) cu N Zcq
     have p2:(part f.type (ys.extract o (o+P.cellsOf T)) f.offset).run P w=.ok (VA P f.type ys (o+f.offset)) w:=by
      rw[<-Iz Z ho N];exact BJ (w:=w) (P:=P) cu N Zcq
     simp only[Op.eqFields,hn,ne_eq,not_false_eq_true,Ze3,ZdX,p1,p2,ht,ZdR];cases t
     ·simp_all[QA,eval,Zdj]
     simp_all[QA]
   obtain⟨r,hr,rfl⟩:=key _ e z j p;refine⟨r,?_,rfl⟩;have:=run_equalIn_struct w (J+1) T (xs.extract o (o+P.cellsOf T)) (ys.extract o (o+P.cellsOf T)) (by rw[M];exact A) a0;rw[M]at this;exact this.trans hr
  ·cases j
theorem E7{P:Program}{s:St}{A D:E}:∀(d:Nat) (T:TypeId) (o:Nat) (e:E) (z:V),U5 P A D d T o=some e->eval s e=some z->∃q t I,eval s (.fld A q)=some t/\eval s (.fld D q)=some I
 |0,_,_,_,_,h,_=>by simp[U5]at h
 |d+1,T,o,e,z,h,j=>by
  simp only[U5]at h;split at h
  ·split at h
   case isFalse=>cases h
   simp only[Zdj]at h;subst h;simp only[eval,Zdi]at j;obtain⟨a,n,b,p,_⟩:=j;exact⟨o,a,b,by simpa only[eval,Zdi]using n,by simpa only[eval,Zdi]using p⟩
  ·split at h
   case isFalse=>cases h
   simp only[Zdj]at h;subst h;simp only[eval,Zdi]at j;obtain⟨a,n,b,p,_⟩:=j;exact⟨o,a,b,by simpa only[eval,Zdi]using n,by simpa only[eval,Zdi]using p⟩
  ·rename_i F J;split at h
   case isFalse=>cases h
   rename_i H;cases k:F.toList with
   |nil=>exact absurd k H.1
   |cons f l=>
    rw[k]at h;simp only[Qe]at h;split at h
    case isFalse=>cases h
    simp only[Zdi,Zdm]at h;obtain⟨x,r,y,_,rfl⟩:=h;simp only[eval,Zdi]at j;obtain⟨L,u,_⟩:=j;exact E7 d _ _ _ _ r u
  ·cases h
theorem Mz{P:Program}{s:St}{N O e:E}{u v z:V}{L M:Value}{T:TypeId}{G' G'':Nat->Prop}(l:Ql P T N O=some e)(hu:eval s N=some u)(hv:eval s O=some v)(I:Rd w G' u L)(J:Rd w G'' v M)(U:eval s e=some z):
  ∃(r:Bool) (f j:Array Value),L=.agg f/\M=.agg j/\(Op.equal T L M).run P w=.ok r w/\z=.bool r/\P.eqGuardType P.depth T=false:=by
 unfold Ql at l;split at l
 case isFalse=>cases l
 rename_i d;obtain⟨k,H⟩:=d;obtain⟨q,t,t',A,R⟩:=E7 4 T 0 e z l U
 have Q:∀ {n:E} {x:V} {y:V},eval s n=some x->eval s (.fld (.sz (.isag n) (P.cellsOf T)) q)=some y->∃aq_,x=.agg aq_/\aq_.length=P.cellsOf T/\eval s (.sz (.isag n) (P.cellsOf T))=some (.agg aq_):=λ{n x y} hx p=>by
  simp only[eval,hx,Zdt]at p⊢;cases x<;>simp only[Rm,Option.bind_none,Zdt]at p⊢ <;>(try (cases p;done))
  rename_i aq_;unfold Vk at p⊢;by_cases Z:(V.agg aq_).cells.length=P.cellsOf T
  ·exact⟨aq_,rfl,Z,Zcp⟩
  simp_all
 obtain⟨aq_,rfl,a0,D⟩:=Q hu A;obtain⟨bs,rfl,a1,F⟩:=Q hv R;cases I with
 |agg _ f A R Y=>
  cases J with
  |agg _ j k1 k2 k3=>
   obtain⟨r,S,rfl⟩:=My (P:=P) D F A k1 Y k3 4 9999 T 0 e z Z0 Z0 Z0 l U;refine⟨r,f,j,rfl,rfl,?_,rfl,H⟩
   have W:VA P T f 0=.agg f:=by
    unfold VA;rw[if_pos k,Ze7,show P.cellsOf T=f.size by omega];simp
   have X:VA P T j 0=.agg j:=by
    unfold VA;rw[if_pos k,Ze7,show P.cellsOf T=j.size by omega];simp
   rw[W,X]at S;exact S
theorem Z4G(W:RelG c B G s a w h g)(S:holds s (ZI c C)){op:BinOp}{T:TypeId}{x y:Operand}{k:TK}{es:List E}(J:B2 c g C op T x y=some (k,es))(I:∀e∈es,∃z,eval s e=some z)(d:Nat):
  Has c B s w h (λp=>a.tmps[p]?) d k (do eqGuard op T x y (a.eval x) (a.eval y);binOp op T (a.eval x) (a.eval y)):=by
 unfold B2 at J;simp only[Zdi,Zdm,Zdx]at J;obtain⟨n,Z,q,H,rfl,rfl⟩:=J;obtain⟨u,A,j⟩:=V2 W S Z;obtain⟨v,D,l⟩:=V2 W S H;obtain⟨z,f⟩:=I _ (List.Mem.head _);have R:=f
 have fin:∀ {m:Sem Value},(∃r,m.run c.P w=.ok r w/\Rd w h.F z r)->Has c B s w h (λp=>a.tmps[p]?) d (.val (Lc c.P T op n.1 q.1) []) m:=by
  rintro m ⟨r,L,M⟩;exact⟨r,L,z,R,M.mono λb H=>GH.ext_F H⟩
 have plain:eval s (.bin op n.1 q.1)=some z->Has c B s w h (λp=>a.tmps[p]?) d (.val (Lc c.P T op n.1 q.1) []) (do eqGuard op T x y (a.eval x) (a.eval y);binOp op T (a.eval x) (a.eval y)):=by
  intro f;simp only[eval,A,D,Zdt]at f;exact fin (Z6g f j l T x y)
 unfold Lc at f;split at f
 ·rename_i U;split at f
  ·simp only[eval,A,D,Zdt]at f;exact fin (MA (neg:=false) f j l U x y)
  ·simp only[eval,A,D,Zdt]at f;exact fin (MA (neg:=true) f j l U x y)
  simp_all
 ·split at f
  ·cases t:Ql c.P T n.1 q.1 with
   |none=>simp_all
   |some e=>
    rw[t]at f;obtain⟨r,xs,ys,N,Q,X,rfl,Y⟩:=Mz t A D j l f;refine fin ⟨.bool r,?_,.bool _⟩;simp_all[eqGuard,binOp,Zfa]
  ·cases t:Ql c.P T n.1 q.1 with
   |none=>simp_all
   |some e=>
    rw[t]at f;simp only[ZdD,ZdN,eval,Zdi]at f;obtain⟨y',O,f⟩:=f;obtain⟨r,xs,ys,N,Q,X,rfl,Y⟩:=Mz t A D j l O;simp only[S6,Zdj]at f;subst f;refine fin ⟨.bool (!r),?_,.bool _⟩;simp_all[eqGuard,binOp,Zfa]
  simp_all
theorem QU{x z:V}{e:E}{d:Nat}{sh:List Nat}{m:Sem Value}(l:eval s e=some z)(k:∃r,m.run c.P w=.ok r w/\Rd w (h.ext sh) z r)(n:Nat->Option Value):Has c B s w h n d (.val e sh) m:=by
 obtain⟨r,f,j⟩:=k;exact⟨r,f,z,l,j⟩
theorem QV{m:Sem Value}{z:V}(k:∃r,m.run c.P w=.ok r w/\Rd w h.F z r)(sh:List Nat):∃r,m.run c.P w=.ok r w/\Rd w (h.ext sh) z r:=by
 obtain⟨r,d,f⟩:=k;exact⟨r,d,f.mono λb j=>GH.ext_F j⟩
theorem DI(q:RelG c B G s a w h g)(n:holds s (ZI c C)):∀ {l:List Operand} {j:List Nat},Jn g C l=some j->j.length=l.length/\∀(i p:Nat),j[i]?=some p->∃x b,l[i]?=some x/\h.bl p 0=some b/\a.eval x=.pointer (some ⟨b,0,none⟩)
 | [],j,d=>by
   simp only[Jn,Zdj]at d;subst d;exact⟨rfl,λi p f=>by simp at f⟩
 |x::l,j,d=>by
  simp only[Jn]at d;split at d
  ·rename_i t F A;simp only[Zdm]at d;obtain⟨H,k,rfl⟩:=d;obtain⟨y,z⟩:=DI q n k;obtain⟨v,D,⟨b,vs,T,r,u,_⟩,_⟩:=q.look n (show look g C t=_ from A) rfl;refine⟨by simp[y],λi p f=> ?_⟩;cases i with
   |zero=>simp at f;subst f;exact⟨_,b,rfl,r,by rw[Act.eval_tmp a t v D];exact u⟩
   |succ i=>simpa using z i p ZcL
  ·cases d
theorem Z4R(z:RelG c B G s a w h g)(y:holds s (ZI c C)){f:Go.Fn}{first j:Array Operand}{k:TK}{es:List E}(l:Bc g C f first.toList j.toList=some (k,es))(d:Nat):
  Has c B s w h (λp=>a.tmps[p]?) d k (Instr.makeFunc f (first.map a.eval) (j.map a.eval)):=by
 unfold Bc at l;split at l
 ·rename_i n x A;simp only[Zdj,Zdx]at l;obtain⟨rfl,rfl⟩:=l;have q:first=#[]:=ZeB.1 Z0;have u:j=#[]:=ZeB.1 Z0;subst q u;exact⟨.func (.func n) #[] #[],by simp[Instr.makeFunc],.fn n,rfl,.fn n⟩
 ·rename_i n x _;simp only[Zdm,Zdx]at l;obtain⟨H,r,rfl,rfl⟩:=l;have q:first=#[]:=ZeB.1 Z0;subst q;obtain⟨F,t⟩:=DI z y r;refine⟨.func (.func n) #[] (j.map a.eval),by simp[Instr.makeFunc],j.map a.eval,rfl,Zcq,λi p D=> ?_⟩
  grind
 ·cases l
theorem Z4S(f:Ok B G w h){T:TypeId}{k:TK}{es:List E}(l:Bd c T=some (k,es))(t:Nat->Option Value)(d:Nat):
  ∃v w',(Instr.makeMap T none).run c.P w=.ok v w'/\PRes c B G s w h t d k v w':=by
 unfold Bd at l;split at l
 ·simp only[Zdj,Zdx]at l;obtain⟨rfl,rfl⟩:=l;have r:=ZeK w (.map #[] 0) none;obtain⟨j,q⟩:=yY f r d 1 (n:=w.heap.size) (Zdp _) Z1;refine⟨.map (some w.heap.size),w.alloc (.map #[] 0),?_,_,q,j,.mp 0 [] [],rfl,.inr ⟨0,[],[],w.heap.size, #[],0,rfl,rfl,by simp[GH.give],f.base,.inl rfl,ZdO w _,rfl,rfl,λi c p=>by simp at p,λi c p=>by simp at p⟩⟩;rfl
 ·cases l
theorem Z88{P:Program}{T:TypeId}{x:V}(n:CE P T=some x):∃z,(∀w:World,(zeroValue T).run P w=.ok z w)/\∀(w:World) (G:Nat->Prop),Rd w G x z:=by
 unfold CE at n;simp only[Zdi]at n;obtain⟨z,⟨i,d,p⟩,k⟩:=n;refine⟨z,λw=>yF d p w,λw G=> ?_⟩;split at k
 ·rename_i j;simp only[Zdm]at k;obtain⟨t,l,rfl⟩:=k;obtain⟨u,A⟩:=A5 l
  have key:∀(i:Nat) (c:V),t[i]?=some c->WU (j.getD i undef)=some c:=by
   intro i c d;have f:i<j.size:=by have:=(Zdl.1 d).1;rw[u]at this;simpa using this
   obtain⟨y,r,q⟩:=A i j[i] (by simp[f]);rw[d]at r;cases r;simpa[Zdo,f]using q
  refine .agg t j Zcq (λc q=> ?_) λi c d=>Ll (key i c d) w G
  grind [List.getElem?_of_mem,qJ]
 grind [Ll]
def UZ:KC->TypeDesc
 |.b=>.bool
 |.i k=>.int k
 |.s=>.string
theorem FD{P:Program}{t:TypeId}{f:KC}(d:zc P t=some f):P.underlying t=some (UZ f):=by
 unfold zc at d;split at d<;>first|(simp only[Zdj]at d;subst d;assumption)|cases d
theorem JQ{d:KC}{k:V}(j:WX d k=true){w:World}{G':Nat->Prop}{v:Value}(f:Rd w G' k v):IsKey (UZ d) v:=by
 cases d<;>cases f<;>simp_all [WX,IsKey,UZ]
theorem FF{d:KC}{k y:V}{r:Bool}(j:WX d k=true)(f:JS k y=some r){w w2:World}{G' G'':Nat->Prop}{v u:Value}(n:Rd w G' k v)(l:Rd w2 G'' y u):IsKey (UZ d) u/\(r=true↔v=u):=by
 cases d<;>cases n<;>simp[WX]at j<;>cases l<;>simp[JS]at f
 ·grind [IsKey,UZ]
 ·obtain⟨rfl,rfl⟩:=f;simp[IsKey,UZ,j]
 grind [IsKey,UZ,bytes_beq]
theorem Jz{L:KC}{k:V}(t:WX L k=true){w w2:World}{G' G'':Nat->Prop}{v:Value}(z:Rd w G' k v):∀ {ks:List V} {l:List MapEntry} {r:Option Nat},UT k ks=some r->ks.length=l.length->
  (∀(i:Nat) (c:V),ks[i]?=some c->Rd w2 G'' c (l.getD i default).key)->∀n,match r with
   |none=>Instr.findNow (UZ L) v l n=some none
   |some j=>∃e,l[j]?=some e/\e.key=v/\Instr.findNow (UZ L) v l n=some (some (n+j,e.val))
 | [],l,r,f,u,_,n=>by
   simp only[UT,Zdj]at f;subst f;have:l=[]:=Zeb u.symm;subst this;rfl
 |y::ks,[],r,_,u,_,n=>by simp at u
 |y::ks,e::l,r,f,u,x,n=>by
  simp only[UT]at f;have M:Rd w2 G'' y e.key:=by simpa using x 0 y rfl
  split at f
  ·rename_i I;obtain⟨F,H⟩:=FF t I z M;simp only[Zdj]at f;subst f;have A:=H.1 rfl;obtain⟨q,D,d⟩:=ZgC (JQ t z) F;have p:q=true:=d.2 A;subst p;exact⟨e,rfl,A.symm,by simp[Instr.findNow,D]⟩
  ·rename_i I;obtain⟨F,H⟩:=FF t I z M;obtain⟨q,D,d⟩:=ZgC (JQ t z) F
   have p:q=false:=by
    cases q with
    |false=>rfl
    |true=>have:=H.2 (d.1 rfl);cases this
   subst p;simp only[Zdm]at f;obtain⟨T,J,rfl⟩:=f;have N:=Jz t z J (by simpa using u) (λi c S=>by simpa using x (i+1) c (by simpa using S)) (n+1);cases T with
   |none=>simpa[Instr.findNow,D]using N
   |some j=>
    obtain⟨O,P,Q,R⟩:=N;exact⟨O,by simpa using P,Q,by simp[Instr.findNow,D,R];omega⟩
  ·cases f
theorem G9{p:KC}{k z y:V}{ks vs:List V}{id:Nat}{ok:Bool}(n:Ub p (.mp id ks vs) k z ok=some y){l:List MapEntry}{w2:World}{G' G'':Nat->Prop}{F q:Value}(D:Rd w G' k F)(M:∀(w:World) (G:Nat->Prop),Rd w G z q)(u:ks.length=l.length)(h2:vs.length=l.length)
  (A:∀(i:Nat) (c:V),ks[i]?=some c->Rd w2 G'' c (l.getD i default).key) (L:∀(i:Nat) (c:V),vs[i]?=some c->Rd w2 G'' c (l.getD i default).val):
  WX p k=true/\∃r,Instr.findNow (UZ p) F l 0=some r/\Rd w2 G'' y (if ok then .tuple #[(match r with|some (_,v)=>(v,true)|none=>(q,false)).1,.bool (match r with|some (_,v)=>(v,true)|none=>(q,false)).2]else(match r with|some (_,v)=>(v,true)|none=>(q,false)).1):=by
 have tup:∀ {x:V} {v:Value} {b:Bool},Rd w2 G'' x v->Rd w2 G'' (if ok then .tup [x,.bool b]else x) (if ok then .tuple #[v,.bool b]else v):=by
  intro x v b hx;cases ok
  ·exact hx
  ·refine .tup _ _ rfl λi c f=> ?_
   match i,f with
   |0,f=>simp_all
   |1,f=>simp at f;subst f;simpa using Rd.bool b
   |i+2,f=>simp at f
 unfold Ub at n;split at n
 ·cases n
 rename_i d;have d:WX p k=true:=ZcI;refine⟨d,?_⟩;simp only at n;split at n
 ·rename_i j t;obtain⟨e,H,I,J⟩:=Jz d D t u A 0
  grind
 ·rename_i t;have:=Jz d D t u A 0
  grind
 ·cases n
theorem Z4P(W:RelG c B G s a w h g)(S:holds s (ZI c C)){T:TypeId}{x k:Operand}{ok:Bool}{X:TK}{es:List E}(H:Kj c g C T x k ok=some (X,es))(N:∀e∈es,∃z,eval s e=some z)(d:Nat):
  Has c B s w h (λp=>a.tmps[p]?) d X (Instr.lookup T (a.eval x) (a.eval k) ok):=by
 unfold Kj at H;split at H
 ·rename_i kt el U;simp only[Zdi,Zdm,Zdx]at H;obtain⟨kc,P,z,hz,Q,Z,eb,hb,rfl,rfl⟩:=H;obtain⟨u,hu,I⟩:=WD W S Z;obtain⟨v,hv,n⟩:=WD W S hb;obtain⟨y,J⟩:=N _ (List.Mem.head _);have L:=J;simp only[eval,hu,hv,Zdt]at J;obtain⟨zv,M,q⟩:=Z88 hz;have j:=FD P;generalize a0:a.eval x=av at I;cases I with
  |nomp=>
   obtain⟨D,r,O,f⟩:=G9 (w2:=w) (G'':=h.ext Q.2) J n q (l:=[]) rfl rfl (λi c F=>by simp at F) (λi c F=>by simp at F);refine⟨_,?_,y,L,f⟩;have t:=ZgN (w:=w) j (JQ D n);have A:=ZgB (w:=w) j O;cases r with
   |none=>simp_all[Instr.lookup,Ze6,Result.andThen]
   |some p=>simp_all[Instr.lookup,Ze6,Result.andThen]
  |mp id ks xs b Y es h0 h1 R h3 h4 h5 h6=>
   obtain⟨D,r,O,f⟩:=G9 (w2:=w) (G'':=h.ext Q.2) J n q (l:=es.toList) Z0 Z0 (λi c F=>Zcq) (λi c F=>Zcq);refine⟨_,?_,y,L,f⟩;have t:=ZgN (w:=w) j (JQ D n);have A:=ZgB (w:=w) j O;cases r with
   |none=>simp[Instr.lookup,Ze6 U,ZeZ R,t,A,M,Result.andThen]
   |some p=>simp[Instr.lookup,Ze6 U,ZeZ R,t,A,M,Result.andThen]
  |_=>simp[Ub]at J
 ·cases H
theorem Z4O{T:TypeId}{x k:Operand}{ok:Bool}{e:E}{sh:List Nat}{es:List E}(d:Kj c g C T x k ok=some (.val e sh,es)):es=[e]:=by
 unfold Kj at d;split at d
 ·simp only[Zdi,Zdm,Zdx,TK.val.injEq]at d
  grind
 ·cases d
theorem Z4Q(I:RelG c B G s a w h g)(H:holds s (ZI c C)){T:TypeId}{x k:Operand}{ok:Bool}{A:TK}{es:List E}(f:Ba c g C T x k ok=some (A,es))(n:∀e∈es,∃z,eval s e=some z)(d:Nat):
  Has c B s w h (λp=>a.tmps[p]?) d A (Instr.lookup T (a.eval x) (a.eval k) ok):=by
 simp only[Ba,Zdi]at f;obtain⟨⟨O,D⟩,l,f⟩:=f;simp only at f;split at f
 ·rename_i e N;simp only[Zdj,Zdx]at f;obtain⟨rfl,rfl⟩:=f;have F:=Z4O l;subst F;have y:=n _ (List.Mem.head _)
  have M:∃z,eval s e=some z:=by
   obtain⟨z,j⟩:=y;unfold XE at j;split at j
   ·simp_all
   ·split at j
    ·simp only[eval,Zdi]at j;obtain⟨u,J,_⟩:=j;exact⟨u,J⟩
    ·simp_all
  obtain⟨v,L,Q,r,q⟩:=Z4P I H l Zcq d;obtain⟨z,j,t⟩:=Rc (b:=(e,N)) (fl:=(!ok&&DW c.P T)) r q y;exact⟨v,L,z,j,t⟩
 ·cases f
theorem Z6n{x z:V}(d:Sx x=some z){G':Nat->Prop}{v:Value}(q:Rd w G' x v){T ty k e:TypeId}(f:c.P.underlying T=some (.map k e)):
  ∃r,(Builtin.len_ #[T] ty #[v]).run c.P w=.ok r w/\Rd w h.F z r:=by
 cases q with
 |nomp=>
  simp only[Sx,Zdj]at d;subst d;exact⟨.int .i64 0,Zd5,.int _ _⟩
 |mp id ks H b j l t u n p y A D=>
  simp only[Sx,Zdj]at d;subst d;exact⟨.int .i64 l.size,by simp[Builtin.len_,Ze6 f,ZeZ n,goInt,Result.andThen],by rw[p];exact .int _ _⟩
 |_=>simp[Sx]at d
theorem Z4Z(A:RelG c B G s a w h g)(H:holds s (ZI c C)){o:Oper}{k:TK}{es:List E}(f:pk c g C o=some (k,es))(l:∀e∈es,∃z,eval s e=some z)(d:Nat)(hd:o.dst=some d):PRun c B G s a w h o d k:=by
 have j:=A.ok;obtain⟨dst,op,type,pos,after,guard⟩:=o;simp only at hd;unfold pk at f;simp only at f;split at f
 ·exact⟨_,w,rfl,PRes.here j (Z4U A H f d)⟩
 ·rename_i x;obtain⟨v,h1,h2⟩:=Z4V A H f l {dst,op:=.nilCheck x,type,pos,after,guard} rfl d;exact⟨v,w,h1,PRes.here j h2⟩
 ·exact⟨_,w,rfl,PRes.here j (Z4F A H f l d)⟩
 ·exact PRun.of rfl (Z4D j f _ d)
 ·exact PRun.of rfl (Z4H A H f l _ d)
 ·exact Has.pr j rfl (Z4G A H f l d)
 ·simp only[IE,Zdm,Zdx]at f;obtain⟨Q,M,rfl,rfl⟩:=f;obtain⟨u,L,D⟩:=V2 A H M;obtain⟨z,t⟩:=l _ (List.Mem.head _);have I:=t;simp only[eval,L,Zdt]at t;exact Has.pr j rfl (QU (x:=u) I (QV (Z6r t D) []) _)
 ·rename_i c1 d0 x;unfold IB at f;split at f
  grind
  ·rename_i d5;split at f
   ·rename_i kk a2;simp only[Zdm,Zdx]at f;obtain⟨Q,M,rfl,rfl⟩:=f;obtain⟨u,L,D⟩:=V2 A H M;obtain⟨z,t⟩:=l _ (List.Mem.head _);have I:=t;simp only[eval,L,Zdt]at t;exact Has.pr j rfl (QU (x:=u) I (QV (Z6h t D (by cases hh:c.P.underlying c1<;>simp_all) a2) []) _)
   grind
 ·rename_i x i;simp only[IC,Zdm,Zdx]at f;obtain⟨Q,M,rfl,rfl⟩:=f;obtain⟨u,L,D⟩:=V2 A H M;obtain⟨z,t⟩:=l _ (List.Mem.head _)
  have he:∃q,eval s (.ext Q.1 i)=some q:=by
   unfold XE at t;split at t
   ·simp_all
   ·split at t
    ·simp only[eval,L,Zdt]at t⊢;cases hq:Ts u i with
     |none=>simp_all
     |some q=>simp
    ·simp_all
  obtain⟨q,hq⟩:=he;have a9:=hq;simp only[eval,L,Zdt]at hq;obtain⟨r,b0,b1⟩:=Z6i (c:=c) (w:=w) hq D;obtain⟨z',b9,b2⟩:=Rc (h:=h) (fl:=XF c.P type) (b:=(.ext Q.1 i,Q.2)) a9 b1 ⟨z,t⟩;exact Has.pr j rfl ⟨r,b0,z',b9,b2⟩
 ·exact Has.pr j rfl (Z4N A H f l d)
 ·exact Has.pr j rfl (Z4J A H f l d)
 ·exact Has.pr j rfl (Z4L A H f l d)
 ·exact Has.pr j rfl (Z4K A H f l d)
 ·exact Has.pr j rfl (Z4M A H f l d)
 ·exact Has.pr j rfl (Z4Y A H f l d)
 ·
  rename_i T parts;unfold IA at f
  ·simp only[Zdi]at f;obtain⟨fs,hT,zs,t,b,hb,f⟩:=f;split at f
   ·rename_i R;have b4:b.2.2=[]:=by simpa using R
    have a7:∃z,eval s (.ag (b.1.map (·.2)))=some z:=by
     split at f<;>(simp only[Zdj,Zdx]at f;obtain⟨_,rfl⟩:=f;exact l _ (List.Mem.head _))
    obtain⟨z,a5⟩:=a7;have W:=a5;simp only[eval,Zdm]at W;obtain⟨xs,b6,b7⟩:=W;obtain⟨hl,hx⟩:=Us b6;have d6:xs.length=b.1.length:=Zcp
    obtain⟨vs,a4,b3,a0,J⟩:=Mx A H hT t hb (λck a6=>by
     obtain⟨i,Z⟩:=ZdM a6;obtain⟨x,_,he⟩:=hx i ck.2 Zcq;simp_all)
    rw[b4]at a0 J;refine Has.pr j rfl ⟨.agg vs,a4,?_⟩
    have b5:∀(i:Nat) (x:V),xs[i]?=some x->x.one=true/\Rd w (h.ext b.2.1) x (vs.getD i undef):=by
     intro i x Z;have a8:i<b.1.length:=by have:=(Zdl.1 Z).1;omega
     obtain⟨y,hy,b8⟩:=hx i (b.1[i]).2 Zcq;rw[Z]at hy;cases hy;have X:=J i b.1[i] (Zdk a8);unfold BRel at X;split at X
     ·simp_all
     ·obtain⟨e1,e2⟩:=X;rw[b8]at e2;cases e2;rw[e1];exact⟨rfl,.nil _ _ (Zex _)⟩
     ·simp_all
     ·grind
    have S:∀x∈xs,x.one=true:=λx d7=>by
     grind [List.getElem?_of_mem]
    have c0:z=.agg xs:=by rw[<-b7];simp only[Tn,VR S]
    split at f
    ·rename_i a3;simp only[Zdn,ZfV]at a3;simp only[Zdj,Zdx]at f;obtain⟨rfl,rfl⟩:=f;refine⟨vs,rfl,b3,λi ck Z=> ?_⟩;have X:=J i ck Z;unfold BRel at X;obtain⟨kk,e⟩:=ck;cases kk with
     |own ty=>simp_all
     |nil=>exact X
     |fz=>
      obtain⟨x,e1,e2,e3⟩:=X;rw[a3.1]at e3;exact⟨x,e1,e2,e3.F⟩
     |dead=>grind
    ·simp only[Zdj,Zdx]at f;obtain⟨rfl,rfl⟩:=f;refine⟨z,a5,?_⟩;rw[c0];exact .agg xs vs Z0 S λi x Z=>(b5 i x Z).2
   grind
 ·exact PRun.of rfl (Z4I A H f l _ d hd)
 ·exact PRun.of rfl (Z4T A H f l _ d hd)
 ·exact Has.pr j rfl (Z4R A H f d)
 ·exact PRun.of rfl (Z4S j f _ d)
 ·exact Has.pr j rfl (Z4Q A H f l d)
 ·
  rename_i args argTypes;split at f
  ·rename_i x T hx hT;have p:args=#[x]:=ZeB.1 Z0;have O:argTypes=#[T]:=ZeB.1 Z0;subst p O
   have Y:execOp a.eval {dst,op:=.call {callee:=.builtin .len,args:=#[x],argTypes:=#[T]},type,pos,after,guard}=(do pure (.value (<-Builtin.len_ #[T] type #[a.eval x]))):=by
    simp[execOp,resolve,invoke,builtin]
   unfold ID at f;split at f
   ·rename_i e N;simp only[Zdm,Zdx]at f;obtain⟨Q,M,rfl,rfl⟩:=f;obtain⟨u,L,D⟩:=V2 A H M;obtain⟨z,t⟩:=l _ (List.Mem.head _);have I:=t;simp only[eval,L,Zdt]at t;exact Has.pr j Y (QU (x:=u) I (QV (Z6j t D N) []) _)
   ·rename_i n e N;simp only[Zdj,Zdx]at f;obtain⟨rfl,rfl⟩:=f;refine Has.pr j Y ⟨.int .i64 n,?_,_,rfl,.int _ _⟩;simp[Builtin.len_,Ze6 N,goInt]
   ·rename_i k e N;simp only[Zdm,Zdx]at f;obtain⟨Q,M,rfl,rfl⟩:=f;obtain⟨u,L,D⟩:=V2 A H M;obtain⟨z,t⟩:=l _ (List.Mem.head _);have I:=t;simp only[eval,L,Zdt]at t;exact Has.pr j Y (QU (x:=u) I (QV (Z6n t D N) []) _)
   grind
  grind
 ·rename_i args _;split at f
  ·rename_i x y hx;have p:args=#[x,y]:=ZeB.1 Z0;subst p;simp only[yc,Zdy,Ze1,Zdi,Zdm,Zdx]at f;obtain⟨Q,M,eb,hb,rfl,rfl⟩:=f;obtain⟨u,L,D⟩:=V2 A H M;obtain⟨v,hv,a1⟩:=V2 A H hb;obtain⟨z,t⟩:=l _ (List.Mem.head _);have I:=t;simp only[eval,L,hv,Zdt]at t;exact Has.pr j (by simp[execOp,resolve,invoke,builtin];rfl) (QU (x:=u) I (QV (Z6m t D a1 _ type) []) _)
  grind
 ·rename_i args _;split at f
  ·rename_i x y hx;have p:args=#[x,y]:=ZeB.1 Z0;subst p;simp only[yc,Ze3,Zdi,Zdm,Zdx]at f;obtain⟨Q,M,eb,hb,rfl,rfl⟩:=f;obtain⟨u,L,D⟩:=V2 A H M;obtain⟨v,hv,a1⟩:=V2 A H hb;obtain⟨z,t⟩:=l _ (List.Mem.head _);have I:=t;simp only[eval,L,hv,Zdt]at t;exact Has.pr j (by simp[execOp,resolve,invoke,builtin];rfl) (QU (x:=u) I (QV (Z6k t D a1 _ type) []) _)
  grind
 ·rename_i args argTypes;split at f
  ·rename_i x y T U hx hT;have p:args=#[x,y]:=ZeB.1 Z0;have O:argTypes=#[T,U]:=ZeB.1 Z0;subst p O;exact PRun.of (by simp[execOp,resolve,invoke,builtin]) (Z4E (ty:=type) A H f l _ d hd)
  grind
 grind
end
end Vm
namespace Vm
open Go
open Go.RowKit (Below)
theorem qB:∀ {g:Gam} {t:Nat},t∉ZS g->g.at t=([],.no)
 | [],t,_=>rfl
 | (u,x)::g,t,d=>by
   simp only[ZS,ZdK,ZdG,not_or]at d;simp only[Gam.at];rw[if_neg (λe=>d.1 e.symm)];exact qB d.2
theorem Lb:∀ {g:Gam} {t:Nat},t∈ZS g->(t,g.at t)∈g
 | [],t,d=>by simp[ZS]at d
 | (u,x)::g,t,d=>by
   simp only[Gam.at];by_cases f:u=t
   ·subst f;simp
   ·rw[if_neg f]
    have:t∈ZS g:=by
     simp only[ZS,ZdK,ZdG]at d;exact d.resolve_left λe=>f e.symm
    exact ZdV _ (Lb this)
theorem Vs:∀(a b:Gam) (t:Nat),(a++b).at t=if t∈ZS a then a.at t else b.at t
 | [],b,t=>Zdf
 | (u,x)::a,b,t=>by
   simp only[ZeC,Gam.at];by_cases d:u=t
   ·grind [ZS]
   ·rw[if_neg d,if_neg d,Vs a b t]
    grind [ZS,List.map]
theorem zd{ps rb fz:List Nat}{g:Gam}{t:Nat}(d:t∈ZS (W8 ps rb fz g)):(W8 ps rb fz g).at t=([],.no):=by
 grind [Lb,W8,Option.some.injEq,Prod.mk.injEq]
theorem Z2F{ps rb fz:List Nat}{g:Gam}{t:Nat}(f:t∉ZS (W8 ps rb fz g)){x:ZC×TK}(hx:(t,x)∈g):Vb ps rb fz x.2=true:=by
 by_cases d:Vb ps rb fz x.2=true
 ·exact d
 ·exfalso;apply f;simp only[ZS,W8,ZdB,Zg7];exact⟨(t,[],.no),⟨(t,x),hx,by simp[d]⟩,rfl⟩
theorem qI(ps rb fz:List Nat):Vb ps rb fz .no=true:=by simp[Vb,Ui,leads,Qx]
theorem FG{ps rb fz:List Nat}{g:Gam}{t:Nat}(d:t∉ZS (W8 ps rb fz g)):Vb ps rb fz (g.at t).2=true:=by
 grind [ZS,Z2F,Lb,qB,qI]
theorem LG{fz:List Nat}{g:Gam}:ZS (VT fz g)=fz:=by
 simp only[ZS,VT,ZfM]
 conv=>rhs;rw[<-List.map_id fz]
 rfl
theorem LF:∀ {fz:List Nat} {g:Gam} {t:Nat},t∈fz->(VT fz g).at t=((g.at t).1,Re (g.at t).2)
 | [],g,t,d=>Zde
 |p::fz,g,t,d=>by
  simp only[VT,ZdK,Gam.at];by_cases f:p=t
  ·grind
  ·rw[if_neg f];exact LF ((ZdG.1 d).resolve_left λe=>f e.symm)
def GH.thaw(h:GH)(fz:List Nat):GH:= {F:=λb=>h.F b\/∃p∈fz,∃i,h.bl p (i+1)=some b,bl:=λp i=>if p∈fz/\i≠0 then none else h.bl p i,K:=h.K}
section
variable {c:Ctx}{B:Nat}{G:Nat->Prop}{s:St}{a:Act}{w w':World}{h h':GH}{g:Gam}{C:ZC}{fz:List Nat}
theorem KT(f:Ok B G w h)(fz:List Nat):Ok B G w (h.thaw fz)/\Step B [] [] fz w w h (h.thaw fz):=by
 refine⟨⟨f.base,λb d=> ?_,λb d=> ?_,λb d=>.inl (f.g_F b d),λt i b d=> ?_,λt i u j b d k=> ?_,f.k_lt,λt i b d=> ?_,λb d=> ?_⟩,
  ZdZ _ _,λb d _=>rfl,λb d=>.inl d,λt _ q=> ?_,λt _=> ?_,λt i b _ q d=>.inr ⟨t,q,i,d⟩,rfl⟩
 ·obtain d|⟨p,_,i,l⟩:=d
  ·exact f.f_lt b d
  ·exact(f.b_lt p (i+1) b l).2.1
 ·obtain d|⟨p,_,i,l⟩:=d
  ·exact f.f_or b d
  ·exact .inr (f.b_lt p (i+1) b l).1
 ·simp only[GH.thaw]at d;split at d
  ·cases d
  ·rename_i A;obtain⟨r,x,y⟩:=f.b_lt t i b d;refine⟨r,x,λn=> ?_⟩;obtain n|⟨p,D,j,z⟩:=n
   ·exact y n
   ·obtain⟨rfl,rfl⟩:=f.inj t i p (j+1) b d z;simp_all
 ·simp only[GH.thaw]at d k;split at d<;>split at k<;>first|(cases d;done)|(cases k;done)|exact f.inj t i u j b d k
 ·simp only[GH.thaw]at d;split at d
  ·cases d
  ·exact f.k_bl t i b d
 ·obtain d|⟨p,_,i,l⟩:=d
  ·exact f.k_F b d
  ·exact .inr (f.k_bl p (i+1) b l)
 ·simp_all[GH.thaw]
 ·simp[GH.thaw]
theorem Ci{sh:List Nat}(d:∀p∈sh,p∈fz):∀b,h.ext sh b->(h.thaw fz).F b:=by
 intro b f;obtain f|⟨p,k,i,j⟩:=f
 ·exact .inl f
 ·exact .inr ⟨p,d p k,i,j⟩
theorem OwnV.one{P:Program}{o:Option Nat}{ty:TypeId}{x:V}{v:Value}(d:OwnV P B w h o ty x v):x.one=true:=by
 obtain⟨l,f,rfl,_⟩|⟨_,_,_,_,_,_,rfl,_⟩:=d<;>rfl
theorem RelC.freeze{P:Program}{o:Option Nat}{k:CK}{e:E}{v:Value}(j:RelC P B s w h o k e v)(q:Same h.F w w')(d:∀b,h.F b->h'.F b)(t:∀b,o=some b->w'.heap[b]?=w.heap[b]?)(p:∀b,o=some b->h'.F b)(u:Option Nat):
  RelC P B s w' h' u (EK k) e v:=by
 cases k with
 |fz=>obtain⟨x,l,n,f⟩:=j;exact⟨x,l,n,f.keep q d⟩
 |own y=>
  obtain⟨x,l,n⟩:=j;have f:=n.keep (h':=h') q d t;exact⟨x,l,f.one,f.rd (λb r=>r) p⟩
 |nil=>exact j
 |dead=>exact j
theorem RelK.freeze{Q z:Nat->Option Value}{t:Nat}{v:Value}{k:TK}{ps rb:List Nat}(D:RelK c.P B s w h Q t v k)(j:Step B ps rb fz w w' h h')(f:Ok B G w h)(y:∀t∈rb,t∈ps)
  (l:t∉ps) (r:t∈fz) (n:Vb ps rb fz k=true) (O:∀p,p∉ps->z p=Q p):RelK c.P B s w' h' z t v (Re k):=by
 have L:Same h.F w w':=λb d=>j.F_same f d;cases q:k.owning with
 |false=>
  have:=D.keep j f y l (λ_=>q) n O;cases k<;>first|exact this|simp[TK.owning]at q
 |true=>
  cases k<;>first|(simp[TK.owning]at q;done)|skip
  ·rename_i ty e;obtain⟨x,S,A⟩:=D;have I:=A.keep (h':=h') L j.F λb d=>j.bl_same f l d;exact⟨x,S,I.rd (λb d=>GH.ext_F d) λb d=>GH.ext_F (j.fzF t 0 b l r d)⟩
  ·rename_i R;obtain⟨b,vs,T,A,I,U,J,W⟩:=D;refine⟨b,vs,T,by rw[j.fz0 t (λY=>l (y t Y))];exact A,I,by rw[j.bl_same f l A];exact U,by simpa using J,λi Z u=> ?_⟩;simp only[ZdJ,Zdm]at u;obtain⟨H,M,rfl⟩:=u;exact(W i H M).freeze L j.F (λb d=>j.bl_same f l d) (λb d=>j.fzF t i b l r d) _
  ·rename_i R;obtain⟨vs,rfl,J⟩:=D;simp only[Re];split
   ·trivial
   ·rename_i X;obtain⟨x,hx,_,N⟩:=J.rd (G':=λb=>h.F b\/∃i,h.bl t (i+1)=some b) (by simpa using X) (λb d=>.inl d) (λ_ i b d=>.inr ⟨i,d⟩);refine⟨_,hx,N.keep (λb d=> ?_) λb d=> ?_⟩
    ·obtain d|⟨i,u⟩:=d
     ·exact L b d
     ·exact j.bl_same f l u
    ·obtain d|⟨i,u⟩:=d
     ·exact GH.ext_F (j.F b d)
     ·exact GH.ext_F (j.fzF t i b l r u)
theorem RelG.step{a':Act}{ps rb:List Nat}{d:Gam}(n:RelG c B G s a w h g)(L:Step B ps rb fz w w' h h')(r:Ok B G w' h')(u:∀t∈rb,t∈ps)(x:∀p,p∉ps->a'.tmps[p]?=a.tmps[p]?)
  (I:∀t∈ps,t∈ZS d)
  (Q:∀t∈ZS d,(holds s (ZI c (d.at t).1)->(d.at t).2.isNo=false->∃v,a'.tmps[t]?=some v/\RelK c.P B s w' h' (λp=>a'.tmps[p]?) t v (d.at t).2)/\(¬holds s (ZI c (d.at t).1)->a'.tmps.getD t undef=undef)):
  RelG c B G s a' w' h' (d++W8 ps rb fz g++VT fz g++g):=by
 have key:∀t,(holds s (ZI c ((d++W8 ps rb fz g++VT fz g++g).at t).1)->((d++W8 ps rb fz g++VT fz g++g).at t).2.isNo=false->∃v,a'.tmps[t]?=some v/\RelK c.P B s w' h' (λp=>a'.tmps[p]?) t v ((d++W8 ps rb fz g++VT fz g++g).at t).2)/\
   (¬holds s (ZI c ((d++W8 ps rb fz g++VT fz g++g).at t).1)->a'.tmps.getD t undef=undef):=by
  intro t;rw[Vs,Vs,Vs];simp only[ZS,ZeL,ZdL];by_cases D:t∈ZS d
  ·have f:t∈List.map (·.1) d:=D;simp_all
  ·have f:t∉List.map (·.1) d:=D;by_cases z:t∈ZS (W8 ps rb fz g)
   ·have j:t∈List.map (·.1) (W8 ps rb fz g):=z;simp only[f,j,false_or,true_or,Ze3,Ze1,zd z];simp_all[TK.isNo,absurd,Vy,ZI]
   ·have j:t∉List.map (·.1) (W8 ps rb fz g):=z;have J:=FG z;have y:t∉ps:=λN=>D (I t N);by_cases q:t∈fz
    ·have k:t∈List.map (·.1) (VT fz g):=by have:=LG (fz:=fz) (g:=g);unfold ZS at this;rw[this];exact q
     simp only[f,j,k,false_or,Ze3,Ze1,LF q];refine⟨λF l=> ?_,λl=> ?_⟩
     ·have H:(g.at t).2.isNo=false:=by
       cases A:(g.at t).2<;>first|rfl|simp_all[Re,TK.isNo]
      obtain⟨v,O,A⟩:=n.at_ t F H;exact⟨v,Zcq,A.freeze L n.ok u y q J x⟩
     ·have:=n.skip t l;simp_all
    ·have k:t∉List.map (·.1) (VT fz g):=by have:=LG (fz:=fz) (g:=g);unfold ZS at this;rw[this];exact q
     simp only[f,j,k,false_or,Ze1];refine⟨λF l=> ?_,λl=> ?_⟩
     ·obtain⟨v,O,A⟩:=n.at_ t F l;exact⟨v,Zcq,A.keep L n.ok u y (λM=>absurd M q) J x⟩
     ·have:=n.skip t l;simp_all
 exact⟨r,λt=>(key t).1,λt=>(key t).2⟩
theorem RelG.frz(l:RelG c B G s a w h g)(fz:List Nat):RelG c B G s a w (h.thaw fz) (Vm.frz fz g):=by
 obtain⟨f,j⟩:=KT l.ok fz;have:=l.step (d:=[]) (a':=a) j f (λ_ h=>h) (λ_ _=>rfl) (λt k=>by simp at k) (λt k=>by simp[ZS]at k);simpa[Vm.frz]using this
end
end Vm
namespace Vm
open Go
open Go.RowKit (Below)
def GH.put(h:GH)(d:Nat)(f:Nat->Option Nat)(r:Nat->Nat->Option Nat):GH:= {F:=h.F,bl:=λu=>if u=d then f else r u,K:=h.K}
def YU(h:GH)(ts:List Nat)(u:Nat)(i:Nat):Option Nat:=if u∈ts then none else h.bl u i
section
variable {c:Ctx}{B:Nat}{G:Nat->Prop}{s:St}{a a':Act}{w w':World}{h h':GH}{g:Gam}{C:ZC}{fz ps rb:List Nat}
theorem Ok.put(k:Ok B G w h)(q:w.heap.size<=w'.heap.size){d:Nat}{f:Nat->Option Nat}{r:Nat->Nat->Option Nat}
  (z:∀u i b,u≠d->r u i=some b->h.bl u i=some b) (J:∀i b,f i=some b->(w.heap.size<=b/\b<w'.heap.size)\/∃t j,h.bl t j=some b)
  (L:∀i j b,f i=some b->f j=some b->i=j) (I:∀i b u j,u≠d->f i=some b->r u j=some b->False):Ok B G w' (h.put d f r):=by
 refine⟨ZdP k.base q,λb l=>Zdw (k.f_lt b l) q,k.f_or,k.g_F,λt i b l=> ?_,λt i u j b l n=> ?_,λb l=>Zdw (k.k_lt b l) q,λt i b l H=> ?_,k.k_F⟩
 ·simp only[GH.put]at l
  have y:∀t j,h.bl t j=some b->B<=b/\b<w'.heap.size/\¬h.F b:=λt j x=>by
   obtain⟨A,D,P⟩:=k.b_lt t j b x
   grind
  split at l
  ·obtain⟨A,D⟩|⟨t,j,x⟩:=J i b l
   ·exact⟨ZdP k.base A,D,λO=>by have:=k.f_lt _ O;omega⟩
   ·exact y t j x
  ·rename_i p;exact y t i (z t i b p l)
 ·simp only[GH.put]at l n;split at l<;>split at n
  ·grind
  ·grind
  ·grind
  ·rename_i M N;exact k.inj t i u j b (z t i b M l) (z u j b N n)
 ·simp only[GH.put]at l;split at l
  ·obtain⟨A,D⟩|⟨t,j,x⟩:=J i b l
   ·have:=k.k_lt _ H;omega
   ·exact k.k_bl t j b x H
  ·rename_i p;exact k.k_bl t i b (z t i b p l) H
theorem WZ{ts:List Nat}{u i b:Nat}(d:YU h ts u i=some b):h.bl u i=some b/\u∉ts:=by
 simp_all[YU]
theorem Ga{ts:List Nat}{u:Nat}(d:u∉ts):YU h ts u=h.bl u:=by
 grind [YU]
theorem S5(k:Below B w w')(j:∀b,b<w.heap.size->(∀p∈ps,∀i,h.bl p i≠some b)->w'.heap[b]?=w.heap[b]?){d:Nat}{f:Nat->Option Nat}{ts:List Nat}
  (r:d∈ps) (n:∀t∈ts,t∈ps/\t∈rb) (x:d∉rb->f 0=h.bl d 0):Step B ps rb [] w w' h (h.put d f (YU h ts)):=by
 refine⟨k,j,λ_ k=>k,λt l _=> ?_,λt l=> ?_,λ_ _ _ _ u=>(by simp at u),rfl⟩
 ·have q:t≠d:=λe=>l (e▸r);simp only[GH.put,if_neg q]
  grind [Ga]
 ·simp only[GH.put];split
  ·simp_all
  ·rw[Ga λe=>l (n t e).2]
theorem Step.after(h2:Step B ps rb [] w w' (h.thaw fz) h'):Step B ps rb fz w w' h h':=by
 have j:∀p i b,(h.thaw fz).bl p i=some b->h.bl p i=some b:=by
  intro p i b d;simp only[GH.thaw]at d;split at d
  ·cases d
  ·exact d
 refine⟨h2.below,λb d n=>h2.same b d λp q i l=>n p q i (j p i b l),λb d=>h2.F b (.inl d),λt k f=> ?_,λt k=> ?_,λt i b _ f d=>h2.F b (.inr ⟨t,f,i,d⟩),h2.K⟩
 ·rw[h2.bl t k Z1]
  grind [GH.thaw]
 ·rw[h2.fz0 t k];simp[GH.thaw]
structure MPost (c:Ctx) (B:Nat) (G:Nat->Prop) (s:St) (a':Act) (w w':World) (h h':GH) (m:MS):Prop where
 step:Step B m.ps m.rb m.fz w w' h h'
 ok:Ok B G w' h'
 ent:∀t∈ZS m.d,(m.d.at t).1=[]/\((m.d.at t).2.isNo=false->∃u,a'.tmps[t]?=some u/\RelK c.P B s w' h' (λp=>a'.tmps[p]?) t u (m.d.at t).2)
theorem Wq{d:Nat}{k:TK}{ts:List Nat}(l:∃u,a'.tmps[d]?=some u/\RelK c.P B s w' h' (λp=>a'.tmps[p]?) d u k):
  ∀t∈ZS ((d,[],k)::ts.map λt=>(t,([]:ZC),TK.no)),(Gam.at ((d,[],k)::ts.map λt=>(t,([]:ZC),TK.no)) t).1=[]/\
   ((Gam.at ((d,[],k)::ts.map λt=>(t,([]:ZC),TK.no)) t).2.isNo=false->∃u,a'.tmps[t]?=some u/\RelK c.P B s w' h' (λp=>a'.tmps[p]?) t u (Gam.at ((d,[],k)::ts.map λt=>(t,([]:ZC),TK.no)) t).2):=by
 intro t n;simp only[Gam.at];by_cases f:d=t
 ·simp_all
 ·rw[if_neg f]
  have:∀(ts:List Nat),Gam.at (ts.map λt=>(t,([]:ZC),TK.no)) t=([],.no):=by
   intro ts
   induction ts with
   |nil=>rfl
   |cons u ts q=>simp_all[ZdK,Gam.at,ite_self]
  rw[this];exact⟨rfl,λj=>by simp[TK.isNo]at j⟩
theorem VB{d:Nat}(f:d<a.tmps.size)(v:Value):(a.put (some d) v).tmps[d]?=some v:=by
 simp[Act.put,f]
theorem RI{d t:Nat}(f:t≠d)(v:Value):(a.put (some d) v).tmps[t]?=a.tmps[t]? :=by
 simp[Act.put,Zed (Zfu f)]
theorem Ys(s:St)(c:Ctx):holds s (ZI c []):=Vy s
theorem jQ(t:RelG c B G s a w h g){fl:Bool}{x:Operand}{b:E×List Nat}(k:Sv g fl x=some b){z:V}(l:eval s b.1=some z):Rd w (h.thaw b.2).F z (a.eval x):=by
 simp only[Sv,Zdm]at k;obtain⟨n,q,rfl⟩:=k;obtain⟨y,u,f⟩:=V2 t (Ys s c) q;obtain⟨A,d,j⟩:=Rc (fl:=fl) (b:=n) u f ⟨z,l⟩;rw[l]at d;cases d;exact j.mono (Ci λp r=>r)
theorem jR(f:RelG c B G s a w h g){fl ag:Bool}{n:Nat}{x:Operand}{b:E×List Nat}(d:Sv g fl x=some b){z:V}(j:eval s (WK ag n b.1)=some z):
  (∀l,z≠.tup l)/\(ag=true->z.cells.length=n)/\(ag=false->z.one=true)/\Rd w (h.thaw b.2).F z (a.eval x):=by
 grind [q9,jQ]
theorem OwnV.mono{P:Program}{o d:Option Nat}{ty:TypeId}{x:V}{v:Value}(k:OwnV P B w h o ty x v)(f:∀b,h.F b->h'.F b)(j:o=d):OwnV P B w h' d ty x v:=by
 subst j;exact k.keep (.refl _ _) f λ_ _=>rfl
theorem EV(p:RelG c B G s a w h g){ty:TypeId}{d t:Nat}{e:E}{v:Value}(z:d<a.tmps.size)(D:t≠d){y:V}(F:eval s e=some y)(f:OwnV c.P B w h (h.bl t 1) ty y v):
  ∃h',MPost c B G s (a.put (some d) v) w w h h' {d:=[(d,[],.own ty e),(t,[],.no)],ps:=[d,t],rb:=[d,t],fz:=[],es:=[]}:=by
 refine⟨h.put d (λi=>if i=1 then h.bl t 1 else none) (YU h [t]),S5 (ZdZ _ _) (λ_ _ _=>rfl) Z1 (λu q=>by simp at q;grind) (λA=>by simp at A),
  p.ok.put (Zdp _) (λu i b _ k=>(WZ k).1) (λi b k=> ?_) (λi j b l n=> ?_) (λi b u j q l n=> ?_),Wq (ts:=[t]) ⟨v,VB z v,y,F,?_⟩⟩
 ·grind
 ·simp_all
 ·split at l
  ·obtain⟨r,x⟩:=WZ n;exact x (by simp[(p.ok.inj t 1 u j b l r).1])
  ·cases l
 ·exact f.mono (λ_ k=>k) (by simp[GH.put])
theorem Z3u(n:RelG c B G s a w h g){d t:Nat}{cs:List (CK×E)}{v:Value}(H:d<a.tmps.size)(L:t≠d)(I:RelK c.P B s w h (λp=>a.tmps[p]?) t v (.mem cs)):
  ∃h',MPost c B G s (a.put (some d) v) w w h h' {d:=[(d,[],.mem cs),(t,[],.no)],ps:=[d,t],rb:=[d,t],fz:=[],es:=[]}:=by
 obtain⟨b,vs,T,x,rfl,y,z,A⟩:=I
 refine⟨h.put d (λi=>h.bl t i) (YU h [t]),S5 (ZdZ _ _) (λ_ _ _=>rfl) Z1 (λu q=>by simp at q;grind) (λJ=>by simp at J),
  n.ok.put (Zdp _) (λu i b _ f=>(WZ f).1) (λi b f=>.inr ⟨t,i,f⟩) (λi j b k l=>(n.ok.inj t i t j b k l).2) (λi b u j q k l=> ?_),Wq (ts:=[t]) ⟨_,VB H _,b,vs,T,by simp[GH.put,x],rfl,y,z,λi r k=> ?_⟩⟩
 ·obtain⟨D,F⟩:=WZ l;exact F (by simp[(n.ok.inj t i u j b k D).1])
 ·have:=(A i r k).keep (h':=h.put d (λi=>h.bl t i) (YU h [t])) (w':=w) (.refl _ _) (λ_ f=>f) λ_ _=>rfl;simp_all[GH.put]
def GH.yield(h:GH)(d p:Nat):GH:= {F:=λb=>h.F b\/∃i,h.bl p i=some b,bl:=λu i=>if u=p\/u=d then none else h.bl u i,K:=h.K}
theorem Z19(J:RelG c B G s a w h g){d p:Nat}{cs:List (CK×E)}(O:d<a.tmps.size)(Q:p≠d)(D:memOf g p=some cs)(A:Wl cs=false){z:V}(L:eval s (.pt none (cs.map (·.2)))=some z){v:Value}(S:∃b,h.bl p 0=some b/\v=.pointer (some ⟨b,0,none⟩)):
  ∃h',MPost c B G s (a.put (some d) v) w w h h' {d:=[(d,[],.val (.pt none (cs.map (·.2))) []),(p,[],.no)],ps:=[d,p],rb:=[d,p],fz:=[],es:=[.pt none (cs.map (·.2))]}:=by
 obtain⟨b,vs,T,H,_,M,N⟩:=J.memOf D;obtain⟨X,n,rfl⟩:=S;rw[H]at n;cases n;have f:=J.ok
 have l:∀u i x,(h.yield d p).bl u i=some x->h.bl u i=some x/\u≠p:=by
  intro u i x hx;simp only[GH.yield]at hx;split at hx
  ·cases hx
  ·simp_all
 refine⟨h.yield d p,⟨ZdZ _ _,λ_ _ _=>rfl,λb k=>.inl k,λt R _=> ?_,λt R=> ?_,λ_ _ _ _ D=>(by simp at D),rfl⟩,⟨f.base,λb k=> ?_,λb k=> ?_,λb k=>.inl (f.g_F b k),λt i b k=> ?_,λt i u j b k y=>f.inj t i u j b (l _ _ _ k).1 (l _ _ _ y).1,f.k_lt,λt i b k=>f.k_bl t i b (l _ _ _ k).1,λb k=> ?_⟩,
  Wq (ts:=[p]) ⟨_,VB O _,z,L,JV H M N A L (λb k=>.inl (.inl k)) λi b k=>.inl (.inr ⟨i,k⟩)⟩⟩
 ·simp_all[ZdG,ZeG,Zgb,not_or,GH.yield]
 ·simp_all[ZdG,ZeG,Zgb,not_or,GH.yield]
 ·obtain k|⟨i,r⟩:=k
  ·exact f.f_lt b k
  ·exact(f.b_lt p i b r).2.1
 ·obtain k|⟨i,r⟩:=k
  ·exact f.f_or b k
  ·exact .inr (f.b_lt p i b r).1
 ·obtain⟨q,F⟩:=l _ _ _ k;obtain⟨U,W,Y⟩:=f.b_lt t i b q;refine⟨U,W,λI=> ?_⟩;obtain I|⟨j,P⟩:=I
  grind
  ·exact F (f.inj t i p j b q P).1
 ·obtain k|⟨i,r⟩:=k
  ·exact f.k_F b k
  ·exact .inr (f.k_bl p i b r)
theorem Gh(r:RelG c B G s a w h g){ty:TypeId}{d:Nat}{x:Operand}{m:MS}(O:d<a.tmps.size)(f:zn c g ty d x=some m)(H:∀e∈m.es,∃z,eval s e=some z):
  ∃h',MPost c B G s (a.put (some d) (a.eval x)) w w h h' m:=by
 unfold zn at f;split at f
 ·rename_i t U e A;split at f
  ·cases f
  ·rename_i F;have T:t≠d:=λe=>F (.inl e);simp only[Zdj]at f;subst f;obtain⟨v,M,⟨y,Y,J⟩,_⟩:=r.look (Ys s c) (show look g [] t=_ from A) rfl
   grind [Act.eval_tmp,EV]
 ·rename_i t W A;split at f
  ·cases f
  ·rename_i F;have T:t≠d:=λe=>F (.inl e);simp only[Zdj]at f;subst f;obtain⟨v,M,q,_⟩:=r.look (Ys s c) (show look g [] t=_ from A) rfl
   grind [Act.eval_tmp,Z3u]
 ·rename_i t p A;split at f
  ·rename_i k;simp only[Zdn,Zgy,ne_eq]at k;simp only[Zdi]at f;obtain⟨W,Q,f⟩:=f;split at f
   ·cases f
   ·rename_i X;simp only[Zdj]at f;subst f;obtain⟨z,N⟩:=H _ (List.Mem.head _);obtain⟨v,M,q,_⟩:=r.look (Ys s c) (show look g [] t=_ from A) rfl;rw[Act.eval_tmp a t v M];exact Z19 r O k.2 Q Zcq N q
  ·cases f
 ·rename_i A;simp only[Zdj]at f;subst f;rw[QQ r (Ys s c) A]
  exact⟨h.put d (λ_=>none) (YU h []),S5 (ZdZ _ _) (λ_ _ _=>rfl) Z1 (λu L=>by simp at L) (λR=>by simp at R),
   r.ok.put (Zdp _) (λu i b _ n=>(WZ n).1) (λi b n=>by cases n) (λi j b D P=>by cases D) (λi b u j L D P=>by cases D),Wq (ts:=[]) ⟨_,VB O _,rfl⟩⟩
 ·split at f
  ·rename_i p U e l;simp only[Zdj]at f;subst f;unfold EU at l;split at l
   ·rename_i Z A;split at l
    ·rename_i k;simp only[Zdn,Zgy,ne_eq]at k;simp only[Zdm,Zdx]at l;obtain⟨⟨q1,q2⟩,l,rfl,rfl,rfl⟩:=l;obtain⟨v,M,y,Y,J⟩:=r.ownOf l;have q:a.tmps[Z]?=some (a.eval _):=XG r (Ys s c) A rfl 0
     grind [Option.some.injEq,EV]
    grind
   grind
  ·simp only[Zdm]at f;obtain⟨b,n,rfl⟩:=f;obtain⟨z,N⟩:=H b.1 Z1;have S:=jQ r n N;obtain⟨I,_⟩:=KT r.ok b.2
   exact⟨(h.thaw b.2).put d (λ_=>none) (YU (h.thaw b.2) []),Step.after (S5 (ZdZ _ _) (λ_ _ _=>rfl) Z1 (λu L=>by simp at L) (λR=>by simp at R)),
    I.put (Zdp _) (λu i b _ n=>(WZ n).1) (λi b n=>by cases n) (λi j b D P=>by cases D) (λi b u j L D P=>by cases D),Wq (ts:=[]) ⟨_,VB O _,z,N,S.mono λb n=>GH.ext_F n⟩⟩
def WH(d:Array Value)(o:Nat)(new:Array Value):Array Value:=(d.toList.take o++new.toList++d.toList.drop (o+new.size)).toArray
theorem BF{d new:Array Value}{o:Nat}(f:o+new.size<=d.size):(WH d o new).size=d.size:=by
 grind [WH]
theorem BE{d new:Array Value}{o:Nat}(f:o+new.size<=d.size){i:Nat}(j:i<new.size):(WH d o new).getD (o+i) undef=new.getD i undef:=by
 simp only[WH,Zdo,Zfo]
 grind
theorem yA{d new:Array Value}{o:Nat}(f:o+new.size<=d.size){i:Nat}(j:i<o\/o+new.size<=i):(WH d o new).getD i undef=d.getD i undef:=by
 simp only[WH,Zdo,Zfo]
 grind
theorem BK{P:Program}{T:TypeId}(q:X4 P T=true){b o:Nat}{f:Array Value}{ty:TypeId}(r:w.heap[b]?=some (.cells f ty (0,0))){v:Value}(D:v.cells.size=P.cellsOf T)(k:∀(i:Nat),i<v.cells.size->(v.cells.getD i undef).oneCell'=true)(t:o+v.cells.size<=f.size):
  (Instr.storeAt T (.pointer (some ⟨b,o,none⟩)) v).run P w=.ok () (w.setRow b (WH f o v.cells)):=by
 obtain⟨d,i,z,A,F,_⟩:=VW q
 have x:=run_storeCells_at (P:=P) b o ty v.cells.toList 0 f w r Z0 (λu y=>by
  obtain⟨j,l⟩:=ZdM y;have n:j<v.cells.size:=by simpa using(Zdl.1 l).1
  have:=k j n
  have p:v.cells.getD j undef=u:=by
   simp only[Zdo];rw[ZeE]at l;rw[l];rfl
  simp_all)
 simp_all[Zfq,ZfA,Instr.storeAt,Instr.sureAddr,storeVar,U1,WH]
theorem below_setRow(w:World){b:Nat}(d:B<=b)(cs:Array Value):Below B w (w.setRow b cs):=
 ⟨rfl,rfl,rfl,Z1,λk f=>Zf7 w b k cs Z0⟩
theorem BP(f:Ok B G w h){b:Nat}(cs:Array Value){G':Nat->Prop}(d:∀x,G' x->x≠b):Same G' w (w.setRow b cs):=λx hx=>Zf7 w b x cs (d x hx)
theorem yJ{cs new:List (CK×E)}{o:Nat}(j:o+new.length<=cs.length):(J0 cs o new).length=cs.length/\∀(i:Nat) (d:CK×E),(J0 cs o new)[i]?=some d->(o<=i/\i<o+new.length/\new[i-o]?=some d)\/((i<o\/o+new.length<=i)/\cs[i]?=some d):=by
 unfold J0;refine⟨Zcr,λi d f=> ?_⟩;by_cases k:i<o
 ·grind
 ·by_cases l:i<o+new.length
  ·grind
  ·right;rw[ZdI Zcr,ZdW]at f
   grind
theorem Ng(k:Ok B G w h){p o b:Nat}{cs new:List (CK×E)}{l row:Array Value}{ty:TypeId}(z:h.bl p 0=some b)(hh:w.heap[b]?=some (.cells l ty (0,0)))(D:RelCs c.P B s w h p cs l)
  (a1:row.size=l.size) (Z:o+new.length<=cs.length) (Q:∀i,i<o\/o+new.length<=i->row.getD i undef=l.getD i undef) {ts:List Nat} {f:Nat->Option Nat} (a4:p∉ts)
  (H:f 0=h.bl p 0) (n:∀i,i<o\/o+new.length<=i->f (i+1)=h.bl p (i+1)) (J:∀i x,i<new.length->f (o+i+1)=some x->h.bl p (o+i+1)=some x\/∃t∈ts,∃j,h.bl t j=some x)
  (N:∀i j x,f i=some x->f j=some x->i=j)
  (O:∀(i:Nat) (q:CK×E),new[i]?=some q->RelC c.P B s w h (f (o+i+1)) q.1 q.2 (row.getD (o+i) undef)) (tm:Nat->Option Value):
  ∃h',Ok B G (w.setRow b row) h'/\Step B (p::ts) ts [] w (w.setRow b row) h h'/\
   RelK c.P B s (w.setRow b row) h' tm p (.pointer (some ⟨b,0,none⟩)) (.mem (J0 cs o new)):=by
 obtain⟨W,a2,X⟩:=k.b_lt p 0 b z;obtain⟨a0,L⟩:=yJ Z;have y:Same h.F w (w.setRow b row):=BP k _ λx hx e=>X (e▸hx)
 have I:∀i x,f (i+1)=some x->x≠b/\((h.bl p (i+1)=some x)\/∃t∈ts,∃j,h.bl t j=some x):=by
  intro i x hx
  have r:h.bl p (i+1)=some x\/∃t∈ts,∃j,h.bl t j=some x:=by
   by_cases a3:o<=i/\i<o+new.length
   ·have:=J (i-o) x Z0
    grind
   ·grind
  refine⟨λe=> ?_,r⟩;subst e;obtain r|⟨t,R,j,hj⟩:=r
  ·grind
  ·grind
 refine⟨h.put p f (YU h ts),k.put Z1 (λu i x _ hx=>(WZ hx).1) (λi x hx=>.inr ?_) N (λi x u j hu M hj=> ?_),
  S5 (below_setRow w W _) (λx hx hn=>Zf7 w b x _ λe=>hn p Z1 0 (e▸z)) Z1 (λt R=>⟨by simp[R],R⟩) (λ_=>H),b,row,ty,by grind [GH.put],rfl,Zhy w b l _ ty (0,0) hh,by rw[a1,D.1,a0],λi q M=> ?_⟩
 ·cases i with
  |zero=>grind
  |succ i=>
   grind
 ·obtain⟨k1,k2⟩:=WZ hj;cases i with
  |zero=>rw[H]at M;exact hu (k.inj u j p 0 x k1 M).1
  |succ i=>
   rcases(I i x M).2 with r|⟨t,R,j',Y⟩
   ·exact hu (k.inj u j p (i+1) x k1 r).1
   ·exact k2 ((k.inj u j t j' x k1 Y).1▸R)
 ·have A:(h.put p f (YU h ts)).bl p (i+1)=f (i+1):=by simp[GH.put]
  rw[A];have d:∀x,f (i+1)=some x->(w.setRow b row).heap[x]?=w.heap[x]? :=λx hx=>Zf7 w b x _ (I i x hx).1;obtain⟨S,r,T⟩|⟨S,T⟩:=L i q M
  ·have:=O (i-o) q T;rw[show o+(i-o)=i from by omega]at this;exact this.keep y (λ_ U=>U) d
  ·have:=D.2 i q T;rw[Q i S,n i S];rw[n i S]at d;exact this.keep y (λ_ U=>U) d
theorem Ko{p o:Nat}{new:List (CK×E)}{k:TK}(f:Ud g p o new=some k):∃d,memOf g p=some d/\o+new.length<=d.length/\k=.mem (J0 d o new):=by
 grind [Ud,Option.bind_eq_some_iff,Option.some.injEq]
theorem KR(R:RelG c B G s a w h g){T:TypeId}(S:X4 c.P T=true){p o b:Nat}{new:List (CK×E)}{k:TK}(W:Ud g p o new=some k)(r:h.bl p 0=some b){v:Value}(J:v.cells.size=c.P.cellsOf T)(l:new.length=c.P.cellsOf T)
  {ts:List Nat} {f:Nat->Option Nat} (L:p∉ts) (I:f 0=h.bl p 0) (n:∀i,i<o\/o+new.length<=i->f (i+1)=h.bl p (i+1)) (z:∀i x,i<new.length->f (o+i+1)=some x->h.bl p (o+i+1)=some x\/∃t∈ts,∃j,h.bl t j=some x)
  (A:∀i j x,f i=some x->f j=some x->i=j)
  (F:∀(i:Nat) (H:CK×E),new[i]?=some H->RelC c.P B s w h (f (o+i+1)) H.1 H.2 (v.cells.getD i undef)):
  ∃w' h',(Instr.storeAt T (.pointer (some ⟨b,o,none⟩)) v).run c.P w=.ok () w'/\Ok B G w' h'/\Step B (p::ts) ts [] w w' h h'/\∃u,a.tmps[p]?=some u/\RelK c.P B s w' h' (λp=>a.tmps[p]?) p u k:=by
 obtain⟨cs,U,D,rfl⟩:=Ko W;obtain⟨b',q,ty,N,M,O,y⟩:=R.memOf U;rw[r]at N;cases N;have d:o+v.cells.size<=q.size:=by rw[y.1,J,<-l];exact D
 have X:v.cells.size=new.length:=by rw[J,l]
 obtain⟨h',k1,Y,Z⟩:=Ng (row:=WH q o v.cells) R.ok r O y (BF d) D (λi Q=>yA d Z0) L I n z A (λi H Q=>by
  grind [BE,List.getElem?_eq_some_iff]) (λp=>a.tmps[p]?)
 refine⟨_,h',BK S O J (λi Q=> ?_) d,k1,Y,_,M,Z⟩;exact(F i new[i] (Zdk Z0)).cell
theorem Z7E{n:Nat}{e:E}{z:V}{v:Value}(x:eval s e=some z)(u:∀l,z≠.tup l)(k:Rd w h.F z v)(o:Option Nat){i:Nat}{f:CK×E}(j:i<z.cells.length)(r:f=(CK.fz,E.fld e i)):RelC c.P B s w h o f.1 f.2 (v.cells.getD i undef):=by
 subst r;obtain⟨t,p,q⟩:=k.cells u;have d:z.cells[i]?=some z.cells[i]:=Zdk j;refine⟨z.cells[i],?_,p _ (ZdA _),q i _ d⟩;simp_all[eval,Zdt,ZZ,Iw,YR,if_pos,ZdA]
theorem IZ{β:Type}{n i:Nat}{f:Nat->β}{y:β}(d:((List.range n).map f)[i]?=some y):i<n/\y=f i:=by
 grind
theorem Gl(r:RelG c B G s a w h g){T:TypeId}(Z:X4 c.P T=true)(a5:Y5 c.P T=true\/c.P.cellsOf T=1){p o:Nat}{x:Operand}{m:MS}(u:zt c g T p o x=some m)(a2:∀e∈m.es,∃z,eval s e=some z){b:Nat}(N:h.bl p 0=some b):
  ∃w' h',(Instr.storeAt T (.pointer (some ⟨b,o,none⟩)) (a.eval x)).run c.P w=.ok () w'/\MPost c B G s a w w' h h' m:=by
 have H:∀fz,(h.thaw fz).bl p 0=some b:=λfz=>by simp[GH.thaw,N]
 unfold zt at u;simp only at u;split at u
 ·rename_i a0;split at u
  ·rename_i t cs hk;split at u
   ·rename_i D;obtain⟨hl,F,_⟩:=D;simp only[Zdm]at u;obtain⟨k,q,rfl⟩:=u;obtain⟨v,hv,⟨vs,rfl,a1⟩,_⟩:=r.look (Ys s c) (show look g [] t=_ from hk) rfl;rw[Act.eval_tmp a t _ hv]
    obtain⟨w',h',I,J,L,M⟩:=KR r Z q N (v:=.agg vs) (by show vs.size=_;rw[a1.1,hl]) hl (ts:=[t]) (f:=λi=>if o+1<=i/\i<o+1+cs.length then h.bl t (i-o)else h.bl p i) (by simpa using Zfu F)
     (if_neg Z0) (λi d=>if_neg Z0) (λi x d hx=>.inr ⟨t,Z1,_,by rw[if_pos Z0]at hx;exact hx⟩) (λi j x d A=>by
      split at d<;>split at A
      ·have:=(r.ok.inj t _ t _ x d A).2;omega
      ·exact absurd (r.ok.inj t _ p _ x d A).1 F
      ·exact absurd (r.ok.inj t _ p _ x A d).1 F
      ·exact(r.ok.inj p _ p _ x d A).2)
     (λi Y d=>by
      have a3:=(Zdl.1 d).1;rw[if_pos Z0,show o+i+1-o=i+1 from by omega];exact a1.2 i Y d)
    exact⟨w',h',I,L,J,Wq (ts:=[t]) M⟩
   ·cases u
  ·simp only[Zdi,Zdm]at u;obtain⟨R,S,k,q,rfl⟩:=u;obtain⟨z,hz⟩:=a2 _ (List.Mem.head _);obtain⟨k1,k2,k3,k4⟩:=jR r S hz;obtain⟨O,a6,U⟩:=k4.cells k1
   obtain⟨w',h',I,J,L,M⟩:=KR (r.frz R.2) Z q (H _) (O.trans (k2 rfl)) Z1 (ts:=[]) (f:=(h.thaw R.2).bl p) Z1 rfl (λ_ _=>rfl) (λi x _ hx=>.inl hx)
    (λi j x d A=>((KT r.ok R.2).1.inj p i p j x d A).2) (λi Y d=>by
     obtain⟨a3,rfl⟩:=IZ d;exact Z7E (n:=0) hz k1 k4 _ (by rw[k2 rfl];exact a3) rfl)
   exact⟨w',h',I,L.after,J,Wq (ts:=[]) M⟩
 ·rename_i a0;have X:c.P.cellsOf T=1:=a5.resolve_left a0;split at u
  ·rename_i t ty e hk;split at u
   ·rename_i D;obtain⟨F,_⟩:=D;simp only[Zdm]at u;obtain⟨k,q,rfl⟩:=u;obtain⟨v,hv,⟨y,hy,Q⟩,_⟩:=r.look (Ys s c) (show look g [] t=_ from hk) rfl;rw[Act.eval_tmp a t _ hv]
    have a4:v.cells=#[v]:=by
     obtain⟨l,xs,_,_,_,⟨_,hc⟩,_⟩|⟨_,_,_,_,_,_,_,rfl,_⟩:=Q
     ·obtain⟨rfl,_⟩|⟨_,_,_,rfl,_⟩:=hc<;>rfl
     ·rfl
    obtain⟨w',h',I,J,L,M⟩:=KR r Z q N (v:=v) (by rw[a4,X];rfl) (by rw[X];rfl) (ts:=[t]) (f:=λi=>if i=o+1 then h.bl t 1 else h.bl p i) (by simpa using Zfu F)
     (if_neg Z0) (λi d=>if_neg (by simp only[ZeU]at d;omega)) (λi x d hx=>.inr ⟨t,Z1,1,by simp only[ZeU]at d;rw[if_pos Z0]at hx;exact hx⟩) (λi j x d A=>by
      split at d<;>split at A
      ·omega
      ·exact absurd (r.ok.inj t _ p _ x d A).1 F
      ·exact absurd (r.ok.inj t _ p _ x A d).1 F
      ·exact(r.ok.inj p _ p _ x d A).2)
     (λi Y d=>by
      cases i with
      |zero=>simp at d;subst d;rw[if_pos Z0,a4];exact⟨y,hy,Q⟩
      |succ i=>simp at d)
    exact⟨w',h',I,L,J,Wq (ts:=[t]) M⟩
   ·cases u
  ·rename_i hk;simp only[Zdm]at u;obtain⟨k,q,rfl⟩:=u;rw[QQ r (Ys s c) hk]
   obtain⟨w',h',I,J,L,M⟩:=KR r Z q N (v:=.slice none 0 0) (by rw[X];rfl) (by rw[X];rfl) (ts:=[]) (f:=h.bl p) Z1 rfl (λ_ _=>rfl) (λi x _ hx=>.inl hx)
    (λi j x d A=>(r.ok.inj p i p j x d A).2) (λi Y d=>by
     cases i with
     |zero=>simp at d;subst d;exact⟨rfl,rfl⟩
     |succ i=>simp at d)
   exact⟨w',h',I,L,J,Wq (ts:=[]) M⟩
  ·simp only[Zdi,Zdm]at u;obtain⟨R,S,k,q,rfl⟩:=u;obtain⟨z,hz⟩:=a2 _ (List.Mem.head _);obtain⟨a7,W⟩:=GR hz;have k4:=jQ r S a7;obtain⟨O,a6,U⟩:=k4.cells (GS W);rw[T9 W]at O U
   obtain⟨w',h',I,J,L,M⟩:=KR (r.frz R.2) Z q (H _) (O.trans (by rw[X];rfl)) (by rw[X];rfl) (ts:=[]) (f:=(h.thaw R.2).bl p) Z1 rfl (λ_ _=>rfl) (λi x _ hx=>.inl hx)
    (λi j x d A=>((KT r.ok R.2).1.inj p i p j x d A).2) (λi Y d=>by
     cases i with
     |zero=>simp at d;subst d;exact⟨z,hz,W,U 0 z rfl⟩
     |succ i=>simp at d)
   exact⟨w',h',I,L.after,J,Wq (ts:=[]) M⟩
end
end Vm
namespace Vm
open Go
open Go.RowKit (Below)
theorem MO{cs b:List V}{o:Nat}(f:o+b.length<=cs.length):(setCells cs o b).length=cs.length/\(∀i,i<b.length->(setCells cs o b)[o+i]?=b[i]?)/\∀i,i<o\/o+b.length<=i->(setCells cs o b)[i]?=cs[i]? :=by
 unfold setCells;refine⟨Zcr,λi d=> ?_,λi d=> ?_⟩
 ·grind
 ·obtain d|d:=d
  ·grind
  ·rw[ZdI Zcr,ZdW]
   grind
theorem Z6C{cs b:List V}{o:Nat}{x:V}(hx:x∈setCells cs o b):x∈cs\/x∈b:=by
 grind [setCells,List.mem_of_mem_take,List.mem_of_mem_drop]
theorem Z5h{y:V}{k o:Nat}{b:List V}(F:y.fits k)(N:∀x∈b,x.one=true)(A:b≠[])(d:o+b.length<=y.cells.length):
  (y.put o b).fits k/\(∀i,i<b.length->(y.put o b).cells[o+i]?=b[i]?)/\∀i,i<o\/o+b.length<=i->(y.put o b).cells[i]?=y.cells[i]? :=by
 have other:y.cells=[y]->y.put o b=b.headD y->(y.put o b).fits k/\(∀i,i<b.length->(y.put o b).cells[o+i]?=b[i]?)/\∀i,i<o\/o+b.length<=i->(y.put o b).cells[i]?=y.cells[i]? :=by
  intro H t;have q:y.cells.length=1:=by rw[H];rfl
  match b,A,d with
  | [z],_,d=>
    simp only[ZeU]at d;have P:o=0:=Z0;subst P;have I:=N z Z1;have D:y.put 0 [z]=z:=by rw[t];rfl
    rw[D];refine⟨⟨by rw[T9 I,<-F.1,q];rfl,λc j=>by simp_all[T9]⟩,λi O=> ?_,λi O=> ?_⟩
    ·have:i=0:=Zcp;subst this;rw[T9 I]
    simp_all[T9,Zeq]
  |z::R::r,_,d=>grind
 cases y with
 |agg u=>
  have p:o+b.length<=u.length:=d;obtain⟨J,L,M⟩:=MO p;refine⟨⟨by show(setCells u o b).length=k;rw[J];exact F.1,λc j=> ?_⟩,L,M⟩;obtain j|j:=Z6C (show c∈setCells u o b from j)
  ·exact F.2 c j
  simp_all
 |tup l=>exact other rfl rfl
 |int k n=>exact other rfl rfl
 |bool v=>exact other rfl rfl
 |str v=>exact other rfl rfl
 |sl l=>exact other rfl rfl
 |ptr l=>exact other rfl rfl
 |fn f=>exact other rfl rfl
 |clo f u=>exact other rfl rfl
 |nul k=>exact other rfl rfl
 |mp id ks Q=>exact other rfl rfl
theorem Nw{x i z u:V}{o:Nat}(d:SQ x i o z=some u):∃l f q y,x=.sl l/\i=.int f (q:Nat)/\l[q]?=some y/\o+z.cells.length<=y.cells.length/\z.cells≠[]/\u=.sl (l.set q (y.put o z.cells)):=by
 unfold SQ at d;split at d
 ·rename_i l f i;split at d
  ·rename_i k;obtain⟨q,rfl⟩:=Zdz k;rw[ZdF,Zdi]at d;obtain⟨y,n,d⟩:=d;split at d
   ·rename_i j;simp only[Zdj]at d;exact⟨l,f,q,y,rfl,rfl,n,j.1,j.2,d.symm⟩
   grind
  grind
 grind
section
variable {c:Ctx}{B:Nat}{G:Nat->Prop}{s:St}{a a':Act}{w w':World}{h h':GH}{g:Gam}{C:ZC}{fz ps rb:List Nat}
theorem OwnV.store(U:Ok B G w h){p i n:Nat}{ty:TypeId}{x u:V}{v:Value}(hv:OwnV c.P B w h (h.bl p i) ty x v)(O:h.bl p i=some n){ki:IntKind}{q off:Nat}{z:V}(hu:SQ x (.int ki (q:Nat)) off z=some u)
  {T:TypeId} (hT:X4 c.P T=true) {H:Value} (c0:∀l,z≠.tup l) (b9:Rd w h.F z H) (e3:z.cells.length=c.P.cellsOf T):
  ∃row,(Instr.storeAt T (.pointer (some ⟨n,q*c.P.cellsOf ty+off,none⟩)) H).run c.P w=.ok () (w.setRow n row)/\OwnV c.P B (w.setRow n row) h (h.bl p i) ty u v:=by
 obtain⟨l,xs,rfl,h0,R,X,J,b1⟩|⟨_,_,_,_,_,_,rfl,_⟩:=hv
 case inr=>grind [Nw]
 obtain⟨l',e4,f,y,a4,a9,hy,S,a7,rfl⟩:=Nw hu;cases a4;simp only[V.int.injEq]at a9;have b0:f=q:=Z0;subst b0;obtain⟨d9,c1,a6⟩:=U.b_lt p i n O;obtain⟨Z,b4,a0⟩:=b9.cells c0;have a2:=R y (Zdr hy);obtain⟨f1,f2,f3⟩:=Z5h a2 (λx hx=>b4 x hx) a7 S;have hq:f<l.length:=(Zdl.1 hy).1;have e0:f*c.P.cellsOf ty+c.P.cellsOf ty<=l.length*c.P.cellsOf ty:=by rw[<-ZeJ];exact Ze0 _ hq
 rw[a2.1]at S;obtain⟨rfl,hn⟩|⟨M,cap,d,rfl,hB,hh,a5,Q,b5,b6⟩:=X.2
 ·omega
 ·have a8:M=n:=by
   have:Value.ownBlock (.slice (some ⟨M,0,none⟩) l.length cap)=some M:=rfl;rw[this,O]at J;cases J;rfl
  subst a8;have d6:l.length*c.P.cellsOf ty<=d.size:=by rw[b5];exact Ze0 _ a5
  have t:(f*c.P.cellsOf ty+off)+H.cells.size<=d.size:=by rw[Z];omega
  refine⟨WH d (f*c.P.cellsOf ty+off) H.cells,BK hT hh Z0 (λj hj=> ?_) t,?_⟩
  ·have a3:j<z.cells.length:=by rw[<-Z];exact hj
   have:=a0 j z.cells[j] (Zdk a3);rw[this.one_eq];simp_all
  ·have A:∀x∈l.set f (y.put off z.cells),x.fits (c.P.cellsOf ty):=by
    intro x hx;obtain hx|rfl:=Zf3 hx
    ·simp_all
    ·exact f1
   have N:Same h.F w (w.setRow M (WH d (f*c.P.cellsOf ty+off) H.cells)):=BP U _ λx hx e=>a6 (e▸hx);have b2:=BF t;refine .inl ⟨l.set f (y.put off z.cells),(WH d (f*c.P.cellsOf ty+off) H.cells).toList.take (l.length*c.P.cellsOf ty),rfl,h0,A,⟨Zcq,.inr ⟨M,cap,_,Z1,hB,Zhy w M d _ ty (0,0) hh,Zcq,Q,Z0,Z1⟩⟩,J,λj ck hj=> ?_⟩;obtain⟨k,r,y2,I,hr,rfl,b8⟩:=jf A h0 hj;have Y:k<l.length:=by simpa using(Zdl.1 I).1
   have d0:k*c.P.cellsOf ty+c.P.cellsOf ty<=l.length*c.P.cellsOf ty:=by rw[<-ZeJ];exact Ze0 _ Y
   have d8:k*c.P.cellsOf ty+r< (WH d (f*c.P.cellsOf ty+off) H.cells).size:=by rw[b2];omega
   refine⟨(WH d (f*c.P.cellsOf ty+off) H.cells).getD (k*c.P.cellsOf ty+r) undef,?_,?_⟩
   ·rw[ZdY,if_pos Z0,ZeE];simp_all
   ·
    have e5:∀y0,l[k]?=some y0->y0.cells[r]?=some ck->(k*c.P.cellsOf ty+r<f*c.P.cellsOf ty+off\/f*c.P.cellsOf ty+off+H.cells.size<=k*c.P.cellsOf ty+r)->
      Rd (w.setRow M (WH d (f*c.P.cellsOf ty+off) H.cells)) h.F ck ((WH d (f*c.P.cellsOf ty+off) H.cells).getD (k*c.P.cellsOf ty+r) undef):=by
     intro y0 e1 e2 W;obtain⟨u0,a1,b3⟩:=b1 (k*c.P.cellsOf ty+r) ck (by simp_all[Vu]);rw[yA t W]
     have:d.getD (k*c.P.cellsOf ty+r) undef=u0:=by
      rw[<-b6,ZdY,if_pos Z0]at a1;have b7:d[k*c.P.cellsOf ty+r]?=some u0:=by simpa using a1
      simp[Zdo,b7]
     rw[this];exact b3.keep N λ_ J=>J
    by_cases L:k=f
    ·subst L;rw[ZfF hq]at I;cases I;by_cases d7:off<=r/\r<off+z.cells.length
     ·have h2:=f2 (r-off) Z0;rw[show off+(r-off)=r from by omega,b8]at h2;have h3:=BE t (i:=r-off) Z0;rw[show k*c.P.cellsOf ty+off+(r-off)=k*c.P.cellsOf ty+r from by omega]at h3;rw[h3];exact(a0 (r-off) ck h2.symm).keep N λ_ J=>J
     grind
    ·rw[ZeW (Zfu L)]at I
     have d5:k*c.P.cellsOf ty+c.P.cellsOf ty<=f*c.P.cellsOf ty\/f*c.P.cellsOf ty+c.P.cellsOf ty<=k*c.P.cellsOf ty:=by
      obtain D|D:=Zg9 L
      ·left;rw[<-ZeJ];exact Ze0 _ D
      ·right;rw[<-ZeJ];exact Ze0 _ D
     grind
theorem Z3q(hr:RelG c B G s a w h g){T:TypeId}(hT:X4 c.P T=true)(b6:Y5 c.P T=true\/c.P.cellsOf T=1){p off kk:Nat}{i:Option Nat}{j:E}{x:Operand}{m:MS}(r:Ag c g T p i j off kk x=some m)(a1:∀e∈m.es,∃z,eval s e=some z)
  {n q:Nat} (a0:h.bl p (SJ i)=some n) {ki:IntKind} (hj:eval s j=some (.int ki (q:Nat))):
  ∃w' h',(Instr.storeAt T (.pointer (some ⟨n,q*kk+off,none⟩)) (a.eval x)).run c.P w=.ok () w'/\MPost c B G s a w w' h h' m:=by
 unfold Ag at r;simp only[Zdi]at r;obtain⟨Q,a6,r⟩:=r;split at r
 ·cases r
 ·rename_i b1;have a4:p∉Q.2:=by simpa using b1
  have U:∀i,(h.thaw Q.2).bl p i=h.bl p i:=λi=>by simp[GH.thaw,a4]
  have d:=hr.frz Q.2
  have N:∀ {e1 e2:E} {u:V},eval s (.upd e1 j off e2)=some u->∃y z,eval s e1=some y/\eval s e2=some z/\SQ y (.int ki (q:Nat)) off z=some u:=by
   intro e1 e2 u O;simp only[eval,hj,Zdt,Zdi]at O;obtain⟨y,hy,z,Z,O⟩:=O;exact⟨y,z,hy,Z,O⟩
  have zs:∀ {z:V},eval s (WK (Y5 c.P T) (c.P.cellsOf T) Q.1)=some z->(∀l,z≠.tup l)/\Rd w (h.thaw Q.2).F z (a.eval x)/\z.cells.length=c.P.cellsOf T:=by
   intro z Z;obtain⟨k1,k2,k3,k4⟩:=jR hr a6 Z;refine⟨k1,k4,?_⟩;cases b7:Y5 c.P T with
   |true=>grind
   |false=>
    simp_all[T9]
  split at r
  ·simp only[Zdi]at r;obtain⟨⟨ty,e⟩,ho,r⟩:=r;split at r
   ·rename_i R;simp only[Zdj]at r;subst r;simp only at R;subst R;obtain⟨v,hv,y,hy,H⟩:=d.ownOf ho;obtain⟨u,O⟩:=a1 _ (List.Mem.head _);obtain⟨y',z,M,Z,L⟩:=N O;rw[hy]at M;cases M;obtain⟨k1,k2,k3⟩:=zs Z;have f:(h.thaw Q.2).bl p 1=some n:=by rw[U];exact a0
    obtain⟨row,J,I⟩:=H.store d.ok f L hT k1 k2 k3;obtain⟨Y,a3,_⟩:=d.ok.b_lt p 1 n f
    refine⟨_,h.thaw Q.2,J,Step.after ⟨below_setRow w Y _,λx hx hn=>Zf7 w n x _ λe=>hn p Z1 1 (e▸f),λ_ A=>A,λ_ _ _=>rfl,λ_ _=>rfl,λ_ _ _ _ r=>(by simp at r),rfl⟩,
     ⟨by simp;exact d.ok.base,λb A=>(by simp;exact d.ok.f_lt b A),d.ok.f_or,d.ok.g_F,λt i b A=>(by simp;exact d.ok.b_lt t i b A),d.ok.inj,λb A=>(by simp;exact d.ok.k_lt b A),d.ok.k_bl,d.ok.k_F⟩,Wq (ts:=[]) ⟨v,hv,u,O,I⟩⟩
   ·cases r
  ·rename_i q0;simp only[Zdi]at r;obtain⟨cs,W,r⟩:=r;split at r
   ·rename_i ty e0 hc;split at r
    ·rename_i R;subst R;simp only[Zdm]at r;obtain⟨k,a5,rfl⟩:=r;obtain⟨b5,D,a8,rfl⟩:=Ko a5;rw[W]at D;cases D;obtain⟨b,vs,b4,S,b3,hh,X⟩:=d.memOf W;obtain⟨y,hy,H⟩:=X.2 q0 _ hc;obtain⟨u,O⟩:=a1 _ (List.Mem.head _);obtain⟨y',z,M,Z,L⟩:=N O;rw[hy]at M;cases M;obtain⟨k1,k2,k3⟩:=zs Z;have f:(h.thaw Q.2).bl p (q0+1)=some n:=by rw[U];exact a0
     obtain⟨row,J,I⟩:=H.store d.ok f L hT k1 k2 k3;obtain⟨Y,a3,a9⟩:=d.ok.b_lt p (q0+1) n f
     have b8:b≠n:=λe=>by
      subst e;have:=(d.ok.inj p 0 p (q0+1) b S f).2;omega
     obtain⟨b2,a2⟩:=yJ a8
     refine⟨_,h.thaw Q.2,J,Step.after ⟨below_setRow w Y _,λx hx hn=>Zf7 w n x _ λe=>hn p Z1 (q0+1) (e▸f),λ_ A=>A,λ_ _ _=>rfl,λ_ _=>rfl,λ_ _ _ _ r=>(by simp at r),rfl⟩,
      ⟨by simp;exact d.ok.base,λb A=>(by simp;exact d.ok.f_lt b A),d.ok.f_or,d.ok.g_F,λt i b A=>(by simp;exact d.ok.b_lt t i b A),d.ok.inj,λb A=>(by simp;exact d.ok.k_lt b A),d.ok.k_bl,d.ok.k_F⟩,
      Wq (ts:=[]) ⟨_,b3,b,vs,b4,S,rfl,by simp_all[Zf7],by rw[X.1,b2],λi ck hi=> ?_⟩⟩
     obtain⟨h1,h2,h3⟩|⟨h1,h3⟩:=a2 i ck hi
     ·have a7:i=q0:=by simp only[ZeU]at h2;omega
      subst a7;simp at h3;subst h3;exact⟨u,O,I⟩
     ·refine(X.2 i ck h3).keep (BP d.ok _ λx hx e=>a9 (e▸hx)) (λ_ A=>A) λx hx=>Zf7 w n x _ λe=> ?_;subst e;have:=(d.ok.inj p (i+1) p (q0+1) x hx f).2
      grind
    ·cases r
   ·cases r
theorem OM{x i u z:V}{n k:Nat}(f:Up x i n k z=some u):∃d l j,x=.agg d/\i=.int l (j:Nat)/\j<n/\d.length=n*k/\z.cells.length=k/\u=.agg (setCells d (j*k) z.cells):=by
 unfold Up at f;split at f
 ·rename_i d l i;split at f
  ·rename_i t;obtain⟨p,y,q,r⟩:=t;obtain⟨j,rfl⟩:=Zdz p;simp only[ZdF,Zdj]at f;exact⟨d,l,j,rfl,rfl,Z0,q,r,f.symm⟩
  grind
 grind
theorem Z3p(hr:RelG c B G s a w h g){T:TypeId}(hT:X4 c.P T=true){p o n d:Nat}{j:E}{x:Operand}{m:MS}(H:Af c g T p o j n d x=some m)(a7:∀e∈m.es,∃z,eval s e=some z)
  {b q:Nat} (Y:h.bl p 0=some b) {ki:IntKind} (hj:eval s j=some (.int ki (q:Nat))) (hq:q<n):
  ∃w' h',(Instr.storeAt T (.pointer (some ⟨b,o+q*d,none⟩)) (a.eval x)).run c.P w=.ok () w'/\MPost c B G s a w w' h h' m:=by
 unfold Af at H;simp only[Zdi]at H;obtain⟨b0,a5,H⟩:=H;split at H
 ·cases H
 ·rename_i I;simp only[ZdC,Zeh,ZdH,not_or,Decidable.not_not,ZfP,ZfV]at I;obtain⟨e0,hk⟩:=I;simp only[Zdi]at H;obtain⟨cs,O,H⟩:=H;split at H
  ·rename_i W;obtain⟨a2,a1⟩:=W;simp only[Zdm]at H;obtain⟨k,a3,rfl⟩:=H;obtain⟨d5,J,a9,rfl⟩:=Ko a3;rw[O]at J;cases J;obtain⟨b',D,ty,h1,b6,hh,R⟩:=hr.memOf O;rw[Y]at h1;cases h1;obtain⟨u,hu⟩:=a7 _ (List.Mem.head _);have b7:=hu;simp only[eval,hj,Zdt,Zdi]at hu;obtain⟨y,hy,z,hz,hu⟩:=hu;obtain⟨l,e9,r,rfl,b2,b3,Z,c0,rfl⟩:=OM hu;have b4:r=q:=by simp only[V.int.injEq]at b2;omega
   subst b4;obtain⟨k1,k2,k3,k4⟩:=jR hr a5 hz
   have hF:∀b,(h.thaw b0.2).F b->h.F b:=by
    intro b X;obtain X|⟨t,ht,_⟩:=X
    ·exact X
    ·simp_all
   have k4:=k4.mono hF;obtain⟨a4,d9,b5⟩:=k4.cells k1
   have b1:Wl ((cs.drop o).take (n*d))=false:=by
    simp only[Wl,Zge,Zgp,ZgJ,ne_eq];intro ck Q hd;have:=Zdu.1 a1 ck Q;rw[hd]at this;simp at this
   have d8:Uo ((cs.drop o).take (n*d))=false:=by
    simp only[Uo,Zge,Zgp];intro ck Q;have:=Zdu.1 a1 ck Q;simp only[Ze5]at this;rw[this]
   obtain⟨xs,e5,e6,e7,b8,e8⟩:=R.part_rd a2 b1 (G':=h.F) (λ_ X=>X) (λho=>Zcq);have c1:r*d+d<=n*d:=by rw[<-ZeJ];exact Ze0 _ b3
   have S:0<n*d\/n*d=0:=Z0
   have a6:l=xs:=by
    obtain d0|b9:=S
    ·grind [eval,UC,qW,Option.some.injEq,V.agg.injEq]
    ·simp_all
   subst a6;have e4:(a.eval x).cells.size=d:=by rw[a4,c0]
   have d7:o+n*d<=D.size:=by
    have:=R.1;simp only[ZeD,Zfi]at a2;omega
   have A:(o+r*d)+(a.eval x).cells.size<=D.size:=Z0
   have N:∀i (y:V),l[i]?=some y->y.one=true/\Rd w h.F y (D.getD (o+i) undef):=by
    intro i y M;have U:i<n*d:=by rw[<-Z];exact(Zdl.1 M).1
    cases b8 with
    |agg _ _ e1 e2 e3=>
     have:=e3 i y M
     have hg:((D.toList.drop o).take (n*d)).toArray.getD i undef=D.getD (o+i) undef:=by
      simp only[Zdo,Zfo,ZdY,if_pos U,ZdW,ZeE]
     grind
   obtain⟨g1,g2,g3⟩:=MO (cs:=l) (b:=z.cells) (o:=r*d) Z0
   obtain⟨h',e1,e2,e3⟩:=Ng (row:=WH D (o+r*d) (a.eval x).cells) (new:=(List.range (n*d)).map λi=>(CK.fz,E.fld (E.aput (if UC (c.ix p) o ((cs.drop o).take (n*d))=true then E.mm (c.ix p) o (n*d)else .ag (((cs.drop o).take (n*d)).map (·.2))) j n d (WK (Y5 c.P T) (c.P.cellsOf T) b0.1)) i)) hr.ok Y hh R (BF A) a9 (λi M=>yA A Zcp) (ts:=[]) (f:=h.bl p) Z1 rfl (λ_ _=>rfl) (λi x _ hx=>.inl hx)
    (λi j x M hj=>(hr.ok.inj p i p j x M hj).2) (λi ck M=>by
     obtain⟨U,rfl⟩:=IZ M;have a0:i< (setCells l (r*d) z.cells).length:=by rw[g1,Z];exact U
     have key:((setCells l (r*d) z.cells)[i]).one=true/\Rd w h.F (setCells l (r*d) z.cells)[i] ((WH D (o+r*d) (a.eval x).cells).getD (o+i) undef):=by
      have L:(setCells l (r*d) z.cells)[i]?=some (setCells l (r*d) z.cells)[i]:=Zdk a0;by_cases d6:r*d<=i/\i<r*d+d
      ·have h2:=g2 (i-r*d) Z0;rw[show r*d+(i-r*d)=i from by omega,L]at h2;have h3:=BE A (i:=i-r*d) Z0;rw[show o+r*d+(i-r*d)=o+i from by omega]at h3
       grind
      ·have h2:=g3 i Z0;rw[L]at h2;rw[yA A Z0];exact N i _ h2.symm
     refine⟨_,?_,key.1,key.2⟩;refine Eq.trans (b:=(some (V.agg (setCells l (r*d) z.cells))).bind λy=>ZZ y i) (Zez (λy=>Option.bind y λy=>ZZ y i) b7) ?_;show((setCells l (r*d) z.cells)[i]?).bind YR=_;rw[Zdk a0,Zdt];unfold YR
     grind) (λp=>a.tmps[p]?)
   exact⟨_,h',BK hT hh Z0 (λi M=>by
    have a8:i<z.cells.length:=by rw[<-a4];exact M
    rw[(b5 i _ (Zdk a8)).one_eq];simp_all) A,e2,e1,Wq (ts:=[]) ⟨_,b6,e3⟩⟩
  ·cases H
end
end Vm
namespace Vm
open Go
open Go.RowKit (Below)
open Go.MapKept (IsKey bytes_beq sameNow_of_keys run_checkKey run_findKey run_keyThatStays)
def WQ(w:World)(b:Nat)(o:Obj):World:= {w with heap:=w.heap.setIfInBounds b o}
theorem yI(w:World)(b:Nat)(o:Obj):(WQ w b o).heap.size=w.heap.size:=by simp[WQ]
theorem KG(w:World)(b x:Nat)(o:Obj)(h:x≠b):(WQ w b o).heap[x]?=w.heap[x]? :=by
 simp[WQ,Zed (Zfu h)]
theorem Z6B{w:World}{b:Nat}(o:Obj)(h:b<w.heap.size):(WQ w b o).heap[b]?=some o:=by
 simp[WQ,h]
theorem Pf{B:Nat}(w:World){b:Nat}(o:Obj)(h:B<=b):Below B w (WQ w b o):=
 ⟨rfl,rfl,rfl,by simp[WQ],λx hx=>KG w b x o Z0⟩
section
variable {c:Ctx}{B:Nat}{G:Nat->Prop}{s:St}{a a':Act}{w w':World}{h h':GH}{g:Gam}{C:ZC}{fz ps rb:List Nat}
theorem Z3i(n:RelG c B G s a w h g){d:Nat}{T:TypeId}{x:Operand}{m:MS}(Y:d<a.tmps.size)(r:Aa c g d T x=some m):
  ∃v w' h',(Instr.box T (a.eval x)).run c.P w=.ok v w'/\MPost c B G s (a.put (some d) v) w w' h h' m:=by
 unfold Aa at r;split at r
 ·rename_i t ty e H;split at r
  ·rename_i q;obtain⟨U,_⟩:=q;simp only[Zdj]at r;subst r;obtain⟨v,W,⟨y,hy,D⟩,_⟩:=n.look (Ys s c) (show look g [] t=_ from H) rfl;rw[Act.eval_tmp a t v W]
   have N:v.cells=#[v]:=by
    obtain⟨l,xs,_,_,_,⟨_,Z⟩,_⟩|⟨_,_,_,_,_,_,_,rfl,_⟩:=D
    ·obtain⟨rfl,_⟩|⟨_,_,_,rfl,_⟩:=Z<;>rfl
    ·rfl
   have A:=ZeK w (.cells v.cells T) none;have S:(w.alloc (.cells v.cells T)).heap.size=w.heap.size+1:=Z1;have Q:Same h.F w (w.alloc (.cells v.cells T)):=λb f=>A.block b (n.ok.f_lt b f) Z1
   refine⟨.pointer (some ⟨w.heap.size,0,none⟩),_,h.put d (λi=>if i=0 then some w.heap.size else if i=1 then h.bl t 1 else none) (YU h [t]),by simp[Instr.box,BI],
    S5 (Qd n.ok A) (λb f _=>A.block b f Z1) Z1 (λu I=>by simp at I;subst I;simp) (λR=>by simp at R),
    n.ok.put Z0 (λu i b _ f=>(WZ f).1) (λi b f=> ?_) (λi j b k p=> ?_) (λi b u j I k p=> ?_),Wq (ts:=[t]) ⟨_,VB Y _,w.heap.size,v.cells,T,by simp[GH.put],rfl,ZdO w _,by rw[N];rfl,λi X k=> ?_⟩⟩
   ·split at f
    ·simp only[Zdj]at f;subst f;exact .inl ⟨Zdp _,Z0⟩
    ·split at f
     ·exact .inr ⟨t,1,f⟩
     ·cases f
   ·have z:∀ {b},h.bl t 1=some b->b<w.heap.size:=λf=>(n.ok.b_lt t 1 _ f).2.1;split at k<;>split at p<;>(try split at k)<;>(try split at p)<;>first|(cases k;done)|(cases p;done)|omega|skip
    ·simp only[Zdj]at k;subst k;have:=z p;omega
    ·simp only[Zdj]at p;subst p;have:=z k;omega
   ·obtain⟨J,O⟩:=WZ p;split at k
    ·simp only[Zdj]at k;subst k;have:=(n.ok.b_lt u j _ J).2.1;omega
    ·split at k
     ·exact O (by simp[(n.ok.inj t 1 u j b k J).1])
     ·cases k
   ·cases i with
    |zero=>
     simp at k;subst k;refine⟨y,hy,?_⟩;have M:v.cells.getD 0 undef=v:=by rw[N];rfl
     rw[M];have H:=D.keep (h':=h.put d (λi=>if i=0 then some w.heap.size else if i=1 then h.bl t 1 else none) (YU h [t])) Q (λ_ f=>f) λb f=>A.block b (n.ok.b_lt t 1 b f).2.1 Z1;simpa[GH.put]using H
    |succ i=>simp at k
  ·cases r
 ·rename_i t cs H;split at r
  ·rename_i q;obtain⟨U,_⟩:=q;simp only[Zdj]at r;subst r;obtain⟨v,W,⟨vs,rfl,L⟩,_⟩:=n.look (Ys s c) (show look g [] t=_ from H) rfl;rw[Act.eval_tmp a t _ W];have A:=ZeK w (.cells (Value.agg vs).cells T) none;have S:(w.alloc (.cells (Value.agg vs).cells T)).heap.size=w.heap.size+1:=Z1;have Q:Same h.F w (w.alloc (.cells (Value.agg vs).cells T)):=λb f=>A.block b (n.ok.f_lt b f) Z1;have z:∀ {i b},h.bl t i=some b->b<w.heap.size:=λf=>(n.ok.b_lt t _ _ f).2.1
   refine⟨.pointer (some ⟨w.heap.size,0,none⟩),_,h.put d (λi=>if i=0 then some w.heap.size else h.bl t i) (YU h [t]),by simp[Instr.box,BI],
    S5 (Qd n.ok A) (λb f _=>A.block b f Z1) Z1 (λu I=>by simp at I;subst I;simp) (λR=>by simp at R),
    n.ok.put Z0 (λu i b _ f=>(WZ f).1) (λi b f=> ?_) (λi j b k p=> ?_) (λi b u j I k p=> ?_),Wq (ts:=[t]) ⟨_,VB Y _,w.heap.size,vs,T,by simp[GH.put],rfl,ZdO w _,L.1,λi X k=> ?_⟩⟩
   ·split at f
    ·simp only[Zdj]at f;subst f;exact .inl ⟨Zdp _,Z0⟩
    ·exact .inr ⟨t,i,f⟩
   ·split at k<;>split at p
    ·omega
    ·simp only[Zdj]at k;subst k;have:=z p;omega
    ·simp only[Zdj]at p;subst p;have:=z k;omega
    ·exact(n.ok.inj t i t j b k p).2
   ·obtain⟨J,O⟩:=WZ p;split at k
    ·simp only[Zdj]at k;subst k;have:=(n.ok.b_lt u j _ J).2.1;omega
    ·exact O (by simp[(n.ok.inj t i u j b k J).1])
   ·have H:=(L.2 i X k).keep (h':=h.put d (λi=>if i=0 then some w.heap.size else h.bl t i) (YU h [t])) Q (λ_ f=>f) λb f=>A.block b (n.ok.b_lt t (i+1) b f).2.1 Z1;simpa[GH.put]using H
  ·cases r
 ·cases r
def Z50(c:Ctx)(B:Nat)(s:St)(a:Act)(w:World)(h:GH)(g:Gam)(p:Nat)(ty:TypeId)(e:E)(v:Value):Option Nat->Prop
 |none=>a.tmps[p]?=some v
 |some j=>∃d,memOf g p=some d/\d[j]?=some (.own ty,e)/\∃b vs T,h.bl p 0=some b/\a.tmps[p]?=some (.pointer (some ⟨b,0,none⟩))/\w.heap[b]?=some (.cells vs T (0,0))/\RelCs c.P B s w h p d vs/\vs.getD j undef=v
theorem Z39(A:RelG c B G s a w h g){x:Operand}{p:Nat}{i:Option Nat}{ty:TypeId}{e:E}(f:A4 g x=some (p,i,ty,e)):
  ∃X,eval s e=some X/\OwnV c.P B w h (h.bl p (SJ i)) ty X (a.eval x)/\Z50 c B s a w h g p ty e (a.eval x) i:=by
 unfold A4 at f;split at f
 ·rename_i t F H z;split at f
  ·simp only[Zdj,Zdx]at f;obtain⟨rfl,rfl,rfl,rfl⟩:=f;obtain⟨v,D,⟨X,y,d⟩,_⟩:=A.look (Ys s c) (show look g [] t=_ from z) rfl;rw[Act.eval_tmp a t v D];exact⟨X,y,d,D⟩
  ·cases f
 ·rename_i x _ _ q z;simp only[Zdm]at f;obtain⟨⟨F,H⟩,Q,f⟩:=f;simp only[Zdx]at f;obtain⟨rfl,rfl,rfl,rfl⟩:=f;obtain⟨v,D,X,y,d⟩:=A.ownOf Q;have l:a.tmps[q]?=some (a.eval x):=XG A (Ys s c) z rfl 0;rw[D]at l;simp only[Zdj]at l;rw[<-l];exact⟨X,y,d,D⟩
 ·rename_i x _ _ q j z;simp only[Zdi]at f;obtain⟨N,r,f⟩:=f;split at f
  ·rename_i F H M;simp only[Zdj,Zdx]at f;obtain⟨rfl,rfl,rfl,rfl⟩:=f;obtain⟨b,vs,T,I,O,J,L⟩:=A.memOf r;obtain⟨X,y,d⟩:=L.2 j _ M;obtain⟨R,u,k⟩:∃b,h.bl q 0=some b/\w.cell? ⟨b,j,none⟩=some (a.eval x):=XG A (Ys s c) z rfl 0;rw[I]at u;cases u;rw[ZdE w b j vs T (0,0) J]at k;have n:vs.getD j undef=a.eval x:=by simp[Zdo,k]
   rw[n]at d;exact⟨X,y,d,N,r,M,b,vs,T,I,O,J,L,n⟩
  ·cases f
 ·cases f
theorem Gj(J:RelG c B G s a w h g)(ha:a'.tmps=a.tmps){T:TypeId}{x:Operand}{f:E->E}{m:MS}(L:zq g T x f=some m)(a9:∀e∈m.es,∃z,eval s e=some z)
  (S:∀e z,eval s (f e)=some z->∃X,eval s e=some X/\∃id ks U,X=.mp id ks U):
  ∃e id ks U b Q O,eval s e=some (.mp id ks U)/\(∃z,eval s (f e)=some z)/\a.eval x=.map (some b)/\w.heap[b]?=some (.map Q O)/\ks.length=Q.size/\U.length=Q.size/\
   (∀(i:Nat) (c:V),ks[i]?=some c->Rd w h.F c (Q.getD i default).key)/\(∀(i:Nat) (c:V),U[i]?=some c->Rd w h.F c (Q.getD i default).val)/\
   ∀r u d n,eval s (f e)=some (.mp id r u)->r.length=d.size->u.length=d.size->(∀(i:Nat) (c:V),r[i]?=some c->Rd w h.F c (d.getD i default).key)->(∀(i:Nat) (c:V),u[i]?=some c->Rd w h.F c (d.getD i default).val)->
    MPost c B G s a' w (WQ w b (.map d n)) h h m:=by
 unfold zq at L;simp only[Zdi]at L;obtain⟨⟨p,i,ty,e⟩,a8,L⟩:=L;split at L
 ·rename_i a2;simp only at a2;subst a2;simp only[Zdm]at L;obtain⟨k,I,rfl⟩:=L;obtain⟨X,hX,a1,A⟩:=Z39 J a8;obtain⟨z,hz⟩:=a9 _ (List.Mem.head _);obtain⟨X',W,id,ks,U,rfl⟩:=S e z hz;rw[hX]at W;cases W;obtain⟨l,_,hl,_⟩|⟨b9,r,u,b,Q,O,a7,hv,N,hB,hid,hh,h1,h2,h3,h4⟩:=a1
  ·cases hl
  cases a7;refine⟨e,id,ks,U,b,Q,O,hX,⟨z,hz⟩,hv,hh,h1,h2,h3,h4,λr u d n he a3 a4 a5 a6=> ?_⟩;obtain⟨b7,b3,b4⟩:=J.ok.b_lt p (SJ i) b N;have hF:Same h.F w (WQ w b (.map d n)):=λy M=>KG w b y _ λe=>b4 (e▸M)
  have H:OwnV c.P B (WQ w b (.map d n)) h (h.bl p (SJ i)) ty (.mp id r u) (a.eval x):=
   .inr ⟨id,r,u,b,d,n,rfl,hv,N,hB,hid,Z6B _ b3,a3,a4,λi c Z=>(a5 i c Z).keep hF λ_ R=>R,λi c Z=>(a6 i c Z).keep hF λ_ R=>R⟩
  refine⟨⟨Pf w _ hB,λy M hn=>KG w b y _ λe=>hn p Z1 (SJ i) (e▸N),λ_ R=>R,λ_ _ _=>rfl,λ_ _=>rfl,λ_ _ _ _ L=>(by simp at L),rfl⟩,
   ⟨by grind [yI],λy M=>by rw[yI];exact J.ok.f_lt y M,J.ok.f_or,J.ok.g_F,λt j y M=>by rw[yI];exact J.ok.b_lt t j y M,J.ok.inj,λy M=>by rw[yI];exact J.ok.k_lt y M,J.ok.k_bl,J.ok.k_F⟩,?_⟩
  cases i with
  |none=>
   simp only[IQ,Zdj]at I;subst I;exact Wq (ts:=[]) ⟨_,by rw[ha];exact A,_,he,H⟩
  |some j=>
   obtain⟨cs,a0,hc,b0,vs,T',e1,e2,e3,e4,e5⟩:=A;obtain⟨b6,D,b2,rfl⟩:=Ko I;rw[a0]at D;cases D
   have b8:b0≠b:=λe=>by
    simp_all
   obtain⟨b5,Y⟩:=yJ b2;refine Wq (ts:=[]) ⟨_,Zcq,b0,vs,T',e1,rfl,by simp_all[KG],by rw[e4.1,b5],λq ck Z=> ?_⟩;obtain⟨q1,q2,q3⟩|⟨q1,q3⟩:=Y q ck Z
   ·have b1:q=j:=by simp only[ZeU]at q2;omega
    subst b1;simp at q3;subst q3;exact⟨_,he,by rw[e5];exact H⟩
   ·refine(e4.2 q ck q3).keep hF (λ_ R=>R) λy M=>KG w b y _ λe=> ?_;subst e;have:=(J.ok.inj p (q+1) p (j+1) y M N).2
    grind
 ·cases L
theorem Z3k(D:RelG c B G s a w h g)(A:a'.tmps=a.tmps){T ty:TypeId}{x:Operand}{m:MS}(f:Ac c g T x=some m)(n:∀e∈m.es,∃z,eval s e=some z):
  ∃v w' h',(Builtin.clear_ #[T] ty #[a.eval x]).run c.P w=.ok v w'/\MPost c B G s a' w w' h h' m:=by
 unfold Ac at f;split at f
 ·rename_i k;unfold jL at k;split at k
  ·rename_i N F l
   obtain⟨e,id,ks,O,b,H,d,r,_,t,q,I,J,L,M,u⟩:=Gj D A f n λe z j=>by
    simp only[eval,Zdi]at j;obtain⟨X,y,j⟩:=j;refine⟨X,y,?_⟩;cases X<;>simp[JU]at j
    simp
   refine⟨.tuple #[],WQ w b (.map #[] d),h,?_,u [] [] #[] d (by simp[eval,r,JU]) rfl rfl (λi c p=>by simp at p) (λi c p=>by simp at p)⟩;rw[t];simp[Builtin.clear_,Ze6 l,ZeZ q,Zgc _ q,Result.andThen,WQ]
  ·cases k
 ·cases f
theorem Z3o(hr:RelG c B G s a w h g)(ha:a'.tmps=a.tmps){T:TypeId}{x k v:Operand}{m:MS}(t:Ae c g T x k v=some m)(a0:∀e∈m.es,∃z,eval s e=some z):
  ∃w' h',(Instr.mapUpdate T (a.eval x) (a.eval k) (a.eval v)).run c.P w=.ok () w'/\MPost c B G s a' w w' h h' m:=by
 unfold Ae at t;split at t
 ·rename_i kt el hT;simp only[Zdi]at t;obtain⟨kc,a3,ek,hk,ev,hv,t⟩:=t;split at t
  ·cases t
  ·rename_i O;have a5:ev.2=[]:=by simpa using O
   obtain⟨kv,Q,r⟩:=WD hr (Ys s c) hk;obtain⟨vv,R,q⟩:=WD hr (Ys s c) hv;rw[a5]at q;have q:=q.F
   obtain⟨e,id,ks,xs,b,A,y,h1,⟨z,f⟩,h3,U,M,Z,W,h8,h9⟩:=Gj hr ha t a0 λe z f=>by
    simp only[eval,Q,R,Zdt,Zdi]at f;obtain⟨X,hX,f⟩:=f;obtain⟨_,_,_,_,_,rfl,_⟩:=Gs f;exact⟨_,hX,_,_,_,rfl⟩
   have S:=f;simp only[eval,h1,Q,R,Zdt]at f;unfold Uy at f;split at f
   ·cases f
   rename_i p;have p:WX kc kv=true:=by simpa using p
   have J:=FD a3;have u:=JQ p r;have a2:Rd w h.F kv (a.eval k):=r.flat (by cases kc<;>cases kv<;>simp[WX,V.flatc]at p⊢);have N:=ZgN (w:=w) J u;have a4:=run_keyThatStays (P:=c.P) (w:=w) u;simp only at f;rw[h3];split at f
   ·rename_i j hf;obtain⟨en,e1,e2,Y⟩:=Jz (w2:=w) (G'':=h.F) p r hf (l:=A.toList) (by simpa using M) (λi c d=>by simpa[Zdo]using W i c d) 0;simp only[Zdj]at f;subst f;have I:A[j]?=some en:=by simpa using e1
    have a1:j<A.size:=(Zdq.1 I).1;have D:=ZgB (w:=w) J Y;refine⟨WQ w b (.map (A.modify j λe=> {e with key:=a.eval k,val:=a.eval v}) y),h,?_,h9 _ _ _ _ S (by simpa using M) (by simpa using Z) (λi c d=> ?_) (λi c d=> ?_)⟩
    ·have:A[j]=en:=by rw[ZdQ a1]at I;simpa using I
     simp[Instr.mapUpdate,Ze6 hT,ZeZ U,N,D,I,this,e2,a4,Zgc _ U,Result.andThen,WQ]
    ·have:=W i c d;rw[Zdo,Zep];rw[Zdo]at this;by_cases n:j=i
     ·subst n;rw[I]at this;simp only[Ze3,I,ZdD,ZdN];simp only[ZdN,e2]at this;exact this
     ·rw[if_neg n];exact this
    ·rw[Zdo,Zep];by_cases n:j=i
     ·subst n;simp only[Ze3,I,ZdD,ZdN];rw[ZfF Z0]at d;cases d;exact q
     ·rw[if_neg n];rw[ZeW n]at d;have:=h8 i c d;rw[Zdo]at this;exact this
   ·rename_i hf;have Y:=Jz (w2:=w) (G'':=h.F) p r hf (l:=A.toList) (by simpa using M) (λi c d=>by simpa[Zdo]using W i c d) 0;simp only[Zdj]at f;subst f;have D:=ZgB (w:=w) J Y;refine⟨WQ w b (.map (A.push {key:=a.eval k,val:=a.eval v,born:=y}) (y+1)),h,?_,h9 _ _ _ _ S (by simp[M]) (by simp[Z]) (λi c d=> ?_) (λi c d=> ?_)⟩
    ·simp[Instr.mapUpdate,Ze6 hT,ZeZ U,N,D,Zgc _ U,Result.andThen,WQ]
    ·rw[Zdo,Zfz];by_cases L:i<ks.length
     ·rw[ZdT L]at d;rw[if_neg Z0];have:=W i c d;rw[Zdo]at this;exact this
     ·rw[ZdI Z0]at d
      have H:i=ks.length:=by
       have:=(Zdl.1 d).1;simp at this;omega
      subst H;simp at d;subst d;rw[if_pos M];exact a2
    ·rw[Zdo,Zfz];by_cases L:i<xs.length
     ·rw[ZdT L]at d;rw[if_neg Z0];have:=h8 i c d;rw[Zdo]at this;exact this
     ·rw[ZdI Z0]at d
      have H:i=xs.length:=by
       have:=(Zdl.1 d).1;simp at this;omega
      subst H;simp at d;subst d;rw[if_pos Z];exact q
   ·cases f
 ·cases t
end
end Vm
namespace Vm
open Go
open Go.RowKit (Below)
theorem KO:∀ {f:List (CK×E)} {d:List Nat} {i t:Nat},X0 f d i=some t->t∈d
 | [],_,_,_,h=>by simp[X0]at h
 | (k,e)::f,d,i,t,h=>by
   cases k with
   |own j=>
    cases d with
    |nil=>simp[X0]at h
    |cons u d=>
     cases i with
     |zero=>simp[X0]at h;simp[h]
     |succ i=>exact ZdV _ (KO (by simpa[X0]using h))
   |_=>
    cases i with
    |zero=>simp[X0]at h
    |succ i=>exact KO (by simpa[X0]using h)
theorem C0:∀ {f:List (CK×E)} {d:List Nat} {i j t:Nat},d.Nodup->X0 f d i=some t->X0 f d j=some t->i=j
 | [],_,_,_,_,_,h,_=>by simp[X0]at h
 | (k,e)::f,d,i,j,t,l,h,h'=>by
   cases k with
   |own q=>
    cases d with
    |nil=>simp[X0]at h
    |cons u d=>
     obtain⟨p,n⟩:=Zfd.1 l;cases i with
     |zero=>
      cases j with
      |zero=>rfl
      |succ j=>
       grind [X0,absurd,KO]
     |succ i=>
      cases j with
      |zero=>
       grind [X0,absurd,KO]
      |succ j=>exact Zez (· +1) (C0 n (by simpa[X0]using h) (by simp_all[X0]))
   |_=>
    cases i with
    |zero=>simp[X0]at h
    |succ i=>
     cases j with
     |zero=>simp[X0]at h'
     |succ j=>exact Zez (· +1) (C0 l (by simpa[X0]using h) (by simp_all[X0]))
section
variable {c:Ctx}{B:Nat}{G:Nat->Prop}{s:St}{a a':Act}{w w':World}{h h':GH}{g:Gam}{C:ZC}{fz ps rb:List Nat}
theorem Z3j(hr:RelG c B G s a w h g){T:TypeId}{parts:Array (Nat×Operand)}{d:Nat}(hd:d<a.tmps.size){m:MS}(q:Ab c g d T parts.toList=some m)(W:∀e∈m.es,∃z,eval s e=some z):
  ∃v h',(Instr.build T (parts.map λ(i,x)=>(i,a.eval x))).run c.P w=.ok v w/\MPost c B G s (a.put (some d) v) w w h h' m:=by
 unfold Ab at q
 ·simp only[Zdi]at q;obtain⟨fs,hT,zs,hz,b,F,q⟩:=q;split at q
  ·cases q
  ·rename_i k;simp only[ZdC,Zeh,not_or,ZeX,not_exists,not_and,ZfP]at k;obtain⟨L,H⟩:=k;have H:=Ao H
   have L:∀t∈b.2.2,t∉b.2.1/\t≠d:=by
    intro t O;have:=L t O;simp only[ZeP,ZdH,Ze5]at this;exact⟨this.1.1,this.1.2⟩
   simp only[Zdj]at q;subst q;obtain⟨z,a2⟩:=W _ (List.Mem.head _);have r:=a2;simp only[eval,Zdm]at r;obtain⟨xs,a1,a4⟩:=r;obtain⟨hl,hx⟩:=Us a1
   obtain⟨vs,J,a0,Z,A⟩:=Mx hr (Ys s c) hT hz F (λM U=>by
    obtain⟨i,n⟩:=ZdM U;obtain⟨x,_,he⟩:=hx i M.2 Zcq;simp_all)
   obtain⟨l,_⟩:=KT hr.ok b.2.1
   let f:Nat->Option Nat:=λi=>match i with|0=>none|i+1=>(X0 b.1 b.2.2 i).bind λt=>(h.thaw b.2.1).bl t 1
   have X:∀i x,f i=some x->∃Q t,i=Q+1/\X0 b.1 b.2.2 Q=some t/\(h.thaw b.2.1).bl t 1=some x:=by
    intro i x n;cases i with
    |zero=>cases n
    |succ i=>
     simp only[f,Zdi]at n;simp_all
   refine⟨.agg vs,(h.thaw b.2.1).put d f (YU (h.thaw b.2.1) b.2.2),J,Step.after (S5 (ZdZ _ _) (λ_ _ _=>rfl) Z1 (λu hu=>⟨by simp[hu],by simp[hu]⟩) (λhn=>by simp at hn)),
    l.put (Zdp _) (λu i b _ F=>(WZ F).1) (λi x hx=> ?_) (λi j x n Y=> ?_) (λi x u j hu n Y=> ?_),Wq ⟨.agg vs,VB hd _,vs,rfl,a0,λi M n=> ?_⟩⟩
   ·grind
   ·obtain⟨Q,t,rfl,O,D⟩:=X i x n;obtain⟨j',t',rfl,a3,R⟩:=X j x Y;have:=(l.inj t 1 t' 1 x D R).1
    grind [C0]
   ·obtain⟨Q,t,rfl,O,D⟩:=X i x n;obtain⟨k1,k2⟩:=WZ Y;exact k2 ((l.inj u j t 1 x k1 D).1▸KO O)
   ·have S:((h.thaw b.2.1).put d f (YU (h.thaw b.2.1) b.2.2)).bl d (i+1)=(X0 b.1 b.2.2 i).bind λt=>(h.thaw b.2.1).bl t 1:=by simp[GH.put,f]
    rw[S];have N:=A i M n;unfold BRel at N;obtain⟨kk,e⟩:=M;cases kk with
    |own ty=>
     obtain⟨t,D,h2,h3,y,hy,I⟩:=N;refine⟨y,hy,I.mono (λ_ F=>.inl F) ?_⟩;simp_all[GH.thaw]
    |nil=>exact N
    |fz=>
     obtain⟨y,D,h2,h3⟩:=N;exact⟨y,D,h2,h3.mono (Ci λp hp=>hp)⟩
    |dead=>grind
theorem qu(d:Ok B G w h){o:Option Nat}(ho:∀b,o=some b->∃t i,h.bl t i=some b){J T ty:TypeId}{x z:V}{v y:Value}(hv:OwnV c.P B w h o J x v)(hT:c.P.underlying T=some (.slice J))(S:Ur c.P J=true)
  {R:List V} {Gy:Nat->Prop} (hy:Rd w Gy (.sl R) y) (A:∀(i:Nat) (q:V) (u:Value),(flat R)[i]?=some q->Rd w Gy q u->Rd w h.F q u) (hz:R1 (c.P.cellsOf J) x (.sl R)=some z):
  ∃I w',(Builtin.append_ #[T,T] ty #[v,y]).run c.P w=.ok I w'/\Below B w w'/\(∀b,b<w.heap.size->o≠some b->w'.heap[b]?=w.heap[b]?)/\
   (I.ownBlock=o\/∀b,I.ownBlock=some b->w.heap.size<=b/\b<w'.heap.size)/\∀h':GH,h'.F=h.F->OwnV c.P B w' h' I.ownBlock J z I:=by
 obtain⟨l,xs,rfl,h0,M,p,n,a1⟩|⟨_,_,_,_,_,_,rfl,_⟩:=hv
 case inr=>grind [Qa]
 obtain⟨l1,r,W,a0,N,a2,rfl⟩:=Qa hz;cases W;cases a0;obtain⟨I,w',Q,O,Z,hg,Y,D,H⟩:=BH (ty:=ty) hT S p d.base hy a2 N;have f:∀b,b<w.heap.size->o≠some b->w'.heap[b]?=w.heap[b]? :=λb n hn=>hg.block b n Zcp
 have L:Same h.F w w':=λb n=>f b (d.f_lt b n) λe=>by
  obtain⟨t,i,j⟩:=ho b e;exact(d.b_lt t i b j).2.2 n
 refine⟨I,w',O,(ZdZ B w).grown hg d.base λk hk=> ?_,f,?_,λh' hF=>.inl ⟨l++R,xs++Q,rfl,h0,λx hx=> ?_,Zcq,rfl,λi q j=> ?_⟩⟩
 ·rw[‹v.ownBlock=o›]at hk;obtain⟨t,i,j⟩:=ho k hk;exact(d.b_lt t i k j).1
 ·obtain h1|⟨h1,h2⟩:=Y
  ·simp_all
  ·exact .inr λb n=>h2.lt b n
 ·obtain hx|hx:=ZdL.1 hx
  ·simp_all
  ·exact D x hx
 ·have U:=Tt M;rw[je]at j;by_cases X:i< (flat l).length
  ·rw[ZdT X]at j;obtain⟨u,hu,hr⟩:=a1 i q j;exact⟨u,Zcp,hr.keep L λb n=>Zcq⟩
  ·rw[ZdI Z0]at j;obtain⟨u,hu,hr⟩:=H _ q j;have a3:xs.length=(flat l).length:=by rw[p.1,U]
   exact⟨u,Zcp,(A _ q u j hr).keep L λb n=>Zcq⟩
theorem qt{d f:E}{k:Nat}{z:V}(j:eval s (.app d f k)=some z):∃x y,eval s d=some x/\eval s f=some y/\R1 k x y=some z:=by
 simp_all[eval,Zdi]
theorem Db(f:Ok B G w h){t0 i0 d:Nat}{ts:List Nat}{o:Option Nat}(F:∀b,o=some b->∃t∈ts,h.bl t 1=some b)(y:d∉ts){v':Value}(l:Below B w w')(k:∀b,b<w.heap.size->o≠some b->w'.heap[b]?=w.heap[b]?)
  (A:v'.ownBlock=o\/∀b,v'.ownBlock=some b->w.heap.size<=b/\b<w'.heap.size):
  Ok B G w' (h.put d (λi=>if i=1 then v'.ownBlock else none) (YU h ts))/\Step B (d::ts) (d::ts) [] w w' h (h.put d (λi=>if i=1 then v'.ownBlock else none) (YU h ts)):=by
 have z:∀i b,(if i=1 then v'.ownBlock else none)=some b->i=1/\((w.heap.size<=b/\b<w'.heap.size)\/∃t∈ts,h.bl t 1=some b):=by
  intro i b n;split at n
  ·grind
  ·cases n
 refine⟨f.put l.size (λu i b _ l=>(WZ l).1) (λi b n=> ?_) (λi j b n r=>Zcp) (λi b u j H n r=> ?_),
  S5 l (λb l x=>k b l λe=> ?_) Z1 (λt p=>⟨by simp[p],by simp[p]⟩) (λx=>by simp at x)⟩
 ·grind
 ·obtain⟨k1,D⟩:=WZ r;rcases(z i b n).2 with q|⟨t,p,q⟩
  ·have:=(f.b_lt u j b k1).2.1;omega
  ·exact D ((f.inj u j t 1 b k1 q).1▸p)
 grind
theorem Z3h(hr:RelG c B G s a w h g){T U ty:TypeId}{x y:Operand}{d:Nat}(hd:d<a.tmps.size){m:MS}(l:A9 c g d T U x y=some m)(a3:∀e∈m.es,∃z,eval s e=some z):
  ∃v w' h',(Builtin.append_ #[T,U] ty #[a.eval x,a.eval y]).run c.P w=.ok v w'/\MPost c B G s (a.put (some d) v) w w' h h' m:=by
 unfold A9 at l;split at l
 ·rename_i el hT;have a2:=J4 hT;split at l
  ·rename_i n;obtain⟨rfl,Y⟩:=n;simp only[Zdi]at l;obtain⟨b0,b7,l⟩:=l;generalize a6:Sk (XF c.P el) b0=D at l;have f:=hr.frz D.2
   have L:∀ {yy:V} {l2:List V},eval s D.1=some yy->yy=.sl l2->∃Gy,Rd w Gy (.sl l2) (a.eval y)/\∀(i:Nat) (W:V) (u:Value),(flat l2)[i]?=some W->Rd w Gy W u->Rd w (h.thaw D.2).F W u:=by
    rintro yy l2 M rfl;obtain⟨Gy,X,h2⟩:=DY hr (Ys s c) b7 (fl:=XF c.P el) (by rw[a6];exact M);rw[a6]at h2;exact⟨Gy,X,λi W u hi hu=>(h2 _ rfl i W u hi hu).mono (Ci λp hp=>hp)⟩
   have a1:∀ {t:Nat} {e:E} {v:Value},t≠d->(∃y,eval s e=some y/\OwnV c.P B w (h.thaw D.2) ((h.thaw D.2).bl t 1) el y v)->m= {d:=[(d,[],.own el (.app e D.1 (c.P.cellsOf el))),(t,[],.no)],ps:=[d,t],rb:=[d,t],fz:=D.2,es:=[.app e D.1 (c.P.cellsOf el)]}->
     ∃J w' h',(Builtin.append_ #[T,T] ty #[v,a.eval y]).run c.P w=.ok J w'/\MPost c B G s (a.put (some d) J) w w' h h' m:=by
    rintro t e v H ⟨yv,Z,A⟩ rfl;obtain⟨z,hz⟩:=a3 _ (List.Mem.head _);obtain⟨xx,yy,I,M,q⟩:=qt hz;rw[Z]at I;cases I;obtain⟨_,l2,_,rfl,_⟩:=Qa q;obtain⟨Gy,e1,e2⟩:=L M rfl;obtain⟨J,w',k1,k2,k3,k4,k5⟩:=qu (ty:=ty) f.ok (λb r=>⟨t,1,r⟩) A a2 Y e1 e2 q;obtain⟨q1,q2⟩:=Db (d:=d) (ts:=[t]) (t0:=0) (i0:=0) f.ok (λb r=>⟨t,Z1,r⟩) Zcp k2 k3 k4;exact⟨J,w',_,k1,q2.after,q1,Wq (ts:=[t]) ⟨J,VB hd J,z,hz,(k5 (h.thaw D.2) rfl).mono (λ_ r=>r) (by simp[GH.put])⟩⟩
   split at l
   ·rename_i hk;simp only[Zdj]at l;subst l;have hv:=QQ f (Ys s c) hk;rw[hv];obtain⟨z,hz⟩:=a3 _ (List.Mem.head _);obtain⟨xx,yy,I,M,q⟩:=qt hz;simp only[eval,Zdj]at I;subst I;obtain⟨_,l2,_,rfl,_⟩:=Qa q;obtain⟨Gy,e1,e2⟩:=L M rfl;obtain⟨i,zz,hi,e0,e3,h0,d8,O⟩:=Ju Y;have A:OwnV c.P B w (h.thaw D.2) none el (.sl []) (.slice none 0 0):=.inl ⟨[],[],rfl,Z0,λx hx=>by simp at hx,ZeN w B el _,rfl,λi W hi=>by simp[flat]at hi⟩;obtain⟨J,w',k1,k2,k3,k4,k5⟩:=qu (ty:=ty) f.ok (λb r=>by cases r) A a2 Y e1 e2 q;obtain⟨q1,q2⟩:=Db (d:=d) (ts:=[]) (t0:=0) (i0:=0) f.ok (λb r=>by cases r) Z1 k2 k3 k4;exact⟨J,w',_,k1,q2.after,q1,Wq (ts:=[]) ⟨J,VB hd J,z,hz,(k5 (h.thaw D.2) rfl).mono (λ_ r=>r) (by simp[GH.put])⟩⟩
   ·rename_i t b5 e hk;split at l
    ·rename_i n;obtain⟨rfl,H,_⟩:=n;simp only[Zdj]at l;obtain⟨v,hv,R,_⟩:=f.look (Ys s c) (show look _ [] t=_ from hk) rfl;rw[Act.eval_tmp a t v hv];exact a1 H R l.symm
    ·cases l
   ·rename_i p hk;simp only[Zdi]at l;obtain⟨⟨b5,e⟩,ho,l⟩:=l;split at l
    ·rename_i n;obtain⟨b3,a9⟩:=n;simp only at b3;subst b3;simp only[Zdj]at l;obtain⟨u,hu,R⟩:=f.ownOf ho;have hv:=XG f (Ys s c) hk rfl 0;have b4:=hu.symm.trans hv;simp only[Zdj]at b4;rw[<-b4];exact a1 a9 R l.symm
    ·cases l
   ·rename_i p i hk;simp only[Zdi]at l;obtain⟨cs,a0,l⟩:=l;split at l
    ·rename_i b5 e hc;split at l
     ·rename_i n;obtain⟨rfl,a9⟩:=n;simp only[Zdm]at l;obtain⟨k,b1,rfl⟩:=l;obtain⟨d6,Q,c1,rfl⟩:=Ko b1;rw[a0]at Q;cases Q;obtain⟨b,vs,b6,r,d9,hh,O⟩:=f.memOf a0;have hv:=XG f (Ys s c) hk rfl 0;obtain⟨b',a5,N⟩:=hv;rw[r]at a5;cases a5;rw[ZdE w b i vs b6 (0,0) hh]at N;have a7:∀v,vs[i]?=some v->vs.getD i undef=v:=λv hv=>Zcq;obtain⟨yv,Z,A⟩:=O.2 i _ hc;rw[a7 _ N]at A;simp only at A Z;obtain⟨z,hz⟩:=a3 _ (List.Mem.head _);obtain⟨xx,yy,I,M,q⟩:=qt hz;rw[Z]at I;cases I;obtain⟨_,l2,_,rfl,_⟩:=Qa q;obtain⟨Gy,e1,e2⟩:=L M rfl;obtain⟨J,w',k1,k2,k3,k4,k5⟩:=qu (ty:=ty) f.ok (λb r=>⟨p,i+1,r⟩) A a2 Y e1 e2 q;have hF:Same (h.thaw D.2).F w w':=λx hx=>k3 x (f.ok.f_lt x hx) λe=>(f.ok.b_lt p (i+1) x e).2.2 hx
      have d7:w'.heap[b]?=w.heap[b]? :=k3 b (f.ok.b_lt p 0 b r).2.1 λe=>by
       have:=(f.ok.inj p 0 p (i+1) b r e).2;omega
      obtain⟨d0,a4⟩:=yJ c1
      have hf:∀j x,(if j=1 then J.ownBlock else none)=some x->j=1/\((w.heap.size<=x/\x<w'.heap.size)\/(h.thaw D.2).bl p (i+1)=some x):=by
       intro j x S;split at S
       ·grind
       ·cases S
      have b2:∀u j x,(if u=p/\j=i+1 then none else(h.thaw D.2).bl u j)=some x->(h.thaw D.2).bl u j=some x/\¬(u=p/\j=i+1):=by
       intro u j x S;split at S
       ·cases S
       ·grind
      refine⟨J,w',(h.thaw D.2).put d (λj=>if j=1 then J.ownBlock else none) (λu j=>if u=p/\j=i+1 then none else(h.thaw D.2).bl u j),k1,Step.after ⟨k2,λx hx hn=>k3 x hx λe=>hn p Z1 (i+1) e,λ_ r=>r,λt ht _=> ?_,λt ht=> ?_,λ_ _ _ _ l=>(by simp at l),rfl⟩,
       f.ok.put k2.size (λu j x _ hx=>(b2 u j x hx).1) (λj x hx=> ?_) (λj j' x S a8=>Zcp) (λj x u j' hu S a8=> ?_),λt ht=> ?_⟩
      ·grind [GH.put]
      ·have X:t≠d:=Zcp;simp[GH.put,X]
      ·grind
      ·obtain⟨q1,q2⟩:=b2 u j' x a8;rcases(hf j x S).2 with X|X
       ·have:=(f.ok.b_lt u j' x q1).2.1;omega
       ·exact q2 (f.ok.inj u j' p (i+1) x q1 X)
      ·simp only[ZS,ZdK,Zf8,ZdG,ZeG,Zgb]at ht;by_cases H:t=d
       ·subst H;simp only[Gam.at,Ze3];exact⟨trivial,λ_=>⟨J,VB hd J,z,hz,(k5 (h.thaw D.2) rfl).mono (λ_ r=>r) (by simp[GH.put])⟩⟩
       ·have d5:t=p:=ht.resolve_left H;subst d5;simp only[Gam.at,if_neg (Zfu H),Ze3];refine⟨trivial,λ_=>⟨_,by grind [RI],b,vs,b6,by simpa[GH.put,H]using r,rfl,Zcp,by rw[O.1,d0],λj W S=> ?_⟩⟩;obtain⟨X,h2,h3⟩|⟨X,h3⟩:=a4 j W S
        ·have c0:j=i:=by simp only[ZeU]at h2;omega
         subst c0;simp at h3;subst h3;exact(O.2 j _ hc).cell
        ·have b9:j≠i:=by simp only[ZeU]at X;omega
         have b8:((h.thaw D.2).put d (λj=>if j=1 then J.ownBlock else none) (λu j=>if u=t/\j=i+1 then none else(h.thaw D.2).bl u j)).bl t (j+1)=(h.thaw D.2).bl t (j+1):=by simp[GH.put,H,b9]
         rw[b8]
         exact(O.2 j W h3).keep hF (λ_ r=>r) λx hx=>k3 x (f.ok.b_lt t (j+1) x hx).2.1 λe=>by
          have:=(f.ok.inj t (j+1) t (i+1) x hx e).2;omega
     ·cases l
    ·cases l
   ·cases l
  ·cases l
 ·cases l
def CR(c:Ctx)(B:Nat)(G:Nat->Prop)(s:St)(a:Act)(w:World)(h:GH)(o:Oper)(m:MS):Prop:=
 ∃n u w' h',(execOp a.eval o).run c.P w=.ok n w'/\(n=.value u\/n=.skip/\u=undef)/\MPost c B G s (a.put o.dst u) w w' h h' m
theorem Z3r(F:RelG c B G s a w h g){o:Oper}(L:∀d,o.dst=some d->d<a.tmps.size){m:MS}(l:mk c g o=some m)(A:∀e∈m.es,∃z,eval s e=some z):CR c B G s a w h o m:=by
 obtain⟨dst,op,type,pos,after,guard⟩:=o;unfold mk at l;simp only at l L;split at l
 ·rename_i x d;obtain⟨h',Q⟩:=Gh F (L _ rfl) l A;exact⟨_,_,w,h',rfl,.inl rfl,Q⟩
 ·rename_i x d;obtain⟨h',Q⟩:=Gh F (L _ rfl) l A;exact⟨_,_,w,h',rfl,.inl rfl,Q⟩
 ·rename_i T S x;unfold Gk at l;split at l
  ·cases l
  ·rename_i H;simp only[ZdC,Zeh,not_or,ZfP,Bool.or_eq_false_iff,not_and,Ze5]at H;obtain⟨N,M⟩:=H
   have M:Y5 c.P T=true\/c.P.cellsOf T=1:=by
    cases X:Y5 c.P T with
    |true=>simp
    |false=>simp_all
   have fin:∀ {R:Value},a.eval S=R->(∃w' h',(Instr.storeAt T R (a.eval x)).run c.P w=.ok () w'/\MPost c B G s a w w' h h' m)->CR c B G s a w h {dst:=none,op:=.store T S x,type,pos,after,guard} m:=by
    rintro R rfl ⟨w',h',r,D⟩;refine⟨.skip,undef,w',h',?_,.inr ⟨rfl,rfl⟩,D⟩;simp[execOp,r]
   split at l
   ·rename_i Z J;obtain⟨t,rfl,⟨v,hv,O,⟨b,vs,ty,r,rfl,_⟩⟩,_⟩:=(QP F (Ys s c) J rfl).resolve_left Z1;exact fin O (Gl F N M l A r)
   ·rename_i p o J;obtain⟨b,r,D⟩:=XG F (Ys s c) J rfl 0
    grind [Gl]
   ·rename_i p i j o k J;obtain⟨n,q,r,⟨Y,D⟩,W⟩:=XG F (Ys s c) J rfl 0
    grind [Z3q]
   ·rename_i p o j n k J;obtain⟨b,q,r,⟨Y,D⟩,W,h4⟩:=XG F (Ys s c) J rfl 0
    grind [Z3p]
   ·cases l
 ·rename_i T parts d;obtain⟨v,h',r,D⟩:=Z3j F (L _ rfl) l A;exact⟨.value v,v,w,h',by simp[execOp,r],.inl rfl,D⟩
 ·rename_i T x d;obtain⟨v,w',h',r,D⟩:=Z3i F (L _ rfl) l;exact⟨.value v,v,w',h',by simp[execOp,r],.inl rfl,D⟩
 ·rename_i T m' k v;obtain⟨w',h',r,D⟩:=Z3o (a':=a) F rfl l A;exact⟨.skip,undef,w',h',by simp[execOp,r],.inr ⟨rfl,rfl⟩,D⟩
 ·rename_i args f;split at l
  ·rename_i x T hx N;have u:args=#[x]:=ZeB.1 Z0;have I:f=#[T]:=ZeB.1 Z0;subst u I;obtain⟨v,w',h',r,D⟩:=Z3k (a':=a) (ty:=type) F rfl l A;exact⟨.value v,v,w',h',by simp[execOp,resolve,invoke,builtin,r],.inl rfl,D⟩
  ·cases l
 ·rename_i args f d;split at l
  ·rename_i x y T U hx N;have u:args=#[x,y]:=ZeB.1 Z0;have I:f=#[T,U]:=ZeB.1 Z0;subst u I;obtain⟨v,w',h',r,D⟩:=Z3h (ty:=type) F (L _ rfl) l A;exact⟨.value v,v,w',h',by simp[execOp,resolve,invoke,builtin,r],.inl rfl,D⟩
  ·cases l
 ·cases l
end
end Vm
namespace Vm
open Go
def J6(calls:FuncId->Array Value->World->(Ending->World->Prop)->Prop)(o:Oper)(a:Act)(K:Act->World->Prop):Result Next->Prop
 |.ok (.value v) w'=>K (a.put o.dst v) w'
 |.ok .skip w'=>K (a.put o.dst undef) w'
 |.ok (.enter f args) w'=>calls f args w' λe d=>∃v,e=.returned v/\K (a.put o.dst v) d
 |_=>False
section
variable (calls:FuncId->Array Value->World->(Ending->World->Prop)->Prop)(o:Oper)(a:Act)(K:Act->World->Prop)(w:World)
theorem Ny(v:Value):J6 calls o a K (.ok (.value v) w)=K (a.put o.dst v) w:=rfl
theorem Z7C:J6 calls o a K (.ok .skip w)=K (a.put o.dst undef) w:=rfl
theorem Nx(f:FuncId)(args:Array Value):J6 calls o a K (.ok (.enter f args) w)=calls f args w λe d=>∃v,e=.returned v/\K (a.put o.dst v) d:=rfl
end
def Pn(d:World->World->Prop)(P:Program)(fn:Func)(R:Ending->World->Prop):Exit->Act->World->Prop
 |.normal,a,w|.ret,a,w=>a.defers=[]/\∀w1,d w w1->∃v,(results fn a.tmps).run P w1=.ok v w1/\R (.returned v) w1
 |_,_,_=>False
class Lg (P:Program) where
 wp:Code->(Exit->Act->World->Prop)->Act->World->Prop
 calls:FuncId->Array Value->World->(Ending->World->Prop)->Prop
 todo:Array Oper->(Exit->Act->World->Prop)->List Nat->Act->World->Prop
 sim:World->World->Prop
 fit:Oper->Prop
 sim_eq:∀ {w w1},sim w w1->w1= {w with drawn:=w1.drawn}
 calls_mono:∀ {f args w} {R R':Ending->World->Prop},calls f args w R->(∀e w',R e w'->R' e w')->calls f args w R'
 wp_mono:∀ {c a w} {Q Q':Exit->Act->World->Prop},wp c Q a w->(∀e a w,Q e a w->Q' e a w)->wp c Q' a w
 wp_skip:∀ {Q a w},Q .normal a w->wp .skip Q a w
 wp_label:∀ {l Q a w},Q .normal a w->wp (.label l) Q a w
 wp_exit:∀ {id Q a w},Q (.exit id) a w->wp (.exit id) Q a w
 wp_ret:∀ {Q a w},Q .ret a w->wp .ret Q a w
 wp_seq:∀ {x y Q a w},wp x (Exit.then (wp y Q) Q) a w->wp (.seq x y) Q a w
 wp_scope:∀ {x} {Q:Exit->Act->World->Prop} {a w},wp x (Exit.noGoto Q) a w->wp (.scope x) Q a w
 wp_cond_true:∀ {c x y Q} {a:Act} {w},a.eval c=.bool true->wp x Q a w->wp (.cond c x y) Q a w
 wp_cond_false:∀ {c x y Q} {a:Act} {w},a.eval c=.bool false->wp y Q a w->wp (.cond c x y) Q a w
 wp_block:∀ {id x Q a w},wp x (Exit.inBlock id Q) a w->wp (.block id x) Q a w
 wp_loop:∀ {x Q a w} (I:Act->World->Prop) (μ:Act->World->Nat),I a w->(∀a w,I a w->wp x (Exit.then (λa' w'=>I a' w'/\μ a' w'<μ a w) Q) a w)->wp (.loop x) Q a w
 wp_region:∀ {id ops Q a w},(∀o∈ops,fit o)->todo ops Q (List.range ops.size) a w->wp (.region id ops false) Q a w
 wp_draw:∀ {id ops Q a} {w:World},(∀o∈ops,fit o)->(∀w1,sim w w1->∀t,todo ops Q (Region.schedule (P.follows .mixedOrders) ops t) a {w1 with drawn:=w1.drawn+1})->wp (.region id ops true) Q a w
 todo_nil:∀ {ops Q a w},Q .normal a w->todo ops Q [] a w
 todo_cons:∀ {ops Q i rest a w},(∀o∈ops,fit o)->(∀w1,sim w w1->match ops[i]? with
   |none=>todo ops Q rest a w1
   |some o=>if Region.wanted o (yielded ops a.tmps)=true then J6 calls o a (todo ops Q rest) ((execOp a.eval o).run P w1)else todo ops Q rest (a.put o.dst undef) w1)->todo ops Q (i::rest) a w
 calls_of_wp:∀ {f fn c args w R},P.funcs[f]?=some fn->fn.body=some c->wp c (Pn sim P fn R) {tmps:=args++Array.replicate (fn.ntmps-args.size) undef,defers:=[]} w->calls f args w R
instance (priority:=low) loneQ (P:Program):Lg P where
 wp c Q a w:=c.wp P Q a w
 calls f args w R:=Calls P f args w R
 todo ops Q l a w:=wpOps P ops Q l a w
 sim w w1:=w1=w
 fit _:=True
 sim_eq h:=by subst h;rfl
 calls_mono h k:=ZgY h k
 wp_mono h k:=Go.wp_mono h k
 wp_skip h:=Go.wp_skip h
 wp_label h:=Go.wp_label h
 wp_exit h:=Go.wp_exit h
 wp_ret h:=Go.wp_ret h
 wp_seq h:=Go.wp_seq h
 wp_scope h:=Go.wp_scope_straight h
 wp_cond_true:=Go.wp_cond_true
 wp_cond_false:=Go.wp_cond_false
 wp_block h:=Go.wp_block h
 wp_loop I μ h k:=Go.wp_loop I μ h k
 wp_region _ h:=Go.wp_region h
 wp_draw _ h:=Go.wp_region_draw λt=>h _ rfl t
 todo_nil h:=h
 todo_cons {ops Q i rest a w} _ h:=by
  have h:=h w rfl;rw[wpOps_cons];unfold wpOp
  revert h
  cases hi:ops[i]? with
  |none=>exact id
  |some o=>
   dsimp only;split
   ·intro h;left;unfold Oper.wp
    revert h
    cases(execOp a.eval o).run P w with
    |halt x w'=>exact False.elim
    |ok n w'=>
     cases n<;>first|exact id|exact False.elim|skip
     exactλh=>ZgY h λe w'' he=>by
      obtain⟨v,rfl,hk⟩:=he;exact hk
   ·exact id
 calls_of_wp {f fn c args w R} hf hb h:=Go.calls_of_wp hf hb (Go.wp_mono h λe a w he=>by
  cases e with
  |normal=>obtain⟨h1,h2⟩:=he;obtain⟨v,h3,h4⟩:=h2 w rfl;exact⟨h1,v,h3,h4⟩
  |ret=>obtain⟨h1,h2⟩:=he;obtain⟨v,h3,h4⟩:=h2 w rfl;exact⟨h1,v,h3,h4⟩
  |_=>exact he.elim)
def SE(P:Program) [Lg P](ops:Array Oper)(i:Nat)(K:Act->World->Prop)(a:Act)(w:World):Prop:=
 match ops[i]? with
 |none=>K a w
 |some o=>if Region.wanted o (yielded ops a.tmps)=true then J6 (Lg.calls P) o a K ((execOp a.eval o).run P w)else K (a.put o.dst undef) w
theorem Z49{P:Program} [Lg P]{ops:Array Oper}{i:Nat}{K j:Act->World->Prop}{a:Act}{w:World}(h:∀a w,K a w->j a w)(d:SE P ops i K a w):SE P ops i j a w:=by
 unfold SE at*;split
 ·exact h _ _ (by simpa[*]using d)
 ·rename_i o q;simp only[q]at d;split
  ·rename_i f;rw[if_pos f]at d
   revert d
   cases(execOp a.eval o).run P w with
   |halt x w'=>exact id
   |ok n w'=>
    cases n<;>first|exact id|exact h _ _|skip
    exactλk=>Lg.calls_mono k λe r ⟨v,l,p⟩=>⟨v,l,h _ _ p⟩
  ·rename_i f;rw[if_neg f]at d;exact h _ _ d
def La(P:Program) [Lg P](ops:Array Oper)(Q:Exit->Act->World->Prop):Nat->Array Bool->Act->World->Prop
 |0,listed,a,w=>Region.ready .any ops listed=[]/\Q .normal a w
 |n+1,listed,a,w=>(Region.ready .any ops listed=[]->Q .normal a w)/\∀i∈Region.ready .any ops listed,∀w1,Lg.sim P w w1->SE P ops i (La P ops Q n (listed.setIfInBounds i true)) a w1
theorem OL{P:Program} [Lg P]{ops:Array Oper}{Q:Exit->Act->World->Prop}(n:∀o∈ops,Lg.fit P o):∀(d t:Nat) (listed:Array Bool) (a:Act) (w:World),La P ops Q d listed a w->
  Lg.todo P ops Q (Region.linearise.go .any ops d t listed []) a w:=by
 intro d
 induction d with
 |zero=>intro t listed a w h;exact Lg.todo_nil h.2
 |succ d y=>
  intro t listed a w h;obtain⟨r,u⟩:=h;simp only[Region.linearise.go]
  change Lg.todo P ops Q (match(Region.ready .any ops listed)[t% (Region.ready .any ops listed).length]? with
   |some i=>Region.linearise.go .any ops d (t / (Region.ready .any ops listed).length) (listed.setIfInBounds i true) [i]
   |none=>[].reverse) a w
  cases j:(Region.ready .any ops listed)[t% (Region.ready .any ops listed).length]? with
  |none=>
   have f:Region.ready .any ops listed=[]:=by
    cases p:Region.ready .any ops listed with
    |nil=>rfl
    |cons x l=>
     rw[p]at j;have k:t% (x::l).length< (x::l).length:=Zgw _ Z1;simp at j;simp at k;omega
   exact Lg.todo_nil (r f)
  |some i=>
   simp only[];rw[linearise_go_acc,Zhe,Zgn];exact Lg.todo_cons n λw1 q=>Z49 (λa w=>y _ _ a w) (u i (Zdr j) w1 q)
theorem Z5O{P:Program} [Lg P]{ops:Array Oper}{Q:Exit->Act->World->Prop}{id:Nat}{a:Act}{w:World}(d:∀o∈ops,Lg.fit P o)(f:P.follows .mixedOrders=true)
  (h:∀w1,Lg.sim P w w1->La P ops Q ops.size (Array.replicate ops.size false) a {w1 with drawn:=w1.drawn+1}):Lg.wp P (.region id ops true) Q a w:=
 Lg.wp_draw d λw1 j t=>by
  simp only[Region.schedule,f,Bool.true_or,Ze3];exact OL d ops.size t _ a _ (h w1 j)
def To(p:Oper->Prop):Code->Prop
 |.region _ ops _=>∀o∈ops,p o
 |.seq x y=>To p x/\To p y
 |.cond _ x y=>To p x/\To p y
 |.block _ x|.loop x|.scope x=>To p x
 |_=>True
class FitF (P:Program) [Lg P] (f:FuncId):Prop where
 all:∀fn c,P.funcs[f]?=some fn->fn.body=some c->To (Lg.fit P) c
theorem D8{p:Oper->Prop}(h:∀o,p o):∀c:Code,To p c:=by
 intro c
 induction c with
 |region id ops d=>exactλo _=>h o
 |seq x y hx f=>exact⟨hx,f⟩
 |cond c x y hx f=>exact⟨hx,f⟩
 |block id x hx=>exact hx
 |loop x hx=>exact hx
 |scope x hx=>exact hx
 |_=>trivial
instance (priority:=low) fit_lone (P:Program) (f:FuncId): @FitF P (loneQ P) f:=⟨λ_ c _ _=>D8 (λ_=>trivial) c⟩
end Vm
namespace Vm
open Go
open Go.RowKit (Below)
def VM(P:Program)(f:FuncId):Bool:=
 match P.funcs[f]? with
 |some fn=> !(fn.name== "runtime.NumGoroutine")&&fn.body.isSome
 |none=>false
def VC(P:Program) [Lg P](f:FuncId)(fr:Bool)(args:List V)(r:V):Prop:=
 VM P f=true/\∀(w:World) (G:Nat->Prop) (vs:Array Value),(∀b,G b->b<w.heap.size)->vs.size=args.length->(∀(i:Nat) (x:V),args[i]?=some x->Rd w G x (vs.getD i undef))->
  Lg.calls P f vs w λe w'=>∃v,e=.returned v/\Below w.heap.size w w'/\Rd w' (λb=>(fr=false/\G b)\/(w.heap.size<=b/\b<w'.heap.size)) r v
def We(k:OT)(x:V):Option TK:=
 match k,x with
 |.fz,x=>some (.val (.c x) [])
 |.own f,x=>some (.own f (.c x))
 |.mem l,.agg d=>if d.length=l.length then some (.mem ((l.zip d).map λy=>(y.1,.c y.2)))else none
 |_,_=>none
def L6(P:Program)(B:Nat)(w:World)(h:GH)(ks:List OT)(xs:List V)(vs:Array Value):Prop:=
 xs.length=ks.length/\vs.size=ks.length/\∀(i:Nat) (k:OT) (x:V),ks[i]?=some k->xs[i]?=some x->∃d,We k x=some d/\RelK P B [] w h (λ_=>none) i (vs.getD i undef) d
def CX(P:Program)(B:Nat)(w:World)(h:GH)(ks:List OT)(ys:List V)(vs:Array Value):Prop:=
 ys.length=ks.length/\∀(i:Nat) (k:OT) (y:V),ks[i]?=some k->k≠.fz->ys[i]?=some y->∃d,We k y=some d/\RelK P B [] w h (λ_=>none) i (vs.getD i undef) d
def Xz:List OT->List V->List V
 |.fz::ks,_::d=>Xz ks d
 |_::ks,y::d=>y::Xz ks d
 |_,_=>[]
def QR(r:V)(d:List V):V:=
 match d with
 | []=>r
 |d=>.tup (r::d)
def V7(P:Program) [Lg P](f:FuncId)(ks:List OT)(xs:List V)(R:V):Prop:=
 VM P f=true/\∀(B:Nat) (w:World) (h:GH) (vs:Array Value),Ok B h.F w h->L6 P B w h ks xs vs->
  Lg.calls P f vs w λe w'=>∃v r d h',e=.returned v/\Below B w w'/\Same h.K w w'/\Ok B h.F w' h'/\h'.K=h.K/\Rd w' h'.F r v/\CX P B w' h' ks d vs/\R=QR r (Xz ks d)
def Vc(s:St):FN->Option FuncId
 |.id f=>some f
 | .e x=>match eval s x with
   |some (.fn f)=>some f
   |_=>none
def Qh:V->Option (FuncId×List V)
 |.fn f=>some (f,[])
 |.clo f d=>some (f,d)
 |_=>none
def Ut(s:St):FN->Option (FuncId×List V)
 |.id f=>some (f,[])
 |.e x=>(eval s x).bind Qh
def Ws(s:St):List OT->List E->Option (List V)
 |.fz::ks,_::d=>Ws s ks d
 |_::ks,e::d=>(eval s e).bind λx=>(Ws s ks d).map (x:: ·)
 |_,_=>some []
def Q5(P:Program) [Lg P](s:St):EF->Prop
 |.lt i C e=>holds s C->∃x,eval s e=some x/\get s i=.v x
 |.call i C f k fl aq_=>holds s C->∃d n r,YB s aq_=some d/\Ut s f=some n/\VC P n.1 k (d++n.2) r/\(fl=true->Wh r=some r)/\get s i=.v r
 | .callm i C f ks aq_=>(holds s C->∃d n R,YB s aq_=some d/\Vc s f=some n/\V7 P n ks d R/\get s i=.v R)/\
   (¬holds s C->∃j,Ws s ks aq_=some j/\(j≠[]->get s i=.v (.tup (.bool false::j))))
section
variable {c:Ctx}{B:Nat}{G:Nat->Prop}{s:St}{a a':Act}{w w':World}{h h':GH}{g:Gam}{C:ZC}{fz ps rb:List Nat}{ops:Array Oper}
def Ti:List (E×Option Nat)->Nat->Option Nat
 | [],_=>none
 |x::l,u=>if x.2=some u then some 0 else(Ti l u).map (· +1)
theorem KN:∀ {l:List (E×Option Nat)} {u i:Nat},Ti l u=some i->∃e,l[i]?=some (e,some u)
 | [],u,i,d=>by cases d
 | (e,o)::l,u,i,d=>by
   simp only[Ti]at d;split at d
   ·rename_i f;have f:o=some u:=f;simp only[Zdj]at d;subst d f;exact⟨e,rfl⟩
   ·simp only[Zdm]at d;obtain⟨j,p,rfl⟩:=d;obtain⟨k,n⟩:=KN p;exact⟨k,by simpa using n⟩
theorem BZ:∀ {l:List (E×Option Nat)} {u:Nat},Ti l u=none->u∉l.filterMap (·.2)
 | [],u,_,f=>by simp at f
 | (e,o)::l,u,d,f=>by
   simp only[Ti]at d;split at d
   ·cases d
   ·rename_i j;have j:¬o=some u:=j;simp only[Zhf]at d;have:=BZ d;simp_all
theorem J2{l:List (E×Option Nat)}{e:E}{u i:Nat}(d:l[i]?=some (e,some u)):u∈l.filterMap (·.2):=
 Zg7.2 ⟨_,Zdr d,rfl⟩
theorem Gw:∀ {l:List Nat},TM l=true↔l.Nodup
 | []=>by simp[TM]
 |x::l=>by
  simp_all[TM,Zdn,Zeh,ZeP,Zga,Zfd,Gw]
theorem yU:∀ {l:List (E×Option Nat)} {e n:E} {u i j:Nat},(l.filterMap (·.2)).Nodup->l[i]?=some (e,some u)->l[j]?=some (n,some u)->i=j
 | [],e,n,u,i,j,_,f,_=>by simp at f
 | (t,o)::l,e,n,u,i,j,d,f,k=>by
   have r:(l.filterMap (·.2)).Nodup:=by
    cases o with
    |none=>simpa using d
    |some p=>simp only[Zf1,Zfd]at d;exact d.2
   cases i with
   |zero=>
    simp at f;cases j with
    |zero=>rfl
    |succ j=>
     exfalso;have q:=J2 (l:=l) (i:=j) (by simpa using k);rw[f.2]at d;simp only[Zf1,Zfd]at d;exact d.1 q
   |succ i=>
    cases j with
    |zero=>
     exfalso;simp at k;have q:=J2 (l:=l) (i:=i) ZcL;rw[k.2]at d;simp only[Zf1,Zfd]at d;exact d.1 q
    |succ j=>
     have:=yU (i:=i) (j:=j) r ZcL (by simpa using k);rw[this]
theorem Z6Z{l:List (E×Option Nat)}(f:(l.filterMap (·.2)).Nodup){e:E}{u i:Nat}(d:l[i]?=some (e,some u)):Ti l u=some i:=by
 cases hx:Ti l u with
 |none=>exact absurd (J2 d) (BZ hx)
 |some j=>
  grind [KN,yU]
def V9(g:Gam)(h:GH)(ks:List OT)(aq_:List (E×Option Nat))(i j:Nat):Option Nat:=
 match(aq_[i]?).bind (·.2),ks[i]? with
 |some p,some (.mem _)=>match j with
  |0=>h.bl p 0
  |j+1=>match(memOf g p).bind λd=>d[j]? with
   |some (.own _,_)=>h.bl p (j+1)
   |_=>none
 |some p,some (.own _)=>if j=1 then h.bl p 1 else none
 |_,_=>none
theorem R4{ks:List OT}{aq_:List (E×Option Nat)}{i j b:Nat}(d:V9 g h ks aq_ i j=some b):∃p e k,aq_[i]?=some (e,some p)/\ks[i]?=some k/\k≠.fz/\h.bl p j=some b/\(∀f,k=.own f->j=1):=by
 unfold V9 at d
 grind
def Va(g:Gam)(h:GH)(w:World)(ks:List OT)(aq_:List (E×Option Nat)):GH:=
 {F:=h.F,bl:=V9 g h ks aq_,K:=λb=>b<w.heap.size/\∀i j,V9 g h ks aq_ i j≠some b}
theorem DA(f:Ok B G w h){ks:List OT}{aq_:List (E×Option Nat)}(z:(aq_.filterMap (·.2)).Nodup):Ok B h.F w (Va g h w ks aq_):=by
 refine⟨f.base,f.f_lt,λb d=>.inl d,λb d=>d,λt i b d=> ?_,λt i u j b d l=> ?_,λb d=>d.1,λt i b d y=>y.2 t i d,λb d=>.inl d⟩
 ·obtain⟨p,_,_,_,_,_,k,_⟩:=R4 d;exact f.b_lt p i b k
 ·obtain⟨p,e,_,k,_,_,n,_⟩:=R4 d;obtain⟨q,A,_,r,_,_,x,_⟩:=R4 l;obtain⟨rfl,rfl⟩:=f.inj p i q j b n x;exact⟨yU z k r,rfl⟩
def Ji(a:Act)(h:GH)(x:AP)(v:Value):Prop:=
 match x with
 |.op x _=>v=a.eval x
 |.cap p=>∃b,h.bl p 0=some b/\v=.pointer (some ⟨b,0,none⟩)
theorem GP:∀ {a b:List CK},QN c.P a b=true->a.length=b.length/\∀(i:Nat) (x y:CK),a[i]?=some x->b[i]?=some y->x=y\/x=.nil/\(y=.fz\/∃j,y=.own j/\0<c.P.cellsOf j)
 | [],[],_=>⟨rfl,λi x y hx=>by simp at hx⟩
 | [],_::_,h=>by simp[QN]at h
 |_::_,[],h=>by simp[QN]at h
 |x::a,y::b,h=>by
  simp only[QN,Zdn,ZdC,Ze5]at h;obtain⟨d,k⟩:=h;obtain⟨l,n⟩:=GP k;refine⟨by simp[l],λi p q hx f=> ?_⟩;cases i with
  |zero=>
   simp at hx f;subst hx f;obtain d|d:=d
   ·exact .inl d
   ·split at d
    ·simp only[ZdH]at d;exact .inr ⟨rfl,.inr ⟨_,rfl,d⟩⟩
    ·exact .inr ⟨rfl,.inl rfl⟩
    ·cases d
  |succ i=>exact n i p q (by simpa using hx) ZcL
theorem RelC.const{P:Program}{o:Option Nat}{k:CK}{e:E}{v:Value}{x:V}(j:RelC P B s w h o k e v)(hx:eval s e=some x){h2:GH}(p:h2.F=h.F):RelC P B [] w h2 o k (.c x) v:=by
 cases k with
 |fz=>obtain⟨y,d,f,l⟩:=j;rw[hx]at d;cases d;exact⟨x,rfl,f,l.mono λb n=>Zcq⟩
 |own q=>obtain⟨y,d,f⟩:=j;rw[hx]at d;cases d;exact⟨x,rfl,f.mono (λb n=>Zcq) rfl⟩
 |nil=>obtain⟨d,f⟩:=j;rw[hx]at f;cases f;exact⟨d,rfl⟩
 |dead=>exact j
theorem Z70(l:RelG c B G s a w h g)(k:holds s (ZI c C)){x:AP}{p:Nat}{v:Value}(d:C3 g C x=some p)(f:Ji a h x v):∃b,h.bl p 0=some b/\v=.pointer (some ⟨b,0,none⟩):=by
 unfold C3 at d;split at d
 ·simp only[Zdj]at d;subst d;exact f
 ·rename_i t y;have f:v=a.eval (.tmp t):=f;subst f;split at d
  ·rename_i n j;simp only[Zdj]at d;subst d;obtain⟨v,f,⟨b,vs,T,r,u,_⟩,_⟩:=l.look k (show look g C t=_ from j) rfl;simp_all[Act.eval_tmp]
  ·rename_i q j;simp only[Zdj]at d;subst d;exact XG l k j rfl 0
  ·cases d
 ·cases d
theorem yb(hr:RelG c B G s a w h g){k:OT}{x:AP}{e:E}{p:Nat}(d:SI c g C k x=some (e,some p)){X:V}(hX:eval s e=some X){ks:List OT}{aq_:List (E×Option Nat)}{i:Nat}(hk:ks[i]?=some k)(hi:aq_[i]?=some (e,some p)):
  ∃v,a.tmps[p]?=some v/\(∃tk,We k X=some tk/\RelK c.P B [] w (Va g h w ks aq_) (λ_=>none) i v tk)/\((∃l b,k=.mem l/\h.bl p 0=some b/\v=.pointer (some ⟨b,0,none⟩))\/∃R,k=.own R):=by
 unfold SI at d;split at d
 ·split at d
  ·simp only[Zdi]at d;obtain⟨_,_,d⟩:=d;split at d
   ·simp at d
   ·cases d
  ·cases d
 ·
  rename_i l;simp only[Zdi]at d;obtain⟨p,hs,r,J,d⟩:=d;split at d
  ·rename_i A;simp only[Zdn,Zeh]at A;obtain⟨N,Q⟩:=A;simp only[Zdj,Zdx]at d;obtain⟨rfl,rfl⟩:=d;obtain⟨b,vs,T,h1,h2,h3,h4⟩:=hr.memOf J;obtain⟨a1,Z⟩:=GP Q;simp only[Ze9]at a1;have W:=hX;simp only[eval,Zdm]at W;obtain⟨xs,b0,a7⟩:=W;obtain⟨a9,L⟩:=Us b0;have b3:xs.length=r.length:=by simpa using a9
   have a2:∀x∈xs,x.one=true:=λx hx=>by
    obtain⟨j,I⟩:=ZdM hx;have n:j<r.length:=by have:=(Zdl.1 I).1;omega
    obtain⟨x',D,f⟩:=L j (r[j]).2 ZcT;rw[I]at D;cases D;have M:=h4.2 j r[j] (Zdk n)
    obtain⟨z,hz,b1,_⟩:=M.rd (G':=λ_=>True) (λhd=>by
     have:Wl r=true:=ZeX.2 ⟨r[j],ZdA n,by simp[hd]⟩;rw[N]at this;cases this) (λ_ _=>trivial) λ_ _ _ _=>trivial
    rw[f]at hz;cases hz;exact b1
   have a6:X=.agg xs:=by rw[<-a7];simp only[Tn,VR a2]
   subst a6;have a8:xs.length=l.length:=Z0;have Y:V9 g h ks aq_ i 0=h.bl p 0:=by simp[V9,hi,hk]
   refine⟨_,h2,⟨.mem ((l.zip xs).map λy=>(y.1,.c y.2)),by simp only[We,a8,Ze3],b,vs,T,by show V9 g h ks aq_ i 0=_;rw[Y];exact h1,rfl,h3,by rw[h4.1];simp;omega,λj ck I=> ?_⟩,.inl ⟨l,b,rfl,h1,rfl⟩⟩;simp only[ZdJ,Zdm]at I;obtain⟨⟨a5,x1⟩,I,rfl⟩:=I;rw[ZgU]at I;obtain⟨a0,O⟩:=I;have n:j<r.length:=by have:=(Zdl.1 O).1;omega
   obtain⟨x',D,f⟩:=L j (r[j]).2 ZcT;simp only at O a0;rw[O]at D;cases D;have M:=h4.2 j r[j] (Zdk n)
   have F:V9 g h ks aq_ i (j+1)=match r[j]with|(.own _,_)=>h.bl p (j+1)|_=>none:=by
    simp only[V9,hi,hk,J,Zdt,Zdk n];rcases r[j]with ⟨kk,e⟩;cases kk<;>rfl
   obtain H|⟨H,rfl|⟨R,rfl,h0⟩⟩:=Z j (r[j]).1 a5 ZcT a0
   ·rw[<-H];show RelC c.P B [] w (Va g h w ks aq_) (V9 g h ks aq_ i (j+1)) (r[j]).1 (.c x1) (vs.getD j undef);rw[F];have t:=M.const f (h2:=Va g h w ks aq_) rfl;generalize r[j]=q at t;obtain⟨kk,e⟩:=q;cases kk with
    |own R=>exact t
    |fz=>exact t
    |nil=>exact t
    |dead=>exact t
   ·show RelC c.P B [] w (Va g h w ks aq_) (V9 g h ks aq_ i (j+1)) .fz (.c x1) (vs.getD j undef);generalize r[j]=q at H M f;obtain⟨kk,e⟩:=q;simp only at H;subst H;obtain⟨e1,S⟩:=M;simp only at f S;rw[S]at f;cases f;rw[e1];exact⟨_,rfl,rfl,.nil _ _ (Zex _)⟩
   ·show RelC c.P B [] w (Va g h w ks aq_) (V9 g h ks aq_ i (j+1)) (.own R) (.c x1) (vs.getD j undef);rw[F];generalize r[j]=q at H M f;obtain⟨kk,e⟩:=q;simp only at H;subst H;obtain⟨e1,S⟩:=M;simp only at f S;rw[S]at f;cases f;rw[e1];exact⟨_,rfl,.inl ⟨[],[],rfl,h0,λx hx=>by simp at hx,ZeN w B R _,rfl,λi ck hi=>by simp[flat]at hi⟩⟩
  ·cases d
 ·
  rename_i R;simp only[Zdi]at d;obtain⟨p,hs,⟨b2,e'⟩,ho,d⟩:=d;split at d
  ·rename_i a4;simp only at a4;subst a4;simp only[Zdj,Zdx]at d;obtain⟨rfl,rfl⟩:=d;obtain⟨u,hu,X',U,a3⟩:=hr.ownOf ho;rw[hX]at U;cases U;have F:V9 g h ks aq_ i 1=h.bl p 1:=by simp[V9,hi,hk]
   refine⟨u,hu,⟨_,rfl,X,rfl,?_⟩,.inr ⟨_,rfl⟩⟩;show OwnV c.P B w (Va g h w ks aq_) (V9 g h ks aq_ i 1) b2 X u;rw[F];exact a3.mono (λ_ hb=>hb) rfl
  ·cases d
 ·cases d
theorem Iv(H:RelG c B G s a w h g)(I:holds s (ZI c C)){k:OT}{x:AP}{y:E×Option Nat}(d:SI c g C k x=some y){X:V}(D:eval s y.1=some X){v:Value}(l:Ji a h x v){ks:List OT}{aq_:List (E×Option Nat)}{i:Nat}(U:ks[i]?=some k)(T:aq_[i]?=some y):
  (∃Q,We k X=some Q/\RelK c.P B [] w (Va g h w ks aq_) (λ_=>none) i v Q)/\∀p,y.2=some p->a.tmps[p]?=some v:=by
 obtain⟨e,o⟩:=y;cases o with
 |none=>
  refine⟨?_,λp d=>by cases d⟩;unfold SI at d;split at d
  ·split at d
   ·rename_i x ty;simp only[Zdi]at d;obtain⟨R,J,d⟩:=d;split at d
    ·rename_i n;simp only[Zdj,Zdx,and_true]at d;subst d;obtain⟨z,Y,N⟩:=V2 H I J;obtain⟨z',A,j⟩:=Rc (fl:=XF c.P ty) (b:=R) Y N ⟨X,D⟩;simp only at D;rw[D]at A;cases A;have l:v=a.eval x:=l;subst l;rw[ZfV.1 n]at j;exact⟨_,rfl,X,rfl,j.F.mono λb S=>GH.ext_F S⟩
    ·cases d
   ·cases d
  ·simp only[Zdi]at d;obtain⟨_,_,_,_,d⟩:=d;split at d
   grind
   ·cases d
  ·simp only[Zdi]at d;obtain⟨_,_,_,_,d⟩:=d;split at d
   grind
   ·cases d
  ·cases d
 |some p=>
  obtain⟨u,hu,r,L⟩:=yb H d D U T
  have W:u=v:=by
   unfold SI at d;split at d
   ·split at d
    ·simp only[Zdi]at d;obtain⟨_,_,d⟩:=d;split at d
     grind
     ·cases d
    ·cases d
   ·simp only[Zdi]at d;obtain⟨Z,f,cs,O,d⟩:=d;split at d
    ·simp only[Zdj,Zdx]at d;obtain⟨_,rfl⟩:=d;obtain⟨b,q1,rfl⟩:=Z70 H I f l;simp_all
    ·cases d
   ·simp only[Zdi]at d;obtain⟨Z,f,⟨a1,e'⟩,ho,d⟩:=d;split at d
    ·simp only[Zdj,Zdx]at d;obtain⟨_,rfl⟩:=d;unfold MY at f;split at f
     ·rename_i t tt;have l:v=a.eval (.tmp t):=l;subst l;split at f
      ·simp_all[Zdj,Act.eval_tmp]
      ·rename_i q M;simp only[Zdj]at f;subst f;have r:a.tmps[q]?=some (a.eval (.tmp t)):=XG H I M rfl 0;simp_all
      ·cases f
     ·cases f
    ·cases d
   ·cases d
  simp_all
end
end Vm
namespace Vm
open Go
open Go.RowKit (Below)
section
variable {c:Ctx}{B:Nat}{G:Nat->Prop}{s:St}{a a':Act}{w w':World}{h h' hx:GH}{g:Gam}{C:ZC}{fz ps rb:List Nat}{ops:Array Oper}{ks:List OT}{aq_:List (E×Option Nat)}
structure OPost (c:Ctx) (B:Nat) (G:Nat->Prop) (s:St) (a a':Act) (w w':World) (h h':GH) (os:OS):Prop where
 step:Step B os.ps os.rb os.fz w w' h h'
 ok:Ok B G w' h'
 size:a'.tmps.size=a.tmps.size
 defers:a'.defers=a.defers
 tm:∀t,t∉os.ps->a'.tmps[t]?=a.tmps[t]?
 ent:∀t∈ZS os.d,(holds s (ZI c (os.d.at t).1)->(os.d.at t).2.isNo=false->∃v,a'.tmps[t]?=some v/\RelK c.P B s w' h' (λp=>a'.tmps[p]?) t v (os.d.at t).2)/\(¬holds s (ZI c (os.d.at t).1)->a'.tmps.getD t undef=undef)
theorem yg(a:Act)(d:Option Nat)(v:Value):(a.put d v).tmps.size=a.tmps.size:=by
 cases d<;>simp[Act.put]
theorem yf(a:Act)(d:Option Nat)(v:Value):(a.put d v).defers=a.defers:=by
 cases d<;>rfl
theorem IR{d:Nat}(v:Value){t:Nat}(f:t∉ [d]):(a.put (some d) v).tmps[t]?=a.tmps[t]? :=RI Zcp v
def Vt(h hx:GH)(aq_:List (E×Option Nat)):GH:=
 {F:=λb=>h.F b\/hx.F b,K:=h.K,
  bl:=λu j=>match Ti aq_ u with
   |some i=>if j=0 then h.bl u 0 else hx.bl i j
   |none=>h.bl u j}
theorem P5(f:Ok B G w h)(hn:(aq_.filterMap (·.2)).Nodup)(n:Ok B h.F w' hx)(Q:hx.K=(Va g h w ks aq_).K)(L:w.heap.size<=w'.heap.size)
  (W:∀(i:Nat) (e:E) (p:Nat),aq_[i]?=some (e,some p)->(∃l,ks[i]?=some (.mem l)/\hx.bl i 0=h.bl p 0)\/∃O,ks[i]?=some (.own O)):Ok B G w' (Vt h hx aq_):=by
 have D:∀b,h.K b->(Va g h w ks aq_).K b:=λb d=>⟨f.k_lt b d,λi j z=>by
  obtain⟨p,_,_,_,_,_,r,_⟩:=R4 z;exact f.k_bl p j b r d⟩
 have WX:∀ {t j b:Nat},h.bl t j=some b->Ti aq_ t=none->hx.K b:=by
  intro t j b d ht;rw[Q];refine⟨(f.b_lt t j b d).2.1,λi q z=> ?_⟩;obtain⟨p,e,_,r,_,_,T,_⟩:=R4 z;obtain⟨rfl,_⟩:=f.inj t j p q b d T;exact BZ ht (J2 r)
 have Z:∀ {t i:Nat} {e:E} {b:Nat},aq_[i]?=some (e,some t)->(∃O,ks[i]?=some (OT.own O))->h.bl t 0=some b->hx.K b:=by
  intro t i e b R I d;rw[Q];refine⟨(f.b_lt t 0 b d).2.1,λX q z=> ?_⟩;obtain⟨p,e',k,r,P,_,T,h4⟩:=R4 z;obtain⟨rfl,rfl⟩:=f.inj t 0 p q b d T;have:=yU hn R r;subst this;obtain⟨O,I⟩:=I;rw[I]at P;cases P;have:=h4 O rfl;omega
 have a0:∀ {t j b:Nat},h.bl t j=some b->hx.K b->¬(h.F b\/hx.F b):=by
  intro t j b d y x;obtain x|x:=x
  ·exact(f.b_lt t j b d).2.2 x
  ·obtain r|r:=n.k_F b x
   ·exact(f.b_lt t j b d).2.2 r
   simp_all
 refine⟨n.base,λb d=> ?_,λb d=> ?_,λb d=>.inl (f.g_F b d),λt j b d=> ?_,λt j u q b d U=> ?_,λb d=>Zdw (f.k_lt b d) L,λt j b d y=> ?_,λb d=> ?_⟩
 ·obtain d|d:=d
  ·exact Zdw (f.f_lt b d) L
  ·exact n.f_lt b d
 ·obtain d|d:=d
  ·exact f.f_or b d
  ·obtain r|r:=n.f_or b d
   ·exact f.f_or b r
   omega
 ·simp only[Vt]at d⊢;split at d
  ·rename_i i H;obtain⟨e,R⟩:=KN H;split at d
   ·rename_i hj;subst hj;obtain⟨l,I,h0⟩|I:=W i e t R
    ·rw[<-h0]at d;obtain⟨M,N,Y⟩:=n.b_lt i 0 b d;refine⟨M,N,λx=> ?_⟩;obtain x|x:=x
     ·exact Y (n.g_F b x)
     grind
    ·obtain⟨M,N,_⟩:=f.b_lt t 0 b d
     grind
   ·obtain⟨M,N,Y⟩:=n.b_lt i j b d;refine⟨M,N,λx=> ?_⟩;obtain x|x:=x
    ·exact Y (n.g_F b x)
    grind
  ·rename_i H;obtain⟨M,N,_⟩:=f.b_lt t j b d
   grind
 ·
  have place:∀ {t j:Nat},(Vt h hx aq_).bl t j=some b->(∃i e,aq_[i]?=some (e,some t)/\hx.bl i j=some b)\/(h.bl t j=some b/\hx.K b):=by
   intro t j d;simp only[Vt]at d;split at d
   ·grind [KN]
   ·grind
  obtain⟨i,e,R,r⟩|⟨r,P⟩:=place d<;>obtain⟨X,e',a1,A⟩|⟨A,S⟩:=place U
  ·obtain⟨rfl,rfl⟩:=n.inj i j X q b r A;simp_all
  ·exact absurd S (n.k_bl i j b r)
  ·exact absurd P (n.k_bl X q b A)
  ·exact f.inj t j u q b r A
 ·have J:=D b y;rw[<-Q]at J;simp only[Vt]at d;split at d
  ·rename_i i H;split at d
   ·exact f.k_bl t 0 b (by assumption) y
   ·exact n.k_bl i j b d J
  ·exact f.k_bl t j b d y
 ·obtain d|d:=d
  ·exact f.k_F b d
  ·obtain r|r:=n.k_F b d
   ·exact f.k_F b r
   ·exact .inr λy=>r (by rw[Q];exact D b y)
theorem P6(q:Ok B G w h){d:Nat}(k:Below B w w')(f:Same (Va g h w ks aq_).K w w'):Step B (d::aq_.filterMap (·.2)) [d] [] w w' h (Vt h hx aq_):=by
 refine⟨k,λb l u=>f b ⟨l,λi j n=> ?_⟩,λb n=>.inl n,λt r _=> ?_,λt r=> ?_,λ_ _ _ _ p=>(by simp at p),rfl⟩
 ·grind [R4,J2]
 ·grind [Ti,KN,absurd,List.mem_cons_of_mem,J2,Vt]
 grind [Vt]
theorem zO{i0:Nat}:∀ {q:Nat} {ks:List OT} {aq_:List (E×Option Nat)} {ys:List V},aq_.length=ks.length->ys.length=ks.length->(∀(j:Nat) (k:OT) (y:E×Option Nat),ks[j]?=some k->aq_[j]?=some y->(y.2=none↔k=OT.fz))->∀(t:Nat),t∈ZS (XH i0 q ks aq_)->
  ∃(j:Nat) (k:OT) (e:E) (y:V) (r:Nat),ks[j]?=some k/\aq_[j]?=some (e,some t)/\ys[j]?=some y/\(XH i0 q ks aq_).at t=([],JY i0 (q+r) k)/\(Xz ks ys)[r]?=some y
 |q,[],aq_,ys,_,_,_,t,d=>by
  have:XH i0 q [] aq_=[]:=by unfold XH;rfl
  rw[this]at d;simp[ZS]at d
 |q,k::ks,[],ys,x,_,_,t,d=>by simp at x
 |q,k::ks,(e,o)::aq_,[],_,z,_,t,d=>by simp at z
 |q,k::ks,(e,o)::aq_,y::ys,x,z,P,t,d=>by
  have Q:=P 0 k (e,o) rfl rfl;have n:∀(j:Nat) (k:OT) (y:E×Option Nat),ks[j]?=some k->aq_[j]?=some y->(y.2=none↔k=.fz):=λj k y R S=>P (j+1) k y (by simpa using R) (by simpa using S);cases o with
  |none=>
   have f:k=.fz:=Q.1 rfl;subst f;have D:XH i0 q (.fz::ks) ((e,none)::aq_)=XH i0 q ks aq_:=by simp only[XH]
   have u:Xz (.fz::ks) (y::ys)=Xz ks ys:=by simp only[Xz]
   rw[D]at d⊢;obtain⟨j,H,A,O,r,I,J,L,M,N⟩:=zO (ys:=ys) (by simpa using x) (by simpa using z) n t d;exact⟨j+1,H,A,O,r,by simpa using I,by simpa using J,by simpa using L,M,by rw[u];exact N⟩
  |some p=>
   have f:k≠.fz:=λe=>by have:=Q.2 e;cases this
   have D:XH i0 q (k::ks) ((e,some p)::aq_)=(p,[],JY i0 q k)::XH i0 (q+1) ks aq_:=by simp only[XH]
   have u:Xz (k::ks) (y::ys)=y::Xz ks ys:=by cases k<;>first|exact absurd rfl f|simp only[Xz]
   rw[D]at d⊢;by_cases l:p=t
   ·subst l;exact⟨0,k,e,y,0,rfl,rfl,rfl,by simp[Gam.at],by rw[u];rfl⟩
   ·have F:t∈ZS (XH i0 (q+1) ks aq_):=by
     simp only[ZS,ZdK,ZdG]at d;exact d.resolve_left λe=>l e.symm
    obtain⟨j,H,A,O,r,I,J,L,M,N⟩:=zO (ys:=ys) (by simpa using x) (by simpa using z) n t F;exact⟨j+1,H,A,O,r+1,by simpa using I,by simpa using J,by simpa using L,by simp only[Gam.at,if_neg l];rw[M,ZeF,Zgo 1 r],by rw[u];simpa using N⟩
theorem AF{i0:Nat}:∀ {q:Nat} {ks:List OT} {aq_:List (E×Option Nat)},aq_.length=ks.length->ZS (XH i0 q ks aq_)=aq_.filterMap (·.2)
 |q,[],[],_=>by simp[XH,ZS]
 |q,[],_::_,h=>Zd1
 |q,k::ks,[],h=>Zd1
 |q,k::ks,(e,o)::aq_,h=>by
  cases o with
  |none=>
   have d:XH i0 q (k::ks) ((e,none)::aq_)=XH i0 q ks aq_:=by simp only[XH]
   rw[d,AF (by simpa using h)];simp
  |some p=>
   have d:XH i0 q (k::ks) ((e,some p)::aq_)=(p,[],JY i0 q k)::XH i0 (q+1) ks aq_:=by simp only[XH]
   rw[d];have:=AF (i0:=i0) (q:=q+1) (ks:=ks) (aq_:=aq_) (by simpa using h);simp only[ZS,ZdK]at this⊢;rw[this];simp
theorem Z3D{P:Program}{i0 q j p:Nat}{k:OT}{y:V}{L:List V}{v:Value}(hk:k≠.fz)(N:get s i0=.v (.tup L))(X:L[q]?=some y){hx h':GH}(n:∃W,We k y=some W/\RelK P B [] w' hx (λ_=>none) j v W)
  (S:∀b,hx.F b->h'.F b) (h0:(∃l,k=.mem l)->h'.bl p 0=hx.bl j 0) (D:∀i,h'.bl p (i+1)=hx.bl j (i+1)) (tm:Nat->Option Value):RelK P B s w' h' tm p v (JY i0 q k):=by
 obtain⟨W,d,n⟩:=n;have H:eval s (.ext (.s i0) q)=some y:=by simp only[eval,N,Zdt,Ts,X]
 cases k with
 |fz=>simp_all
 |own ty=>
  simp only[We,Zdj]at d;subst d;obtain⟨x,O,M⟩:=n;simp only[eval,Zdj]at O;subst O;exact⟨y,H,M.mono S (D 0).symm⟩
 |mem l=>
  cases y<;>simp only[We]at d<;>first|(cases d;done)|skip
  rename_i Q;split at d
  ·rename_i J;simp only[Zdj]at d;subst d;obtain⟨b,vs,T,e1,Y,Z,e4,e5⟩:=n;refine⟨b,vs,T,Zcq,Y,Z,Zcq,λi ck u=> ?_⟩;simp only[ZdJ,Zdm]at u;obtain⟨⟨kk,i'⟩,u,rfl⟩:=u;rw[Zfv,Zdm]at u;obtain⟨z,u,I⟩:=u;simp only[Zdx,Ze7]at I;obtain⟨rfl,rfl⟩:=I;have U:i<Q.length:=by rw[J];exact(Zdl.1 u).1
   have R:=e5 i (z,.c Q[i]) Zcp;show RelC P B s w' h' (h'.bl p (i+1)) z (.fld (.ext (.s i0) q) i) (vs.getD i undef);rw[D]
   have r:Q[i].one=true->eval s (.fld (.ext (.s i0) q) i)=some Q[i]:=λh1=>by
    simp only[eval,N,Zdt,Ts,X,ZZ,V.pc,Zdk U,YR,h1,Ze3]
   cases z with
   |fz=>
    obtain⟨x,A,t,q3⟩:=R;simp only[eval,Zdj]at A;subst A;exact⟨_,r t,t,q3.mono S⟩
   |own ty=>
    obtain⟨x,A,t⟩:=R;simp only[eval,Zdj]at A;subst A;exact⟨_,r t.one,t.mono S rfl⟩
   |nil=>
    obtain⟨A,t⟩:=R;simp only[eval,Zdj]at t;exact⟨A,by rw[r (by rw[t];rfl),t]⟩
   |dead=>exact R
  grind
 |nil=>grind [We]
 |clo f l=>grind [We]
theorem QT:∀ {ks:List OT} {d:List AP} {aq_:List (E×Option Nat)},UB c g C ks d=some aq_->d.length=ks.length/\aq_.length=ks.length/\∀(i:Nat) (k:OT) (x:AP) (y:E×Option Nat),ks[i]?=some k->d[i]?=some x->aq_[i]?=some y->SI c g C k x=some y
 | [],[],aq_,h=>by
   simp only[UB,Zdj]at h;subst h;exact⟨rfl,rfl,λi k x y u=>by simp at u⟩
 | [],_::_,aq_,h=>by simp[UB]at h
 |_::_,[],aq_,h=>by simp[UB]at h
 |k::ks,x::l,aq_,h=>by
  simp only[UB,Zdi,Zdm]at h;obtain⟨y,z,H,f,rfl⟩:=h;obtain⟨q,r,t⟩:=QT f;refine⟨by simp[q],by simp[r],λi A D F j n p=> ?_⟩;cases i with
  |zero=>simp at j n p;subst j n p;exact z
  |succ i=>exact t i A D F Zcp Zcp Zcp
theorem OO(H:RelG c B G s a w h g)(A:holds s (ZI c C)){d:List AP}(F:UB c g C ks d=some aq_){xs:List V}(q:YB s (aq_.map (·.1))=some xs){vs:Array Value}(I:vs.size=d.length)(n:∀(i:Nat) (x:AP),d[i]?=some x->Ji a h x (vs.getD i undef)):
  L6 c.P B w (Va g h w ks aq_) ks xs vs:=by
 obtain⟨J,t,u⟩:=QT F;obtain⟨y,z⟩:=Us q;refine⟨by rw[y];simpa using t,Z0,λi k x j hx=> ?_⟩;have D:i<ks.length:=(Zdl.1 j).1;have r:d[i]?=some d[i]:=Zdk Z0;have l:aq_[i]?=some aq_[i]:=Zdk Z0;obtain⟨L,f,p⟩:=z i (aq_[i]).1 (by rw[ZdJ,l];rfl);rw[hx]at f;cases f;exact(Iv H A (u i k _ _ j r l) p (n i _ r) j l).1
theorem DB(hr:RelG c B G s a w h g){W:List AP}(hp:UB c g C ks W=some aq_)(hn:(aq_.filterMap (·.2)).Nodup){d:Nat}(hd:d<a.tmps.size)(a0:d∉aq_.filterMap (·.2)){all:Gam}{efs:List EF}{chks:List (ZC×E)}{kd:TK}
  {vs:Array Value} (H:∀(i:Nat) (e:E) (p:Nat),aq_[i]?=some (e,some p)->a.tmps[p]?=some (vs.getD i undef)/\((∃l b,ks[i]?=some (.mem l)/\h.bl p 0=some b/\vs.getD i undef=.pointer (some ⟨b,0,none⟩))\/∃U,ks[i]?=some (.own U)))
  (hz:∀(j:Nat) (k:OT) (y:E×Option Nat),ks[j]?=some k->aq_[j]?=some y->(y.2=none↔k=OT.fz))
  (O:Ok B h.F w' hx) (hK:hx.K=(Va g h w ks aq_).K) (x:Below B w w') (D:Same (Va g h w ks aq_).K w w') {ys:List V} (R:CX c.P B w' hx ks ys vs) {r0:V} (J:Xz ks ys≠[]->get s (c.ix d)=.v (.tup (r0::Xz ks ys)))
  {u:Value} (hu:holds s (ZI c C)->RelK c.P B s w' (Vt h hx aq_) (λp=>(a.put (some d) u).tmps[p]?) d u kd) (a3:¬holds s (ZI c C)->u=undef):
  OPost c B G s a (a.put (some d) u) w w' h (Vt h hx aq_) {d:=(d,C,kd)::XH (c.ix d) 1 ks aq_++W8 (d::aq_.filterMap (·.2)) [d] [] all,ps:=d::aq_.filterMap (·.2),rb:=[d],fz:=[],efs,chks}:=by
 obtain⟨h1,h2,h3⟩:=QT hp
 have L:∀(i:Nat) (e:E) (p:Nat),aq_[i]?=some (e,some p)->(∃l,ks[i]?=some (.mem l)/\hx.bl i 0=h.bl p 0)\/∃U,ks[i]?=some (.own U):=by
  intro i e p hi;obtain⟨_,A⟩:=H i e p hi;obtain⟨l,b,S,hb,hv⟩|S:=A
  ·refine .inl ⟨l,S,?_⟩;have Y:i<ys.length:=by rw[R.1];exact(Zdl.1 S).1
   obtain⟨tk,f,Q⟩:=R.2 i _ ys[i] S Z1 (Zdk Y);generalize ys[i]=y at f;cases y<;>simp only[We]at f<;>first|(cases f;done)|skip
   split at f
   ·simp only[Zdj]at f;subst f;obtain⟨b',a4,T,e1,e2,_⟩:=Q;simp_all
   grind
  ·grind
 have N:=P5 hr.ok hn O hK x.size L;have Z:=P6 (hx:=hx) (d:=d) hr.ok x D;refine⟨Z,N,yg _ _ _,yf _ _ _,λt z=>RI (λe=>z (by simp[e])) u,λt z=> ?_⟩;simp only[ZeC,Gam.at];by_cases I:d=t
 ·simp_all[Ze3,VB,Zdo,ZdN]
 ·rw[if_neg I,Vs];by_cases n:t∈ZS (XH (c.ix d) 1 ks aq_)
  ·rw[if_pos n];obtain⟨j,k,e,y,r,q1,q2,q3,q4,q5⟩:=zO (i0:=c.ix d) (q:=1) (ys:=ys) h2 R.1 hz t n;rw[q4];refine⟨λ_ _=>⟨vs.getD j undef,by rw[RI (Zfu I)];grind,?_⟩,λhh=>absurd (Ys s c) hh⟩;have M:k≠.fz:=λe'=>Zcp;have X:=Z6Z hn q2;refine Z3D (h':=Vt h hx aq_) M (J λe'=>Zcq) Zcp (R.2 j k y q1 M q3) (λb hb=>.inr hb) (λhm=> ?_) (λi=>by simp[Vt,X]) _;obtain⟨l,_,h0⟩|⟨U,a2⟩:=L j e t q2
   ·grind [Vt]
   grind
  ·rw[if_neg n]
   have a1:t∈ZS (W8 (d::aq_.filterMap (·.2)) [d] [] all):=by
    simp only[ZS,ZdK,ZeL,ZeC,ZdG,ZdL]at z n⊢;obtain z|z|z:=z
    ·omega
    ·simp_all
    ·exact z
   simp_all[zd,TK.isNo,absurd,Ys]
end
end Vm
namespace Vm
open Go
open Go.RowKit (Below)
section
variable {c:Ctx}{B:Nat}{G:Nat->Prop}{s:St}{a a':Act}{w w':World}{h h':GH}{g:Gam}{C:ZC}{fz ps rb:List Nat}{ops:Array Oper}
theorem GH.exb_of{h:GH}{big:Bool}{sh:List Nat}{b:Nat}(d:h.ext sh b):h.exb big sh b:=by
 obtain d|⟨p,j,i,f⟩:=d
 ·exact .inl d
 ·exact .inr ⟨p,j,i+1,.inr Z0,f⟩
theorem GH.exb_ext{h:GH}{sh:List Nat}{b:Nat}(f:h.exb false sh b):h.ext sh b:=by
 obtain f|⟨p,k,i,d,j⟩:=f
 ·exact .inl f
 ·obtain d|d:=d
  ·cases d
  ·cases i with
   |zero=>omega
   |succ i=>exact .inr ⟨p,k,i,j⟩
theorem GH.exb_mono{h:GH}{big d:Bool}{sh f:List Nat}(q:big=true->d=true)(n:∀p∈sh,p∈f):∀b,h.exb big sh b->h.exb d f b:=by
 intro b hx;obtain hx|⟨p,l,i,k,j⟩:=hx
 ·exact .inl hx
 ·refine .inr ⟨p,n p l,i,?_,j⟩
  grind
theorem GH.exb_lt(d:Ok B G w h){big:Bool}{sh:List Nat}:∀b,h.exb big sh b->b<w.heap.size:=by
 intro b f;obtain f|⟨p,_,i,_,j⟩:=f
 ·exact d.f_lt b f
 ·exact(d.b_lt p i b j).2.1
theorem DH(H:RelG c B G s a w h g){G':Nat->Prop}(A:∀b,h.F b->G' b):∀ {d:List Nat} {r:List E} {n:List V},(∀p∈d,∀i b,h.bl p i=some b->G' b)->Jm g d=some r->YB s r=some n->
  n.length=d.length/\∀(i p b:Nat) (x:V),d[i]?=some p->n[i]?=some x->h.bl p 0=some b->Rd w G' x (.pointer (some ⟨b,0,none⟩))
 | [],r,n,_,f,hx=>by
   simp only[Jm,Zdj]at f;subst f;simp only[YB,Zdj]at hx;subst hx;exact⟨rfl,λi p b x t=>by simp at t⟩
 |q::l,r,n,D,f,hx=>by
  simp only[Jm,Zdi]at f;obtain⟨W,N,f⟩:=f;split at f
  ·cases f
  rename_i X;simp only[Zdm]at f;obtain⟨J,y,rfl⟩:=f;simp only[YB,Zdi,Zdm]at hx;obtain⟨z,P,S,k,rfl⟩:=hx;obtain⟨L,M⟩:=DH H A (λp O=>D p (by simp[O])) y k;refine⟨by simp[L],λi p b x t j u=> ?_⟩;cases i with
  |zero=>
   simp at t j;subst t j;obtain⟨U,vs,T,I,_,Q,R⟩:=H.memOf N;rw[u]at I;cases I;exact JV u Q R Zcp P A (D q Z1)
  |succ i=>exact M i p b x Zcp Zdh u
theorem Pg(u:RelG c B G s a w h g)(D:holds s (ZI c C)){x:Operand}{e:E}{sh:List Nat}(d:U4 g (Yt g C x) (SF x)=some (e,sh)){z:V}(r:eval s e=some z):Rd w (h.exb true sh) z (a.eval x):=by
 have L:∀b,h.F b->h.exb true sh b:=λb U=>.inl U;have M:∀p∈sh,∀i b,h.bl p i=some b->h.exb true sh b:=λp Y i b O=>.inr ⟨p,Y,i,.inl rfl,O⟩;cases x with
 |tmp t=>
  simp only[Yt,SF]at d;cases j:look g C t with
  |mem J=>
   rw[j]at d;simp only[U4]at d;split at d
   ·cases d
   rename_i W;simp only[Zdj,Zdx]at d;obtain⟨rfl,rfl⟩:=d;obtain⟨v,y,⟨b,vs,T,H,rfl,A,I⟩,_⟩:=u.look D j rfl;rw[Act.eval_tmp a t _ y];exact JV H A I Zcp r L (M t Z1)
  |pm p o=>
   rw[j]at d;cases o with
   |succ o=>simp[U4]at d
   |zero=>
    simp only[U4,Zdi]at d;obtain⟨J,X,d⟩:=d;split at d
    ·cases d
    rename_i W;simp only[Zdj,Zdx]at d;obtain⟨rfl,rfl⟩:=d;obtain⟨v,y,⟨b,H,rfl⟩,_⟩:=u.look D j rfl;obtain⟨b',vs,T,R,_,A,I⟩:=u.memOf X;rw[H]at R;cases R;rw[Act.eval_tmp a t _ y];exact JV H A I Zcp r L (M p Z1)
  |clo f n=>
   rw[j]at d;simp only[U4,Zdm,Zdx]at d;obtain⟨es,N,rfl,rfl⟩:=d;obtain⟨v,y,⟨vs,rfl,R,A⟩,_⟩:=u.look D j rfl;rw[Act.eval_tmp a t _ y];simp only[eval,Zdi]at r;obtain⟨xs,Q,r⟩:=r;simp only[Km,Zdj]at r;subst r;obtain⟨S,h2⟩:=DH u L M N Q;refine .clo f xs vs Z0 λi x O=> ?_;have P:i<n.length:=by have:=(Zdl.1 O).1;omega
   obtain⟨b,I,q4⟩:=A i n[i] (by simp[P]);have:vs.getD i undef=.pointer (some ⟨b,0,none⟩):=by simp[Zdo,q4]
   grind
  |big e' a0=>
   rw[j]at d;simp only[U4,Zdj,Zdx]at d;obtain⟨rfl,rfl⟩:=d;obtain⟨v,y,⟨x,hx,Z⟩,_⟩:=u.look D j rfl;simp_all[Act.eval_tmp]
  |_=>rw[j]at d;simp[U4]at d
 |const v=>
  have:∀k,U4 g k 0=some (e,sh)->(∃J,k=.mem J)\/(∃p o,k=.pm p o)\/(∃f l,k=.clo f l)\/∃e l,k=.big e l:=by
   intro k j;cases k<;>first|(simp[U4]at j;done)|exact .inl ⟨_,rfl⟩|exact .inr (.inl ⟨_,_,rfl⟩)|exact .inr (.inr (.inl ⟨_,_,rfl⟩))|simp
  have S:=this _ d
  grind [Yt]
 |func f=>grind [Yt,U4]
 |global q=>grind [Yt,U4]
theorem ON(u:RelG c B G s a w h g)(q:holds s (ZI c C)){fl:Bool}{x:Operand}{r:E×List Nat×Bool}(d:qw g C fl x=some r){z:V}(n:eval s r.1=some z):Rd w (h.exb r.2.2 r.2.1) z (a.eval x):=by
 unfold qw at d;split at d
 ·rename_i p l;simp only[Zdj]at d;subst d;obtain⟨y,A,j⟩:=V2 u q l;obtain⟨F,f,k⟩:=Rc (b:=p) A j ⟨z,n⟩;rw[n]at f;cases f;exact k.mono λb t=>GH.exb_of t
 ·simp only[Zdm]at d;obtain⟨D,l,rfl⟩:=d
  grind [Pg]
theorem Dm(D:RelG c B G s a w h g)(A:holds s (ZI c C)):∀ {l:List Operand} {u:List TypeId} {d:List E×List Nat×Bool},Jj c.P g C l u=some d->∀ {j:List V},YB s d.1=some j->
  j.length=l.length/\∀(i:Nat) (x:Operand),l[i]?=some x->∃z,j[i]?=some z/\Rd w (h.exb d.2.2 d.2.1) z (a.eval x)
 | [],u,d,f,j,hx=>by
   simp only[Jj,Zdj]at f;subst f;simp only[YB,Zdj]at hx;subst hx;exact⟨rfl,λi x k=>by simp at k⟩
 |x::l,u,d,f,j,hx=>by
  simp only[Jj,Zdi,Zdm]at f;obtain⟨O,J,b,L,rfl⟩:=f;simp only[YB,Zdi,Zdm]at hx;obtain⟨z,r,M,q,rfl⟩:=hx;obtain⟨H,I⟩:=Dm D A L q;have t:=ON D A J r;refine⟨by simp[H],λi y k=> ?_⟩;cases i with
  |zero=>simp at k;subst k;exact⟨z,Z1,t.mono (GH.exb_mono (λe=>by simp[e]) λp n=>by simp[n])⟩
  |succ i=>
   obtain⟨N,Q,F⟩:=I i y Zcp;exact⟨N,Zcp,F.mono (GH.exb_mono (λe=>by simp[e]) λp n=>by simp[n])⟩
theorem Z01(N:RelG c B G s a w h g)(L:holds s (ZI c C)){o:Oper}{fn:FN}{sh:List Nat}{args:List Operand}{ts:List TypeId}(d:qF g C o=some (fn,sh,args,ts)){n:FuncId×List V}(p:Ut s fn=some n)(k:VM c.P n.1=true):
  ∃j:Array Value,(execOp a.eval o).run c.P w=.ok (.enter n.1 ((args.map a.eval).toArray++j)) w/\j.size=n.2.length/\∀(i:Nat) (x:V),n.2[i]?=some x->Rd w (h.ext sh) x (j.getD i undef):=by
 have r:∀ {f:FuncId} {args:Array Operand} {q:Array TypeId} {z:Operand} {j:Array Value},VM c.P f=true->o.op=.call {callee:=.value z,args:=args,argTypes:=q}->a.eval z=.func (.func f) #[] j->
   (execOp a.eval o).run c.P w=.ok (.enter f ((args.toList.map a.eval).toArray++j)) w:=by
  intro f args q z j k l A;unfold VM at k;split at k
  ·rename_i fn D;simp only[Zdn,Zeh,ZgJ,ne_eq]at k;obtain⟨H,I⟩:=k;obtain⟨code,J⟩:=Zet.1 I;have:(args.toList.map a.eval).toArray=args.map a.eval:=by rw[<-Zev,Array.toArray_toList]
   rw[this];simp[execOp,l,resolve,A,Deferred.ofValue,invoke,callFunc,D,H,J]
  ·cases k
 unfold qF at d;split at d
 ·rename_i R u q l;simp only[Zdj,Zdx]at d;obtain⟨rfl,rfl,rfl,rfl⟩:=d;simp only[Ut,Zdj]at p;subst p;exact⟨#[],r k l rfl,rfl,λi x F=>by simp at F⟩
 ·rename_i t u q l;split at d
  ·rename_i e Q M;simp only[Zdj,Zdx]at d;obtain⟨rfl,rfl,rfl,rfl⟩:=d;obtain⟨v,O,⟨x,hx,y⟩,_⟩:=N.look L (show look g C t=_ from M) rfl;simp only[Ut,hx,Zdt]at p;unfold Qh at p;split at p
   ·simp only[Zdj]at p;subst p;cases y;exact⟨#[],r k l (Act.eval_tmp a t _ O),rfl,λi x F=>by simp at F⟩
   ·simp only[Zdj]at p;subst p;cases y with
    |clo _ _ vs H I=>grind [Act.eval_tmp]
   ·cases p
  grind
 grind
theorem Z4X(I:RelG c B G s a w h g)(L:holds s (ZI c C)){o:Oper}{x y z:Operand}(X:o.op=.pick x y z){k:TK}{es:List E}(n:Bh c g C x y z=some (k,es))(M:∀e∈es,∃z,eval s e=some z)(d:Nat):PRun c B G s a w h o d k:=by
 unfold Bh at n;split at n
 ·rename_i t u W;split at n
  ·cases n
  ·rename_i Q;have Q:u=c.ix t:=by simpa using Q
   subst Q;simp only[Zdi,Zdm,Zdx]at n;obtain⟨Z,N,ez,O,rfl,rfl⟩:=n;obtain⟨v,Y,⟨T,f,S⟩,_⟩:=I.look L (show look g C t=_ from W) rfl;obtain⟨q,j⟩:=M _ (List.Mem.head _);have H:=j;simp only[eval]at j f;rw[f,Zdt]at j
   have J:get s (c.ix t)=.v T:=by
    cases U:get s (c.ix t)<;>rw[U]at f<;>simp at f
    rw[f]
   have F:∀b,T=.bool b->(execOp a.eval o).run c.P w=.ok (.value (if b=true then a.eval y else a.eval z)) w:=by
    intro b D;subst D;have R:v=.bool b:=by cases S;rfl
    subst R;unfold execOp;simp only[X,Act.eval_tmp a t _ Y];cases b<;>simp[asBool]
   unfold QA at j;split at j
   ·have l:holds s (ZI c (C++[(t,true)])):=by
     have:ZI c (C++[(t,true)])=ZI c C++[(c.ix t,true)]:=by simp[ZI]
     rw[this,js];refine⟨L,λx hx=> ?_⟩;simp at hx;subst hx;exact J
    obtain⟨r,p,A⟩:=V2 I l N;rw[p]at j;cases j;exact⟨_,w,F true rfl,PRes.here I.ok ⟨_,H,A.mono λb D=>GH.ext_left D⟩⟩
   ·have l:holds s (ZI c (C++[(t,false)])):=by
     have:ZI c (C++[(t,false)])=ZI c C++[(c.ix t,false)]:=by simp[ZI]
     rw[this,js];refine⟨L,λx hx=> ?_⟩;simp at hx;subst hx;exact J
    obtain⟨r,p,A⟩:=V2 I l O;rw[p]at j;cases j;exact⟨_,w,F false rfl,PRes.here I.ok ⟨_,H,A.mono λb D=>GH.ext_right D⟩⟩
   ·cases j
 ·cases n
theorem Z4W(p:RelG c B G s a w h g)(j:holds s (ZI c C)){o:Oper}{k:TK}{es:List E}(n:Bg c g C o=some (k,es))(f:∀e∈es,∃z,eval s e=some z)(d:Nat)(l:o.dst=some d):PRun c B G s a w h o d k:=by
 grind [Bg,Z4X,Z4Z]
theorem Z0r(F:RelG c B G s a w h g){o:Oper}(hc:Lo c ops g o=some C):(holds s (ZI c C)->Region.wanted o (yielded ops a.tmps)=true)/\(¬holds s (ZI c C)->Region.wanted o (yielded ops a.tmps)=false):=by
 unfold Lo at hc;unfold Region.wanted;split at hc
 ·simp_all[Zdj,trivial,absurd,Ys]
 ·rename_i j d z;simp only[Zdi]at hc;obtain⟨t,P,hc⟩:=hc;simp only[z]
  have O:yielded ops a.tmps j=match a.tmps[t]? with|some (.bool b)=>some b|_=>none:=by
   unfold yielded;rw[show(ops[j]?).bind (·.dst)=some t from by grind,Zdt];generalize a.tmps[t]?=q;cases q with
   |none=>rfl
   |some v=>rfl
  split at hc
  ·rename_i k u l;split at hc
   ·rename_i L;subst L;simp only[Zdj]at hc;subst hc;have I:ZI c (k++[(t,d)])=ZI c k++[(c.ix t,d)]:=by simp[ZI]
    have D:holds s (ZI c (k++[(t,d)]))↔holds s (ZI c k)/\get s (c.ix t)=.v (.bool d):=by
     rw[I,js];simp[holds]
    by_cases y:holds s (ZI c k)
    ·obtain⟨v,M,f⟩:=F.at_ t Zcq (by rw[l];rfl);rw[l]at f;obtain⟨x,hx,r⟩:=f
     have p:get s (c.ix t)=.v x:=by
      simp only[eval]at hx;cases z:get s (c.ix t)<;>rw[z]at hx<;>simp at hx
      rw[hx]
     rw[O,M];constructor
     ·intro n;have:=(D.1 n).2;rw[p]at this;simp only[SV.v.injEq]at this;subst this;have N:v=.bool d:=by cases r;rfl
      simp_all
     ·intro n;have J:x≠.bool d:=λe=>n (D.2 ⟨y,by rw[p,e]⟩)
      cases r<;>first
       |rfl
       |simp_all
    ·have H:=F.skip t Zcq
     have A:(match a.tmps[t]? with|some (.bool b)=>some b|_=>none)=(none:Option Bool):=by
      cases n:a.tmps[t]? with
      |none=>rfl
      |some v=>
       simp only[Zdo,n,ZdN]at H;subst H;rfl
     simp_all
   ·cases hc
  ·cases hc
theorem IK{d:Nat}{k:TK}{v:Value}{efs:List EF}{chks:List (ZC×E)}(q:d<a.tmps.size)(l:Step B [d] [d] [] w w' h h')(f:Ok B G w' h')(n:holds s (ZI c C))(r:RelK c.P B s w' h' (λp=>(a.put (some d) v).tmps[p]?) d v k):
  OPost c B G s a (a.put (some d) v) w w' h h' {d:=[(d,C,k)],ps:=[d],rb:=[d],fz:=[],efs,chks}:=
 ⟨l,f,yg _ _ _,yf _ _ _,λt j=>IR v j,λt j=>by
  simp_all[ZS,Gam.at,Ze3,VB,absurd]⟩
theorem IL{d:Nat}{k:TK}{efs:List EF}{chks:List (ZC×E)}(n:d<a.tmps.size)(f:Ok B G w h)(l:¬holds s (ZI c C)):
  OPost c B G s a (a.put (some d) undef) w w h h {d:=[(d,C,k)],ps:=[d],rb:=[d],fz:=[],efs,chks}:=
 ⟨Step.refl _ _ _ _,f,yg _ _ _,yf _ _ _,λt j=>IR _ j,λt j=>by
  simp_all[ZS,Gam.at,Ze3,absurd,Zdo,VB,ZdN]⟩
theorem RelK.other{d t:Nat}{v u:Value}{k:TK}(f:RelK c.P B s w h (λp=>a.tmps[p]?) t v k)(j:Ui d k=false):RelK c.P B s w h (λp=>(a.put (some d) u).tmps[p]?) t v k:=by
 cases k with
 |ref p=>
  have:p≠d:=λe=>by simp_all[Ui]
  show(a.put (some d) u).tmps[p]?=some v;rw[RI this];exact f
 |_=>exact f
theorem zN:∀ {R:List Nat} {g:Gam} {t:Nat},(only g R).at t=if t∈R then g.at t else([],.no)
 | [],g,t=>rfl
 |u::R,g,t=>by
  simp only[only,ZdK,Gam.at];by_cases d:u=t
  ·grind
  ·rw[if_neg d];have:=zN (R:=R) (g:=g) (t:=t);simp_all[only,Zfu]
theorem MZ(A:RelG c B G s a w h g){ks:List OT}{d:List AP}{aq_:List (E×Option Nat)}(n:UB c g C ks d=some aq_)(x:∀(i:Nat) (e:E) (p:Nat),aq_[i]?=some (e,some p)->∃X,eval s e=some X){vs:Array Value}
  (q:∀(i:Nat) (e:E) (p:Nat),aq_[i]?=some (e,some p)->a.tmps[p]?=some (vs.getD i undef)):
  (∀(i:Nat) (e:E) (p:Nat),aq_[i]?=some (e,some p)->a.tmps[p]?=some (vs.getD i undef)/\((∃l b,ks[i]?=some (.mem l)/\h.bl p 0=some b/\vs.getD i undef=.pointer (some ⟨b,0,none⟩))\/∃r,ks[i]?=some (.own r))):=by
 obtain⟨t,j,u⟩:=QT n;intro i e p k;have f:i<ks.length:=by rw[<-j];exact(Zdl.1 k).1
 have z:ks[i]?=some ks[i]:=Zdk f;have y:d[i]?=some d[i]:=Zdk Z0
 grind [yb,Option.some.injEq]
theorem Z4A{ks:List OT}{d:List AP}{aq_:List (E×Option Nat)}(q:UB c g C ks d=some aq_):∀(j:Nat) (k:OT) (y:E×Option Nat),ks[j]?=some k->aq_[j]?=some y->(y.2=none↔k=OT.fz):=by
 obtain⟨t,u,n⟩:=QT q;intro j k y l r;have p:j<ks.length:=(Zdl.1 l).1;have f:=n j k _ y l (Zdk (by omega:j<d.length)) r;unfold SI at f
 grind [Option.bind_eq_some_iff,Option.some.injEq]
theorem Qb:∀ {l:List Operand} {ts:List TypeId},(V8 l ts).length=l.length/\∀(i:Nat) (x:AP),(V8 l ts)[i]?=some x->∃y t,l[i]?=some y/\x=.op y t
 | [],ts=>by simp[V8]
 |x::l,[]=>by
  obtain⟨f,j⟩:=Qb (l:=l) (ts:=[]);refine⟨by simp[V8,f],λi y d=> ?_⟩;cases i with
  |zero=>simp[V8]at d;exact⟨x,0,rfl,d.symm⟩
  |succ i=>simpa using j i y (by simpa[V8]using d)
 |x::l,t::ts=>by
  obtain⟨f,j⟩:=Qb (l:=l) (ts:=ts);refine⟨by simp[V8,f],λi y d=> ?_⟩;cases i with
  |zero=>simp[V8]at d;exact⟨x,t,rfl,d.symm⟩
  |succ i=>simpa using j i y (by simpa[V8]using d)
theorem Z00(Z:RelG c B G s a w h g)(X:holds s (ZI c C)){o:Oper}{fn:FN}{ks:List OT}{A:List AP}(d:qE c g C o=some (fn,ks,A)){f:FuncId}(u:Vc s fn=some f)(q:VM c.P f=true):
  ∃vs:Array Value,(execOp a.eval o).run c.P w=.ok (.enter f vs) w/\vs.size=A.length/\∀(i:Nat) (x:AP),A[i]?=some x->Ji a h x (vs.getD i undef):=by
 have r:∀ {args:Array Operand} {j:Array TypeId} {I:Operand} {k:Array Value},o.op=.call {callee:=.value I,args:=args,argTypes:=j}->a.eval I=.func (.func f) #[] k->
   (execOp a.eval o).run c.P w=.ok (.enter f (args.map a.eval++k)) w:=by
  intro args j I k n M;unfold VM at q;split at q
  ·rename_i fn N;simp only[Zdn,Zeh,ZgJ,ne_eq]at q;obtain⟨h1,W⟩:=q;obtain⟨code,L⟩:=Zet.1 W;simp[execOp,n,resolve,M,Deferred.ofValue,invoke,callFunc,N,h1,L]
  ·cases q
 have plain:∀ {args:Array Operand} {j:Array TypeId} {i:Nat} {x:AP},(V8 args.toList j.toList)[i]?=some x->Ji a h x ((args.map a.eval).getD i undef):=by
  intro args j i x z;obtain⟨y,t,U,rfl⟩:=(Qb (l:=args.toList) (ts:=j.toList)).2 i x z;rw[ZeE]at U;have Q:i<args.size:=(Zdq.1 U).1;show(args.map a.eval).getD i undef=a.eval y;simp[Zdo,U]
 unfold qE at d;split at d
 ·rename_i J args j n;simp only[Zdm,Zdx]at d;obtain⟨H,_,rfl,rfl,rfl⟩:=d;simp only[Vc,Zdj]at u;subst u;refine⟨args.map a.eval++ #[],r n rfl,by simp_all[Qb],λi x z=> ?_⟩
  grind
 ·rename_i t args j n;split at d
  ·rename_i J k O;simp only[Zdm,Zdx]at d;obtain⟨H,_,rfl,rfl,rfl⟩:=d;simp only[Vc,Zdj]at u;subst u;obtain⟨v,R,⟨vs,rfl,W,L⟩,_⟩:=Z.look X (show look g C t=_ from O) rfl;have D:=(Qb (l:=args.toList) (ts:=j.toList)).1;simp only[ZfA]at D;refine⟨args.map a.eval++vs,r n (Act.eval_tmp a t _ R),Zcp,λi x z=> ?_⟩;by_cases Q:i<args.size
   ·rw[ZdT Z0]at z;have:=plain z;simp_all[Zdo,Zfg]
   ·rw[ZdI Z0,ZdJ,Zdm]at z;obtain⟨p,Y,rfl⟩:=z;rw[D]at Y;obtain⟨b,q1,q2⟩:=L _ p Y;refine⟨b,q1,?_⟩;simp_all[Zdo,Zgz]
  ·rename_i e sh O;simp only[Zdm,Zdx]at d;obtain⟨H,_,rfl,rfl,rfl⟩:=d;obtain⟨v,R,⟨x,hx,T⟩,_⟩:=Z.look X (show look g C t=_ from O) rfl;simp only[Vc,hx]at u;split at u
   ·rename_i J F;simp only[Zdj]at F u;subst F u;have S:v=.func (.func J) #[] #[]:=by cases T;rfl
    subst S;refine⟨args.map a.eval++ #[],r n (Act.eval_tmp a t _ R),by simp_all[Qb],λi x z=> ?_⟩;rw[Zea];exact plain z
   ·cases u
  grind
 grind
theorem Ay:∀ {ks:List OT} {aq_:List (E×Option Nat)} {l:List V},aq_.length=ks.length->Ws s ks (aq_.map (·.1))=some l->∃d,d.length=ks.length/\Xz ks d=l/\∀(i:Nat) (k:OT) (y:E×Option Nat) (x:V),ks[i]?=some k->k≠.fz->aq_[i]?=some y->d[i]?=some x->eval s y.1=some x
 | [],[],l,_,f=>by
   simp only[Zf8,Ws,Zdj]at f;subst f;exact⟨[],rfl,rfl,λi k y x n=>by simp at n⟩
 | [],_::_,l,j,_=>by simp at j
 |_::_,[],l,j,_=>by simp at j
 |k::ks,(e,o)::aq_,l,j,f=>by
  by_cases n:k=.fz
  ·subst n;simp only[ZdK,Ws]at f;obtain⟨d,u,A,D⟩:=Ay (ks:=ks) (aq_:=aq_) Zdh f;refine⟨.bool false::d,by simp[u],by simpa only[Xz]using A,λi k y x p t q r=> ?_⟩;cases i with
   |zero=>simp at p;exact absurd p.symm t
   |succ i=>exact D i k y x (by simpa using p) t (by simpa using q) (by simpa using r)
  ·have H:Ws s (k::ks) (e::aq_.map (·.1))=(eval s e).bind λx=>(Ws s ks (aq_.map (·.1))).map (x:: ·):=by cases k<;>first|exact absurd rfl n|simp only[Ws]
   rw[ZdK,H]at f;simp only[Zdi,Zdm]at f;obtain⟨x,hx,J,F,rfl⟩:=f;obtain⟨d,u,A,D⟩:=Ay (ks:=ks) (aq_:=aq_) Zdh F;have I:Xz (k::ks) (x::d)=x::Xz ks d:=by cases k<;>first|exact absurd rfl n|simp only[Xz]
   refine⟨x::d,by simp[u],by rw[I,A],λi k y z p t q r=> ?_⟩;cases i with
   |zero=>simp at q r;subst q r;exact hx
   |succ i=>exact D i k y z (by simpa using p) t (by simpa using q) (by simpa using r)
def QM(P:Program) [Lg P](s:St)(d:OS):Prop:=(∀f∈d.efs,Q5 P s f)/\∀x∈d.chks,holds s x.1->∃z,eval s x.2=some z
theorem Z7j [Lg c.P]{h7 R:List Nat}{all:Gam}{o:Oper}{os:OS}{i:Nat}(Q:ops[i]?=some o)(hR:R=Uw ops all o)(H:RelG c B G s a w h (only all R))(A:RW c h7 ops all o=some os)(a8:QM c.P s os)(hn:c.n<=a.tmps.size)
  {K:Act->World->Prop} (hK:∀a' w' h',OPost c B G s a a' w w' h h' os->(∃u,a'=a.put o.dst u)->K a' w'):SE c.P ops i K a w:=by
 subst hR;unfold SE;simp only[Q];unfold RW at A;simp only at A;split at A
 ·cases A
 ·rename_i i6
  have N:∀d,o.dst=some d->d<a.tmps.size:=by
   intro d L;obtain M|j0:=Zhr d c.n
   ·exact Zdw M hn
   ·simp[DT,L,Zgx.2 j0]at i6
  simp only[Zdi]at A;obtain⟨C,hC,A⟩:=A;obtain⟨c1,f1⟩:=Z0r (ops:=ops) H hC;split at A
  ·
   rename_i fn ks a6 d Z L;unfold C7 at A;split at A
   ·cases A
   ·simp only[Zdi]at A;obtain⟨aq_,S,A⟩:=A;split at A
    ·cases A
    ·rename_i g4;simp only[ZdC,Zeh,not_or,ZfP,ZeP,ZdH]at g4;obtain⟨hn,f8⟩:=g4;have hn:=Gw.1 hn;simp only[Zdj]at A;subst A;have f9:=a8.1 _ (List.Mem.head _);obtain⟨k8,a0,J⟩:=QT S;have hz:=Z4A S;rw[L];by_cases I:holds s (ZI c C)
     ·rw[if_pos (c1 I)];obtain⟨xs,f,R,d0,hf,⟨e3,b5⟩,hR⟩:=f9.1 I;obtain⟨vs,g3,k3,h0⟩:=Z00 H I Z hf e3;have Y:=OO H I S d0 k3 h0;obtain⟨_,h4⟩:=Us d0
      have hX:∀(i:Nat) (e:E) (p:Nat),aq_[i]?=some (e,some p)->∃X,eval s e=some X:=λi e p Q=>by
       obtain⟨X,_,hX⟩:=h4 i e (by rw[ZdJ,Q];rfl);exact⟨X,hX⟩
      have a3:=MZ H S hX (vs:=vs) λi e p Q=>by
       have M:i<ks.length:=Zd0;have O:ks[i]?=some ks[i]:=Zdk M;have ha:a6[i]?=some a6[i]:=Zdk Z0;obtain⟨X,hx⟩:=hX i e p Q;exact(Iv (ks:=ks) (aq_:=aq_) H I (J i _ _ _ O ha Q) hx (h0 i _ ha) O Q).2 p rfl
      rw[g3,Nx];refine Lg.calls_mono (b5 B w (Va _ h w ks aq_) vs (DA H.ok hn) Y) λe w' he=> ?_;obtain⟨v,r,ys,hx,rfl,U,e8,g7,i2,a2,hB,a1⟩:=he;refine⟨v,rfl,?_⟩;rw[L];refine hK _ _ _ (DB H S hn (N d L) f8 a3 hz g7 i2 U e8 hB (r0:=r) (λe7=> ?_) (λ_=> ?_) λe5=>absurd I e5) ⟨_,by rw[L]⟩
      ·rw[hR,a1];cases W:Xz ks ys with
       |nil=>exact absurd W e7
       |cons x l=>rfl
      ·have f2:∀b,hx.F b->(Vt h hx aq_).F b:=λb D=>.inr D;cases W:Xz ks ys with
       |nil=>
        have b3:(aq_.filterMap (·.2)).isEmpty=true:=by
         cases j7:aq_.filterMap (·.2)with
         |nil=>rfl
         |cons p l=>
          exfalso;have j9:p∈ZS (XH (c.ix d) 1 ks aq_):=by rw[AF a0,j7];simp
          obtain⟨_,_,_,_,_,_,_,_,_,q5⟩:=zO (i0:=c.ix d) (q:=1) (ys:=ys) a0 hB.1 hz p j9;rw[W]at q5;simp at q5
        rw[if_pos b3];refine⟨r,?_,a2.mono λb D=>GH.ext_F (f2 b D)⟩;simp only[eval,hR,a1,W,QR]
       |cons x l=>
        have b3:¬(aq_.filterMap (·.2)).isEmpty=true:=by
         intro he;have g5:=ZfV.1 he
         have:∀ {ks:List OT} {aq_:List (E×Option Nat)} {ys:List V},aq_.length=ks.length->(∀(j:Nat) (k:OT) (y:E×Option Nat),ks[j]?=some k->aq_[j]?=some y->(y.2=none↔k=OT.fz))->aq_.filterMap (·.2)=[]->Xz ks ys=[]:=by
          intro ks
          induction ks with
          |nil=>intro aq_ ys _ _ _;simp[Xz]
          |cons k ks ih=>
           intro aq_ ys h1 h2 h3;cases aq_ with
           |nil=>simp at h1
           |cons y aq_=>
            have hy:y.2=none:=by
             cases hy:y.2 with
             |none=>rfl
             |some p=>simp[Zf1,hy]at h3
            have O:=(h2 0 k y rfl rfl).1 hy;subst O;cases ys with
            |nil=>simp[Xz]
            |cons z ys=>
             simp only[Xz];exact ih (by simpa using h1) (λj k y q1 q2=>h2 (j+1) k y (by simpa using q1) (by simpa using q2)) (by simpa[Zf1,hy]using h3)
         have:=this (ys:=ys) a0 hz g5;rw[W]at this;cases this
        rw[if_neg b3];refine⟨r,?_,a2.mono λb D=>GH.ext_F (f2 b D)⟩;simp only[eval,hR,a1,W,QR,Zdt,Ts,ZfB]
     ·rw[if_neg (by rw[f1 I];simp)];obtain⟨os,W,j2⟩:=f9.2 I;obtain⟨ys,k4,h5,k5⟩:=Ay a0 W
      let vs:Array Value:=(aq_.map λy=>match y.2 with|some p=>a.tmps.getD p undef|none=>undef).toArray
      have hX:∀(i:Nat) (e:E) (p:Nat),aq_[i]?=some (e,some p)->∃X,ys[i]?=some X/\eval s e=some X:=λi e p Q=>by
       have M:i<ks.length:=Zd0;have O:ks[i]?=some ks[i]:=Zdk M;have h6:ys[i]?=some ys[i]:=Zdk Z0;have e6:ks[i]≠.fz:=λe'=>by have:=(hz i _ _ O Q).2 e';cases this
       exact⟨_,h6,k5 i _ _ _ O e6 Q h6⟩
      have d9:∀(i:Nat) (e:E) (p:Nat),aq_[i]?=some (e,some p)->a.tmps[p]?=some (vs.getD i undef):=λi e p Q=>by
       have M:i<ks.length:=Zd0;have O:ks[i]?=some ks[i]:=Zdk M;have ha:a6[i]?=some a6[i]:=Zdk Z0;obtain⟨X,_,hx⟩:=hX i e p Q;obtain⟨v,q1,_⟩:=yb (ks:=ks) (aq_:=aq_) H (J i _ _ _ O ha Q) hx O Q;have:vs.getD i undef=v:=by simp[vs,Zdo,Q,q1]
       rw[this];exact q1
      have a3:=MZ H S (λi e p Q=>by obtain⟨X,_,hX⟩:=hX i e p Q;exact⟨X,hX⟩) d9;refine hK _ _ _ (DB H S hn (N d L) f8 a3 hz (DA H.ok hn) rfl (.refl _ _) (.refl _ _) (ys:=ys) ⟨k4,λi k y O e6 hy=> ?_⟩ (r0:=.bool false) (λe7=>by rw[h5];exact j2 (by rw[<-h5];exact e7)) (λe5=>absurd e5 I) λ_=>rfl) ⟨_,by rw[L]⟩;have M:i<ks.length:=(Zdl.1 O).1;have ha:a6[i]?=some a6[i]:=Zdk Z0;have hs:aq_[i]?=some aq_[i]:=Zdk Z0;generalize aq_[i]=y0 at hs;obtain⟨e,o⟩:=y0;cases o with
      |none=>exact absurd ((hz i k _ O hs).1 rfl) e6
      |some p=>
       obtain⟨X,f3,i3⟩:=hX i e p hs;rw[hy]at f3;cases f3;obtain⟨v,q1,q2,_⟩:=yb (ks:=ks) (aq_:=aq_) H (J i _ _ _ O ha hs) i3 O hs;have:=d9 i e p hs;rw[q1]at this;simp only[Zdj]at this;rw[<-this];exact q2
  ·cases A
  split at A
  ·
   rename_i f d5 args ts d Z L;unfold C6 at A;split at A
   ·cases A
   ·simp only[Zdm]at A;obtain⟨aq_,S,rfl⟩:=A;by_cases I:holds s (ZI c C)
    ·rw[if_pos (c1 I)];obtain⟨xs,n,r,d0,i9,b5,i8,J⟩:=a8.1 _ (List.Mem.head _) I;obtain⟨hl,hx⟩:=Dm H I S d0;obtain⟨e3,b5⟩:=b5;obtain⟨a4,b7,f6,f5⟩:=Z01 H I Z i9 e3
     ·rw[b7,Nx];refine Lg.calls_mono (b5 w (h.exb aq_.2.2 (aq_.2.1++d5)) ((args.map a.eval).toArray++a4) (GH.exb_lt H.ok) (by simp[hl,f6]) λj x hj=> ?_) λe w' he=> ?_
      ·by_cases M:j<args.length
       ·rw[ZdT Z0]at hj;obtain⟨z,hz,k7⟩:=hx j args[j] (by simp[M]);rw[hj]at hz;cases hz
        have:((args.map a.eval).toArray++a4).getD j undef=a.eval args[j]:=by
         rw[Zdo,Zfg (by simpa using M)];simp[M]
        rw[this];exact k7.mono (GH.exb_mono (λe=>e) λp hp=>by simp[hp])
       ·rw[ZdI Z0]at hj;have:=f5 _ x hj
        have e:((args.map a.eval).toArray++a4).getD j undef=a4.getD (j-xs.length) undef:=by
         rw[Zdo,Zdo,Zgz Zcr];simp[hl]
        rw[e];exact this.mono λb D=>GH.exb_mono (λe=>by cases e) (λp hp=>by simp[hp]) b (GH.exb_of (big:=false) D)
      ·obtain⟨v,rfl,U,a2⟩:=he;refine⟨v,rfl,?_⟩;have b9:=U.size
       let h':GH:= {F:=λb=>h.F b\/(w.heap.size<=b/\b<w'.heap.size),bl:=h.bl,K:=h.K}
       have b2:Ok B G w' h':=by
        refine⟨ZdP H.ok.base b9,λb D=> ?_,λb D=> ?_,λb D=>.inl (H.ok.g_F b D),λt j b D=> ?_,H.ok.inj,λb D=>Zdw (H.ok.k_lt b D) b9,H.ok.k_bl,λb D=> ?_⟩
        ·obtain D|D:=D
         ·exact Zdw (H.ok.f_lt b D) b9
         ·exact D.2
        ·obtain D|D:=D
         ·exact H.ok.f_or b D
         ·exact .inr (ZdP H.ok.base D.1)
        ·obtain⟨h1,h2,h3⟩:=H.ok.b_lt t j b D;refine⟨h1,Zdw h2 b9,λhF=> ?_⟩;obtain hF|hF:=hF
         ·exact h3 hF
         ·omega
        ·obtain D|D:=D
         ·exact H.ok.k_F b D
         ·exact .inr λj4=>by have:=H.ok.k_lt b j4;omega
       have e9:Step B [d] [d] [] w w' h h':=⟨U.mono H.ok.base,λb D _=>U.block b D,λb D=>.inl D,λ_ _ _=>rfl,λ_ _=>rfl,λ_ _ _ _ hm=>(by simp at hm),rfl⟩;rw[L]
       have b0:∀b,h.exb aq_.2.2 (aq_.2.1++d5) b->h'.exb aq_.2.2 (aq_.2.1++d5) b:=λb D=>by
        obtain D|D:=D
        ·exact .inl (.inl D)
        ·exact .inr D
       refine hK _ _ h' (IK (N d L) e9 b2 I ?_) ⟨_,by rw[L]⟩;split
       ·
        rename_i a5;simp only[Zdn]at a5;refine⟨r,by simp only[eval,J],a2.mono λb D=> ?_⟩;obtain⟨_,D⟩|D:=D
        ·rw[a5.1]at b0 D;exact b0 b D
        ·exact .inl (.inr D)
       ·rename_i a5;refine⟨r,by simp only[eval,J],?_⟩;split
        ·rename_i g8;simp only[ZdC]at g8;obtain e4|b8:=g8
         ·have b1:=i8 e4;unfold Wh at b1;split at b1
          ·cases b1
          ·rename_i j6;split at b1
           ·rename_i f4;exact a2.flatAll (λy hy=>Zdu.1 f4 y hy) λl hl=>j6 l hl
           ·cases b1
         ·refine a2.mono λb D=> ?_;obtain⟨D,_⟩|D:=D
          ·rw[b8]at D;cases D
          ·exact .inl (.inr D)
        ·rename_i d7;refine a2.mono λb D=> ?_;obtain⟨_,D⟩|D:=D
         ·have i5:aq_.2.2=false:=by
           cases i4:aq_.2.2
           ·rfl
           ·exfalso;apply a5;rw[i4]at d7⊢;simp only[Zgt];cases hz:((!(aq_.2.1++d5).isEmpty||true)&& !Qt c f&&XF c.P o.type||Qt c f)
            ·rfl
            ·exact(d7 hz).elim
          have:=b0 b D;rw[i5]at this;exact GH.exb_ext this
         ·exact .inl (.inr D)
    ·rw[if_neg (by rw[f1 I];simp)];rw[L];exact hK _ _ h (IL (N d L) H.ok I) ⟨_,by rw[L]⟩
  ·cases A
  ·split at A
   ·
    rename_i k es d j8 L
    have g9:∃k' efs chks,os= {d:=[(d,C,k')],ps:=[d],rb:=[d],fz:=[],efs,chks}/\(holds s (ZI c C)->(∀e∈es,∃z,eval s e=some z)/\∀ {v w' h'},RelK c.P B s w' h' (λp=>a.tmps[p]?) d v k->RelK c.P B s w' h' (λp=>(a.put (some d) v).tmps[p]?) d v k'):=by
     unfold Ca at A;split at A
     ·split at A
      ·rename_i e;split at A
       ·cases A
       ·simp only[Zdj]at A;subst A;refine⟨_,_,_,rfl,λI=>⟨λe he=>a8.2 (ZI c C,e) (ZdB.2 ⟨e,he,rfl⟩) I,λO=> ?_⟩⟩;obtain⟨x,hx,J⟩:=a8.1 _ (List.Mem.head _) I;obtain⟨y,hy,k6⟩:=O;rw[hx]at hy;cases hy;exact⟨x,by simp only[eval,J],k6⟩
      ·cases A
     ·split at A
      ·cases A
      ·rename_i ht;simp only[ZdC,not_or,Zgp]at ht;simp only[Zdj]at A;subst A;refine⟨_,_,_,rfl,λI=>⟨λe he=>a8.2 (ZI c C,e) (ZdB.2 ⟨e,he,rfl⟩) I,λO=>O.other ht.1⟩⟩
    obtain⟨k',efs,chks,rfl,Y⟩:=g9;by_cases I:holds s (ZI c C)
    ·rw[if_pos (c1 I)];obtain⟨i7,Y⟩:=Y I;obtain⟨v,w',b4,h',k2,b2,j3⟩:=Z4W H I j8 i7 d L;rw[b4,Ny,L];exact hK _ _ h' (IK (N d L) k2 b2 I (Y j3)) ⟨_,by rw[L]⟩
    ·rw[if_neg (by rw[f1 I];simp),L];exact hK _ _ h (IL (N d L) H.ok I) ⟨_,by rw[L]⟩
   ·
    split at A
    ·cases A
    ·rename_i h8;have j1:o.guard=none:=by cases hg:o.guard<;>simp_all
     have h9:C=[]:=by
      unfold Lo at hC;rw[j1]at hC;simpa using hC.symm
     subst h9;rw[if_pos (c1 (Ys s c))];simp only[Zdi]at A;obtain⟨m,hm,A⟩:=A;split at A
     ·rename_i d8;simp only[Zdn,Zdu,ZeP,ZdH]at d8;obtain⟨⟨b3,k0⟩,f7⟩:=d8;simp only[Zdj]at A;subst A;obtain⟨n,u,w',h',b4,j5,T⟩:=Z3r H N hm λe he=>a8.2 ([],e) (ZdB.2 ⟨e,he,rfl⟩) (Vy s)
      have c0:∀t,t∉m.ps->(a.put o.dst u).tmps[t]?=a.tmps[t]? :=by
       intro t ht;cases L:o.dst with
       |none=>rfl
       |some d=>
        refine RI (λe=>ht ?_) u;rw[e];simpa[DU,L]using f7
      have d6:OPost c B G s a (a.put o.dst u) w w' h h' (C9 (only all (Uw ops all o)) all m):=by
       refine⟨T.step,T.ok,yg _ _ _,yf _ _ _,c0,λt ht=> ?_⟩;simp only[C9,ZS,ZeL,ZdL]at ht⊢;rw[Vs,Vs];simp only[ZS,ZeL,ZdL];by_cases h1:t∈ZS m.d
       ·have a9:t∈List.map (·.1) m.d:=h1;simp only[a9,true_or,Ze3];obtain⟨e1,e2⟩:=T.ent t h1;exact⟨λ_ a7=>e2 a7,λhn=>absurd (by rw[e1];exact Ys s c) hn⟩
       ·have a9:t∉List.map (·.1) m.d:=h1;by_cases h2:t∈ZS (W8 m.ps m.rb m.fz all)
        ·have b6:t∈List.map (·.1) (W8 m.ps m.rb m.fz all):=h2;simp only[a9,b6,false_or,Ze3,Ze1,zd h2];exact⟨λ_ a7=>by simp[TK.isNo]at a7,λhn=>absurd (Ys s c) hn⟩
        ·have b6:t∉List.map (·.1) (W8 m.ps m.rb m.fz all):=h2
         have h3:t∈m.fz:=by
          obtain(ht|ht)|ht:=ht
          ·exact absurd ht a9
          ·exact absurd ht b6
          ·have:=LG (fz:=m.fz) (g:=only all (Uw ops all o));unfold ZS at this;rw[this]at ht;exact ht
         have f0:t∉m.ps:=λhp=>h1 (b3 t hp)
         have e0:Vb m.ps m.rb m.fz ((only all (Uw ops all o)).at t).2=true:=by
          rw[zN];split
          ·exact FG h2
          ·exact qI _ _ _
         simp only[a9,b6,false_or,Ze1,LF h3];refine⟨λi1 a7=> ?_,λhn=> ?_⟩
         ·have g6:((only all (Uw ops all o)).at t).2.isNo=false:=by
           cases O:((only all (Uw ops all o)).at t).2<;>first|rfl|(rw[O]at a7;simp[Re,TK.isNo]at a7)
          obtain⟨v,hv,O⟩:=H.at_ t i1 g6;exact⟨v,by rw[c0 t f0];exact hv,O.freeze T.step H.ok k0 f0 h3 e0 c0⟩
         ·have:=H.skip t hn;simp only[Zdo,c0 t f0]at this⊢;exact this
      rw[b4];obtain rfl|⟨rfl,rfl⟩:=j5
      ·rw[Ny];exact hK _ _ h' d6 ⟨_,rfl⟩
      ·rw[Z7C];exact hK _ _ h' d6 ⟨_,rfl⟩
     ·cases A
end
end Vm
end
section
namespace Vm
open Go
open Go.RowKit (Below)
def gL:List XS->Nat->(Nat->Bool)->Gam->Gam
 | [],_,_,g=>g
 |x::xs,k,L,g=>gL xs (k+1) L (if L k then x.os.d++g else g)
def YG(xs:List XS)(g:Gam):Gam:=xs.foldl (λg x=>x.os.d++g) g
def LH{t:Nat}:∀ {xs:List XS} {k:Nat} {L l:Nat->Bool} {g n:Gam},(∀(i:Nat) (x:XS),xs[i]?=some x->t∈ZS x.os.d->L (k+i)=l (k+i))->g.at t=n.at t->(gL xs k L g).at t=(gL xs k l n).at t
 | [],_,_,_,_,_,_,f=>f
 |x::xs,k,L,l,g,n,p,f=>by
  simp only[gL];refine LH (λi y q j=> ?_) ?_
  ·have:=p (i+1) y Zcp j
   grind
  ·by_cases j:t∈ZS x.os.d
   ·have o:=p 0 x rfl j;rw[Zfq]at o;rw[<-o];split
    ·simp_all[Vs,if_pos]
    ·exact f
   ·have:∀(b:Bool) (g:Gam),Gam.at (if b=true then x.os.d++g else g) t=g.at t:=by
     intro b g;split
     ·rw[Vs,if_neg j]
     ·rfl
    rw[this,this];exact f
def jm{t:Nat}:∀ {xs:List XS} {k:Nat} {L:Nat->Bool} {g:Gam},(∀(i:Nat) (x:XS),xs[i]?=some x->L (k+i)=true->t∉ZS x.os.d)->(gL xs k L g).at t=g.at t
 | [],_,_,_,_=>rfl
 |x::xs,k,L,g,f=>by
  simp only[gL];rw[jm λi y l n=>f (i+1) y Zcp Zcp];split
  ·rename_i j;rw[Vs,if_neg (f 0 x rfl j)]
  ·rfl
def EN{t:Nat}:∀ {xs:List XS} {k i:Nat} {L:Nat->Bool} {g:Gam} {x:XS},xs[i]?=some x->L (k+i)=true->t∈ZS x.os.d->(∀(j:Nat) (y:XS),xs[j]?=some y->i<j->L (k+j)=true->t∉ZS y.os.d)->(gL xs k L g).at t=x.os.d.at t
 | [],_,_,_,_,_,f,_,_,_=>by simp at f
 |y::xs,k,0,L,g,x,f,l,p,o=>by
  simp at f;subst f;simp only[gL];rw[Zfq]at l;rw[l,if_pos rfl,jm λj z r n=>o (j+1) z Zcp Z0 Zcp,Vs,if_pos p]
 |y::xs,k,i+1,L,g,x,f,l,p,o=>by
  simp only[gL];exact EN (i:=i) ZcL Zcp p λj z r q n=>o (j+1) z Zcp Z0 Zcp
def EM{t:Nat}:∀ {xs:List XS} {k:Nat} {L:Nat->Bool} {g:Gam},(gL xs k L g).at t=g.at t\/∃j y,xs[j]?=some y/\L (k+j)=true/\t∈ZS y.os.d/\(gL xs k L g).at t=y.os.d.at t
 | [],_,_,_=>.inl rfl
 |x::xs,k,L,g=>by
  simp only[gL];obtain h|⟨j,y,n,o,f,h⟩:=EM (xs:=xs) (k:=k+1) (L:=L) (g:=if L k=true then x.os.d++g else g) (t:=t)
  ·by_cases l:L k=true
   ·rw[if_pos l]at h⊢;rw[Vs]at h;split at h
    ·rename_i f;exact .inr ⟨0,x,rfl,l,f,h⟩
    simp_all
   simp_all
  ·exact .inr ⟨j+1,y,Zcp,Zcp,f,h⟩
def jn:∀ {xs:List XS} {k j:Nat} {g:Gam},gL xs k (λi=>decide (i<k+j)) g=YG (xs.take j) g
 | [],_,_,_=>by simp[gL,YG]
 |x::xs,k,0,g=>by
  simp only[gL];rw[if_neg Z1];simp only[Zhw,YG,List.foldl_nil]
  have n:∀(xs:List XS) (f:Nat) (g:Gam),k<=f->gL xs f (λi=>decide (i<k+0)) g=g:=by
   intro xs
   induction xs with
   |nil=>intro f g _;rfl
   |cons y r p=>
    intro f g q;simp only[gL];rw[if_neg Zcr];exact p (f+1) g Z0
  exact n xs (k+1) g Z0
 |x::xs,k,j+1,g=>by
  simp only[gL];rw[if_pos Z1];have l:=jn (xs:=xs) (k:=k+1) (j:=j) (g:=x.os.d++g)
  have o:(λi=>decide (i<k+1+j))=λi=>decide (i<k+(j+1)):=by
   funext i;congr 1;apply propext;omega
  rw[o]at l;rw[l];simp[YG]
def Nc{c:Ctx}{draw:Bool}{n:List Nat}{ops:Array Oper}:∀ {l:List Oper} {g q:Gam} {d xs:List XS},J3 c draw n ops l g d=some (q,xs)->
  ∃k,xs=d++k/\k.length=l.length/\q=YG k g/\∀(j:Nat) (o:Oper),l[j]?=some o->∃y,k[j]?=some y/\RW c n ops (YG (k.take j) g) o=some y.os/\y.R=Uw ops (YG (k.take j) g) o/\y.T=J9 draw (d++k.take j) o/\(draw=true->∀e∈Sj o,e<d.length+j)
 | [],g,q,d,xs,h=>by
   simp only[J3,Zdj,Zdx]at h;obtain⟨rfl,rfl⟩:=h;exact⟨[],Z1,rfl,rfl,λj o r=>by simp at r⟩
 |o::l,g,q,d,xs,h=>by
  simp only[J3]at h;split at h
  ·cases h
  ·rename_i f;simp only[Zdi]at h;obtain⟨os,A,h⟩:=h;obtain⟨k,rfl,J,rfl,p⟩:=Nc h;refine⟨{os,R:=Uw ops g o,T:=J9 draw d o}::k,Z1,by simp[J],by simp[YG],λj K r=> ?_⟩;cases j with
   |zero=>
    simp at r;subst r;refine⟨_,rfl,by simpa[YG]using A,by simp[YG],Z1,λx e z=> ?_⟩;simp only[x,Zgt,Zeh,ZfP,Zdu,ZdH]at f;exact f e z
   |succ j=>
    obtain⟨y,C,D,F,H,I⟩:=p j K Zcp;refine⟨y,by simpa using C,by simpa[YG]using D,by simpa[YG]using F,by simpa using H,λx e z=> ?_⟩;have:=I x e z;simp at this;omega
structure Reg.Fine (c:Ctx) (draw:Bool) (ops:Array Oper) (g0:Gam) (xs:List XS):Prop where
 len:xs.length=ops.size
 at_:∀(i:Nat) (o:Oper) (x:XS),ops[i]?=some o->xs[i]?=some x->RW c (ze ops) ops (YG (xs.take i) g0) o=some x.os/\x.R=Uw ops (YG (xs.take i) g0) o/\x.T=J9 draw (xs.take i) o/\(draw=true->∀e∈Sj o,e<i)
 ps:∀(i:Nat) (x:XS),xs[i]?=some x->(∀p∈x.os.ps,p∈ZS x.os.d)/\(∀p∈x.os.fz,p∈ZS x.os.d)/\Kq x.os g0=true/\∀j∈x.T,j<i
 pair:∀(i j:Nat) (x y:XS),xs[i]?=some x->xs[j]?=some y->zJ x i y j=true
def Z0P{c:Ctx}{draw:Bool}{ops:Array Oper}{g0 gf:Gam}{xs:List XS}(h:J3 c draw (ze ops) ops ops.toList g0 []=some (gf,xs))(f:Av g0 xs=true):Reg.Fine c draw ops g0 xs/\gf=YG xs g0:=by
 obtain⟨H,l,C,rfl,d⟩:=Nc h;simp only[Zej]at l;subst l;refine⟨⟨Z0,λi o x D k=> ?_,λi x k=> ?_,λi j x y k F=> ?_⟩,rfl⟩
 ·obtain⟨y,n,p,q,r,A⟩:=d i o Zcp;simp_all
 all_goals
  simp only[Av,Zdu,Zdn]at f;have z:∀(i:Nat) (x:XS),xs[i]?=some x->(x,i)∈xs.zipIdx:=λi x k=>Zgm.2 ⟨i,by rw[Zfv,k];simp⟩
 ·obtain⟨⟨⟨⟨n,p⟩,q⟩,r⟩,_⟩:=f (x,i) (z i x k);simp_all
 simp_all
section
variable {c:Ctx}{B:Nat}{G:Nat->Prop}{s:St}{a a':Act}{w w' w0:World}{h h':GH}{g0:Gam}{ops:Array Oper}{xs:List XS}{draw:Bool}{L:Nat->Bool}
def Q4(xs:List XS)(L:Nat->Bool):Prop:=∀(i:Nat) (x:XS),xs[i]?=some x->L i=true->∀j∈x.T,L j=true
def add(L:Nat->Bool)(i:Nat):Nat->Bool:=λj=>L j||j==i
def AV{x y:XS}{i j:Nat}(l:zJ x i y j=true)(f:j≠i)(k:i∉y.T):Kq x.os y.os.d=true/\(j∉x.T->(∀t∈ZS y.os.d,t∉ZS x.os.d)/\∀t∈ZS y.os.d,t∉x.R):=by
 simp only[zJ,ZdC,Zdn,Ze5,f,false_or,ZeP,ZdH,k]at l
 grind [qs,List.all_eq_true,Bool.not_eq_true',decide_eq_false_iff_not]
def IS{f:OS}{g:Gam}(k:Kq f g=true){t:Nat}(l:t∉ZS f.d):Vb f.ps f.rb f.fz (g.at t).2=true:=by
 by_cases j:t∈ZS g
 ·have:=Zdu.1 k _ (Lb j);simp_all
 simp_all[qB,qI]
def Reg.Fine.only(q:Reg.Fine c draw ops g0 xs)(p:Q4 xs L)(r:RelG c B G s a w h (gL xs 0 L g0)){i:Nat}{x:XS}(hx:xs[i]?=some x)(N:L i=false)(M:∀j∈x.T,L j=true):
  RelG c B G s a w h (only (YG (xs.take i) g0) x.R):=by
 have d:∀t,t∈x.R->(gL xs 0 L g0).at t=(YG (xs.take i) g0).at t:=by
  intro t o;have l:=jn (xs:=xs) (k:=0) (j:=i) (g:=g0);simp only[Ze7]at l;rw[<-l];refine LH (λj y A z=> ?_) rfl;rw[Ze7];obtain⟨_,_,_,J⟩:=q.ps j y A;obtain⟨_,_,_,I⟩:=q.ps i x hx;by_cases n:j=i
  ·simp_all
  ·have f:j∉x.T->i∉y.T->False:=λD F=>((AV (q.pair i j x y hx A) n F).2 D).2 t z o;obtain K|l:=Zg9 n
   ·grind
   ·cases H:L j with
    |false=>simp;omega
    |true=>
     exfalso;refine f (λC=>Zcp) λC=> ?_;have:=p j y A H i C;simp_all
 refine⟨r.ok,λt=> ?_,λt=> ?_⟩
 ·rw[zN];split
  ·rename_i o;rw[<-d t o];exact r.at_ t
  simp_all[TK.isNo]
 ·rw[zN];split
  ·rename_i o;rw[<-d t o];exact r.skip t
  simp_all[absurd,Ys]
def Reg.Fine.next(I:Reg.Fine c draw ops g0 xs)(F:Q4 xs L)(O:RelG c B G s a w h (gL xs 0 L g0)){i:Nat}{x:XS}(hx:xs[i]?=some x)(hi:L i=false)(Q:∀t∈x.os.rb,t∈x.os.ps)(hT:∀j∈x.T,L j=true)(A:OPost c B G s a a' w w' h h' x.os):
  RelG c B G s a' w' h' (gL xs 0 (add L i) g0):=by
 obtain⟨N,J,a0,X⟩:=I.ps i x hx
 have key:∀t,(holds s (ZI c ((gL xs 0 (add L i) g0).at t).1)->((gL xs 0 (add L i) g0).at t).2.isNo=false->∃v,a'.tmps[t]?=some v/\RelK c.P B s w' h' (λp=>a'.tmps[p]?) t v ((gL xs 0 (add L i) g0).at t).2)/\
   (¬holds s (ZI c ((gL xs 0 (add L i) g0).at t).1)->a'.tmps.getD t undef=undef):=by
  intro t;by_cases C:t∈ZS x.os.d
  ·have:(gL xs 0 (add L i) g0).at t=x.os.d.at t:=by
    refine EN hx (by simp[add]) C λj y D Y H r=> ?_
    have K:L j=true:=by
     simp only[add,Ze7,ZdC,Ze5]at H;exact H.resolve_right Z0
    have l:i∉y.T:=λf=>by
     have:=F j y D K i f;simp_all
    exact((AV (I.pair i j x y hx D) Z0 l).2 λf=>Zcp).1 t r C
   rw[this];exact A.ent t C
  ·have q:(gL xs 0 (add L i) g0).at t=(gL xs 0 L g0).at t:=by
    refine LH (λj y D r=> ?_) rfl;by_cases o:j=i
    ·simp_all
    ·simp[add,o]
   rw[q];have z:t∉x.os.ps:=λf=>C (N t f)
   have n:Vb x.os.ps x.os.rb x.os.fz ((gL xs 0 L g0).at t).2=true:=by
    obtain U|⟨j,y,D,H,r,U⟩:=EM (xs:=xs) (k:=0) (L:=L) (g:=g0) (t:=t)
    ·simp_all[IS]
    ·rw[U];rw[Ze7]at H;have o:j≠i:=λe=>Zcq
     have l:i∉y.T:=λf=>by
      have:=F j y D H i f;simp_all
     exact IS (AV (I.pair i j x y hx D) o l).1 C
   refine⟨λW M=> ?_,λM=> ?_⟩
   ·obtain⟨v,hv,Z⟩:=O.at_ t W M;exact⟨v,by rw[A.tm t z];exact hv,Z.keep A.step O.ok Q z (λf=>absurd (J t f) C) n A.tm⟩
   ·have:=O.skip t M;simp only[Zdo,A.tm t z]at this⊢;exact this
 exact⟨A.ok,λt=>(key t).1,λt=>(key t).2⟩
def Z0p(f:Q4 xs L){i:Nat}{x:XS}(hx:xs[i]?=some x)(o:∀j∈x.T,L j=true):Q4 xs (add L i):=by
 intro j y n d k l;simp only[add,ZdC,Ze5]at d⊢;obtain d|rfl:=d
 ·exact .inl (f j y n d k l)
 simp_all
end
end Vm
namespace Vm
open Go
open Go.RowKit (Below)
section
variable {c:Ctx}{B:Nat}{G:Nat->Prop}{s:St}{a a':Act}{w w' w0:World}{h h':GH}{g0:Gam}{ops:Array Oper}{xs:List XS}{draw:Bool}{L:Nat->Bool}{n0:Nat}{ds:List Deferred}
def Z7i{j:List Nat}{all:Gam}{o:Oper}{k:OS}(d:RW c j ops all o=some k):∀t∈k.rb,t∈k.ps:=by
 unfold RW at d;simp only at d;split at d
 grind
 ·simp only[Zdi]at d;obtain⟨C,_,d⟩:=d;split at d
  ·unfold C7 at d;split at d
   grind
   ·simp only[Zdi]at d
    grind
  grind
  split at d
  ·unfold C6 at d;split at d
   grind
   ·simp only[Zdm]at d
    grind
  grind
  ·split at d
   ·unfold Ca at d
    grind
   ·split at d
    grind
    ·simp only[Zdi]at d;obtain⟨m,_,d⟩:=d;split at d
     ·rename_i f;simp only[Zdn,Zdu,ZeP,ZdH]at f;simp only[Zdj]at d;subst d;exact f.1.2
     grind
structure Frm (Kf:Nat->Prop) (fx:Nat->Prop) (T0:Array Value) (B:Nat) (w0:World) (a:Act) (w:World):Prop where
 below:Below B w0 w
 same:Same Kf w0 w
 fix:∀t,fx t->a.tmps[t]?=T0[t]?
def Frm.refl{Kf fx:Nat->Prop}{B:Nat}(a:Act)(w:World):Frm Kf fx a.tmps B w a w:=⟨.refl _ _,.refl _ _,λ_ _=>rfl⟩
theorem Frm.trans{Kf fx:Nat->Prop}{T0:Array Value}{B:Nat}{w0 w w':World}{a a':Act}(h:Frm Kf fx T0 B w0 a w)(h':Frm Kf fx a.tmps B w a' w'):Frm Kf fx T0 B w0 a' w':=
 ⟨h.below.trans h'.below,h.same.trans h'.same,λt d=>(h'.fix t d).trans (h.fix t d)⟩
variable {Kf fx:Nat->Prop}{T0:Array Value}
def Step.K_same{l n fz:List Nat}(k:Step B l n fz w w' h h')(d:Ok B G w h):Same h.K w w':=
 λb f=>k.same b (d.k_lt b f) λp _ i j=>d.k_bl p i b j f
def RInv(Kf fx:Nat->Prop)(T0:Array Value)(c:Ctx)(B:Nat)(G:Nat->Prop)(s:St)(g0:Gam)(xs:List XS)(w0:World)(n0:Nat)(ds:List Deferred)(L:Nat->Bool)(a:Act)(w:World):Prop:=
 (∃h,RelG c B G s a w h (gL xs 0 L g0)/\h.K=Kf)/\Frm Kf fx T0 B w0 a w/\a.tmps.size=n0/\a.defers=ds/\Q4 xs L
def RelG.drew{g:Gam}(f:RelG c B G s a w h g)(d:Nat):RelG c B G s a {w with drawn:=d} h g:=by
 have k:Step B [] [] [] w {w with drawn:=d} h h:=⟨⟨rfl,rfl,rfl,Zdp _,λ_ _=>rfl⟩,λ_ _ _=>rfl,λ_ n=>n,λ_ _ _=>rfl,λ_ _=>rfl,λ_ _ _ _ p=>(by simp at p),rfl⟩;have j:Ok B G {w with drawn:=d} h:=⟨f.ok.base,f.ok.f_lt,f.ok.f_or,f.ok.g_F,f.ok.b_lt,f.ok.inj,f.ok.k_lt,f.ok.k_bl,f.ok.k_F⟩;refine⟨j,λt l q=> ?_,f.skip⟩;obtain⟨v,r,o⟩:=f.at_ t l q
 exact⟨v,r,o.keep k f.ok (λ_ h=>h) Z1 (λh=>Zd1) (by
  have:Qx [] (g.at t).2=false:=by cases(g.at t).2<;>simp[Qx]
  simp[Vb,this]) λ_ _=>rfl⟩
def RInv.sim(j:RInv Kf fx T0 c B G s g0 xs w0 n0 ds L a w)(d:Nat):RInv Kf fx T0 c B G s g0 xs w0 n0 ds L a {w with drawn:=d}:=by
 obtain⟨⟨h,n,k⟩,l,f⟩:=j;exact⟨⟨h,n.drew d,k⟩,l.trans ⟨⟨rfl,rfl,rfl,Zdp _,λ_ _=>rfl⟩,λ_ _=>rfl,λ_ _=>rfl⟩,f⟩
def RInv.of_sim [Lg c.P]{w1:World}(d:RInv Kf fx T0 c B G s g0 xs w0 n0 ds L a w)(h:Lg.sim c.P w w1):RInv Kf fx T0 c B G s g0 xs w0 n0 ds L a w1:=by
 rw[Lg.sim_eq h];exact d.sim _
def Me [Lg c.P](Q:∀o∈ops,∀d,o.dst=some d->¬fx d)(r:Reg.Fine c draw ops g0 xs)(U:∀x∈xs,QM c.P s x.os)(Z:c.n<=n0)(M:RInv Kf fx T0 c B G s g0 xs w0 n0 ds L a w){i:Nat}{x:XS}(hx:xs[i]?=some x)(I:L i=false)(y:∀j∈x.T,L j=true)
  {K:Act->World->Prop} (N:∀a' w',RInv Kf fx T0 c B G s g0 xs w0 n0 ds (add L i) a' w'->K a' w'):SE c.P ops i K a w:=by
 obtain⟨⟨h,A,l⟩,O,F,z,f⟩:=M;have p:i<ops.size:=by rw[<-r.len];exact(Zdl.1 hx).1
 obtain⟨H,J,W,X⟩:=r.at_ i ops[i] x (ZdQ p) hx;have D:=r.only f A hx I y;have C:=Z7i H;refine Z7j (R:=x.R) (ZdQ p) J D H (U x (Zdr hx)) Z0 λa' w' h' k q=>N a' w' ⟨⟨h',r.next f A hx I C y k,k.step.K.trans l⟩,O.trans ⟨k.step.below,by rw[<-l];exact k.step.K_same A.ok,λt ht=> ?_⟩,by rw[k.size,F],by rw[k.defers,z],Z0p f hx y⟩;obtain⟨u,rfl⟩:=q;cases Y:(ops[i]).dst with
 |none=>rfl
 |some d=>grind [RI,Array.getElem_mem]
def Mf [Lg c.P](f:∀o∈ops,Lg.fit c.P o)(l:∀o∈ops,∀d,o.dst=some d->¬fx d)(r:Reg.Fine c false ops g0 xs)(F:∀x∈xs,QM c.P s x.os)(D:c.n<=n0){Q:Exit->Act->World->Prop}(A:∀a w,RInv Kf fx T0 c B G s g0 xs w0 n0 ds (λi=>decide (i<ops.size)) a w->Q .normal a w):
  ∀(m k:Nat) (a:Act) (w:World),k+m=ops.size->RInv Kf fx T0 c B G s g0 xs w0 n0 ds (λi=>decide (i<k)) a w->Lg.todo c.P ops Q (List.range' k m) a w
 |0,k,a,w,J,y=>by
  have:k=ops.size:=Z0;subst this;exact Lg.todo_nil (A a w y)
 |m+1,k,a,w,J,y=>by
  rw[List.range'_succ];have p:k<xs.length:=by rw[r.len];omega
  have q:k<ops.size:=Z0;obtain⟨_,_,H,_⟩:=r.at_ k ops[k] xs[k] (ZdQ q) (Zdk p);refine Lg.todo_cons f λw1 z=> ?_;show SE c.P ops k _ a w1;refine Me l r F D (y.of_sim z) (Zdk p) Z1 (λj C=> ?_) λa' w' I=>Mf f l r F D A m (k+1) a' w' Z0 ?_
  ·rw[H]at C;simp only[J9,Zdy,Ze1,Zft,ZeD]at C;simp;omega
  ·have:add (λi=>decide (i<k)) k=λi=>decide (i<k+1):=by
    funext i;simp only[add];by_cases K:i<k
    ·grind
    ·grind
   simp_all
def qa(n:Nat)(L:Nat->Bool):Nat:=((List.range n).filter λi=> !L i).length
def Ej{p q:Nat->Bool}:∀ {l:List Nat},(∀i∈l,q i=true->p i=true)->(∃i∈l,p i=true/\q i=false)->(l.filter q).length< (l.filter p).length
 | [],_,⟨i,d,_⟩=>Zde
 |x::l,f,⟨i,d,k,n⟩=>by
  have j:∀(l:List Nat),(∀i∈l,q i=true->p i=true)->(l.filter q).length<=(l.filter p).length:=by
   intro l
   induction l with
   |nil=>simp
   |cons y l z=>
    grind
  have r:=f x Z1;have o:=j l λi d=>f i (by simp[d]);simp only[List.filter_cons];obtain rfl|d:=ZdG.1 d
  ·grind
  ·have:=Ej (l:=l) (λi d=>f i (by simp[d])) ⟨i,d,k,n⟩
   grind
def Z7x{n:Nat}{L:Nat->Bool}{i:Nat}(f:i<n)(d:L i=false):qa n (add L i)<qa n L:=
 Ej (λj _ k=>by simp_all[add,Zeh,Bool.or_eq_false_iff]) ⟨i,Zcp,by simp[d],by simp[add]⟩
def Z7y{n:Nat}{L:Nat->Bool}(h:qa n L=0):∀i,i<n->L i=true:=by
 intro i d;cases f:L i with
 |true=>rfl
 |false=>
  have:i∈(List.range n).filter λi=> !L i:=by simp[d,f]
  have j:=Zeb h;simp_all
def Z3e{o:Oper}{e:Edge}(f:e∈o.after)(d:Region.binds .any e=true):e.on∈Sj o:=by
 simp only[Sj,ZdB,Zg6]
 grind
def Z0z{o:Oper}{j:Nat}(d:j∈Sj o):∃e∈o.after,Region.binds .any e=true/\e.on=j:=by
 grind [Sj]
def Z5N [Lg c.P](X:∀o∈ops,∀d,o.dst=some d->¬fx d)(I:Reg.Fine c true ops g0 xs)(hs:∀x∈xs,QM c.P s x.os)(hn:c.n<=n0){Q:Exit->Act->World->Prop}(hQ:∀a w L,(∀i,i<ops.size->L i=true)->RInv Kf fx T0 c B G s g0 xs w0 n0 ds L a w->Q .normal a w):
  ∀(f:Nat) (listed:Array Bool) (a:Act) (w:World),listed.size=ops.size->qa ops.size (λi=>listed.getD i false)<=f->RInv Kf fx T0 c B G s g0 xs w0 n0 ds (λi=>listed.getD i false) a w->La c.P ops Q f listed a w:=by
 have Y:∀(listed:Array Bool) (i:Nat),listed.size=ops.size->i<ops.size->listed.getD i true=listed.getD i false:=by
  intro listed i C U;simp[Zdo,C,U]
 have l:∀(listed:Array Bool),listed.size=ops.size->Region.ready .any ops listed=[]->∀i,i<ops.size->listed.getD i false=true:=by
  intro listed y O i
  induction i using Nat.strongRecOn with
  |_ i ih=>
   intro J;cases hl:listed.getD i false with
   |true=>rfl
   |false=>
    have q:i<xs.length:=by rw[I.len];exact J
    obtain⟨_,_,_,T⟩:=I.at_ i ops[i] xs[i] (ZdQ J) (Zdk q)
    have:i∈Region.ready .any ops listed:=mem_ready.2 ⟨Zcq,ops[i],ZdQ J,λe N hb=>by
     have p:=T rfl e.on (Z3e N hb)
     grind⟩
    simp_all
 intro f
 induction f with
 |zero=>
  intro listed a w y hu D;have k:=Z7y (Nat.le_zero.1 hu);refine⟨?_,hQ a w _ k D⟩;cases O:Region.ready .any ops listed with
  |nil=>rfl
  |cons i r=>
   have:i∈Region.ready .any ops listed:=by rw[O];simp
   grind [mem_ready,Array.getElem?_eq_some_iff]
 |succ f ih=>
  intro listed a w y hu D;refine⟨λO=>hQ a w _ (l listed y O) D,λi J w1 a1=> ?_⟩;obtain⟨C,o,ho,k⟩:=mem_ready.1 J;have p:i<ops.size:=(Zdq.1 ho).1;have q:i<xs.length:=by rw[I.len];exact p
  rw[Y listed i y p]at C;obtain⟨_,_,e3,T⟩:=I.at_ i o xs[i] ho (Zdk q);have W:=D.2.2.2.2
  have F:(λj=>(listed.setIfInBounds i true).getD j false)=add (λi=>listed.getD i false) i:=by
   funext j;simp only[add];by_cases a3:j=i
   ·simp_all
   ·simp_all[getD_set_ne,Zfu]
  refine Me X I hs hn (D.of_sim a1) (Zdk q) C (λj Z=> ?_) λa' w' a2=>ih _ a' w' Zcq ?_ Zcq
  ·rw[e3]at Z;simp only[J9,Ze3,Zg6,Zft,ZeX,ZdC,Ze5,ZeP,ZdH]at Z;obtain⟨_,e,N,a0⟩:=Z;obtain⟨M,U,h3,rfl⟩:=Z0z N;have H:=k M U h3;obtain rfl|A:=a0
   ·exact H
   ·have K:=T rfl M.on N;have z:M.on<xs.length:=Z0;unfold D1 at A;rw[ZdY,if_pos K,Zdk z]at A;exact W M.on _ (Zdk z) H j A
  ·rw[F];have:=Z7x (n:=ops.size) (L:=λi=>listed.getD i false) p C;omega
def Z5Q [Lg c.P](f:∀o∈ops,Lg.fit c.P o)(hm:draw=true->c.P.follows .mixedOrders=true){id:Nat}(M:Reg.Fine c draw ops g0 xs)(W:∀x∈xs,QM c.P s x.os)(U:c.n<=a.tmps.size)(z:RelG c B G s a w h g0)(C:∀o∈ops,∀d,o.dst=some d->¬fx d)
  {Q:Exit->Act->World->Prop} (Z:∀a' w' h',RelG c B G s a' w' h' (YG xs g0)->h'.K=h.K->Frm h.K fx a.tmps B w a' w'->a'.tmps.size=a.tmps.size->a'.defers=a.defers->Q .normal a' w'):Lg.wp c.P (.region id ops draw) Q a w:=by
 have q:∀(L:Nat->Bool),(∀i,L i=false)->Q4 xs L:=λL p i x _ N=>Zcq;have D:∀(L:Nat->Bool),(∀i,L i=false)->∀t,(gL xs 0 L g0).at t=g0.at t:=λL p t=>jm λi x _ N=>Zcq
 have l:∀ {w:World} (L:Nat->Bool),(∀i,L i=false)->RelG c B G s a w h g0->RelG c B G s a w h (gL xs 0 L g0):=λL p z=>
  ⟨z.ok,λt=>by rw[D L p t];exact z.at_ t,λt=>by rw[D L p t];exact z.skip t⟩
 have r:∀ {a':Act} {w1 w':World} (L:Nat->Bool),(∀i,i<ops.size->L i=true)->RInv h.K fx a.tmps c B G s g0 xs w1 a.tmps.size a.defers L a' w'->Frm h.K fx a.tmps B w a w1->Q .normal a' w':=by
  rintro a' w1 w' L p ⟨⟨h',y,I⟩,hb,X,Y,_⟩ J;refine Z a' w' h' ?_ I (J.trans hb) X Y
  have T:∀t,(gL xs 0 L g0).at t=(YG xs g0).at t:=by
   intro t;have:=jn (xs:=xs) (k:=0) (j:=xs.length) (g:=g0);rw[Zem]at this;rw[<-this];refine LH (λi x hx _=> ?_) rfl;have F:=(Zdl.1 hx).1;rw[Ze7,p i (by rw[<-M.len];exact F)];simp[F]
  exact⟨y.ok,λt=>by rw[<-T t];exact y.at_ t,λt=>by rw[<-T t];exact y.skip t⟩
 cases draw with
 |false=>
  refine Lg.wp_region f ?_;rw[List.range_eq_range'];refine Mf f (Kf:=h.K) (T0:=a.tmps) C M W U (w0:=w) (n0:=a.tmps.size) (ds:=a.defers) (λa' w' H=>r _ (λi N=>by simp[N]) H (Frm.refl _ _)) ops.size 0 a w Z0 ⟨⟨h,l _ (λi=>Z1) z,rfl⟩,Frm.refl _ _,rfl,rfl,q _ λi=>Z1⟩
 |true=>
  refine Z5O f (hm rfl) λw1 O=> ?_;rw[show({w1 with drawn:=w1.drawn+1}:World)= {w with drawn:=w1.drawn+1}from Zez (λx:World=> {x with drawn:=w1.drawn+1}) (Lg.sim_eq O)];generalize w1.drawn+1=d
  have A:∀i,(Array.replicate ops.size false).getD i false=false:=λi=>by
   simp only[Zdo,Array.getElem?_replicate]
   grind
  refine Z5N (Kf:=h.K) (T0:=a.tmps) C M W U (w0:= {w with drawn:=d}) (n0:=a.tmps.size) (ds:=a.defers) (λa' w' L p H=>r L p H ⟨⟨rfl,rfl,rfl,Zdp _,λ_ _=>rfl⟩,λ_ _=>rfl,λ_ _=>rfl⟩) ops.size _ a _ Z1 ?_ ⟨⟨h,l _ A (z.drew d),rfl⟩,Frm.refl _ _,rfl,rfl,q _ A⟩;exact ZdP (Zgl _ _) Z1
end
end Vm
namespace Vm
open Go
mutual
theorem Y8{s t:St}:∀(e:E),(∀j,E.asks j e=true->get s j=get t j)->eval s e=eval t e
 |.c v,_=>rfl
 |.s u,h=>Zd4
 |.m u i,h=>Zd4
 |.mm u i n,h=>Zd4
 |.bin op a b,h=>Zct
 |.eqv n a b,h=>Zct
 |.un op a,h=>Zcu
 |.conv k a,h=>Zcu
 |.len a,h=>Zcu
 |.mn a b,h=>Zct
 |.mx a b,h=>Zct
 |.ext a i,h=>Zcu
 |.idx a b k,h=>Zct
 |.fld a o,h=>Zcu
 |.flds a o n,h=>Zcu
 |.ai a b n k g,h=>Zct
 |.slc a b d k,h=>Zcx
 |.slcl a b k,h=>Zct
 |.app a b k,h=>Zct
 |.upd a b o d,h=>Zcx
 |.aput a b n k d,h=>Zcx
 |.mk z a,h=>Zcu
 |.lit l,h=>ZcM
 |.ag l,h=>ZcM
 |.pt f l,h=>ZcM
 |.ite a b d,h=>Zcx
 |.star a,h=>Zcu
 |.isag a,h=>Zcu
 |.one a,h=>Zcu
 |.sz a n,h=>Zcu
 |.fl a,h=>Zcu
 |.fls a,h=>Zcu
 |.lk q a b z ok,h=>Zct
 |.mput q a b d,h=>Zcx
 |.mlen a,h=>Zcu
 |.mclr a,h=>Zcu
theorem Sm{s t:St}:∀(l:List E),(∀j,E.asksIn j l=true->get s j=get t j)->YB s l=YB t l
 | [],_=>rfl
 |e::l,h=>by simp only[YB];rw[Y8 e λj d=>h j (by simp[E.asksIn,d]),Sm l λj d=>h j (by simp[E.asksIn,d])]
end
mutual
theorem V.same_eq:∀(a b:V),V.same a b=true->a=b
 | .int k n,b,h=>by
   cases b<;>simp only[V.same]at h<;>first|(cases h;done)|skip
   simp at h;rw[h.1,h.2]
 | .bool x,b,h=>by
   cases b<;>simp only[V.same]at h<;>first|(cases h;done)|skip
   simp at h;rw[h]
 |.str x,b,h=>Zdb
 | .sl l,b,h=>by
   cases b<;>simp only[V.same]at h<;>first|(cases h;done)|skip
   rw[V.sames_eq l _ h]
 | .agg l,b,h=>by
   cases b<;>simp only[V.same]at h<;>first|(cases h;done)|skip
   rw[V.sames_eq l _ h]
 | .tup l,b,h=>by
   cases b<;>simp only[V.same]at h<;>first|(cases h;done)|skip
   rw[V.sames_eq l _ h]
 |.ptr l,b,h=>Zdb
 |.clo f l,b,h=>Zdb
 |.nul k,b,h=>Zdb
 | .fn f,b,h=>by
   cases b<;>simp only[V.same]at h<;>first|(cases h;done)|skip
   simp at h;rw[h]
 | .mp id d vs,b,h=>by
   cases b<;>simp only[V.same,Zdn,Ze5]at h<;>first|(cases h;done)|skip
   rw[h.1.1,V.sames_eq d _ h.1.2,V.sames_eq vs _ h.2]
theorem V.sames_eq:∀(a b:List V),V.sames a b=true->a=b
 | [],b,h=>by cases b<;>simp[V.sames]at h⊢
 |x::l,b,h=>by
  cases b with
  |nil=>simp[V.sames]at h
  |cons y r=>
   simp only[V.sames,Zdn]at h;rw[V.same_eq x y h.1,V.sames_eq l r h.2]
end
mutual
theorem E.same_eq:∀(a b:E),E.same a b=true->a=b
 | .c v,b,h=>by
   cases b<;>simp only[E.same]at h<;>first|(cases h;done)|skip
   rw[V.same_eq v _ h]
 | .s u,b,h=>by
   cases b<;>simp only[E.same,Ze5,Zdn]at h<;>first|(cases h;done)|skip
   rw[h]
 | .m u i,b,h=>by
   cases b<;>simp only[E.same,Ze5,Zdn]at h<;>first|(cases h;done)|skip
   rw[h.1,h.2]
 | .mm u i n,b,h=>by
   cases b<;>simp only[E.same,Ze5,Zdn]at h<;>first|(cases h;done)|skip
   rw[h.1.1,h.1.2,h.2]
 | .bin op x y,b,h=>by
   cases b<;>simp only[E.same,ZdH,Zdn]at h<;>first|(cases h;done)|skip
   rw[h.1.1,E.same_eq x _ h.1.2,E.same_eq y _ h.2]
 | .eqv op x y,b,h=>by
   cases b<;>simp only[E.same,Ze5,Zdn]at h<;>first|(cases h;done)|skip
   rw[h.1.1,E.same_eq x _ h.1.2,E.same_eq y _ h.2]
 | .un op x,b,h=>by
   cases b<;>simp only[E.same,ZdH,Zdn]at h<;>first|(cases h;done)|skip
   rw[h.1,E.same_eq x _ h.2]
 | .conv k x,b,h=>by
   cases b<;>simp only[E.same,ZdH,Zdn]at h<;>first|(cases h;done)|skip
   rw[h.1,E.same_eq x _ h.2]
 | .len x,b,h=>by
   cases b<;>simp only[E.same]at h<;>first|(cases h;done)|skip
   rw[E.same_eq x _ h]
 | .mn x y,b,h=>by
   cases b<;>simp only[E.same,Zdn]at h<;>first|(cases h;done)|skip
   rw[E.same_eq x _ h.1,E.same_eq y _ h.2]
 | .mx x y,b,h=>by
   cases b<;>simp only[E.same,Zdn]at h<;>first|(cases h;done)|skip
   rw[E.same_eq x _ h.1,E.same_eq y _ h.2]
 | .ext x i,b,h=>by
   cases b<;>simp only[E.same,Ze5,Zdn]at h<;>first|(cases h;done)|skip
   rw[E.same_eq x _ h.1,h.2]
 | .idx x y k,b,h=>by
   cases b<;>simp only[E.same,Ze5,Zdn]at h<;>first|(cases h;done)|skip
   rw[E.same_eq x _ h.1.1,E.same_eq y _ h.1.2,h.2]
 | .fld x o,b,h=>by
   cases b<;>simp only[E.same,Ze5,Zdn]at h<;>first|(cases h;done)|skip
   rw[E.same_eq x _ h.1,h.2]
 | .flds x o n,b,h=>by
   cases b<;>simp only[E.same,Ze5,Zdn]at h<;>first|(cases h;done)|skip
   rw[E.same_eq x _ h.1.1,h.1.2,h.2]
 | .ai x y n k g,b,h=>by
   cases b<;>simp only[E.same,Ze5,Zdn]at h<;>first|(cases h;done)|skip
   rw[E.same_eq x _ h.1.1.1.1,E.same_eq y _ h.1.1.1.2,h.1.1.2,h.1.2,h.2]
 | .slc x y z k,b,h=>by
   cases b<;>simp only[E.same,Ze5,Zdn]at h<;>first|(cases h;done)|skip
   rw[E.same_eq x _ h.1.1.1,E.same_eq y _ h.1.1.2,E.same_eq z _ h.1.2,h.2]
 | .slcl x y k,b,h=>by
   cases b<;>simp only[E.same,Ze5,Zdn]at h<;>first|(cases h;done)|skip
   rw[E.same_eq x _ h.1.1,E.same_eq y _ h.1.2,h.2]
 | .app x y k,b,h=>by
   cases b<;>simp only[E.same,Ze5,Zdn]at h<;>first|(cases h;done)|skip
   rw[E.same_eq x _ h.1.1,E.same_eq y _ h.1.2,h.2]
 | .upd x y o z,b,h=>by
   cases b<;>simp only[E.same,Ze5,Zdn]at h<;>first|(cases h;done)|skip
   rw[E.same_eq x _ h.1.1.1,E.same_eq y _ h.1.1.2,h.1.2,E.same_eq z _ h.2]
 | .aput x y n k z,b,h=>by
   cases b<;>simp only[E.same,Ze5,Zdn]at h<;>first|(cases h;done)|skip
   rw[E.same_eq x _ h.1.1.1.1,E.same_eq y _ h.1.1.1.2,h.1.1.2,h.1.2,E.same_eq z _ h.2]
 | .mk v x,b,h=>by
   cases b<;>simp only[E.same,Zdn]at h<;>first|(cases h;done)|skip
   rw[V.same_eq v _ h.1,E.same_eq x _ h.2]
 | .lit l,b,h=>by
   cases b<;>simp only[E.same]at h<;>first|(cases h;done)|skip
   rw[E.sames_eq l _ h]
 | .pt f l,b,h=>by
   cases b<;>simp only[E.same,Zdn,Ze5]at h<;>first|(cases h;done)|skip
   rw[h.1,E.sames_eq l _ h.2]
 | .ag l,b,h=>by
   cases b<;>simp only[E.same]at h<;>first|(cases h;done)|skip
   rw[E.sames_eq l _ h]
 | .ite x y z,b,h=>by
   cases b<;>simp only[E.same,Zdn]at h<;>first|(cases h;done)|skip
   rw[E.same_eq x _ h.1.1,E.same_eq y _ h.1.2,E.same_eq z _ h.2]
 | .star x,b,h=>by
   cases b<;>simp only[E.same]at h<;>first|(cases h;done)|skip
   rw[E.same_eq x _ h]
 | .isag x,b,h=>by
   cases b<;>simp only[E.same]at h<;>first|(cases h;done)|skip
   rw[E.same_eq x _ h]
 | .one x,b,h=>by
   cases b<;>simp only[E.same]at h<;>first|(cases h;done)|skip
   rw[E.same_eq x _ h]
 | .sz x n,b,h=>by
   cases b<;>simp only[E.same,Ze5,Zdn]at h<;>first|(cases h;done)|skip
   rw[E.same_eq x _ h.1,h.2]
 | .fl x,b,h=>by
   cases b<;>simp only[E.same]at h<;>first|(cases h;done)|skip
   rw[E.same_eq x _ h]
 | .fls x,b,h=>by
   cases b<;>simp only[E.same]at h<;>first|(cases h;done)|skip
   rw[E.same_eq x _ h]
 | .lk d x y z ok,b,h=>by
   cases b<;>simp only[E.same,Ze5,ZdH,Zdn]at h<;>first|(cases h;done)|skip
   rw[h.1.1.1.1,E.same_eq x _ h.1.1.1.2,E.same_eq y _ h.1.1.2,V.same_eq z _ h.1.2,h.2]
 | .mput d x y z,b,h=>by
   cases b<;>simp only[E.same,ZdH,Zdn]at h<;>first|(cases h;done)|skip
   rw[h.1.1.1,E.same_eq x _ h.1.1.2,E.same_eq y _ h.1.2,E.same_eq z _ h.2]
 | .mlen x,b,h=>by
   cases b<;>simp only[E.same]at h<;>first|(cases h;done)|skip
   rw[E.same_eq x _ h]
 | .mclr x,b,h=>by
   cases b<;>simp only[E.same]at h<;>first|(cases h;done)|skip
   rw[E.same_eq x _ h]
theorem E.sames_eq:∀(a b:List E),E.sames a b=true->a=b
 | [],b,h=>by cases b<;>simp[E.sames]at h⊢
 |x::l,b,h=>by
  cases b with
  |nil=>simp[E.sames]at h
  |cons y r=>
   simp only[E.sames,Zdn]at h;rw[E.same_eq x y h.1,E.sames_eq l r h.2]
end
end Vm
namespace Vm
open Go
section
variable {s t:St}
def Yl{α β:Type}{x:Option α}{f:α->Option β}(h:∃z,x.bind f=some z):∃y,x=some y:=by
 grind [Option.bind_eq_some_iff]
def Wf{α β:Type}{x:Option α}{f:α->Option β}(h:∃z,x.bind f=some z):∃y,x=some y/\∃z,f y=some z:=by
 grind [Option.bind_eq_some_iff]
mutual
def Yh{x:E}:∀(e:E),E.has x e=true->(∃v,eval s e=some v)->∃v,eval s x=some v
 | .c v,h,j=>by
   grind [E.has,E.same_eq]
 | .s u,h,j=>by
   grind [E.has,E.same_eq]
 | .m u i,h,j=>by
   grind [E.has,E.same_eq]
 | .mm u i n,h,j=>by
   grind [E.has,E.same_eq]
 | .bin op a b,h,j=>by
   simp only[E.has,ZdC]at h;obtain(h|h)|h:=h
   ·grind [E.same_eq]
   ·exact Yh a h (Yl j)
   ·obtain⟨y,_,p⟩:=Wf j;exact Yh b h (Yl p)
 | .eqv op a b,h,j=>by
   simp only[E.has,ZdC]at h;obtain(h|h)|h:=h
   ·grind [E.same_eq]
   ·exact Yh a h (Yl j)
   ·obtain⟨y,_,p⟩:=Wf j;exact Yh b h (Yl p)
 | .mn a b,h,j=>by
   simp only[E.has,ZdC]at h;obtain(h|h)|h:=h
   ·grind [E.same_eq]
   ·exact Yh a h (Yl j)
   ·obtain⟨y,_,p⟩:=Wf j;exact Yh b h (Yl p)
 | .mx a b,h,j=>by
   simp only[E.has,ZdC]at h;obtain(h|h)|h:=h
   ·grind [E.same_eq]
   ·exact Yh a h (Yl j)
   ·obtain⟨y,_,p⟩:=Wf j;exact Yh b h (Yl p)
 | .idx a b k,h,j=>by
   simp only[E.has,ZdC]at h;obtain(h|h)|h:=h
   ·grind [E.same_eq]
   ·exact Yh a h (Yl j)
   ·obtain⟨y,_,p⟩:=Wf j;exact Yh b h (Yl p)
 | .ai a b n k g,h,j=>by
   simp only[E.has,ZdC]at h;obtain(h|h)|h:=h
   ·grind [E.same_eq]
   ·exact Yh a h (Yl j)
   ·obtain⟨y,_,p⟩:=Wf j;exact Yh b h (Yl p)
 | .slcl a b k,h,j=>by
   simp only[E.has,ZdC]at h;obtain(h|h)|h:=h
   ·grind [E.same_eq]
   ·exact Yh a h (Yl j)
   ·obtain⟨y,_,p⟩:=Wf j;exact Yh b h (Yl p)
 | .app a b k,h,j=>by
   simp only[E.has,ZdC]at h;obtain(h|h)|h:=h
   ·grind [E.same_eq]
   ·exact Yh a h (Yl j)
   ·obtain⟨y,_,p⟩:=Wf j;exact Yh b h (Yl p)
 | .slc a b d k,h,j=>by
   simp only[E.has,ZdC]at h;obtain((h|h)|h)|h:=h
   ·grind [E.same_eq]
   ·exact Yh a h (Yl j)
   ·obtain⟨y,_,p⟩:=Wf j;exact Yh b h (Yl p)
   ·obtain⟨y,_,p⟩:=Wf j;obtain⟨C,_,q⟩:=Wf p;exact Yh d h (Yl q)
 | .upd a b o d,h,j=>by
   simp only[E.has,ZdC]at h;obtain((h|h)|h)|h:=h
   ·grind [E.same_eq]
   ·exact Yh a h (Yl j)
   ·obtain⟨y,_,p⟩:=Wf j;exact Yh b h (Yl p)
   ·obtain⟨y,_,p⟩:=Wf j;obtain⟨C,_,q⟩:=Wf p;exact Yh d h (Yl q)
 | .aput a b n k d,h,j=>by
   simp only[E.has,ZdC]at h;obtain((h|h)|h)|h:=h
   ·grind [E.same_eq]
   ·exact Yh a h (Yl j)
   ·obtain⟨y,_,p⟩:=Wf j;exact Yh b h (Yl p)
   ·obtain⟨y,_,p⟩:=Wf j;obtain⟨C,_,q⟩:=Wf p;exact Yh d h (Yl q)
 | .un op a,h,j=>by
   simp only[E.has,ZdC]at h;obtain h|h:=h
   ·grind [E.same_eq]
   ·exact Yh a h (Yl j)
 | .conv k a,h,j=>by
   simp only[E.has,ZdC]at h;obtain h|h:=h
   ·grind [E.same_eq]
   ·exact Yh a h (Yl j)
 | .len a,h,j=>by
   simp only[E.has,ZdC]at h;obtain h|h:=h
   ·grind [E.same_eq]
   ·exact Yh a h (Yl j)
 | .ext a i,h,j=>by
   simp only[E.has,ZdC]at h;obtain h|h:=h
   ·grind [E.same_eq]
   ·exact Yh a h (Yl j)
 | .fld a o,h,j=>by
   simp only[E.has,ZdC]at h;obtain h|h:=h
   ·grind [E.same_eq]
   ·exact Yh a h (Yl j)
 | .flds a o n,h,j=>by
   simp only[E.has,ZdC]at h;obtain h|h:=h
   ·grind [E.same_eq]
   ·exact Yh a h (Yl j)
 | .mk z a,h,j=>by
   simp only[E.has,ZdC]at h;obtain h|h:=h
   ·grind [E.same_eq]
   ·exact Yh a h (Yl j)
 | .star a,h,j=>by
   simp only[E.has,ZdC]at h;obtain h|h:=h
   ·grind [E.same_eq]
   ·exact Yh a h (Yl j)
 | .isag a,h,j=>by
   simp only[E.has,ZdC]at h;obtain h|h:=h
   ·grind [E.same_eq]
   ·exact Yh a h (Yl j)
 | .one a,h,j=>by
   simp only[E.has,ZdC]at h;obtain h|h:=h
   ·grind [E.same_eq]
   ·exact Yh a h (Yl j)
 | .sz a n,h,j=>by
   simp only[E.has,ZdC]at h;obtain h|h:=h
   ·grind [E.same_eq]
   ·exact Yh a h (Yl j)
 | .fl a,h,j=>by
   simp only[E.has,ZdC]at h;obtain h|h:=h
   ·grind [E.same_eq]
   ·exact Yh a h (Yl j)
 | .fls a,h,j=>by
   simp only[E.has,ZdC]at h;obtain h|h:=h
   ·grind [E.same_eq]
   ·exact Yh a h (Yl j)
 | .mlen a,h,j=>by
   simp only[E.has,ZdC]at h;obtain h|h:=h
   ·grind [E.same_eq]
   ·exact Yh a h (Yl j)
 | .mclr a,h,j=>by
   simp only[E.has,ZdC]at h;obtain h|h:=h
   ·grind [E.same_eq]
   ·exact Yh a h (Yl j)
 | .lk D a b z ok,h,j=>by
   simp only[E.has,ZdC]at h;obtain(h|h)|h:=h
   ·grind [E.same_eq]
   ·exact Yh a h (Yl j)
   ·obtain⟨y,_,p⟩:=Wf j;exact Yh b h (Yl p)
 | .mput D a b d,h,j=>by
   simp only[E.has,ZdC]at h;obtain((h|h)|h)|h:=h
   ·grind [E.same_eq]
   ·exact Yh a h (Yl j)
   ·obtain⟨y,_,p⟩:=Wf j;exact Yh b h (Yl p)
   ·obtain⟨y,_,p⟩:=Wf j;obtain⟨C,_,q⟩:=Wf p;exact Yh d h (Yl q)
 | .ite a b d,h,j=>by
   simp only[E.has,ZdC]at h;obtain h|h:=h
   ·grind [E.same_eq]
   ·exact Yh a h (Yl j)
 | .lit l,h,j=>by
   simp only[E.has,ZdC]at h;obtain h|h:=h
   ·grind [E.same_eq]
   ·obtain⟨v,j⟩:=j;simp only[eval,Zdm]at j;obtain⟨A,r,_⟩:=j;exact LK l h ⟨A,r⟩
 | .pt f l,h,j=>by
   simp only[E.has,ZdC]at h;obtain h|h:=h
   ·grind [E.same_eq]
   ·obtain⟨v,j⟩:=j;simp only[eval,Zdi]at j;obtain⟨A,r,_⟩:=j;exact LK l h ⟨A,r⟩
 | .ag l,h,j=>by
   simp only[E.has,ZdC]at h;obtain h|h:=h
   ·grind [E.same_eq]
   ·obtain⟨v,j⟩:=j;simp only[eval,Zdm]at j;obtain⟨A,r,_⟩:=j;exact LK l h ⟨A,r⟩
def LK{x:E}:∀(l:List E),E.hasIn x l=true->(∃v,YB s l=some v)->∃v,eval s x=some v
 | [],h,_=>by simp[E.hasIn]at h
 |e::l,h,d=>by
  obtain⟨v,d⟩:=d;simp only[YB,Zdi,Zdm]at d;obtain⟨y,j,k,f,_⟩:=d;simp only[E.hasIn,ZdC]at h;obtain h|h:=h
  ·exact Yh e h ⟨y,j⟩
  ·exact LK l h ⟨k,f⟩
end
def Jc(s:St)(l:List (ZC×E)):Prop:=∀x∈l,holds s x.1->∃v,eval s x.2=some v
def EY{C D:ZC}(h:R5 C D=true)(d:holds s D):holds s C:=λx f=>by
 have:=Zdu.1 h x f;exact d x Zcq
def Bk:∀ {l r:List (ZC×E)},Jc s l->Jc s (ye l r)->Jc s r
 |l,[],_,_=>λx D=>by simp at D
 |l,x::r,o,j=>by
  simp only[ye]at j;split at j
  ·rename_i C;have p:=Bk o j;intro y d f;obtain rfl|d:=ZdG.1 d
   ·simp only[DR,ZeX,Zdn]at C;obtain⟨z,k,n,q⟩:=C
    have A:∃v,eval s z.2=some v:=by
     obtain k|k:=ZdL.1 k
     ·exact o z k (EY n f)
     ·exact j z k (EY n f)
    exact Yh _ q A
   ·exact p y d f
  ·have p:=Bk o λy d=>j y (ZdV _ d);intro y d f;obtain rfl|d:=ZdG.1 d
   ·exact j y (Ze2 ..) f
   ·exact p y d f
def Yj:St->Nat->SV->St
 | [],0,x=>[x]
 | [],i+1,x=>.no::Yj [] i x
 |_::s,0,x=>x::s
 |y::s,i+1,x=>y::Yj s i x
def YY:∀(s:St) (i j:Nat) (x:SV),get (Yj s i x) j=if j=i then x else get s j
 | [],0,0,x=>rfl
 | [],0,j+1,x=>by simp[Yj,get]
 | [],i+1,0,x=>by simp[Yj,get]
 | [],i+1,j+1,x=>by
   have:=YY [] i j x;simp only[get]at this;simp[Yj,get,this]
 |y::s,0,0,x=>rfl
 |y::s,0,j+1,x=>by simp[Yj,get]
 |y::s,i+1,0,x=>by simp[Yj,get]
 |y::s,i+1,j+1,x=>by
  have:=YY s i j x;simp only[get]at this;simp[Yj,get,this]
def Vx(s:St)(C:ZC):Bool:=C.all λx=>match get s x.1 with|.v (.bool b)=>b==x.2|_=>false
def Qv{C:ZC}:Vx s C=true↔holds s C:=by
 simp only[Vx,Zdu,holds]
 grind
def YM(P:Program) [Lg P]:List EF->St->(St->Prop)->Prop
 | [],s,K=>K s
 |.lt i C e::l,s,K=>if Vx s C=true then(match eval s e with|some x=>YM P l (Yj s i (.v x)) K|none=>False)else YM P l s K
 |.call i C f j fl aq_::l,s,K=>if Vx s C=true then(match YB s aq_,Ut s f with|some xs,some n=>∃r,VC P n.1 j (xs++n.2) r/\(fl=true->Wh r=some r)/\YM P l (Yj s i (.v r)) K|_,_=>False)else YM P l s K
 | .callm i C f d aq_::l,s,K=>if Vx s C=true then(match YB s aq_,Vc s f with|some xs,some n=>∃R,V7 P n d xs R/\YM P l (Yj s i (.v R)) K|_,_=>False)
   else(match Ws s d aq_ with|some []=>YM P l s K|some os=>YM P l (Yj s i (.v (.tup (.bool false::os)))) K|none=>False)
def LN{C:ZC}(h:∀j,C.any (λx=>x.1==j)=true->get s j=get t j):holds s C↔holds t C:=by
 have:∀x∈C,get s x.1=get t x.1:=λx d=>h x.1 (ZeX.2 ⟨x,d,Z1⟩);constructor
 ·intro f x d;rw[<-this x d];exact f x d
 ·intro f x d;rw[this x d];exact f x d
def UP{j:Nat}{l r:List E}:E.asksIn j (l++r)=(E.asksIn j l||E.asksIn j r):=by
 induction l with
 |nil=>rfl
 |cons e l d=>simp[E.asksIn,d,Bool.or_assoc]
def Ew{f:FN}(h:∀j,E.asksIn j f.es=true->get s j=get t j):Vc s f=Vc t f:=by
 cases f with
 |id n=>rfl
 |e x=>grind [Vc,Y8,FN.es,E.asksIn]
def Ey{f:FN}(h:∀j,E.asksIn j f.es=true->get s j=get t j):Ut s f=Ut t f:=by
 cases f with
 |id n=>rfl
 |e x=>grind [Ut,Y8,FN.es,E.asksIn]
def Aw:∀ {ks:List OT} {aq_:List E},(∀j,E.asksIn j aq_=true->get s j=get t j)->Ws s ks aq_=Ws t ks aq_
 | [],aq_,_=>by simp[Ws]
 |k::ks,[],_=>by cases k<;>simp[Ws]
 |k::ks,e::aq_,h=>by
  have l:=Aw (ks:=ks) (aq_:=aq_) λj d=>h j (by simp[E.asksIn,d]);have f:=Y8 e λj d=>h j (by simp[E.asksIn,d]);cases k<;>simp only[Ws,l,f]
def Oe{P:Program} [Lg P]{x:EF}(h:∀j,XD j x=true->get s j=get t j)(p:get s (UR x)=get t (UR x))(q:Q5 P s x):Q5 P t x:=by
 cases x with
 |lt i C e=>
  intro k;have l:=(LN (s:=s) (t:=t) (C:=C) λj d=>h j Zdc).2 k;obtain⟨v,D,z⟩:=q l;exact⟨v,by rw[<-Y8 e λj d=>h j (by simp_all[XD,Zhk])];exact D,by rw[<-z];exact p.symm⟩
 |call i C f K fl aq_=>
  intro k;have l:=(LN (s:=s) (t:=t) (C:=C) λj d=>h j Zdc).2 k;obtain⟨xs,n,r,D,I,o,y,z⟩:=q l;exact⟨xs,n,r,by rw[<-Sm aq_ λj d=>h j ZcO];exact D,by rw[<-Ey (f:=f) λj d=>h j ZcS];exact I,o,y,by rw[<-z];exact p.symm⟩
 |callm i C f ks aq_=>
  have F:=LN (s:=s) (t:=t) (C:=C) λj d=>h j Zdc;have M:=Sm aq_ λj d=>h j ZcO;have N:=Ew (f:=f) λj d=>h j ZcS;have O:=Aw (ks:=ks) (aq_:=aq_) λj d=>h j ZcO;refine⟨λk=> ?_,λk=> ?_⟩
  ·obtain⟨xs,n,R,l,o,y,H⟩:=q.1 (F.2 k);exact⟨xs,n,R,Zcq,Zcq,y,by rw[<-H];exact p.symm⟩
  ·obtain⟨J,l,o⟩:=q.2 λh'=>k (F.1 h');exact⟨J,Zcq,λA=>by rw[<-o A];exact p.symm⟩
def NT{P:Program} [Lg P]{K:St->Prop}:∀ {l:List EF} {s:St},zH l=true->YM P l s K->∃t,K t/\(∀x∈l,Q5 P t x)/\∀j,(∀x∈l,UR x≠j)->get t j=get s j
 | [],s,_,h=>⟨s,h,λx T=>by simp at T,λ_ _=>rfl⟩
 |x::l,s,z,h=>by
  simp only[zH,Zdn,Zeh,Zdu,Zgy,ne_eq]at z;obtain⟨⟨o,hl⟩,z⟩:=z
  have fin:∀(M:St),(∀j,j≠UR x->get M j=get s j)->Q5 P M x->YM P l M K->∃t,K t/\(∀y∈x::l,Q5 P t y)/\∀j,(∀y∈x::l,UR y≠j)->get t j=get s j:=by
   intro M a0 T h;obtain⟨t,hK,X,D⟩:=NT z h;refine⟨t,hK,λy J=> ?_,λj k=> ?_⟩
   ·obtain rfl|J:=ZdG.1 J
    ·refine Oe (s:=M) (λj k=>(D j λy J e=> ?_).symm) (D _ λy J e=>(hl y J).1 e).symm T
     grind
    simp_all
   ·grind
  cases x with
  |lt i C e=>
   simp only[YM]at h
   have d:∀(v:SV) (j:Nat),XD j (.lt i C e)=true->get (Yj s i v) j=get s j:=λv j k=>by
    rw[YY,if_neg];intro A;subst A;exact absurd k (by rw[show XD j (.lt j C e)=false from o];simp)
   split at h
   ·rename_i p;split at h
    ·rename_i v hv;refine fin (Yj s i (.v v)) (λj k=>by rw[YY];exact if_neg k) (λ_=>⟨v,?_,by rw[YY,if_pos rfl]⟩) h;rw[Y8 e λj k=>d _ j (by simp_all[XD,Zhk])];exact hv
    simp_all
   ·rename_i p;exact fin s (λ_ _=>rfl) (λq=>absurd (Qv.2 q) p) h
  |call i C f U fl aq_=>
   simp only[YM]at h
   have d:∀(v:SV) (j:Nat),XD j (.call i C f U fl aq_)=true->get (Yj s i v) j=get s j:=λv j k=>by
    rw[YY,if_neg];intro A;subst A;exact absurd k (by rw[show XD j (.call j C f U fl aq_)=false from o];simp)
   split at h
   ·rename_i p;split at h
    ·rename_i xs n I Y;obtain⟨r,O,Q,h3⟩:=h;refine fin (Yj s i (.v r)) (λj k=>by rw[YY];exact if_neg k) (λ_=>⟨xs,n,r,?_,?_,O,Q,by rw[YY,if_pos rfl]⟩) h3
     ·rw[Sm aq_ λj k=>d _ j ZcO];exact I
     ·rw[Ey (f:=f) λj k=>d _ j ZcS];exact Y
    simp_all
   ·rename_i p;exact fin s (λ_ _=>rfl) (λq=>absurd (Qv.2 q) p) h
  |callm i C f N aq_=>
   simp only[YM]at h
   have d:∀(v:SV) (j:Nat),XD j (.callm i C f N aq_)=true->get s j=get (Yj s i v) j:=λv j k=>by
    rw[YY,if_neg];intro A;subst A;exact absurd k (by rw[show XD j (.callm j C f N aq_)=false from o];simp)
   have W:∀v,holds s C↔holds (Yj s i v) C:=λv=>LN λj k=>d v j Zdc;have ha:∀v,YB s aq_=YB (Yj s i v) aq_:=λv=>Sm aq_ λj k=>d v j ZcO;have hf:∀v,Vc s f=Vc (Yj s i v) f:=λv=>Ew λj k=>d v j ZcS;have ho:∀v,Ws s N aq_=Ws (Yj s i v) N aq_:=λv=>Aw λj k=>d v j ZcO;split at h
   ·rename_i p;split at h
    ·rename_i xs n I Y;obtain⟨R,O,Q⟩:=h;refine fin (Yj s i (.v R)) (λj k=>by rw[YY];exact if_neg k) ⟨λ_=>⟨xs,n,R,?_,?_,O,by rw[YY,if_pos rfl]⟩,λq=>absurd ((W _).1 (Qv.1 p)) q⟩ Q
     ·grind
     grind
    simp_all
   ·rename_i p;split at h
    ·rename_i H;exact fin s (λ_ _=>rfl) ⟨λq=>absurd (Qv.2 q) p,λ_=>⟨[],H,λF=>absurd rfl F⟩⟩ h
    ·rename_i Z F H;refine fin (Yj s i (.v (.tup (.bool false::Z)))) (λj k=>by rw[YY];exact if_neg k) ⟨λq=>absurd (Qv.2 ((W _).2 q)) p,λ_=>⟨Z,?_,λ_=>by rw[YY,if_pos rfl]⟩⟩ h
     grind
    simp_all
end
end Vm
namespace Vm
open Go
open Go.RowKit (Below)
def WF(t:St):OV->Option SV
 |.v e=>(eval t e).map .v
 |.m l=>(YB t l).map .m
 |.no=>some .no
def VJ:List (Nat×OV)->St->St->(St->Prop)->Prop
 | [],_,u,K=>K u
 | (i,o)::l,t,u,K=>match WF t o with
   |some x=>VJ l t (Yj u i x) K
   |none=>False
def Sa(t:St):List (ZC×E)->Prop
 | []=>True
 |(C,e)::l=>(Vx t C=true->(eval t e).isSome=true)/\Sa t l
def qf(P:Program) [Lg P](r:Reg)(s:St)(K:St->Prop):Prop:=YM P r.efs s λt=>Sa t r.chks/\VJ r.outs t t K
def NS{t:St}:∀ {l:List (ZC×E)},Sa t l->Jc t l
 | [],_=>λx d=>Zde
 | (C,e)::l,h=>λx d f=>by
   obtain rfl|d:=ZdG.1 d
   ·exact Zet.1 (h.1 (Qv.2 f))
   ·exact NS h.2 x d f
def NW{K:St->Prop}{t:St}:∀ {l:List (Nat×OV)} {u:St},VJ l t u K->∃f,K f/\(∀x∈l,∃y,WF t x.2=some y)/\(∀j,(∀x∈l,x.1≠j)->get f j=get u j)/\
  ∀x∈l,(∀y∈l,y.1=x.1->y.2=x.2)->∀v,WF t x.2=some v->get f x.1=v
 | [],u,h=>⟨u,h,λx d=>Zde,λ_ _=>rfl,λx d=>Zde⟩
 | (i,o)::l,u,h=>by
   simp only[VJ]at h;split at h
   ·rename_i v H;obtain⟨f,r,D,p,F⟩:=NW h;refine⟨f,r,λx d=> ?_,λj q=> ?_,λx d z I A=> ?_⟩
    ·grind
    ·rw[p j λx d=>q x (by simp[d]),YY,if_neg];exactλe=>q (i,o) Z1 e.symm
    ·by_cases k:∃y∈l,y.1=x.1
     ·grind
     ·have n:x=(i,o):=by
       obtain h|h:=ZdG.1 d
       ·exact h
       ·simp_all
      subst n;rw[p i λy C e=>k ⟨y,C,e⟩,YY,if_pos rfl];simp_all
   simp_all
section
variable {c:Ctx}{B:Nat}{G:Nat->Prop}{s t u:St}{a a':Act}{w w':World}{h h':GH}{g:Gam}{S:SS}
def RelG.ctx{f:Ctx}(n:f.P=c.P)(j:f.ix=c.ix)(k:RelG c B G s a w h g):RelG f B G s a w h g:=by
 have l:∀C,ZI f C=ZI c C:=λC=>by simp[ZI,j]
 refine⟨k.ok,λp d o=> ?_,λp d=> ?_⟩
 ·rw[l]at d;rw[n];exact k.at_ p d o
 ·rw[l]at d;exact k.skip p d
theorem Yy:∀ {S:SS} {p:Nat},(Yq c S).at p=match S.at p with|some k=>([],Qk c p k)|none=>([],.no)
 | [],p=>rfl
 | (q,k)::S,p=>by
   simp only[Yq,ZdK,Gam.at,SS.at];by_cases d:q=p
   ·grind
   ·rw[if_neg d,if_neg d];exact Yy (S:=S) (p:=p)
theorem RelC.eval{P:Program}{o:Option Nat}{k:CK}{e n:E}{v:Value}(f:RelC P B s w h o k e v)(l:∀x,x.one=true->Vm.eval s e=some x->Vm.eval t n=some x):RelC P B t w h o k n v:=by
 cases k with
 |fz=>obtain⟨x,j,d,p⟩:=f;exact⟨x,l x d j,d,p⟩
 |own q=>obtain⟨x,j,d⟩:=f;exact⟨x,l x d.one j,d⟩
 |nil=>exact⟨f.1,l _ rfl f.2⟩
 |dead=>exact f
def RelG.agree(D:RelG c B G s a w h (Yq c S))(q:∀x∈S,get t (c.ix x.1)=get s (c.ix x.1)):RelG c B G t a w h (Yq c S):=by
 have n:∀ {S:SS} {p:Nat} {k:OT},S.at p=some k->(p,k)∈S:=by
  intro S p k
  induction S with
  |nil=>intro h;cases h
  |cons x S Q=>
   grind [SS.at,List.mem_cons_of_mem]
 have r:∀p,((Yq c S).at p).1=[]:=λp=>by grind [Yy]
 refine⟨D.ok,λp _ N=> ?_,λp M=>absurd (by simp_all[Ys]) M⟩;obtain⟨v,O,d⟩:=D.at_ p (by simp_all[Ys]) N;refine⟨v,O,?_⟩;rw[Yy]at d⊢;cases C:S.at p with
 |none=>trivial
 |some k=>
  rw[C]at d;have K:=q _ (n C);simp only at K d⊢;cases k with
  |fz=>obtain⟨x,o,j⟩:=d;exact⟨x,by simp_all[Vm.eval],j⟩
  |own U=>obtain⟨x,o,j⟩:=d;exact⟨x,by simp_all[Vm.eval],j⟩
  |nil=>exact d
  |mem l=>
   obtain⟨b,vs,T,o,j,H,I,J⟩:=d;refine⟨b,vs,T,o,j,H,I,λi F z=>(J i F z).eval λx _ P=> ?_⟩;simp only[ZdJ,Zdm]at z;obtain⟨y,_,rfl⟩:=z;simp_all[Vm.eval]
  |clo f A=>exact d
def H4{keep:List Nat}:∀ {p:Nat} {k:OT},(SG keep g).at p=some k->p∈keep/\(g.at p).1=[]/\WE (g.at p).2=some k:=by
 induction keep with
 |nil=>intro p k h;cases h
 |cons q keep f=>
  intro p k h;simp only[SG,Zf1]at h;split at h
  ·obtain⟨j,l⟩:=f (p:=p) (k:=k) h;simp_all
  ·rename_i y d;split at d
   ·rename_i o;simp only[Zdm]at d;obtain⟨r,n,rfl⟩:=d;simp only[SS.at]at h;split at h
    ·simp_all
    ·obtain⟨j,l⟩:=f (p:=p) (k:=k) h;simp_all
   ·cases d
def TK.kept:TK->Bool
 |.val .. |.own .. |.mem _=>true
 |_=>false
def Z4n{S0:SS}{p:Nat}(hc:(g.at p).1=[])(d:(g.at p).2.kept=true):Ta c S0 g p=if S3 (c.ix p) (Vj (g.at p).2)=true then none else some (c.ix p,Vj (g.at p).2):=by
 unfold Ta;simp only[hc,Zh9,Ze3];cases f:S3 (c.ix p) (Vj (g.at p).2)
 ·simp only[Zdy,Ze1]
  grind [TK.kept]
 rfl
def Z5P{keep sh:List Nat}{S0:SS}(hr:RelG c B G t a w h g)(Y:∀p∈keep,∀e l,g.at p=([],.val e l)->∀b,h.ext l b->h.F b)
  (D:∀p∈keep,match Ta c S0 g p with|some x=>∃v,WF t x.2=some v/\get u (c.ix p)=v|none=>get u (c.ix p)=get t (c.ix p)):RelG c B G u a w h (Yq c (SG keep g)):=by
 have U:∀p,((Yq c (SG keep g)).at p).1=[]:=λp=>by grind [Yy,SG]
 refine⟨hr.ok,λp _ hn=> ?_,λp hh=>absurd (by simp_all[Ys]) hh⟩;rw[Yy]at hn⊢;cases hS:(SG keep g).at p with
 |none=>simp_all[TK.isNo]
 |some k=>
  obtain⟨O,Q,r⟩:=H4 hS;have X:(g.at p).2.isNo=false:=by cases A:(g.at p).2<;>rw[A]at r<;>first|rfl|simp[WE]at r
  obtain⟨v,hv,d⟩:=hr.at_ p (by simp_all[Ys]) X;refine⟨v,hv,?_⟩
  have C:(g.at p).2.kept=true->(S3 (c.ix p) (Vj (g.at p).2)=true/\get u (c.ix p)=get t (c.ix p))\/∃v,WF t (Vj (g.at p).2)=some v/\get u (c.ix p)=v:=by
   intro J;have M:=D p O;rw[Z4n Q J]at M;by_cases H:S3 (c.ix p) (Vj (g.at p).2)=true
   ·simp_all
   ·simp_all
  simp only;cases A:(g.at p).2 with
  |val e l=>
   rw[A]at r d C;simp only[WE,Zdj]at r;subst r;obtain⟨x,Z,K⟩:=d;have hF:=Y p O e l Zcp;refine⟨x,?_,K.mono λb hb=>GH.ext_F (hF b hb)⟩;simp only[Vm.eval];obtain⟨H,W⟩|⟨v',M,P⟩:=C rfl
   ·simp only[Vj]at H;cases e<;>simp only[S3]at H<;>first|(cases H;done)|skip
    simp_all[Ze5,Vm.eval]
   grind [Vj,WF,Option.some.injEq]
  |own ty e=>
   rw[A]at r d C;simp only[WE,Zdj]at r;subst r;obtain⟨x,Z,K⟩:=d;refine⟨x,?_,K⟩;simp only[Vm.eval];obtain⟨H,W⟩|⟨v',M,P⟩:=C rfl
   ·simp only[Vj]at H;cases e<;>simp only[S3]at H<;>first|(cases H;done)|skip
    simp_all[Ze5,Vm.eval]
   grind [Vj,WF,Option.some.injEq]
  |nil=>
   rw[A]at r d;simp only[WE,Zdj]at r;subst r;exact d
  |mem cs=>
   rw[A]at r d C;simp only[WE,Zdj]at r;subst r;obtain⟨b,vs,T,M,P,h3,h4,h5⟩:=d;refine⟨b,vs,T,M,P,h3,by simpa using h4,λi ck hi=> ?_⟩;simp only[ZdJ,Zfv,Zdm]at hi;obtain⟨y,⟨q,⟨I,N,rfl⟩,rfl⟩,rfl⟩:=hi;refine(h5 i I N).eval λx a2 Z=> ?_;simp only[Ze7,Vm.eval];obtain⟨H,W⟩|⟨v',e1,e2⟩:=C rfl
   ·simp only[Vj,S3,Zdu]at H;have:=H (I.2,i) (Zgm.2 ⟨i,Zcq⟩);obtain⟨kk,e⟩:=I;cases e<;>simp only at this<;>first|(cases this;done)|skip
    simp only[Zdn,Ze5]at this;obtain⟨rfl,rfl⟩:=this;rw[W];simpa only[Vm.eval]using Z
   ·simp only[Vj,WF,Zdm]at e1;obtain⟨xs,a0,rfl⟩:=e1;obtain⟨_,D⟩:=Us a0;obtain⟨z,hz,a3⟩:=D i I.2 Zcq;simp_all[Zdt,YR,if_pos]
  |no=>simp_all[WE]
  |ags cs=>simp_all[WE]
  |ref p=>simp_all[WE]
  |refm p i=>simp_all[WE]
  |pm p o=>simp_all[WE]
  |pc e o sh=>simp_all[WE]
  |pe p i j o k=>simp_all[WE]
  |pa p o j n k=>simp_all[WE]
  |big e sh=>simp_all[WE]
  |clo f a1=>
   rw[A]at r d;simp only[WE,Zdj]at r;subst r;exact d
end
end Vm
namespace Vm
open Go
open Go.RowKit (Below)
def UL(c:Ctx)(s:St)(S:SS):Prop:=∀p,S.at p=some .nil->get s (c.ix p)=.v (.sl [])
def Qc:∀ {S:SS} {p:Nat} {k:OT},S.at p=some k->(p,k)∈S
 | [],p,k,h=>ZcC
 | (q,d)::S,p,k,h=>by
   simp only[SS.at]at h;split at h
   ·rename_i e;subst e;cases h;simp
   ·exact ZdV _ (Qc h)
section
variable {c:Ctx}{B:Nat}{G:Nat->Prop}{s t u:St}{a a':Act}{w w':World}{h h':GH}{g:Gam}{S S':SS}
theorem H3{S0:SS}{p:Nat}{x:Nat×OV}(h:Ta c S0 g p=some x):x.1=c.ix p:=by
 grind [Ta,Vj,Option.some.injEq]
theorem qX{l:List E}{xs:List V}(h:YB t l=some xs):∀e∈l,∃v,eval t e=some v:=by
 intro e d;obtain⟨_,f⟩:=Us h
 grind [List.getElem?_of_mem]
theorem Z4o{o:OV}{v:SV}(h:WF t o=some v):∀e∈zP o,∃v,eval t e=some v:=by
 intro e f;cases o with
 |v j=>
  grind [zP,WF,Option.map_eq_some_iff]
 |m l=>
  simp only[WF,Zdm]at h;obtain⟨xs,d,_⟩:=h;exact qX d e f
 |no=>simp[zP]at f
theorem FE{keep:List Nat}{p:Nat}{e:E}{l:List Nat}(f:p∈keep)(d:g.at p=([],.val e l)):∀q∈l,q∈Ve keep g:=by
 grind [Ve]
def Z5M{P:Program} [Lg P]{ix:Nat->Nat}{fresh:FuncId->Bool}{sig:FuncId->Option (List OT)}{tr fix:List Nat}{n:Nat}{keep:List Nat}{draw:Bool}{ops:Array Oper}{r:Reg}(a8:∀o∈ops,Lg.fit P o)(hm:draw=true->P.follows .mixedOrders=true)(hc:qN P ix fresh sig tr fix n keep draw ops S=some (r,S'))
  (e8:∀p∈keep,∀q∈keep,ix p=ix q->p=q) (hP:c.P=P) (b1:c.ix=ix) (hr:RelG c B G s a w h (Yq c S)) (b3:UL c s S) (hn:n<=a.tmps.size) {K:St->Prop} (hK:qf P r s K) {id:Nat} {Q:Exit->Act->World->Prop}
  (hQ:∀a' w' s' h',K s'->RelG c B G s' a' w' h' (Yq c S')->UL c s' S'->h'.K=h.K->Frm h.K (λt=>t∈fix) a.tmps B w a' w'->a'.tmps.size=a.tmps.size->a'.defers=a.defers->Q .normal a' w'):Lg.wp P (.region id ops draw) Q a w:=by
 unfold qN at hc;simp only[Zdi]at hc;obtain⟨⟨gf,xs⟩,e3,hc⟩:=hc;simp only at hc;split at hc
 ·rename_i J;simp only[Zdn]at J;obtain⟨⟨⟨a9,b5⟩,a6⟩,A⟩:=J;simp only[Zdj,Zdx]at hc;obtain⟨rfl,rfl⟩:=hc;generalize T:({P:=P,ix:=ix,own:=λt=>(H6 ops).contains t,fresh:=fresh,sig:=sig,tr:=tr,n:=n}:Ctx)=j at*;have a3:j.P=P:=by rw[<-T]
  have I:j.ix=ix:=by rw[<-T]
  have e7:j.n=n:=by rw[<-T]
  have W:∀S,Yq j S=Yq c S:=by
   intro S;simp only[Yq];refine Zf2 λx _=> ?_;cases x.2<;>simp[Qk,I,b1]
  clear T;subst a3;obtain⟨hf,rfl⟩:=Z0P e3 b5;obtain⟨t,⟨a4,b6⟩,a5,a1⟩:=NT a6 hK;obtain⟨u,b9,f1,d8,f2⟩:=NW b6
  have a2:Jc t (xs.flatMap λx=>x.os.chks):=by
   refine Bk (λx D hh=> ?_) (NS a4);obtain D|D:=ZdL.1 D
   ·obtain⟨U,z,D⟩:=Zfj.1 D;have M:=a5 U z;cases U with
    |lt i C e=>
     have:x=(C,e):=by simpa[DV]using D
     subst this;obtain⟨v,hv,_⟩:=M hh
     grind
    |call i C f fr fl aq_=>
     obtain⟨e,F,rfl⟩:=ZdB.1 D;obtain⟨ys,n,_,e6,Z,_⟩:=M hh;obtain F|F:=ZdL.1 F
     ·cases f with
      |id q=>simp[FN.es]at F
      |e q=>
       simp only[FN.es,Zes]at F;subst F;simp only[Ut,Zdi]at Z;obtain⟨v,hv,_⟩:=Z
       grind
     grind [qX]
    |callm i C f ks aq_=>
     obtain⟨e,F,rfl⟩:=ZdB.1 D;obtain⟨ys,n,_,e6,Z,_⟩:=M.1 hh;obtain F|F:=ZdL.1 F
     ·cases f with
      |id q=>simp[FN.es]at F
      |e q=>
       grind [FN.es,List.mem_singleton,Vc]
     grind [qX]
   ·obtain⟨y,hy,D⟩:=Zfj.1 D;obtain⟨e,F,rfl⟩:=ZdB.1 D
    grind [Z4o]
  have d9:∀x∈xs,QM j.P t x.os:=by
   intro x D;exact⟨λU z=>a5 U (Zfj.2 ⟨x,D,z⟩),λy hy=>a2 y (Zfj.2 ⟨x,D,hy⟩)⟩
  have e2:RelG j B G t a w h (Yq j S):=by
   have h1:RelG j B G s a w h (Yq j S):=by
    rw[W];exact hr.ctx hP.symm Zcp
   refine h1.agree λx D=>a1 _ λU z F=> ?_;simp only[Zdu,Zgy,ne_eq]at A;exact A U z x D Zcp
  have b0:∀p∈keep,match Ta j S (frz (Ve keep (YG xs (Yq j S))) (YG xs (Yq j S))) p with|some x=>∃v,WF t x.2=some v/\get u (j.ix p)=v|none=>get u (j.ix p)=get t (j.ix p):=by
   intro p hp
   have e4:∀q∈keep,∀y,Ta j S (frz (Ve keep (YG xs (Yq j S))) (YG xs (Yq j S))) q=some y->y.1=j.ix p->q=p:=λq hq y hy F=>by
    have:=H3 hy
    grind
   split
   ·grind [H2,frz,Ve,YG,Yq,H3]
   ·rename_i D;refine d8 _ λy hy F=> ?_;obtain⟨q,hq,f3⟩:=Zg7.1 hy
    grind
  have a0:UL c u (SG keep (frz (Ve keep (YG xs (Yq j S))) (YG xs (Yq j S)))):=by
   intro p hp;obtain⟨e1,c0,hk⟩:=H4 hp
   have d7:((frz (Ve keep (YG xs (Yq j S))) (YG xs (Yq j S))).at p).2=.nil:=by
    cases d6:((frz (Ve keep (YG xs (Yq j S))) (YG xs (Yq j S))).at p).2<;>rw[d6]at hk<;>simp[WE]at hk⊢
   have O:=b0 p e1
   have b4:Ta j S (frz (Ve keep (YG xs (Yq j S))) (YG xs (Yq j S))) p=if S.at p=some .nil then none else some (j.ix p,.v (.c (.sl []))):=by
    unfold Ta;simp only[c0,d7,Zh9,Ze3,Vj,S3,Zdy,Ze1];cases H:S.at p with
    |none=>simp
    |some k=>grind
   rw[b4]at O;rw[b1,<-I];by_cases H:S.at p=some .nil
   ·rw[if_pos H]at O;simp only at O;rw[O,a1]
    ·have:=b3 p H
     grind
    ·intro U z F;simp only[Zdu,Zgy,ne_eq]at A;exact A U z _ (Qc H) Zcp
   ·rw[if_neg H]at O
    grind [WF,eval,Option.some.injEq]
  have c1:∀o∈ops,∀d,o.dst=some d->¬d∈fix:=λo ho d hd hm=>by
   have:=Zdu.1 a9 o Zcp
   grind
  have e5:=Z5Q (c:=j) (id:=id) (Q:=Q) a8 hm hf d9 Z0 e2 c1 λa' w' h' b7 b8 hb h1 h2=>by
   have d0:=b7.frz (Ve keep (YG xs (Yq j S)));refine hQ a' w' u (h'.thaw (Ve keep (YG xs (Yq j S)))) b9 ?_ a0 b8 hb h1 h2;rw[<-W];have a7:=Z5P (u:=u) (keep:=keep) (sh:=[]) (S0:=S) d0 (λp hp e l X b Y=> ?_) λp hp=> ?_
   ·exact a7.ctx hP Zcp
   ·
    have e9:∀q∈l,q∈Ve keep (YG xs (Yq j S)):=by
     unfold frz at X;rw[Vs,Vs]at X;split at X
     ·split at X
      ·grind [zd]
      ·rename_i b2 d5
       have e0:p∈Ve keep (YG xs (Yq j S)):=by
        simp only[ZS,ZeL,ZdL]at b2;have:=b2.resolve_left d5;have h3:=LG (fz:=Ve keep (YG xs (Yq j S))) (g:=YG xs (Yq j S));unfold ZS at h3;rw[h3]at this;exact this
       rw[LF e0]at X;simp only[Zdx]at X;obtain⟨f0,N⟩:=X;cases hk:((YG xs (Yq j S)).at p).2<;>rw[hk]at N<;>simp only[Re]at N<;>first|(cases N;done)|skip
       ·simp only[TK.val.injEq]at N;obtain⟨rfl,rfl⟩:=N
        grind [FE,Prod.ext]
       ·grind
       grind
     ·exact FE hp X
    obtain Y|⟨q,hq,i,hi⟩:=Y
    ·exact Y
    ·simp only[GH.thaw]at hi
     grind
   grind
  exact e5
 ·cases hc
end
end Vm
namespace Vm
open Go
open Go.RowKit (Below)
def GH.drop(h:GH)(d:Nat->Nat->Bool):GH:= {F:=λb=>h.F b\/∃t i,d t i=false/\i≠0/\h.bl t i=some b,bl:=λt i=>if d t i=true\/i=0 then h.bl t i else none,K:=h.K}
section
variable {c:Ctx}{B:Nat}{G:Nat->Prop}{s t u:St}{a a':Act}{w w':World}{h h':GH}{g:Gam}{S R:SS}
def Z46(f:Ok B G w h)(y:Nat->Nat->Bool):Ok B G w (h.drop y):=by
 refine⟨f.base,λb d=> ?_,λb d=> ?_,λb d=>.inl (f.g_F b d),λt i b d=> ?_,λt i u j b d k=> ?_,f.k_lt,λt i b d=> ?_,λb d=> ?_⟩
 ·obtain d|⟨t,i,_,_,l⟩:=d
  ·exact f.f_lt b d
  ·exact(f.b_lt t i b l).2.1
 ·obtain d|⟨t,i,_,_,l⟩:=d
  ·exact f.f_or b d
  ·exact .inr (f.b_lt t i b l).1
 ·simp only[GH.drop]at d;split at d
  ·rename_i D;obtain⟨p,q,r⟩:=f.b_lt t i b d;refine⟨p,q,λn=> ?_⟩;obtain n|⟨z,x,A,C,o⟩:=n
   ·exact r n
   ·obtain⟨rfl,rfl⟩:=f.inj t i z x b d o;simp_all
  ·cases d
 ·simp only[GH.drop]at d k;split at d<;>split at k<;>first|(cases d;done)|(cases k;done)|exact f.inj t i u j b d k
 ·simp only[GH.drop]at d;split at d
  ·exact f.k_bl t i b d
  ·cases d
 ·obtain d|⟨t,i,_,_,l⟩:=d
  ·exact f.k_F b d
  ·exact .inr (f.k_bl t i b l)
def FL{P:Program}(d:TG P S R=true){p:Nat}{k:OT}(j:R.at p=some k):∃f,S.at p=some f/\T4 P f k=true:=by
 have:=Zdu.1 d _ (Qc j)
 grind
def RelC.weak{P:Program}{o A:Option Nat}{k k':CK}{e:E}{v:Value}(n:RelC P B s w h o k e v)(d:TF P k k'=true)(z:∀b,h.F b->h'.F b)
  (r:∀f y,k=.own f->k'=.own y->A=o) (l:(∀f,k'≠.own f)->∀b,o=some b->h'.F b) (q:∀f,k=.nil->k'=.own f->A=none):RelC P B s w h' A k' e v:=by
 cases k with
 |fz=>
  cases k'<;>simp only[TF]at d<;>first|(cases d;done)|skip
  ·obtain⟨x,j,p,C⟩:=n;exact⟨x,j,p,C.mono z⟩
  ·exact n.cell
 |own f=>
  cases k'<;>simp only[TF]at d<;>first|(cases d;done)|skip
  ·obtain⟨x,j,p⟩:=n;exact⟨x,j,p.one,p.rd z (l Z1)⟩
  ·rename_i y;simp only[Ze5]at d;subst d;obtain⟨x,j,p⟩:=n;exact⟨x,j,p.mono z (r f f rfl rfl).symm⟩
  ·exact n.cell
 |nil=>
  obtain⟨rfl,j⟩:=n;cases k'<;>simp only[TF]at d<;>first|(cases d;done)|skip
  ·exact⟨_,j,rfl,.nil _ _ (Zex _)⟩
  ·rename_i f;simp only[ZdH]at d;rw[q f rfl rfl];exact⟨_,j,.inl ⟨[],[],rfl,d,λx H=>by simp at H,ZeN w B f _,rfl,λi I D=>by simp[flat]at D⟩⟩
  ·exact⟨rfl,j⟩
  ·rfl
 |dead=>
  cases k'<;>simp only[TF]at d<;>first|(cases d;done)|skip
  exact n
def Vd(S R:SS)(t i:Nat):Bool:=
 match S.at t,R.at t with
 |some (.own _),some (.own _)=>true
 |some (.mem a),some (.mem b)=>match a[i-1]?,b[i-1]? with
  |some (.own _),some (.own _)=>true
  |_,_=>false
 |_,_=>false
def FK{P:Program}:∀ {a b:List CK},QB P a b=true->a.length=b.length/\∀(i:Nat) (x y:CK),a[i]?=some x->b[i]?=some y->TF P x y=true
 | [],[],_=>⟨rfl,λi x y l=>by simp at l⟩
 | [],_::_,h=>by simp[QB]at h
 |_::_,[],h=>by simp[QB]at h
 |x::a,y::b,h=>by
  simp only[QB,Zdn]at h;obtain⟨j,k⟩:=FK h.2;refine⟨by simp[j],λi p q d f=> ?_⟩;cases i with
  |zero=>simp at d f;subst d f;exact h.1
  |succ i=>exact k i p q ZcI ZcL
def L7(hr:RelG c B G s a w h (Yq c S))(C:UL c s S)(M:TG c.P S R=true):RelG c B G s a w (h.drop (Vd S R)) (Yq c R)/\UL c s R:=by
 constructor
 ·refine⟨Z46 hr.ok _,λp _ hn=> ?_,λp hh=>absurd (by rw[Yy];cases R.at p<;>exact Ys s c) hh⟩;rw[Yy]at hn⊢;cases A:R.at p with
  |none=>rw[A]at hn;simp[TK.isNo]at hn
  |some Q=>
   obtain⟨k,n,j⟩:=FL M A;obtain⟨v,hv,d⟩:=hr.at_ p (by rw[Yy,n];exact Ys s c) (by rw[Yy,n];cases k<;>rfl);refine⟨v,hv,?_⟩;rw[Yy,n]at d;simp only at d⊢;have hF:∀b,h.F b->(h.drop (Vd S R)).F b:=λb D=>.inl D;have a0:∀b,h.ext [] b->(h.drop (Vd S R)).ext [] b:=λb D=>GH.ext_F (.inl (GH.ext_nil D));cases k with
   |fz=>
    cases Q<;>simp only[T4]at j<;>first|(cases j;done)|skip
    obtain⟨x,q,r⟩:=d;exact⟨x,q,r.mono a0⟩
   |own U=>
    cases Q<;>simp only[T4]at j<;>first|(cases j;done)|skip
    ·obtain⟨x,q,r⟩:=d;exact⟨x,q,r.rd (λb D=>GH.ext_F (hF b D)) λb D=>GH.ext_F (.inr ⟨p,1,by simp[Vd,n,A],Z0,D⟩)⟩
    ·rename_i a2;simp only[Ze5]at j;subst j;obtain⟨x,q,r⟩:=d;exact⟨x,q,r.mono hF (by simp[GH.drop,Vd,n,A])⟩
   |nil=>
    have a1:v=.slice none 0 0:=d;subst a1;have hg:=C p n;cases Q<;>simp only[T4]at j<;>first|(cases j;done)|skip
    ·exact⟨.sl [],by simp only[eval,hg],.nil _ _ (Zex _)⟩
    ·rename_i U;simp only[ZdH]at j;exact⟨.sl [],by simp only[eval,hg],.inl ⟨[],[],rfl,j,λx hx=>by simp at hx,ZeN w B U _,by simp[GH.drop,Vd,n,A,Value.ownBlock],λi ck H=>by simp[flat]at H⟩⟩
    ·rfl
   |mem l=>
    cases Q<;>simp only[T4]at j<;>first|(cases j;done)|skip
    rename_i l';obtain⟨hl,K⟩:=FK j;obtain⟨b,vs,T,q,r,W,X,Y⟩:=d;refine⟨b,vs,T,by simp[GH.drop,q],r,W,by rw[X];simp[hl],λi ck H=> ?_⟩;simp only[ZdJ,Zfv,Zdm,Ze7]at H;obtain⟨y,⟨k2,o,rfl⟩,rfl⟩:=H;have N:i<l.length:=by rw[hl];exact(Zdl.1 o).1
    have z:l[i]?=some l[i]:=Zdk N;have Z:=Y i (l[i],.m (c.ix p) i) (by simp[N]);refine Z.weak (K i _ _ z o) hF (λU a2 I J=> ?_) (λO x hx=>.inr ⟨p,i+1,?_,Z0,hx⟩) λU I J=> ?_
    ·simp only at I J;simp[GH.drop,Vd,n,A,z,o,I,J]
    ·simp only at O;simp only[Vd,n,A,Nat.add_sub_cancel,z,o];cases k2<;>first|(cases l[i]<;>rfl)|exact absurd rfl (O _)
    ·simp only at I J;simp[GH.drop,Vd,n,A,z,o,I,J]
   |clo f a3=>
    cases Q<;>simp only[T4]at j<;>first|(cases j;done)|skip
    simp only[Zdn,Ze5]at j;obtain⟨rfl,rfl⟩:=j;obtain⟨vs,q,r,W⟩:=d;refine⟨vs,q,r,λi p H=> ?_⟩;obtain⟨b,X,Y⟩:=W i p H;exact⟨b,by simp[GH.drop,X],Y⟩
 ·intro p hp;obtain⟨k,n,j⟩:=FL M hp;cases k<;>simp only[T4]at j<;>first|(cases j;done)|exact C p n
end
end Vm
namespace Vm
open Go
open Go.RowKit (Below)
def YW:List Nat->St->St
 | [],_=>[]
 |i::l,s=>Yj (YW l s) i (get s i)
def EQ:∀ {d:List Nat} {s:St} {i:Nat},i∈d->get (YW d s) i=get s i
 | [],s,i,f=>by simp at f
 |j::l,s,i,f=>by
  simp only[YW];rw[YY];split
  ·rename_i e;rw[e]
  ·rename_i e;exact EQ ((ZdG.1 f).resolve_left e)
def Yu(P:Program) [Lg P]:Stm->St->(St->Prop)->(Nat->St->Prop)->(St->Prop)->Prop
 |.reg r,s,N,_,_=>qf P r s N
 |.skip,s,N,_,_=>N s
 |.seq a b,s,N,X,R=>Yu P a s (λf=>Yu P b f N X R) X R
 | .cond c a b,s,N,X,R=>match eval s c with
   |some (.bool true)=>Yu P a s N X R
   |some (.bool false)=>Yu P b s N X R
   |_=>False
 |.block id a,s,N,X,R=>Yu P a s N (λi f=>if i=id then N f else X i f) R
 |.loop d a,s,_,X,R=>∃(I:St->Prop) (μ:St->Nat),I (YW d s)/\∀s,I s->Yu P a s (λf=>I (YW d f)/\μ (YW d f)<μ s) X R
 |.exit id,s,_,X,_=>X id s
 |.ret,s,_,_,R=>R s
def RelS(Kf:Nat->Prop)(fix:List Nat)(T0:Array Value)(c:Ctx)(B:Nat)(G:Nat->Prop)(w0:World)(n0:Nat)(s:St)(a:Act)(w:World)(S:SS):Prop:=
 (∃h,RelG c B G s a w h (Yq c S)/\h.K=Kf)/\UL c s S/\Frm Kf (λt=>t∈fix) T0 B w0 a w/\a.tmps.size=n0/\a.defers=[]
section
variable {c:Ctx}{fc:FC}{B:Nat}{G:Nat->Prop}{s t u:St}{a a':Act}{w w' w0:World}{n0:Nat}{S R:SS}{Kf:Nat->Prop}{fix:List Nat}{T0:Array Value}
def RelS.weak(p:RelS Kf fix T0 c B G w0 n0 s a w S)(d:TG c.P S R=true):RelS Kf fix T0 c B G w0 n0 s a w R:=by
 obtain⟨⟨h,f,o⟩,j,k⟩:=p;obtain⟨l,n⟩:=L7 f j d;exact⟨⟨_,l,o⟩,n,k⟩
def jU{P:Program}{S:SS}{M:Option SS}(h:Ro P (some S) M=true):∃R,M=some R/\TG P S R=true:=by
 cases M with
 |none=>cases h
 |some R=>exact⟨R,rfl,h⟩
def RelS.only(o:RelS Kf fix T0 c B G w0 n0 s a w S):RelS Kf fix T0 c B G w0 n0 (YW (S.map λy=>c.ix y.1) s) a w S:=by
 obtain⟨⟨h,j,n⟩,k,l⟩:=o;have d:∀x∈S,get (YW (S.map λy=>c.ix y.1) s) (c.ix x.1)=get s (c.ix x.1):=λx q=>EQ (ZdB.2 ⟨x,q,rfl⟩);exact⟨⟨h,j.agree d,n⟩,λp f=>by rw[d _ (Qc f)];exact k p f,l⟩
def FO{p:Nat->Prop}:∀(n:Nat),p n->∃n,p n/\∀m,p m->n<=m:=by
 intro n
 induction n using Nat.strongRecOn with
 |_ n d=>
  grind
open Classical in
noncomputable def least (p:Nat->Prop):Nat:=if h:∃n,p n/\∀m,p m->n<=m then Classical.choose h else 0
def Z2M{p:Nat->Prop}(h:∃n,p n):p (least p):=by
 obtain⟨n,d⟩:=h;have h':=FO n d;unfold least
 grind
def Z2L{p:Nat->Prop}{n:Nat}(d:p n):least p<=n:=by
 have h':=FO n d;unfold least
 grind
def Post(Kf:Nat->Prop)(fix:List Nat)(T0:Array Value)(c:Ctx)(B:Nat)(G:Nat->Prop)(w0:World)(n0:Nat)(fl:Flow)(N:St->Prop)(X:Nat->St->Prop)(R:St->Prop)(e:Exit)(a:Act)(w:World):Prop:=
 match e with
 |.normal=>∃s S,fl.n=some S/\N s/\RelS Kf fix T0 c B G w0 n0 s a w S
 |.exit id=>∃s S,(id,S)∈fl.x/\X id s/\RelS Kf fix T0 c B G w0 n0 s a w S
 |.ret=>∃s S,S∈fl.r/\R s/\RelS Kf fix T0 c B G w0 n0 s a w S
 |_=>False
def Post.mono{fl d:Flow}{N o:St->Prop}{X p:Nat->St->Prop}{Rt:St->Prop}{e:Exit}{a:Act}{w:World}(h:Post Kf fix T0 c B G w0 n0 fl N X Rt e a w)
  (q:∀s S,fl.n=some S->N s->RelS Kf fix T0 c B G w0 n0 s a w S->∃s S,d.n=some S/\o s/\RelS Kf fix T0 c B G w0 n0 s a w S)
  (hx:∀id s S,(id,S)∈fl.x->X id s->RelS Kf fix T0 c B G w0 n0 s a w S->∃s S,(id,S)∈d.x/\p id s/\RelS Kf fix T0 c B G w0 n0 s a w S)
  (y:∀S,S∈fl.r->S∈d.r):Post Kf fix T0 c B G w0 n0 d o p Rt e a w:=by
 cases e with
 |normal=>obtain⟨s,S,f,j,k⟩:=h;exact q s S f j k
 |exit id=>obtain⟨s,S,f,j,k⟩:=h;exact hx id s S f j k
 |ret=>obtain⟨s,S,f,j,k⟩:=h;exact⟨s,S,y S f,j,k⟩
 |goto l=>exact h.elim
 |panic z=>exact h.elim
 |outgrown=>exact h.elim
def RelS.sim(o:RelS Kf fix T0 c B G w0 n0 s a w S)(d:Nat):RelS Kf fix T0 c B G w0 n0 s a {w with drawn:=d} S:=by
 obtain⟨⟨h,f,n⟩,j,k,l⟩:=o;exact⟨⟨h,f.drew d,n⟩,j,k.trans ⟨⟨rfl,rfl,rfl,Zdp _,λ_ _=>rfl⟩,λ_ _=>rfl,λ_ _=>rfl⟩,l⟩
def qO [Lg fc.P](hm:fc.P.follows .mixedOrders=true)(b2:∀p∈fc.keep,∀q∈fc.keep,fc.ix p=fc.ix q->p=q)(hP:c.P=fc.P)(a4:c.ix=fc.ix)(c0:fix=fc.fix)(hn:fc.n<=n0):
  ∀(code:Code) {S:SS} {st:Stm} {fl:Flow} {s:St} {a:Act} {w:World} {N:St->Prop} {X:Nat->St->Prop} {Rt:St->Prop},To (Lg.fit fc.P) code->comp fc code S=some (st,fl)->RelS Kf fix T0 c B G w0 n0 s a w S->Yu fc.P st s N X Rt->
   Lg.wp fc.P code (Post Kf fix T0 c B G w0 n0 fl N X Rt) a w:=by
 intro code
 induction code with
 |skip=>
  intro S st fl s a w N X Rt F d D C;simp only[comp,Zdj,Zdx]at d;obtain⟨rfl,rfl⟩:=d;exact Lg.wp_skip ⟨s,S,rfl,C,D⟩
 |label l=>
  intro S st fl s a w N X Rt F d D C;simp only[comp,Zdj,Zdx]at d;obtain⟨rfl,rfl⟩:=d;exact Lg.wp_label ⟨s,S,rfl,C,D⟩
 |region id ops draw=>
  intro S st fl s a w N X Rt F d D C;simp only[comp,Zdm,Zdx]at d;obtain⟨⟨r,S'⟩,b6,rfl,rfl⟩:=d;obtain⟨⟨h,j,hK⟩,o,J,h4,h5⟩:=D;refine Z5M F (λ_=>hm) b6 b2 hP a4 j o (by rw[h4];exact hn) C λa' w' K h' hk O b4 Y hb hs hd=> ?_;rw[hK,<-c0]at hb;exact⟨K,S',rfl,hk,⟨h',O,Y.trans hK⟩,b4,J.trans hb,hs.trans h4,hd.trans h5⟩
 |seq x y a0 a9=>
  intro S st fl s a w N X Rt F d D C;simp only[comp,Zdi]at d;obtain⟨⟨sx,fx⟩,W,d⟩:=d;simp only at d;split at d
  ·rename_i a5;simp only[Zdj,Zdx]at d;obtain⟨rfl,rfl⟩:=d;refine Lg.wp_seq (Lg.wp_mono (a0 (N:=N) (X:=X) (Rt:=Rt) F.1 W D C) λe a' w' k=> ?_);cases e with
   |normal=>obtain⟨K,S',j,_⟩:=k;rw[a5]at j;cases j
   |_=>exact k
  ·rename_i R a6;simp only[Zdm,Zdx]at d;obtain⟨⟨sy,fy⟩,hy,rfl,rfl⟩:=d;refine Lg.wp_seq (Lg.wp_mono (a0 (N:=λK=>Yu fc.P sy K N X Rt) (X:=X) (Rt:=Rt) F.1 W D C) λe a' w' k=> ?_);cases e with
   |normal=>
    obtain⟨K,S',j,o,J⟩:=k;rw[a6]at j;cases j;exact Lg.wp_mono (a9 F.2 hy J o) λe a' w' k=>k.mono (λs S j o J=>⟨s,S,j,o,J⟩) (λid s S j o J=>⟨s,S,ZdL.2 (.inr j),o,J⟩) λS hS=>ZdL.2 (.inr hS)
   |exit id=>obtain⟨K,S',j,o⟩:=k;exact⟨K,S',ZdL.2 (.inl j),o⟩
   |ret=>obtain⟨K,S',j,o⟩:=k;exact⟨K,S',ZdL.2 (.inl j),o⟩
   |_=>exact k.elim
 |exit id=>
  intro S st fl s a w N X Rt F d D C;simp only[comp,Zdj,Zdx]at d;obtain⟨rfl,rfl⟩:=d;exact Lg.wp_exit ⟨s,S,Z1,C,D⟩
 |ret=>
  intro S st fl s a w N X Rt F d D C;simp only[comp,Zdj,Zdx]at d;obtain⟨rfl,rfl⟩:=d;exact Lg.wp_ret ⟨s,S,Z1,C,D⟩
 |scope x ih=>
  intro S st fl s a w N X Rt F d D C;refine Lg.wp_scope (Lg.wp_mono (ih F (by simpa only[comp]using d) D C) λe a' w' k=> ?_);cases e<;>exact k
 |cond b9 x y a0 a9=>
  intro S st fl s a w N X Rt F d D C;cases b9 with
  |tmp tc=>
   simp only[comp]at d;split at d
   ·rename_i a3;simp only[Zdi]at d;obtain⟨⟨sx,fx⟩,W,⟨sy,fy⟩,hy,d⟩:=d;simp only at d;split at d
    ·rename_i A;simp only[Zdn]at A;simp only[Zdj,Zdx]at d;obtain⟨rfl,rfl⟩:=d;obtain⟨⟨h,j,Y⟩,U⟩:=D;obtain⟨v,hv,O⟩:=j.at_ tc (by rw[Yy,a3];exact Ys s c) (by rw[Yy,a3];rfl);rw[Yy,a3]at O;obtain⟨xv,a8,b7⟩:=O;rw[a4]at a8;have b1:=Act.eval_tmp a tc v hv
     have a2:∀ {f:Flow} {fl:Flow} {e:Exit} {a':Act} {w':World},Ro fc.P f.n fl.n=true->(∀z∈f.x,z∈fl.x)->(∀z∈f.r,z∈fl.r)->Post Kf fix T0 c B G w0 n0 f N X Rt e a' w'->Post Kf fix T0 c B G w0 n0 fl N X Rt e a' w':=by
      intro f fl e a' w' Z W D k;refine k.mono (λs S j o J=> ?_) (λid s S j o J=>⟨s,S,W _ j,o,J⟩) D;rw[j]at Z;obtain⟨R,hR,A⟩:=jU Z;exact⟨s,R,hR,o,J.weak (by rw[hP];exact A)⟩
     simp only[Yu]at C;split at C
     ·rename_i hb;rw[a8]at hb;cases hb;have a7:v=.bool true:=by cases b7;rfl
      refine Lg.wp_cond_true (by rw[b1,a7]) (Lg.wp_mono (a0 F.1 W ⟨⟨h,j,Y⟩,U⟩ C) λe a' w' k=> ?_);exact a2 A.1 (λz hz=>ZdL.2 (.inl hz)) (λz hz=>ZdL.2 (.inl hz)) k
     ·rename_i hb;rw[a8]at hb;cases hb;have a7:v=.bool false:=by cases b7;rfl
      refine Lg.wp_cond_false (by rw[b1,a7]) (Lg.wp_mono (a9 F.2 hy ⟨⟨h,j,Y⟩,U⟩ C) λe a' w' k=> ?_);exact a2 A.2 (λz hz=>ZdL.2 (.inr hz)) (λz hz=>ZdL.2 (.inr hz)) k
     ·exact C.elim
    ·cases d
   ·cases d
  |_=>simp[comp]at d
 |block id x ih=>
  intro S st fl s a w N X Rt F d D C;simp only[comp,Zdi]at d;obtain⟨⟨sx,fx⟩,W,d⟩:=d;simp only at d;split at d
  ·rename_i A;simp only[Zdn,Zdu,ZdC,Zgy,ne_eq]at A;obtain⟨T,a1⟩:=A;simp only[Zdj,Zdx]at d;obtain⟨rfl,rfl⟩:=d;generalize zl fc.P fx.n (A8 fc.P ((fx.x.filter λy=>y.1==id).map (·.2)))=M at T a1⊢;refine Lg.wp_block (Lg.wp_mono (ih (N:=N) (X:=λi K=>if i=id then N K else X i K) (Rt:=Rt) F W D C) λe a' w' k=> ?_);cases e with
   |normal=>
    obtain⟨K,S',j,o,J⟩:=k;rw[j]at T;obtain⟨R,hR,Z⟩:=jU T;exact⟨K,R,hR,o,J.weak (by rw[hP];exact Z)⟩
   |exit d7=>
    obtain⟨K,S',j,o,J⟩:=k;simp only[Exit.inBlock];by_cases hid:d7=id
    ·subst hid;simp only[Ze3]at o⊢;obtain⟨R,hR,Z⟩:=jU ((a1 _ j).resolve_left Z1);exact⟨K,R,hR,o,J.weak (by rw[hP];exact Z)⟩
    ·simp only[if_neg hid]at o⊢;exact⟨K,S',Zg6.2 ⟨j,by simpa using hid⟩,o,J⟩
   |ret=>exact k
   |_=>exact k.elim
  ·cases d
 |loop x ih=>
  intro S st fl s a w N X Rt F d D C;simp only[comp,Zdi]at d;obtain⟨H,hH,⟨sx,fx⟩,W,d⟩:=d;simp only at d;split at d
  ·rename_i A;simp only[Zdn]at A;simp only[Zdj,Zdx]at d;obtain⟨rfl,rfl⟩:=d;obtain⟨I,μ,b0,Q⟩:=C;have b3:(H.map λy=>fc.ix y.1)=H.map λy=>c.ix y.1:=by rw[a4]
   rw[b3]at b0 Q;refine Lg.wp_loop (λa w=>∃s,I s/\RelS Kf fix T0 c B G w0 n0 s a w H) (λa w=>least λn=>∃s,μ s=n/\I s/\RelS Kf fix T0 c B G w0 n0 s a w H) ⟨_,b0,(D.weak (by rw[hP];exact A.1)).only⟩ λa w hI=> ?_;obtain⟨s0,d5,c1⟩:=hI;obtain⟨s1,hμ,d6,d0⟩:=Z2M (p:=λn=>∃s,μ s=n/\I s/\RelS Kf fix T0 c B G w0 n0 s a w H) ⟨μ s0,s0,rfl,d5,c1⟩;refine Lg.wp_mono (ih F W d0 (Q s1 d6)) λe a' w' k=> ?_;cases e with
   |normal=>
    obtain⟨K,S',j,⟨o,h4⟩,J⟩:=k;have Z:=A.2;rw[j]at Z;have b5:=(J.weak (show TG c.P S' H=true by rw[hP];exact Z)).only;refine⟨⟨_,o,b5⟩,?_⟩;rw[<-hμ];exact Nat.lt_of_le_of_lt (Z2L (p:=λn=>∃s,μ s=n/\I s/\RelS Kf fix T0 c B G w0 n0 s a' w' H) ⟨_,rfl,o,b5⟩) h4
   |exit id=>exact k
   |ret=>exact k
   |_=>exact k.elim
  ·cases d
 |rangeFunc f b8 d9 d8 e0 e1=>intro S st fl s a w N X Rt F d;simp[comp]at d
 |goto l=>intro S st fl s a w N X Rt F d;simp[comp]at d
 |refuse e2=>intro S st fl s a w N X Rt F d;simp[comp]at d
end
end Vm
namespace Vm
open Go
open Go.RowKit (Below)
def UE(s:St):Nat×RK->Option V
 |(i,.v)=>match get s i with|.v x=>some x|_=>none
 |(i,.ag n)=>match get s i with|.m d=>if n<=d.length then some (.agg (d.take n))else none|_=>none
 |(i,.one)=>match get s i with|.m (x::_)=>some x|_=>none
def VF(s:St):List (Nat×RK)->Option (List V)
 | []=>some []
 |x::l=>(UE s x).bind λy=>(VF s l).map (y:: ·)
def Wc(s:St)(l:List (Nat×RK)):Option V:=
 match l with
 | [x]=>UE s x
 |l=>(VF s l).map .tup
theorem IJ:∀ {l:List Nat} {p:Nat},p∈l->l[pos l p]?=some p
 | [],p,h=>Zd1
 |q::l,p,h=>by
  simp only[pos];by_cases d:q=p
  ·subst d;simp
  ·rw[if_neg d];have:p∈l:=(ZdG.1 h).resolve_left λe=>d e.symm;simpa using IJ this
def II:∀ {l r:List Nat} {t:Nat},t∈l->pos (l++r) t=pos l t
 | [],r,t,h=>Zd1
 |q::l,r,t,h=>by
  simp only[ZeC,pos];by_cases d:q=t
  ·simp_all
  ·rw[if_neg d,if_neg d,II ((ZdG.1 h).resolve_left λe=>d e.symm)]
def Bj{l:List Nat}{p q:Nat}(d:p∈l)(f:q∈l)(h:pos l p=pos l q):p=q:=by
 grind [IJ]
section
variable {c:Ctx}{B:Nat}{G:Nat->Prop}{s t u:St}{a a':Act}{w w' w0:World}{h:GH}{n0:Nat}{S R:SS}
def QY(P:Program)(d:Nat->Nat):ResultVar->Nat×RK
 |.tmp t=>(d t,.v)
 |.cell a t=>(d a,if Y5 P t then .ag (P.cellsOf t)else .one)
def QX(d:Array Value):ResultVar->Sem Value
 |.tmp t=>pure (d.getD t undef)
 |.cell p t=>do loadVar t (<-asAddr (d.getD p undef))
def Mi(P:Program)(d:Nat->Nat)(f:Func):Kx P d f=f.results.toList.map (QY P d):=by
 rfl
def Mk(I:RelG c B G s a w h (Yq c S))(X:UL c s S){D:Nat->Prop}(hF:∀b,h.F b->D b){r:ResultVar}(H:∀i b,h.bl (SL r) (i+1)=some b->D b)(A:SD c.P S r=true){x:V}(hx:UE s (QY c.P c.ix r)=some x):
  ∃v,(QX a.tmps r).run c.P w=.ok v w/\Rd w D x v:=by
 cases r with
 |tmp Q=>
  simp only[QY,QX]at hx⊢;simp only[SD]at A;cases J:S.at Q with
  |none=>simp_all
  |some k=>
   obtain⟨v,hv,M⟩:=I.at_ Q (by simp_all[Yy,Ys]) (by rw[Yy,J];cases k<;>rfl);rw[Yy,J]at M;have N:a.tmps.getD Q undef=v:=by simp[Zdo,hv]
   refine⟨v,by simp[N],?_⟩;simp only[UE]at hx
   have n:get s (c.ix Q)=.v x:=by
    cases hg:get s (c.ix Q)<;>rw[hg]at hx<;>simp at hx
    rw[hx]
   cases k with
   |fz=>
    obtain⟨y,O,h2⟩:=M;simp only[eval,n,Zdj]at O;subst O;exact h2.mono λb W=>hF b (GH.ext_nil W)
   |own ty=>
    obtain⟨y,O,h2⟩:=M;simp only[eval,n,Zdj]at O;subst O;exact h2.rd hF λb W=>H 0 b W
   |nil=>
    have a1:v=.slice none 0 0:=M;subst a1;have:=X Q J;rw[n]at this;simp only[SV.v.injEq]at this;subst this;exact .nil _ _ (Zex _)
   |mem l=>simp_all
   |clo f l=>simp_all
 |cell p ty=>
  simp only[QY,QX]at hx⊢;simp only[SD]at A;cases J:S.at p with
  |none=>simp_all
  |some k=>
   cases k with
   |mem l=>
    rw[J]at A;simp only[Zdn,Zdu,Zgy,ne_eq]at A;obtain⟨⟨hT,K⟩,o⟩:=A;obtain⟨v,hv,M⟩:=I.at_ p (by simp_all[Yy,Ys]) (by rw[Yy,J];rfl);rw[Yy,J]at M;obtain⟨b,vs,T,O,rfl,h3,h4⟩:=M;have N:a.tmps.getD p undef=.pointer (some ⟨b,0,none⟩):=by simp[Zdo,hv]
    rw[N];have a7:vs.size=l.length:=by have:=h4.1;simp_all
    have q:∀i,i<l.length->∃y,eval s (.m (c.ix p) i)=some y/\y.one=true/\Rd w D y (vs.getD i undef):=by
     intro i C;have:=h4.2 i (l[i],.m (c.ix p) i) (by simp[C]);exact this.rd (K l[i] (ZdA C)) hF λty _ b W=>H i b W
    obtain⟨d,info,hd,a4,hs,a3⟩:=VW hT;cases U:Y5 c.P ty with
    |true=>
     rw[U]at o hx;simp only[Ze3,Ze5]at o;simp only[Ze3,UE]at hx;split at hx
     ·rename_i cs n;split at hx
      ·rename_i a5;simp only[Zdj]at hx;subst hx
       have hl:=run_loadCells_list (P:=c.P) w ⟨b,0,none⟩ vs.toList (λj u hj=>by
        rw[Zf4,Ze7,ZdE w b j vs T (0,0) h3];grind)
       simp only[ZfA]at hl;refine⟨.agg vs,?_,?_⟩
       ·simp_all[asAddr,ZdX,Zfn,ZdR,loadVar,U1]
       ·have Y:∀(i:Nat) (y:V),(cs.take (c.P.cellsOf ty))[i]?=some y->y.one=true/\Rd w D y (vs.getD i undef):=by
         intro i y C;rw[ZdY]at C;split at C
         ·rename_i a6;obtain⟨z,Z,a2,a0⟩:=q i Z0;simp only[eval,n,C,Zdt]at Z;obtain⟨rfl,_⟩:=TO Z;simp_all
         ·cases C
        exact .agg _ vs Zcq (λy hy=>by
         grind [List.getElem?_of_mem]) λi y C=>(Y i y C).2
      ·cases hx
     ·cases hx
    |false=>
     rw[U]at o hx;simp only[Zdy,Ze1,ZdH]at o;simp only[Zdy,Ze1,UE]at hx;split at hx
     ·rename_i y0 r n;simp only[Zdj]at hx;subst hx;obtain⟨z,Z,a2,a0⟩:=q 0 o;simp only[eval,n,ZfB,Zdt]at Z;obtain⟨rfl,_⟩:=TO Z;refine⟨vs.getD 0 undef,?_,a0⟩
      have hc:w.cell? ⟨b,0,none⟩=some (vs.getD 0 undef):=by
       rw[ZdE w b 0 vs T (0,0) h3];have:0<vs.size:=Z0;simp_all
      simp_all[asAddr,ZdX,Zfn,ZdR,loadVar]
     ·cases hx
   |_=>simp_all
def Mj(f:RelG c B G s a w h (Yq c S))(d:UL c s S){D:Nat->Prop}(A:∀b,h.F b->D b):∀ {l:List ResultVar},(∀r∈l,SD c.P S r=true/\∀i b,h.bl (SL r) (i+1)=some b->D b)->∀ {xs:List V},VF s (l.map (QY c.P c.ix))=some xs->
  ∃vs:List Value,(l.mapM (QX a.tmps)).run c.P w=.ok vs w/\vs.length=xs.length/\
   ∀(i:Nat) (x:V),xs[i]?=some x->∃v,vs[i]?=some v/\Rd w D x v
 | [],_,xs,k=>by
   simp only[Zf8,VF,Zdj]at k;subst k;exact⟨[],Z1,rfl,λi x n=>by simp at n⟩
 |r::l,j,xs,k=>by
  simp only[ZdK,VF,Zdi,Zdm]at k;obtain⟨y,J,M,z,rfl⟩:=k;obtain⟨v,K,p⟩:=Mk f d A (j r Z1).2 (j r Z1).1 J;obtain⟨vs,I,C,o⟩:=Mj f d A (λq H=>j q (by simp[H])) z;refine⟨v::vs,?_,by simp[C],λi x n=> ?_⟩
  ·simp_all
  ·cases i with
   |zero=>simp at n;subst n;exact⟨v,rfl,p⟩
   |succ i=>simpa using o i x Zcp
def Ky(n:RelG c B G s a w h (Yq c S))(k:UL c s S){D:Nat->Prop}(K:∀b,h.F b->D b){f:Func}(d:∀r∈f.results.toList,SD c.P S r=true/\∀i b,h.bl (SL r) (i+1)=some b->D b){x:V}(hx:Wc s (Kx c.P c.ix f)=some x):
  ∃v,(results f a.tmps).run c.P w=.ok v w/\Rd w D x v:=by
 have j:∀vs:List Value,(f.results.toList.mapM (QX a.tmps)).run c.P w=.ok vs w->
   (results f a.tmps).run c.P w=.ok (if h:vs.toArray.size=1 then vs.toArray[0]else .tuple vs.toArray) w:=by
  intro vs p
  have O:results f a.tmps=(do let vs<-f.results.mapM (QX a.tmps);pure (if h:vs.size=1 then vs[0]else Value.tuple vs)):=by
   unfold results;refine Zez (λg:ResultVar->Sem Value=>(do let vs<-f.results.mapM g;pure (if h:vs.size=1 then vs[0]else Value.tuple vs))) ?_;funext r;cases r<;>rfl
  rw[O,ZeR];simp only[ZdX,ZfX];rw[p];simp
 rw[Mi]at hx;generalize X:f.results.toList=l at hx d j
 match l,hx with
 | [r],hx=>
   simp only[ZdK,Zf8,Wc]at hx;obtain⟨v,J,o⟩:=Mk n k K (d r Z1).2 (d r Z1).1 hx;refine⟨v,?_,o⟩;have:=j [v] (by simp only[ZfD,Zgv,ZdX];rw[J];simp);simpa using this
 | [],hx=>
   simp only[Zf8,Wc,VF,ZdD,Zdj]at hx;subst hx;have:=j [] Z1;exact⟨_,by simpa using this,.tup _ _ rfl λi c H=>by simp at H⟩
 |r::Y::l,hx=>
  simp only[ZdK,Wc]at hx;simp only[Zdm]at hx;obtain⟨xs,q,rfl⟩:=hx;obtain⟨vs,p,z,C⟩:=Mj n k K d (xs:=xs) (by simpa only[ZdK]using q)
  have Q:xs.length=l.length+2:=by
   simp only[VF,Zdi,Zdm]at q;obtain⟨y,_,U,⟨Z,_,W,N,rfl⟩,rfl⟩:=q
   have:∀ {l:List (Nat×RK)} {xs:List V},VF s l=some xs->xs.length=l.length:=by
    intro l
    induction l with
    |nil=>intro xs h;simp only[VF,Zdj]at h;subst h;rfl
    |cons a l T=>
     intro xs h;simp only[VF,Zdi,Zdm]at h;obtain⟨_,_,U,M,rfl⟩:=h;simp[T M]
   have:=this N;simp at this;simp[this]
  have A:=j vs p;have I:¬vs.toArray.size=1:=Zcr;rw[dif_neg I]at A;refine⟨_,A,.tup _ _ (by simp[z]) λi x H=> ?_⟩;obtain⟨v,J,o⟩:=C i x H;have:vs.toArray.getD i undef=v:=by simp[Zdo,J]
  rw[this];exact o
end
def Sd(k:OT)(x:V):SV:=
 match k,x with
 |.mem _,.agg d=>.m d
 |_,x=>.v x
def UO:List OT->List V->St
 |k::d,x::xs=>Sd k x::UO d xs
 |_,_=>[]
def Dn:∀ {ks:List OT} {xs:List V} {i:Nat} {k:OT} {x:V},ks[i]?=some k->xs[i]?=some x->get (UO ks xs) i=Sd k x
 | [],_,_,_,_,d,_=>Zde
 |_::_,[],_,_,_,_,f=>by simp at f
 |k::ks,x::xs,0,j,l,d,f=>by simp at d f;subst d f;rfl
 |k::ks,x::xs,i+1,j,l,d,f=>by
  have:=Dn (ks:=ks) (xs:=xs) (i:=i) ZcI ZcL;simpa[UO,get]using this
def R9(s:St)(i:Nat)(k:OT):Option V:=
 match k with
 |.fz=>some (.bool false)
 | .own _=>match get s i with
   |.v x=>some x
   |_=>none
 | .mem l=>match get s i with
   |.m d=>if d.length=l.length then some (.agg d)else none
   |_=>none
 |_=>none
def R8(s:St):Nat->List OT->Option (List V)
 |_,[]=>some []
 |i,k::d=>(R9 s i k).bind λx=>(R8 s (i+1) d).map (x:: ·)
def Ek:∀ {o:List OT} {i:Nat} {s:St} {n:List V},R8 s i o=some n->n.length=o.length/\∀(j:Nat) (k:OT) (y:V),o[j]?=some k->n[j]?=some y->R9 s (i+j) k=some y
 | [],i,s,n,f=>by
   simp only[R8,Zdj]at f;subst f;exact⟨rfl,λj k y l=>by simp at l⟩
 |k::o,i,s,n,f=>by
  simp only[R8,Zdi,Zdm]at f;obtain⟨y,x,C,p,rfl⟩:=f;obtain⟨q,r⟩:=Ek p;refine⟨by simp[q],λj z A l d=> ?_⟩;cases j with
  |zero=>simp at l d;subst l d;exact x
  |succ j=>
   have:=r j z A (by simpa using l) ZcI;rw[show i+(j+1)=i+1+j by omega];exact this
def CF(ks:List OT)(t:Nat):SS.at (ks.zipIdx.map λx=>(x.2,x.1)) t=ks[t]? :=by
 have:∀(ks:List OT) (n t:Nat),SS.at ((ks.zipIdx n).map λx=>(x.2,x.1)) t=if n<=t then ks[t-n]? else none:=by
  intro ks
  induction ks with
  |nil=>simp_all[SS.at]
  |cons k ks d=>
   intro n t;simp only[Zha,ZdK,SS.at,d]
   grind
 have:=this ks 0 t;simp_all
def nz:Option OT->Option OT
 |some .fz=>none
 |x=>x
def Z4v(ks:List OT)(t:Nat):(TQ ks).at t=nz ks[t]? :=by
 have:∀(ks:List OT) (n t:Nat),SS.at ((ks.zipIdx n).filterMap λx=>match x.1 with|.fz=>none|k=>some (x.2,k)) t=if n<=t then nz ks[t-n]? else none:=by
  intro ks
  induction ks with
  |nil=>intro n t;simp[SS.at,nz]
  |cons k ks o=>
   intro n t
   have d:n≠t->(if n+1<=t then nz ks[t- (n+1)]? else none)=if n<=t then nz (k::ks)[t-n]? else none:=by
    intro j;by_cases l:n<=t
    ·have f:n+1<=t:=Z0;rw[if_pos l,if_pos f,show t-n=(t- (n+1))+1 by omega];simp
    ·have f:¬n+1<=t:=Z0;rw[if_neg l,if_neg f]
   simp only[Zha,Zf1];by_cases j:n=t
   ·subst j;have f:¬n+1<=n:=Z0;cases k<;>simp[SS.at,o,nz,f]
   ·rw[<-d j];cases k<;>simp only[SS.at,o,if_neg j]
 have h:=this ks 0 t;simp only[Zex,Ze3,Nat.sub_zero]at h;exact h
theorem LD{P:Program} [Lg P]{f:FuncId}{fn:Func}{cf:Fn}{fresh:FuncId->Bool}{sig:FuncId->Option (List OT)}{ks:List OT}{fin:SS} [U:FitF P f](hf:P.funcs[f]?=some fn)(hm:P.follows .mixedOrders=true)(hc:ZH P fresh sig ks fin fn=some cf)
  {xs:List V} {Rt:St->Prop} (hw:Yu P cf.body (UO ks xs) Rt (λ_ _=>False) Rt) {B:Nat} {w:World} {h:GH} {vs:Array Value} (a4:Ok B h.F w h) (hA:L6 P B w h ks xs vs) {Q:Ending->World->Prop}
  (hQ:∀(c:Ctx) (s:St) (S:SS) (a:Act) (w':World) (h':GH),c.P=P->(∀t,t<ks.length->c.ix t=t)->(∀t∈cf.keep,c.ix t=pos cf.keep t)->cf.res=Kx P c.ix fn->Rt s->RelG c B h.F s a w' h' (Yq c S)->UL c s S->h'.K=h.K->Frm h.K (λt=>t∈Rb ks) vs B w a w'->SB P fn fin S=true->
   ∃v,(results fn a.tmps).run P w'=.ok v w'/\Q (.returned v) w'):Lg.calls P f vs w Q:=by
 unfold ZH at hc;simp only[Zdi]at hc;obtain⟨code,hb,⟨st,fl⟩,N,hc⟩:=hc;split at hc
 ·rename_i C;simp only[GO,Zdn]at C;obtain⟨⟨⟨Z,a5⟩,b0⟩,a0⟩:=C;simp only[Zdj]at hc;subst hc;simp only at hw;generalize a2:Jt [] ((List.range ks.length)++Uq (λops=>H5 ops++Bu ops ops.toList []) code)=keep at*;generalize a3:Jt [] ((Uq FQ code).filter λt=> !keep.contains t)=j at*
  have M:∀t,t<ks.length->pos (keep++j) t=t:=λt A=>by
   have:=Zdu.1 a0 t (Zft.2 A);simp_all
  refine Lg.calls_of_wp hf hb ?_;have W:∀p∈keep,∀q∈keep,pos (keep++j) p=pos (keep++j) q->p=q:=λp I q hq he=>Bj (ZeI _ I) (ZeI _ hq) he;obtain⟨b1,a6,O⟩:=hA
  have a9:∀t,t∈Rb ks->t<vs.size:=by
   intro t A;simp only[Rb,TQ,ZdB,Zg7]at A;obtain⟨y,⟨x,hx,hy⟩,rfl⟩:=A;have r:=(List.mem_zipIdx hx).2.1;have:y.2=y.2:=rfl
   have a8:y.1=x.2:=by
    split at hy
    ·cases hy
    ·grind
   rw[a8,a6];omega
  have o:RelS h.K (Rb ks) vs {P,ix:=pos (keep++j),own:=λ_=>false,fresh,sig,tr:=KU fn,n:=fn.ntmps} B h.F w (vs++Array.replicate (fn.ntmps-vs.size) undef).size (UO ks xs)
    {tmps:=vs++Array.replicate (fn.ntmps-vs.size) undef,defers:=[]} w (ks.zipIdx.map λx=>(x.2,x.1)):=by
   refine⟨⟨h,⟨a4,λt _ X=> ?_,λt hh=> ?_⟩,rfl⟩,λp I=> ?_,⟨.refl _ _,.refl _ _,λt A=> ?_⟩,rfl,rfl⟩
   ·rw[Yy]at X⊢;rw[CF]at X⊢;by_cases A:t<ks.length
    ·rw[Zdk A]at X⊢;have r:t<xs.length:=Z0;obtain⟨tk,d,o⟩:=O t ks[t] xs[t] (Zdk A) (Zdk r);refine⟨vs.getD t undef,?_,?_⟩
     ·simp only;rw[Zfg Z0];simp[Zdo,show t<vs.size by omega]
     ·have hg:get (UO ks xs) (pos (keep++j) t)=Sd ks[t] xs[t]:=by rw[M t A];exact Dn (Zdk A) (Zdk r)
      generalize ks[t]=k at d hg;generalize xs[t]=x at d hg;cases k with
      |fz=>
       simp only[We,Zdj]at d;subst d;obtain⟨y,z,D⟩:=o;simp only[eval,Zdj]at z;subst z;exact⟨x,by grind [eval,Sd],D⟩
      |own ty=>
       simp only[We,Zdj]at d;subst d;obtain⟨y,z,D⟩:=o;simp only[eval,Zdj]at z;subst z;exact⟨x,by grind [eval,Sd],D⟩
      |mem l=>
       cases x<;>simp only[We]at d<;>first|(cases d;done)|skip
       rename_i cs;split at d
       ·rename_i Y;simp only[Zdj]at d;subst d;obtain⟨b,us,T,e1,e2,e3,e4,e5⟩:=o;refine⟨b,us,T,e1,e2,e3,Zcq,λi ck hi=> ?_⟩;simp only[ZdJ,Zfv,Zdm,Ze7]at hi;obtain⟨y,⟨k2,a1,rfl⟩,rfl⟩:=hi;have r:i<cs.length:=by rw[Y];exact(Zdl.1 a1).1
        have hc:=e5 i (k2,.c cs[i]) Zcp;refine hc.eval λy z hy=> ?_;simp only[eval,Zdj]at hy;subst hy;simp only[eval,hg,Sd,Zdk r,Zdt,YR,z,Ze3]
       grind
      |nil=>grind [We]
      |clo f l=>grind [We]
    ·rw[Zeq Z0]at X;cases X
   ·exact absurd (by rw[Yy];rw[CF];split<;>exact Vy _) hh
   ·rw[CF]at I;have r:p<xs.length:=by have:=(Zdl.1 I).1;omega
    obtain⟨tk,d,_⟩:=O p .nil xs[p] I (Zdk r)
    grind [We]
   ·grind
  refine Lg.wp_mono (qO (c:= {P,ix:=pos (keep++j),own:=λ_=>false,fresh,sig,tr:=KU fn,n:=fn.ntmps}) (fc:= {P,ix:=pos (keep++j),fresh,sig,tr:=KU fn,fix:=Rb ks,n:=fn.ntmps,keep}) hm W rfl rfl rfl Zcr code (U.all fn code hf hb) N o hw) λe a' w' I=> ?_
  have J:∀ {s:St} {S:SS},SB P fn fin S=true->Rt s->RelS h.K (Rb ks) vs {P,ix:=pos (keep++j),own:=λ_=>false,fresh,sig,tr:=KU fn,n:=fn.ntmps} B h.F w (vs++Array.replicate (fn.ntmps-vs.size) undef).size s a' w' S->
    a'.defers=[]/\∀w1,Lg.sim P w' w1->∃v,(results fn a'.tmps).run P w1=.ok v w1/\Q (.returned v) w1:=by
   intro s S z D H;refine⟨H.2.2.2.2,λw1 a7=> ?_⟩;rw[Lg.sim_eq a7];replace H:=H.sim w1.drawn;obtain⟨⟨h',H,h4⟩,h5,h6,h7,h8⟩:=H;exact hQ _ s S a' _ h' rfl M (λt A=>II A) rfl D H h5 h4 h6 z
  cases e with
  |normal=>
   obtain⟨s,S,z,D,H⟩:=I;rw[z]at Z;exact J Z D H
  |ret=>
   obtain⟨s,S,z,D,H⟩:=I;exact J (Zdu.1 a5 S z) D H
  |exit id=>obtain⟨s,S,z,D,_⟩:=I;grind
  |_=>exact I.elim
 ·cases hc
def J7{P:Program} [Lg P]{f:FuncId}{fn:Func}{cf:Fn}{fresh:FuncId->Bool}{sig:FuncId->Option (List OT)}{ks:List OT} [FitF P f](d:P.funcs[f]?=some fn)(hm:P.follows .mixedOrders=true)(K:VM P f=true)(hc:ZH P fresh sig ks (TQ ks) fn=some cf)(a1:Mh fn (TQ ks)=true)
  {xs:List V} {R:V} (hw:Yu P cf.body (UO ks xs) (λs=>∃r,Wc s cf.res=some r/\∃O,R8 s 0 ks=some O/\R=QR r (Xz ks O)) (λ_ _=>False) (λs=>∃r,Wc s cf.res=some r/\∃O,R8 s 0 ks=some O/\R=QR r (Xz ks O))):V7 P f ks xs R:=by
 refine⟨K,λB w h vs a4 hA=>LD d hm hc hw a4 hA λc s S a w' h' hP Q _ Z ⟨r,hr,O,a8,hR⟩ C A hK n p=> ?_⟩;subst hP;simp only[SB,Zdn,Zdu]at p;obtain⟨J,a2⟩:=p;obtain⟨o,a3⟩:=L7 C A a2;rw[Z]at hr
 obtain⟨v,hv,a6⟩:=Ky (D:=(h'.drop (Vd S (TQ ks))).F) C A (λb hb=>.inl hb) (λq hq=>by
  have H:=J q hq;have h2:=Zdu.1 a1 q hq;refine⟨H,λi b hb=>.inr ⟨SL q,i+1,?_,Z0,hb⟩⟩;simp_all[Vd,ZgV,SL]) hr
 obtain⟨a7,a0⟩:=Ek a8;refine⟨v,hv,v,r,O,h'.drop (Vd S (TQ ks)),rfl,n.below,n.same,o.ok,hK,a6,⟨a7,λi k y hk b0 hy=> ?_⟩,hR⟩;have Y:i<ks.length:=(Zdl.1 hk).1
 have M:(TQ ks).at i=some k:=by
  rw[Z4v,hk];cases k<;>first|rfl|simp_all
 obtain⟨u,hu,N⟩:=o.at_ i (by simp_all[Yy,Ys]) (by rw[Yy,M];cases k<;>rfl);rw[Yy,M]at N
 have a5:vs.getD i undef=u:=by
  have H:=n.fix i (ZdB.2 ⟨(i,k),Qc M,rfl⟩);rw[hu]at H;simp[Zdo,<-H]
 rw[a5];have d:=a0 i k y hk hy;rw[Ze7]at d;cases k with
 |fz=>simp_all
 |own ty=>
  simp only[R9]at d;split at d
  ·rename_i x hg;simp only[Zdj]at d;subst d;obtain⟨z,H,h2⟩:=N;simp only[eval,Q i Y,hg,Zdj]at H;subst H;exact⟨_,rfl,x,rfl,h2⟩
  ·cases d
 |mem l=>
  simp only[R9]at d;split at d
  ·rename_i cs hg;split at d
   ·rename_i a9;simp only[Zdj]at d;subst d;obtain⟨b,us,T,e1,e2,e3,e4,e5⟩:=N;refine⟨.mem ((l.zip cs).map λy=>(y.1,.c y.2)),by simp_all[We,Ze3],b,us,T,e1,e2,e3,Zcq,λj ck U=> ?_⟩;simp only[ZdJ,Zdm]at U;obtain⟨⟨kk,x⟩,U,rfl⟩:=U;rw[ZgU]at U;obtain⟨W,X⟩:=U;simp only at W X;have hc:=e5 j (kk,.m (c.ix i) j) (by simp[W])
    have I:∀ {z:V},eval s (.m (c.ix i) j)=some z->z=x:=λhz=>by
     simp only[eval,Q i Y,hg,X,Zdt]at hz;obtain⟨rfl,_⟩:=TO hz;rfl
    show RelC c.P B [] w' _ _ kk (.c x) (us.getD j undef);cases kk with
    |fz=>obtain⟨z,q1,q2,q3⟩:=hc;have:=I q1;subst this;exact⟨_,rfl,q2,q3⟩
    |own ty=>obtain⟨z,q1,q2⟩:=hc;have:=I q1;subst this;exact⟨_,rfl,q2⟩
    |nil=>obtain⟨q1,q2⟩:=hc;have:=I q2;subst this;exact⟨q1,rfl⟩
    |dead=>exact hc
   ·cases d
  ·cases d
 |nil=>simp[R9]at d
 |clo f l=>simp[R9]at d
def qx:∀(xs:List V),UO (xs.map λ_=>OT.fz) xs=xs.map .v
 | []=>rfl
 |x::xs=>by simp_all[ZdK,UO,Sd,qx]
def ZN{P:Program} [Lg P]{f:FuncId}{fn:Func}{cf:Fn}{fresh:FuncId->Bool}{sig:FuncId->Option (List OT)}{ks:List OT}{fin:SS} [FitF P f](U:P.funcs[f]?=some fn)(X:P.follows .mixedOrders=true)(o:VM P f=true)(hc:ZH P fresh sig ks fin fn=some cf)
  {args:List V} {r:V} (C:ks=args.map λ_=>.fz)
  (hw:Yu P cf.body (args.map .v) (λs=>Wc s cf.res=some r) (λ_ _=>False) (λs=>Wc s cf.res=some r)):VC P f false args r:=by
 refine⟨o,λw G vs Q a0 I=> ?_⟩;subst C;have H:Ok w.heap.size G w {F:=G,bl:=λ_ _=>none,K:=λ_=>False}:=⟨Zdp _,Q,λb d=>.inl d,λb d=>d,λt i b d=>(by cases d),λt i u j b d=>(by cases d),λb d=>d.elim,λt i b d=>(by cases d),λb d=>.inl d⟩;refine LD (h:= {F:=G,bl:=λ_ _=>none,K:=λ_=>False}) (B:=w.heap.size) (Rt:=λs=>Wc s cf.res=some r) U X hc (by rw[qx];exact hw) H ⟨Z1,Zcq,λi k x N hx=> ?_⟩ λc s S a w' h' T W _ A O l z hK p n=> ?_
 ·simp only[ZdJ,Zdm]at N;obtain⟨y,_,rfl⟩:=N;exact⟨_,rfl,x,rfl,(I i x hx).mono λb d=>.inl d⟩
 ·subst T;simp only[SB,Zdn,Zdu]at n;rw[A]at O
  obtain⟨v,Z,J⟩:=Ky (D:=λb=>G b\/(w.heap.size<=b/\b<w'.heap.size)) l z (λb d=>by
   obtain M|M:=l.ok.f_or b d
   ·grind
   ·exact .inr ⟨M,l.ok.f_lt b d⟩) (λq Y=>⟨n.1 q Y,λi b d=>.inr ⟨(l.ok.b_lt _ _ b d).1,(l.ok.b_lt _ _ b d).2.1⟩⟩) O
  refine⟨v,Z,v,rfl,p.below,J.mono λb d=> ?_⟩;simp_all
def OwnV.rd_flat{P:Program}{B:Nat}{w:World}{h:GH}{o:Option Nat}{ty:TypeId}{l:List V}{v:Value}(N:OwnV P B w h o ty (.sl l) v)(q:∀c∈flat l,c.flatc=true){G':Nat->Prop}(K:∀b,o=some b->G' b):Rd w G' (.sl l) v:=by
 obtain⟨Q,xs,r,O,j,n,D,x⟩|⟨_,_,_,_,_,_,r,_⟩:=N
 case inr=>cases r
 cases r;obtain⟨F,H⟩:=n;obtain⟨rfl,J⟩|⟨b,cap,d,rfl,_,I,k,f,y,z⟩:=H
 ·have:l=[]:=Zeb J;subst this;exact .nil _ _ (Zex _)
 ·simp only[Value.ownBlock]at D;refine .sl l b 0 cap (P.cellsOf ty) (λi=>d.getD i undef) k f (K b D.symm) j (λi p=> ?_) λi c p=> ?_
  ·rw[Ze7,ZdE w b i d ty (0,0) I];have:i<d.size:=by rw[y];exact Zdw p (Ze0 _ k)
   simp_all
  ·obtain⟨u,A,M⟩:=x i c p
   have C:d.getD i undef=u:=by
    rw[<-z,ZdY]at A;split at A
    ·simp_all
    ·simp at A
   rw[C];exact M.flat (q c (Zdr p))
def Z7F{P:Program} [Lg P]{f:FuncId}{fn:Func}{cf:Fn}{fresh:FuncId->Bool}{sig:FuncId->Option (List OT)}{ks:List OT}{t:Nat}{ty:TypeId} [FitF P f](hf:P.funcs[f]?=some fn)(hm:P.follows .mixedOrders=true)(p:VM P f=true)(q:fn.results=#[.tmp t])(hc:ZH P fresh sig ks [(t,.own ty)] fn=some cf)
  {args:List V} {l:List V} (T:ks=args.map λ_=>.fz) (Q:∀c∈flat l,c.flatc=true)
  (hw:Yu P cf.body (args.map .v) (λs=>Wc s cf.res=some (.sl l)) (λ_ _=>False) (λs=>Wc s cf.res=some (.sl l))):VC P f true args (.sl l):=by
 refine⟨p,λw G vs Z a1 Y=> ?_⟩;subst T;have W:Ok w.heap.size G w {F:=G,bl:=λ_ _=>none,K:=λ_=>False}:=⟨Zdp _,Z,λb d=>.inl d,λb d=>d,λt i b d=>(by cases d),λt i u j b d=>(by cases d),λb d=>d.elim,λt i b d=>(by cases d),λb d=>.inl d⟩;refine LD (h:= {F:=G,bl:=λ_ _=>none,K:=λ_=>False}) (B:=w.heap.size) (Rt:=λs=>Wc s cf.res=some (.sl l)) hf hm hc (by rw[qx];exact hw) W ⟨Z1,Zcq,λi k x A hx=> ?_⟩ λc s S a w' h' hP a0 _ M H J C hK z o=> ?_
 ·simp only[ZdJ,Zdm]at A;obtain⟨y,_,rfl⟩:=A;exact⟨_,rfl,x,rfl,(Y i x hx).mono λb d=>.inl d⟩
 ·subst hP;simp only[SB,Zdn,Zdu]at o;obtain⟨n,U⟩:=L7 J C o.2
  have r:(Yq c [(t,OT.own ty)]).at t=([],.own ty (.s (c.ix t))):=by
   rw[Yy];simp[SS.at,Qk]
  obtain⟨u,hu,A⟩:=n.at_ t (by simp_all[Ys]) (by rw[r];rfl);rw[r]at A;obtain⟨X,N,D⟩:=A;rw[M,Mi,q]at H;simp only[ZdK,Zf8,QY,Wc,UE]at H
  have O:X=.sl l:=by
   simp only[eval]at N;cases hg:get s (c.ix t)<;>rw[hg]at N H<;>simp at N H
   rw[<-N,H]
  subst O
  have I:Rd w' (λb=>(true=false/\G b)\/(w.heap.size<=b/\b<w'.heap.size)) (.sl l) u:=by
   refine OwnV.rd_flat D Q λb d=>.inr ?_;obtain⟨q1,q2,_⟩:=n.ok.b_lt t 1 b d;exact⟨q1,q2⟩
  refine⟨u,?_,u,rfl,z.below,I⟩;simp_all[results_tmp,Zdo]
end Vm
end
section
namespace Vm
open Go Go.Conc
section
def YK(P:Z4):Program:=P
section
variable {P:Z4}{Stop:Z9}{b:Zf}{k:Zi}{cs:Z5}{a:Act}{w:Z3}
theorem DG(fn:Func)(d:Za):Calm (results fn d):=by
 unfold results;refine .bind (DE (λr=> ?_) _) λ_=>.pure _;cases r with
 |tmp t=>exact .pure _
 |cell a t=>exact .bind (calm_asAddr _) λ_=>calm_loadVar _ _
def Z7h{c:Code}:stepG P true (G (b.at a (.code (.scope c)::k)) cs) w=.go (G (b.at a (.code c:: .inScope c::k)) cs) w:=Zdf
def Z7d{c:Code}:stepG P true (G (b.at a (.inScope c::k)) cs) w=.go (G (b.at a k) cs) w:=Zdf
def Z7g:stepG P true (G (b.at a (.code .ret::k)) cs) w=.go (G {b.at a (.code .ret::k)with mode:=.returning} cs) w:=Zdf
abbrev Zcn:=Value->World->Prop
def Leaves(P:Z4)(fr:Zf)(w:Z3)(R:Zcn):Prop:=
 fr.mode=.returning/\fr.defers=[]/\fr.kind=.normal/\∃fn,P.funcs[fr.fn]?=some fn/\∀d,∃v,(results fn fr.tmps).run P (w.at d)=.ok v (w.at d)/\R v (w.at d)
def Z7e{fr c:Zf}{fn:Func}{v:Z7}(d:fr.mode=.returning)(h2:fr.defers=[])(f:fr.kind=.normal)(g:P.funcs[fr.fn]?=some fn)(h:(results fn fr.tmps).run P w=.ok v w):
  stepG P true (G fr (c::cs)) w=.go (G (c.finish v) cs) w (seen P fr.fn ((results fn fr.tmps).events P w #[])):=by
 simp_all[G,stepG,unwind,doReturn,GStep.after]
def Leaves.walk{fr c:Zf}{R:Zcn}(h:Leaves P fr w R)(q:∀v w,R v w->Walk P Stop (c.finish v) cs w):Walk P Stop fr (c::cs) w:=by
 obtain⟨g,j,l,fn,n,o⟩:=h;refine .one λd=> ?_;obtain⟨v,f,r⟩:=o d;refine⟨_,_,_,_,Z7e g j l n f,Zdp _,λe p=> ?_,q v _ r⟩;have:=Qm (P:=P) (DG fn fr.tmps) (w.at d) e (mem_seen p);rw[f]at this;exact this
def AfterB(P:Z4)(Stop:Z9)(b:Zf)(k:Zi)(cs:Z5):Exit->Act->World->Prop
 |.normal,a,w=>Walk P Stop (b.at a k) cs w
 |.exit id,a,w=>∃f,exitTo id k=some f/\Walk P Stop (b.at a f) cs w
 |.ret,a,w=>∀d,Walk P Stop {b.at a d with mode:=.returning} cs w
 |_,_,_=>False
def AfterB.push{x:Item}{e:Exit}(hx:x.plain=true)(j:e≠.normal)(h:AfterB P Stop b k cs e a w):AfterB P Stop b (x::k) cs e a w:=by
 cases e with
 |normal=>simp_all
 |exit id=>obtain⟨f,n,d⟩:=h;exact⟨f,by cases x<;>simp_all [exitTo,Item.plain],d⟩
 |ret=>exact h
 |goto l=>exact h
 |panic g=>exact h
 |outgrown=>exact h
abbrev Zr:=Exit->Act->World->Prop
def UJ(P:Z4)(c:Code)(Q:Zr)(a:Act)(w:Z3):Prop:=
 ∀(b:Zf) (k:Zi) (cs:Z5) (Stop:Z9),b.kind≠.early->(∀e d f,Q e d f->AfterB P Stop b k cs e d f)->Walk P Stop (b.at a (.code c::k)) cs w
def Nq(P:Z4)(ops:Zq)(Q:Zr)(l:Zd)(a:Act)(w:Z3):Prop:=
 ∀(b:Zf) (k:Zi) (cs:Z5) (Stop:Z9),b.kind≠.early->(∀e d f,Q e d f->AfterB P Stop b k cs e d f)->Walk P Stop (b.at a (.inRegion ops l::k)) cs w
def qG(P:Z4)(f:Zn)(args:Za)(w:Z3)(R:Ending->World->Prop):Prop:=
 ∀(cs:Z5) (Stop:Z9),(∀d g,d.fn=f->Leaves P d g (λv w=>R (.returned v) w)->Walk P Stop d cs g)->Walk P Stop (Frame.enter P f args .normal) cs w
variable {Q:Zr}
def Z7Y{x y:Code}(h:UJ P x (Exit.then (UJ P y Q) Q) a w):UJ P (.seq x y) Q a w:=by
 intro b k cs Stop f d;refine .go (λw=>stepG_seq) (h b (.code y::k) cs Stop f λe g n q=> ?_);cases e with
 |normal=>exact q b k cs Stop f d
 |exit id=>exact(d _ _ _ q).push rfl Z1
 |ret=>exact(d _ _ _ q).push (x:=.code y) rfl Z1
 |goto l=>exact d _ _ _ q
 |panic j=>exact d _ _ _ q
 |outgrown=>exact d _ _ _ q
def Z7X{x:Code}(h:UJ P x (Exit.noGoto Q) a w):UJ P (.scope x) Q a w:=by
 intro b k cs Stop f d;refine .go (λw=>Z7h) (h b (.inScope x::k) cs Stop f λe o r q=> ?_);cases e with
 |normal=>exact .go (λw=>Z7d) (d _ _ _ q)
 |exit id=>obtain⟨n,j,g⟩:=d _ _ _ q;exact⟨n,by simp[exitTo,j],g⟩
 |ret=>exact d _ _ _ q
 |goto l=>exact q.elim
 |panic p=>exact d _ _ _ q
 |outgrown=>exact d _ _ _ q
def Z7V{id:Nat}{c:Code}(h:UJ P c (Exit.inBlock id Q) a w):UJ P (.block id c) Q a w:=by
 intro b k cs Stop g d;refine .go (λw=>stepG_block) (h b (.inBlock id::k) cs Stop g λe p t q=> ?_);cases e with
 |normal=>exact .go (λw=>stepG_inBlock) (d _ _ _ q)
 |exit f=>
  by_cases hid:f=id
  ·simp only[Exit.inBlock,hid,Ze3]at q;exact⟨k,by simp[exitTo,hid],d _ _ _ q⟩
  ·simp only[Exit.inBlock,hid,Ze1]at q;obtain⟨o,n,j⟩:=d _ _ _ q;have:(id==f)=false:=by simp;exactλh=>hid h.symm
   exact⟨o,by simp_all[exitTo],j⟩
 |ret=>exact d _ _ _ q
 |goto l=>exact d _ _ _ q
 |panic r=>exact d _ _ _ q
 |outgrown=>exact d _ _ _ q
def Z7W{c:Code}(I:Act->World->Prop)(μ:Act->World->Nat)(p:I a w)
  (round:∀a w,I a w->UJ P c (Exit.then (λd g=>I d g/\μ d g<μ a w) Q) a w):UJ P (.loop c) Q a w:=by
 intro b k cs Stop j f
 have key:∀n a w,μ a w=n->I a w->Walk P Stop (b.at a (.code c:: .inLoop c::k)) cs w:=by
  intro n
  induction n using Nat.strongRecOn with
  |_ n r=>
   intro a w o h;refine round a w h b (.inLoop c::k) cs Stop j λe d g q=> ?_;cases e with
   |normal=>exact .go (λw=>stepG_inLoop) (r (μ d g) (o▸q.2) d g rfl q.1)
   |exit id=>exact(f _ _ _ q).push rfl Z1
   |ret=>exact(f _ _ _ q).push (x:=.inLoop c) rfl Z1
   |goto l=>exact f _ _ _ q
   |panic t=>exact f _ _ _ q
   |outgrown=>exact f _ _ _ q
 exact .go (λw=>stepG_loop) (key _ a w rfl p)
def Walk.op{ops:Zq}{i:Nat}{rest:Zd}{o:Oper}(p:ops[i]?=some o)(t:Region.wanted o (yielded ops a.tmps)=true)(r:b.kind≠.early)(y:∀o∈ops,Qf P o.op=true)
  (h:∀d,match(execOp a.eval o).run P (w.at d)with
   |.ok (.value v) l=>Walk P Stop (b.at (a.put o.dst v) (.inRegion ops rest::k)) cs l
   |.ok .skip l=>Walk P Stop (b.at (a.put o.dst undef) (.inRegion ops rest::k)) cs l
   |.ok (.enter f args) l=>Walk P Stop (Frame.enter P f args .normal) (b.at a (.inRegion ops (i::rest)::k)::cs) l
   |_=>False):Walk P Stop (b.at a (.inRegion ops (i::rest)::k)) cs w:=by
 refine .one λd=> ?_;have h:=h d;have j:=(QZ P (execOp a.eval o) (w.at d)).1;have g:EvsB (Ya ((execOp a.eval o).run P (w.at d))).heap.size (listed P b.fn a o (w.at d)):=λe u=>Ea (y o (Zfl p)) a (w.at d) e (mem_listed u)
 revert h
 cases q:(execOp a.eval o).run P (w.at d)with
 |halt x l=>simp
 |ok n l=>
  rw[q]at j g;cases n<;>first|simp|skip
  ·exactλh=>⟨_,_,_,_,stepG_value p t r q,j,g,h⟩
  ·exactλh=>⟨_,_,_,_,stepG_none p t r q,j,g,h⟩
  ·exactλh=>⟨_,_,_,_,stepG_enter p t r q,j,g,h⟩
def Z7f{ops:Zq}{i:Nat}{rest:Zd}(f:ops[i]?=none):stepG P true (G (b.at a (.inRegion ops (i::rest)::k)) cs) w=.go (G (b.at a (.inRegion ops rest::k)) cs) w #[]:=by
 have d:(b.at a (.inRegion ops (i::rest)::k)).finish undef=b.at a (.inRegion ops rest::k):=by rw[ZfK,f];rfl
 simp_all[G,stepG,stepG.exec,Frame.at]
end
instance besI (P:Z4):Lg (YK P) where
 wp c Q a w:=UJ P c Q a w
 calls f args w R:=qG P f args w R
 todo ops Q l a w:=Nq P ops Q l a w
 sim w w1:=∃d,w1=w.at d
 fit o:=Qf P o.op=true
 sim_eq h:=by obtain⟨d,rfl⟩:=h;rfl
 calls_mono h k:=λcs Stop hs=>h cs Stop λfr w' h1 h2=>hs fr w' h1 (by
  obtain⟨q1,q2,q3,fn,q4,q5⟩:=h2;exact⟨q1,q2,q3,fn,q4,λd=>by obtain⟨v,r1,r2⟩:=q5 d;simp_all⟩)
 wp_mono h k:=λb kk cs Stop hb hc=>h b kk cs Stop hb λe a w q=>hc e a w (k e a w q)
 wp_skip h:=λb k cs Stop hb hc=>.go (λw=>stepG_skip) (hc _ _ _ h)
 wp_label h:=λb k cs Stop hb hc=>.go (λw=>stepG_label) (hc _ _ _ h)
 wp_exit h:=λb k cs Stop hb hc=>by
  obtain⟨k',hk',hg⟩:=hc _ _ _ h;exact .go (λw=>stepG_exit hk') hg
 wp_ret h:=λb k cs Stop hb hc=>.go (λw=>Z7g) (hc _ _ _ h _)
 wp_seq h:=Z7Y h
 wp_scope h:=Z7X h
 wp_cond_true hc h:=λb k cs Stop hb hq=>.go (λw=>stepG_cond hc) (h b k cs Stop hb hq)
 wp_cond_false hc h:=λb k cs Stop hb hq=>.go (λw=>stepG_cond hc) (h b k cs Stop hb hq)
 wp_block h:=Z7V h
 wp_loop I μ h k:=Z7W I μ h k
 wp_region _ h:=λb k cs Stop hb hc=>.go (λw=>stepG_region) (h b k cs Stop hb hc)
 wp_draw {id ops Q a w} _ h:=λb k cs Stop hb hc=>.one λd=>⟨_,_,_,_,stepG_region_draw,Zdp _,λe he=>by simp at he,h (w.at d) ⟨d,rfl⟩ _ b k cs Stop hb hc⟩
 todo_nil h:=λb k cs Stop hb hc=>.go (λw=>stepG_region_end) (hc _ _ _ h)
 todo_cons {ops Q i rest a w} hf h:=λb k cs Stop hb hc=>by
  cases ho:ops[i]? with
  |none=>
   have h:=h w ⟨w.drawn,rfl⟩;rw[ho]at h;exact .go (λw=>Z7f ho) (h b k cs Stop hb hc)
  |some o=>
   rw[ho]at h;dsimp only at h;by_cases hw:Region.wanted o (yielded ops a.tmps)=true
   ·refine .op ho hw hb hf λd=> ?_;have h:=h (w.at d) ⟨d,rfl⟩;rw[if_pos hw]at h
    revert h
    show J6 (qG P) o a (Nq P ops Q rest) ((execOp a.eval o).run P (w.at d))->_;cases(execOp a.eval o).run P (w.at d)with
    |halt x w'=>exact id
    |ok n w'=>
     cases n<;>first|exact id|exactλh=>h b k cs Stop hb hc|skip
     refineλh=>h _ Stop λfr w2 h1 hL=>hL.walk λv w3 hr=> ?_;obtain⟨v',e,hr⟩:=hr;cases e;rw[ZfK,ho];exact hr b k cs Stop hb hc
   ·have h:=h w ⟨w.drawn,rfl⟩;rw[if_neg hw]at h;exact .go (λw=>stepG_unwanted ho Zcp) (h b k cs Stop hb hc)
 calls_of_wp {f fn c args w R} hf hb h:=λcs Stop hs=>by
  have hf:P.funcs[f]?=some fn:=hf;rw[enter_at args hf hb];refine h (base f) [] cs Stop (by simp[base]) λe a' w' q=> ?_;cases e with
  |normal=>exact .go (λw=>stepG_end) (hs _ _ rfl ⟨rfl,q.1,rfl,fn,hf,λd=>q.2 (w'.at d) ⟨d,rfl⟩⟩)
  |ret=>exactλtodo=>hs _ _ rfl ⟨rfl,q.1,rfl,fn,hf,λd=>q.2 (w'.at d) ⟨d,rfl⟩⟩
  |_=>exact q.elim
end
end Vm
end
section
namespace Vm
open Go Go.Conc
open Go.RowKit (Below)
abbrev Zp:=List V
inductive NoM:V->Prop where
 |int (k:Zl) (n:Int):NoM (.int k n)
 |bool (b:Bool):NoM (.bool b)
 |str (s:ByteArray):NoM (.str s)
 |fn (f:Zn):NoM (.fn f)
 |nul (k:Nat):NoM (.nul k)
 |sl (l:Zp):(∀c∈flat l,NoM c)->NoM (.sl l)
 |agg (l:Zp):(∀c∈l,NoM c)->NoM (.agg l)
 |tup (l:Zp):(∀c∈l,NoM c)->NoM (.tup l)
 |ptr (l:Zp):(∀c∈l,NoM c)->NoM (.ptr l)
 |clo (f:Zn) (l:Zp):(∀c∈l,NoM c)->NoM (.clo f l)
def FixV.mono{n m:Nat}{v:Z7}(h:FixV n v)(d:n<=m):FixV m v:=λρ f=>h ρ λb a=>f b (Zdw a d)
def JC{l:Zk}(h:∀v∈l,∃n,FixV n v):∃n,∀v∈l,FixV n v:=by
 induction l with
 |nil=>simp
 |cons v l g=>
  obtain⟨n,f⟩:=h v Z1;obtain⟨m,d⟩:=g λx a=>h x (by simp[a])
  exact⟨max n m,λx a=>by
   obtain rfl|a:=ZdG.1 a
   ·exact f.mono (ZfN ..)
   ·exact(d x a).mono (Zgs ..)⟩
def Sn{n:Nat}{a:Za}(h:∀v∈a,FixV n v):∀ρ,Tx n ρ->a.map (Zt ρ)=a:=λρ f=>Rx λx d=>h x d ρ f
def Qs:∀v:Z7,∃n,FixV n v
 |.bool b=>⟨0,λρ _=>VZ ..⟩
 |.int k n=>⟨0,λρ _=>XR ..⟩
 |.float k b=>⟨0,λρ _=>TU ..⟩
 |.complex k a b=>⟨0,λρ _=>Bz ..⟩
 |.string s=>⟨0,λρ _=>TW ..⟩
 |.pointer none=>⟨0,λρ _=>Ue ..⟩
 |.pointer (some a)=>⟨a.block+1,λρ h=>by rw[Wv];simp[ZQ,h a.block (ZfW _)]⟩
 |.slice none n c=>⟨0,λρ _=>Zdg⟩
 |.slice (some a) n c=>⟨a.block+1,λρ h=>by simp[Zt,ZQ,h a.block (ZfW _)]⟩
 |.map none=>⟨0,λρ _=>Zdg⟩
 |.map (some r)=>⟨r+1,λρ h=>by simp[Zt,h r (ZfW _)]⟩
 |.chan none=>⟨0,λρ _=>Zdg⟩
 |.chan (some r)=>⟨r+1,λρ h=>by simp[Zt,h r (ZfW _)]⟩
 |.nilIface=>⟨0,λρ _=>Zdg⟩
 |.nilFunc=>⟨0,λρ _=>Zdg⟩
 | .iface t v=>by
   obtain⟨n,f⟩:=Qs v;exact⟨n,λρ h=>by simp only[Zt];rw[f ρ h]⟩
 | .func fn a b=>by
   obtain⟨n,f⟩:=JC (l:=a.toList) λv d=>Qs v;obtain⟨m,o⟩:=JC (l:=b.toList) λv d=>Qs v;refine⟨max (max n m) (match fn with|.yield l=>l+1|_=>0),λρ h=> ?_⟩;simp only[Zt]
   rw[Sn (n:=max n m) (a:=a) (λv d=>(f v ZcI).mono (ZfN ..)) ρ λb j=>h b (Zdw j (ZfN ..)),
    Sn (n:=max n m) (a:=b) (λv d=>(o v ZcI).mono (Zgs ..)) ρ λb j=>h b (Zdw j (ZfN ..))]
   cases fn with
   |yield l=>simp only[Wt];rw[h l (Zdw (ZfW l) (Zgs ..))]
   |_=>rfl
 | .agg g=>by
   obtain⟨n,f⟩:=JC (l:=g.toList) λv d=>Qs v;exact⟨n,λρ h=>by rw[Wu,Sn (λv d=>f v ZcI) ρ h]⟩
 | .tuple g=>by
   obtain⟨n,f⟩:=JC (l:=g.toList) λv d=>Qs v;exact⟨n,λρ h=>by rw[Uf,Sn (λv d=>f v ZcI) ρ h]⟩
termination_by v=>sizeOf v
decreasing_by
 all_goals simp_wf
 all_goals first|(have:=Array.sizeOf_lt_of_mem (show _∈_ from ZcI);omega)|omega
def DL:Option Obj->Array Value
 |some (.cells c _ _)=>c
 |_=> #[]
def Et(w:Z3)(vs:Za):∃n,w.heap.size<=n/\(∀v∈vs,FixV n v)/\∀(b:Nat) (c:Za) (e:Z8) (d:Nat×Nat),w.heap[b]?=some (.cells c e d)->Jd n (.cells c e d):=by
 obtain⟨n,f⟩:=JC (l:=vs.toList++(w.heap.toList.flatMap λo=>(DL (some o)).toList)) λv _=>Qs v;refine⟨max n w.heap.size,Zgs ..,λv g=>(f v (by simp[g])).mono (ZfN ..),λb c e d j ρ h=> ?_⟩;simp only[Xn];rw[Sn (n:=max n w.heap.size) (a:=c) (λv g=>(f v ?_).mono (ZfN ..)) ρ h]
 grind [List.mem_append_right,DL,Array.mem_of_getElem?]
def zk{X:Cx}{w:Z3}{t:Nat->Question->Nat}{b o:Nat}{v:Z7}(j:¬X.O b)(g:∀c e a,w.heap[b]?=some (.cells c e a)->X.G b)(k:w.heap.size<=X.n0)(h:w.cell? ⟨b,o,none⟩=some v):(X.mask w t).cell? ⟨b,o,none⟩=some v:=by
 obtain⟨_,c,e,a,d,l⟩:=Jp h;have f:=(Zdq.1 d).1
 have:(X.mask w t).heap[b]?=some (.cells c e (0,c.size)):=by
  rw[A7,if_pos (Zdw f k),d];unfold Cx.maskO;dsimp only;rw[if_neg j,if_pos (g c e a d)]
 simp_all[World.cell?]
def JD{l:Zp}{i:Nat}{c:V}(h:(flat l)[i]?=some c):c∈flat l:=Zdr h
def M2{X:Cx}{w:Z3}{t:Nat->Question->Nat}{G:Z6}(B:∀b,¬X.O b)(A:∀b c e r,G b->w.heap[b]?=some (.cells c e r)->X.G b)(C:w.heap.size<=X.n0){x:V}{v:Z7}(h:Rd w G x v)(g:NoM x):Rd (X.mask w t) G x v:=by
 induction h with
 |int k n=>exact .int k n
 |bool b=>exact .bool b
 |str s=>exact .str s
 |nil a cap h=>exact .nil a cap h
 |sl l b o cap k vs j y u D z _ p=>
  cases g with
  |sl _ g=>exact .sl l b o cap k vs j y u D (λi d=>zk (B b) (λc e r=>A b c e r u) C (z i d)) λi c d=>p i c d (g c (JD d))
 |agg q vs j y _ p=>
  cases g with
  |agg _ g=>exact .agg q vs j y λi c d=>p i c d (g c (Zdr d))
 |tup l vs j _ p=>
  cases g with
  |tup _ g=>exact .tup l vs j λi c d=>p i c d (g c (Zdr d))
 |ptr q b o vs u j z _ p=>
  cases g with
  |ptr _ g=>exact .ptr q b o vs u j (λi d=>zk (B b) (λc e r=>A b c e r u) C (z i d)) λi c d=>p i c d (g c (Zdr d))
 |fn f=>exact .fn f
 |clo f q vs j _ p=>
  cases g with
  |clo _ _ g=>exact .clo f q vs j λi c d=>p i c d (g c (Zdr d))
 |nul0=>exact .nul0
 |nul1=>exact .nul1
 |nomp=>cases g
 |mp=>cases g
def M1{X:Cx}{z w:Z3}(y:X.WR z w){D:Z6}{x:V}{v:Z7}(h:Rd z D x v)(d:NoM x):Rd w (λA=>∃b,D b/\A=X.ρ b) x (Zt X.ρ v):=by
 induction h with
 |int k n=>rw[XR];exact .int k n
 |bool b=>rw[VZ];exact .bool b
 |str s=>rw[TW];exact .str s
 |nil a cap h=>
  have:Zt X.ρ (.slice a 0 cap)=.slice (a.map (ZQ X.ρ)) 0 cap:=by cases a<;>simp[Zt]
  rw[this];exact .nil _ cap h
 |sl l b o cap k vs j r t B u _ p=>
  cases d with
  |sl _ d=>
   have:Zt X.ρ (.slice (some ⟨b,o,none⟩) l.length cap)=.slice (some ⟨X.ρ b,o,none⟩) l.length cap:=by simp[Zt,ZQ]
   rw[this];exact .sl l (X.ρ b) o cap k (λi=>Zt X.ρ (vs i)) j r ⟨b,t,rfl⟩ B (λi g=>(y.cell (u i g)).1) λi c g=>p i c g (d c (JD g))
 |agg q vs j r _ p=>
  cases d with
  |agg _ d=>
   rw[Wu];exact .agg q _ Zcp r λi c g=>by grind [Rf,List.mem_of_getElem?]
 |tup l vs j _ p=>
  cases d with
  |tup _ d=>
   rw[Uf];exact .tup l _ Zcp λi c g=>by grind [Rf,List.mem_of_getElem?]
 |ptr q b o vs t j u _ p=>
  cases d with
  |ptr _ d=>
   rw[Wv];exact .ptr q (X.ρ b) o (λi=>Zt X.ρ (vs i)) ⟨b,t,rfl⟩ j (λi g=>(y.cell (u i g)).1) λi c g=>p i c g (d c (Zdr g))
 |fn f=>
  have:Zt X.ρ (.func (.func f) #[] #[])=.func (.func f) #[] #[]:=by simp[Zt,Wt]
  rw[this];exact .fn f
 |clo f q vs j _ p=>
  cases d with
  |clo _ _ d=>
   have:Zt X.ρ (.func (.func f) #[] vs)=.func (.func f) #[] (vs.map (Zt X.ρ)):=by simp[Zt,Wt]
   rw[this];exact .clo f q _ Zcp λi c g=>by grind [Rf,List.mem_of_getElem?]
 |nul0=>rw[Ue];exact .nul0
 |nul1=>rw[yu];exact .nul1
 |nomp=>cases d
 |mp=>cases d
inductive Look {α:Type}:Sem α->Prop where
 |pure (a:α):Look (.pure a)
 |halt (h:Halt):Look (.halt h)
 |load {m:Mode} {a:Addr} {k:Value->Sem α}:(∀v,Look (k v))->Look (.load m a k)
 |prog {k:Program->Sem α}:(∀p,Look (k p))->Look (.program k)
def Look.world{α:Type}{p:Z4}{s:Sem α}(h:Look s)(w:Z3):Ya (s.run p w)=w:=by
 induction h with
 |pure a=>rfl
 |halt h=>rfl
 |load _ d=>
  unfold Sem.run;split
  ·exact d _
  ·split
   ·exact d _
   ·rfl
 |prog _ d=>exact d _
theorem Look.bind{α β:Type}{s:Sem α}{f:α->Sem β}(h:Look s)(g:∀a,Look (f a)):Look (s>>=f):=by
 show Look (s.bind f)
 induction h with
 |pure a=>exact g a
 |halt h=>exact .halt h
 |load _ d=>exact .load d
 |prog _ d=>exact .prog d
def G5{α β:Type}{f:α->Sem β}(d:∀a,Look (f a)):∀l:List α,Look (l.mapM f)
 | []=>by simp only[Zgv];exact .pure _
 |a::l=>by
  simp only[ZfD];exact(d a).bind λb=>(G5 d l).bind λg=>.pure _
def A1{α:Type}(s:String):Look (stuck s:Sem α):=.halt _
def G6:Look program:=.prog λp=>.pure p
def Z2X(t:Z8):Look (typeInfo t):=G6.bind λp=>by split<;>first|exact .pure _|exact A1 _
def Z30(t:Z8):Look (underlying t):=G6.bind λp=>by split<;>first|exact .pure _|exact A1 _
def Z2Z(t:Z8):Look (sizeOf t):=(Z2X t).bind λi=>.pure _
def Z2W(t:Z8):Look (isAgg t):=(Z30 t).bind λd=>by cases d<;>exact .pure _
def FZ(a:Addr):∀(n i:Nat) (d:Za),Look (loadCellsFrom a i n d)
 |0,_,_=>.pure _
 |n+1,i,d=>.load λv=>FZ a n _ _
def Z31(t:Z8)(a:Addr):Look (loadVar t a):=(Z2W t).bind λb=>by
 cases b with
 |true=>exact(Z2Z t).bind λn=>(FZ a n 0 #[]).bind λc=>.pure _
 |false=>exact .load λv=>.pure v
def G7(fn:Func)(d:Za):Look (results fn d):=by
 unfold results;rw[ZeR];refine Look.bind (s:=Functor.map _ _) ?_ λ_=>.pure _;rw[ZfX];refine(G5 (λr=> ?_) _).bind λ_=>.pure _;cases r with
 |tmp t=>exact .pure _
 |cell a t=>
  refine Look.bind ?_ λa=>Z31 _ _;unfold asAddr;split
  ·exact .pure _
  ·exact .prog λp=>.halt _
  ·exact A1 _
def Z53{P:Z4}{c:Nat}{K:Z6}{j:(Nat->Prop)->Goroutine->World->Prop}{n:Z9}{es:Zco}{O:Z6}{g:Zj}{w:Z3}(h:Play P true c K j es O g w):
  es=[]->∀(r:Zf) (p:Z5) (a:Z3),g=G r p->(a.os,a.output)=(w.os,w.output)->a.tape=w.tape->a.heap.size<=w.heap.size->(∀b,b<a.heap.size->w.heap[b]?=a.heap[b]?)->(∀b,O b->a.heap.size<=b/\b<w.heap.size)->(∀b,K b->b<a.heap.size)->
  (∀O l k f,j O (G l k) f->(a.os,a.output)=(f.os,f.output)->a.tape=f.tape->a.heap.size<=f.heap.size->(∀b,b<a.heap.size->f.heap[b]?=a.heap[b]?)->(∀b,O b->a.heap.size<=b/\b<f.heap.size)->Walk P n l k f)->Walk P n r p w:=by
 induction h with
 | @stop O g w U=>
   intro _ r p a z x Q R S T _ A;subst z;exact A O r p w (U w (.refl _ _ _)) x Q R S T
 |ev=>intro t;cases t
 | @step es O N I w x _ W=>
   intro t r p a z J L Z M D F A;injection z with X Y;subst X Y;refine .one λd=> ?_;have H:Rely K O w (w.at d):=Rely.at _ _ _ d;obtain⟨l,k,f,q,k1,u⟩:=x (w.at d) H;have C:w.heap.size<=f.heap.size:=u.sz
   have B:∀b,WV O (w.at d) f b->a.heap.size<=b/\b<f.heap.size:=λb o=>by
    obtain o|o:=o
    ·have:=D b o;omega
    ·have:w.heap.size<=b:=o.1;have:=o.2;omega
   refine⟨l,k,f,q,k1,C,λe t=> ?_,W (w.at d) _ f q H k1 t l k a rfl (J.trans u.os.symm) (L.trans u.tape.symm) Z0 (λb o=> ?_) B F A⟩
   ·have:=u.evs e t;unfold EvC at this;unfold EvB EvC;split<;>simp only[*]at this
    ·obtain h|h:=this
     ·exact .inl (B _ h).2
     ·have:=F _ h.2;exact .inl Z0
    ·exact(B _ this).2
    ·exact this
    ·trivial
   ·have:=u.keep b (by show b<w.heap.size;omega) λy=>by have:=(D b y).1;omega
    rw[this];exact M b o
end Vm
end
