import Derived.Test.YtlnhjkejgijgaaaGreatSMoveGoes1
set_option linter.unusedSimpArgs false
set_option linter.unusedVariables false
set_option linter.defProp false
open Option renaming some→J,none→U
open Bool renaming true→xk,false→xw
open Go renaming undef→xy
open List renaming length→I
open Array renaming size→xz
open Go.World renaming heap→xj
open List renaming length→xq
open Array renaming size→xz
open Go.World renaming heap→xj
theorem Z5M{p:Prop}(h:p:=by simp_all[eval,Option.bind_eq_some_iff]):p:=h
theorem Z5y{p:Prop}(h:p:=by simpa using f):p:=h
theorem Z5Y{p:Prop}(h:p:=by simpa using g):p:=h
theorem Z5K{p:Prop}(h:p:=by rw[List.getElem?_map,List.getElem?_eq_getElem n];rfl):p:=h
theorem Z5S{p:Prop}(h:p:=by rw[←a3];exact(List.getElem?_eq_some_iff.1 T).1):p:=h
theorem Z5W{p:Prop}(h:p:=by simp only[eval];rw[h u (by simp[E.asks])]):p:=h
theorem Z5l{p:Prop}(h:p:=by simp only[eval];rw[Yb a fun j p=>h j (by simp[E.asks,p]),Yb b fun j p=>h j (by simp[E.asks,p])]):p:=h
theorem Z5m{p:Prop}(h:p:=by simp only[eval];rw[Yb a fun j p=>h j (by simp[E.asks,p])]):p:=h
theorem Z5p{p:Prop}(h:p:=by simp only[eval];rw[Yb a fun j p=>h j (by simp[E.asks,p]),Yb b fun j p=>h j (by simp[E.asks,p]),Yb d fun j p=>h j (by simp[E.asks,p])]):p:=h
theorem Z5D{p:Prop}(h:p:=by simp only[eval];rw[TT l fun j p=>h j (by simp[E.asks,p])]):p:=h
theorem Z62{p:Prop}(h:p:=by cases b<;>simp[V.same]at h):p:=h
theorem Z5F{p:Prop}(h:p:=by simp_all[XA,UK,Bool.or_true]):p:=h
theorem Z5J{p:Prop}(h:p:=by simp_all[XA,UK,Bool.true_or,Bool.or_true]):p:=h
theorem Z5u{p:Prop}(h:p:=by cases h):p:=h
def Z9D:=@Nat.div_lt_iff_lt_mul
def Z9k:=@Nat.mod_lt
def Z8B:=@List.isEmpty_iff
def Z7B:=@List.map_nil
def Z7J:=@congrArg
def Z9g:=@Nat.mul_le_mul
def Z6z:=@Bool.or_eq_true
def Z8a:=@Array.getElem?_eq_getElem
def Z9z:=@List.length_replicate
def Z9d:=@List.exists_mem_of_ne_nil
def Z8A:=@List.mem_range
def Z6m:=@Go.RowKit.Below.heap_alloc
def Z70:=@List.nil_append
def Z9G:=@Go.growslice_fits
def Z7e:=@Go.World.ownsRow_nil
def Z7K:=@if_false
def Z9L:=@ne_eq
def Z8v:=@Go.Result.andThen_ok
def Z7j:=@Array.toList_inj
def Z6i:=@Nat.le_refl
def Z8Z:=@Go.MapKept.sameNow_of_keys
def Z97:=@Go.MapKept.run_checkKey
def Z8Y:=@Go.MapKept.run_findKey
def Z7Q:=@Go.MapKept.run_getObj_map
def Z9O:=@not_or
def Z76:=@List.mem_cons_of_mem
def Z8I:=@List.mem_filterMap
def Z9M:=@List.map_map
def Z8d:=@Ne.symm
def Z8C:=@List.not_mem_nil
def Z9P:=@or_false
def Z8W:=@bne_iff_ne
def Z8D:=@Array.length_toList
def Z7Y:=@Go.setRow_other
def Z9H:=@Go.setRow_heap
def Z7F:=@List.length_singleton
def Z6X:=@List.getElem?_eq_none
def Z6Z:=@List.mem_or_eq_of_mem_set
def Z7b:=@List.getElem?_set_self
def Z6W:=@List.getElem?_set_ne
def Z7D:=@Bool.not_eq_true'
def Z8N:=@Bool.not_eq_false
def Z8E:=@beq_eq_false_iff_ne
def Z9s:=@List.length_drop
def Z8L:=@Go.MapKept.run_setObj_map
def Z6N:=@Array.getElem?_eq_some_iff
def Z6I:=@Array.getElem?_modify
def Z7M:=@List.any_eq_true
def Z8e:=@List.contains_eq_mem
def Z84:=@Go.Calls.mono
def Z9u:=@Option.map_eq_none_iff
def Z7S:=@List.filterMap_cons
def Z9e:=@List.getElem?_zip_eq_some
def Z8f:=@List.getElem?_zipIdx
def Z8w:=@Array.getElem?_append_left
def Z8X:=@Array.getElem?_append_right
def Z8m:=@List.getElem?_cons_zero
def Z8u:=@Bool.true_and
def Z8r:=@List.mem_iff_getElem?
def Z92:=@List.mem_filter
def Z9w:=@Go.mem_ready
def Z9y:=@List.length_filter_le
def Z7w:=@List.map_congr_left
def Z8U:=@List.mem_flatMap
def Z7r:=@List.mem_append_left
section
namespace Vm
open Go
open Go.RowKit (Below)
theorem yi{k l}(a:∀x∈l,x.ah k)(h:0<k){i c}(f:(flat l)[i]?=J c):∃q j z,l[q]?=J z/\j<k/\i=q*k+j/\z.cells[j]?=J c:=by
 have d:i<I l*k:=by rw[<-Te a];exact(Z6d.1 f).1
 have o:i / k<I l:=by rw[Z9D h];exact d
 have g:=Z9k i h;have n:=Nat.div_add_mod i k;refine⟨i / k,i%k,l[i / k],Z1,g,Z5h,?_⟩;rw[<-UO a (Z6b o) _ g,show i / k*k+i%k=i from by grind];exact f
section
variable {c:Ctx}{B:Nat}{G:Nat->Prop}{s:St}{a:Act}{w w':World}{h:GH}{g:Gam}{C:ZI}
theorem Su{P a}(d:VN P a=xk):∃i z,P.info? a=J i/\i.zero=J z/\z.cells.size=i.size/\0<i.size/\i.bytes<=32768/\P.cellsOf a=i.size:=by
 unfold VN at d;split at d;rename_i i f;split at d;simp_all[Z6l,Z71,Z6J,Program.cellsOf];grind;grind
theorem qA{B B' e k n v xs}(d:w.ownsRow B' e k v n xs)(h:B<=B'):w.ownsRow B e k v n xs:=by
 refine⟨d.1,?_⟩;obtain j|⟨g,cap,a,rfl,f,r⟩:=d.2;grind;exact .inr ⟨g,cap,a,rfl,Z0,r⟩
theorem qq(a:Ok B G w h)(g:w.grownBy w' U){R e sh l v xs}(he:eval s e=J (.sl l))(hk:0<c.P.cellsOf R)(r:∀x∈l,x.ah<|c.P.cellsOf R)
  (z:w'.ownsRow (xz<|xj w) R (c.P.cellsOf R) v (I l) xs) (Y:∀(i:Nat) C,(flat l)[i]?=J C->∃u,xs[i]?=J u/\Rd w (h.ext sh) C u)
  {S k es} (O:T4 c S R e sh=J (k,es)) tm d (hd:S=J d):PRes c B G s w h tm d k v w':=by
 subst hd;unfold T4 at O;have A:=qA z a.V;have W:=M8 a sh;simp only at O;split at O
 .rename_i o;simp[Z6l,Z8B]at o;obtain⟨_,rfl⟩:=o;simp[Z6c,Z6t]at O;obtain⟨rfl,rfl⟩:=O;have Z:∀ {h':GH},(∀b,h.F b->h'.F b)->∀(i:Nat) C,(flat l)[i]?=J C->∃u,xs[i]?=J u/\Rd w' h'.F C u:=by
   intro h' hF i C N;let⟨u,hu,hr⟩:=Y i C N;exact⟨u,hu,hr.F.keep (jH a g a.cd) hF⟩
  cases hv:v.ownBlock with
  |none=>
   refine⟨{F:=h.F,bl:=λt j=>if t=d then U else h.bl t j,K:=h.K},⟨Rv a g,λb f _=>g.block b f Z1,Z1,λt ht _=> ?_,λt ht=> ?_,Z1,rfl⟩,
    ⟨Z6H a.V g.size,λb f=>Z6o (a.cd b f) g.size,a.dl,a.gs,λt j b f=> ?_,λt j u q b f H=> ?_,λb f=>Z6o (a.cw b f) g.size,λt j b f=> ?_,a.fw⟩,.sl l,he,.inl ⟨l,xs,rfl,hk,r,A,Z5h,Z5i⟩⟩
   simp_all;simp_all;simp only at f;split at f;cases f;let⟨L,M,h3⟩:=a.ax t j b f;exact⟨L,Z6o M g.size,h3⟩
   .simp only at f H;split at f<;>split at H<;>first|(cases f;done)|(cases H;done)|exact a.inj t j u q b f H
   simp only at f;split at f;cases f;exact a.cl t j b f
  |some n=>
   let⟨L,M⟩:=z.lt n hv;let⟨y,Q⟩:=LZ a g d 1 L M;exact⟨_,Q,y,.sl l,he,.inl ⟨l,xs,rfl,hk,r,A,by grind [GH.fo],Z λ_ f=>f⟩⟩
 simp[Z6c,Z6t]at O;obtain⟨rfl,rfl⟩:=O;obtain⟨rfl,hn⟩|⟨n,cap,D,rfl,L,hh,X,T,a0,a1⟩:=z.2;have hl:l=[]:=Z5i;subst hl
 refine⟨h,⟨Rv a g,λb f _=>g.block b f Z1,Z1,Z1,Z1,Z1,rfl⟩,
  ⟨Z6H a.V g.size,λb f=>Z6o (a.cd b f) g.size,a.dl,a.gs,λt j b f=> ?_,a.inj,λb f=>Z6o (a.cw b f) g.size,a.cl,a.fw⟩,.sl [],he,.nil _ _ Z0⟩
 let⟨L,M,h3⟩:=a.ax t j b f;exact⟨L,Z6o M g.size,h3⟩;have M:n<xz (xj w'):=Z5h;let⟨y,Q⟩:=Z0P a g [d] [d] L M;refine⟨_,Q,y,.sl l,he,.sl l n 0 cap _ (λi=>D.getD i xy) X T (.inl<|.inr rfl) r (λi N=> ?_) λi C N=> ?_⟩;rw[Z6V,Z6j w' n i D R _ hh];have:i<D.size:=by rw[a0];exact Z6o N<|Z6T _ X
 simp_all;let⟨u,hu,hr⟩:=Y i C N;have a2:D.getD i xy=u:=by
  rw[<-a1,Z6O]at hu;split at hu;simp_all;simp at hu
 rw[a2];refine hr.keep (jH a g W) λb f=> ?_;obtain f|⟨p,hp,i,N⟩:=f;exact .inl<|.inl f;exact .inr ⟨p,hp,i,N⟩
theorem D9(u:RelG c B G s a w h g)(q:holds s<|ZK c C){fl ag n}(t:n≠0):∀ {l} {d:List E×List Nat},Jp g C fl l=J d->∀ {zs},YB s (d.1.map<|WL ag n)=J zs->
  I zs=I l/\∀(i:Nat) x,l[i]?=J x->∃z,zs[i]?=J z/\(∀l,z≠.am l)/\(ag=xk->I z.cells=n)/\(ag=xw->z.aj=xk)/\Rd w (h.ext d.2) z (a.eval x)
 | [],d,j,zs,k=>by
   simp[Jp,Z6c]at j;subst j;simp[Z7B,YB,Z6c]at k;subst k;exact⟨rfl,Z1⟩
 |x::l,d,j,zs,k=>by
  simp only[Jp,Z6a,Z6f]at j;obtain⟨T,M,b,f,rfl⟩:=j;simp[Z6R,YB,Z6a,Z6f]at k;obtain⟨z,o,S,p,rfl⟩:=k;let⟨K,L⟩:=D9 u q t f p;let⟨N,O,P,Q⟩:=yM u q M t o;refine⟨by simp[K],λi y r=> ?_⟩;cases i with
  |zero=>
   simp at r;subst r;exact⟨z,Z1,N,O,P,Q.mono λb f=>GH.kl f⟩
  |succ i=>
   let⟨R,W,A,D,F,H⟩:=L i y Z5h;exact⟨R,Z5h,A,D,F,H.mono λb f=>GH.iu f⟩
theorem P5(hr:RelG c B G s a w h g)(hC:holds s<|ZK c C){T n}{parts:Array (Nat×Operand)}{a2 k es}(f:qU c g C a2 T n parts.toList=J (k,es))(b4:∀e∈es,∃z,eval s e=J z)tm d(hd:a2=J d):
  ∃v w',(Instr.buildSlice T n<|parts.map λ(i,x)=>(i,a.eval x)).run c.P w=.ok v w'/\PRes c B G s w h tm d k v w':=by
 unfold qU at f;split at f;rename_i A hT;have b2:=Qn hT;simp only[Z6a]at f;let⟨ops,a5,f⟩:=f;split at f;rename_i S;let⟨K,hn,d1,b3,Q⟩:=S;let⟨i,z,hi,c1,d4,h0,d0,W⟩:=Su b3;have he:∃zz,eval s (.lit<|ops.1.map<|WL (Y9 c.P A)<|c.P.cellsOf A)=J zz:=by
  unfold T4 at f;subst hd;simp only at f;split at f<;>(simp only[Z6c,Z6t]at f;obtain⟨_,rfl⟩:=f;exact b4 _<|List.Mem.head _)
 let⟨zz,a1⟩:=he;have b0:=a1;simp only[eval,Z6f]at a1;obtain⟨zs,a9,rfl⟩:=a1;let⟨hl,hx⟩:=D9 hr hC Z0 a5 a9;have L:I parts.toList=n:=by
  have:=Z7J List.length K;simpa using this
 have b6:I zs=n:=by rw[hl,Z6D,L]
 have Z:∀q (p:Nat×Operand),parts.toList[q]?=J p->p.1=q:=by
  intro q p N;have h1:(parts.toList.map (·.1))[q]?=J p.1:=Z5h;rw[K,List.getElem?_range]at h1;simp_all;grind
 have X:∀z,(∀l,z≠V.am l)->(Y9 c.P A=xk->I z.cells=c.P.cellsOf A)->(Y9 c.P A=xw->z.aj=xk)->I z.cells=c.P.cellsOf A:=by
  intro z h1 h2 h3;obtain Q|Q:=Q;grind;grind [Y9,UY]
 have u:∀(q:Nat) p,parts.toList[q]?=J p->∃z,zs[q]?=J z/\z.ah (c.P.cellsOf A)/\(a.eval p.2).cells.size=c.P.cellsOf A/\∀j ck,z.cells[j]?=J ck->Rd w (h.ext ops.2) ck ((a.eval p.2).cells.getD j xy):=by
  intro q p N;let⟨z,O,e2,e3,e4,e5⟩:=hx q p.2 Z5h;let⟨s1,s2,s3⟩:=e5.cells e2;have hc:=X z e2 e3 e4;exact⟨z,O,⟨hc,s2⟩,by rw[s1,hc],s3⟩
 have H:∀x∈zs,x.ah<|c.P.cellsOf A:=by
  intro x b9;let⟨q,N⟩:=Z6A b9;have t:q<I parts.toList:=Z5h;let⟨z,O,e2,_⟩:=u q _<|Z6b t;rw[N]at O;cases O;exact e2
 have D:((Array.range<|n*i.size).map<|λx=>z.cells[x%z.cells.size]!).size=n*i.size:=Z1
 let⟨R,hR,a4,_,a3⟩:=ye (λq=>J (q*i.size,i.size)) (parts.toList.map λp=>(p.1,a.eval p.2)) ((Array.range<|n*i.size).map<|λx=>z.cells[x%z.cells.size]!) (by
  intro p f;obtain⟨p',Y,rfl⟩:=Z6F.1 f;let⟨q,N⟩:=Z6A Y;let⟨_,_,_,e3,_⟩:=u q p' N;have a6:=Z q p' N;have t:q<n:=Z5h;refine⟨p'.1*i.size,Z5h,?_⟩;simp only;rw[e3,W,a6,D,<-Z7s];exact Z6T _ t)
 rw[D]at a4;have c2:¬(n*i.size>2 ^ 24):=by
  have:n*i.size<=256*256:=Z9g Z0 Z0;omega
 have F:n*i.size=0\/n*i.size≠0:=Z0;have a7:(Instr.buildSlice T n<|parts.map λ(i,x)=>(i,a.eval x)).run c.P w=.ok (.slice (J ⟨xz<|xj w,0,U⟩) n n) (w.alloc<|.cells R A):=by
  have a0:¬(16777216<n*i.size):=Z0;obtain F|F:=F;have b7:n=0:=by
   obtain hh|hh:=Nat.mul_eq_zero.1 F;exact hh;omega
  subst b7;have b8:parts=#[]:=by
   have:parts.size=0:=by simpa using L
   exact Z78 this
  subst b8;have c7:R=#[]:=by
   have:R.size=0:=by simpa using a4
   exact Z78 this
  simp_all[Instr.buildSlice,Z6M,VH,Instr.fill,newRow,Array.range_zero'];simp[Instr.buildSlice,Z6M b2,VH hi,a0,F,LO hi c1,hR,newRow]
 refine⟨_,_,a7,?_⟩;have hg:=Z7o w (.cells R A) U;have M:=World.ownsRow_lit (base:=xz<|xj w) (e:=A) (size:=c.P.cellsOf A) w R n Z0 (by grind [maxLen]) Z5h;rw[<-b6]at M⊢;refine qq hr.ok hg b0 Z0 H M (λj ck hj=> ?_) f tm d hd;obtain⟨q,r,y,N,d3,rfl,c0⟩:=yi H Z0 hj;have t:q<I parts.toList:=Z5h;let⟨y',O,e2,e3,e4⟩:=u q _<|Z6b t;rw[N]at O;cases O;have a6:=Z q _<|Z6b t;obtain⟨pre,b1,d2⟩:∃pre b1,parts.toList=pre++parts.toList[q]::b1:=List.append_of_mem<|Z6E t;have a8:(a.eval parts.toList[q].2).cells.size=i.size:=by rw[e3,W]
 have b5:=a3 ((parts.toList.take q).map λp=>(p.1,a.eval p.2)) (parts.toList[q].1,a.eval parts.toList[q].2) ((parts.toList.drop<|q+1).map λp=>(p.1,a.eval p.2)) (by
  grind [List.drop_eq_getElem_cons,List.take_append_drop]) (q*i.size) Z5h (by
  intro p f o n' ho;obtain⟨p',Y,rfl⟩:=Z6F.1 f;let⟨m,hm⟩:=Z6A Y;rw[Z6C]at hm;have:=Z _ _ hm;simp only[Z6c,Z6t]at ho;obtain⟨rfl,rfl⟩:=ho;left;simp only;rw[a8,this,<-Z7s];grind) r Z5h
 refine⟨(a.eval parts.toList[q].2).cells.getD r xy,?_,e4 r ck c0⟩;rw[Z7n,W,b5];simp only[Z6g];grind;grind;grind
theorem Z17 z n(a:0<z.size)j(d:j<n):(madeCells z n).toList[j]?=z[j%z.size]? :=by
 simp_all[Z9k,madeCells]
theorem Z0e(l:RelG c B G s a w h g){n m}(d:jG n m=xk){k q}(j:a.eval n=.int k q):∃f,a.eval m=.int f q:=by
 unfold jG at d;split at d;simp_all;simp_all[Z71,Act.eval,Value.int.injEq];cases d
theorem Pg(hr:RelG c B G s a w h g)(hC:holds s<|ZK c C){T n m X k es}(o:jb c g C X T n m=J (k,es))(b0:∀e∈es,∃z,eval s e=J z)tm d(hd:X=J d):
  ∃v w',(Instr.makeSlice T (a.eval n)<|a.eval m).run c.P w=.ok v w'/\PRes c B G s w h tm d k v w':=by
 unfold jb at o;split at o;rename_i t hT;have a6:=Qn hT;simp only[Z6a]at o;let⟨R,hz,⟨e,sh⟩,he,o⟩:=o;split at o;rename_i F;simp only[Z6l,Z6z,Z71]at F;let⟨⟨b7,a9⟩,A⟩:=F;let⟨i,z,hi,a3,d0,h0,a7,a8⟩:=Su a9;let⟨i',z',Z,M,H,f⟩:=Ah hz;rw[hi]at Z;cases Z;rw[a3]at M;cases M;have b1:∃zz,eval s (.mk (if Y9 c.P t then .agg R else R.headD<|.agg []) e)=J zz:=by
  unfold T4 at o;subst hd;simp only at o;split at o<;>(simp only[Z6c,Z6t]at o;obtain⟨_,rfl⟩:=o;exact b0 _<|List.Mem.head _)
 let⟨zz,l⟩:=b1;have a5:=l;let⟨y,hy,b9⟩:=Wv hr hC he;simp only[eval,hy,Z6s]at l;generalize c1:(if Y9 c.P t then V.agg R else R.headD<|.agg [])=zv at*;unfold J9 at l;split at l;rename_i ki q;split at l;rename_i hq;let⟨b5,b6⟩:=hq;obtain⟨q,rfl⟩:=Z6q b5;simp only[Z6c,Z6p]at l;subst l;have a0:q<=4294967296:=by simp only[Ye]at b6;omega
 have hn:=b9.int_eq;let⟨k',hm⟩:=Z0e hr b7 hn;rw[hn,hm];have hb:i.bytes*q<=281474976710656:=by
  have:=Z9g a7 a0;omega
 let⟨w',a1,L,hg⟩:=run_make_full (P:=c.P) w (xz<|xj w) T t i z i.size a6 hi a3 rfl ki k' q hb (by grind [maxLen]) Z0;refine⟨_,_,a1,?_⟩;have a4:zv.cells=R:=by
  rw[<-c1];obtain A|A:=A;rw[Z6k A];rfl;split;rfl;have h1:=A
  match R,h1,f,H with
  | [x],_,f,H=>
    simp only[List.headD_cons];let⟨x',Q,S⟩:=f 0 (z.cells[0]'Z0) Z1;grind [UY,zP]
 have D:∀(j:Nat) (N:V),R[j]?=J N->∃u,z.cells[j]?=J u/\WP u=J N:=by
  intro j N W;have b2:j<z.cells.size:=by rw[H];exact(Z6d.1 W).1
  let⟨x',Q,S⟩:=f j _<|Z8a b2;rw[W]at Q;cases Q;exact⟨_,Z1,S⟩
 have c0:zv.ah<|c.P.cellsOf t:=by
  refine⟨Z5i,λN Y=> ?_⟩;rw[a4]at Y;let⟨j,W⟩:=Z6A Y;let⟨u,_,S⟩:=D j N W;exact zP S
 have K:∀x∈List.replicate q zv,x.ah<|c.P.cellsOf t:=Z5i;rw[<-a8]at L;have O:w'.ownsRow (xz<|xj w) t (c.P.cellsOf t) (.slice (J ⟨xz<|xj w,0,U⟩) q q) (I<|List.replicate q zv) (madeCells z.cells<|q*c.P.cellsOf t).toList:=by rw[Z9z];exact L
 refine qq hr.ok hg a5 Z0 K O (λj N W=> ?_) o tm d hd;obtain⟨p,r,y',b3,c7,rfl,a2⟩:=yi K Z0 W;have b4:p<q:=by simpa using(Z6d.1 b3).1
 have b8:y'=zv:=Z5i;subst b8;rw[a4]at a2;let⟨u,hu,S⟩:=D r N a2;refine⟨u,?_,Kt S _ _⟩;have c2:p*c.P.cellsOf t+c.P.cellsOf t<=q*c.P.cellsOf t:=by rw[<-Z7s];exact Z6T _ b4
 grind [Z17,Nat.mul_comm,Nat.mul_add_mod,Nat.mod_eq_of_lt];grind;grind;grind;grind
end
end Vm
namespace Vm
open Go
open Go.RowKit (Below)
open Go.MapKept (IsKey bytes_beq sameNow_of_keys run_checkKey run_findKey run_keyThatStays)
section
variable {c:Ctx}{B:Nat}{G:Nat->Prop}{s:St}{a:Act}{w w':World}{h:GH}{g:Gam}{C:ZI}
theorem Z02{P t ty e i}(h:P.underlying t=J (.slice e))(f:P.info? e=J i){size v n xs}(a:w.ownsRow B e size v n xs)j:
  (Builtin.append_ #[t,t] ty #[v,.slice U 0 j]).run P w=.ok v w:=by
 obtain⟨rfl,rfl⟩|⟨g,cap,k,rfl,_,_,d,_⟩:=a.2;simp[Builtin.append_,Z6M h,Go.sizeOf,typeInfo,f,Builtin.lenOf,Builtin.firstCells];simp[Builtin.append_,Z6M h,Go.sizeOf,typeInfo,f,Builtin.lenOf,Builtin.firstCells,d,storeCells]
theorem JL{P t ty e}(T:P.underlying t=J (.slice e))(a3:VN P e=xk){v n xs}(d:w.ownsRow B e (P.cellsOf e) v n xs)(hB:B<=xz (xj w))
  {Gy l y} (hy:Rd w Gy (.sl l) y) (hk:Xy (P.cellsOf e) l=xk) (H:n+I l<=Ye):
  ∃Y w' a,(Builtin.append_ #[t,t] ty #[v,y]).run P w=.ok Y w'/\w'.ownsRow B e (P.cellsOf e) Y (n+I l) (xs++a)/\w.grownBy w' v.ownBlock/\
   (Y.ownBlock=v.ownBlock\/(w.grownBy w' U/\w'.ownsRow (xz<|xj w) e (P.cellsOf e) Y (n+I l) (xs++a)))/\
   (∀x∈l,x.ah<|P.cellsOf e)/\∀(i:Nat) G,(flat l)[i]?=J G->∃u,a[i]?=J u/\Rd w Gy G u:=by
 obtain⟨i,z,D,hz,a9,h0,a1,O⟩:=Su a3;have a7:=Fe hk
 have S:(∃q,y=.slice U 0 q/\l=[])\/∃C q,∃a:List Value,y=.slice (J C) (I l) q/\I a=I l*P.cellsOf e/\(∀j u,a[j]?=J u->w.cell? (C.add j)=J u)/\(∀u∈a,u.oneCell'=xk)/\
   (∀x∈l,x.ah<|P.cellsOf e)/\∀(i:Nat) (G:V),(flat l)[i]?=J G->∃u,a[i]?=J u/\Rd w Gy G u:=by
  cases hy with
  |nil C q hc=>
   obtain _|C:=C;simp;exact .inr ⟨C,q,[],rfl,Z1,Z1,Z1,Z1,λi G D=>by simp[flat]at D⟩
  |sl _ b o cap kk vs h1 h2 h3 X h5 h6=>
   refine .inr ⟨⟨b,o,U⟩,cap,(List.range<|I l*P.cellsOf e).map vs,rfl,Z1,?_⟩;by_cases Q:l=[];simp_all[flat];obtain⟨x,hx⟩:=Z9d l Q;have a5:kk=P.cellsOf e:=by rw[<-(X x hx).1,a7 x hx]
   subst a5;have a6:=Te X;refine⟨λj u hj=> ?_,λu hu=> ?_,X,λi G D=> ?_⟩;grind [List.getElem?_eq_some_iff,Addr.add_lit];obtain⟨j,hj,rfl⟩:=Z6F.1 hu;have b3:=Z8A.1 hj;have hf:(flat l)[j]?=J ((flat l)[j]'Z0):=Z1;have M:=h6 j _ hf;rw[M.ir];obtain⟨x,hx,a2⟩:=Mh hf;exact(X x hx).2 _ a2;grind
 obtain⟨q,rfl,rfl⟩|⟨C,q,a,rfl,Q,p,h1,A,K⟩:=S;refine⟨v,w,[],Z02 T D d q,Z5i,⟨rfl,rfl,rfl,Z0,Z1⟩,.inl rfl,Z1,λi G D=>by simp[flat]at D⟩;simp only[Ye]at H;have a0:n+I l<=maxLen:=by grind [maxLen]
 have F:(n+I l)*i.bytes<=140737488355328:=by
  have:(n+I l)*i.bytes<=4294967296*32768:=Z9g H a1;omega
 have R:I (xs++a)=(n+I l)*P.cellsOf e:=by rw[Z6L,d.1,Q,Nat.add_mul]
 have r:∀(f:Nat),f<n+I l->∀(row:Option Nat) (W:Array Value),W=xs.toArray++a.toArray->
   (w.drew.alloc<|.cells (W++Builtin.zeroCells z.cells (grownCap w (n+I l) f e- (n+I l))) e).ownsRow (xz<|xj w) e (P.cellsOf e)
    (.slice (J ⟨xz<|xj w,0,U⟩) (n+I l)<|grownCap w (n+I l) f e) (n+I l) (xs++a)/\
   w.grownBy (w.drew.alloc<|.cells (W++Builtin.zeroCells z.cells (grownCap w (n+I l) f e- (n+I l))) e) row:=by
  rintro f ho row W rfl;have a4:=grownCap_ge w (n+I l) f e;have N:grownCap w (n+I l) f e<=maxLen:=grownCap_le_maxLen w (n+I l) f e a0;refine⟨⟨R,.inr ⟨xz<|xj w,_,_,rfl,Z0,Z6u w.drew _,a4,N,?_,?_⟩⟩,⟨rfl,rfl,rfl,Z1,λk hk _=>Z6m w.drew _ k hk⟩⟩;simp only[Array.size_append,Z7y,size_zeroCells,a9,d.1,Q,O,<-Nat.add_mul];simp_all;grind
 obtain⟨rfl,rfl⟩|⟨g,cap,b1,rfl,b2,hg,b4,N,b0,a8⟩:=d.2;have hx:xs=[]:=Z5i;subst hx;by_cases hm:I l=0;have hn:a=[]:=Z5i;subst hn;refine⟨.slice U 0 0,w,[],?_,Z5i,⟨rfl,rfl,rfl,Z0,Z1⟩,.inl rfl,A,K⟩;simp[Builtin.append_,Z6M T,Go.sizeOf,typeInfo,D,Builtin.lenOf,hm,Builtin.firstCells,loadCells,loadCellsFrom];have M:=run_append_nil (P:=P) w t ty e i z T D hz C (I l) q a Z5h p Z0 Z0 Z5h;have h:=r 0 Z0;simp only[Z6V,Z70]at h⊢;obtain⟨Z,g2⟩:=h U a.toArray Z1;grind [qA];by_cases L:n+I l<=cap;obtain⟨w',M,ho,h⟩:=run_append_fits (P:=P) w B t ty e i (P.cellsOf e) T D O.symm g n cap xs d C (I l) q a Q p h1 L;exact⟨_,_,a,M,ho,h,.inl rfl,A,K⟩;have holds:∀j u,xs[j]?=J u->w.cell? ((⟨g,0,U⟩:Addr).add j)=J u:=d.cells (g:=g) rfl;have M:=run_append_grow (P:=P) w t ty e i z T D hz ⟨g,0,U⟩ n cap xs Z5h holds C (I l) q a Z5h p Z0 Z0<|Z9G Z0 F;have h:=r cap Z0;obtain⟨Z,g2⟩:=h U _ rfl;exact⟨_,_,a,M,qA Z hB,(h _ _ rfl).2,.inr ⟨g2,Z⟩,A,K⟩
theorem Rs{k x y z}(a:So k x y=J z):∃l r,x=.sl l/\y=.sl r/\I l+I r<=Ye/\Xy k r=xk/\z=.sl (l++r):=by
 unfold So at a;split at a;simp_all;grind
theorem Mo{x z}(a:ym x=J z):x=z/\∃l,z=.sl l/\∀y∈Vm.flat l,y.bq=xk:=by
 unfold ym at a;split at a;rename_i l;split at a;rename_i d;simp[Z6c]at a;exact⟨a,l,a.symm,Z5i⟩;grind;grind
theorem Bh(A:RelG c B G s a w h g)(q:holds s<|ZK c C){x j}(hx:Yy g C x=J j){fl z}(d:eval s (TR fl j).1=J z):
  ∃o,Rd w o z (a.eval x)/\∀l,z=.sl l->∀(i:Nat) f u,(flat l)[i]?=J f->Rd w o f u->Rd w (h.ext (TR fl j).2) f u:=by
 obtain⟨y,F,n⟩:=Wv A q Z0;unfold TR at d⊢;split;grind;rename_i r;rw[Z6h r]at d;split;rename_i k;rw[Z6k k]at d;simp[eval,F]at d;obtain⟨rfl,l,rfl,p⟩:=Mo d;refine⟨_,n,λK t i f u H D=> ?_⟩;exact D.io Z5h;grind
theorem OI{a d}(l:a=J d){j e sh k h}(f:T4 c a j e sh=J (k,h))(g:∀e∈h,∃z,eval s e=J z):∃z,eval s e=J z:=by
 unfold T4 at f;subst l;simp only at f;split at f<;>(simp[Z6t]at f;obtain⟨_,rfl⟩:=f;exact g _<|List.Mem.head _)
theorem P1(M:RelG c B G s a w h g)(S:holds s<|ZK c C){T P ty x y l k D}(f:qQ c g C l T P x y=J (k,D))(K:∀e∈D,∃z,eval s e=J z)Z d(W:l=J d):
  ∃v w',(Builtin.append_ #[T,P] ty #[a.eval x,a.eval y]).run c.P w=.ok v w'/\PRes c B G s w h Z d k v w':=by
 unfold qQ at f;split at f;rename_i o hT;have F:=Qn hT;split at f;rename_i n;obtain⟨rfl,p⟩:=n;split at f;rename_i hk;simp only[Z6a]at f;let⟨R,hb,f⟩:=f;rw[Q5 M S hk];have t:T4 c l o (.ct (.c<|.sl []) (TR (XB c.P o) R).1<|c.P.cellsOf o) (TR (XB c.P o) R).2=J (k,D):=by
  split at f;grind;exact f
 let⟨z,A⟩:=OI W t K;have a4:=A;simp[eval,Z6s,Z6a]at A;let⟨yy,Q,A⟩:=A;obtain⟨l0,r,a2,rfl,X,O,rfl⟩:=Rs A;let⟨G',N,H⟩:=Bh M S hb Q;let⟨i,zz,hi,a5,a6,h0,a0,a1⟩:=Su p;let⟨v',w',Y,u,j,hg,a3,q,L⟩:=JL (ty:=ty) F p (Z7e w (xz<|xj w) o _) Z0 N O Z0;refine⟨v',w',u,?_⟩;simp[Z6V,Z70]at j
 exact qq M.ok hg Z5i Z0 q j (λi ck hi=>by
  grind) t Z d W
 grind;grind;grind
def WH(f:RelG c B G s a w h g)(d:holds s<|ZK c C){x b}(j:Yy g C x=J b):=Wv f d Z0
def PRun(c:Ctx)(B:Nat)(G:Nat->Prop)(s:St)(a:Act)(w:World)(h:GH)(o:Oper)(d:Nat)(k:TK):Prop:=
 ∃v w',(execOp a.eval o).run c.P w=.ok (.value v) w'/\PRes c B G s w h (λp=>a.tmps[p]?) d k v w'
theorem PRun.of{o d k m}(l:execOp a.eval o=(do pure (.value<|<-m)))(j:∃v w',m.run c.P w=.ok v w'/\PRes c B G s w h (λp=>a.tmps[p]?) d k v w'):PRun c B G s a w h o d k:=by
 let⟨v,w',g,f⟩:=j;exact⟨v,w',Z5i,f⟩
theorem Has.pr(j:Ok B G w h){o d k m}(l:execOp a.eval o=(do pure (.value<|<-m)))(g:Has c B s w h (λp=>a.tmps[p]?) d k m):PRun c B G s a w h o d k:=by
 let⟨v,f,n⟩:=g;grind [PRun.of,PRes.ap]
theorem Kz{s e aq_ o z}(h:eval s e=J (.agg aq_))(a:eval s (.ac e o)=J z):aq_[o]?=J z:=by
 simp_all[eval,Z6s,Ya,V.pc,Z6a,YS]
def Vo(P:Program)(T:TypeId)(vs:Array Value)(o:Nat):Value:=if Y9 P T then .agg (vs.extract o<|o+P.cellsOf T)else vs.getD o xy
theorem Mw{vs:Array Value}{o n i}(a:i<n)(h:o+n<=vs.size):(vs.extract o<|o+n).getD i xy=vs.getD (o+i) xy:=by
 simp[Z9t];simp_all
theorem Eb{P T vs o n q}(h:o+n<=vs.size)(d:q+P.cellsOf T<=n)(a:P.cellsOf T≠0):Vo P T (vs.extract o<|o+n) q=Vo P T vs (o+q):=by
 grind [Vo,Mw]
theorem M5{P a b e}:∀d T o,VO P a b d T o=J e->P.cellsOf T≠0/\(P.underlying T).isSome=xk
 |0,_,_,h=>by simp[VO]at h
 |d+1,T,o,h=>by
  grind [VO]
theorem EY{P s K L aq_ H xs ys G' G''}(O:eval s K=J (.agg aq_))(Q:eval s L=J (.agg H))(X:xs.size=I aq_)(Z:ys.size=I H)
  (hx:∀i c,aq_[i]?=J c->Rd w G' c (xs.getD i xy)) (Y:∀i c,H[i]?=J c->Rd w G'' c (ys.getD i xy)):∀d D T o e z,d<=D->o+P.cellsOf T<=xs.size->o+P.cellsOf T<=ys.size->VO P K L d T o=J e->eval s e=J z->
  ∃r,(Op.equalIn (D+1) T (Vo P T xs o)<|Vo P T ys o).run P w=.ok r w/\z=.bool r
 |0,D,T,o,e,z,_,_,_,a,j=>by simp[VO]at a
 |d+1,D,T,o,e,z,hD,R,S,a,j=>by
  simp[VO]at a;split at a
  .rename_i k;split at a;case isFalse=>cases a
   simp[Z6c]at a;subst a;simp[eval,Z6a]at j;let⟨u,hu,v,hv,g⟩:=j;have p:=Kz O (z:=u) (o:=o) Z5M;have A:=Kz Q (z:=v) (o:=o) Z5M;have M:=hx o u p;have N:=Y o v A;have h:Y9 P T=xw:=by simp[Y9,k]
   simp only[Vo,h,Z73,Z7K];generalize xs.getD o xy=vx at*;generalize ys.getD o xy=vy at*;cases M<;>cases N<;>simp[TS]at g<;>(try (simp at g;done))
   simp_all[Z6c,run_equalIn_bool]
  .rename_i q k;split at a;case isFalse=>cases a
   simp[Z6c]at a;subst a;simp[eval,Z6a]at j;let⟨u,hu,v,hv,g⟩:=j;have p:=Kz O (z:=u) (o:=o) Z5M;have A:=Kz Q (z:=v) (o:=o) Z5M;have M:=hx o u p;have N:=Y o v A;have h:Y9 P T=xw:=by simp[Y9,k]
   simp only[Vo,h,Z73,Z7K];generalize xs.getD o xy=vx at*;generalize ys.getD o xy=vy at*;cases M<;>cases N<;>simp[X2]at g<;>(try (simp at g;done))
   simp_all[Z6c,run_equalIn_int]
  .rename_i fs k;split at a;case isFalse=>cases a
   rename_i n;let⟨a0,h0,W⟩:=n;have h:Y9 P T=xk:=by simp[Y9,k]
   have F:P.fieldsOf T=fs:=by unfold Program.fieldsOf;rw[k]
   simp only[Vo,h,Z7m];obtain⟨B,rfl⟩:∃B,D=B+1:=⟨D-1,Z0⟩
   have key:∀l e z,Rx P (VO P K L d) (P.cellsOf T) o l=J e->eval s e=J z->
     ∃r,(Op.eqFields (B+1) (xs.extract o<|o+P.cellsOf T) (ys.extract o<|o+P.cellsOf T) l).run P w=.ok r w/\z=.bool r:=by
    intro l;induction l with
    |nil=>
     intro e z a j;simp[Rx,Z6c]at a;subst a;simp_all[eval,Z6c,Op.eqFields]
    |cons f l ih=>
     intro e z a j;simp only[Rx]at a;split at a;case isFalse=>cases a
     rename_i hc;let⟨hn,ho⟩:=hc;simp[Z6a,Z6f]at a;obtain⟨x,C,y,a1,rfl⟩:=a;simp[eval,Z6a]at j;let⟨zx,g,j⟩:=j;let⟨G,cu⟩:=M5 d f.type _ C;obtain⟨t,ht,rfl⟩:=EY O Q X Z hx Y d B f.type (o+f.offset) x zx Z0 Z0 Z0 C g;have p1:(part f.type (xs.extract o<|o+P.cellsOf T) f.offset).run P w=.ok (Vo P f.type xs<|o+f.offset) w:=by
      rw[<-Eb R ho G];exact jD (w:=w) (P:=P) cu G Z5i
     have p2:(part f.type (ys.extract o<|o+P.cellsOf T) f.offset).run P w=.ok (Vo P f.type ys<|o+f.offset) w:=by
      rw[<-Eb S ho G];exact jD (w:=w) (P:=P) cu G Z5i
     simp[Op.eqFields,hn,Z9L,not_false_eq_true,Z7m,Z8Q,p1,p2,ht,Z8v];cases t;simp_all[RO,eval,Z6c];simp_all[RO]
   obtain⟨r,hr,rfl⟩:=key _ e z a j;refine⟨r,?_,rfl⟩;have:=run_equalIn_struct w (B+1) T (xs.extract o<|o+P.cellsOf T) (ys.extract o<|o+P.cellsOf T) (by rw[F];exact k) W;rw[F]at this;exact this.trans hr
  cases a
theorem Bi{P s u w}:∀d T o e z,VO P u w d T o=J e->eval s e=J z->∃q t C,eval s (.ac u q)=J t/\eval s (.ac w q)=J C
 |0,_,_,_,_,h,_=>by simp[VO]at h
 |d+1,T,o,e,z,h,g=>by
  simp only[VO]at h;split at h
  .split at h;case isFalse=>cases h
   simp only[Z6c]at h;subst h;simp only[eval,Z6a]at g;obtain⟨a,k,b,n,_⟩:=g;exact⟨o,a,b,by simpa only[eval,Z6a]using k,by simpa only[eval,Z6a]using n⟩
  .split at h;case isFalse=>cases h
   simp only[Z6c]at h;subst h;simp only[eval,Z6a]at g;obtain⟨a,k,b,n,_⟩:=g;exact⟨o,a,b,by simpa only[eval,Z6a]using k,by simpa only[eval,Z6a]using n⟩
  .rename_i A D;split at h;case isFalse=>cases h
   rename_i B;cases j:A.toList with
   |nil=>exact absurd j B.1
   |cons f l=>
    rw[j]at h;simp only[Rx]at h;split at h;case isFalse=>cases h
    simp only[Z6a,Z6f]at h;obtain⟨x,p,y,_,rfl⟩:=h;simp only[eval,Z6a]at g;obtain⟨F,r,_⟩:=g;exact Bi d _ _ _ _ p r
  cases h
theorem EZ{P s F G e u v z C D T G' G''}(h:RE P T F G=J e)(X:eval s F=J u)(Y:eval s G=J v)(A:Rd w G' u C)(B:Rd w G'' v D)(M:eval s e=J z):
  ∃r d f,C=.agg d/\D=.agg f/\(Op.equal T C D).run P w=.ok r w/\z=.bool r/\P.eqGuardType P.depth T=xw:=by
 unfold RE at h;split at h;case isFalse=>cases h
 rename_i a;obtain⟨g,p⟩:=a;obtain⟨q,t,t',l,K⟩:=Bi 4 T 0 e z h M;have H:∀ {j:E} {x:V} {y:V},eval s j=J x->eval s (.ac (.sz (.dy j)<|P.cellsOf T) q)=J y->∃aq_,x=.agg aq_/\I aq_=P.cellsOf T/\eval s (.sz (.dy j)<|P.cellsOf T)=J (.agg aq_):=λ{j x y} hx k=>by
  simp only[eval,hx,Z6s]at k⊢;cases x<;>simp only[SF,Option.bind_none,Z6s]at k⊢ <;>(try (cases k;done));rename_i aq_;unfold Vu at k⊢;by_cases R:(V.agg aq_).cells.length=P.cellsOf T;exact⟨aq_,rfl,R,Z5h⟩;simp_all
 obtain⟨aq_,rfl,S,n⟩:=H X l;obtain⟨bs,rfl,W,o⟩:=H Y K;cases A with
 |agg _ d l K Q=>
  cases B with
  |agg _ f Z k2 k3=>
   obtain⟨r,L,rfl⟩:=EY (P:=P) n o l Z Q k3 4 9999 T 0 e z Z0 Z0 Z0 h M;refine⟨r,d,f,rfl,rfl,?_,rfl,p⟩;have N:Vo P T d 0=.agg d:=by
    unfold Vo;rw[Z6k g,Z6V,show P.cellsOf T=d.size by omega];simp
   have O:Vo P T f 0=.agg f:=by
    unfold Vo;rw[Z6k g,Z6V,show P.cellsOf T=f.size by omega];simp
   rw[N,O]at L;exact L
theorem P3(Z:RelG c B G s a w h g)(X:holds s<|ZK c C){op T x y k W}(L:qS c g C op T x y=J (k,W))(K:∀e∈W,∃z,eval s e=J z)d:
  Has c B s w h (λp=>a.tmps[p]?) d k (do eqGuard op T x y (a.eval x) (a.eval y);binOp op T (a.eval x) (a.eval y)):=by
 unfold qS at L;simp only[Z6a,Z6f,Z6t]at L;obtain⟨o,ha,q,H,rfl,rfl⟩:=L;obtain⟨u,A,l⟩:=WH Z X ha;obtain⟨v,D,n⟩:=WH Z X H;obtain⟨z,f⟩:=K _<|List.Mem.head _;have S:=f;have j:∀ {m:Sem Value},(∃r,m.run c.P w=.ok r w/\Rd w h.F z r)->Has c B s w h (λp=>a.tmps[p]?) d (.val (Ko c.P T op o.1 q.1) []) m:=by
  rintro m ⟨r,M,N⟩;exact⟨r,M,z,S,N.mono λb H=>GH.bz H⟩
 have plain:eval s (.cb op o.1 q.1)=J z->Has c B s w h (λp=>a.tmps[p]?) d (.val (Ko c.P T op o.1 q.1) []) (do eqGuard op T x y (a.eval x) (a.eval y);binOp op T (a.eval x) (a.eval y)):=by
  intro f;simp only[eval,A,D,Z6s]at f;exact j<|Z03 f l n T x y
 unfold Ko at f;split at f;rename_i Y;split at f;simp only[eval,A,D,Z6s]at f;exact j<|F0 (neg:=xw) f l n Y x y;simp only[eval,A,D,Z6s]at f;exact j<|F0 (neg:=xk) f l n Y x y;simp_all;split at f;cases t:RE c.P T o.1 q.1 with
 |none=>simp_all
 |some e=>
  rw[t]at f;obtain⟨r,xs,ys,O,R,h1,rfl,h2⟩:=EZ t A D l n f;refine j ⟨.bool r,?_,.bool _⟩;simp_all[eqGuard,binOp,run_program]
 cases t:RE c.P T o.1 q.1 with
 |none=>simp_all
 |some e=>
  rw[t]at f;simp only[Z8i,Z6K,eval,Z6a]at f;obtain⟨y',Q,f⟩:=f;obtain⟨r,xs,ys,O,R,h1,rfl,h2⟩:=EZ t A D l n Q;simp only[Tx,Z6c]at f;subst f;refine j ⟨.bool<|!r,?_,.bool _⟩;simp_all[eqGuard,binOp,run_program]
 simp_all
theorem Qa{x z:V}{e d sh m}(j:eval s e=J z)(g:∃r,m.run c.P w=.ok r w/\Rd w (h.ext sh) z r)k:Has c B s w h k d (.val e sh) m:=by
 obtain⟨r,a,f⟩:=g;exact⟨r,a,z,j,f⟩
theorem Qd{m:Sem Value}{z}(g:∃r,m.run c.P w=.ok r w/\Rd w h.F z r)sh:∃r,m.run c.P w=.ok r w/\Rd w (h.ext sh) z r:=by
 obtain⟨r,a,d⟩:=g;exact⟨r,a,d.mono λb f=>GH.bz f⟩
theorem B3(o:RelG c B G s a w h g)(n:holds s<|ZK c C):∀ {l} {j:List Nat},QG g C l=J j->I j=I l/\∀(i p:Nat),j[i]?=J p->∃x b,l[i]?=J x/\h.bl p 0=J b/\a.eval x=.pointer (J ⟨b,0,U⟩)
 | [],j,d=>by
   simp only[QG,Z6c]at d;subst d;exact⟨rfl,λi p f=>by simp at f⟩
 |x::l,j,d=>by
  simp only[QG]at d;split at d;rename_i t D z;simp only[Z6f]at d;obtain⟨F,k,rfl⟩:=d;obtain⟨u,y⟩:=B3 o n k;obtain⟨v,A,⟨b,H,T,q,r,_⟩,_⟩:=o.cj n (show look g C t=_ from z) rfl;refine⟨by simp[u],λi p f=> ?_⟩;cases i with
  |zero=>simp at f;subst f;exact⟨_,b,rfl,q,by rw[Act.an a t v A];exact r⟩
  |succ i=>simpa using y i p Z5y
  cases d
theorem Pe(z:RelG c B G s a w h g)(y:holds s<|ZK c C){f}{first j:Array Operand}{k u}(l:jc g C f first.toList j.toList=J (k,u))d:
  Has c B s w h (λp=>a.tmps[p]?) d k (Instr.makeFunc f (first.map a.eval)<|j.map a.eval):=by
 unfold jc at l;split at l;rename_i n x A;simp only[Z6c,Z6t]at l;obtain⟨rfl,rfl⟩:=l;have o:first=#[]:=Z7j.1 Z0;have t:j=#[]:=Z7j.1 Z0;subst o t;exact⟨.func (.func n) #[] #[],by simp[Instr.makeFunc],.fn n,rfl,.fn n⟩;rename_i n x _;simp only[Z6f,Z6t]at l;obtain⟨H,q,rfl,rfl⟩:=l;have o:first=#[]:=Z7j.1 Z0;subst o;obtain⟨F,r⟩:=B3 z y q;refine⟨.func (.func n) #[] (j.map a.eval),by simp[Instr.makeFunc],j.map a.eval,rfl,Z5i,λi p D=> ?_⟩;grind;cases l
theorem Pf(a:Ok B G w h){T k o}(g:jd c T=J (k,o))q d:
  ∃v w',(Instr.makeMap T U).run c.P w=.ok v w'/\PRes c B G s w h q d k v w':=by
 unfold jd at g;split at g;simp only[Z6c,Z6t]at g;obtain⟨rfl,rfl⟩:=g;have p:=Z7o w (.map #[] 0) U;obtain⟨f,l⟩:=LZ a p d 1 (n:=xz<|xj w) (Z6i _) Z1;refine⟨.map<|J<|xz<|xj w,w.alloc<|.map #[] 0,?_,_,l,f,.mp 0 [] [],rfl,.inr ⟨0,[],[],xz<|xj w, #[],0,rfl,rfl,by simp[GH.fo],a.V,.inl rfl,Z6u w _,rfl,rfl,λi c j=>by simp at j,λi c j=>by simp at j⟩⟩;rfl;cases g
theorem Z1J{P T x}(j:Ai P T=J x):∃z,(∀w,(zeroValue T).run P w=.ok z w)/\∀w G,Rd w G x z:=by
 unfold Ai at j;simp only[Z6a]at j;obtain⟨z,⟨i,a,k⟩,g⟩:=j;refine⟨z,λw=>LO a k w,λw G=> ?_⟩;split at g;rename_i f;simp only[Z6f]at g;obtain⟨o,h,rfl⟩:=g;obtain⟨p,q⟩:=yZ h;have key:∀(i:Nat) (c:V),o[i]?=J c->WP (f.getD i xy)=J c:=by
  intro i c a;have d:i<f.size:=by have:=(Z6d.1 a).1;rw[p]at this;simpa using this
  obtain⟨y,n,l⟩:=q i f[i] (by simp[d]);rw[a]at n;cases n;simpa[Z6g,d]using l
 refine .agg o f Z5i (λc l=> ?_) λi c a=>Kt (key i c a) w G;grind [List.getElem?_of_mem,zP];grind [Kt]
def US:KC->TypeDesc
 |.b=>.bool
 |.i k=>.int k
 |.s=>.string
theorem BZ{P t d}(a:KT P t=J d):P.underlying t=J (US d):=by
 unfold KT at a;split at a<;>first|(simp only[Z6c]at a;subst a;assumption)|cases a
theorem J2{a k}(f:Vl a k=xk){w G' v}(d:Rd w G' k v):IsKey (US a) v:=by
 cases a<;>cases d<;>simp_all [Vl,IsKey,US]
theorem C1{a k y r}(f:Vl a k=xk)(d:KU k y=J r){w w2 G' G'' v u}(h:Rd w G' k v)(g:Rd w2 G'' y u):IsKey (US a) u/\(r=xk↔v=u):=by
 cases a<;>cases h<;>simp[Vl]at f<;>cases g<;>simp[KU]at d
 grind [IsKey,US];obtain⟨rfl,rfl⟩:=d;simp[IsKey,US,f];grind [IsKey,US,bytes_beq]
theorem QP{C k}(g:Vl C k=xk){w w2 G' G'' v}(p:Rd w G' k v):∀ {ks} {l:List MapEntry} {r:Option Nat},TU k ks=J r->I ks=I l->
  (∀i c,ks[i]?=J c->Rd w2 G'' c (l.getD i default).key)->∀n,match r with
   |none=>Instr.findNow (US C) v l n=J U
   |some j=>∃e,l[j]?=J e/\e.key=v/\Instr.findNow (US C) v l n=J (J (n+j,e.val))
 | [],l,r,d,h,_,n=>by
   simp only[TU,Z6c]at d;subst d;have:l=[]:=Z7p h.symm;subst this;rfl
 |y::ks,[],r,_,h,_,n=>Z5V
 |y::ks,e::l,r,d,h,o,n=>by
  simp only[TU]at d;have D:Rd w2 G'' y e.key:=by simpa using o 0 y rfl
  split at d;rename_i A;obtain⟨x,z⟩:=C1 g A p D;simp only[Z6c]at d;subst d;have t:=z.1 rfl;obtain⟨q,u,a⟩:=Z8Z (J2 g p) x;have f:q=xk:=a.2 t;subst f;exact⟨e,rfl,t.symm,by simp[Instr.findNow,u]⟩;rename_i A;obtain⟨x,z⟩:=C1 g A p D;obtain⟨q,u,a⟩:=Z8Z (J2 g p) x;have f:q=xw:=by
   cases q with
   |false=>rfl
   |true=>have:=z.2<|a.1 rfl;cases this
  subst f;simp only[Z6f]at d;obtain⟨N,B,rfl⟩:=d;have F:=QP g p B (by simpa using h) (λi c M=>by simpa using o (i+1) c<|by simpa using M)<|n+1;obtain _|j:=N;simpa[Instr.findNow,u]using F;obtain⟨G,H,K,L⟩:=F;exact⟨G,by simpa using H,K,by simp[Instr.findNow,u,L];omega⟩;cases d
theorem Cm{g k z y ks vs id ok}(f:Tk g (.mp id ks vs) k z ok=J y){l w2 G' G'' t h}(q:Rd w G' k t)(D:∀w G,Rd w G z h)(o:I ks=I l)(h2:I vs=I l)
  (p:∀i c,ks[i]?=J c->Rd w2 G'' c (l.getD i default).key) (C:∀i c,vs[i]?=J c->Rd w2 G'' c (l.getD i default).val):
  Vl g k=xk/\∃r,Instr.findNow (US g) t l 0=J r/\Rd w2 G'' y (if ok then .tuple #[(match r with|some (_,v)=>(v,xk)|none=>(h,xw)).1,.bool (match r with|some (_,v)=>(v,xk)|none=>(h,xw)).2]else(match r with|some (_,v)=>(v,xk)|none=>(h,xw)).1):=by
 have tup:∀ {x:V} {v:Value} {b:Bool},Rd w2 G'' x v->Rd w2 G'' (if ok then .am [x,.bool b]else x) (if ok then .tuple #[v,.bool b]else v):=by
  intro x v b hx;cases ok;exact hx;refine .am _ _ rfl λi c d=> ?_
  match i,d with
  |0,d=>simp_all
  |1,d=>simp at d;subst d;simpa using Rd.bool b
  |i+2,d=>simp at d
 unfold Tk at f;split at f;cases f;rename_i a;have a:Vl g k=xk:=by simpa using a
 refine⟨a,?_⟩;simp only at f;split at f;rename_i j n;obtain⟨e,u,A,B⟩:=QP a q n o p 0;grind;rename_i n;have:=QP a q n o p 0;grind;cases f
theorem Pc(Y:RelG c B G s a w h g)(W:holds s<|ZK c C){T x k ok Z N}(F:Jw c g C T x k ok=J (Z,N))(O:∀e∈N,∃z,eval s e=J z)d:
  Has c B s w h (λp=>a.tmps[p]?) d Z (Instr.lookup T (a.eval x) (a.eval k) ok):=by
 unfold Jw at F;split at F;rename_i kt el X;simp only[Z6a,Z6f,Z6t]at F;obtain⟨kc,Q,z,hz,R,ha,eb,hb,rfl,rfl⟩:=F;obtain⟨u,hu,H⟩:=Wv Y W ha;obtain⟨v,hv,n⟩:=Wv Y W hb;obtain⟨y,K⟩:=O _<|List.Mem.head _;have L:=K;simp only[eval,hu,hv,Z6s]at K;obtain⟨zv,M,o⟩:=Z1J hz;have j:=BZ Q;generalize a1:a.eval x=av at H;cases H with
 |lf=>
  obtain⟨A,r,P,f⟩:=Cm (w2:=w) (G'':=h.ext R.2) K n o (l:=[]) rfl rfl (λi c D=>by simp at D) (λi c D=>by simp at D);refine⟨_,?_,y,L,f⟩;have q:=Z97 (w:=w) j<|J2 A n;have t:=Z8Y (w:=w) j P;obtain _|p:=r;simp_all[Instr.lookup,Z6M,Result.andThen];simp_all[Instr.lookup,Z6M,Result.andThen]
 |mp id ks xs b a0 N h0 h1 S h3 h4 h5 h6=>
  obtain⟨A,r,P,f⟩:=Cm (w2:=w) (G'':=h.ext R.2) K n o (l:=N.toList) Z0 Z0 (λi c D=>Z5i) (λi c D=>Z5i);refine⟨_,?_,y,L,f⟩;have q:=Z97 (w:=w) j<|J2 A n;have t:=Z8Y (w:=w) j P;obtain _|p:=r;simp[Instr.lookup,Z6M X,Z7Q S,q,t,M,Result.andThen];simp[Instr.lookup,Z6M X,Z7Q S,q,t,M,Result.andThen]
 |_=>simp[Tk]at K
 cases F
theorem Pb{T x k ok e sh d}(a:Jw c g C T x k ok=J (.val e sh,d)):d=[e]:=by
 unfold Jw at a;split at a;simp only[Z6a,Z6f,Z6t,TK.val.injEq]at a;grind;cases a
theorem Pd(K:RelG c B G s a w h g)(H:holds s<|ZK c C){T x k ok A t}(f:ja c g C T x k ok=J (A,t))(n:∀e∈t,∃z,eval s e=J z)d:
  Has c B s w h (λp=>a.tmps[p]?) d A (Instr.lookup T (a.eval x) (a.eval k) ok):=by
 simp only[ja,Z6a]at f;obtain⟨⟨Q,D⟩,l,f⟩:=f;simp only at f;split at f;rename_i e O;simp only[Z6c,Z6t]at f;obtain⟨rfl,rfl⟩:=f;have F:=Pb l;subst F;have y:=n _<|List.Mem.head _;have N:∃z,eval s e=J z:=by
  obtain⟨z,j⟩:=y;unfold XG at j;split at j;simp_all;split at j;simp only[eval,Z6a]at j;obtain⟨u,L,_⟩:=j;exact⟨u,L⟩;simp_all
 obtain⟨v,M,R,q,o⟩:=Pc K H l Z5i d;obtain⟨z,j,r⟩:=Sz (b:=(e,O)) (fl:=(!ok&&Bg c.P T)) q o y;exact⟨v,M,z,j,r⟩;cases f
theorem Z09{x z}(a:TZ x=J z){G' v}(n:Rd w G' x v){T ty k e}(d:c.P.underlying T=J (.map k e)):
  ∃r,(Builtin.len_ #[T] ty #[v]).run c.P w=.ok r w/\Rd w h.F z r:=by
 cases n with
 |lf=>
  simp only[TZ,Z6c]at a;subst a;exact⟨.int .i64 0,Z5X,.int _ _⟩
 |mp id ks y b f g o p j l q t u=>
  simp only[TZ,Z6c]at a;subst a;exact⟨.int .i64 g.size,by simp[Builtin.len_,Z6M d,Z7Q j,goInt,Result.andThen],by rw[l];exact .int _ _⟩
 |_=>simp[TZ]at a
theorem jj(A:RelG c B G s a w h g)(H:holds s<|ZK c C){o k es}(f:pk c g C o=J (k,es))(l:∀e∈es,∃z,eval s e=J z)(d:Nat)(hd:o.dst=J d):PRun c B G s a w h o d k:=by
 have j:=A.ok;obtain⟨dst,op,type,XQ,after,guard⟩:=o;simp only at hd;unfold pk at f;simp only at f;split at f;exact⟨_,w,rfl,PRes.ap j<|Ph A H f d⟩;rename_i x;obtain⟨v,h1,h2⟩:=Pi A H f l {dst,op:=.nilCheck x,type,pos:=XQ,after,guard} rfl d;exact⟨v,w,h1,PRes.ap j h2⟩;exact⟨_,w,rfl,PRes.ap j<|P2 A H f l d⟩;exact PRun.of rfl<|P0 j f _ d;exact PRun.of rfl<|P4 A H f l _ d;exact Has.pr j rfl<|P3 A H f l d;simp only[Eg,Z6f,Z6t]at f;obtain⟨R,N,rfl,rfl⟩:=f;obtain⟨u,M,D⟩:=WH A H N;obtain⟨z,t⟩:=l _<|List.Mem.head _;have K:=t;simp only[eval,M,Z6s]at t;exact Has.pr j rfl<|Qa (x:=u) K (Qd (Z0d t D) []) _;rename_i c1 c2 x;unfold Ed at f;split at f;grind;rename_i c7;split at f;rename_i kk a2;simp only[Z6f,Z6t]at f;obtain⟨R,N,rfl,rfl⟩:=f;obtain⟨u,M,D⟩:=WH A H N;obtain⟨z,t⟩:=l _<|List.Mem.head _;have K:=t;simp only[eval,M,Z6s]at t;exact Has.pr j rfl<|Qa (x:=u) K (Qd (Z04 t D (by cases hh:c.P.underlying c1<;>simp_all) a2) []) _;grind;rename_i x i;simp only[Ee,Z6f,Z6t]at f;obtain⟨R,N,rfl,rfl⟩:=f;obtain⟨u,M,D⟩:=WH A H N;obtain⟨z,t⟩:=l _<|List.Mem.head _;have he:∃q,eval s (.ext R.1 i)=J q:=by
  unfold XG at t;split at t;simp_all;split at t;simp only[eval,M,Z6s]at t⊢;cases hq:Tc u i with
  |none=>simp_all
  |some q=>simp
  simp_all
 obtain⟨q,hq⟩:=he;have a9:=hq;simp only[eval,M,Z6s]at hq;obtain⟨r,b0,b1⟩:=Z05 (c:=c) (w:=w) hq D;obtain⟨z',b9,b2⟩:=Sz (h:=h) (fl:=XB c.P type) (b:=(.ext R.1 i,R.2)) a9 b1 ⟨z,t⟩;exact Has.pr j rfl ⟨r,b0,z',b9,b2⟩;exact Has.pr j rfl<|Pa A H f l d;exact Has.pr j rfl<|P6 A H f l d;exact Has.pr j rfl<|P8 A H f l d;exact Has.pr j rfl<|P7 A H f l d;exact Has.pr j rfl<|P9 A H f l d;exact Has.pr j rfl<|Pm A H f l d
 ·
  rename_i T parts;unfold Ec at f;simp only[Z6a]at f;obtain⟨fs,hT,zs,t,b,hb,f⟩:=f;split at f;rename_i S;have b4:b.2.2=[]:=by simpa using S
  have a7:∃z,eval s (.ag (b.1.map (·.2)))=J z:=by
   split at f<;>(simp only[Z6c,Z6t]at f;obtain⟨_,rfl⟩:=f;exact l _<|List.Mem.head _)
  obtain⟨z,a5⟩:=a7;have X:=a5;simp only[eval,Z6f]at X;obtain⟨xs,b6,b7⟩:=X;obtain⟨hl,hx⟩:=Ud b6;have d0:I xs=I b.1:=Z5h
  obtain⟨vs,a4,b3,a0,L⟩:=EW A H hT t hb (λck a6=>by
   obtain⟨i,hi⟩:=Z6A a6;obtain⟨x,_,he⟩:=hx i ck.2 Z5i;simp_all)
  rw[b4]at a0 L;refine Has.pr j rfl ⟨.agg vs,a4,?_⟩;have b5:∀(i:Nat) (x:V),xs[i]?=J x->x.aj=xk/\Rd w (h.ext b.2.1) x (vs.getD i xy):=by
   intro i x hi;have a8:i<I b.1:=by have:=(Z6d.1 hi).1;omega
   obtain⟨y,hy,b8⟩:=hx i (b.1[i]).2 Z5i;rw[hi]at hy;cases hy;have Y:=L i b.1[i]<|Z6b a8;unfold BRel at Y;split at Y;simp_all;obtain⟨e1,e2⟩:=Y;rw[b8]at e2;cases e2;rw[e1];exact⟨rfl,.nil _ _<|Z7T _⟩;simp_all;grind
  have W:∀x∈xs,x.aj=xk:=λx d1=>by
   grind [List.getElem?_of_mem]
  have c0:z=.agg xs:=by rw[<-b7];simp only[Tb,SA W]
  split at f;rename_i a3;simp only[Z6l,Z8B]at a3;simp only[Z6c,Z6t]at f;obtain⟨rfl,rfl⟩:=f;refine⟨vs,rfl,b3,λi ck hi=> ?_⟩;have Y:=L i ck hi;unfold BRel at Y;obtain⟨kk,e⟩:=ck;cases kk with
  |own ty=>simp_all
  |nil=>exact Y
  |fz=>
   obtain⟨x,e1,e2,e3⟩:=Y;rw[a3.1]at e3;exact⟨x,e1,e2,e3.F⟩
  |gu=>grind
  simp only[Z6c,Z6t]at f;obtain⟨rfl,rfl⟩:=f;refine⟨z,a5,?_⟩;rw[c0];exact .agg xs vs Z0 W λi x hi=>(b5 i x hi).2;grind
 exact PRun.of rfl<|P5 A H f l _ d hd;exact PRun.of rfl<|Pg A H f l _ d hd;exact Has.pr j rfl<|Pe A H f d;exact PRun.of rfl<|Pf j f _ d;exact Has.pr j rfl<|Pd A H f l d
 ·
  rename_i args argTypes;split at f;rename_i x T hx hT;have p:args=#[x]:=Z7j.1 Z0;have Q:argTypes=#[T]:=Z7j.1 Z0;subst p Q;have Z:execOp a.eval {dst,op:=.call {callee:=.builtin .len,args:=#[x],argTypes:=#[T]},type,pos:=XQ,after,guard}=(do pure (.value<|<-Builtin.len_ #[T] type #[a.eval x])):=by
   simp[execOp,resolve,invoke,builtin]
  unfold Ef at f;split at f;rename_i e O;simp only[Z6f,Z6t]at f;obtain⟨R,N,rfl,rfl⟩:=f;obtain⟨u,M,D⟩:=WH A H N;obtain⟨z,t⟩:=l _<|List.Mem.head _;have K:=t;simp only[eval,M,Z6s]at t;exact Has.pr j Z<|Qa (x:=u) K (Qd (Z06 t D O) []) _;rename_i n e O;simp only[Z6c,Z6t]at f;obtain⟨rfl,rfl⟩:=f;refine Has.pr j Z ⟨.int .i64 n,?_,_,rfl,.int _ _⟩;simp[Builtin.len_,Z6M O,goInt];rename_i k e O;simp only[Z6f,Z6t]at f;obtain⟨R,N,rfl,rfl⟩:=f;obtain⟨u,M,D⟩:=WH A H N;obtain⟨z,t⟩:=l _<|List.Mem.head _;have K:=t;simp only[eval,M,Z6s]at t;exact Has.pr j Z<|Qa (x:=u) K (Qd (Z09 t D O) []) _;grind;grind
 rename_i args _;split at f;rename_i x y hx;have p:args=#[x,y]:=Z7j.1 Z0;subst p;simp only[Lz,Z73,Z7K,Z6a,Z6f,Z6t]at f;obtain⟨R,N,eb,hb,rfl,rfl⟩:=f;obtain⟨u,M,D⟩:=WH A H N;obtain⟨v,hv,a1⟩:=WH A H hb;obtain⟨z,t⟩:=l _<|List.Mem.head _;have K:=t;simp only[eval,M,hv,Z6s]at t;exact Has.pr j (by simp[execOp,resolve,invoke,builtin];rfl)<|Qa (x:=u) K (Qd (Z08 t D a1 _ type) []) _;grind;rename_i args _;split at f;rename_i x y hx;have p:args=#[x,y]:=Z7j.1 Z0;subst p;simp only[Lz,Z7m,Z6a,Z6f,Z6t]at f;obtain⟨R,N,eb,hb,rfl,rfl⟩:=f;obtain⟨u,M,D⟩:=WH A H N;obtain⟨v,hv,a1⟩:=WH A H hb;obtain⟨z,t⟩:=l _<|List.Mem.head _;have K:=t;simp only[eval,M,hv,Z6s]at t;exact Has.pr j (by simp[execOp,resolve,invoke,builtin];rfl)<|Qa (x:=u) K (Qd (Z07 t D a1 _ type) []) _;grind;rename_i args argTypes;split at f;rename_i x y T P hx hT;have p:args=#[x,y]:=Z7j.1 Z0;have Q:argTypes=#[T,P]:=Z7j.1 Z0;subst p Q;exact PRun.of (by simp[execOp,resolve,invoke,builtin])<|P1 (ty:=type) A H f l _ d hd;grind;grind
end
end Vm
namespace Vm
open Go
open Go.RowKit (Below)
theorem zK:∀ {g} {t:Nat},t∉Y0 g->g.at t=([],.no)
 | [],t,_=>rfl
 | (u,x)::g,t,a=>by
   simp only[Y0,Z6R,Z6S,Z9O]at a;simp only[Gam.at];rw[Z6h (λe=>a.1 e.symm)];exact zK a.2
theorem Kn:∀ {g} {t:Nat},t∈Y0 g->(t,g.at t)∈g
 | [],t,a=>by simp[Y0]at a
 | (u,x)::g,t,a=>by
   simp only[Gam.at];by_cases d:u=t;subst d;simp;rw[Z6h d];have:t∈Y0 g:=by
    simp only[Y0,Z6R,Z6S]at a;exact a.resolve_left λe=>d e.symm
   exact Z76 _<|Kn this
theorem Vd:∀a b t,(a++b).at t=if t∈Y0 a then a.at t else b.at t
 | [],b,t=>by rfl
 | (u,x)::a,b,t=>by
   simp only[Z7x,Gam.at];by_cases d:u=t;grind [Y0];rw[Z6h d,Z6h d,Vd a b t];grind [Y0,List.map]
theorem KV{ps rb fz g t}(a:t∈Y0 (XX ps rb fz g)):(XX ps rb fz g).at t=([],.no):=by
 grind [Kn,XX,Option.some.injEq,Prod.mk.injEq]
theorem Na{ps rb fz g t}(d:t∉Y0 (XX ps rb fz g)){x}(hx:(t,x)∈g):V0 ps rb fz x.2=xk:=by
 by_cases a:V0 ps rb fz x.2=xk;exact a;exfalso;apply d;simp only[Y0,XX,Z6F,Z8I];exact⟨(t,[],.no),⟨(t,x),hx,by simp[a]⟩,rfl⟩
theorem zO ps rb fz:V0 ps rb fz .no=xk:=by simp[V0,U5,leads,RM]
theorem C2{ps rb fz g t}(a:t∉Y0 (XX ps rb fz g)):V0 ps rb fz (g.at t).2=xk:=by
 grind [Y0,Na,Kn,zK,zO]
theorem KL{fz g}:Y0 (VB fz g)=fz:=by
 simp only[Y0,VB,Z9M]
 conv=>rhs;rw[<-List.map_id fz]
 rfl
theorem KK:∀ {fz} {g:Gam} {t:Nat},t∈fz->(VB fz g).at t=((g.at t).1,SB (g.at t).2)
 | [],g,t,a=>by simp at a
 |p::fz,g,t,a=>by
  simp only[VB,Z6R,Gam.at];by_cases d:p=t;grind;rw[Z6h d];exact KK ((Z6S.1 a).resolve_left λe=>d e.symm)
def GH.ay(h:GH)(fz:List Nat):GH:= {F:=λb=>h.F b\/∃p∈fz,∃i,h.bl p (i+1)=J b,bl:=λp i=>if p∈fz/\i≠0 then U else h.bl p i,K:=h.K}
section
variable {c:Ctx}{B:Nat}{G:Nat->Prop}{s:St}{a:Act}{w w':World}{h h':GH}{g:Gam}{C:ZI}{fz:List Nat}
theorem JY(d:Ok B G w h)fz:Ok B G w (h.ay fz)/\Step B [] [] fz w w h (h.ay fz):=by
 refine⟨⟨d.V,λb a=> ?_,λb a=> ?_,λb a=>.inl<|d.gs b a,λt i b a=> ?_,λt i u j b a f=> ?_,d.cw,λt i b a=> ?_,λb a=> ?_⟩,
  Z6r _ _,λb a _=>rfl,λb a=>.inl a,λt _ l=> ?_,λt _=> ?_,λt i b _ l a=>.inr ⟨t,l,i,a⟩,rfl⟩
 obtain a|⟨p,_,i,g⟩:=a;exact d.cd b a;exact(d.ax p (i+1) b g).2.1;obtain a|⟨p,_,i,g⟩:=a;exact d.dl b a;exact .inr (d.ax p (i+1) b g).1;simp only[GH.ay]at a;split at a;cases a;rename_i x;obtain⟨n,o,q⟩:=d.ax t i b a;refine⟨n,o,λk=> ?_⟩;obtain k|⟨p,y,j,r⟩:=k;exact q k;obtain⟨rfl,rfl⟩:=d.inj t i p (j+1) b a r;simp_all
 .simp only[GH.ay]at a f;split at a<;>split at f<;>first|(cases a;done)|(cases f;done)|exact d.inj t i u j b a f
 simp only[GH.ay]at a;split at a;cases a;exact d.cl t i b a;obtain a|⟨p,_,i,g⟩:=a;exact d.fw b a;exact .inr<|d.cl p (i+1) b g;simp_all[GH.ay];simp[GH.ay]
theorem A5{sh}(a:∀p∈sh,p∈fz):∀b,h.ext sh b->(h.ay fz).F b:=by
 intro b d;obtain d|⟨p,g,i,f⟩:=d;exact .inl d;exact .inr ⟨p,a p g,i,f⟩
theorem OwnV.aj{P o ty x v}(a:OwnV P B w h o ty x v):x.aj=xk:=by
 obtain⟨l,d,rfl,_⟩|⟨_,_,_,_,_,_,rfl,_⟩:=a<;>rfl
theorem RelC.freeze{P o k e v}(f:RelC P B s w h o k e v)(n:Same h.F w w')(a:∀b,h.F b->h'.F b)(q:∀b,o=J b->w'.heap[b]?=w.heap[b]?)(l:∀b,o=J b->h'.F b)r:
  RelC P B s w' h' r (BI k) e v:=by
 cases k with
 |fz=>obtain⟨x,g,j,d⟩:=f;exact⟨x,g,j,d.keep n a⟩
 |own t=>
  obtain⟨x,g,j⟩:=f;have d:=j.keep (h':=h') n a q;exact⟨x,g,d.aj,d.rd (λb p=>p) l⟩
 |nil=>exact f
 |gu=>exact f
theorem RelK.freeze{M r t v k ps rb}(y:RelK c.P B s w h M t v k)(f:Step B ps rb fz w w' h h')(d:Ok B G w h)(q:∀t∈rb,t∈ps)
  (g:t∉ps) (n:t∈fz) (j:V0 ps rb fz k=xk) (L:∀p,p∉ps->r p=M p):RelK c.P B s w' h' r t v<|SB k:=by
 have D:Same h.F w w':=λb a=>f.iq d a;cases l:k.is with
 |false=>
  have:=y.keep f d q g (λ_=>l) j L;cases k<;>first|exact this|simp[TK.is]at l
 |true=>
  cases k<;>first|(simp[TK.is]at l;done)|skip
  rename_i Z e;obtain⟨x,Q,u⟩:=y;have A:=u.keep (h':=h') D f.F λb a=>f.cn d g a;exact⟨x,Q,A.rd (λb a=>GH.bz a) λb a=>GH.bz<|f.oi t 0 b g n a⟩;rename_i O;obtain⟨b,N,T,u,A,R,C,S⟩:=y;refine⟨b,N,T,by rw[f.my t (λX=>g<|q t X)];exact u,A,by rw[f.cn d g u];exact R,by simpa using C,λi Y o=> ?_⟩;simp only[Z6G,Z6f]at o;obtain⟨z,H,rfl⟩:=o;exact(S i z H).freeze D f.F (λb a=>f.cn d g a) (λb a=>f.oi t i b g n a) _;rename_i O;obtain⟨N,rfl,C⟩:=y;simp only[SB];split;trivial;rename_i W;obtain⟨x,hx,_,K⟩:=C.rd (G':=λb=>h.F b\/∃i,h.bl t (i+1)=J b) (by simpa using W) (λb a=>.inl a) (λ_ i b a=>.inr ⟨i,a⟩);refine⟨_,hx,K.keep (λb a=> ?_) λb a=> ?_⟩;obtain a|⟨i,o⟩:=a;exact D b a;exact f.cn d g o;obtain a|⟨i,o⟩:=a;exact GH.bz<|f.F b a;exact GH.bz<|f.oi t i b g n o
theorem RelG.step{a' ps rb d}(n:RelG c B G s a w h g)(K:Step B ps rb fz w w' h h')(q:Ok B G w' h')(r:∀t∈rb,t∈ps)(u:∀p,p∉ps->a'.tmps[p]?=a.tmps[p]?)
  (F:∀t∈ps,t∈Y0 d)
  (O:∀t∈Y0 d,(holds s (ZK c (d.at t).1)->(d.at t).2.bu=xw->∃v,a'.tmps[t]?=J v/\RelK c.P B s w' h' (λp=>a'.tmps[p]?) t v (d.at t).2)/\(¬holds s (ZK c (d.at t).1)->a'.tmps.getD t xy=xy)):
  RelG c B G s a' w' h' (d++XX ps rb fz g++VB fz g++g):=by
 have key:∀t,(holds s (ZK c ((d++XX ps rb fz g++VB fz g++g).at t).1)->((d++XX ps rb fz g++VB fz g++g).at t).2.bu=xw->∃v,a'.tmps[t]?=J v/\RelK c.P B s w' h' (λp=>a'.tmps[p]?) t v ((d++XX ps rb fz g++VB fz g++g).at t).2)/\
   (¬holds s (ZK c ((d++XX ps rb fz g++VB fz g++g).at t).1)->a'.tmps.getD t xy=xy):=by
  intro t;rw[Vd,Vd,Vd];simp only[Y0,Z7I,Z6Q];by_cases A:t∈Y0 d;have f:t∈List.map (·.1) d:=A;simp_all;have f:t∉List.map (·.1) d:=A;by_cases y:t∈Y0 (XX ps rb fz g);have j:t∈List.map (·.1) (XX ps rb fz g):=y;simp only[f,j,false_or,true_or,Z7m,Z7K,KV y];simp_all[TK.bu,absurd,RJ,ZK];have j:t∉List.map (·.1) (XX ps rb fz g):=y;have H:=C2 y;have x:t∉ps:=λM=>A<|F t M;by_cases o:t∈fz;have k:t∈List.map (·.1) (VB fz g):=by have:=KL (fz:=fz) (g:=g);unfold Y0 at this;rw[this];exact o
  simp only[f,j,k,false_or,Z7m,Z7K,KK o];refine⟨λC l=> ?_,λl=> ?_⟩;have D:(g.at t).2.bu=xw:=by
   cases z:(g.at t).2<;>first|rfl|simp_all[SB,TK.bu]
  obtain⟨v,N,z⟩:=n.Y t C D;exact⟨v,Z5i,z.freeze K n.ok r x o H u⟩;have:=n.skip t l;simp_all;have k:t∉List.map (·.1) (VB fz g):=by have:=KL (fz:=fz) (g:=g);unfold Y0 at this;rw[this];exact o
  simp only[f,j,k,false_or,Z7K];refine⟨λC l=> ?_,λl=> ?_⟩;obtain⟨v,N,z⟩:=n.Y t C l;exact⟨v,Z5i,z.keep K n.ok r x (λL=>absurd L o) H u⟩;have:=n.skip t l;simp_all
 exact⟨q,λt=>(key t).1,λt=>(key t).2⟩
theorem RelG.ly(l:RelG c B G s a w h g)fz:RelG c B G s a w (h.ay fz)<|Vm.frz fz g:=by
 obtain⟨f,j⟩:=JY l.ok fz;have:=l.step (d:=[]) (a':=a) j f (λ_ h=>h) (λ_ _=>rfl) (λt k=>by simp at k) (λt k=>by simp[Y0]at k);simpa[Vm.frz]using this
end
end Vm
namespace Vm
open Go
open Go.RowKit (Below)
def GH.put(h:GH)(d:Nat)(f:Nat->Option Nat)(r:Nat->Nat->Option Nat):GH:= {F:=h.F,bl:=λu=>if u=d then f else r u,K:=h.K}
def Wi(h:GH)(ts:List Nat)(u:Nat)(i:Nat):Option Nat:=if u∈ts then U else h.bl u i
section
variable {c:Ctx}{B:Nat}{G:Nat->Prop}{s:St}{a a':Act}{w w':World}{h h':GH}{g:Gam}{C:ZI}{fz ps rb:List Nat}
theorem Ok.put(a:Ok B G w h)(n:xz (xj w)<=xz (xj w')){d f r}
  (q:∀u i b,u≠d->r u i=J b->h.bl u i=J b) (C:∀i b,f i=J b->(xz (xj w)<=b/\b<xz (xj w'))\/∃t j,h.bl t j=J b)
  (D:∀i j b,f i=J b->f j=J b->i=j) (A:∀i b u j,u≠d->f i=J b->r u j=J b->False):Ok B G w'<|h.put d f r:=by
 refine⟨Z6H a.V n,λb g=>Z6o (a.cd b g) n,a.dl,a.gs,λt i b g=> ?_,λt i u j b g k=> ?_,λb g=>Z6o (a.cw b g) n,λt i b g z=> ?_,a.fw⟩;simp only[GH.put]at g;have p:∀t j,h.bl t j=J b->B<=b/\b<xz (xj w')/\¬h.F b:=λt j o=>by
  obtain⟨x,y,M⟩:=a.ax t j b o;grind
 split at g;obtain⟨x,y⟩|⟨t,j,o⟩:=C i b g;exact⟨Z6H a.V x,y,λL=>by have:=a.cd _ L;omega⟩;exact p t j o;rename_i l;exact p t i<|q t i b l g;simp only[GH.put]at g k;split at g<;>split at k;grind;grind;grind;rename_i H K;exact a.inj t i u j b (q t i b H g)<|q u j b K k;simp only[GH.put]at g;split at g;obtain⟨x,y⟩|⟨t,j,o⟩:=C i b g;have:=a.cw _ z;omega;exact a.cl t j b o z;rename_i l;exact a.cl t i b (q t i b l g) z
theorem WT{ts u i b}(a:Wi h ts u i=J b):h.bl u i=J b/\u∉ts:=by
 simp_all[Wi]
theorem Cn{ts u}(a:u∉ts):Wi h ts u=h.bl u:=by
 grind [Wi]
theorem Tv(g:Below B w w')(a:∀b,b<xz (xj w)->(∀p∈ps,∀i,h.bl p i≠J b)->w'.heap[b]?=w.heap[b]?){d f ts}
  (n:d∈ps) (k:∀t∈ts,t∈ps/\t∈rb) (q:d∉rb->f 0=h.bl d 0):Step B ps rb [] w w' h<|h.put d f<|Wi h ts:=by
 refine⟨g,a,λ_ g=>g,λt j _=> ?_,λt j=> ?_,λ_ _ _ _ o=>(by simp at o),rfl⟩;have l:t≠d:=λe=>j<|e▸n;simp only[GH.put,Z6h l];grind [Cn];simp only[GH.put];split;simp_all;rw[Cn λe=>j (k t e).2]
theorem Step.after(h2:Step B ps rb [] w w' (h.ay fz) h'):Step B ps rb fz w w' h h':=by
 have f:∀p i b,(h.ay fz).bl p i=J b->h.bl p i=J b:=by
  intro p i b a;simp only[GH.ay]at a;split at a;cases a;exact a
 refine⟨h2.below,λb a k=>h2.same b a λp l i j=>k p l i<|f p i b j,λb a=>h2.F b<|.inl a,λt g d=> ?_,λt g=> ?_,λt i b _ d a=>h2.F b<|.inr ⟨t,d,i,a⟩,h2.K⟩;rw[h2.bl t g Z1];grind [GH.ay];rw[h2.my t g];simp[GH.ay]
structure MPost (c:Ctx) (B:Nat) (G:Nat->Prop) (s:St) (a':Act) (w w':World) (h h':GH) (m:MS):Prop where
 step:Step B m.ps m.rb m.fz w w' h h'
 ok:Ok B G w' h'
 sq:∀t∈Y0 m.d,(m.d.at t).1=[]/\((m.d.at t).2.bu=xw->∃u,a'.tmps[t]?=J u/\RelK c.P B s w' h' (λp=>a'.tmps[p]?) t u (m.d.at t).2)
theorem Wh{d k}{ts:List Nat}(g:∃u,a'.tmps[d]?=J u/\RelK c.P B s w' h' (λp=>a'.tmps[p]?) d u k):
  ∀t∈Y0 ((d,[],k)::ts.map λt=>(t,([]:ZI),TK.no)),(Gam.at ((d,[],k)::ts.map λt=>(t,([]:ZI),TK.no)) t).1=[]/\
   ((Gam.at ((d,[],k)::ts.map λt=>(t,([]:ZI),TK.no)) t).2.bu=xw->∃u,a'.tmps[t]?=J u/\RelK c.P B s w' h' (λp=>a'.tmps[p]?) t u (Gam.at ((d,[],k)::ts.map λt=>(t,([]:ZI),TK.no)) t).2):=by
 intro t h;simp only[Gam.at];by_cases a:d=t;simp_all;rw[Z6h a];have:∀(ts:List Nat),Gam.at (ts.map λt=>(t,([]:ZI),TK.no)) t=([],.no):=by
  intro ts;induction ts with
  |nil=>rfl
  |cons u ts j=>simp_all[Z6R,Gam.at,ite_self]
 rw[this];exact⟨rfl,λf=>by simp[TK.bu]at f⟩
theorem Vq{d}(f:d<a.tmps.size)v:(a.put (J d) v).tmps[d]?=J v:=by
 simp[Act.put,f]
theorem R1{d t:Nat}(f:t≠d)v:(a.put (J d) v).tmps[t]?=a.tmps[t]? :=by
 simp[Act.put,Z8g<|Z8d f]
theorem Ys s c:holds s<|ZK c []:=RJ s
theorem yK(r:RelG c B G s a w h g){fl x b}(k:TY g fl x=J b){z}(l:eval s b.1=J z):Rd w (h.ay b.2).F z<|a.eval x:=by
 simp only[TY,Z6f]at k;obtain⟨n,o,rfl⟩:=k;obtain⟨y,t,f⟩:=WH r (Ys s c) o;obtain⟨u,d,j⟩:=Sz (fl:=fl) (b:=n) t f ⟨z,l⟩;rw[l]at d;cases d;exact j.mono (A5 λp q=>q)
theorem yL(f:RelG c B G s a w h g){fl ag n x b}(d:TY g fl x=J b){z}(j:eval s (WL ag n b.1)=J z):
  (∀l,z≠.am l)/\(ag=xk->I z.cells=n)/\(ag=xw->z.aj=xk)/\Rd w (h.ay b.2).F z (a.eval x):=by
 grind [zd,yK]
theorem OwnV.mono{P o a ty x v}(g:OwnV P B w h o ty x v)(d:∀b,h.F b->h'.F b)(f:o=a):OwnV P B w h' a ty x v:=by
 subst f;exact g.keep (.refl _ _) d λ_ _=>rfl
theorem BQ(o:RelG c B G s a w h g){ty d t e v}(x:d<a.tmps.size)(A:t≠d){y}(C:eval s e=J y)(f:OwnV c.P B w h (h.bl t 1) ty y v):
  ∃h',MPost c B G s (a.put (J d) v) w w h h' {d:=[(d,[],.own ty e),(t,[],.no)],ps:=[d,t],rb:=[d,t],fz:=[],es:=[]}:=by
 refine⟨h.put d (λi=>if i=1 then h.bl t 1 else U)<|Wi h [t],Tv (Z6r _ _) (λ_ _ _=>rfl) Z1 (λu p=>by simp at p;grind) (λz=>by simp at z),
  o.ok.put (Z6i _) (λu i b _ k=>(WT k).1) (λi b k=> ?_) (λi j b l n=> ?_) (λi b u j p l n=> ?_),Wh (ts:=[t]) ⟨v,Vq x v,y,C,?_⟩⟩
 grind;simp_all;split at l;obtain⟨q,r⟩:=WT n;exact r (by simp[(o.ok.inj t 1 u j b l q).1]);cases l;exact f.mono (λ_ k=>k) (by simp[GH.put])
theorem O1(n:RelG c B G s a w h g){d t cs v}(D:d<a.tmps.size)(K:t≠d)(F:RelK c.P B s w h (λp=>a.tmps[p]?) t v<|.mem cs):
  ∃h',MPost c B G s (a.put (J d) v) w w h h' {d:=[(d,[],.mem cs),(t,[],.no)],ps:=[d,t],rb:=[d,t],fz:=[],es:=[]}:=by
 obtain⟨b,L,T,r,rfl,x,y,z⟩:=F
 refine⟨h.put d (λi=>h.bl t i)<|Wi h [t],Tv (Z6r _ _) (λ_ _ _=>rfl) Z1 (λu o=>by simp at o;grind) (λH=>by simp at H),
  n.ok.put (Z6i _) (λu i b _ f=>(WT f).1) (λi b f=>.inr ⟨t,i,f⟩) (λi j b k l=>(n.ok.inj t i t j b k l).2) (λi b u j o k l=> ?_),Wh (ts:=[t]) ⟨_,Vq D _,b,L,T,by simp[GH.put,r],rfl,x,y,λi q k=> ?_⟩⟩
 obtain⟨A,C⟩:=WT l;exact C (by simp[(n.ok.inj t i u j b k A).1]);have:=(z i q k).keep (h':=h.put d (λi=>h.bl t i)<|Wi h [t]) (w':=w) (.refl _ _) (λ_ f=>f) λ_ _=>rfl;simp_all[GH.put]
def GH.yield(h:GH)(d p:Nat):GH:= {F:=λb=>h.F b\/∃i,h.bl p i=J b,bl:=λu i=>if u=p\/u=d then U else h.bl u i,K:=h.K}
theorem Mz(H:RelG c B G s a w h g){d p cs}(N:d<a.tmps.size)(P:p≠d)(A:memOf g p=J cs)(y:Wd cs=xw){z}(K:eval s (.pt U (cs.map (·.2)))=J z){v}(R:∃b,h.bl p 0=J b/\v=.pointer (J ⟨b,0,U⟩)):
  ∃h',MPost c B G s (a.put (J d) v) w w h h' {d:=[(d,[],.val (.pt U (cs.map (·.2))) []),(p,[],.no)],ps:=[d,p],rb:=[d,p],fz:=[],es:=[.pt U (cs.map (·.2))]}:=by
 obtain⟨b,Z,T,D,_,L,M⟩:=H.dc A;obtain⟨X,n,rfl⟩:=R;rw[D]at n;cases n;have f:=H.ok;have l:∀u i x,(h.yield d p).bl u i=J x->h.bl u i=J x/\u≠p:=by
  intro u i x hx;simp only[GH.yield]at hx;split at hx;cases hx;simp_all
 refine⟨h.yield d p,⟨Z6r _ _,λ_ _ _=>rfl,λb k=>.inl k,λt Q _=> ?_,λt Q=> ?_,λ_ _ _ _ A=>(by simp at A),rfl⟩,⟨f.V,λb k=> ?_,λb k=> ?_,λb k=>.inl<|f.gs b k,λt i b k=> ?_,λt i u j b k r=>f.inj t i u j b (l _ _ _ k).1 (l _ _ _ r).1,f.cw,λt i b k=>f.cl t i b (l _ _ _ k).1,λb k=> ?_⟩,
  Wh (ts:=[p]) ⟨_,Vq N _,z,K,J7 D L M y K (λb k=>.inl<|.inl k) λi b k=>.inl<|.inr ⟨i,k⟩⟩⟩
 simp_all[Z6S,Z8C,Z9P,Z9O,GH.yield];simp_all[Z6S,Z8C,Z9P,Z9O,GH.yield];obtain k|⟨i,q⟩:=k;exact f.cd b k;exact(f.ax p i b q).2.1;obtain k|⟨i,q⟩:=k;exact f.dl b k;exact .inr (f.ax p i b q).1;obtain⟨o,C⟩:=l _ _ _ k;obtain⟨S,W,Y⟩:=f.ax t i b o;refine⟨S,W,λF=> ?_⟩;obtain F|⟨j,O⟩:=F;grind;exact C (f.inj t i p j b o O).1;obtain k|⟨i,q⟩:=k;exact f.fw b k;exact .inr<|f.cl p i b q
theorem Cu(q:RelG c B G s a w h g){ty d x m}(N:d<a.tmps.size)(f:L2 c g ty d x=J m)(D:∀e∈m.es,∃z,eval s e=J z):
  ∃h',MPost c B G s (a.put (J d)<|a.eval x) w w h h' m:=by
 unfold L2 at f;split at f;rename_i t T e r;split at f;cases f;rename_i C;have S:t≠d:=λe=>C<|.inl e;simp only[Z6c]at f;subst f;obtain⟨v,L,⟨y,Y,H⟩,_⟩:=q.cj (Ys s c) (show look g [] t=_ from r) rfl;grind [Act.an,BQ];rename_i t W r;split at f;cases f;rename_i C;have S:t≠d:=λe=>C<|.inl e;simp only[Z6c]at f;subst f;obtain⟨v,L,o,_⟩:=q.cj (Ys s c) (show look g [] t=_ from r) rfl;grind [Act.an,O1];rename_i t p r;split at f;rename_i k;simp only[Z6l,Z8W,Z9L]at k;simp only[Z6a]at f;obtain⟨W,P,f⟩:=f;split at f;cases f;rename_i X;simp only[Z6c]at f;subst f;obtain⟨z,M⟩:=D _<|List.Mem.head _;obtain⟨v,L,o,_⟩:=q.cj (Ys s c) (show look g [] t=_ from r) rfl;rw[Act.an a t v L];exact Mz q N k.2 P Z5i M o;cases f;rename_i r;simp only[Z6c]at f;subst f;rw[Q5 q (Ys s c) r]
 exact⟨h.put d (λ_=>U)<|Wi h [],Tv (Z6r _ _) (λ_ _ _=>rfl) Z1 (λu K=>by simp at K) (λQ=>by simp at Q),
  q.ok.put (Z6i _) (λu i b _ n=>(WT n).1) (λi b n=>by cases n) (λi j b A O=>by cases A) (λi b u j K A O=>by cases A),Wh (ts:=[]) ⟨_,Vq N _,rfl⟩⟩
 split at f;rename_i p T e l;simp only[Z6c]at f;subst f;unfold BP at l;split at l;rename_i Z r;split at l;rename_i k;simp only[Z6l,Z8W,Z9L]at k;simp only[Z6f,Z6t]at l;obtain⟨⟨q1,q2⟩,l,rfl,rfl,rfl⟩:=l;obtain⟨v,L,y,Y,H⟩:=q.fk l;have o:a.tmps[Z]?=J (a.eval _):=XD q (Ys s c) r rfl 0;grind [Option.some.injEq,BQ];grind;grind;simp only[Z6f]at f;obtain⟨b,n,rfl⟩:=f;obtain⟨z,M⟩:=D b.1 Z1;have R:=yK q n M;obtain⟨F,_⟩:=JY q.ok b.2
 exact⟨(h.ay b.2).put d (λ_=>U)<|Wi (h.ay b.2) [],Step.after<|Tv (Z6r _ _) (λ_ _ _=>rfl) Z1 (λu K=>by simp at K) (λQ=>by simp at Q),
  F.put (Z6i _) (λu i b _ n=>(WT n).1) (λi b n=>by cases n) (λi j b A O=>by cases A) (λi b u j K A O=>by cases A),Wh (ts:=[]) ⟨_,Vq N _,z,M,R.mono λb n=>GH.bz n⟩⟩
def Wz(a:Array Value)(o:Nat)(new:Array Value):Array Value:=(a.toList.take o++new.toList++a.toList.drop (o+new.size)).toArray
theorem jA{a new o}(d:o+new.size<=a.size):(Wz a o new).size=a.size:=by
 grind [Wz]
theorem jz{a new o}(d:o+new.size<=a.size){i}(f:i<new.size):(Wz a o new).getD (o+i) xy=new.getD i xy:=by
 simp only[Wz,Z6g,Z7E];grind
theorem LM{a new o}(d:o+new.size<=a.size){i}(f:i<o\/o+new.size<=i):(Wz a o new).getD i xy=a.getD i xy:=by
 simp only[Wz,Z6g,Z7E];grind
theorem jE{P T}(l:YN P T=xk){b o a ty}(n:w.heap[b]?=J (.cells a ty (0,0))){v}(y:v.cells.size=P.cellsOf T)(f:∀i,i<v.cells.size->(v.cells.getD i xy).oneCell'=xk)(p:o+v.cells.size<=a.size):
  (Instr.storeAt T (.pointer<|J ⟨b,o,U⟩) v).run P w=.ok () (w.setRow b<|Wz a o v.cells):=by
 obtain⟨d,i,t,x,z,_⟩:=VD l
 have q:=run_storeCells_at (P:=P) b o ty v.cells.toList 0 a w n Z0 (λu r=>by
  obtain⟨j,g⟩:=Z6A r;have h:j<v.cells.size:=by simpa using(Z6d.1 g).1
  have:=f j h;have k:v.cells.getD j xy=u:=by
   simp only[Z6g];rw[Z7n]at g;rw[g];rfl
  simp_all)
 simp_all[Z7Z,Z8D,Instr.storeAt,Instr.sureAddr,storeVar,VH,Wz]
theorem below_setRow w{b}(a:B<=b)cs:Below B w<|w.setRow b cs:=
 ⟨rfl,rfl,rfl,Z1,λk d=>Z7Y w b k cs Z0⟩
theorem jI(d:Ok B G w h){b}cs{G'}(a:∀x,G' x->x≠b):Same G' w<|w.setRow b cs:=λx hx=>Z7Y w b x cs<|a x hx
theorem LR{cs new o}(f:o+I new<=I cs):I (Qg cs o new)=I cs/\∀i a,(Qg cs o new)[i]?=J a->(o<=i/\i<o+I new/\new[i-o]?=J a)\/((i<o\/o+I new<=i)/\cs[i]?=J a):=by
 unfold Qg;refine⟨Z5j,λi a d=> ?_⟩;by_cases g:i<o;grind;by_cases h:i<o+I new;grind;right;rw[Z6v Z5j,Z6C]at d;grind
theorem Fu(d:Ok B G w h){p o b cs new g row ty}(r:h.bl p 0=J b)(hh:w.heap[b]?=J (.cells g ty (0,0)))(z:RelCs c.P B s w h p cs g)
  (a0:row.size=g.size) (Y:o+I new<=I cs) (N:∀i,i<o\/o+I new<=i->row.getD i xy=g.getD i xy) {ts} {f:Nat->Option Nat} (a3:p∉ts)
  (A:f 0=h.bl p 0) (k:∀i,i<o\/o+I new<=i->f (i+1)=h.bl p (i+1)) (D:∀i x,i<I new->f (o+i+1)=J x->h.bl p (o+i+1)=J x\/∃t∈ts,∃j,h.bl t j=J x)
  (L:∀i j x,f i=J x->f j=J x->i=j)
  (M:∀i l,new[i]?=J l->RelC c.P B s w h (f<|o+i+1) l.1 l.2 (row.getD (o+i) xy)) tm:
  ∃h',Ok B G (w.setRow b row) h'/\Step B (p::ts) ts [] w (w.setRow b row) h h'/\
   RelK c.P B s (w.setRow b row) h' tm p (.pointer<|J ⟨b,0,U⟩) (.mem<|Qg cs o new):=by
 obtain⟨T,a1,W⟩:=d.ax p 0 b r;obtain⟨Z,H⟩:=LR Y;have q:Same h.F w<|w.setRow b row:=jI d _ λx hx e=>W<|e▸hx;have C:∀i x,f (i+1)=J x->x≠b/\((h.bl p (i+1)=J x)\/∃t∈ts,∃j,h.bl t j=J x):=by
  intro i x hx;have n:h.bl p (i+1)=J x\/∃t∈ts,∃j,h.bl t j=J x:=by
   by_cases a2:o<=i/\i<o+I new;have:=D (i-o) x Z0;grind;grind
  refine⟨λe=> ?_,n⟩;subst e;obtain n|⟨t,O,j,hj⟩:=n;grind;grind
 refine⟨h.put p f<|Wi h ts,d.put Z1 (λu i x _ hx=>(WT hx).1) (λi x hx=>.inr ?_) L (λi x u j hu K hj=> ?_),
  Tv (below_setRow w T _) (λx hx hn=>Z7Y w b x _ λe=>hn p Z1 0<|e▸r) Z1 (λt O=>⟨by simp[O],O⟩) (λ_=>A),b,row,ty,by grind [GH.put],rfl,Z9H w b g _ ty (0,0) hh,by rw[a0,z.1,Z],λi l K=> ?_⟩
 cases i with
 |zero=>grind
 |succ i=>
  grind
 obtain⟨k1,k2⟩:=WT hj;cases i with
 |zero=>rw[A]at K;exact hu (d.inj u j p 0 x k1 K).1
 |succ i=>
  rcases(C i x K).2 with n|⟨t,O,j',X⟩;exact hu (d.inj u j p (i+1) x k1 n).1;exact k2<|(d.inj u j t j' x k1 X).1▸O
 have y:(h.put p f<|Wi h ts).bl p (i+1)=f (i+1):=by simp[GH.put]
 rw[y];have a:∀x,f (i+1)=J x->(w.setRow b row).heap[x]?=w.heap[x]? :=λx hx=>Z7Y w b x _ (C i x hx).1;obtain⟨Q,n,R⟩|⟨Q,R⟩:=H i l K;have:=M (i-o) l R;rw[show o+(i-o)=i from by omega]at this;exact this.keep q (λ_ S=>S) a;have:=z.2 i l R;rw[N i Q,k i Q];rw[k i Q]at a;exact this.keep q (λ_ S=>S) a
theorem JE{p o new k}(d:U2 g p o new=J k):∃a,memOf g p=J a/\o+I new<=I a/\k=.mem (Qg a o new):=by
 grind [U2,Option.bind_eq_some_iff,Option.some.injEq]
theorem JX(R:RelG c B G s a w h g){T}(S:YN c.P T=xk){p o b new k}(X:U2 g p o new=J k)(r:h.bl p 0=J b){v}(K:v.cells.size=c.P.cellsOf T)(l:I new=c.P.cellsOf T)
  {ts} {f:Nat->Option Nat} (L:p∉ts) (H:f 0=h.bl p 0) (n:∀i,i<o\/o+I new<=i->f (i+1)=h.bl p (i+1)) (z:∀i x,i<I new->f (o+i+1)=J x->h.bl p (o+i+1)=J x\/∃t∈ts,∃j,h.bl t j=J x)
  (A:∀i j x,f i=J x->f j=J x->i=j)
  (D:∀i F,new[i]?=J F->RelC c.P B s w h (f<|o+i+1) F.1 F.2 (v.cells.getD i xy)):
  ∃w' h',(Instr.storeAt T (.pointer<|J ⟨b,o,U⟩) v).run c.P w=.ok () w'/\Ok B G w' h'/\Step B (p::ts) ts [] w w' h h'/\∃u,a.tmps[p]?=J u/\RelK c.P B s w' h' (λp=>a.tmps[p]?) p u k:=by
 obtain⟨cs,W,C,rfl⟩:=JE X;obtain⟨b',q,ty,N,M,O,y⟩:=R.dc W;rw[r]at N;cases N;have d:o+v.cells.size<=q.size:=by rw[y.1,K,<-l];exact C
 have Y:v.cells.size=I new:=by rw[K,l]
 obtain⟨h',Z,k2,k3⟩:=Fu (row:=Wz q o v.cells) R.ok r O y (jA d) C (λi Q=>LM d Z0) L H n z A (λi F Q=>by
  grind [jz,List.getElem?_eq_some_iff]) (λp=>a.tmps[p]?)
 refine⟨_,h',jE S O K (λi Q=> ?_) d,Z,k2,_,M,k3⟩;exact(D i new[i]<|Z6b Z0).cell
theorem Z1i{n:Nat}{e z v}(t:eval s e=J z)(r:∀l,z≠.am l)(g:Rd w h.F z v)o{i d}(f:i<I z.cells)(p:d=(CK.fz,E.ac e i)):RelC c.P B s w h o d.1 d.2<|v.cells.getD i xy:=by
 subst p;obtain⟨q,j,k⟩:=g.cells r;have a:z.cells[i]?=J z.cells[i]:=Z6b f;refine⟨z.cells[i],?_,j _<|Z6E _,k i _ a⟩;simp_all[eval,Z6s,Ya,E9,YS,Z6k,Z6E]
theorem EI{β:Type}{n i f}{y:β}(a:((List.range n).map f)[i]?=J y):i<n/\y=f i:=by
 grind
theorem Cy(r:RelG c B G s a w h g){T}(hT:YN c.P T=xk)(a5:Y9 c.P T=xk\/c.P.cellsOf T=1){p o x m}(u:L5 c g T p o x=J m)(a2:∀e∈m.es,∃z,eval s e=J z){b}(N:h.bl p 0=J b):
  ∃w' h',(Instr.storeAt T (.pointer<|J ⟨b,o,U⟩)<|a.eval x).run c.P w=.ok () w'/\MPost c B G s a w w' h h' m:=by
 have F:∀fz,(h.ay fz).bl p 0=J b:=λfz=>by simp[GH.ay,N]
 unfold L5 at u;simp only at u;split at u;rename_i a0;split at u;rename_i t cs hk;split at u;rename_i C;obtain⟨hl,D,_⟩:=C;simp only[Z6f]at u;obtain⟨k,q,rfl⟩:=u;obtain⟨v,hv,⟨vs,rfl,a1⟩,_⟩:=r.cj (Ys s c) (show look g [] t=_ from hk) rfl;rw[Act.an a t _ hv]
 obtain⟨w',h',H,K,L,M⟩:=JX r hT q N (v:=.agg vs) (by show vs.size=_;rw[a1.1,hl]) hl (ts:=[t]) (f:=λi=>if o+1<=i/\i<o+1+(I cs) then h.bl t (i-o)else h.bl p i) (by simpa using Z8d D)
  (Z6h Z0) (λi d=>Z6h Z0) (λi x d hx=>.inr ⟨t,Z1,_,by rw[Z6k Z0]at hx;exact hx⟩) (λi j x d A=>by
   split at d<;>split at A;have:=(r.ok.inj t _ t _ x d A).2;omega;exact absurd (r.ok.inj t _ p _ x d A).1 D;exact absurd (r.ok.inj t _ p _ x A d).1 D;exact(r.ok.inj p _ p _ x d A).2)
  (λi Z d=>by
   have a3:=(Z6d.1 d).1;rw[Z6k Z0,show o+i+1-o=i+1 from by omega];exact a1.2 i Z d)
 exact⟨w',h',H,L,K,Wh (ts:=[t]) M⟩;cases u;simp only[Z6a,Z6f]at u;obtain⟨R,S,k,q,rfl⟩:=u;obtain⟨z,hz⟩:=a2 _<|List.Mem.head _;obtain⟨k1,k2,k3,k4⟩:=yL r S hz;obtain⟨O,a6,W⟩:=k4.cells k1
 obtain⟨w',h',H,K,L,M⟩:=JX (r.ly R.2) hT q (F _) (O.trans<|k2 rfl) Z1 (ts:=[]) (f:=(h.ay R.2).bl p) Z1 rfl (λ_ _=>rfl) (λi x _ hx=>.inl hx)
  (λi j x d A=>((JY r.ok R.2).1.inj p i p j x d A).2) (λi Z d=>by
   obtain⟨a3,rfl⟩:=EI d;exact Z1i (n:=0) hz k1 k4 _ (by rw[k2 rfl];exact a3) rfl)
 exact⟨w',h',H,L.after,K,Wh (ts:=[]) M⟩;rename_i a0;have Y:c.P.cellsOf T=1:=a5.resolve_left a0;split at u;rename_i t ty e hk;split at u;rename_i C;obtain⟨D,_⟩:=C;simp only[Z6f]at u;obtain⟨k,q,rfl⟩:=u;obtain⟨v,hv,⟨y,hy,Q⟩,_⟩:=r.cj (Ys s c) (show look g [] t=_ from hk) rfl;rw[Act.an a t _ hv];have a4:v.cells=#[v]:=by
  obtain⟨l,xs,_,_,_,⟨_,hc⟩,_⟩|⟨_,_,_,_,_,_,_,rfl,_⟩:=Q;obtain⟨rfl,_⟩|⟨_,_,_,rfl,_⟩:=hc<;>rfl;rfl
 obtain⟨w',h',H,K,L,M⟩:=JX r hT q N (v:=v) (by rw[a4,Y];rfl) (by rw[Y];rfl) (ts:=[t]) (f:=λi=>if i=o+1 then h.bl t 1 else h.bl p i) (by simpa using Z8d D)
  (Z6h Z0) (λi d=>Z6h (by simp only[Z7F]at d;omega)) (λi x d hx=>.inr ⟨t,Z1,1,by simp only[Z7F]at d;rw[Z6k Z0]at hx;exact hx⟩) (λi j x d A=>by
   split at d<;>split at A;omega;exact absurd (r.ok.inj t _ p _ x d A).1 D;exact absurd (r.ok.inj t _ p _ x A d).1 D;exact(r.ok.inj p _ p _ x d A).2)
  (λi Z d=>by
   cases i with
   |zero=>simp at d;subst d;rw[Z6k Z0,a4];exact⟨y,hy,Q⟩
   |succ i=>simp at d)
 exact⟨w',h',H,L,K,Wh (ts:=[t]) M⟩;cases u;rename_i hk;simp only[Z6f]at u;obtain⟨k,q,rfl⟩:=u;rw[Q5 r (Ys s c) hk]
 obtain⟨w',h',H,K,L,M⟩:=JX r hT q N (v:=.slice U 0 0) (by rw[Y];rfl) (by rw[Y];rfl) (ts:=[]) (f:=h.bl p) Z1 rfl (λ_ _=>rfl) (λi x _ hx=>.inl hx)
  (λi j x d A=>(r.ok.inj p i p j x d A).2) (λi Z d=>by
   cases i with
   |zero=>simp at d;subst d;exact⟨rfl,rfl⟩
   |succ i=>simp at d)
 exact⟨w',h',H,L,K,Wh (ts:=[]) M⟩;simp only[Z6a,Z6f]at u;obtain⟨R,S,k,q,rfl⟩:=u;obtain⟨z,hz⟩:=a2 _<|List.Mem.head _;obtain⟨a7,X⟩:=D6 hz;have k4:=yK r S a7;obtain⟨O,a6,W⟩:=k4.cells<|D7 X;rw[UY X]at O W
 obtain⟨w',h',H,K,L,M⟩:=JX (r.ly R.2) hT q (F _) (O.trans (by rw[Y];rfl)) (by rw[Y];rfl) (ts:=[]) (f:=(h.ay R.2).bl p) Z1 rfl (λ_ _=>rfl) (λi x _ hx=>.inl hx)
  (λi j x d A=>((JY r.ok R.2).1.inj p i p j x d A).2) (λi Z d=>by
   cases i with
   |zero=>simp at d;subst d;exact⟨z,hz,X,W 0 z rfl⟩
   |succ i=>simp at d)
 exact⟨w',h',H,L.after,K,Wh (ts:=[]) M⟩
end
end Vm
namespace Vm
open Go
open Go.RowKit (Below)
theorem F8{cs b o}(d:o+I b<=I cs):I (setCells cs o b)=I cs/\(∀i,i<I b->(setCells cs o b)[o+i]?=b[i]?)/\∀i,i<o\/o+I b<=i->(setCells cs o b)[i]?=cs[i]? :=by
 unfold setCells;refine⟨Z5j,λi a=> ?_,λi a=> ?_⟩;grind;obtain a|a:=a;grind;rw[Z6v Z5j,Z6C];grind
theorem Z0m{cs b o x}(hx:x∈setCells cs o b):x∈cs\/x∈b:=by
 grind [setCells,List.mem_of_mem_take,List.mem_of_mem_drop]
theorem PJ{y:V}{k o b}(u:y.ah k)(F:∀x∈b,x.aj=xk)(q:b≠[])(a:o+I b<=I y.cells):
  (y.put o b).ah k/\(∀i,i<I b->(y.put o b).cells[o+i]?=b[i]?)/\∀i,i<o\/o+I b<=i->(y.put o b).cells[i]?=y.cells[i]? :=by
 have other:y.cells=[y]->y.put o b=b.headD y->(y.put o b).ah k/\(∀i,i<I b->(y.put o b).cells[o+i]?=b[i]?)/\∀i,i<o\/o+I b<=i->(y.put o b).cells[i]?=y.cells[i]? :=by
  intro w j;have h:I y.cells=1:=by rw[w];rfl
  match b,q,a with
  | [z],_,a=>
    simp only[Z7F]at a;have H:o=0:=Z0;subst H;have A:=F z Z1;have t:y.put 0 [z]=z:=by rw[j];rfl
    rw[t];refine⟨⟨by rw[UY A,<-u.1,h];rfl,λc d=>by simp_all[UY]⟩,λi G=> ?_,λi G=> ?_⟩;have:i=0:=Z5h;subst this;rw[UY A];simp_all[UY,Z6X]
  |z::L::r,_,a=>grind
 cases y with
 |agg p=>
  have g:o+I b<=I p:=a;obtain⟨B,C,D⟩:=F8 g;refine⟨⟨by show I (setCells p o b)=k;rw[B];exact u.1,λc d=> ?_⟩,C,D⟩;obtain d|d:=Z0m (show c∈setCells p o b from d);exact u.2 c d;simp_all
 |am l=>exact other rfl rfl
 |int k n=>exact other rfl rfl
 |bool v=>exact other rfl rfl
 |str v=>exact other rfl rfl
 |sl l=>exact other rfl rfl
 |ptr l=>exact other rfl rfl
 |fn f=>exact other rfl rfl
 |dh f p=>exact other rfl rfl
 |lz k=>exact other rfl rfl
 |mp id ks K=>exact other rfl rfl
theorem FK{x i z u o}(a:Sf x i o z=J u):∃l d q y,x=.sl l/\i=.int d (q:Nat)/\l[q]?=J y/\o+I z.cells<=I y.cells/\z.cells≠[]/\u=.sl (l.set q<|y.put o z.cells):=by
 unfold Sf at a;split at a;rename_i l d i;split at a;rename_i g;obtain⟨q,rfl⟩:=Z6q g;rw[Z6p,Z6a]at a;obtain⟨y,h,a⟩:=a;split at a;rename_i f;simp only[Z6c]at a;exact⟨l,d,q,y,rfl,rfl,h,f.1,f.2,a.symm⟩;grind;grind;grind
section
variable {c:Ctx}{B:Nat}{G:Nat->Prop}{s:St}{a a':Act}{w w':World}{h h':GH}{g:Gam}{C:ZI}{fz ps rb:List Nat}
theorem OwnV.store(Q:Ok B G w h){p i n ty x u v}(hv:OwnV c.P B w h (h.bl p i) ty x v)(L:h.bl p i=J n){ki q off z}(hu:Sf x (.int ki (q:Nat)) off z=J u)
  {T} (hT:YN c.P T=xk) {t} (b8:∀l,z≠.am l) (b7:Rd w h.F z t) (d5:I z.cells=c.P.cellsOf T):
  ∃row,(Instr.storeAt T (.pointer<|J ⟨n,q*c.P.cellsOf ty+off,U⟩) t).run c.P w=.ok () (w.setRow n row)/\OwnV c.P B (w.setRow n row) h (h.bl p i) ty u v:=by
 obtain⟨l,xs,rfl,h0,N,S,C,a9⟩|⟨_,_,_,_,_,_,rfl,_⟩:=hv;case inr=>grind [FK]
 obtain⟨l',d6,d,y,a2,a7,hy,O,a5,rfl⟩:=FK hu;cases a2;simp only[V.int.injEq]at a7;have a8:d=q:=Z0;subst a8;obtain⟨d1,b9,a4⟩:=Q.ax p i n L;obtain⟨X,b2,Y⟩:=b7.cells b8;have a0:=N y<|Z6n hy;obtain⟨f1,f2,f3⟩:=PJ a0 (λx hx=>b2 x hx) a5 O;have hq:d<I l:=(Z6d.1 hy).1;have d2:d*c.P.cellsOf ty+c.P.cellsOf ty<=I l*c.P.cellsOf ty:=by rw[<-Z7s];exact Z6T _ hq
 rw[a0.1]at O;obtain⟨rfl,hn⟩|⟨H,cap,a,rfl,hB,hh,a3,M,b3,b4⟩:=S.2;omega;have a6:H=n:=by
  have:Value.ownBlock (.slice (J ⟨H,0,U⟩) (I l) cap)=J H:=rfl;rw[this,L]at C;cases C;rfl
 subst a6;have c2:I l*c.P.cellsOf ty<=a.size:=by rw[b3];exact Z6T _ a3
 have g:(d*c.P.cellsOf ty+off)+t.cells.size<=a.size:=by rw[X];omega
 refine⟨Wz a (d*c.P.cellsOf ty+off) t.cells,jE hT hh Z0 (λj hj=> ?_) g,?_⟩;have a1:j<I z.cells:=by rw[<-X];exact hj
 have:=Y j z.cells[j]<|Z6b a1;rw[this.ir];simp_all;have k:∀x∈l.set d (y.put off z.cells),x.ah<|c.P.cellsOf ty:=by
  intro x hx;obtain hx|rfl:=Z6Z hx;simp_all;exact f1
 have K:Same h.F w<|w.setRow H<|Wz a (d*c.P.cellsOf ty+off) t.cells:=jI Q _ λx hx e=>a4<|e▸hx;have b0:=jA g;refine .inl ⟨l.set d<|y.put off z.cells,(Wz a (d*c.P.cellsOf ty+off) t.cells).toList.take<|I l*c.P.cellsOf ty,rfl,h0,k,⟨Z5i,.inr ⟨H,cap,_,Z1,hB,Z9H w H a _ ty (0,0) hh,Z5i,M,Z0,Z1⟩⟩,C,λj ck hj=> ?_⟩;obtain⟨f,r,y2,A,hr,rfl,b6⟩:=yi k h0 hj;have W:f<I l:=by simpa using(Z6d.1 A).1
 have c0:f*c.P.cellsOf ty+c.P.cellsOf ty<=I l*c.P.cellsOf ty:=by rw[<-Z7s];exact Z6T _ W
 have d0:f*c.P.cellsOf ty+r< (Wz a (d*c.P.cellsOf ty+off) t.cells).size:=by rw[b0];omega
 refine⟨(Wz a (d*c.P.cellsOf ty+off) t.cells).getD (f*c.P.cellsOf ty+r) xy,?_,?_⟩;rw[Z6O,Z6k Z0,Z7n];simp_all
 ·
  have d7:∀y0,l[f]?=J y0->y0.cells[r]?=J ck->(f*c.P.cellsOf ty+r<d*c.P.cellsOf ty+off\/d*c.P.cellsOf ty+off+t.cells.size<=f*c.P.cellsOf ty+r)->
    Rd (w.setRow H<|Wz a (d*c.P.cellsOf ty+off) t.cells) h.F ck ((Wz a (d*c.P.cellsOf ty+off) t.cells).getD (f*c.P.cellsOf ty+r) xy):=by
   intro y0 d3 d4 R;obtain⟨u0,Z,b1⟩:=a9 (f*c.P.cellsOf ty+r) ck (by simp_all[UO]);rw[LM g R];have:a.getD (f*c.P.cellsOf ty+r) xy=u0:=by
    rw[<-b4,Z6O,Z6k Z0]at Z;have b5:a[f*c.P.cellsOf ty+r]?=J u0:=by simpa using Z
    simp[Z6g,b5]
   rw[this];exact b1.keep K λ_ C=>C
  by_cases D:f=d;subst D;rw[Z7b hq]at A;cases A;by_cases c7:off<=r/\r<off+I z.cells;have h2:=f2 (r-off) Z0;rw[show off+(r-off)=r from by omega,b6]at h2;have h3:=jz g (i:=r-off) Z0;rw[show f*c.P.cellsOf ty+off+(r-off)=f*c.P.cellsOf ty+r from by omega]at h3;rw[h3];exact(Y (r-off) ck h2.symm).keep K λ_ C=>C;grind;rw[Z6W<|Z8d D]at A;have c1:f*c.P.cellsOf ty+c.P.cellsOf ty<=d*c.P.cellsOf ty\/d*c.P.cellsOf ty+c.P.cellsOf ty<=f*c.P.cellsOf ty:=by
   obtain o|o:=Z89 D;left;rw[<-Z7s];exact Z6T _ o;right;rw[<-Z7s];exact Z6T _ o
  grind
theorem NY(hr:RelG c B G s a w h g){T}(hT:YN c.P T=xk)(b6:Y9 c.P T=xk\/c.P.cellsOf T=1){p off kk i j x m}(o:qh c g T p i j off kk x=J m)(a1:∀e∈m.es,∃z,eval s e=J z)
  {n q} (a0:h.bl p (S9 i)=J n) {ki} (hj:eval s j=J (.int ki (q:Nat))):
  ∃w' h',(Instr.storeAt T (.pointer<|J ⟨n,q*kk+off,U⟩)<|a.eval x).run c.P w=.ok () w'/\MPost c B G s a w w' h h' m:=by
 unfold qh at o;simp only[Z6a]at o;obtain⟨O,a6,o⟩:=o;split at o;cases o;rename_i b1;have a4:p∉O.2:=by simpa using b1
 have S:∀i,(h.ay O.2).bl p i=h.bl p i:=λi=>by simp[GH.ay,a4]
 have d:=hr.ly O.2;have M:∀ {e1 e2:E} {u:V},eval s (.gl e1 j off e2)=J u->∃y z,eval s e1=J y/\eval s e2=J z/\Sf y (.int ki (q:Nat)) off z=J u:=by
  intro e1 e2 u N;simp only[eval,hj,Z6s,Z6a]at N;obtain⟨y,hy,z,Z,N⟩:=N;exact⟨y,z,hy,Z,N⟩
 have zs:∀ {z:V},eval s (WL (Y9 c.P T) (c.P.cellsOf T) O.1)=J z->(∀l,z≠.am l)/\Rd w (h.ay O.2).F z (a.eval x)/\I z.cells=c.P.cellsOf T:=by
  intro z Z;obtain⟨k1,k2,k3,k4⟩:=yL hr a6 Z;refine⟨k1,k4,?_⟩;cases b7:Y9 c.P T with
  |true=>grind
  |false=>
   simp_all[UY]
 split at o;simp only[Z6a]at o;obtain⟨⟨ty,e⟩,ho,o⟩:=o;split at o;rename_i Q;simp only[Z6c]at o;subst o;simp only at Q;subst Q;obtain⟨v,hv,y,hy,C⟩:=d.fk ho;obtain⟨u,N⟩:=a1 _<|List.Mem.head _;obtain⟨y',z,L,Z,K⟩:=M N;rw[hy]at L;cases L;obtain⟨k1,k2,k3⟩:=zs Z;have f:(h.ay O.2).bl p 1=J n:=by rw[S];exact a0
 obtain⟨row,H,D⟩:=C.store d.ok f K hT k1 k2 k3;obtain⟨Y,a3,_⟩:=d.ok.ax p 1 n f
 refine⟨_,h.ay O.2,H,Step.after ⟨below_setRow w Y _,λx hx hn=>Z7Y w n x _ λe=>hn p Z1 1<|e▸f,λ_ r=>r,λ_ _ _=>rfl,λ_ _=>rfl,λ_ _ _ _ o=>(by simp at o),rfl⟩,
  ⟨by simp;exact d.ok.V,λb r=>(by simp;exact d.ok.cd b r),d.ok.dl,d.ok.gs,λt i b r=>(by simp;exact d.ok.ax t i b r),d.ok.inj,λb r=>(by simp;exact d.ok.cw b r),d.ok.cl,d.ok.fw⟩,Wh (ts:=[]) ⟨v,hv,u,N,D⟩⟩
 cases o;rename_i q0;simp only[Z6a]at o;obtain⟨cs,W,o⟩:=o;split at o;rename_i ty e0 hc;split at o;rename_i Q;subst Q;simp only[Z6f]at o;obtain⟨k,a5,rfl⟩:=o;obtain⟨b5,A,a8,rfl⟩:=JE a5;rw[W]at A;cases A;obtain⟨b,vs,b4,R,b3,hh,X⟩:=d.dc W;obtain⟨y,hy,C⟩:=X.2 q0 _ hc;obtain⟨u,N⟩:=a1 _<|List.Mem.head _;obtain⟨y',z,L,Z,K⟩:=M N;rw[hy]at L;cases L;obtain⟨k1,k2,k3⟩:=zs Z;have f:(h.ay O.2).bl p (q0+1)=J n:=by rw[S];exact a0
 obtain⟨row,H,D⟩:=C.store d.ok f K hT k1 k2 k3;obtain⟨Y,a3,a9⟩:=d.ok.ax p (q0+1) n f;have b8:b≠n:=λe=>by
  subst e;have:=(d.ok.inj p 0 p (q0+1) b R f).2;omega
 obtain⟨b2,a2⟩:=LR a8
 refine⟨_,h.ay O.2,H,Step.after ⟨below_setRow w Y _,λx hx hn=>Z7Y w n x _ λe=>hn p Z1 (q0+1)<|e▸f,λ_ r=>r,λ_ _ _=>rfl,λ_ _=>rfl,λ_ _ _ _ o=>(by simp at o),rfl⟩,
  ⟨by simp;exact d.ok.V,λb r=>(by simp;exact d.ok.cd b r),d.ok.dl,d.ok.gs,λt i b r=>(by simp;exact d.ok.ax t i b r),d.ok.inj,λb r=>(by simp;exact d.ok.cw b r),d.ok.cl,d.ok.fw⟩,
  Wh (ts:=[]) ⟨_,b3,b,vs,b4,R,rfl,by simp_all[Z7Y],by rw[X.1,b2],λi ck hi=> ?_⟩⟩
 obtain⟨h1,h2,h3⟩|⟨h1,h3⟩:=a2 i ck hi;have a7:i=q0:=by simp only[Z7F]at h2;omega
 subst a7;simp at h3;subst h3;exact⟨u,N,D⟩;refine(X.2 i ck h3).keep (jI d.ok _ λx hx e=>a9<|e▸hx) (λ_ r=>r) λx hx=>Z7Y w n x _ λe=> ?_;subst e;have:=(d.ok.inj p (i+1) p (q0+1) x hx f).2;grind;cases o;cases o
theorem GZ{x i u z n k}(d:Ua x i n k z=J u):∃a f j,x=.agg a/\i=.int f (j:Nat)/\j<n/\I a=n*k/\I z.cells=k/\u=.agg (setCells a (j*k) z.cells):=by
 unfold Ua at d;split at d;rename_i a f i;split at d;rename_i o;obtain⟨g,p,h,l⟩:=o;obtain⟨j,rfl⟩:=Z6q g;simp only[Z6p,Z6c]at d;exact⟨a,f,j,rfl,rfl,Z0,h,l,d.symm⟩;grind;grind
theorem NX(hr:RelG c B G s a w h g){T}(hT:YN c.P T=xk){p o n d j x m}(D:qg c g T p o j n d x=J m)(a8:∀e∈m.es,∃z,eval s e=J z)
  {b q} (Z:h.bl p 0=J b) {ki} (hj:eval s j=J (.int ki (q:Nat))) (hq:q<n):
  ∃w' h',(Instr.storeAt T (.pointer<|J ⟨b,o+q*d,U⟩)<|a.eval x).run c.P w=.ok () w'/\MPost c B G s a w w' h h' m:=by
 unfold qg at D;simp only[Z6a]at D;obtain⟨b0,a6,D⟩:=D;split at D;cases D;rename_i H;simp only[Z6z,Z7D,Z6J,Z9O,Decidable.not_not,Z8N,Z8B]at H;obtain⟨d5,hk⟩:=H;simp only[Z6a]at D;obtain⟨cs,O,D⟩:=D;split at D;rename_i X;obtain⟨a3,a2⟩:=X;simp only[Z6f]at D;obtain⟨k,a4,rfl⟩:=D;obtain⟨d0,K,b1,rfl⟩:=JE a4;rw[O]at K;cases K;obtain⟨b',C,ty,h1,b7,hh,R⟩:=hr.dc O;rw[Z]at h1;cases h1;obtain⟨u,hu⟩:=a8 _<|List.Mem.head _;have b8:=hu;simp only[eval,hj,Z6s,Z6a]at hu;obtain⟨y,hy,z,hz,hu⟩:=hu;obtain⟨l,e4,r,rfl,b3,b4,a0,c1,rfl⟩:=GZ hu;have b5:r=q:=by simp only[V.int.injEq]at b3;omega
 subst b5;obtain⟨k1,k2,k3,k4⟩:=yL hr a6 hz;have hF:∀b,(h.ay b0.2).F b->h.F b:=by
  intro b Y;obtain Y|⟨t,ht,_⟩:=Y;exact Y;simp_all
 have k4:=k4.mono hF;obtain⟨a5,d4,b6⟩:=k4.cells k1;have b2:Wd ((cs.drop o).take<|n*d)=xw:=by
  simp only[Wd,Z8O,Z8S,Z8E,Z9L];intro ck Q hd;have:=Z6y.1 a2 ck Q;rw[hd]at this;simp at this
 have d3:U9 ((cs.drop o).take<|n*d)=xw:=by
  simp only[U9,Z8O,Z8S];intro ck Q;have:=Z6y.1 a2 ck Q;simp only[Z71]at this;rw[this]
 obtain⟨xs,d7,d8,d9,b9,e0⟩:=R.iy a3 b2 (G':=h.F) (λ_ Y=>Y) (λho=>Z5i);have c2:r*d+d<=n*d:=by rw[<-Z7s];exact Z6T _ b4
 have S:0<n*d\/n*d=0:=Z0;have a7:l=xs:=by
  obtain c7|c0:=S;grind [eval,Us,zX,Option.some.injEq,V.agg.injEq];simp_all
 subst a7;have d6:(a.eval x).cells.size=d:=by rw[a5,c1]
 have d2:o+n*d<=C.size:=by
  have:=R.1;simp only[Z7O,Z9s]at a3;omega
 have A:(o+r*d)+(a.eval x).cells.size<=C.size:=Z0;have N:∀i (y:V),l[i]?=J y->y.aj=xk/\Rd w h.F y (C.getD (o+i) xy):=by
  intro i y M;have W:i<n*d:=by rw[<-a0];exact(Z6d.1 M).1
  cases b9 with
  |agg _ _ e1 e2 e3=>
   have:=e3 i y M;have hg:((C.toList.drop o).take<|n*d).toArray.getD i xy=C.getD (o+i) xy:=by
    simp only[Z6g,Z7E,Z6O,Z6k W,Z6C,Z7n]
   grind
 obtain⟨g1,g2,g3⟩:=F8 (cs:=l) (b:=z.cells) (o:=r*d) Z0
 obtain⟨h',e1,e2,e3⟩:=Fu (row:=Wz C (o+r*d) (a.eval x).cells) (new:=(List.range<|n*d).map λi=>(CK.fz,E.ac (E.dk (if Us (c.ix p) o ((cs.drop o).take<|n*d)=xk then E.mm (c.ix p) o (n*d)else .ag (((cs.drop o).take<|n*d).map (·.2))) j n d<|WL (Y9 c.P T) (c.P.cellsOf T) b0.1) i)) hr.ok Z hh R (jA A) b1 (λi M=>LM A Z5h) (ts:=[]) (f:=h.bl p) Z1 rfl (λ_ _=>rfl) (λi x _ hx=>.inl hx)
  (λi j x M hj=>(hr.ok.inj p i p j x M hj).2) (λi ck M=>by
   obtain⟨W,rfl⟩:=EI M;have a1:i< I (setCells l (r*d) z.cells):=by rw[g1,a0];exact W
   have key:((setCells l (r*d) z.cells)[i]).aj=xk/\Rd w h.F (setCells l (r*d) z.cells)[i] ((Wz C (o+r*d) (a.eval x).cells).getD (o+i) xy):=by
    have L:(setCells l (r*d) z.cells)[i]?=J (setCells l (r*d) z.cells)[i]:=Z6b a1;by_cases d1:r*d<=i/\i<r*d+d;have h2:=g2 (i-r*d) Z0;rw[show r*d+(i-r*d)=i from by omega,L]at h2;have h3:=jz A (i:=i-r*d) Z0;rw[show o+r*d+(i-r*d)=o+i from by omega]at h3;grind;have h2:=g3 i Z0;rw[L]at h2;rw[LM A Z0];exact N i _ h2.symm
   refine⟨_,?_,key.1,key.2⟩;refine Eq.trans (b:=(J<|V.agg<|setCells l (r*d) z.cells).bind λy=>Ya y i) (Z7J (λy=>Option.bind y λy=>Ya y i) b8) ?_;show((setCells l (r*d) z.cells)[i]?).bind YS=_;rw[Z6b a1,Z6s];unfold YS;grind) (λp=>a.tmps[p]?)
 exact⟨_,h',jE hT hh Z0 (λi M=>by
  have a9:i<I z.cells:=by rw[<-a5];exact M
  rw[(b6 i _<|Z6b a9).ir];simp_all) A,e2,e1,Wh (ts:=[]) ⟨_,b7,e3⟩⟩
 cases D
end
end Vm
namespace Vm
open Go
open Go.RowKit (Below)
open Go.MapKept (IsKey bytes_beq sameNow_of_keys run_checkKey run_findKey run_keyThatStays)
def WJ(w:World)(b:Nat)(o:Obj):World:= {w with heap:=w.heap.setIfInBounds b o}
theorem LQ w b o:xz (xj<|WJ w b o)=xz (xj w):=by simp[WJ]
theorem JO w b x o(h:x≠b):(WJ w b o).heap[x]?=w.heap[x]? :=by
 simp[WJ,Z8g<|Z8d h]
theorem Z0l{w b}o(h:b<xz (xj w)):(WJ w b o).heap[b]?=J o:=by
 simp[WJ,h]
theorem Hg{B}w{b}o(h:B<=b):Below B w<|WJ w b o:=
 ⟨rfl,rfl,rfl,by simp[WJ],λx hx=>JO w b x o Z0⟩
section
variable {c:Ctx}{B:Nat}{G:Nat->Prop}{s:St}{a a':Act}{w w':World}{h h':GH}{g:Gam}{C:ZI}{fz ps rb:List Nat}
theorem NQ(n:RelG c B G s a w h g){d T x m}(Z:d<a.tmps.size)(q:qc c g d T x=J m):
  ∃v w' h',(Instr.box T<|a.eval x).run c.P w=.ok v w'/\MPost c B G s (a.put (J d) v) w w' h h' m:=by
 unfold qc at q;split at q
 .rename_i t ty e C;split at q
  .rename_i p;obtain⟨W,_⟩:=p;simp only[Z6c]at q;subst q;obtain⟨v,X,⟨y,hy,A⟩,_⟩:=n.cj (Ys s c) (show look g [] t=_ from C) rfl;rw[Act.an a t v X];have M:v.cells=#[v]:=by
    obtain⟨l,xs,_,_,_,⟨_,hc⟩,_⟩|⟨_,_,_,_,_,_,_,rfl,_⟩:=A;obtain⟨rfl,_⟩|⟨_,_,_,rfl,_⟩:=hc<;>rfl;rfl
   have z:=Z7o w (.cells v.cells T) U;have S:xz (xj<|w.alloc<|.cells v.cells T)=xz (xj w)+1:=Z1;have Q:Same h.F w<|w.alloc<|.cells v.cells T:=λb f=>z.block b (n.ok.cd b f) Z1
   refine⟨.pointer<|J ⟨xz<|xj w,0,U⟩,_,h.put d (λi=>if i=0 then J (xz<|xj w) else if i=1 then h.bl t 1 else U)<|Wi h [t],by simp[Instr.box,jC],
    Tv (Rv n.ok z) (λb f _=>z.block b f Z1) Z1 (λu D=>by simp at D;subst D;simp) (λR=>by simp at R),
    n.ok.put Z0 (λu i b _ f=>(WT f).1) (λi b f=> ?_) (λi j b k o=> ?_) (λi b u j D k o=> ?_),Wh (ts:=[t]) ⟨_,Vq Z _,xz<|xj w,v.cells,T,by simp[GH.put],rfl,Z6u w _,by rw[M];rfl,λi Y k=> ?_⟩⟩
   split at f;simp only[Z6c]at f;subst f;exact .inl ⟨Z6i _,Z0⟩;split at f;exact .inr ⟨t,1,f⟩;cases f
   .have r:∀ {b},h.bl t 1=J b->b<xz (xj w):=λf=>(n.ok.ax t 1 _ f).2.1;split at k<;>split at o<;>(try split at k)<;>(try split at o)<;>first|(cases k;done)|(cases o;done)|omega|skip
    simp only[Z6c]at k;subst k;have:=r o;omega;simp only[Z6c]at o;subst o;have:=r k;omega
   obtain⟨H,O⟩:=WT o;split at k;simp only[Z6c]at k;subst k;have:=(n.ok.ax u j _ H).2.1;omega;split at k;exact O (by simp[(n.ok.inj t 1 u j b k H).1]);cases k;cases i with
   |zero=>
    simp at k;subst k;refine⟨y,hy,?_⟩;have L:v.cells.getD 0 xy=v:=by rw[M];rfl
    rw[L];have C:=A.keep (h':=h.put d (λi=>if i=0 then J (xz<|xj w) else if i=1 then h.bl t 1 else U)<|Wi h [t]) Q (λ_ f=>f) λb f=>z.block b (n.ok.ax t 1 b f).2.1 Z1;simpa[GH.put]using C
   |succ i=>simp at k
  cases q
 rename_i t cs C;split at q;rename_i p;obtain⟨W,_⟩:=p;simp only[Z6c]at q;subst q;obtain⟨v,X,⟨N,rfl,K⟩,_⟩:=n.cj (Ys s c) (show look g [] t=_ from C) rfl;rw[Act.an a t _ X];have z:=Z7o w (.cells (Value.agg N).cells T) U;have S:xz (xj<|w.alloc<|.cells (Value.agg N).cells T)=xz (xj w)+1:=Z1;have Q:Same h.F w<|w.alloc<|.cells (Value.agg N).cells T:=λb f=>z.block b (n.ok.cd b f) Z1;have r:∀ {i b},h.bl t i=J b->b<xz (xj w):=λf=>(n.ok.ax t _ _ f).2.1
 refine⟨.pointer<|J ⟨xz<|xj w,0,U⟩,_,h.put d (λi=>if i=0 then J (xz<|xj w) else h.bl t i)<|Wi h [t],by simp[Instr.box,jC],
  Tv (Rv n.ok z) (λb f _=>z.block b f Z1) Z1 (λu D=>by simp at D;subst D;simp) (λR=>by simp at R),
  n.ok.put Z0 (λu i b _ f=>(WT f).1) (λi b f=> ?_) (λi j b k o=> ?_) (λi b u j D k o=> ?_),Wh (ts:=[t]) ⟨_,Vq Z _,xz<|xj w,N,T,by simp[GH.put],rfl,Z6u w _,K.1,λi Y k=> ?_⟩⟩
 split at f;simp only[Z6c]at f;subst f;exact .inl ⟨Z6i _,Z0⟩;exact .inr ⟨t,i,f⟩;split at k<;>split at o;omega;simp only[Z6c]at k;subst k;have:=r o;omega;simp only[Z6c]at o;subst o;have:=r k;omega;exact(n.ok.inj t i t j b k o).2;obtain⟨H,O⟩:=WT o;split at k;simp only[Z6c]at k;subst k;have:=(n.ok.ax u j _ H).2.1;omega;exact O (by simp[(n.ok.inj t i u j b k H).1]);have C:=(K.2 i Y k).keep (h':=h.put d (λi=>if i=0 then J (xz<|xj w) else h.bl t i)<|Wi h [t]) Q (λ_ f=>f) λb f=>z.block b (n.ok.ax t (i+1) b f).2.1 Z1;simpa[GH.put]using C;cases q;cases q
def Pq(c:Ctx)(B:Nat)(s:St)(a:Act)(w:World)(h:GH)(g:Gam)(p:Nat)(ty:TypeId)(e:E)(v:Value):Option Nat->Prop
 |none=>a.tmps[p]?=J v
 |some j=>∃d,memOf g p=J d/\d[j]?=J (.own ty,e)/\∃b f T,h.bl p 0=J b/\a.tmps[p]?=J (.pointer<|J ⟨b,0,U⟩)/\w.heap[b]?=J (.cells f T (0,0))/\RelCs c.P B s w h p d f/\f.getD j xy=v
theorem NC(z:RelG c B G s a w h g){x p i ty e}(f:yY g x=J (p,i,ty,e)):
  ∃X,eval s e=J X/\OwnV c.P B w h (h.bl p<|S9 i) ty X (a.eval x)/\Pq c B s a w h g p ty e (a.eval x) i:=by
 unfold yY at f;split at f;rename_i t C F y;split at f;simp only[Z6c,Z6t]at f;obtain⟨rfl,rfl,rfl,rfl⟩:=f;obtain⟨v,A,⟨X,u,d⟩,_⟩:=z.cj (Ys s c) (show look g [] t=_ from y) rfl;rw[Act.an a t v A];exact⟨X,u,d,A⟩;cases f;rename_i x _ _ q y;simp only[Z6f]at f;obtain⟨⟨C,F⟩,Q,f⟩:=f;simp only[Z6t]at f;obtain⟨rfl,rfl,rfl,rfl⟩:=f;obtain⟨v,A,X,u,d⟩:=z.fk Q;have l:a.tmps[q]?=J (a.eval x):=XD z (Ys s c) y rfl 0;rw[A]at l;simp only[Z6c]at l;rw[<-l];exact⟨X,u,d,A⟩;rename_i x _ _ q j y;simp only[Z6a]at f;obtain⟨N,o,f⟩:=f;split at f;rename_i C F M;simp only[Z6c,Z6t]at f;obtain⟨rfl,rfl,rfl,rfl⟩:=f;obtain⟨b,D,T,H,O,K,L⟩:=z.dc o;obtain⟨X,u,d⟩:=L.2 j _ M;obtain⟨R,r,k⟩:∃b,h.bl q 0=J b/\w.cell? ⟨b,j,U⟩=J (a.eval x):=XD z (Ys s c) y rfl 0;rw[H]at r;cases r;rw[Z6j w b j D T (0,0) K]at k;have n:D.getD j xy=a.eval x:=by simp[Z6g,k]
 rw[n]at d;exact⟨X,u,d,N,o,M,b,D,T,H,O,K,L,n⟩;cases f;cases f
theorem Cw(H:RelG c B G s a w h g)(ha:a'.tmps=a.tmps){T x f m}(K:L4 g T x f=J m)(a9:∀e∈m.es,∃z,eval s e=J z)
  (R:∀e z,eval s (f e)=J z->∃X,eval s e=J X/\∃id ks S,X=.mp id ks S):
  ∃e id ks S b O N,eval s e=J (.mp id ks S)/\(∃z,eval s (f e)=J z)/\a.eval x=.map (J b)/\w.heap[b]?=J (.map O N)/\I ks=O.size/\I S=O.size/\
   (∀i c,ks[i]?=J c->Rd w h.F c (O.getD i default).key)/\(∀i c,S[i]?=J c->Rd w h.F c (O.getD i default).val)/\
   ∀o r d n,eval s (f e)=J (.mp id o r)->I o=d.size->I r=d.size->(∀i c,o[i]?=J c->Rd w h.F c (d.getD i default).key)->(∀i c,r[i]?=J c->Rd w h.F c (d.getD i default).val)->
    MPost c B G s a' w (WJ w b<|.map d n) h h m:=by
 unfold L4 at K;simp only[Z6a]at K;obtain⟨⟨p,i,ty,e⟩,a8,K⟩:=K;split at K;rename_i a2;simp only at a2;subst a2;simp only[Z6f]at K;obtain⟨k,D,rfl⟩:=K;obtain⟨X,hX,a1,u⟩:=NC H a8;obtain⟨z,hz⟩:=a9 _<|List.Mem.head _;obtain⟨X',W,id,ks,S,rfl⟩:=R e z hz;rw[hX]at W;cases W;obtain⟨l,_,hl,_⟩|⟨c0,o,r,b,O,N,a7,hv,M,hB,b1,hh,h1,h2,h3,h4⟩:=a1;cases hl;cases a7;refine⟨e,id,ks,S,b,O,N,hX,⟨z,hz⟩,hv,hh,h1,h2,h3,h4,λo r d n he a3 a4 a5 a6=> ?_⟩;obtain⟨b8,b4,b5⟩:=H.ok.ax p (S9 i) b M;have hF:Same h.F w<|WJ w b<|.map d n:=λy L=>JO w b y _ λe=>b5<|e▸L;have C:OwnV c.P B (WJ w b<|.map d n) h (h.bl p<|S9 i) ty (.mp id o r)<|a.eval x:=
  .inr ⟨id,o,r,b,d,n,rfl,hv,M,hB,b1,Z0l _ b4,a3,a4,λi c Z=>(a5 i c Z).keep hF λ_ Q=>Q,λi c Z=>(a6 i c Z).keep hF λ_ Q=>Q⟩
 refine⟨⟨Hg w _ hB,λy L hn=>JO w b y _ λe=>hn p Z1 (S9 i)<|e▸M,λ_ Q=>Q,λ_ _ _=>rfl,λ_ _=>rfl,λ_ _ _ _ K=>(by simp at K),rfl⟩,
  ⟨by grind [LQ],λy L=>by rw[LQ];exact H.ok.cd y L,H.ok.dl,H.ok.gs,λt j y L=>by rw[LQ];exact H.ok.ax t j y L,H.ok.inj,λy L=>by rw[LQ];exact H.ok.cw y L,H.ok.cl,H.ok.fw⟩,?_⟩
 obtain _|j:=i;simp only[EC,Z6c]at D;subst D;exact Wh (ts:=[]) ⟨_,by rw[ha];exact u,_,he,C⟩;obtain⟨cs,a0,hc,b0,vs,T',e1,e2,e3,e4,e5⟩:=u;obtain⟨b7,A,b3,rfl⟩:=JE D;rw[a0]at A;cases A;have b9:b0≠b:=λe=>by
  simp_all
 obtain⟨b6,Y⟩:=LR b3;refine Wh (ts:=[]) ⟨_,Z5i,b0,vs,T',e1,rfl,by simp_all[JO],by rw[e4.1,b6],λq ck Z=> ?_⟩;obtain⟨q1,q2,q3⟩|⟨q1,q3⟩:=Y q ck Z;have b2:q=j:=by simp only[Z7F]at q2;omega
 subst b2;simp at q3;subst q3;exact⟨_,he,by rw[e5];exact C⟩;refine(e4.2 q ck q3).keep hF (λ_ Q=>Q) λy L=>JO w b y _ λe=> ?_;subst e;have:=(H.ok.inj p (q+1) p (j+1) y L M).2;grind;cases K
theorem NS(A:RelG c B G s a w h g)(y:a'.tmps=a.tmps){T ty x m}(f:qe c g T x=J m)(n:∀e∈m.es,∃z,eval s e=J z):
  ∃v w' h',(Builtin.clear_ #[T] ty #[a.eval x]).run c.P w=.ok v w'/\MPost c B G s a' w w' h h' m:=by
 unfold qe at f;split at f;rename_i k;unfold yF at k;split at k;rename_i M C l;obtain⟨e,id,ks,N,b,D,d,q,_,r,p,F,H,K,L,t⟩:=Cw A y f n λe z j=>by
  simp only[eval,Z6a]at j;obtain⟨X,u,j⟩:=j;refine⟨X,u,?_⟩;cases X<;>simp[J6]at j;simp
 refine⟨.tuple #[],WJ w b<|.map #[] d,h,?_,t [] [] #[] d (by simp[eval,q,J6]) rfl rfl (λi c o=>by simp at o) (λi c o=>by simp at o)⟩;rw[r];simp[Builtin.clear_,Z6M l,Z7Q p,Z8L _ p,Result.andThen,WJ];cases k;cases f
theorem NW(hr:RelG c B G s a w h g)(ha:a'.tmps=a.tmps){T x k v m}(r:qf c g T x k v=J m)(a0:∀e∈m.es,∃z,eval s e=J z):
  ∃w' h',(Instr.mapUpdate T (a.eval x) (a.eval k)<|a.eval v).run c.P w=.ok () w'/\MPost c B G s a' w w' h h' m:=by
 unfold qf at r;split at r;rename_i kt el hT;simp only[Z6a]at r;obtain⟨kc,a3,ek,hk,ev,hv,r⟩:=r;split at r;cases r;rename_i N;have a5:ev.2=[]:=by simpa using N
 obtain⟨kv,O,q⟩:=Wv hr (Ys s c) hk;obtain⟨vv,Q,p⟩:=Wv hr (Ys s c) hv;rw[a5]at p;have p:=p.F;obtain⟨e,id,ks,xs,b,y,u,h1,⟨z,f⟩,h3,S,L,Z,W,h8,h9⟩:=Cw hr ha r a0 λe z f=>by
  simp only[eval,O,Q,Z6s,Z6a]at f;obtain⟨X,hX,f⟩:=f;obtain⟨_,_,_,_,_,rfl,_⟩:=CH f;exact⟨_,hX,_,_,_,rfl⟩
 have R:=f;simp only[eval,h1,O,Q,Z6s]at f;unfold Tl at f;split at f;cases f;rename_i o;have o:Vl kc kv=xk:=by simpa using o
 have H:=BZ a3;have t:=J2 o q;have a2:Rd w h.F kv<|a.eval k:=q.io (by cases kc<;>cases kv<;>simp[Vl,V.bq]at o⊢);have M:=Z97 (w:=w) H t;have a4:=run_keyThatStays (P:=c.P) (w:=w) t;simp only at f;rw[h3];split at f;rename_i j hf;obtain⟨en,e1,e2,Y⟩:=QP (w2:=w) (G'':=h.F) o q hf (l:=y.toList) (by simpa using L) (λi c d=>by simpa[Z6g]using W i c d) 0;simp only[Z6c]at f;subst f;have D:y[j]?=J en:=by simpa using e1
 have a1:j<y.size:=(Z6N.1 D).1;have A:=Z8Y (w:=w) H Y;refine⟨WJ w b<|.map (y.modify j λe=> {e with key:=a.eval k,val:=a.eval v}) u,h,?_,h9 _ _ _ _ R (by simpa using L) (by simpa using Z) (λi c d=> ?_)<|λi c d=> ?_⟩;have:y[j]=en:=by rw[Z8a a1]at D;simpa using D
 simp[Instr.mapUpdate,Z6M hT,Z7Q S,M,A,D,this,e2,a4,Z8L _ S,Result.andThen,WJ];have:=W i c d;rw[Z6g,Z6I];rw[Z6g]at this;by_cases n:j=i;subst n;rw[D]at this;simp only[Z7m,D,Z8i,Z6K];simp only[Z6K,e2]at this;exact this;rw[Z6h n];exact this;rw[Z6g,Z6I];by_cases n:j=i;subst n;simp only[Z7m,D,Z8i,Z6K];rw[Z7b Z0]at d;cases d;exact p;rw[Z6h n];rw[Z6W n]at d;have:=h8 i c d;rw[Z6g]at this;exact this;rename_i hf;have Y:=QP (w2:=w) (G'':=h.F) o q hf (l:=y.toList) (by simpa using L) (λi c d=>by simpa[Z6g]using W i c d) 0;simp only[Z6c]at f;subst f;have A:=Z8Y (w:=w) H Y;refine⟨WJ w b<|.map (y.push {key:=a.eval k,val:=a.eval v,born:=u})<|u+1,h,?_,h9 _ _ _ _ R (by simp[L]) (by simp[Z]) (λi c d=> ?_)<|λi c d=> ?_⟩;simp[Instr.mapUpdate,Z6M hT,Z7Q S,M,A,Z8L _ S,Result.andThen,WJ];rw[Z6g,Array.getElem?_push];by_cases K:i<I ks;rw[Z6B K]at d;rw[Z6h Z0];have:=W i c d;rw[Z6g]at this;exact this;rw[Z6v Z0]at d;have C:i=I ks:=by
  have:=(Z6d.1 d).1;simp at this;omega
 subst C;simp at d;subst d;rw[Z6k L];exact a2;rw[Z6g,Array.getElem?_push];by_cases K:i<I xs;rw[Z6B K]at d;rw[Z6h Z0];have:=h8 i c d;rw[Z6g]at this;exact this;rw[Z6v Z0]at d;have C:i=I xs:=by
  have:=(Z6d.1 d).1;simp at this;omega
 subst C;simp at d;subst d;rw[Z6k Z];exact p;cases f;cases r
end
end Vm
namespace Vm
open Go
open Go.RowKit (Below)
theorem JV:∀ {cs} {a:List Nat} {i t:Nat},YW cs a i=J t->t∈a
 | [],_,_,_,h=>by simp[YW]at h
 | (k,e)::cs,a,i,t,h=>by
   cases k with
   |own d=>
    obtain _|⟨u,a⟩:=a;simp[YW]at h;cases i with
    |zero=>simp[YW]at h;simp[h]
    |succ i=>exact Z76 _<|JV (by simpa[YW]using h)
   |_=>
    cases i with
    |zero=>simp[YW]at h
    |succ i=>exact JV (by simpa[YW]using h)
theorem jP:∀ {cs} {a:List Nat} {i j t:Nat},a.Nodup->YW cs a i=J t->YW cs a j=J t->i=j
 | [],_,_,_,_,_,h,_=>by simp[YW]at h
 | (k,e)::cs,a,i,j,t,d,h,h'=>by
   cases k with
   |own l=>
    obtain _|⟨u,a⟩:=a;simp[YW]at h;obtain⟨g,f⟩:=Z83.1 d;cases i with
    |zero=>
     cases j with
     |zero=>rfl
     |succ j=>
      grind [YW,absurd,JV]
    |succ i=>
     cases j with
     |zero=>
      grind [YW,absurd,JV]
     |succ j=>exact Z7J (· +1)<|jP f (by simpa[YW]using h) (by simp_all[YW])
   |_=>
    cases i with
    |zero=>simp[YW]at h
    |succ i=>
     cases j with
     |zero=>simp[YW]at h'
     |succ j=>exact Z7J (· +1)<|jP d (by simpa[YW]using h) (by simp_all[YW])
section
variable {c:Ctx}{B:Nat}{G:Nat->Prop}{s:St}{a a':Act}{w w':World}{h h':GH}{g:Gam}{C:ZI}{fz ps rb:List Nat}
theorem NR(hr:RelG c B G s a w h g){T}{parts:Array (Nat×Operand)}{d}(hd:d<a.tmps.size){m}(o:qd c g d T parts.toList=J m)(W:∀e∈m.es,∃z,eval s e=J z):
  ∃v h',(Instr.build T<|parts.map λ(i,x)=>(i,a.eval x)).run c.P w=.ok v w/\MPost c B G s (a.put (J d) v) w w h h' m:=by
 unfold qd at o;simp only[Z6a]at o;obtain⟨fs,hT,zs,hz,b,C,o⟩:=o;split at o;cases o;rename_i k;simp only[Z6z,Z7D,Z9O,Z7M,not_exists,not_and,Z8N]at k;obtain⟨K,D⟩:=k;have D:=qr D;have K:∀t∈b.2.2,t∉b.2.1/\t≠d:=by
  intro t N;have:=K t N;simp only[Z8e,Z6J,Z71]at this;exact⟨this.1.1,this.1.2⟩
 simp only[Z6c]at o;subst o;obtain⟨z,a2⟩:=W _<|List.Mem.head _;have q:=a2;simp only[eval,Z6f]at q;obtain⟨xs,a1,a4⟩:=q;obtain⟨hl,hx⟩:=Ud a1
 obtain⟨vs,H,a0,Z,r⟩:=EW hr (Ys s c) hT hz C (λL S=>by
  obtain⟨i,n⟩:=Z6A S;obtain⟨x,_,he⟩:=hx i L.2 Z5i;simp_all)
 obtain⟨l,_⟩:=JY hr.ok b.2.1;let f:Nat->Option Nat:=λi=>match i with|0=>U|i+1=>(YW b.1 b.2.2 i).bind λt=>(h.ay b.2.1).bl t 1
 have X:∀i x,f i=J x->∃O t,i=O+1/\YW b.1 b.2.2 O=J t/\(h.ay b.2.1).bl t 1=J x:=by
  intro i x n;cases i with
  |zero=>cases n
  |succ i=>
   simp only[f,Z6a]at n;simp_all
 refine⟨.agg vs,(h.ay b.2.1).put d f<|Wi (h.ay b.2.1) b.2.2,H,Step.after<|Tv (Z6r _ _) (λ_ _ _=>rfl) Z1 (λu hu=>⟨by simp[hu],by simp[hu]⟩) (λhn=>by simp at hn),
  l.put (Z6i _) (λu i b _ C=>(WT C).1) (λi x hx=> ?_) (λi j x n Y=> ?_) (λi x u j hu n Y=> ?_),Wh ⟨.agg vs,Vq hd _,vs,rfl,a0,λi L n=> ?_⟩⟩
 grind;obtain⟨O,t,rfl,N,A⟩:=X i x n;obtain⟨j',t',rfl,a3,Q⟩:=X j x Y;have:=(l.inj t 1 t' 1 x A Q).1;grind [jP];obtain⟨O,t,rfl,N,A⟩:=X i x n;obtain⟨k1,k2⟩:=WT Y;exact k2<|(l.inj u j t 1 x k1 A).1▸JV N;have R:((h.ay b.2.1).put d f<|Wi (h.ay b.2.1) b.2.2).bl d (i+1)=(YW b.1 b.2.2 i).bind λt=>(h.ay b.2.1).bl t 1:=by simp[GH.put,f]
 rw[R];have M:=r i L n;unfold BRel at M;obtain⟨kk,e⟩:=L;cases kk with
 |own ty=>
  obtain⟨t,A,h2,h3,y,hy,F⟩:=M;refine⟨y,hy,F.mono (λ_ C=>.inl C) ?_⟩;simp_all[GH.ay]
 |nil=>exact M
 |fz=>
  obtain⟨y,A,h2,h3⟩:=M;exact⟨y,A,h2,h3.mono<|A5 λp hp=>hp⟩
 |gu=>grind
theorem zH(a:Ok B G w h){o}(ho:∀b,o=J b->∃t i,h.bl t i=J b){D T ty x z v y}(hv:OwnV c.P B w h o D x v)(hT:c.P.underlying T=J (.slice D))(Q:VN c.P D=xk)
  {O Gy} (hy:Rd w Gy (.sl O) y) (p:∀(i:Nat) n u,(flat O)[i]?=J n->Rd w Gy n u->Rd w h.F n u) (hz:So (c.P.cellsOf D) x (.sl O)=J z):
  ∃C w',(Builtin.append_ #[T,T] ty #[v,y]).run c.P w=.ok C w'/\Below B w w'/\(∀b,b<xz (xj w)->o≠J b->w'.heap[b]?=w.heap[b]?)/\
   (C.ownBlock=o\/∀b,C.ownBlock=J b->xz (xj w)<=b/\b<xz (xj w'))/\∀h',h'.F=h.F->OwnV c.P B w' h' C.ownBlock D z C:=by
 obtain⟨l,xs,rfl,h0,K,j,g,a1⟩|⟨_,_,_,_,_,_,rfl,_⟩:=hv;case inr=>grind [Rs]
 obtain⟨l1,r,S,a0,L,a2,rfl⟩:=Rs hz;cases S;cases a0;obtain⟨C,w',N,M,Y,hg,X,q,A⟩:=JL (ty:=ty) hT Q j a.V hy a2 L;have d:∀b,b<xz (xj w)->o≠J b->w'.heap[b]?=w.heap[b]? :=λb g hn=>hg.block b g Z5h;have H:Same h.F w w':=λb g=>d b (a.cd b g) λe=>by
  obtain⟨t,i,f⟩:=ho b e;exact(a.ax t i b f).2.2 g
 refine⟨C,w',M,(Z6r B w).grown hg a.V λk hk=> ?_,d,?_,λh' hF=>.inl ⟨l++O,xs++N,rfl,h0,λx hx=> ?_,Z5i,rfl,λi n f=> ?_⟩⟩;rw[‹v.ownBlock=o›]at hk;obtain⟨t,i,f⟩:=ho k hk;exact(a.ax t i k f).1;obtain h1|⟨h1,h2⟩:=X;simp_all;exact .inr λb g=>h2.lt b g;obtain hx|hx:=Z6Q.1 hx;simp_all;exact q x hx;have R:=Te K;rw[yh]at f;by_cases W:i< I (flat l);rw[Z6B W]at f;obtain⟨u,hu,Z⟩:=a1 i n f;exact⟨u,Z5h,Z.keep H λb g=>Z5i⟩;rw[Z6v Z0]at f;obtain⟨u,hu,Z⟩:=A _ n f;have a3:I xs=I (flat l):=by rw[j.1,R]
 exact⟨u,Z5h,(p _ n u f Z).keep H λb g=>Z5i⟩
theorem zG{a d k z}(f:eval s (.ct a d k)=J z):∃x y,eval s a=J x/\eval s d=J y/\So k x y=J z:=by
 simp_all[eval,Z6a]
theorem AL(a:Ok B G w h){t0 i0 d:Nat}{ts o}(C:∀b,o=J b->∃t∈ts,h.bl t 1=J b)(x:d∉ts){v':Value}(g:Below B w w')(f:∀b,b<xz (xj w)->o≠J b->w'.heap[b]?=w.heap[b]?)
  (z:v'.ownBlock=o\/∀b,v'.ownBlock=J b->xz (xj w)<=b/\b<xz (xj w')):
  Ok B G w' (h.put d (λi=>if i=1 then v'.ownBlock else U)<|Wi h ts)/\Step B (d::ts) (d::ts) [] w w' h (h.put d (λi=>if i=1 then v'.ownBlock else U)<|Wi h ts):=by
 have y:∀i b,(if i=1 then v'.ownBlock else U)=J b->i=1/\((xz (xj w)<=b/\b<xz (xj w'))\/∃t∈ts,h.bl t 1=J b):=by
  intro i b k;split at k;grind;cases k
 refine⟨a.put g.size (λu i b _ g=>(WT g).1) (λi b k=> ?_) (λi j b k p=>Z5h) (λi b u j D k p=> ?_),
  Tv g (λb g q=>f b g λe=> ?_) Z1 (λt l=>⟨by simp[l],by simp[l]⟩) (λq=>by simp at q)⟩
 grind;obtain⟨r,A⟩:=WT p;rcases(y i b k).2 with n|⟨t,l,n⟩;have:=(a.ax u j b r).2.1;omega;exact A<|(a.inj u j t 1 b r n).1▸l;grind
theorem NP(hr:RelG c B G s a w h g){T P ty x y d}(hd:d<a.tmps.size){m}(l:qb c g d T P x y=J m)(a3:∀e∈m.es,∃z,eval s e=J z):
  ∃v w' h',(Builtin.append_ #[T,P] ty #[a.eval x,a.eval y]).run c.P w=.ok v w'/\MPost c B G s (a.put (J d) v) w w' h h' m:=by
 unfold qb at l;split at l;rename_i Z hT;have a2:=Qn hT;split at l;rename_i n;obtain⟨rfl,X⟩:=n;simp only[Z6a]at l;obtain⟨b0,b7,l⟩:=l;generalize a6:TR (XB c.P Z) b0=A at l;have f:=hr.ly A.2;have K:∀ {yy:V} {l2:List V},eval s A.1=J yy->yy=.sl l2->∃Gy,Rd w Gy (.sl l2) (a.eval y)/\∀(i:Nat) (S:V) (u:Value),(flat l2)[i]?=J S->Rd w Gy S u->Rd w (h.ay A.2).F S u:=by
  rintro yy l2 L rfl;obtain⟨Gy,W,h2⟩:=Bh hr (Ys s c) b7 (fl:=XB c.P Z) (by rw[a6];exact L);rw[a6]at h2;exact⟨Gy,W,λi S u hi hu=>(h2 _ rfl i S u hi hu).mono<|A5 λp hp=>hp⟩
 have a1:∀ {t:Nat} {e:E} {v:Value},t≠d->(∃y,eval s e=J y/\OwnV c.P B w (h.ay A.2) ((h.ay A.2).bl t 1) Z y v)->m= {d:=[(d,[],.own Z<|.ct e A.1<|c.P.cellsOf Z),(t,[],.no)],ps:=[d,t],rb:=[d,t],fz:=A.2,es:=[.ct e A.1<|c.P.cellsOf Z]}->
   ∃H w' h',(Builtin.append_ #[T,T] ty #[v,a.eval y]).run c.P w=.ok H w'/\MPost c B G s (a.put (J d) H) w w' h h' m:=by
  rintro t e v C ⟨yv,Y,r⟩ rfl;obtain⟨z,hz⟩:=a3 _<|List.Mem.head _;obtain⟨xx,yy,D,L,o⟩:=zG hz;rw[Y]at D;cases D;obtain⟨_,l2,_,rfl,_⟩:=Rs o;obtain⟨Gy,e1,e2⟩:=K L rfl;obtain⟨H,w',k1,k2,k3,k4,k5⟩:=zH (ty:=ty) f.ok (λb q=>⟨t,1,q⟩) r a2 X e1 e2 o;obtain⟨q1,q2⟩:=AL (d:=d) (ts:=[t]) (t0:=0) (i0:=0) f.ok (λb q=>⟨t,Z1,q⟩) Z5h k2 k3 k4;exact⟨H,w',_,k1,q2.after,q1,Wh (ts:=[t]) ⟨H,Vq hd H,z,hz,(k5 (h.ay A.2) rfl).mono (λ_ q=>q)<|by simp[GH.put]⟩⟩
 split at l;rename_i hk;simp only[Z6c]at l;subst l;have hv:=Q5 f (Ys s c) hk;rw[hv];obtain⟨z,hz⟩:=a3 _<|List.Mem.head _;obtain⟨xx,yy,D,L,o⟩:=zG hz;simp only[eval,Z6c]at D;subst D;obtain⟨_,l2,_,rfl,_⟩:=Rs o;obtain⟨Gy,e1,e2⟩:=K L rfl;obtain⟨i,zz,hi,d4,d5,h0,d2,N⟩:=Su X;have r:OwnV c.P B w (h.ay A.2) U Z (.sl [])<|.slice U 0 0:=.inl ⟨[],[],rfl,Z0,λx hx=>by simp at hx,Z7e w B Z _,rfl,λi S hi=>by simp[flat]at hi⟩;obtain⟨H,w',k1,k2,k3,k4,k5⟩:=zH (ty:=ty) f.ok (λb q=>by cases q) r a2 X e1 e2 o;obtain⟨q1,q2⟩:=AL (d:=d) (ts:=[]) (t0:=0) (i0:=0) f.ok (λb q=>by cases q) Z1 k2 k3 k4;exact⟨H,w',_,k1,q2.after,q1,Wh (ts:=[]) ⟨H,Vq hd H,z,hz,(k5 (h.ay A.2) rfl).mono (λ_ q=>q)<|by simp[GH.put]⟩⟩;rename_i t b5 e hk;split at l;rename_i n;obtain⟨rfl,C,_⟩:=n;simp only[Z6c]at l;obtain⟨v,hv,Q,_⟩:=f.cj (Ys s c) (show look _ [] t=_ from hk) rfl;rw[Act.an a t v hv];exact a1 C Q l.symm;cases l;rename_i p hk;simp only[Z6a]at l;obtain⟨⟨b5,e⟩,ho,l⟩:=l;split at l;rename_i n;obtain⟨b3,a9⟩:=n;simp only at b3;subst b3;simp only[Z6c]at l;obtain⟨u,hu,Q⟩:=f.fk ho;have hv:=XD f (Ys s c) hk rfl 0;have b4:=hu.symm.trans hv;simp only[Z6c]at b4;rw[<-b4];exact a1 a9 Q l.symm;cases l;rename_i p i hk;simp only[Z6a]at l;obtain⟨cs,a0,l⟩:=l;split at l;rename_i b5 e hc;split at l;rename_i n;obtain⟨rfl,a9⟩:=n;simp only[Z6f]at l;obtain⟨k,b1,rfl⟩:=l;obtain⟨d0,O,c1,rfl⟩:=JE b1;rw[a0]at O;cases O;obtain⟨b,vs,b6,q,d3,hh,N⟩:=f.dc a0;have hv:=XD f (Ys s c) hk rfl 0;obtain⟨b',a5,M⟩:=hv;rw[q]at a5;cases a5;rw[Z6j w b i vs b6 (0,0) hh]at M;have a7:∀v,vs[i]?=J v->vs.getD i xy=v:=λv hv=>Z5i;obtain⟨yv,Y,r⟩:=N.2 i _ hc;rw[a7 _ M]at r;simp only at r Y;obtain⟨z,hz⟩:=a3 _<|List.Mem.head _;obtain⟨xx,yy,D,L,o⟩:=zG hz;rw[Y]at D;cases D;obtain⟨_,l2,_,rfl,_⟩:=Rs o;obtain⟨Gy,e1,e2⟩:=K L rfl;obtain⟨H,w',k1,k2,k3,k4,k5⟩:=zH (ty:=ty) f.ok (λb q=>⟨p,i+1,q⟩) r a2 X e1 e2 o;have hF:Same (h.ay A.2).F w w':=λx hx=>k3 x (f.ok.cd x hx) λe=>(f.ok.ax p (i+1) x e).2.2 hx;have d1:w'.heap[b]?=w.heap[b]? :=k3 b (f.ok.ax p 0 b q).2.1 λe=>by
  have:=(f.ok.inj p 0 p (i+1) b q e).2;omega
 obtain⟨c2,a4⟩:=LR c1;have hf:∀j x,(if j=1 then H.ownBlock else U)=J x->j=1/\((xz (xj w)<=x/\x<xz (xj w'))\/(h.ay A.2).bl p (i+1)=J x):=by
  intro j x R;split at R;grind;cases R
 have b2:∀u j x,(if u=p/\j=i+1 then U else(h.ay A.2).bl u j)=J x->(h.ay A.2).bl u j=J x/\¬(u=p/\j=i+1):=by
  intro u j x R;split at R;cases R;grind
 refine⟨H,w',(h.ay A.2).put d (λj=>if j=1 then H.ownBlock else U) (λu j=>if u=p/\j=i+1 then U else(h.ay A.2).bl u j),k1,Step.after ⟨k2,λx hx hn=>k3 x hx λe=>hn p Z1 (i+1) e,λ_ q=>q,λt ht _=> ?_,λt ht=> ?_,λ_ _ _ _ l=>(by simp at l),rfl⟩,
  f.ok.put k2.size (λu j x _ hx=>(b2 u j x hx).1) (λj x hx=> ?_) (λj j' x R a8=>Z5h) (λj x u j' hu R a8=> ?_),λt ht=> ?_⟩
 grind [GH.put];have W:t≠d:=Z5h;simp[GH.put,W];grind;obtain⟨q1,q2⟩:=b2 u j' x a8;rcases(hf j x R).2 with W|W;have:=(f.ok.ax u j' x q1).2.1;omega;exact q2<|f.ok.inj u j' p (i+1) x q1 W;simp only[Y0,Z6R,Z7B,Z6S,Z8C,Z9P]at ht;by_cases C:t=d;subst C;simp only[Gam.at,Z7m];exact⟨trivial,λ_=>⟨H,Vq hd H,z,hz,(k5 (h.ay A.2) rfl).mono (λ_ q=>q)<|by simp[GH.put]⟩⟩;have c7:t=p:=ht.resolve_left C;subst c7;simp only[Gam.at,Z6h<|Z8d C,Z7m];refine⟨trivial,λ_=>⟨_,by grind [R1],b,vs,b6,by simpa[GH.put,C]using q,rfl,Z5h,by rw[N.1,c2],λj S R=> ?_⟩⟩;obtain⟨W,h2,h3⟩|⟨W,h3⟩:=a4 j S R;have c0:j=i:=by simp only[Z7F]at h2;omega
 subst c0;simp at h3;subst h3;exact(N.2 j _ hc).cell;have b9:j≠i:=by simp only[Z7F]at W;omega
 have b8:((h.ay A.2).put d (λj=>if j=1 then H.ownBlock else U)<|λu j=>if u=t/\j=i+1 then U else(h.ay A.2).bl u j).bl t (j+1)=(h.ay A.2).bl t (j+1):=by simp[GH.put,C,b9]
 rw[b8];exact(N.2 j S h3).keep hF (λ_ q=>q) λx hx=>k3 x (f.ok.ax t (j+1) x hx).2.1 λe=>by
  have:=(f.ok.inj t (j+1) t (i+1) x hx e).2;omega
 cases l;cases l;cases l;cases l;cases l
def An(c:Ctx)(B:Nat)(G:Nat->Prop)(s:St)(a:Act)(w:World)(h:GH)(o:Oper)(m:MS):Prop:=
 ∃n u w' h',(execOp a.eval o).run c.P w=.ok n w'/\(n=.value u\/n=.skip/\u=xy)/\MPost c B G s (a.put o.dst u) w w' h h' m
theorem NZ(D:RelG c B G s a w h g){o:Oper}(L:∀d,o.dst=J d->d<a.tmps.size){m}(l:mk c g o=J m)(A:∀e∈m.es,∃z,eval s e=J z):An c B G s a w h o m:=by
 obtain⟨dst,op,type,XQ,after,guard⟩:=o;unfold mk at l;simp only at l L;split at l;rename_i x d;obtain⟨h',R⟩:=Cu D (L _ rfl) l A;exact⟨_,_,w,h',rfl,.inl rfl,R⟩;rename_i x d;obtain⟨h',R⟩:=Cu D (L _ rfl) l A;exact⟨_,_,w,h',rfl,.inl rfl,R⟩;rename_i T W x;unfold Cx at l;split at l;cases l;rename_i F;simp only[Z6z,Z7D,Z9O,Z8N,Bool.or_eq_false_iff,not_and,Z71]at F;obtain⟨O,M⟩:=F;have M:Y9 c.P T=xk\/c.P.cellsOf T=1:=by
  cases Y:Y9 c.P T with
  |true=>simp
  |false=>simp_all
 have N:∀ {S:Value},a.eval W=S->(∃w' h',(Instr.storeAt T S<|a.eval x).run c.P w=.ok () w'/\MPost c B G s a w w' h h' m)->An c B G s a w h {dst:=U,op:=.store T W x,type,pos:=XQ,after,guard} m:=by
  rintro S rfl ⟨w',h',r,C⟩;refine⟨.skip,xy,w',h',?_,.inr ⟨rfl,rfl⟩,C⟩;simp[execOp,r]
 split at l;rename_i cs K;obtain⟨t,rfl,⟨v,hv,Q,⟨b,vs,ty,r,rfl,_⟩⟩,_⟩:=(Q4 D (Ys s c) K rfl).resolve_left Z1;exact N Q<|Cy D O M l A r;rename_i p o K;obtain⟨b,r,C⟩:=XD D (Ys s c) K rfl 0;grind [Cy];rename_i p i j o k K;obtain⟨n,q,r,⟨Z,C⟩,X⟩:=XD D (Ys s c) K rfl 0;grind [NY];rename_i p o j n k K;obtain⟨b,q,r,⟨Z,C⟩,X,h4⟩:=XD D (Ys s c) K rfl 0;grind [NX];cases l;rename_i T parts d;obtain⟨v,h',r,C⟩:=NR D (L _ rfl) l A;exact⟨.value v,v,w,h',by simp[execOp,r],.inl rfl,C⟩;rename_i T x d;obtain⟨v,w',h',r,C⟩:=NQ D (L _ rfl) l;exact⟨.value v,v,w',h',by simp[execOp,r],.inl rfl,C⟩;rename_i T m' k v;obtain⟨w',h',r,C⟩:=NW (a':=a) D rfl l A;exact⟨.skip,xy,w',h',by simp[execOp,r],.inr ⟨rfl,rfl⟩,C⟩;rename_i args f;split at l;rename_i x T hx O;have u:args=#[x]:=Z7j.1 Z0;have H:f=#[T]:=Z7j.1 Z0;subst u H;obtain⟨v,w',h',r,C⟩:=NS (a':=a) (ty:=type) D rfl l A;exact⟨.value v,v,w',h',by simp[execOp,resolve,invoke,builtin,r],.inl rfl,C⟩;cases l;rename_i args f d;split at l;rename_i x y T P hx O;have u:args=#[x,y]:=Z7j.1 Z0;have H:f=#[T,P]:=Z7j.1 Z0;subst u H;obtain⟨v,w',h',r,C⟩:=NP (ty:=type) D (L _ rfl) l A;exact⟨.value v,v,w',h',by simp[execOp,resolve,invoke,builtin,r],.inl rfl,C⟩;cases l;cases l
end
end Vm
namespace Vm
open Go
def K5(calls:FuncId->Array Value->World->(Ending->World->Prop)->Prop)(o:Oper)(a:Act)(K:Act->World->Prop):Result Next->Prop
 |.ok (.value v) w'=>K (a.put o.dst v) w'
 |.ok .skip w'=>K (a.put o.dst xy) w'
 |.ok (.enter f args) w'=>calls f args w' λe d=>∃v,e=.returned v/\K (a.put o.dst v) d
 |_=>False
section
variable (calls:FuncId->Array Value->World->(Ending->World->Prop)->Prop)(o:Oper)(a:Act)(K:Act->World->Prop)(w:World)
theorem FM v:K5 calls o a K (.ok (.value v) w)=K (a.put o.dst v) w:=rfl
theorem Z1h:K5 calls o a K (.ok .skip w)=K (a.put o.dst xy) w:=rfl
theorem FL f args:K5 calls o a K (.ok (.enter f args) w)=calls f args w λe d=>∃v,e=.returned v/\K (a.put o.dst v) d:=rfl
end
def Hi(f:World->World->Prop)(P:Program)(fn:Func)(R:Ending->World->Prop):Exit->Act->World->Prop
 |.normal,a,w|.ret,a,w=>a.defers=[]/\∀d,f w d->∃v,(results fn a.tmps).run P d=.ok v d/\R (.returned v) d
 |_,_,_=>False
class Lg (P:Program) where
 wp:Code->(Exit->Act->World->Prop)->Act->World->Prop
 ku:FuncId->Array Value->World->(Ending->World->Prop)->Prop
 todo:Array Oper->(Exit->Act->World->Prop)->List Nat->Act->World->Prop
 ma:World->World->Prop
 lx:Oper->Prop
 ml:∀ {w w1},ma w w1->w1= {w with drawn:=w1.drawn}
 ft:∀ {f args w} {R R':Ending->World->Prop},ku f args w R->(∀e w',R e w'->R' e w')->ku f args w R'
 wp_mono:∀ {c a w} {Q Q':Exit->Act->World->Prop},wp c Q a w->(∀e a w,Q e a w->Q' e a w)->wp c Q' a w
 wp_skip:∀ {Q a w},Q .normal a w->wp .skip Q a w
 wp_label:∀ {l Q a w},Q .normal a w->wp (.label l) Q a w
 wp_exit:∀ {id Q a w},Q (.exit id) a w->wp (.exit id) Q a w
 wp_ret:∀ {Q a w},Q .ret a w->wp .ret Q a w
 wp_seq:∀ {x y Q a w},wp x (Exit.then (wp y Q) Q) a w->wp (.seq x y) Q a w
 rk:∀ {x} {Q:Exit->Act->World->Prop} {a w},wp x (Exit.noGoto Q) a w->wp (.scope x) Q a w
 wp_cond_true:∀ {c x y Q} {a:Act} {w},a.eval c=.bool xk->wp x Q a w->wp (.cond c x y) Q a w
 wp_cond_false:∀ {c x y Q} {a:Act} {w},a.eval c=.bool xw->wp y Q a w->wp (.cond c x y) Q a w
 wp_block:∀ {id x Q a w},wp x (Exit.inBlock id Q) a w->wp (.block id x) Q a w
 wp_loop:∀ {x Q a w} (I:Act->World->Prop) (μ:Act->World->Nat),I a w->(∀a w,I a w->wp x (Exit.then (λa' w'=>I a' w'/\μ a' w'<μ a w) Q) a w)->wp (.loop x) Q a w
 wp_region:∀ {id ops Q a w},(∀o∈ops,lx o)->todo ops Q (List.range ops.size) a w->wp (.region id ops xw) Q a w
 so:∀ {id ops Q a} {w:World},(∀o∈ops,lx o)->(∀w1,ma w w1->∀t,todo ops Q (Region.schedule (P.follows .mixedOrders) ops t) a {w1 with drawn:=w1.drawn+1})->wp (.region id ops xk) Q a w
 kr:∀ {ops Q a w},Q .normal a w->todo ops Q [] a w
 mb:∀ {ops Q i rest a w},(∀o∈ops,lx o)->(∀w1,ma w w1->match ops[i]? with
   |none=>todo ops Q rest a w1
   |some o=>if Region.wanted o (yielded ops a.tmps)=xk then K5 ku o a (todo ops Q rest) ((execOp a.eval o).run P w1)else todo ops Q rest (a.put o.dst xy) w1)->todo ops Q (i::rest) a w
 calls_of_wp:∀ {f fn c args w R},P.funcs[f]?=J fn->fn.body=J c->wp c (Hi ma P fn R) {tmps:=args++Array.replicate (fn.ntmps-args.size) xy,defers:=[]} w->ku f args w R
instance (priority:=low) loneQ (P:Program):Lg P where
 wp c Q a w:=c.wp P Q a w
 ku f args w R:=Calls P f args w R
 todo ops Q l a w:=wpOps P ops Q l a w
 ma w w1:=w1=w
 lx _:=True
 ml h:=by subst h;rfl
 ft h k:=Z84 h k
 wp_mono h k:=Go.wp_mono h k
 wp_skip h:=Go.wp_skip h
 wp_label h:=Go.wp_label h
 wp_exit h:=Go.wp_exit h
 wp_ret h:=Go.wp_ret h
 wp_seq h:=Go.wp_seq h
 rk h:=Go.wp_scope_straight h
 wp_cond_true:=Go.wp_cond_true
 wp_cond_false:=Go.wp_cond_false
 wp_block h:=Go.wp_block h
 wp_loop I μ h k:=Go.wp_loop I μ h k
 wp_region _ h:=Go.wp_region h
 so _ h:=Go.wp_region_draw λt=>h _ rfl t
 kr h:=h
 mb {ops Q i rest a w} _ h:=by
  have h:=h w rfl;rw[wpOps_cons];unfold wpOp
  revert h
  cases hi:ops[i]? with
  |none=>exact id
  |some o=>
   dsimp only;split;intro h;left;unfold Oper.wp
   revert h
   cases(execOp a.eval o).run P w with
   |halt x w'=>exact False.elim
   |ok n w'=>
    cases n<;>first|exact id|exact False.elim|skip
    exactλh=>Z84 h λe w'' he=>by
     obtain⟨v,rfl,hk⟩:=he;exact hk
   exact id
 calls_of_wp {f fn c args w R} hf hb h:=Go.calls_of_wp hf hb (Go.wp_mono h λe a w he=>by
  cases e with
  |normal=>obtain⟨h1,h2⟩:=he;obtain⟨v,h3,h4⟩:=h2 w rfl;exact⟨h1,v,h3,h4⟩
  |ret=>obtain⟨h1,h2⟩:=he;obtain⟨v,h3,h4⟩:=h2 w rfl;exact⟨h1,v,h3,h4⟩
  |_=>exact he.elim)
def SP(P:Program) [Lg P](ops:Array Oper)(i:Nat)(K:Act->World->Prop)(a:Act)(w:World):Prop:=
 match ops[i]? with
 |none=>K a w
 |some o=>if Region.wanted o (yielded ops a.tmps)=xk then K5 (Lg.ku P) o a K ((execOp a.eval o).run P w)else K (a.put o.dst xy) w
theorem OD{P:Program} [Lg P]{ops:Array Oper}{i:Nat}{K g:Act->World->Prop}{a:Act}{w:World}(h:∀a w,K a w->g a w)(d:SP P ops i K a w):SP P ops i g a w:=by
 unfold SP at*;split;exact h _ _ (by simpa[*]using d);rename_i o p;simp only[p]at d;split;rename_i f;rw[Z6k f]at d
 revert d
 cases(execOp a.eval o).run P w with
 |halt x w'=>exact id
 |ok n w'=>
  cases n<;>first|exact id|exact h _ _|skip
  exactλj=>Lg.ft j λe q ⟨v,k,l⟩=>⟨v,k,h _ _ l⟩
 rename_i f;rw[Z6h f]at d;exact h _ _ d
def Km(P:Program) [Lg P](ops:Array Oper)(Q:Exit->Act->World->Prop):Nat->Array Bool->Act->World->Prop
 |0,d,a,w=>Region.ready .any ops d=[]/\Q .normal a w
 |n+1,d,a,w=>(Region.ready .any ops d=[]->Q .normal a w)/\∀i∈Region.ready .any ops d,∀f,Lg.ma P w f->SP P ops i (Km P ops Q n<|d.setIfInBounds i xk) a f
theorem GX{P:Program} [Lg P]{ops:Array Oper}{Q:Exit->Act->World->Prop}(n:∀o∈ops,Lg.lx P o):∀(f t:Nat) (d:Array Bool) (a:Act) (w:World),Km P ops Q f d a w->
  Lg.todo P ops Q (Region.linearise.go .any ops f t d []) a w:=by
 intro f;induction f with
 |zero=>intro t d a w h;exact Lg.kr h.2
 |succ f y=>
  intro t d a w h;obtain⟨r,u⟩:=h;simp only[Region.linearise.go]
  change Lg.todo P ops Q (match(Region.ready .any ops d)[t% I (Region.ready .any ops d)]? with
   |some i=>Region.linearise.go .any ops f (t / I (Region.ready .any ops d)) (d.setIfInBounds i xk) [i]
   |none=>[].reverse) a w
  cases j:(Region.ready .any ops d)[t% I (Region.ready .any ops d)]? with
  |none=>
   have g:Region.ready .any ops d=[]:=by
    cases p:Region.ready .any ops d with
    |nil=>rfl
    |cons x l=>
     rw[p]at j;have k:t% I (x::l)< I (x::l):=Z9k _ Z1;simp at j;simp at k;omega
   exact Lg.kr<|r g
  |some i=>
   simp only[];rw[linearise_go_acc,List.reverse_singleton,List.singleton_append];exact Lg.mb n λz q=>OD (λa w=>y _ _ a w)<|u i (Z6n j) z q
theorem r9{P:Program} [Lg P]{ops:Array Oper}{Q:Exit->Act->World->Prop}{id:Nat}{a:Act}{w:World}(f:∀o∈ops,Lg.lx P o)(g:P.follows .mixedOrders=xk)
  (h:∀d,Lg.ma P w d->Km P ops Q ops.size (Array.replicate ops.size xw) a {d with drawn:=d.drawn+1}):Lg.wp P (.region id ops xk) Q a w:=
 Lg.so f λd j t=>by
  simp only[Region.schedule,g,Bool.true_or,Z7m];exact GX f ops.size t _ a _<|h d j
def TJ(p:Oper->Prop):Code->Prop
 |.region _ ops _=>∀o∈ops,p o
 |.seq x y=>TJ p x/\TJ p y
 |.cond _ x y=>TJ p x/\TJ p y
 |.block _ x|.loop x|.scope x=>TJ p x
 |_=>True
class FitF (P:Program) [Lg P] (f:FuncId):Prop where
 all:∀fn c,P.funcs[f]?=J fn->fn.body=J c->TJ (Lg.lx P) c
theorem GW{p:Oper->Prop}(h:∀o,p o):∀c:Code,TJ p c:=by
 intro c;induction c with
 |region id ops d=>exactλo _=>h o
 |seq x y hx a=>exact⟨hx,a⟩
 |cond c x y hx a=>exact⟨hx,a⟩
 |block id x hx=>exact hx
 |loop x hx=>exact hx
 |scope x hx=>exact hx
 |_=>trivial
instance (priority:=low) fit_lone (P:Program) (f:FuncId): @FitF P (loneQ P) f:=⟨λ_ c _ _=>GW (λ_=>trivial) c⟩
end Vm
namespace Vm
open Go
open Go.RowKit (Below)
def WO(P:Program)(f:FuncId):Bool:=
 match P.funcs[f]? with
 |some fn=> !(fn.name== "runtime.NumGoroutine")&&fn.body.isSome
 |none=>xw
def VC(P:Program) [Lg P](f:FuncId)(d:Bool)(args:List V)(r:V):Prop:=
 WO P f=xk/\∀(w:World) (G:Nat->Prop) (a:Array Value),(∀b,G b->b<xz (xj w))->a.size=I args->(∀(i:Nat) (x:V),args[i]?=J x->Rd w G x (a.getD i xy))->
  Lg.ku P f a w λe w'=>∃v,e=.returned v/\Below (xz<|xj w) w w'/\Rd w' (λb=>(d=xw/\G b)\/(xz (xj w)<=b/\b<xz (xj w'))) r v
def We(k:OT)(x:V):Option TK:=
 match k,x with
 |.fz,x=>J<|.val (.c x) []
 |.own d,x=>J<|.own d<|.c x
 |.mem l,.agg a=>if I a=(I l) then J (.mem<|(l.zip a).map λy=>(y.1,.c y.2))else U
 |_,_=>U
def zu(P:Program)(B:Nat)(w:World)(h:GH)(ks:List OT)(xs:List V)(vs:Array Value):Prop:=
 I xs=I ks/\vs.size=I ks/\∀(i:Nat) (k:OT) (x:V),ks[i]?=J k->xs[i]?=J x->∃a,We k x=J a/\RelK P B [] w h (λ_=>U) i (vs.getD i xy) a
def Aw(P:Program)(B:Nat)(w:World)(h:GH)(ks:List OT)(ys:List V)(vs:Array Value):Prop:=
 I ys=I ks/\∀(i:Nat) (k:OT) (y:V),ks[i]?=J k->k≠.fz->ys[i]?=J y->∃a,We k y=J a/\RelK P B [] w h (λ_=>U) i (vs.getD i xy) a
def Xw:List OT->List V->List V
 |.fz::ks,_::a=>Xw ks a
 |_::ks,y::a=>y::Xw ks a
 |_,_=>[]
def Q7(r:V)(a:List V):V:=
 match a with
 | []=>r
 |a=>.am<|r::a
def UH(P:Program) [Lg P](f:FuncId)(ks:List OT)(xs:List V)(R:V):Prop:=
 WO P f=xk/\∀(B:Nat) (w:World) (h:GH) (a:Array Value),Ok B h.F w h->zu P B w h ks xs a->
  Lg.ku P f a w λe w'=>∃v r d h',e=.returned v/\Below B w w'/\Same h.K w w'/\Ok B h.F w' h'/\h'.K=h.K/\Rd w' h'.F r v/\Aw P B w' h' ks d a/\R=Q7 r (Xw ks d)
def V2(s:St):FN->Option FuncId
 |.id f=>J f
 | .e x=>match eval s x with
   |some (.fn f)=>J f
   |_=>U
def Ry:V->Option (FuncId×List V)
 |.fn f=>J (f,[])
 |.dh f a=>J (f,a)
 |_=>U
def Ui(s:St):FN->Option (FuncId×List V)
 |.id f=>J (f,[])
 |.e x=>(eval s x).bind Ry
def Wk(s:St):List OT->List E->Option (List V)
 |.fz::ks,_::a=>Wk s ks a
 |_::ks,e::a=>(eval s e).bind λx=>(Wk s ks a).map (x:: ·)
 |_,_=>J []
def Ro(P:Program) [Lg P](s:St):EF->Prop
 |.lt i C e=>holds s C->∃x,eval s e=J x/\ZJ s i=.v x
 |.call i C f g fl aq_=>holds s C->∃a n r,YB s aq_=J a/\Ui s f=J n/\VC P n.1 g (a++n.2) r/\(fl=xk->Ws r=J r)/\ZJ s i=.v r
 | .fi i C f ks aq_=>(holds s C->∃a n R,YB s aq_=J a/\V2 s f=J n/\UH P n ks a R/\ZJ s i=.v R)/\
   (¬holds s C->∃d,Wk s ks aq_=J d/\(d≠[]->ZJ s i=.v (.am<|.bool xw::d)))
section
variable {c:Ctx}{B:Nat}{G:Nat->Prop}{s:St}{a a':Act}{w w':World}{h h':GH}{g:Gam}{C:ZI}{fz ps rb:List Nat}{ops:Array Oper}
def T9:List (E×Option Nat)->Nat->Option Nat
 | [],_=>U
 |x::l,u=>if x.2=J u then J 0 else(T9 l u).map (· +1)
theorem JU:∀ {l:List (E×Option Nat)} {u i:Nat},T9 l u=J i->∃e,l[i]?=J (e,J u)
 | [],u,i,a=>by cases a
 | (e,o)::l,u,i,a=>by
   simp only[T9]at a;split at a;rename_i d;have d:o=J u:=d;simp only[Z6c]at a;subst a d;exact⟨e,rfl⟩;simp only[Z6f]at a;obtain⟨j,h,rfl⟩:=a;obtain⟨f,g⟩:=JU h;exact⟨f,Z5Y⟩
theorem jO:∀ {l:List (E×Option Nat)} {u:Nat},T9 l u=U->u∉l.filterMap (·.2)
 | [],u,_,d=>by simp at d
 | (e,o)::l,u,a,d=>by
   simp only[T9]at a;split at a;cases a;rename_i f;have f:¬o=J u:=f;simp only[Z9u]at a;have:=jO a;simp_all
theorem Qk{l:List (E×Option Nat)}{e:E}{u i:Nat}(a:l[i]?=J (e,J u)):u∈l.filterMap (·.2):=
 Z8I.2 ⟨_,Z6n a,rfl⟩
theorem CV:∀ {l:List Nat},Tn l=xk↔l.Nodup
 | []=>by simp[Tn]
 |x::l=>by
  simp_all[Tn,Z6l,Z7D,Z8e,Z8K,Z83,CV]
theorem LY:∀ {l:List (E×Option Nat)} {e g:E} {u i j:Nat},(l.filterMap (·.2)).Nodup->l[i]?=J (e,J u)->l[j]?=J (g,J u)->i=j
 | [],e,g,u,i,j,_,d,_=>by simp at d
 | (n,o)::l,e,g,u,i,j,a,d,f=>by
   have k:(l.filterMap (·.2)).Nodup:=by
    obtain _|p:=o;simpa using a;simp only[Z7S,Z83]at a;exact a.2
   cases i with
   |zero=>
    simp at d;cases j with
    |zero=>rfl
    |succ j=>
     exfalso;have h:=Qk (l:=l) (i:=j) Z5y;rw[d.2]at a;simp only[Z7S,Z83]at a;exact a.1 h
   |succ i=>
    cases j with
    |zero=>
     exfalso;simp at f;have h:=Qk (l:=l) (i:=i) Z5E;rw[f.2]at a;simp only[Z7S,Z83]at a;exact a.1 h
    |succ j=>
     have:=LY (i:=i) (j:=j) k Z5E Z5y;rw[this]
theorem Z0B{l:List (E×Option Nat)}(d:(l.filterMap (·.2)).Nodup){e:E}{u i:Nat}(a:l[i]?=J (e,J u)):T9 l u=J i:=by
 cases hx:T9 l u with
 |none=>exact absurd (Qk a)<|jO hx
 |some j=>
  grind [JU,LY]
def WY(g:Gam)(h:GH)(ks:List OT)(aq_:List<|E×Option Nat)(i j:Nat):Option Nat:=
 match(aq_[i]?).bind (·.2),ks[i]? with
 |some p,J (.mem _)=>match j with
  |0=>h.bl p 0
  |j+1=>match(memOf g p).bind λa=>a[j]? with
   |some (.own _,_)=>h.bl p<|j+1
   |_=>U
 |some p,J (.own _)=>if j=1 then h.bl p 1 else U
 |_,_=>U
theorem Sp{ks:List OT}{aq_:List (E×Option Nat)}{i j b:Nat}(a:WY g h ks aq_ i j=J b):∃p e k,aq_[i]?=J (e,J p)/\ks[i]?=J k/\k≠.fz/\h.bl p j=J b/\(∀d,k=.own d->j=1):=by
 unfold WY at a;grind
def WZ(g:Gam)(h:GH)(w:World)(ks:List OT)(aq_:List<|E×Option Nat):GH:=
 {F:=h.F,bl:=WY g h ks aq_,K:=λb=>b<xz (xj w)/\∀i j,WY g h ks aq_ i j≠J b}
theorem B0(d:Ok B G w h){ks:List OT}{aq_:List (E×Option Nat)}(x:(aq_.filterMap (·.2)).Nodup):Ok B h.F w<|WZ g h w ks aq_:=by
 refine⟨d.V,d.cd,λb a=>.inl a,λb a=>a,λt i b a=> ?_,λt i u j b a k=> ?_,λb a=>a.1,λt i b a r=>r.2 t i a,λb a=>.inl a⟩;obtain⟨p,_,_,_,_,_,f,_⟩:=Sp a;exact d.ax p i b f;obtain⟨p,e,_,f,_,_,l,_⟩:=Sp a;obtain⟨q,y,_,n,_,_,o,_⟩:=Sp k;obtain⟨rfl,rfl⟩:=d.inj p i q j b l o;exact⟨LY x f n,rfl⟩
def QA(a:Act)(h:GH)(x:AP)(v:Value):Prop:=
 match x with
 |.op x _=>v=a.eval x
 |.cap p=>∃b,h.bl p 0=J b/\v=.pointer (J ⟨b,0,U⟩)
theorem D5:∀ {a b:List CK},Q0 c.P a b=xk->I a=I b/\∀(i:Nat) (x y:CK),a[i]?=J x->b[i]?=J y->x=y\/x=.nil/\(y=.fz\/∃g,y=.own g/\0<c.P.cellsOf g)
 | [],[],_=>⟨rfl,λi x y hx=>by simp at hx⟩
 | [],_::_,h=>by simp[Q0]at h
 |_::_,[],h=>by simp[Q0]at h
 |x::a,y::b,h=>by
  simp only[Q0,Z6l,Z6z,Z71]at h;obtain⟨d,j⟩:=h;obtain⟨k,l⟩:=D5 j;refine⟨by simp[k],λi n o hx f=> ?_⟩;cases i with
  |zero=>
   simp at hx f;subst hx f;obtain d|d:=d;exact .inl d;split at d;simp only[Z6J]at d;exact .inr ⟨rfl,.inr ⟨_,rfl,d⟩⟩;exact .inr ⟨rfl,.inl rfl⟩;cases d
  |succ i=>exact l i n o (by simpa using hx) Z5y
theorem RelC.const{P:Program}{o:Option Nat}{k:CK}{e:E}{v:Value}{x:V}(f:RelC P B s w h o k e v)(hx:eval s e=J x){h2:GH}(l:h2.F=h.F):RelC P B [] w h2 o k (.c x) v:=by
 cases k with
 |fz=>obtain⟨y,a,d,g⟩:=f;rw[hx]at a;cases a;exact⟨x,rfl,d,g.mono λb j=>Z5i⟩
 |own n=>obtain⟨y,a,d⟩:=f;rw[hx]at a;cases a;exact⟨x,rfl,d.mono (λb j=>Z5i) rfl⟩
 |nil=>obtain⟨a,d⟩:=f;rw[hx]at d;cases d;exact⟨a,rfl⟩
 |gu=>exact f
theorem Z0C(l:RelG c B G s a w h g)(k:holds s<|ZK c C){x:AP}{p:Nat}{v:Value}(d:jS g C x=J p)(f:QA a h x v):∃b,h.bl p 0=J b/\v=.pointer (J ⟨b,0,U⟩):=by
 unfold jS at d;split at d;simp only[Z6c]at d;subst d;exact f;rename_i t u;have f:v=a.eval (.tmp t):=f;subst f;split at d;rename_i n j;simp only[Z6c]at d;subst d;obtain⟨v,f,⟨b,y,T,o,r,_⟩,_⟩:=l.cj k (show look g C t=_ from j) rfl;simp_all[Act.an];rename_i q j;simp only[Z6c]at d;subst d;exact XD l k j rfl 0;cases d;cases d
theorem Lx(hr:RelG c B G s a w h g){k:OT}{x:AP}{e:E}{p:Nat}(d:S7 c g C k x=J (e,J p)){X:V}(hX:eval s e=J X){ks:List OT}{aq_:List (E×Option Nat)}{i:Nat}(hk:ks[i]?=J k)(hi:aq_[i]?=J (e,J p)):
  ∃v,a.tmps[p]?=J v/\(∃tk,We k X=J tk/\RelK c.P B [] w (WZ g h w ks aq_) (λ_=>U) i v tk)/\((∃l b,k=.mem l/\h.bl p 0=J b/\v=.pointer (J ⟨b,0,U⟩))\/∃R,k=.own R):=by
 unfold S7 at d;split at d;split at d;simp only[Z6a]at d;obtain⟨_,_,d⟩:=d;split at d;simp at d;cases d;cases d
 ·
  rename_i l;simp only[Z6a]at d;obtain⟨p,hs,o,K,d⟩:=d;split at d;rename_i t;simp only[Z6l,Z7D]at t;obtain⟨N,Q⟩:=t;simp only[Z6c,Z6t]at d;obtain⟨rfl,rfl⟩:=d;obtain⟨b,vs,T,h1,h2,h3,h4⟩:=hr.dc K;obtain⟨a2,a0⟩:=D5 Q;simp only[Z6D]at a2;have Y:=hX;simp only[eval,Z6f]at Y;obtain⟨xs,b1,a8⟩:=Y;obtain⟨b0,L⟩:=Ud b1;have b4:I xs=I o:=by simpa using b0
  have a3:∀x∈xs,x.aj=xk:=λx hx=>by
   obtain⟨j,H⟩:=Z6A hx;have n:j<I o:=by have:=(Z6d.1 H).1;omega
   obtain⟨x',A,f⟩:=L j (o[j]).2 Z5K;rw[H]at A;cases A;have M:=h4.2 j o[j]<|Z6b n
   obtain⟨z,hz,b2,_⟩:=M.rd (G':=λ_=>True) (λhd=>by
    have:Wd o=xk:=Z7M.2 ⟨o[j],Z6E n,by simp[hd]⟩;rw[N]at this;cases this) (λ_ _=>trivial) λ_ _ _ _=>trivial
   rw[f]at hz;cases hz;exact b2
  have a7:X=.agg xs:=by rw[<-a8];simp only[Tb,SA a3]
  subst a7;have a9:I xs=I l:=Z0;have Z:WY g h ks aq_ i 0=h.bl p 0:=by simp[WY,hi,hk]
  refine⟨_,h2,⟨.mem ((l.zip xs).map λy=>(y.1,.c y.2)),by simp only[We,a9,Z7m],b,vs,T,by show WY g h ks aq_ i 0=_;rw[Z];exact h1,rfl,h3,by rw[h4.1];simp;omega,λj ck H=> ?_⟩,.inl ⟨l,b,rfl,h1,rfl⟩⟩;simp only[Z6G,Z6f]at H;obtain⟨⟨a6,x1⟩,H,rfl⟩:=H;rw[Z9e]at H;obtain⟨a1,O⟩:=H;have n:j<I o:=by have:=(Z6d.1 O).1;omega
  obtain⟨x',A,f⟩:=L j (o[j]).2 Z5K;simp only at O a1;rw[O]at A;cases A;have M:=h4.2 j o[j]<|Z6b n;have D:WY g h ks aq_ i (j+1)=match o[j]with|(.own _,_)=>h.bl p (j+1)|_=>U:=by
   simp only[WY,hi,hk,K,Z6s,Z6b n];rcases o[j]with ⟨kk,e⟩;cases kk<;>rfl
  obtain F|⟨F,rfl|⟨R,rfl,h0⟩⟩:=a0 j (o[j]).1 a6 Z5K a1;rw[<-F];show RelC c.P B [] w (WZ g h w ks aq_) (WY g h ks aq_ i<|j+1) (o[j]).1 (.c x1)<|vs.getD j xy;rw[D];have r:=M.const f (h2:=WZ g h w ks aq_) rfl;generalize o[j]=q at r;obtain⟨kk,e⟩:=q;cases kk with
  |own R=>exact r
  |fz=>exact r
  |nil=>exact r
  |gu=>exact r
  show RelC c.P B [] w (WZ g h w ks aq_) (WY g h ks aq_ i<|j+1) .fz (.c x1)<|vs.getD j xy;generalize o[j]=q at F M f;obtain⟨kk,e⟩:=q;simp only at F;subst F;obtain⟨e1,S⟩:=M;simp only at f S;rw[S]at f;cases f;rw[e1];exact⟨_,rfl,rfl,.nil _ _<|Z7T _⟩;show RelC c.P B [] w (WZ g h w ks aq_) (WY g h ks aq_ i<|j+1) (.own R) (.c x1)<|vs.getD j xy;rw[D];generalize o[j]=q at F M f;obtain⟨kk,e⟩:=q;simp only at F;subst F;obtain⟨e1,S⟩:=M;simp only at f S;rw[S]at f;cases f;rw[e1];exact⟨_,rfl,.inl ⟨[],[],rfl,h0,λx hx=>by simp at hx,Z7e w B R _,rfl,λi ck hi=>by simp[flat]at hi⟩⟩;cases d
 ·
  rename_i R;simp only[Z6a]at d;obtain⟨p,hs,⟨b3,e'⟩,ho,d⟩:=d;split at d;rename_i a5;simp only at a5;subst a5;simp only[Z6c,Z6t]at d;obtain⟨rfl,rfl⟩:=d;obtain⟨u,hu,X',W,a4⟩:=hr.fk ho;rw[hX]at W;cases W;have D:WY g h ks aq_ i 1=h.bl p 1:=by simp[WY,hi,hk]
  refine⟨u,hu,⟨_,rfl,X,rfl,?_⟩,.inr ⟨_,rfl⟩⟩;show OwnV c.P B w (WZ g h w ks aq_) (WY g h ks aq_ i 1) b3 X u;rw[D];exact a4.mono (λ_ hb=>hb) rfl;cases d
 cases d
theorem E8(H:RelG c B G s a w h g)(K:holds s<|ZK c C){k:OT}{x:AP}{y:E×Option Nat}(d:S7 c g C k x=J y){X:V}(D:eval s y.1=J X){v:Value}(l:QA a h x v){ks:List OT}{aq_:List (E×Option Nat)}{i:Nat}(Y:ks[i]?=J k)(W:aq_[i]?=J y):
  (∃R,We k X=J R/\RelK c.P B [] w (WZ g h w ks aq_) (λ_=>U) i v R)/\∀p,y.2=J p->a.tmps[p]?=J v:=by
 obtain⟨e,o⟩:=y;obtain _|p:=o;refine⟨?_,λp d=>by cases d⟩;unfold S7 at d;split at d;split at d;rename_i x ty;simp only[Z6a]at d;obtain⟨S,L,d⟩:=d;split at d;rename_i n;simp only[Z6c,Z6t,and_true]at d;subst d;obtain⟨z,hz,O⟩:=WH H K L;obtain⟨z',A,j⟩:=Sz (fl:=XB c.P ty) (b:=S) hz O ⟨X,D⟩;simp only at D;rw[D]at A;cases A;have l:v=a.eval x:=l;subst l;rw[Z8B.1 n]at j;exact⟨_,rfl,X,rfl,j.F.mono λb T=>GH.bz T⟩;cases d;cases d;simp only[Z6a]at d;obtain⟨_,_,_,_,d⟩:=d;split at d;grind;cases d;simp only[Z6a]at d;obtain⟨_,_,_,_,d⟩:=d;split at d;grind;cases d;cases d;obtain⟨u,hu,r,M⟩:=Lx H d D Y W;have Z:u=v:=by
  unfold S7 at d;split at d;split at d;simp only[Z6a]at d;obtain⟨_,_,d⟩:=d;split at d;grind;cases d;cases d;simp only[Z6a]at d;obtain⟨p',f,cs,Q,d⟩:=d;split at d;simp only[Z6c,Z6t]at d;obtain⟨_,rfl⟩:=d;obtain⟨b,q1,rfl⟩:=Z0C H K f l;simp_all;cases d;simp only[Z6a]at d;obtain⟨p',f,⟨a1,e'⟩,ho,d⟩:=d;split at d;simp only[Z6c,Z6t]at d;obtain⟨_,rfl⟩:=d;unfold Fg at f;split at f;rename_i t tt;have l:v=a.eval (.tmp t):=l;subst l;split at f;simp_all[Z6c,Act.an];rename_i q N;simp only[Z6c]at f;subst f;have r:a.tmps[q]?=J (a.eval<|.tmp t):=XD H K N rfl 0;simp_all;cases f;cases f;cases d;cases d
 simp_all
end
end Vm
namespace Vm
open Go
open Go.RowKit (Below)
section
variable {c:Ctx}{B:Nat}{G:Nat->Prop}{s:St}{a a':Act}{w w':World}{h h' hx:GH}{g:Gam}{C:ZI}{fz ps rb:List Nat}{ops:Array Oper}{ks:List OT}{aq_:List (E×Option Nat)}
structure OPost (c:Ctx) (B:Nat) (G:Nat->Prop) (s:St) (a a':Act) (w w':World) (h h':GH) (os:OS):Prop where
 step:Step B os.ps os.rb os.fz w w' h h'
 ok:Ok B G w' h'
 size:a'.tmps.size=a.tmps.size
 defers:a'.defers=a.defers
 tm:∀t,t∉os.ps->a'.tmps[t]?=a.tmps[t]?
 sq:∀t∈Y0 os.d,(holds s (ZK c (os.d.at t).1)->(os.d.at t).2.bu=xw->∃v,a'.tmps[t]?=J v/\RelK c.P B s w' h' (λp=>a'.tmps[p]?) t v (os.d.at t).2)/\(¬holds s (ZK c (os.d.at t).1)->a'.tmps.getD t xy=xy)
theorem LE(a:Act)(d:Option Nat)(v:Value):(a.put d v).tmps.size=a.tmps.size:=by
 cases d<;>simp[Act.put]
theorem LD(a:Act)(d:Option Nat)(v:Value):(a.put d v).defers=a.defers:=by
 cases d<;>rfl
theorem ED{d:Nat}(v:Value){t:Nat}(f:t∉ [d]):(a.put (J d) v).tmps[t]?=a.tmps[t]? :=R1 Z5h v
def Ve(h hx:GH)(aq_:List<|E×Option Nat):GH:=
 {F:=λb=>h.F b\/hx.F b,K:=h.K,
  bl:=λu j=>match T9 aq_ u with
   |some i=>if j=0 then h.bl u 0 else hx.bl i j
   |none=>h.bl u j}
theorem H9(d:Ok B G w h)(hn:(aq_.filterMap (·.2)).Nodup)(f:Ok B h.F w' hx)(P:hx.K=(WZ g h w ks aq_).K)(H:xz (xj w)<=xz (xj w'))
  (W:∀(i:Nat) (e:E) (p:Nat),aq_[i]?=J (e,J p)->(∃l,ks[i]?=J (.mem l)/\hx.bl i 0=h.bl p 0)\/∃N,ks[i]?=J (.own N)):Ok B G w'<|Ve h hx aq_:=by
 have z:∀b,h.K b->(WZ g h w ks aq_).K b:=λb a=>⟨d.cw b a,λi j x=>by
  obtain⟨p,_,_,_,_,_,n,_⟩:=Sp x;exact d.cl p j b n a⟩
 have Vl:∀ {t j b:Nat},h.bl t j=J b->T9 aq_ t=U->hx.K b:=by
  intro t j b a ht;rw[P];refine⟨(d.ax t j b a).2.1,λi q x=> ?_⟩;obtain⟨p,e,_,n,_,_,S,_⟩:=Sp x;obtain⟨rfl,_⟩:=d.inj t j p q b a S;exact jO ht<|Qk n
 have Z:∀ {t i:Nat} {e:E} {b:Nat},aq_[i]?=J (e,J t)->(∃N,ks[i]?=J (OT.own N))->h.bl t 0=J b->hx.K b:=by
  intro t i e b Q C a;rw[P];refine⟨(d.ax t 0 b a).2.1,λX q x=> ?_⟩;obtain⟨p,e',k,n,O,_,S,h4⟩:=Sp x;obtain⟨rfl,rfl⟩:=d.inj t 0 p q b a S;have:=LY hn Q n;subst this;obtain⟨N,C⟩:=C;rw[C]at O;cases O;have:=h4 N rfl;omega
 have a0:∀ {t j b:Nat},h.bl t j=J b->hx.K b->¬(h.F b\/hx.F b):=by
  intro t j b a r o;obtain o|o:=o;exact(d.ax t j b a).2.2 o;obtain n|n:=f.fw b o;exact(d.ax t j b a).2.2 n;simp_all
 refine⟨f.V,λb a=> ?_,λb a=> ?_,λb a=>.inl<|d.gs b a,λt j b a=> ?_,λt j u q b a T=> ?_,λb a=>Z6o (d.cw b a) H,λt j b a r=> ?_,λb a=> ?_⟩;obtain a|a:=a;exact Z6o (d.cd b a) H;exact f.cd b a;obtain a|a:=a;exact d.dl b a;obtain n|n:=f.dl b a;exact d.dl b n;omega;simp only[Ve]at a⊢;split at a;rename_i i A;obtain⟨e,Q⟩:=JU A;split at a;rename_i hj;subst hj;obtain⟨l,C,h0⟩|C:=W i e t Q;rw[<-h0]at a;obtain⟨L,M,Y⟩:=f.ax i 0 b a;refine⟨L,M,λo=> ?_⟩;obtain o|o:=o;exact Y<|f.gs b o;grind;obtain⟨L,M,_⟩:=d.ax t 0 b a;grind;obtain⟨L,M,Y⟩:=f.ax i j b a;refine⟨L,M,λo=> ?_⟩;obtain o|o:=o;exact Y<|f.gs b o;grind;rename_i A;obtain⟨L,M,_⟩:=d.ax t j b a;grind
 ·
  have place:∀ {t j:Nat},(Ve h hx aq_).bl t j=J b->(∃i e,aq_[i]?=J (e,J t)/\hx.bl i j=J b)\/(h.bl t j=J b/\hx.K b):=by
   intro t j a;simp only[Ve]at a;split at a;grind [JU];grind
  obtain⟨i,e,Q,n⟩|⟨n,O⟩:=place a<;>obtain⟨X,e',a1,y⟩|⟨y,R⟩:=place T
  obtain⟨rfl,rfl⟩:=f.inj i j X q b n y;simp_all;exact absurd R<|f.cl i j b n;exact absurd O<|f.cl X q b y;exact d.inj t j u q b n y
 have D:=z b r;rw[<-P]at D;simp only[Ve]at a;split at a;rename_i i A;split at a;exact d.cl t 0 b (by assumption) r;exact f.cl i j b a D;exact d.cl t j b a r;obtain a|a:=a;exact d.fw b a;obtain n|n:=f.fw b a;exact d.fw b n;exact .inr λr=>n (by rw[P];exact z b r)
theorem Ha(o:Ok B G w h){d:Nat}(f:Below B w w')(a:Same (WZ g h w ks aq_).K w w'):Step B (d::aq_.filterMap (·.2)) [d] [] w w' h<|Ve h hx aq_:=by
 refine⟨f,λb k q=>a b ⟨k,λi j l=> ?_⟩,λb l=>.inl l,λt p _=> ?_,λt p=> ?_,λ_ _ _ _ n=>(by simp at n),rfl⟩;grind [Sp,Qk];grind [T9,JU,absurd,List.mem_cons_of_mem,Qk,Ve];grind [Ve]
theorem Lk{i0:Nat}:∀ {q:Nat} {ks:List OT} {aq_:List (E×Option Nat)} {ys:List V},I aq_=I ks->I ys=I ks->(∀(j:Nat) (k:OT) (y:E×Option Nat),ks[j]?=J k->aq_[j]?=J y->(y.2=U↔k=OT.fz))->∀(t:Nat),t∈Y0 (XE i0 q ks aq_)->
  ∃(j:Nat) (k:OT) (e:E) (y:V) (r:Nat),ks[j]?=J k/\aq_[j]?=J (e,J t)/\ys[j]?=J y/\(XE i0 q ks aq_).at t=([],Jg i0 (q+r) k)/\(Xw ks ys)[r]?=J y
 |q,[],aq_,ys,_,_,_,t,a=>by
  have:XE i0 q [] aq_=[]:=by unfold XE;rfl
  rw[this]at a;simp[Y0]at a
 |q,k::ks,[],ys,l,_,_,t,a=>by simp at l
 |q,k::ks,(e,o)::aq_,[],_,n,_,t,a=>by simp at n
 |q,k::ks,(e,o)::aq_,y::ys,l,n,H,t,a=>by
  have K:=H 0 k (e,o) rfl rfl;have g:∀(j:Nat) (k:OT) (y:E×Option Nat),ks[j]?=J k->aq_[j]?=J y->(y.2=U↔k=.fz):=λj k y L M=>H (j+1) k y (by simpa using L) (by simpa using M);obtain _|p:=o;have d:k=.fz:=K.1 rfl;subst d;have w:XE i0 q (.fz::ks) ((e,U)::aq_)=XE i0 q ks aq_:=by simp only[XE]
  have h:Xw (.fz::ks) (y::ys)=Xw ks ys:=by simp only[Xw]
  rw[w]at a⊢;obtain⟨j,z,u,G,r,A,B,C,D,F⟩:=Lk (ys:=ys) (by simpa using l) (by simpa using n) g t a;exact⟨j+1,z,u,G,r,by simpa using A,by simpa using B,by simpa using C,D,by rw[h];exact F⟩;have d:k≠.fz:=λe=>by have:=K.2 e;cases this
  have w:XE i0 q (k::ks) ((e,J p)::aq_)=(p,[],Jg i0 q k)::XE i0 (q+1) ks aq_:=by simp only[XE]
  have h:Xw (k::ks) (y::ys)=y::Xw ks ys:=by cases k<;>first|exact absurd rfl d|simp only[Xw]
  rw[w]at a⊢;by_cases f:p=t;subst f;exact⟨0,k,e,y,0,rfl,rfl,rfl,by simp[Gam.at],by rw[h];rfl⟩;have x:t∈Y0 (XE i0 (q+1) ks aq_):=by
   simp only[Y0,Z6R,Z6S]at a;exact a.resolve_left λe=>f e.symm
  obtain⟨j,z,u,G,r,A,B,C,D,F⟩:=Lk (ys:=ys) (by simpa using l) (by simpa using n) g t x;exact⟨j+1,z,u,G,r+1,by simpa using A,by simpa using B,by simpa using C,by simp only[Gam.at,Z6h f];rw[D,Z77,Z9C 1 r],by rw[h];simpa using F⟩
theorem qz{i0:Nat}:∀ {q:Nat} {ks:List OT} {aq_:List (E×Option Nat)},I aq_=I ks->Y0 (XE i0 q ks aq_)=aq_.filterMap (·.2)
 |q,[],[],_=>by simp[XE,Y0]
 |q,[],_::_,h=>Z5V
 |q,k::ks,[],h=>Z5V
 |q,k::ks,(e,o)::aq_,h=>by
  obtain _|p:=o;have a:XE i0 q (k::ks) ((e,U)::aq_)=XE i0 q ks aq_:=by simp only[XE]
  rw[a,qz (by simpa using h)];simp;have a:XE i0 q (k::ks) ((e,J p)::aq_)=(p,[],Jg i0 q k)::XE i0 (q+1) ks aq_:=by simp only[XE]
  rw[a];have:=qz (i0:=i0) (q:=q+1) (ks:=ks) (aq_:=aq_) (by simpa using h);simp only[Y0,Z6R]at this⊢;rw[this];simp
theorem Oj{P:Program}{i0 q j p:Nat}{k:OT}{y:V}{L:List V}{v:Value}(hk:k≠.fz)(C:ZJ s i0=.v (.am L))(O:L[q]?=J y){hx h':GH}(d:∃N,We k y=J N/\RelK P B [] w' hx (λ_=>U) j v N)
  (K:∀b,hx.F b->h'.F b) (h0:(∃l,k=.mem l)->h'.bl p 0=hx.bl j 0) (t:∀i,h'.bl p (i+1)=hx.bl j (i+1)) (Z:Nat->Option Value):RelK P B s w' h' Z p v<|Jg i0 q k:=by
 obtain⟨N,a,d⟩:=d;have u:eval s (.ext (.s i0) q)=J y:=by simp only[eval,C,Z6s,Tc,O]
 cases k with
 |fz=>simp_all
 |own ty=>
  simp only[We,Z6c]at a;subst a;obtain⟨x,D,A⟩:=d;simp only[eval,Z6c]at D;subst D;exact⟨y,u,A.mono K (t 0).symm⟩
 |mem l=>
  cases y<;>simp only[We]at a<;>first|(cases a;done)|skip
  rename_i G;split at a;rename_i z;simp only[Z6c]at a;subst a;obtain⟨b,Q,T,e1,R,S,e4,W⟩:=d;refine⟨b,Q,T,Z5i,R,S,Z5i,λi ck n=> ?_⟩;simp only[Z6G,Z6f]at n;obtain⟨⟨kk,i'⟩,n,rfl⟩:=n;rw[Z8f,Z6f]at n;obtain⟨o,n,w⟩:=n;simp only[Z6t,Z6V]at w;obtain⟨rfl,rfl⟩:=w;have M:i<I G:=by rw[z];exact(Z6d.1 n).1
  have H:=W i (o,.c G[i]) Z5h;show RelC P B s w' h' (h'.bl p<|i+1) o (.ac (.ext (.s i0) q) i)<|Q.getD i xy;rw[t];have g:G[i].aj=xk->eval s (.ac (.ext (.s i0) q) i)=J G[i]:=λX=>by
   simp only[eval,C,Z6s,Tc,O,Ya,V.pc,Z6b M,YS,X,Z7m]
  cases o with
  |fz=>
   obtain⟨x,r,h,Y⟩:=H;simp only[eval,Z6c]at r;subst r;exact⟨_,g h,h,Y.mono K⟩
  |own ty=>
   obtain⟨x,r,h⟩:=H;simp only[eval,Z6c]at r;subst r;exact⟨_,g h.aj,h.mono K rfl⟩
  |nil=>
   obtain⟨r,h⟩:=H;simp only[eval,Z6c]at h;exact⟨r,by rw[g (by rw[h];rfl),h]⟩
  |gu=>exact H
  grind
 |nil=>grind [We]
 |dh f l=>grind [We]
theorem Q9:∀ {ks:List OT} {a:List AP} {aq_:List (E×Option Nat)},Ur c g C ks a=J aq_->I a=I ks/\I aq_=I ks/\∀(i:Nat) (k:OT) (x:AP) (y:E×Option Nat),ks[i]?=J k->a[i]?=J x->aq_[i]?=J y->S7 c g C k x=J y
 | [],[],aq_,h=>by
   simp only[Ur,Z6c]at h;subst h;exact⟨rfl,rfl,λi k x y r=>by simp at r⟩
 | [],_::_,aq_,h=>by simp[Ur]at h
 |_::_,[],aq_,h=>by simp[Ur]at h
 |k::ks,x::l,aq_,h=>by
  simp only[Ur,Z6a,Z6f]at h;obtain⟨y,t,A,d,rfl⟩:=h;obtain⟨o,p,q⟩:=Q9 d;refine⟨by simp[o],by simp[p],λi u w z f j n=> ?_⟩;cases i with
  |zero=>simp at f j n;subst f j n;exact t
  |succ i=>exact q i u w z Z5h Z5h Z5h
theorem H2(F:RelG c B G s a w h g)(z:holds s<|ZK c C){d:List AP}(D:Ur c g C ks d=J aq_){xs:List V}(p:YB s (aq_.map (·.1))=J xs){vs:Array Value}(H:vs.size=I d)(n:∀(i:Nat) (x:AP),d[i]?=J x->QA a h x (vs.getD i xy)):
  zu c.P B w (WZ g h w ks aq_) ks xs vs:=by
 obtain⟨K,r,t⟩:=Q9 D;obtain⟨u,y⟩:=Ud p;refine⟨by rw[u];simpa using r,Z0,λi k x j hx=> ?_⟩;have A:i<I ks:=(Z6d.1 j).1;have q:d[i]?=J d[i]:=Z6b Z0;have l:aq_[i]?=J aq_[i]:=Z6b Z0;obtain⟨L,f,o⟩:=y i (aq_[i]).1 (by rw[Z6G,l];rfl);rw[hx]at f;cases f;exact(E8 F z (t i k _ _ j q l) o (n i _ q) j l).1
theorem B1(hr:RelG c B G s a w h g){Y:List AP}(hp:Ur c g C ks Y=J aq_)(hn:(aq_.filterMap (·.2)).Nodup){d:Nat}(hd:d<a.tmps.size)(a2:d∉aq_.filterMap (·.2)){all:Gam}{efs:List EF}{chks:List (ZI×E)}{kd:TK}
  {vs:Array Value} (D:∀(i:Nat) (e:E) (p:Nat),aq_[i]?=J (e,J p)->a.tmps[p]?=J (vs.getD i xy)/\((∃l b,ks[i]?=J (.mem l)/\h.bl p 0=J b/\vs.getD i xy=.pointer (J ⟨b,0,U⟩))\/∃X,ks[i]?=J (.own X)))
  (hz:∀(j:Nat) (k:OT) (y:E×Option Nat),ks[j]?=J k->aq_[j]?=J y->(y.2=U↔k=OT.fz))
  (Q:Ok B h.F w' hx) (hK:hx.K=(WZ g h w ks aq_).K) (o:Below B w w') (A:Same (WZ g h w ks aq_).K w w') {ys:List V} (S:Aw c.P B w' hx ks ys vs) {r0:V} (L:Xw ks ys≠[]->ZJ s (c.ix d)=.v (.am<|r0::Xw ks ys))
  {u:Value} (hu:holds s (ZK c C)->RelK c.P B s w' (Ve h hx aq_) (λp=>(a.put (J d) u).tmps[p]?) d u kd) (a5:¬holds s (ZK c C)->u=xy):
  OPost c B G s a (a.put (J d) u) w w' h (Ve h hx aq_) {d:=(d,C,kd)::XE (c.ix d) 1 ks aq_++XX (d::aq_.filterMap (·.2)) [d] [] all,ps:=d::aq_.filterMap (·.2),rb:=[d],fz:=[],efs,chks}:=by
 obtain⟨h1,h2,h3⟩:=Q9 hp;have M:∀(i:Nat) (e:E) (p:Nat),aq_[i]?=J (e,J p)->(∃l,ks[i]?=J (.mem l)/\hx.bl i 0=h.bl p 0)\/∃X,ks[i]?=J (.own X):=by
  intro i e p hi;obtain⟨_,z⟩:=D i e p hi;obtain⟨l,b,W,hb,hv⟩|W:=z
  .refine .inl ⟨l,W,?_⟩;have a0:i<I ys:=by rw[S.1];exact(Z6d.1 W).1
   obtain⟨tk,f,R⟩:=S.2 i _ ys[i] W Z1<|Z6b a0;generalize ys[i]=y at f;cases y<;>simp only[We]at f<;>first|(cases f;done)|skip
   split at f;simp only[Z6c]at f;subst f;obtain⟨b',a6,T,e1,e2,_⟩:=R;simp_all;grind
  grind
 have O:=H9 hr.ok hn Q hK o.size M;have a1:=Ha (hx:=hx) (d:=d) hr.ok o A;refine⟨a1,O,LE _ _ _,LD _ _ _,λt x=>R1 (λe=>x<|by simp[e]) u,λt x=> ?_⟩;simp only[Z7x,Gam.at];by_cases H:d=t;simp_all[Z7m,Vq,Z6g,Z6K];rw[Z6h H,Vd];by_cases n:t∈Y0 (XE (c.ix d) 1 ks aq_);rw[Z6k n];obtain⟨j,k,e,y,r,q1,q2,q3,q4,q5⟩:=Lk (i0:=c.ix d) (q:=1) (ys:=ys) h2 S.1 hz t n;rw[q4];refine⟨λ_ _=>⟨vs.getD j xy,by rw[R1<|Z8d H];grind,?_⟩,λhh=>absurd (Ys s c) hh⟩;have N:k≠.fz:=λe'=>Z5h;have Z:=Z0B hn q2;refine Oj (h':=Ve h hx aq_) N (L λe'=>Z5i) Z5h (S.2 j k y q1 N q3) (λb hb=>.inr hb) (λhm=> ?_) (λi=>by simp[Ve,Z]) _;obtain⟨l,_,h0⟩|⟨X,a4⟩:=M j e t q2;grind [Ve];grind;rw[Z6h n];have a3:t∈Y0 (XX (d::aq_.filterMap (·.2)) [d] [] all):=by
  simp only[Y0,Z6R,Z7I,Z7x,Z6S,Z6Q]at x n⊢;obtain x|x|x:=x;omega;simp_all;exact x
 simp_all[KV,TK.bu,absurd,Ys]
end
end Vm
namespace Vm
open Go
open Go.RowKit (Below)
section
variable {c:Ctx}{B:Nat}{G:Nat->Prop}{s:St}{a a':Act}{w w':World}{h h':GH}{g:Gam}{C:ZI}{fz ps rb:List Nat}{ops:Array Oper}
theorem GH.me{h:GH}{big:Bool}{sh:List Nat}{b:Nat}(a:h.ext sh b):h.fu big sh b:=by
 obtain a|⟨p,f,i,d⟩:=a;exact .inl a;exact .inr ⟨p,f,i+1,.inr Z0,d⟩
theorem GH.nm{h:GH}{sh:List Nat}{b:Nat}(d:h.fu xw sh b):h.ext sh b:=by
 obtain d|⟨p,g,i,a,f⟩:=d;exact .inl d;obtain a|a:=a;cases a;cases i with
 |zero=>omega
 |succ i=>exact .inr ⟨p,g,i,f⟩
theorem GH.dv{h:GH}{big a:Bool}{sh d:List Nat}(l:big=xk->a=xk)(k:∀p∈sh,p∈d):∀b,h.fu big sh b->h.fu a d b:=by
 intro b hx;obtain hx|⟨p,j,i,g,f⟩:=hx;exact .inl hx;refine .inr ⟨p,k p j,i,?_,f⟩;grind
theorem GH.oe(a:Ok B G w h){big:Bool}{sh:List Nat}:∀b,h.fu big sh b->b<xz (xj w):=by
 intro b d;obtain d|⟨p,_,i,_,f⟩:=d;exact a.cd b d;exact(a.ax p i b f).2.1
theorem B2(C:RelG c B G s a w h g){G':Nat->Prop}(y:∀b,h.F b->G' b):∀ {d:List Nat} {o:List E} {n:List V},(∀p∈d,∀i b,h.bl p i=J b->G' b)->QF g d=J o->YB s o=J n->
  I n=I d/\∀(i p b:Nat) (x:V),d[i]?=J p->n[i]?=J x->h.bl p 0=J b->Rd w G' x (.pointer<|J ⟨b,0,U⟩)
 | [],o,n,_,f,hx=>by
   simp only[QF,Z6c]at f;subst f;simp only[YB,Z6c]at hx;subst hx;exact⟨rfl,λi p b x r=>by simp at r⟩
 |q::l,o,n,A,f,hx=>by
  simp only[QF,Z6a]at f;obtain⟨W,M,f⟩:=f;split at f;cases f;rename_i X;simp only[Z6f]at f;obtain⟨H,u,rfl⟩:=f;simp only[YB,Z6a,Z6f]at hx;obtain⟨z,O,R,k,rfl⟩:=hx;obtain⟨K,L⟩:=B2 C y (λp N=>A p<|by simp[N]) u k;refine⟨by simp[K],λi p b x r j t=> ?_⟩;cases i with
  |zero=>
   simp at r j;subst r j;obtain⟨S,Y,T,D,_,P,Q⟩:=C.dc M;rw[t]at D;cases D;exact J7 t P Q Z5h O y<|A q Z1
  |succ i=>exact L i p b x Z5h (by simpa using j) t
theorem Hh(u:RelG c B G s a w h g)(D:holds s<|ZK c C){x:Operand}{e:E}{sh:List Nat}(d:VM g (Ym g C x) (S2 x)=J (e,sh)){z:V}(r:eval s e=J z):Rd w (h.fu xk sh) z<|a.eval x:=by
 have N:∀b,h.F b->h.fu xk sh b:=λb Y=>.inl Y;have O:∀p∈sh,∀i b,h.bl p i=J b->h.fu xk sh b:=λp hp i b Q=>.inr ⟨p,hp,i,.inl rfl,Q⟩;cases x with
 |tmp t=>
  simp only[Ym,S2]at d;cases j:look g C t with
  |mem M=>
   rw[j]at d;simp only[VM]at d;split at d;cases d;rename_i Z;simp only[Z6c,Z6t]at d;obtain⟨rfl,rfl⟩:=d;obtain⟨v,y,⟨b,L,T,H,rfl,A,K⟩,_⟩:=u.cj D j rfl;rw[Act.an a t _ y];exact J7 H A K Z5h r N<|O t Z1
  |pm p o=>
   rw[j]at d;cases o with
   |succ o=>simp[VM]at d
   |zero=>
    simp only[VM,Z6a]at d;obtain⟨M,hm,d⟩:=d;split at d;cases d;rename_i Z;simp only[Z6c,Z6t]at d;obtain⟨rfl,rfl⟩:=d;obtain⟨v,y,⟨b,H,rfl⟩,_⟩:=u.cj D j rfl;obtain⟨b',L,T,W,_,A,K⟩:=u.dc hm;rw[H]at W;cases W;rw[Act.an a t _ y];exact J7 H A K Z5h r N<|O p Z1
  |dh f n=>
   rw[j]at d;simp only[VM,Z6f,Z6t]at d;obtain⟨es,P,rfl,rfl⟩:=d;obtain⟨v,y,⟨L,rfl,W,A⟩,_⟩:=u.cj D j rfl;rw[Act.an a t _ y];simp only[eval,Z6a]at r;obtain⟨xs,S,r⟩:=r;simp only[JC,Z6c]at r;subst r;obtain⟨X,h2⟩:=B2 u N O P S;refine .dh f xs L Z0 λi x Q=> ?_;have R:i<I n:=by have:=(Z6d.1 Q).1;omega
   obtain⟨b,K,q4⟩:=A i n[i] (by simp[R]);have:L.getD i xy=.pointer (J ⟨b,0,U⟩):=by simp[Z6g,q4]
   grind
  |ni e' a1=>
   rw[j]at d;simp only[VM,Z6c,Z6t]at d;obtain⟨rfl,rfl⟩:=d;obtain⟨v,y,⟨x,hx,a0⟩,_⟩:=u.cj D j rfl;simp_all[Act.an]
  |_=>rw[j]at d;simp[VM]at d
 |const v=>
  have:∀k,VM g k 0=J (e,sh)->(∃M,k=.mem M)\/(∃p o,k=.pm p o)\/(∃f l,k=.dh f l)\/∃e l,k=.ni e l:=by
   intro k j;cases k<;>first|(simp[VM]at j;done)|exact .inl ⟨_,rfl⟩|exact .inr (.inl ⟨_,_,rfl⟩)|exact .inr (.inr<|.inl ⟨_,_,rfl⟩)|simp
  have X:=this _ d;grind [Ym]
 |func f=>grind [Ym,VM]
 |global q=>grind [Ym,VM]
theorem H1(t:RelG c B G s a w h g)(p:holds s<|ZK c C){fl:Bool}{x:Operand}{r:E×List Nat×Bool}(d:zI g C fl x=J r){z:V}(n:eval s r.1=J z):Rd w (h.fu r.2.2 r.2.1) z<|a.eval x:=by
 unfold zI at d;split at d;rename_i o l;simp only[Z6c]at d;subst d;obtain⟨y,u,j⟩:=WH t p l;obtain⟨D,f,k⟩:=Sz (b:=o) u j ⟨z,n⟩;rw[n]at f;cases f;exact k.mono λb q=>GH.me q;simp only[Z6f]at d;obtain⟨A,l,rfl⟩:=d;grind [Hh]
theorem AM(A:RelG c B G s a w h g)(u:holds s<|ZK c C):∀ {l:List Operand} {t:List TypeId} {d:List E×List Nat×Bool},QB c.P g C l t=J d->∀ {j:List V},YB s d.1=J j->
  I j=I l/\∀(i:Nat) (x:Operand),l[i]?=J x->∃z,j[i]?=J z/\Rd w (h.fu d.2.2 d.2.1) z (a.eval x)
 | [],t,d,f,j,hx=>by
   simp only[QB,Z6c]at f;subst f;simp only[YB,Z6c]at hx;subst hx;exact⟨rfl,λi x k=>by simp at k⟩
 |x::l,t,d,f,j,hx=>by
  simp only[QB,Z6a,Z6f]at f;obtain⟨O,K,b,L,rfl⟩:=f;simp only[YB,Z6a,Z6f]at hx;obtain⟨z,q,M,o,rfl⟩:=hx;obtain⟨F,H⟩:=AM A u L o;have r:=H1 A u K q;refine⟨by simp[F],λi y k=> ?_⟩;cases i with
  |zero=>simp at k;subst k;exact⟨z,Z1,r.mono (GH.dv (λe=>by simp[e]) λp n=>by simp[n])⟩
  |succ i=>
   obtain⟨N,Q,D⟩:=H i y Z5h;exact⟨N,Z5h,D.mono (GH.dv (λe=>by simp[e]) λp n=>by simp[n])⟩
theorem IJ(O:RelG c B G s a w h g)(M:holds s<|ZK c C){o:Oper}{fn:FN}{sh:List Nat}{args:List Operand}{ts:List TypeId}(d:zN g C o=J (fn,sh,args,ts)){n:FuncId×List V}(p:Ui s fn=J n)(k:WO c.P n.1=xk):
  ∃j:Array Value,(execOp a.eval o).run c.P w=.ok (.enter n.1<|(args.map a.eval).toArray++j) w/\j.size=I n.2/\∀(i:Nat) (x:V),n.2[i]?=J x->Rd w (h.ext sh) x (j.getD i xy):=by
 have r:∀ {f:FuncId} {args:Array Operand} {q:Array TypeId} {z:Operand} {j:Array Value},WO c.P f=xk->o.op=.call {callee:=.value z,args:=args,argTypes:=q}->a.eval z=.func (.func f) #[] j->
   (execOp a.eval o).run c.P w=.ok (.enter f<|(args.toList.map a.eval).toArray++j) w:=by
  intro f args q z j k l A;unfold WO at k;split at k;rename_i fn D;simp only[Z6l,Z7D,Z8E,Z9L]at k;obtain⟨H,K⟩:=k;obtain⟨code,L⟩:=Z7l.1 K;have:(args.toList.map a.eval).toArray=args.map a.eval:=by rw[<-Array.toList_map,Array.toArray_toList]
  rw[this];simp[execOp,l,resolve,A,Deferred.ofValue,invoke,callFunc,D,H,L];cases k
 unfold zN at d;split at d;rename_i S u q l;simp only[Z6c,Z6t]at d;obtain⟨rfl,rfl,rfl,rfl⟩:=d;simp only[Ui,Z6c]at p;subst p;exact⟨#[],r k l rfl,rfl,λi x F=>by simp at F⟩;rename_i t u q l;split at d;rename_i e R N;simp only[Z6c,Z6t]at d;obtain⟨rfl,rfl,rfl,rfl⟩:=d;obtain⟨v,Q,⟨x,hx,y⟩,_⟩:=O.cj M (show look g C t=_ from N) rfl;simp only[Ui,hx,Z6s]at p;unfold Ry at p;split at p;simp only[Z6c]at p;subst p;cases y;exact⟨#[],r k l<|Act.an a t _ Q,rfl,λi x F=>by simp at F⟩;simp only[Z6c]at p;subst p;cases y with
 |dh _ _ T H K=>grind [Act.an]
 cases p;grind;grind
theorem Pk(K:RelG c B G s a w h g)(M:holds s<|ZK c C){o:Oper}{x y z:Operand}(ho:o.op=.pick x y z){k:TK}{W:List E}(n:jh c g C x y z=J (k,W))(N:∀e∈W,∃z,eval s e=J z)(d:Nat):PRun c B G s a w h o d k:=by
 unfold jh at n;split at n;rename_i t u Z;split at n;cases n;rename_i R;have R:u=c.ix t:=by simpa using R
 subst R;simp only[Z6a,Z6f,Z6t]at n;obtain⟨ey,O,ez,Q,rfl,rfl⟩:=n;obtain⟨v,hv,⟨X,f,T⟩,_⟩:=K.cj M (show look g C t=_ from Z) rfl;obtain⟨q,j⟩:=N _<|List.Mem.head _;have H:=j;simp only[eval]at j f;rw[f,Z6s]at j;have L:ZJ s (c.ix t)=.v X:=by
  cases Y:ZJ s (c.ix t)<;>rw[Y]at f<;>simp at f;rw[f]
 have F:∀b,X=.bool b->(execOp a.eval o).run c.P w=.ok (.value<|if b=xk then a.eval y else a.eval z) w:=by
  intro b D;subst D;have S:v=.bool b:=by cases T;rfl
  subst S;unfold execOp;simp only[ho,Act.an a t _ hv];cases b<;>simp[asBool]
 unfold RO at j;split at j;have l:holds s<|ZK c<|C++[(t,xk)]:=by
  have:ZK c (C++[(t,xk)])=ZK c C++[(c.ix t,xk)]:=by simp[ZK]
  rw[this,yC];refine⟨M,λx hx=> ?_⟩;simp at hx;subst hx;exact L
 obtain⟨r,p,A⟩:=WH K l O;rw[p]at j;cases j;exact⟨_,w,F xk rfl,PRes.ap K.ok ⟨_,H,A.mono λb D=>GH.kl D⟩⟩;have l:holds s<|ZK c<|C++[(t,xw)]:=by
  have:ZK c (C++[(t,xw)])=ZK c C++[(c.ix t,xw)]:=by simp[ZK]
  rw[this,yC];refine⟨M,λx hx=> ?_⟩;simp at hx;subst hx;exact L
 obtain⟨r,p,A⟩:=WH K l Q;rw[p]at j;cases j;exact⟨_,w,F xw rfl,PRes.ap K.ok ⟨_,H,A.mono λb D=>GH.iu D⟩⟩;cases j;cases n
theorem Pj(l:RelG c B G s a w h g)(n:holds s<|ZK c C){o:Oper}{k:TK}{r:List E}(f:jg c g C o=J (k,r))(j:∀e∈r,∃z,eval s e=J z)(d:Nat)(p:o.dst=J d):PRun c B G s a w h o d k:=by
 unfold jg at f;split at f;rename_i x y z q;exact Pk l n q f j d;split at f;cases f;exact jj l n f j d p;rename_i q;split at f;cases f;split at f;simp only[Z6f,Z6t]at f;obtain⟨b,A,rfl,rfl⟩:=f;obtain⟨y,t,u⟩:=WH l n A;exact⟨_,w,by unfold execOp;rw[q];rfl,PRes.ap l.ok ⟨y,t,u⟩⟩;exact jj l n f j d p;exact jj l n f j d p
theorem IU(H:RelG c B G s a w h g){o:Oper}(f:Kw c ops g o=J C):(holds s (ZK c C)->Region.wanted o (yielded ops a.tmps)=xk)/\(¬holds s (ZK c C)->Region.wanted o (yielded ops a.tmps)=xw):=by
 unfold Kw at f;unfold Region.wanted;split at f;simp_all[Z6c,trivial,absurd,Ys];rename_i j d A;simp only[Z6a]at f;obtain⟨t,R,f⟩:=f;simp only[A];have Q:yielded ops a.tmps j=match a.tmps[t]? with|some (.bool b)=>J b|_=>U:=by
  unfold yielded;rw[show(ops[j]?).bind (·.dst)=J t from by grind,Z6s];generalize a.tmps[t]?=q;obtain _|v:=q;rfl;rfl
 split at f;rename_i l u n;split at f;rename_i N;subst N;simp only[Z6c]at f;subst f;have L:ZK c (l++[(t,d)])=ZK c l++[(c.ix t,d)]:=by simp[ZK]
 have F:holds s (ZK c<|l++[(t,d)])↔holds s (ZK c l)/\ZJ s (c.ix t)=.v (.bool d):=by
  rw[L,yC];simp[holds]
 by_cases z:holds s<|ZK c l;obtain⟨v,O,k⟩:=H.Y t Z5i (by rw[n];rfl);rw[n]at k;obtain⟨x,hx,y⟩:=k;have r:ZJ s (c.ix t)=.v x:=by
  simp only[eval]at hx;cases A:ZJ s (c.ix t)<;>rw[A]at hx<;>simp at hx;rw[hx]
 rw[Q,O];constructor;intro p;have:=(F.1 p).2;rw[r]at this;simp only[SV.v.injEq]at this;subst this;have P:v=.bool d:=by cases y;rfl
 simp_all;intro p;have M:x≠.bool d:=λe=>p<|F.2 ⟨z,by rw[r,e]⟩;cases y<;>first
  |rfl
  |simp_all
 have K:=H.skip t Z5i;have D:(match a.tmps[t]? with|some (.bool b)=>J b|_=>U)=(U:Option Bool):=by
  cases p:a.tmps[t]? with
  |none=>rfl
  |some v=>
   simp only[Z6g,p,Z6K]at K;subst K;rfl
 simp_all;cases f;cases f
theorem Er{d:Nat}{k:TK}{v:Value}{efs:List EF}{chks:List (ZI×E)}(n:d<a.tmps.size)(j:Step B [d] [d] [] w w' h h')(f:Ok B G w' h')(l:holds s<|ZK c C)(o:RelK c.P B s w' h' (λp=>(a.put (J d) v).tmps[p]?) d v k):
  OPost c B G s a (a.put (J d) v) w w' h h' {d:=[(d,C,k)],ps:=[d],rb:=[d],fz:=[],efs,chks}:=
 ⟨j,f,LE _ _ _,LD _ _ _,λt g=>ED v g,λt g=>by
  simp_all[Y0,Gam.at,Z7m,Vq,absurd]⟩
theorem Es{d:Nat}{k:TK}{efs:List EF}{chks:List (ZI×E)}(l:d<a.tmps.size)(f:Ok B G w h)(j:¬holds s (ZK c C)):
  OPost c B G s a (a.put (J d) xy) w w h h {d:=[(d,C,k)],ps:=[d],rb:=[d],fz:=[],efs,chks}:=
 ⟨Step.refl _ _ _ _,f,LE _ _ _,LD _ _ _,λt g=>ED _ g,λt g=>by
  simp_all[Y0,Gam.at,Z7m,absurd,Z6g,Vq,Z6K]⟩
theorem RelK.ra{d t:Nat}{v u:Value}{k:TK}(f:RelK c.P B s w h (λp=>a.tmps[p]?) t v k)(g:U5 d k=xw):RelK c.P B s w h (λp=>(a.put (J d) u).tmps[p]?) t v k:=by
 cases k with
 |im p=>
  have:p≠d:=λe=>by simp_all[U5]
  show(a.put (J d) u).tmps[p]?=J v;rw[R1 this];exact f
 |_=>exact f
theorem Lj:∀ {R:List Nat} {g:Gam} {t:Nat},(only g R).at t=if t∈R then g.at t else([],.no)
 | [],g,t=>rfl
 |u::R,g,t=>by
  simp only[only,Z6R,Gam.at];by_cases a:u=t;grind;rw[Z6h a];have:=Lj (R:=R) (g:=g) (t:=t);simp_all[only,Z8d]
theorem Fh(z:RelG c B G s a w h g){ks:List OT}{d:List AP}{aq_:List (E×Option Nat)}(n:Ur c g C ks d=J aq_)(u:∀(i:Nat) (e:E) (p:Nat),aq_[i]?=J (e,J p)->∃X,eval s e=J X){vs:Array Value}
  (o:∀(i:Nat) (e:E) (p:Nat),aq_[i]?=J (e,J p)->a.tmps[p]?=J (vs.getD i xy)):
  (∀(i:Nat) (e:E) (p:Nat),aq_[i]?=J (e,J p)->a.tmps[p]?=J (vs.getD i xy)/\((∃l b,ks[i]?=J (.mem l)/\h.bl p 0=J b/\vs.getD i xy=.pointer (J ⟨b,0,U⟩))\/∃q,ks[i]?=J (.own q))):=by
 obtain⟨r,j,t⟩:=Q9 n;intro i e p k;have f:i<I ks:=by rw[<-j];exact(Z6d.1 k).1
 have y:ks[i]?=J ks[i]:=Z6b f;have x:d[i]?=J d[i]:=Z6b Z0;grind [Lx,Option.some.injEq]
theorem OZ{ks:List OT}{a:List AP}{aq_:List (E×Option Nat)}(n:Ur c g C ks a=J aq_):∀(j:Nat) (k:OT) (y:E×Option Nat),ks[j]?=J k->aq_[j]?=J y->(y.2=U↔k=OT.fz):=by
 obtain⟨p,q,h⟩:=Q9 n;intro j k y f o;have l:j<I ks:=(Z6d.1 f).1;have d:=h j k _ y f (Z6b (by omega:j<I a)) o;unfold S7 at d;grind [Option.bind_eq_some_iff,Option.some.injEq]
theorem Ru:∀ {l:List Operand} {ts:List TypeId},I (WX l ts)=I l/\∀(i:Nat) (x:AP),(WX l ts)[i]?=J x->∃y t,l[i]?=J y/\x=.op y t
 | [],ts=>by simp[WX]
 |x::l,[]=>by
  obtain⟨d,f⟩:=Ru (l:=l) (ts:=[]);refine⟨by simp[WX,d],λi y a=> ?_⟩;cases i with
  |zero=>simp[WX]at a;exact⟨x,0,rfl,a.symm⟩
  |succ i=>simpa using f i y (by simpa[WX]using a)
 |x::l,t::ts=>by
  obtain⟨d,f⟩:=Ru (l:=l) (ts:=ts);refine⟨by simp[WX,d],λi y a=> ?_⟩;cases i with
  |zero=>simp[WX]at a;exact⟨x,t,rfl,a.symm⟩
  |succ i=>simpa using f i y (by simpa[WX]using a)
theorem II(hr:RelG c B G s a w h g)(hC:holds s<|ZK c C){o:Oper}{fn:FN}{ks:List OT}{A:List AP}(d:zM c g C o=J (fn,ks,A)){f:FuncId}(u:V2 s fn=J f)(q:WO c.P f=xk):
  ∃K:Array Value,(execOp a.eval o).run c.P w=.ok (.enter f K) w/\K.size=I A/\∀(i:Nat) (x:AP),A[i]?=J x->QA a h x (K.getD i xy):=by
 have r:∀ {args:Array Operand} {j:Array TypeId} {L:Operand} {k:Array Value},o.op=.call {callee:=.value L,args:=args,argTypes:=j}->a.eval L=.func (.func f) #[] k->
   (execOp a.eval o).run c.P w=.ok (.enter f<|args.map a.eval++k) w:=by
  intro args j L k n O;unfold WO at q;split at q;rename_i fn Q;simp only[Z6l,Z7D,Z8E,Z9L]at q;obtain⟨h1,Z⟩:=q;obtain⟨code,N⟩:=Z7l.1 Z;simp[execOp,n,resolve,O,Deferred.ofValue,invoke,callFunc,Q,h1,N];cases q
 have plain:∀ {args:Array Operand} {j:Array TypeId} {i:Nat} {x:AP},(WX args.toList j.toList)[i]?=J x->QA a h x ((args.map a.eval).getD i xy):=by
  intro args j i x z;obtain⟨y,t,Y,rfl⟩:=(Ru (l:=args.toList) (ts:=j.toList)).2 i x z;rw[Z7n]at Y;have S:i<args.size:=(Z6N.1 Y).1;show(args.map a.eval).getD i xy=a.eval y;simp[Z6g,Y]
 unfold zM at d;split at d;rename_i M args j n;simp only[Z6f,Z6t]at d;obtain⟨H,_,rfl,rfl,rfl⟩:=d;simp only[V2,Z6c]at u;subst u;refine⟨args.map a.eval++ #[],r n rfl,by simp_all[Ru],λi x z=> ?_⟩;grind;rename_i t args j n;split at d;rename_i M k R;simp only[Z6f,Z6t]at d;obtain⟨H,_,rfl,rfl,rfl⟩:=d;simp only[V2,Z6c]at u;subst u;obtain⟨v,T,⟨K,rfl,Z,N⟩,_⟩:=hr.cj hC (show look g C t=_ from R) rfl;have D:=(Ru (l:=args.toList) (ts:=j.toList)).1;simp only[Z8D]at D;refine⟨args.map a.eval++K,r n<|Act.an a t _ T,Z5h,λi x z=> ?_⟩;by_cases S:i<args.size;rw[Z6B Z0]at z;have:=plain z;simp_all[Z6g,Z8w];rw[Z6v Z0,Z6G,Z6f]at z;obtain⟨p,hp,rfl⟩:=z;rw[D]at hp;obtain⟨b,q1,q2⟩:=N _ p hp;refine⟨b,q1,?_⟩;simp_all[Z6g,Z8X];rename_i e sh R;simp only[Z6f,Z6t]at d;obtain⟨H,_,rfl,rfl,rfl⟩:=d;obtain⟨v,T,⟨x,hx,X⟩,_⟩:=hr.cj hC (show look g C t=_ from R) rfl;simp only[V2,hx]at u;split at u;rename_i M F;simp only[Z6c]at F u;subst F u;have W:v=.func (.func M) #[] #[]:=by cases X;rfl
 subst W;refine⟨args.map a.eval++ #[],r n<|Act.an a t _ T,by simp_all[Ru],λi x z=> ?_⟩;rw[Array.append_empty];exact plain z;cases u;grind;grind
theorem qx:∀ {ks:List OT} {aq_:List (E×Option Nat)} {g:List V},I aq_=I ks->Wk s ks (aq_.map (·.1))=J g->∃a,I a=I ks/\Xw ks a=g/\∀(i:Nat) (k:OT) (y:E×Option Nat) (x:V),ks[i]?=J k->k≠.fz->aq_[i]?=J y->a[i]?=J x->eval s y.1=J x
 | [],[],g,_,d=>by
   simp only[Z7B,Wk,Z6c]at d;subst d;exact⟨[],rfl,rfl,λi k y x h=>Z5V⟩
 | [],_::_,g,f,_=>by simp at f
 |_::_,[],g,f,_=>by simp at f
 |k::ks,(e,o)::aq_,g,f,d=>by
  by_cases h:k=.fz;subst h;simp only[Z6R,Wk]at d;obtain⟨a,q,r,t⟩:=qx (ks:=ks) (aq_:=aq_) Z5y d;refine⟨.bool xw::a,by simp[q],by simpa only[Xw]using r,λi k y x j p l n=> ?_⟩;cases i with
  |zero=>simp at j;exact absurd j.symm p
  |succ i=>exact t i k y x (by simpa using j) p (by simpa using l) (by simpa using n)
  have w:Wk s (k::ks) (e::aq_.map (·.1))=(eval s e).bind λx=>(Wk s ks (aq_.map (·.1))).map (x:: ·):=by cases k<;>first|exact absurd rfl h|simp only[Wk]
  rw[Z6R,w]at d;simp only[Z6a,Z6f]at d;obtain⟨x,hx,B,u,rfl⟩:=d;obtain⟨a,q,r,t⟩:=qx (ks:=ks) (aq_:=aq_) Z5y u;have A:Xw (k::ks) (x::a)=x::Xw ks a:=by cases k<;>first|exact absurd rfl h|simp only[Xw]
  refine⟨x::a,by simp[q],by rw[A,r],λi k y z j p l n=> ?_⟩;cases i with
  |zero=>simp at l n;subst l n;exact hx
  |succ i=>exact t i k y z (by simpa using j) p (by simpa using l) (by simpa using n)
def RZ(P:Program) [Lg P](s:St)(a:OS):Prop:=(∀d∈a.efs,Ro P s d)/\∀x∈a.chks,holds s x.1->∃z,eval s x.2=J z
theorem Z0O [Lg c.P]{g8 R:List Nat}{all:Gam}{o:Oper}{os:OS}{i:Nat}(T:ops[i]?=J o)(hR:R=Um ops all o)(H:RelG c B G s a w h<|only all R)(A:Rh c g8 ops all o=J os)(b1:RZ c.P s os)(hn:c.n<=a.tmps.size)
  {K:Act->World->Prop} (hK:∀a' w' h',OPost c B G s a a' w w' h h' os->(∃u,a'=a.put o.dst u)->K a' w'):SP c.P ops i K a w:=by
 subst hR;unfold SP;simp only[T];unfold Rh at A;simp only at A;split at A;cases A;rename_i h9;have Q:∀d,o.dst=J d->d<a.tmps.size:=by
  intro d N;obtain O|i4:=Nat.lt_or_ge d c.n;exact Z6o O hn;simp[Bc,N,Nat.not_lt.2 i4]at h9
 simp only[Z6a]at A;obtain⟨C,hC,A⟩:=A;obtain⟨d0,e8⟩:=IU (ops:=ops) H hC;split at A
 ·
  rename_i fn ks a9 d a2 N;unfold jY at A;split at A;cases A;simp only[Z6a]at A;obtain⟨aq_,W,A⟩:=A;split at A;cases A;rename_i f8;simp only[Z6z,Z7D,Z9O,Z8N,Z8e,Z6J]at f8;obtain⟨hn,f5⟩:=f8;have hn:=CV.1 hn;simp only[Z6c]at A;subst A;have f6:=b1.1 _<|List.Mem.head _;obtain⟨k1,a3,M⟩:=Q9 W;have hz:=OZ W;rw[N];by_cases L:holds s<|ZK c C;rw[Z6k<|d0 L];obtain⟨xs,f,R,d1,hf,⟨d8,b8⟩,hR⟩:=f6.1 L;obtain⟨vs,f7,j6,g4⟩:=II H L a2 hf d8;have a1:=H2 H L W d1 j6 g4;obtain⟨_,g5⟩:=Ud d1;have hX:∀(i:Nat) (e:E) (p:Nat),aq_[i]?=J (e,J p)->∃X,eval s e=J X:=λi e p T=>by
   obtain⟨X,_,hX⟩:=g5 i e (by rw[Z6G,T];rfl);exact⟨X,hX⟩
  have a6:=Fh H W hX (vs:=vs) λi e p T=>by
   have O:i<I ks:=Z5S;have S:ks[i]?=J ks[i]:=Z6b O;have ha:a9[i]?=J a9[i]:=Z6b Z0;obtain⟨X,hx⟩:=hX i e p T;exact(E8 (ks:=ks) (aq_:=aq_) H L (M i _ _ _ S ha T) hx (g4 i _ ha) S T).2 p rfl
  rw[f7,FL];refine Lg.ft (b8 B w (WZ _ h w ks aq_) vs (B0 H.ok hn) a1) λe w' he=> ?_;obtain⟨v,r,ys,hx,rfl,Z,e5,g1,h5,a5,hB,a4⟩:=he;refine⟨v,rfl,?_⟩;rw[N];refine hK _ _ _ (B1 H W hn (Q d N) f5 a6 hz g1 h5 Z e5 hB (r0:=r) (λe4=> ?_) (λ_=> ?_) λe0=>absurd L e0) ⟨_,by rw[N]⟩;rw[hR,a4];cases a0:Xw ks ys with
  |nil=>exact absurd a0 e4
  |cons x l=>rfl
  have e9:∀b,hx.F b->(Ve h hx aq_).F b:=λb D=>.inr D;cases a0:Xw ks ys with
  |nil=>
   have b6:(aq_.filterMap (·.2)).isEmpty=xk:=by
    cases j1:aq_.filterMap (·.2)with
    |nil=>rfl
    |cons p l=>
     exfalso;have j3:p∈Y0 (XE (c.ix d) 1 ks aq_):=by rw[qz a3,j1];simp
     obtain⟨_,_,_,_,_,_,_,_,_,q5⟩:=Lk (i0:=c.ix d) (q:=1) (ys:=ys) a3 hB.1 hz p j3;rw[a0]at q5;simp at q5
   rw[Z6k b6];refine⟨r,?_,a5.mono λb D=>GH.bz<|e9 b D⟩;simp only[eval,hR,a4,a0,Q7]
  |cons x l=>
   have b6:¬(aq_.filterMap (·.2)).isEmpty=xk:=by
    intro he;have f9:=Z8B.1 he;have:∀ {ks:List OT} {aq_:List (E×Option Nat)} {ys:List V},I aq_=I ks->(∀(j:Nat) (k:OT) (y:E×Option Nat),ks[j]?=J k->aq_[j]?=J y->(y.2=U↔k=OT.fz))->aq_.filterMap (·.2)=[]->Xw ks ys=[]:=by
     intro ks;induction ks with
     |nil=>intro aq_ ys _ _ _;simp[Xw]
     |cons k ks ih=>
      intro aq_ ys h1 h2 h3;obtain _|⟨y,aq_⟩:=aq_;simp at h1;have hy:y.2=U:=by
       cases hy:y.2 with
       |none=>rfl
       |some p=>simp[Z7S,hy]at h3
      have S:=(h2 0 k y rfl rfl).1 hy;subst S;obtain _|⟨z,ys⟩:=ys;simp[Xw];simp only[Xw];exact ih (by simpa using h1) (λj k y q1 q2=>h2 (j+1) k y (by simpa using q1)<|by simpa using q2) (by simpa[Z7S,hy]using h3)
    have:=this (ys:=ys) a3 hz f9;rw[a0]at this;cases this
   rw[Z6h b6];refine⟨r,?_,a5.mono λb D=>GH.bz<|e9 b D⟩;simp only[eval,hR,a4,a0,Q7,Z6s,Tc,Z8m]
  rw[Z6h (by rw[e8 L];simp)];obtain⟨os,a0,i6⟩:=f6.2 L;obtain⟨ys,j7,g6,j8⟩:=qx a3 a0;let vs:Array Value:=(aq_.map λy=>match y.2 with|some p=>a.tmps.getD p xy|none=>xy).toArray;have hX:∀(i:Nat) (e:E) (p:Nat),aq_[i]?=J (e,J p)->∃X,ys[i]?=J X/\eval s e=J X:=λi e p T=>by
   have O:i<I ks:=Z5S;have S:ks[i]?=J ks[i]:=Z6b O;have g7:ys[i]?=J ys[i]:=Z6b Z0;have e3:ks[i]≠.fz:=λe'=>by have:=(hz i _ _ S T).2 e';cases this
   exact⟨_,g7,j8 i _ _ _ S e3 T g7⟩
  have d6:∀(i:Nat) (e:E) (p:Nat),aq_[i]?=J (e,J p)->a.tmps[p]?=J (vs.getD i xy):=λi e p T=>by
   have O:i<I ks:=Z5S;have S:ks[i]?=J ks[i]:=Z6b O;have ha:a9[i]?=J a9[i]:=Z6b Z0;obtain⟨X,_,hx⟩:=hX i e p T;obtain⟨v,q1,_⟩:=Lx (ks:=ks) (aq_:=aq_) H (M i _ _ _ S ha T) hx S T;have:vs.getD i xy=v:=by simp[vs,Z6g,T,q1]
   rw[this];exact q1
  have a6:=Fh H W (λi e p T=>by obtain⟨X,_,hX⟩:=hX i e p T;exact⟨X,hX⟩) d6;refine hK _ _ _ (B1 H W hn (Q d N) f5 a6 hz (B0 H.ok hn) rfl (.refl _ _) (.refl _ _) (ys:=ys) ⟨j7,λi k y S e3 hy=> ?_⟩ (r0:=.bool xw) (λe4=>by rw[g6];exact i6 (by rw[<-g6];exact e4)) (λe0=>absurd e0 L) λ_=>rfl) ⟨_,by rw[N]⟩;have O:i<I ks:=(Z6d.1 S).1;have ha:a9[i]?=J a9[i]:=Z6b Z0;have hs:aq_[i]?=J aq_[i]:=Z6b Z0;generalize aq_[i]=y0 at hs;obtain⟨e,o⟩:=y0;obtain _|p:=o;exact absurd ((hz i k _ S hs).1 rfl) e3;obtain⟨X,f0,h6⟩:=hX i e p hs;rw[hy]at f0;cases f0;obtain⟨v,q1,q2,_⟩:=Lx (ks:=ks) (aq_:=aq_) H (M i _ _ _ S ha hs) h6 S hs;have:=d6 i e p hs;rw[q1]at this;simp only[Z6c]at this;rw[<-this];exact q2
 cases A;split at A
 ·
  rename_i f d2 args ts d a2 N;unfold jX at A;split at A;cases A;simp only[Z6f]at A;obtain⟨aq_,W,rfl⟩:=A;by_cases L:holds s<|ZK c C;rw[Z6k<|d0 L];obtain⟨xs,n,r,d1,i3,b8,i2,M⟩:=b1.1 _ (List.Mem.head _) L;obtain⟨hl,hx⟩:=AM H L W d1;obtain⟨d8,b8⟩:=b8;obtain⟨a7,c0,f3,f2⟩:=IJ H L a2 i3 d8;rw[c0,FL];refine Lg.ft (b8 w (h.fu aq_.2.2<|aq_.2.1++d2) ((args.map a.eval).toArray++a7) (GH.oe H.ok) (by simp[hl,f3]) λj x hj=> ?_) λe w' he=> ?_;by_cases O:j<I args;rw[Z6B Z0]at hj;obtain⟨z,hz,k0⟩:=hx j args[j] (by simp[O]);rw[hj]at hz;cases hz;have:((args.map a.eval).toArray++a7).getD j xy=a.eval args[j]:=by
   rw[Z6g,Z8w (by simpa using O)];simp[O]
  rw[this];exact k0.mono (GH.dv (λe=>e) λp hp=>by simp[hp]);rw[Z6v Z0]at hj;have:=f2 _ x hj;have e:((args.map a.eval).toArray++a7).getD j xy=a7.getD (j-I xs) xy:=by
   rw[Z6g,Z6g,Z8X Z5j];simp[hl]
  rw[e];exact this.mono λb D=>GH.dv (λe=>by cases e) (λp hp=>by simp[hp]) b<|GH.me (big:=xw) D;obtain⟨v,rfl,Z,a5⟩:=he;refine⟨v,rfl,?_⟩;have c2:=Z.size;let h':GH:= {F:=λb=>h.F b\/(xz (xj w)<=b/\b<xz (xj w')),bl:=h.bl,K:=h.K};have b5:Ok B G w' h':=by
   refine⟨Z6H H.ok.V c2,λb D=> ?_,λb D=> ?_,λb D=>.inl<|H.ok.gs b D,λt j b D=> ?_,H.ok.inj,λb D=>Z6o (H.ok.cw b D) c2,H.ok.cl,λb D=> ?_⟩;obtain D|D:=D;exact Z6o (H.ok.cd b D) c2;exact D.2;obtain D|D:=D;exact H.ok.dl b D;exact .inr<|Z6H H.ok.V D.1;obtain⟨h1,h2,h3⟩:=H.ok.ax t j b D;refine⟨h1,Z6o h2 c2,λhF=> ?_⟩;obtain hF|hF:=hF;exact h3 hF;omega;obtain D|D:=D;exact H.ok.fw b D;exact .inr λi8=>by have:=H.ok.cw b i8;omega
  have e6:Step B [d] [d] [] w w' h h':=⟨Z.mono H.ok.V,λb D _=>Z.block b D,λb D=>.inl D,λ_ _ _=>rfl,λ_ _=>rfl,λ_ _ _ _ hm=>(by simp at hm),rfl⟩;rw[N];have b3:∀b,h.fu aq_.2.2 (aq_.2.1++d2) b->h'.fu aq_.2.2 (aq_.2.1++d2) b:=λb D=>by
   obtain D|D:=D;exact .inl<|.inl D;exact .inr D
  refine hK _ _ h' (Er (Q d N) e6 b5 L ?_) ⟨_,by rw[N]⟩;split
  ·
   rename_i a8;simp only[Z6l]at a8;refine⟨r,by simp only[eval,M],a5.mono λb D=> ?_⟩;obtain⟨_,D⟩|D:=D;rw[a8.1]at b3 D;exact b3 b D;exact .inl<|.inr D
  rename_i a8;refine⟨r,by simp only[eval,M],?_⟩;split;rename_i g2;simp only[Z6z]at g2;obtain d9|c1:=g2;have b4:=i2 d9;unfold Ws at b4;split at b4;cases b4;rename_i j0;split at b4;rename_i f1;exact a5.la (λy hy=>Z6y.1 f1 y hy) λl hl=>j0 l hl;cases b4;refine a5.mono λb D=> ?_;obtain⟨D,_⟩|D:=D;rw[c1]at D;cases D;exact .inl<|.inr D;rename_i d4;refine a5.mono λb D=> ?_;obtain⟨_,D⟩|D:=D;have h8:aq_.2.2=xw:=by
   cases h7:aq_.2.2;rfl;exfalso;apply a8;rw[h7]at d4⊢;simp only[Z8u];cases hz:((!(aq_.2.1++d2).isEmpty||xk)&& !RH c f&&XB c.P o.type||RH c f);rfl;exact(d4 hz).elim
  have:=b3 b D;rw[h8]at this;exact GH.nm this;exact .inl<|.inr D;rw[Z6h (by rw[e8 L];simp)];rw[N];exact hK _ _ h (Es (Q d N) H.ok L) ⟨_,by rw[N]⟩
 cases A;split at A
 ·
  rename_i k es d j2 N;have g3:∃k' efs chks,os= {d:=[(d,C,k')],ps:=[d],rb:=[d],fz:=[],efs,chks}/\(holds s (ZK c C)->(∀e∈es,∃z,eval s e=J z)/\∀ {v w' h'},RelK c.P B s w' h' (λp=>a.tmps[p]?) d v k->RelK c.P B s w' h' (λp=>(a.put (J d) v).tmps[p]?) d v k'):=by
   unfold A0 at A;split at A;split at A;rename_i e;split at A;cases A;simp only[Z6c]at A;subst A;refine⟨_,_,_,rfl,λL=>⟨λe he=>b1.2 (ZK c C,e) (Z6F.2 ⟨e,he,rfl⟩) L,λS=> ?_⟩⟩;obtain⟨x,hx,M⟩:=b1.1 _ (List.Mem.head _) L;obtain⟨y,hy,j9⟩:=S;rw[hx]at hy;cases hy;exact⟨x,by simp only[eval,M],j9⟩;cases A;split at A;cases A;rename_i ht;simp only[Z6z,Z9O,Z8S]at ht;simp only[Z6c]at A;subst A;refine⟨_,_,_,rfl,λL=>⟨λe he=>b1.2 (ZK c C,e) (Z6F.2 ⟨e,he,rfl⟩) L,λS=>S.ra ht.1⟩⟩
  obtain⟨k',efs,chks,rfl,a1⟩:=g3;by_cases L:holds s<|ZK c C;rw[Z6k<|d0 L];obtain⟨i1,a1⟩:=a1 L;obtain⟨v,w',b7,h',j5,b5,i7⟩:=Pj H L j2 i1 d N;rw[b7,FM,N];exact hK _ _ h' (Er (Q d N) j5 b5 L<|a1 i7) ⟨_,by rw[N]⟩;rw[Z6h (by rw[e8 L];simp),N];exact hK _ _ h (Es (Q d N) H.ok L) ⟨_,by rw[N]⟩
 ·
  split at A;cases A;rename_i g9;have i5:o.guard=U:=by cases hg:o.guard<;>simp_all
  have h0:C=[]:=by
   unfold Kw at hC;rw[i5]at hC;simpa using hC.symm
  subst h0;rw[Z6k<|d0<|Ys s c];simp only[Z6a]at A;obtain⟨m,hm,A⟩:=A;split at A;rename_i d5;simp only[Z6l,Z6y,Z8e,Z6J]at d5;obtain⟨⟨b6,j4⟩,f4⟩:=d5;simp only[Z6c]at A;subst A;obtain⟨n,u,w',h',b7,i9,Y⟩:=NZ H Q hm λe he=>b1.2 ([],e) (Z6F.2 ⟨e,he,rfl⟩)<|RJ s;have c7:∀t,t∉m.ps->(a.put o.dst u).tmps[t]?=a.tmps[t]? :=by
   intro t ht;cases N:o.dst with
   |none=>rfl
   |some d=>
    refine R1 (λe=>ht ?_) u;rw[e];simpa[Bd,N]using f4
  have d3:OPost c B G s a (a.put o.dst u) w w' h h'<|jZ (only all (Um ops all o)) all m:=by
   refine⟨Y.step,Y.ok,LE _ _ _,LD _ _ _,c7,λt ht=> ?_⟩;simp only[jZ,Y0,Z7I,Z6Q]at ht⊢;rw[Vd,Vd];simp only[Y0,Z7I,Z6Q];by_cases h1:t∈Y0 m.d;have b2:t∈List.map (·.1) m.d:=h1;simp only[b2,true_or,Z7m];obtain⟨e1,e2⟩:=Y.sq t h1;exact⟨λ_ b0=>e2 b0,λhn=>absurd (by rw[e1];exact Ys s c) hn⟩;have b2:t∉List.map (·.1) m.d:=h1;by_cases h2:t∈Y0 (XX m.ps m.rb m.fz all);have b9:t∈List.map (·.1) (XX m.ps m.rb m.fz all):=h2;simp only[b2,b9,false_or,Z7m,Z7K,KV h2];exact⟨λ_ b0=>by simp[TK.bu]at b0,λhn=>absurd (Ys s c) hn⟩;have b9:t∉List.map (·.1) (XX m.ps m.rb m.fz all):=h2;have h3:t∈m.fz:=by
    obtain(ht|ht)|ht:=ht;exact absurd ht b2;exact absurd ht b9;have:=KL (fz:=m.fz) (g:=only all (Um ops all o));unfold Y0 at this;rw[this]at ht;exact ht
   have e7:t∉m.ps:=λhp=>h1<|b6 t hp;have d7:V0 m.ps m.rb m.fz ((only all (Um ops all o)).at t).2=xk:=by
    rw[Lj];split;exact C2 h2;exact zO _ _ _
   simp only[b2,b9,false_or,Z7K,KK h3];refine⟨λh4 b0=> ?_,λhn=> ?_⟩;have g0:((only all (Um ops all o)).at t).2.bu=xw:=by
    cases S:((only all (Um ops all o)).at t).2<;>first|rfl|(rw[S]at b0;simp[SB,TK.bu]at b0)
   obtain⟨v,hv,S⟩:=H.Y t h4 g0;exact⟨v,by rw[c7 t e7];exact hv,S.freeze Y.step H.ok j4 e7 h3 d7 c7⟩;have:=H.skip t hn;simp only[Z6g,c7 t e7]at this⊢;exact this
  rw[b7];obtain rfl|⟨rfl,rfl⟩:=i9;rw[FM];exact hK _ _ h' d3 ⟨_,rfl⟩;rw[Z1h];exact hK _ _ h' d3 ⟨_,rfl⟩;cases A
end
end Vm
end
section
namespace Vm
open Go
open Go.RowKit (Below)
def gL:List XS->Nat->(Nat->Bool)->Gam->Gam
 | [],_,_,g=>g
 |x::xs,k,L,g=>gL xs (k+1) L (if L k then x.os.d++g else g)
def YD(xs:List XS)(g:Gam):Gam:=xs.foldl (λg x=>x.os.d++g) g
def KM{t}:∀ {xs} {k:Nat} {L h:Nat->Bool} {g j:Gam},(∀i x,xs[i]?=J x->t∈Y0 x.os.d->L (k+i)=h (k+i))->g.at t=j.at t->(gL xs k L g).at t=(gL xs k h j).at t
 | [],_,_,_,_,_,_,a=>a
 |x::xs,k,L,h,g,j,n,a=>by
  simp[gL];refine KM (λi y o f=> ?_) ?_;have:=n (i+1) y Z5h f;grind;by_cases f:t∈Y0 x.os.d;have l:=n 0 x rfl f;rw[Z7Z]at l;rw[<-l];split;simp_all[Vd];exact a;have:∀b g,Gam.at (if b=xk then x.os.d++g else g) t=g.at t:=by
   intro b g;split;rw[Vd,Z6h f];rfl
  rw[this,this];exact a
def yq{t}:∀ {xs} {k:Nat} {L:Nat->Bool} {g:Gam},(∀i x,xs[i]?=J x->L (k+i)=xk->t∉Y0 x.os.d)->(gL xs k L g).at t=g.at t
 | [],_,_,_,_=>rfl
 |x::xs,k,L,g,a=>by
  simp[gL];rw[yq λi y h j=>a (i+1) y Z5h Z5h];split;rename_i f;rw[Vd,Z6h<|a 0 x rfl f];rfl
def BK{t}:∀ {xs} {k i:Nat} {L:Nat->Bool} {g:Gam} {x:XS},xs[i]?=J x->L (k+i)=xk->t∈Y0 x.os.d->(∀j y,xs[j]?=J y->i<j->L (k+j)=xk->t∉Y0 y.os.d)->(gL xs k L g).at t=x.os.d.at t
 | [],_,_,_,_,_,a,_,_,_=>by simp at a
 |y::xs,k,0,L,g,x,a,f,n,l=>by
  simp at a;subst a;simp[gL];rw[Z7Z]at f;rw[f,Z6k rfl,yq λj z p h=>l (j+1) z Z5h Z0 Z5h,Vd,Z6k n]
 |y::xs,k,i+1,L,g,x,a,f,n,l=>by
  simp[gL];exact BK (i:=i) (by simpa using a) Z5h n λj z p o h=>l (j+1) z Z5h Z0 Z5h
def BJ{t}:∀ {xs} {k:Nat} {L:Nat->Bool} {g:Gam},(gL xs k L g).at t=g.at t\/∃j y,xs[j]?=J y/\L (k+j)=xk/\t∈Y0 y.os.d/\(gL xs k L g).at t=y.os.d.at t
 | [],_,_,_=>.inl rfl
 |x::xs,k,L,g=>by
  simp[gL];obtain h|⟨j,y,l,n,a,h⟩:=BJ (xs:=xs) (k:=k+1) (L:=L) (g:=if L k=xk then x.os.d++g else g) (t:=t);by_cases f:L k=xk;rw[Z6k f]at h⊢;rw[Vd]at h;split at h;rename_i a;exact .inr ⟨0,x,rfl,f,a,h⟩;simp_all;simp_all;exact .inr ⟨j+1,y,Z5h,Z5h,a,h⟩
def yr:∀ {xs} {k j:Nat} {g:Gam},gL xs k (λi=>decide (i<k+j)) g=YD (xs.take j) g
 | [],_,_,_=>by simp[gL,YD]
 |x::xs,k,0,g=>by
  simp[gL];have h:∀xs a g,k<=a->gL xs a (λi=>decide (i<k+0)) g=g:=by
   intro xs;induction xs with
   |nil=>intro a g _;rfl
   |cons y p n=>
    intro a g o;simp[gL];rw[Z6h Z5j];exact n _ g Z0
  exact h xs _ g Z0
 |x::xs,k,j+1,g=>by
  simp only[gL];rw[Z6k Z1];have f:=yr (xs:=xs) (k:=k+1) (j:=j) (g:=x.os.d++g);have l:(λi=>decide (i<k+1+j))=λi=>decide (i<k+(j+1)):=by
   funext i;congr 1;apply propext;omega
  rw[l]at f;rw[f];simp[YD]
def Ft{c draw k ops}:∀ {l} {g p:Gam} {a xs:List XS},JW c draw k ops l g a=J (p,xs)->
  ∃f,xs=a++f/\I f=I l/\p=YD f g/\∀j o,l[j]?=J o->∃y,f[j]?=J y/\Rh c k ops (YD (f.take j) g) o=J y.os/\y.R=Um ops (YD (f.take j) g) o/\y.T=Qp draw (a++f.take j) o/\(draw=xk->∀e∈Vg o,e<I a+j)
 | [],g,p,a,xs,h=>by
   obtain⟨rfl,rfl⟩:=h;exact⟨[],Z1,rfl,rfl,Z1⟩
 |o::l,g,p,a,xs,h=>by
  simp only[JW]at h;split at h;cases h;rename_i d;simp[Z6a]at h;let⟨os,t,h⟩:=h;obtain⟨f,rfl,C,rfl,n⟩:=Ft h;refine⟨{os,R:=Um ops g o,T:=Qp draw a o}::f,Z1,by simp[C],by simp[YD],λj D u=> ?_⟩;cases j with
  |zero=>
   simp at u;subst u;refine⟨_,rfl,by simpa[YD]using t,by simp[YD],Z1,λq e r=> ?_⟩;simp[q,Z8u,Z6J]at d;exact d e r
  |succ j=>
   let⟨y,w,x,z,A,B⟩:=n j D Z5h;refine⟨y,by simpa using w,by simpa[YD]using x,by simpa[YD]using z,by simpa using A,λq e r=> ?_⟩;have:=B q e r;simp at this;omega
structure Reg.Fine (c:Ctx) (draw:Bool) (ops:Array Oper) (g0:Gam) (xs:List XS):Prop where
 len:I xs=ops.size
 Y:∀(i:Nat) (o:Oper) (x:XS),ops[i]?=J o->xs[i]?=J x->Rh c (KW ops) ops (YD (xs.take i) g0) o=J x.os/\x.R=Um ops (YD (xs.take i) g0) o/\x.T=Qp draw (xs.take i) o/\(draw=xk->∀e∈Vg o,e<i)
 ps:∀(i:Nat) (x:XS),xs[i]?=J x->(∀p∈x.os.ps,p∈Y0 x.os.d)/\(∀p∈x.os.fz,p∈Y0 x.os.d)/\JG x.os g0=xk/\∀j∈x.T,j<i
 pd:∀(i j:Nat) (x y:XS),xs[i]?=J x->xs[j]?=J y->Lf x i y j=xk
def Md{c draw ops g0 gf xs}(h:JW c draw (KW ops) ops ops.toList g0 []=J (gf,xs))(d:qv g0 xs=xk):Reg.Fine c draw ops g0 xs/\gf=YD xs g0:=by
 obtain⟨z,g,t,rfl,a⟩:=Ft h;simp at g;subst g;refine⟨⟨Z0,λi o x u f=> ?_,λi x f=> ?_,λi j x y f w=> ?_⟩,rfl⟩;let⟨y,k,l,n,p,r⟩:=a i o Z5h;simp_all;all_goals
  simp only[qv,Z6y,Z6l]at d;have q:∀i x,xs[i]?=J x->(x,i)∈xs.zipIdx:=λi x f=>Z8r.2 ⟨i,by rw[Z8f,f];simp⟩
 let⟨⟨⟨⟨k,l⟩,n⟩,p⟩,_⟩:=d _<|q i x f;simp_all;simp_all
section
variable {c:Ctx}{B:Nat}{G:Nat->Prop}{s:St}{a a':Act}{w w' w0:World}{h h':GH}{g0:Gam}{ops:Array Oper}{xs:List XS}{draw:Bool}{L:Nat->Bool}
def Rn(xs:List XS)(L:Nat->Bool):Prop:=∀(i:Nat) (x:XS),xs[i]?=J x->L i=xk->∀j∈x.T,L j=xk
def add(L:Nat->Bool)(i:Nat):Nat->Bool:=λj=>L j||j==i
def qL{x y i j}(g:Lf x i y j=xk)(f:j≠i)(a:i∉y.T):JG x.os y.os.d=xk/\(j∉x.T->(∀t∈Y0 y.os.d,t∉Y0 x.os.d)/\∀t∈Y0 y.os.d,t∉x.R):=by
 simp[Lf,a]at g;grind [zF,decide_eq_false_iff_not]
def EH{a g}(h:JG a g=xk){t}(j:t∉Y0 a.d):V0 a.ps a.rb a.fz (g.at t).2=xk:=by
 by_cases f:t∈Y0 g;have:=Z6y.1 h _<|Kn f;simp_all;simp_all[zK,zO]
def Reg.Fine.mh(q:Reg.Fine c draw ops g0 xs)(p:Rn xs L)(r:RelG c B G s a w h<|gL xs 0 L g0){i x}(hx:xs[i]?=J x)(O:L i=xw)(N:∀j∈x.T,L j=xk):
  RelG c B G s a w h (only (YD (xs.take i) g0) x.R):=by
 have d:∀t,t∈x.R->(gL xs 0 L g0).at t=(YD (xs.take i) g0).at t:=by
  intro t o;have l:=yr (xs:=xs) (k:=0) (j:=i) (g:=g0);simp at l;rw[<-l];refine KM (λj y z u=> ?_) rfl;rw[Z6V];let⟨_,_,_,H⟩:=q.ps j y z;let⟨_,_,_,F⟩:=q.ps i x hx;by_cases n:j=i;simp_all;have f:=λA C=>((qL (q.pd i j x y hx z) n C).2 A).2 t u o;obtain M|l:=Z89 n;grind;cases D:L j with
  |false=>simp;omega
  |true=>
   exfalso;refine f Z5h λK=> ?_;have:=p j y z D i K;simp_all
 refine⟨r.ok,λt=> ?_,λt=> ?_⟩;rw[Lj];split;rename_i o;rw[<-d t o];exact r.Y t;simp_all[TK.bu];rw[Lj];split;rename_i o;rw[<-d t o];exact r.skip t;simp_all[Ys]
def Reg.Fine.next(H:Reg.Fine c draw ops g0 xs)(C:Rn xs L)(O:RelG c B G s a w h<|gL xs 0 L g0){i x}(hx:xs[i]?=J x)(hi:L i=xw)(Q:∀t∈x.os.rb,t∈x.os.ps)(hT:∀j∈x.T,L j=xk)(z:OPost c B G s a a' w w' h h' x.os):
  RelG c B G s a' w' h' (gL xs 0 (add L i) g0):=by
 let⟨N,X,a0,W⟩:=H.ps i x hx
 have key:∀t,(holds s (ZK c ((gL xs 0 (add L i) g0).at t).1)->((gL xs 0 (add L i) g0).at t).2.bu=xw->∃v,a'.tmps[t]?=J v/\RelK c.P B s w' h' (λp=>a'.tmps[p]?) t v ((gL xs 0 (add L i) g0).at t).2)/\
   (¬holds s (ZK c ((gL xs 0 (add L i) g0).at t).1)->a'.tmps.getD t xy=xy):=by
  intro t;by_cases F:t∈Y0 x.os.d;have:(gL xs 0 (add L i) g0).at t=x.os.d.at t:=by
   refine BK hx (by simp[add]) F λj y A Y D q=> ?_;have K:L j=xk:=by
    simp[add,Z6V,Z6z,Z71]at D;exact D.resolve_right Z0
   have f:i∉y.T:=λu=>by
    have:=C j y A K i u;simp_all
   exact((qL (H.pd i j x y hx A) Z0 f).2 λu=>Z5h).1 t q F
  rw[this];exact z.sq t F;have o:(gL xs 0 (add L i) g0).at t=(gL xs 0 L g0).at t:=by
   refine KM (λj y A q=> ?_) rfl;by_cases n:j=i;simp_all;simp[add,n]
  rw[o];have r:=λu=>F<|N t u;have l:V0 x.os.ps x.os.rb x.os.fz ((gL xs 0 L g0).at t).2=xk:=by
   obtain R|⟨j,y,A,D,q,R⟩:=BJ (xs:=xs) (k:=0) (L:=L) (g:=g0) (t:=t);simp_all[EH];rw[R];rw[Z6V]at D;have n:j≠i:=Z5h;have f:i∉y.T:=λu=>by
    have:=C j y A D i u;simp_all
   exact EH (qL (H.pd i j x y hx A) n f).1 F
  refine⟨λS M=> ?_,λM=> ?_⟩;let⟨v,hv,Z⟩:=O.Y t S M;exact⟨v,by rw[z.tm t r];exact hv,Z.keep z.step O.ok Q r Z5h l z.tm⟩;have:=O.skip t M;simp[Z6g,z.tm t r]at this⊢;exact this
 exact⟨z.ok,Z5i,Z5i⟩
def IR(d:Rn xs L){i x}(hx:xs[i]?=J x)(h:∀j∈x.T,L j=xk):Rn xs<|add L i:=by
 intro j y g a k f;simp[add,Z71]at a⊢;obtain a|rfl:=a;exact .inl<|d j y g a k f;simp_all
end
end Vm
namespace Vm
open Go
open Go.RowKit (Below)
section
variable {c:Ctx}{B:Nat}{G:Nat->Prop}{s:St}{a a':Act}{w w' w0:World}{h h':GH}{g0:Gam}{ops:Array Oper}{xs:List XS}{draw:Bool}{L:Nat->Bool}{n0:Nat}{ds:List Deferred}
def Z0N{f all o g}(a:Rh c f ops all o=J g):∀t∈g.rb,t∈g.ps:=by
 unfold Rh at a;split at a;grind;simp only[Z6a]at a;let⟨C,_,a⟩:=a;split at a;unfold jY at a;simp[Z6a]at a;grind;grind;split at a;unfold jX at a;simp at a;grind;grind;split at a;unfold A0 at a;grind;split at a;grind;simp only[Z6a]at a;let⟨m,_,a⟩:=a;split at a;rename_i d;simp at d;simp at a;subst a;exact d.1.2;grind
structure Frm (Kf:Nat->Prop) (fx:Nat->Prop) (T0:Array Value) (B:Nat) (w0:World) (a:Act) (w:World):Prop where
 below:Below B w0 w
 same:Same Kf w0 w
 oh:∀t,fx t->a.tmps[t]?=T0[t]?
def Frm.refl{Kf fx B}a w:Frm Kf fx a.tmps B w a w:=⟨.refl _ _,.refl _ _,Z1⟩
theorem Frm.trans{Kf fx T0 B w0 w w' a a'}(h:Frm Kf fx T0 B w0 a w)(h':Frm Kf fx a.tmps B w a' w'):Frm Kf fx T0 B w0 a' w':=
 ⟨h.below.trans h'.below,h.same.trans h'.same,λt d=>(h'.oh t d).trans<|h.oh t d⟩
variable {Kf fx:Nat->Prop}{T0:Array Value}
def Step.ny{j rb fz}(g:Step B j rb fz w w' h h')(a:Ok B G w h):Same h.K w w':=
 λb d=>g.same b (a.cw b d) λp _ i f=>a.cl p i b f d
def RInv(Kf fx:Nat->Prop)(T0:Array Value)(c:Ctx)(B:Nat)(G:Nat->Prop)(s:St)(g0:Gam)(xs:List XS)(w0:World)(n0:Nat)(ds:List Deferred)(L:Nat->Bool)(a:Act)(w:World):Prop:=
 (∃h,RelG c B G s a w h (gL xs 0 L g0)/\h.K=Kf)/\Frm Kf fx T0 B w0 a w/\a.tmps.size=n0/\a.defers=ds/\Rn xs L
def RelG.drew{g}(f:RelG c B G s a w h g)d:RelG c B G s a {w with drawn:=d} h g:=by
 have k:Step B [] [] [] w {w with drawn:=d} h h:=⟨⟨rfl,rfl,rfl,Z6i _,Z1⟩,Z1,Z1,Z1,Z1,Z1,rfl⟩;have j:Ok B G {w with drawn:=d} h:=⟨f.ok.V,f.ok.cd,f.ok.dl,f.ok.gs,f.ok.ax,f.ok.inj,f.ok.cw,f.ok.cl,f.ok.fw⟩;refine⟨j,λt l o=> ?_,f.skip⟩;let⟨v,p,n⟩:=f.Y t l o
 exact⟨v,p,n.keep k f.ok Z1 Z1 Z1 (by
  have:RM [] (g.at t).2=xw:=by cases(g.at t).2<;>simp[RM]
  simp[V0,this]) λ_ _=>rfl⟩
def RInv.ma(g:RInv Kf fx T0 c B G s g0 xs w0 n0 ds L a w)d:RInv Kf fx T0 c B G s g0 xs w0 n0 ds L a {w with drawn:=d}:=by
 let⟨⟨h,l,j⟩,k,f⟩:=g;exact⟨⟨h,l.drew d,j⟩,k.trans ⟨⟨rfl,rfl,rfl,Z6i _,Z1⟩,λ_ _=>rfl,Z1⟩,f⟩
def RInv.mg [Lg c.P]{w1}(d:RInv Kf fx T0 c B G s g0 xs w0 n0 ds L a w)(h:Lg.ma c.P w w1):RInv Kf fx T0 c B G s g0 xs w0 n0 ds L a w1:=by
 rw[Lg.ml h];exact d.ma _
def EN [Lg c.P](Q:∀o∈ops,∀d,o.dst=J d->¬fx d)(p:Reg.Fine c draw ops g0 xs)(hs:∀x∈xs,RZ c.P s x.os)(Z:c.n<=n0)(M:RInv Kf fx T0 c B G s g0 xs w0 n0 ds L a w){i x}(hx:xs[i]?=J x)(F:L i=xw)(q:∀j∈x.T,L j=xk)
  {K} (N:∀a' w',RInv Kf fx T0 c B G s g0 xs w0 n0 ds (add L i) a' w'->K a' w'):SP c.P ops i K a w:=by
 let⟨⟨h,y,k⟩,O,C,r,f⟩:=M;have S:i<ops.size:=by rw[<-p.len];exact(Z6d.1 hx).1
 let⟨D,H,W,X⟩:=p.Y i ops[i] x Z1 hx;have A:=p.mh f y hx F q;have z:=Z0N D;refine Z0O (R:=x.R) Z1 H A D Z5h Z0 λa' w' h' g l=>N a' w' ⟨⟨h',p.next f y hx F z q g,g.step.K.trans k⟩,O.trans ⟨g.step.below,by rw[<-k];exact g.step.ny y.ok,λt ht=> ?_⟩,by rw[g.size,C],by rw[g.defers,r],IR f hx q⟩;obtain⟨u,rfl⟩:=l;cases Y:(ops[i]).dst with
 |none=>rfl
 |some d=>grind [R1]
def EO [Lg c.P](f:∀o∈ops,Lg.lx c.P o)(g:∀o∈ops,∀d,o.dst=J d->¬fx d)(h:Reg.Fine c xw ops g0 xs)(u:∀x∈xs,RZ c.P s x.os)(t:c.n<=n0){Q}(A:∀a w,RInv Kf fx T0 c B G s g0 xs w0 n0 ds (λi=>decide (i<ops.size)) a w->Q .normal a w):
  ∀m k a w,k+m=ops.size->RInv Kf fx T0 c B G s g0 xs w0 n0 ds (λi=>decide (i<k)) a w->Lg.todo c.P ops Q (List.range' k m) a w
 |0,k,a,w,C,q=>by
  have:k=ops.size:=Z0;exact Lg.kr Z5i
 |m+1,k,a,w,C,q=>by
  have l:k<I xs:=by rw[h.len];omega
  let⟨_,_,y,_⟩:=h.Y k ops[k] xs[k] Z1 Z1;refine Lg.mb f λF p=> ?_;refine EN g h u t (q.mg p) (Z6b l) Z1 (λj r=> ?_) λa' w' z=>EO f g h u t A m _ a' w' Z0 ?_;rw[y]at r;simp[Qp,Z73,Z8A,Z7O]at r;simp;omega;have:add (λi=>decide (i<k)) k=λi=>decide (i<k+1):=by
   funext i;simp[add];by_cases D:i<k;grind;grind
  simp_all
def K0(n:Nat)(L:Nat->Bool):Nat:=I ((List.range n).filter λi=> !L i)
def Bp{p q}:∀ {l:List Nat},(∀i∈l,q i=xk->p i=xk)->(∃i∈l,p i=xk/\q i=xw)->I (l.filter q)< I (l.filter p)
 | [],_,⟨i,a,_⟩=>by simp at a
 |x::l,h,⟨i,a,d,f⟩=>by
  have g:∀(l:List Nat),(∀i∈l,q i=xk->p i=xk)->I (l.filter q)<=I (l.filter p):=by
   intro l;induction l with
   |nil=>simp
   |cons y l j=>
    grind
  simp;obtain rfl|a:=Z6S.1 a;grind;have:=Bp (l:=l) Z5i ⟨i,a,d,f⟩;grind
def FH{n L i}(d:i<n)(a:L i=xw):K0 n (add L i)<K0 n L:=
 Bp (λj _ f=>by simp_all[add]) ⟨i,Z5h,by simp[a],by simp[add]⟩
def FI{n L}(h:K0 n L=0):∀i,i<n->L i=xk:=by
 intro i d;cases f:L i with
 |true=>rfl
 |false=>
  have a:=Z7p h;simp_all
def Cs{o e}(d:e∈o.after)(a:Region.binds .any e=xk):e.on∈Vg o:=by
 simp[Vg,Z92];grind
def Be{o j}(a:j∈Vg o):∃e∈o.after,Region.binds .any e=xk/\e.on=j:=by
 grind [Vg]
def r7 [Lg c.P](R:∀o∈ops,∀d,o.dst=J d->¬fx d)(z:Reg.Fine c xk ops g0 xs)(hs:∀x∈xs,RZ c.P s x.os)(hn:c.n<=n0){Q}(hQ:∀a w L,(∀i,i<ops.size->L i=xk)->RInv Kf fx T0 c B G s g0 xs w0 n0 ds L a w->Q .normal a w):
  ∀g f a w,f.size=ops.size->K0 ops.size (λi=>f.getD i xw)<=g->RInv Kf fx T0 c B G s g0 xs w0 n0 ds (λi=>f.getD i xw) a w->Km c.P ops Q g f a w:=by
 have S:∀(f:Array Bool) i,f.size=ops.size->i<ops.size->f.getD i xk=f.getD i xw:=by
  intro f i t O;simp[Z6g,t,O]
 have h:∀f,f.size=ops.size->Region.ready .any ops f=[]->∀i,i<ops.size->f.getD i xw=xk:=by
  intro f l M i;induction i using Nat.strongRecOn with
  |_ i ih=>
   intro T;cases hl:f.getD i xw with
   |true=>rfl
   |false=>
    have C:i<I xs:=by rw[z.len];exact T
    let⟨_,_,_,N⟩:=z.Y i ops[i] xs[i] Z1 Z1
    have:i∈Region.ready .any ops f:=Z9w.2 ⟨Z5i,ops[i],Z1,λe K hb=>by
     have k:=N rfl e.on<|Cs K hb;grind⟩
    simp_all
 intro g;induction g with
 |zero=>
  intro f a w l hu H;have p:=FI<|Nat.le_zero.1 hu;refine⟨?_,Z5h⟩;cases M:Region.ready .any ops f with
  |nil=>rfl
  |cons i r=>
   have:i∈Region.ready .any ops f:=by rw[M];simp
   grind [mem_ready,Array.getElem?_eq_some_iff]
 |succ g ih=>
  intro f a w l hu H;refine⟨λM=>hQ a w _ (h f l M) H,λi T w1 Y=> ?_⟩;let⟨t,o,Z,p⟩:=Z9w.1 T;have k:=(Z6N.1 Z).1;have C:i<I xs:=by rw[z.len];exact k
  rw[S f i l k]at t;let⟨_,_,e3,N⟩:=z.Y i o xs[i] Z Z1;have u:(λj=>(f.setIfInBounds i xk).getD j xw)=add (λi=>f.getD i xw) i:=by
   funext j;simp[add];by_cases a1:j=i;simp_all;simp_all[Z8d]
  refine EN R z hs hn (H.mg Y) (Z6b C) t (λj W=> ?_) λa' w' a0=>ih _ a' w' Z5i ?_ Z5i;rw[e3]at W;simp[Qp,Z92,Z8A,Z7M,Z6z,Z71,Z8e,Z6J]at W;let⟨_,e,K,X⟩:=W;obtain⟨F,O,h3,rfl⟩:=Be K;have y:=p F O h3;obtain rfl|q:=X;exact y;have A:=N rfl F.on K;have D:F.on<I xs:=Z0;unfold AC at q;rw[Z6O,Z6k A,Z6b D]at q;exact H.2.2.2.2 F.on _ Z1 y j q;rw[u];have:=FH (n:=ops.size) (L:=λi=>f.getD i xw) k t;omega
def s8 [Lg c.P](f:∀o∈ops,Lg.lx c.P o)(hm:draw=xk->c.P.follows .mixedOrders=xk){id}(N:Reg.Fine c draw ops g0 xs)(W:∀x∈xs,RZ c.P s x.os)(T:c.n<=a.tmps.size)(C:RelG c B G s a w h g0)(y:∀o∈ops,∀d,o.dst=J d->¬fx d)
  {Q} (Z:∀a' w' h',RelG c B G s a' w' h' (YD xs g0)->h'.K=h.K->Frm h.K fx a.tmps B w a' w'->a'.tmps.size=a.tmps.size->a'.defers=a.defers->Q .normal a' w'):Lg.wp c.P (.region id ops draw) Q a w:=by
 have R:∀L,(∀i,L i=xw)->Rn xs L:=λL p i x _ hi=>Z5i;have z:∀L,(∀i,L i=xw)->∀t,(gL xs 0 L g0).at t=g0.at t:=λL p t=>yq λi x _ hi=>Z5i;have u:∀ {w} L,(∀i,L i=xw)->RelG c B G s a w h g0->RelG c B G s a w h (gL xs 0 L g0):=λL p C=>
  ⟨C.ok,λt=>by rw[z L p t];exact C.Y t,λt=>by rw[z L p t];exact C.skip t⟩
 have q:∀ {a'} {l w':World} L,(∀i,i<ops.size->L i=xk)->RInv h.K fx a.tmps c B G s g0 xs l a.tmps.size a.defers L a' w'->Frm h.K fx a.tmps B w a l->Q .normal a' w':=by
  rintro a' l w' L p ⟨⟨h',r,F⟩,hb,X,Y,_⟩ M;refine Z a' w' h' ?_ F (M.trans hb) X Y;have S:∀t,(gL xs 0 L g0).at t=(YD xs g0).at t:=by
   intro t;have:=yr (xs:=xs) (k:=0) (j:=I xs) (g:=g0);rw[Z7P]at this;rw[<-this];refine KM (λi x hx _=> ?_) rfl;have A:=(Z6d.1 hx).1;rw[Z6V,p i (by rw[<-N.len];exact A)];simp[A]
  exact⟨r.ok,λt=>by rw[<-S t];exact r.Y t,λt=>by rw[<-S t];exact r.skip t⟩
 cases draw with
 |false=>
  refine Lg.wp_region f ?_;rw[List.range_eq_range'];refine EO f (Kf:=h.K) (T0:=a.tmps) y N W T (w0:=w) (n0:=a.tmps.size) (ds:=a.defers) (λa' w' D=>q _ Z1 D<|Frm.refl _ _) ops.size 0 a w Z0 ⟨Z5h,Frm.refl _ _,rfl,rfl,Z5i⟩
 |true=>
  refine r9 f Z5i λl O=> ?_;rw[show({l with drawn:=l.drawn+1}:World)= {w with drawn:=l.drawn+1}from Z7J (λx=> {x with drawn:=l.drawn+1}) (Lg.ml O)];generalize l.drawn+1=d;have H:∀i,(Array.replicate ops.size xw).getD i xw=xw:=λi=>by
   simp;grind
  refine r7 (Kf:=h.K) (T0:=a.tmps) y N W T (w0:= {w with drawn:=d}) (n0:=a.tmps.size) (ds:=a.defers) (λa' w' L p D=>q L p D ⟨⟨rfl,rfl,rfl,Z6i _,Z1⟩,λ_ _=>rfl,Z1⟩) ops.size _ a _ Z1 ?_ ⟨⟨h,u _ H<|C.drew d,rfl⟩,Frm.refl _ _,rfl,rfl,Z5i⟩;exact Z6H (Z9y _ _) Z1
end
end Vm
namespace Vm
open Go
mutual
theorem Yb{s t:St}:∀(e:E),(∀j,E.asks j e=xk->ZJ s j=ZJ t j)->eval s e=eval t e
 |.c v,_=>rfl
 |.s u,h=>Z5W
 |.m u i,h=>Z5W
 |.mm u i n,h=>Z5W
 |.cb op a b,h=>Z5l
 |.gz n a b,h=>Z5l
 |.un op a,h=>Z5m
 |.bo k a,h=>Z5m
 |.len a,h=>Z5m
 |.mn a b,h=>Z5l
 |.mx a b,h=>Z5l
 |.ext a i,h=>Z5m
 |.bc a b k,h=>Z5l
 |.ac a o,h=>Z5m
 |.bp a o n,h=>Z5m
 |.ai a b n k g,h=>Z5l
 |.ig a b d k,h=>Z5p
 |.gj a b k,h=>Z5l
 |.ct a b k,h=>Z5l
 |.gl a b o d,h=>Z5p
 |.dk a b n k d,h=>Z5p
 |.mk z a,h=>Z5m
 |.lit l,h=>Z5D
 |.ag l,h=>Z5D
 |.pt f l,h=>Z5D
 |.ite a b d,h=>Z5p
 |.au a,h=>Z5m
 |.dy a,h=>Z5m
 |.aj a,h=>Z5m
 |.sz a n,h=>Z5m
 |.fl a,h=>Z5m
 |.kj a,h=>Z5m
 |.lk q a b z ok,h=>Z5l
 |.ep q a b d,h=>Z5p
 |.fe a,h=>Z5m
 |.ga a,h=>Z5m
theorem TT{s t:St}:∀(l:List E),(∀j,E.ca j l=xk->ZJ s j=ZJ t j)->YB s l=YB t l
 | [],_=>rfl
 |e::l,h=>by simp only[YB];rw[Yb e λj a=>h j (by simp[E.ca,a]),TT l λj a=>h j (by simp[E.ca,a])]
end
mutual
theorem V.ab:∀(a b:V),V.same a b=xk->a=b
 | .int k n,b,h=>by
   cases b<;>simp only[V.same]at h<;>first|(cases h;done)|skip
   simp at h;rw[h.1,h.2]
 | .bool x,b,h=>by
   cases b<;>simp only[V.same]at h<;>first|(cases h;done)|skip
   simp at h;rw[h]
 |.str x,b,h=>Z62
 | .sl l,b,h=>by
   cases b<;>simp only[V.same]at h<;>first|(cases h;done)|skip
   rw[V.ce l _ h]
 | .agg l,b,h=>by
   cases b<;>simp only[V.same]at h<;>first|(cases h;done)|skip
   rw[V.ce l _ h]
 | .am l,b,h=>by
   cases b<;>simp only[V.same]at h<;>first|(cases h;done)|skip
   rw[V.ce l _ h]
 |.ptr l,b,h=>Z62
 |.dh f l,b,h=>Z62
 |.lz k,b,h=>Z62
 | .fn f,b,h=>by
   cases b<;>simp only[V.same]at h<;>first|(cases h;done)|skip
   simp at h;rw[h]
 | .mp id d g,b,h=>by
   cases b<;>simp only[V.same,Z6l,Z71]at h<;>first|(cases h;done)|skip
   rw[h.1.1,V.ce d _ h.1.2,V.ce g _ h.2]
theorem V.ce:∀(a b:List V),V.ci a b=xk->a=b
 | [],b,h=>by cases b<;>simp[V.ci]at h⊢
 |x::l,b,h=>by
  obtain _|⟨y,r⟩:=b;simp[V.ci]at h;simp only[V.ci,Z6l]at h;rw[V.ab x y h.1,V.ce l r h.2]
end
mutual
theorem E.ab:∀(a b:E),E.same a b=xk->a=b
 | .c v,b,h=>by
   cases b<;>simp only[E.same]at h<;>first|(cases h;done)|skip
   rw[V.ab v _ h]
 | .s u,b,h=>by
   cases b<;>simp only[E.same,Z71]at h<;>first|(cases h;done)|skip
   rw[h]
 | .m u i,b,h=>by
   cases b<;>simp only[E.same,Z71,Z6l]at h<;>first|(cases h;done)|skip
   rw[h.1,h.2]
 | .mm u i n,b,h=>by
   cases b<;>simp only[E.same,Z71,Z6l]at h<;>first|(cases h;done)|skip
   rw[h.1.1,h.1.2,h.2]
 | .cb op x y,b,h=>by
   cases b<;>simp only[E.same,Z6J,Z6l]at h<;>first|(cases h;done)|skip
   rw[h.1.1,E.ab x _ h.1.2,E.ab y _ h.2]
 | .gz op x y,b,h=>by
   cases b<;>simp only[E.same,Z71,Z6l]at h<;>first|(cases h;done)|skip
   rw[h.1.1,E.ab x _ h.1.2,E.ab y _ h.2]
 | .un op x,b,h=>by
   cases b<;>simp only[E.same,Z6J,Z6l]at h<;>first|(cases h;done)|skip
   rw[h.1,E.ab x _ h.2]
 | .bo k x,b,h=>by
   cases b<;>simp only[E.same,Z6J,Z6l]at h<;>first|(cases h;done)|skip
   rw[h.1,E.ab x _ h.2]
 | .len x,b,h=>by
   cases b<;>simp only[E.same]at h<;>first|(cases h;done)|skip
   rw[E.ab x _ h]
 | .mn x y,b,h=>by
   cases b<;>simp only[E.same,Z6l]at h<;>first|(cases h;done)|skip
   rw[E.ab x _ h.1,E.ab y _ h.2]
 | .mx x y,b,h=>by
   cases b<;>simp only[E.same,Z6l]at h<;>first|(cases h;done)|skip
   rw[E.ab x _ h.1,E.ab y _ h.2]
 | .ext x i,b,h=>by
   cases b<;>simp only[E.same,Z71,Z6l]at h<;>first|(cases h;done)|skip
   rw[E.ab x _ h.1,h.2]
 | .bc x y k,b,h=>by
   cases b<;>simp only[E.same,Z71,Z6l]at h<;>first|(cases h;done)|skip
   rw[E.ab x _ h.1.1,E.ab y _ h.1.2,h.2]
 | .ac x o,b,h=>by
   cases b<;>simp only[E.same,Z71,Z6l]at h<;>first|(cases h;done)|skip
   rw[E.ab x _ h.1,h.2]
 | .bp x o n,b,h=>by
   cases b<;>simp only[E.same,Z71,Z6l]at h<;>first|(cases h;done)|skip
   rw[E.ab x _ h.1.1,h.1.2,h.2]
 | .ai x y n k g,b,h=>by
   cases b<;>simp only[E.same,Z71,Z6l]at h<;>first|(cases h;done)|skip
   rw[E.ab x _ h.1.1.1.1,E.ab y _ h.1.1.1.2,h.1.1.2,h.1.2,h.2]
 | .ig x y z k,b,h=>by
   cases b<;>simp only[E.same,Z71,Z6l]at h<;>first|(cases h;done)|skip
   rw[E.ab x _ h.1.1.1,E.ab y _ h.1.1.2,E.ab z _ h.1.2,h.2]
 | .gj x y k,b,h=>by
   cases b<;>simp only[E.same,Z71,Z6l]at h<;>first|(cases h;done)|skip
   rw[E.ab x _ h.1.1,E.ab y _ h.1.2,h.2]
 | .ct x y k,b,h=>by
   cases b<;>simp only[E.same,Z71,Z6l]at h<;>first|(cases h;done)|skip
   rw[E.ab x _ h.1.1,E.ab y _ h.1.2,h.2]
 | .gl x y o z,b,h=>by
   cases b<;>simp only[E.same,Z71,Z6l]at h<;>first|(cases h;done)|skip
   rw[E.ab x _ h.1.1.1,E.ab y _ h.1.1.2,h.1.2,E.ab z _ h.2]
 | .dk x y n k z,b,h=>by
   cases b<;>simp only[E.same,Z71,Z6l]at h<;>first|(cases h;done)|skip
   rw[E.ab x _ h.1.1.1.1,E.ab y _ h.1.1.1.2,h.1.1.2,h.1.2,E.ab z _ h.2]
 | .mk v x,b,h=>by
   cases b<;>simp only[E.same,Z6l]at h<;>first|(cases h;done)|skip
   rw[V.ab v _ h.1,E.ab x _ h.2]
 | .lit l,b,h=>by
   cases b<;>simp only[E.same]at h<;>first|(cases h;done)|skip
   rw[E.ce l _ h]
 | .pt f l,b,h=>by
   cases b<;>simp only[E.same,Z6l,Z71]at h<;>first|(cases h;done)|skip
   rw[h.1,E.ce l _ h.2]
 | .ag l,b,h=>by
   cases b<;>simp only[E.same]at h<;>first|(cases h;done)|skip
   rw[E.ce l _ h]
 | .ite x y z,b,h=>by
   cases b<;>simp only[E.same,Z6l]at h<;>first|(cases h;done)|skip
   rw[E.ab x _ h.1.1,E.ab y _ h.1.2,E.ab z _ h.2]
 | .au x,b,h=>by
   cases b<;>simp only[E.same]at h<;>first|(cases h;done)|skip
   rw[E.ab x _ h]
 | .dy x,b,h=>by
   cases b<;>simp only[E.same]at h<;>first|(cases h;done)|skip
   rw[E.ab x _ h]
 | .aj x,b,h=>by
   cases b<;>simp only[E.same]at h<;>first|(cases h;done)|skip
   rw[E.ab x _ h]
 | .sz x n,b,h=>by
   cases b<;>simp only[E.same,Z71,Z6l]at h<;>first|(cases h;done)|skip
   rw[E.ab x _ h.1,h.2]
 | .fl x,b,h=>by
   cases b<;>simp only[E.same]at h<;>first|(cases h;done)|skip
   rw[E.ab x _ h]
 | .kj x,b,h=>by
   cases b<;>simp only[E.same]at h<;>first|(cases h;done)|skip
   rw[E.ab x _ h]
 | .lk d x y z ok,b,h=>by
   cases b<;>simp only[E.same,Z71,Z6J,Z6l]at h<;>first|(cases h;done)|skip
   rw[h.1.1.1.1,E.ab x _ h.1.1.1.2,E.ab y _ h.1.1.2,V.ab z _ h.1.2,h.2]
 | .ep d x y z,b,h=>by
   cases b<;>simp only[E.same,Z6J,Z6l]at h<;>first|(cases h;done)|skip
   rw[h.1.1.1,E.ab x _ h.1.1.2,E.ab y _ h.1.2,E.ab z _ h.2]
 | .fe x,b,h=>by
   cases b<;>simp only[E.same]at h<;>first|(cases h;done)|skip
   rw[E.ab x _ h]
 | .ga x,b,h=>by
   cases b<;>simp only[E.same]at h<;>first|(cases h;done)|skip
   rw[E.ab x _ h]
theorem E.ce:∀(a b:List E),E.ci a b=xk->a=b
 | [],b,h=>by cases b<;>simp[E.ci]at h⊢
 |x::l,b,h=>by
  obtain _|⟨y,r⟩:=b;simp[E.ci]at h;simp only[E.ci,Z6l]at h;rw[E.ab x y h.1,E.ce l r h.2]
end
end Vm
namespace Vm
open Go
section
variable {s t:St}
def Yl{α β:Type}{x}{f:α->Option β}(h:∃z,x.bind f=J z):∃y,x=J y:=by
 grind [Option.bind_eq_some_iff]
def Wa{α β:Type}{x}{f:α->Option β}(h:∃z,x.bind f=J z):∃y,x=J y/\∃z,f y=J z:=by
 grind [Option.bind_eq_some_iff]
mutual
def Yf{x:E}:∀(e:E),E.aw x e=xk->(∃v,eval s e=J v)->∃v,eval s x=J v
 | .c v,h,j=>by
   grind [E.aw,E.ab]
 | .s u,h,j=>by
   grind [E.aw,E.ab]
 | .m u i,h,j=>by
   grind [E.aw,E.ab]
 | .mm u i n,h,j=>by
   grind [E.aw,E.ab]
 | .cb op a b,h,j=>by
   simp only[E.aw,Z6z]at h;obtain(h|h)|h:=h;grind [E.ab];exact Yf a h<|Yl j;obtain⟨y,_,p⟩:=Wa j;exact Yf b h<|Yl p
 | .gz op a b,h,j=>by
   simp only[E.aw,Z6z]at h;obtain(h|h)|h:=h;grind [E.ab];exact Yf a h<|Yl j;obtain⟨y,_,p⟩:=Wa j;exact Yf b h<|Yl p
 | .mn a b,h,j=>by
   simp only[E.aw,Z6z]at h;obtain(h|h)|h:=h;grind [E.ab];exact Yf a h<|Yl j;obtain⟨y,_,p⟩:=Wa j;exact Yf b h<|Yl p
 | .mx a b,h,j=>by
   simp only[E.aw,Z6z]at h;obtain(h|h)|h:=h;grind [E.ab];exact Yf a h<|Yl j;obtain⟨y,_,p⟩:=Wa j;exact Yf b h<|Yl p
 | .bc a b k,h,j=>by
   simp only[E.aw,Z6z]at h;obtain(h|h)|h:=h;grind [E.ab];exact Yf a h<|Yl j;obtain⟨y,_,p⟩:=Wa j;exact Yf b h<|Yl p
 | .ai a b n k g,h,j=>by
   simp only[E.aw,Z6z]at h;obtain(h|h)|h:=h;grind [E.ab];exact Yf a h<|Yl j;obtain⟨y,_,p⟩:=Wa j;exact Yf b h<|Yl p
 | .gj a b k,h,j=>by
   simp only[E.aw,Z6z]at h;obtain(h|h)|h:=h;grind [E.ab];exact Yf a h<|Yl j;obtain⟨y,_,p⟩:=Wa j;exact Yf b h<|Yl p
 | .ct a b k,h,j=>by
   simp only[E.aw,Z6z]at h;obtain(h|h)|h:=h;grind [E.ab];exact Yf a h<|Yl j;obtain⟨y,_,p⟩:=Wa j;exact Yf b h<|Yl p
 | .ig a b d k,h,j=>by
   simp only[E.aw,Z6z]at h;obtain((h|h)|h)|h:=h;grind [E.ab];exact Yf a h<|Yl j;obtain⟨y,_,p⟩:=Wa j;exact Yf b h<|Yl p;obtain⟨y,_,p⟩:=Wa j;obtain⟨w,_,q⟩:=Wa p;exact Yf d h<|Yl q
 | .gl a b o d,h,j=>by
   simp only[E.aw,Z6z]at h;obtain((h|h)|h)|h:=h;grind [E.ab];exact Yf a h<|Yl j;obtain⟨y,_,p⟩:=Wa j;exact Yf b h<|Yl p;obtain⟨y,_,p⟩:=Wa j;obtain⟨w,_,q⟩:=Wa p;exact Yf d h<|Yl q
 | .dk a b n k d,h,j=>by
   simp only[E.aw,Z6z]at h;obtain((h|h)|h)|h:=h;grind [E.ab];exact Yf a h<|Yl j;obtain⟨y,_,p⟩:=Wa j;exact Yf b h<|Yl p;obtain⟨y,_,p⟩:=Wa j;obtain⟨w,_,q⟩:=Wa p;exact Yf d h<|Yl q
 | .un op a,h,j=>by
   simp only[E.aw,Z6z]at h;obtain h|h:=h;grind [E.ab];exact Yf a h<|Yl j
 | .bo k a,h,j=>by
   simp only[E.aw,Z6z]at h;obtain h|h:=h;grind [E.ab];exact Yf a h<|Yl j
 | .len a,h,j=>by
   simp only[E.aw,Z6z]at h;obtain h|h:=h;grind [E.ab];exact Yf a h<|Yl j
 | .ext a i,h,j=>by
   simp only[E.aw,Z6z]at h;obtain h|h:=h;grind [E.ab];exact Yf a h<|Yl j
 | .ac a o,h,j=>by
   simp only[E.aw,Z6z]at h;obtain h|h:=h;grind [E.ab];exact Yf a h<|Yl j
 | .bp a o n,h,j=>by
   simp only[E.aw,Z6z]at h;obtain h|h:=h;grind [E.ab];exact Yf a h<|Yl j
 | .mk z a,h,j=>by
   simp only[E.aw,Z6z]at h;obtain h|h:=h;grind [E.ab];exact Yf a h<|Yl j
 | .au a,h,j=>by
   simp only[E.aw,Z6z]at h;obtain h|h:=h;grind [E.ab];exact Yf a h<|Yl j
 | .dy a,h,j=>by
   simp only[E.aw,Z6z]at h;obtain h|h:=h;grind [E.ab];exact Yf a h<|Yl j
 | .aj a,h,j=>by
   simp only[E.aw,Z6z]at h;obtain h|h:=h;grind [E.ab];exact Yf a h<|Yl j
 | .sz a n,h,j=>by
   simp only[E.aw,Z6z]at h;obtain h|h:=h;grind [E.ab];exact Yf a h<|Yl j
 | .fl a,h,j=>by
   simp only[E.aw,Z6z]at h;obtain h|h:=h;grind [E.ab];exact Yf a h<|Yl j
 | .kj a,h,j=>by
   simp only[E.aw,Z6z]at h;obtain h|h:=h;grind [E.ab];exact Yf a h<|Yl j
 | .fe a,h,j=>by
   simp only[E.aw,Z6z]at h;obtain h|h:=h;grind [E.ab];exact Yf a h<|Yl j
 | .ga a,h,j=>by
   simp only[E.aw,Z6z]at h;obtain h|h:=h;grind [E.ab];exact Yf a h<|Yl j
 | .lk A a b z ok,h,j=>by
   simp only[E.aw,Z6z]at h;obtain(h|h)|h:=h;grind [E.ab];exact Yf a h<|Yl j;obtain⟨y,_,p⟩:=Wa j;exact Yf b h<|Yl p
 | .ep A a b d,h,j=>by
   simp only[E.aw,Z6z]at h;obtain((h|h)|h)|h:=h;grind [E.ab];exact Yf a h<|Yl j;obtain⟨y,_,p⟩:=Wa j;exact Yf b h<|Yl p;obtain⟨y,_,p⟩:=Wa j;obtain⟨w,_,q⟩:=Wa p;exact Yf d h<|Yl q
 | .ite a b d,h,j=>by
   simp only[E.aw,Z6z]at h;obtain h|h:=h;grind [E.ab];exact Yf a h<|Yl j
 | .lit l,h,j=>by
   simp only[E.aw,Z6z]at h;obtain h|h:=h;grind [E.ab];obtain⟨v,j⟩:=j;simp only[eval,Z6f]at j;obtain⟨t,r,_⟩:=j;exact KN l h ⟨t,r⟩
 | .pt f l,h,j=>by
   simp only[E.aw,Z6z]at h;obtain h|h:=h;grind [E.ab];obtain⟨v,j⟩:=j;simp only[eval,Z6a]at j;obtain⟨t,r,_⟩:=j;exact KN l h ⟨t,r⟩
 | .ag l,h,j=>by
   simp only[E.aw,Z6z]at h;obtain h|h:=h;grind [E.ab];obtain⟨v,j⟩:=j;simp only[eval,Z6f]at j;obtain⟨t,r,_⟩:=j;exact KN l h ⟨t,r⟩
def KN{x:E}:∀(l:List E),E.ia x l=xk->(∃v,YB s l=J v)->∃v,eval s x=J v
 | [],h,_=>by simp[E.ia]at h
 |e::l,h,a=>by
  obtain⟨v,a⟩:=a;simp only[YB,Z6a,Z6f]at a;obtain⟨y,f,g,d,_⟩:=a;simp only[E.ia,Z6z]at h;obtain h|h:=h;exact Yf e h ⟨y,f⟩;exact KN l h ⟨g,d⟩
end
def Qx(s:St)(l:List<|ZI×E):Prop:=∀x∈l,holds s x.1->∃v,eval s x.2=J v
def BS{C D}(h:Sq C D=xk)(a:holds s D):holds s C:=λx d=>by
 have:=Z6y.1 h x d;exact a x Z5i
def jn:∀ {l r},Qx s l->Qx s (LA l r)->Qx s r
 |l,[],_,_=>λx q=>by simp at q
 |l,x::r,j,f=>by
  simp[LA]at f;split at f;rename_i o;intro y a d;obtain rfl|a:=Z6S.1 a;simp only[B5,Z7M,Z6l]at o;let⟨z,g,h,k⟩:=o;have n:∃v,eval s z.2=J v:=by
   obtain g|g:=Z6Q.1 g;exact j z g<|BS h d;exact f z g<|BS h d
  exact Yf _ k n;exact(jn j f) y a d;have p:=jn j λy a=>f y<|Z76 _ a;intro y a d;obtain rfl|a:=Z6S.1 a;exact f y Z1 d;exact p y a d
def YG:St->Nat->SV->St
 | [],0,x=>[x]
 | [],i+1,x=>.no::YG [] i x
 |_::s,0,x=>x::s
 |y::s,i+1,x=>y::YG s i x
def WR:∀s i j x,ZJ (YG s i x) j=if j=i then x else ZJ s j
 | [],0,0,x=>rfl
 | [],0,j+1,x=>by simp[YG,ZJ]
 | [],i+1,0,x=>by simp[YG,ZJ]
 | [],i+1,j+1,x=>by
   have:=WR [] i j x;simp[ZJ]at this;simp[YG,ZJ,this]
 |y::s,0,0,x=>rfl
 |y::s,0,j+1,x=>by simp[YG,ZJ]
 |y::s,i+1,0,x=>by simp[YG,ZJ]
 |y::s,i+1,j+1,x=>by
  have:=WR s i j x;simp[ZJ]at this;simp[YG,ZJ,this]
def Vk(s:St)(C:ZI):Bool:=C.all λx=>match ZJ s x.1 with|.v (.bool b)=>b==x.2|_=>xw
def RI{C}:Vk s C=xk↔holds s C:=by
 simp[Vk,holds];grind
def YH P [Lg P]:List EF->St->(St->Prop)->Prop
 | [],s,K=>K s
 |.lt i C e::l,s,K=>if Vk s C=xk then(match eval s e with|some x=>YH P l (YG s i<|.v x) K|none=>False)else YH P l s K
 |.call i C f d fl aq_::l,s,K=>if Vk s C=xk then(match YB s aq_,Ui s f with|some xs,J n=>∃r,VC P n.1 d (xs++n.2) r/\(fl=xk->Ws r=J r)/\YH P l (YG s i<|.v r) K|_,_=>False)else YH P l s K
 | .fi i C f a aq_::l,s,K=>if Vk s C=xk then(match YB s aq_,V2 s f with|some xs,J n=>∃R,UH P n a xs R/\YH P l (YG s i<|.v R) K|_,_=>False)
   else(match Wk s a aq_ with|some []=>YH P l s K|some os=>YH P l (YG s i<|.v<|.am<|.bool xw::os) K|none=>False)
def KQ{C}(h:∀j,C.any (λx=>x.1==j)=xk->ZJ s j=ZJ t j):holds s C↔holds t C:=by
 have:=λx a=>h x.1<|Z7M.2 ⟨x,a,Z1⟩;constructor;intro d x a;rw[<-this x a];exact d x a;intro d x a;rw[this x a];exact d x a
def UK{j l r}:E.ca j (l++r)=(E.ca j l||E.ca j r):=by
 induction l with
 |nil=>rfl
 |cons e l a=>simp[E.ca,a,Bool.or_assoc]
def BF{f}(h:∀j,E.ca j f.es=xk->ZJ s j=ZJ t j):V2 s f=V2 t f:=by
 cases f with
 |id n=>rfl
 |e x=>grind [V2,Yb,FN.es,E.ca]
def BG{f}(h:∀j,E.ca j f.es=xk->ZJ s j=ZJ t j):Ui s f=Ui t f:=by
 cases f with
 |id n=>rfl
 |e x=>grind [Ui,Yb,FN.es,E.ca]
def qw:∀ {ks} {aq_:List E},(∀j,E.ca j aq_=xk->ZJ s j=ZJ t j)->Wk s ks aq_=Wk t ks aq_
 | [],aq_,_=>by simp[Wk]
 |k::ks,[],_=>by cases k<;>simp[Wk]
 |k::ks,e::aq_,h=>by
  have d:=Yb e λj a=>h j (by simp[E.ca,a]);cases k<;>simp[Wk,qw (ks:=ks) (aq_:=aq_) λj a=>h j (by simp[E.ca,a]),d]
def Gm{P} [Lg P]{x}(h:∀j,XA j x=xk->ZJ s j=ZJ t j)(k:ZJ s (UM x)=ZJ t (UM x))(l:Ro P s x):Ro P t x:=by
 cases x with
 |lt i C e=>
  intro d;let⟨v,u,p⟩:=l<|(KQ (s:=s) (t:=t) (C:=C) λj a=>h j<|by simp_all[XA]).2 d;exact⟨v,by rw[<-Yb e λj a=>h j (by simp_all[XA,Bool.or_true])];exact u,by rw[<-p];exact k.symm⟩
 |call i C f B fl aq_=>
  intro d;let⟨xs,n,r,u,z,g,o,p⟩:=l<|(KQ (s:=s) (t:=t) (C:=C) λj a=>h j<|by simp_all[XA]).2 d;exact⟨xs,n,r,by rw[<-TT aq_ λj a=>h j Z5F];exact u,by rw[<-BG (f:=f) λj a=>h j Z5J];exact z,g,o,by rw[<-p];exact k.symm⟩
 |fi i C f ks aq_=>
  have D:=KQ (s:=s) (t:=t) (C:=C) λj a=>h j (by simp_all[XA]);have F:=TT aq_ λj a=>h j Z5F;have G:=BF (f:=f) λj a=>h j Z5J;have H:=qw (ks:=ks) (aq_:=aq_) λj a=>h j Z5F;refine⟨λd=> ?_,λd=> ?_⟩;let⟨xs,n,R,w,g,o,y⟩:=l.1 Z5i;exact⟨xs,n,R,Z5i,Z5i,o,by rw[<-y];exact k.symm⟩;let⟨A,w,g⟩:=l.2 λh'=>Z5i;exact⟨A,Z5i,λq=>by rw[<-g q];exact k.symm⟩
def G1{P} [Lg P]{K}:∀ {l} {s:St},Ld l=xk->YH P l s K->∃t,K t/\(∀x∈l,Ro P t x)/\∀j,(∀x∈l,UM x≠j)->ZJ t j=ZJ s j
 | [],s,_,h=>⟨s,h,Z1,Z1⟩
 |x::l,s,q,h=>by
  simp[Ld,Z6l,Z6y,Z8W,Z9L]at q;let⟨⟨k,S⟩,q⟩:=q;have g:∀D,(∀j,j≠UM x->ZJ D j=ZJ s j)->Ro P D x->YH P l D K->∃t,K t/\(∀y∈x::l,Ro P t y)/\∀j,(∀y∈x::l,UM y≠j)->ZJ t j=ZJ s j:=by
   intro D W Y h;let⟨t,Q,L,w⟩:=G1 q h;refine⟨t,Q,λy B=> ?_,λj d=> ?_⟩;obtain rfl|B:=Z6S.1 B;refine Gm (s:=D) (λj d=>(w j λy B e=> ?_).symm) (w _ λy B e=>(S y B).1 e).symm Y;grind;simp_all;grind
  cases x with
  |lt i C e=>
   simp[YH]at h;have a:∀v j,XA j _=xk->ZJ (YG s i v) j=ZJ s j:=λv j d=>by
    rw[WR,Z6h];intro u;subst u;exact absurd d (by rw[show XA j _=xw from k];simp)
   split at h;rename_i o;split at h;rename_i v X;refine g _ (λj d=>by rw[WR];exact Z6h d) (λ_=>⟨v,?_,by rw[WR,Z6k rfl]⟩) h;rw[Yb e λj d=>a _ j (by simp_all[XA,Bool.or_true])];exact X;simp_all;rename_i o;exact g s Z1 (λp=>absurd (RI.2 p) o) h
  |call i C f fr fl aq_=>
   simp[YH]at h;have a:∀v j,XA j _=xk->ZJ (YG s i v) j=ZJ s j:=λv j d=>by
    rw[WR,Z6h];intro u;subst u;exact absurd d (by rw[show XA j _=xw from k];simp)
   split at h;rename_i o;split at h;rename_i xs n A M;let⟨r,F,G,O⟩:=h;refine g _ (λj d=>by rw[WR];exact Z6h d) (λ_=>⟨xs,n,r,?_,?_,F,G,by rw[WR,Z6k rfl]⟩) O;rw[TT aq_ λj d=>a _ j Z5F];exact A;rw[BG (f:=f) λj d=>a _ j Z5J];exact M;simp_all;rename_i o;exact g s Z1 (λp=>absurd (RI.2 p) o) h
  |fi i C f N aq_=>
   simp[YH]at h;have a:∀v j,XA j _=xk->ZJ s j=ZJ (YG s i v) j:=λv j d=>by
    rw[WR,Z6h];intro u;subst u;exact absurd d (by rw[show XA j _=xw from k];simp)
   have H:∀v,holds s C↔holds _ C:=λv=>KQ λj d=>a v j (by simp_all[XA]);have ha:=λv=>TT aq_ λj d=>a v j Z5F;have hf:∀v,V2 s f=V2 _ f:=λv=>BF λj d=>a v j Z5J;have ho:∀v,Wk s N aq_=Wk _ N aq_:=λv=>qw λj d=>a v j Z5F;split at h;rename_i o;split at h;rename_i xs n A M;let⟨R,F,G⟩:=h;refine g _ (λj d=>by rw[WR];exact Z6h d) ⟨λ_=>⟨xs,n,R,?_,?_,F,by rw[WR,Z6k rfl]⟩,λp=>absurd ((H _).1<|RI.1 o) p⟩ G;grind;grind;simp_all;rename_i o;split at h;rename_i z;exact g s Z1 ⟨λp=>absurd (RI.2 p) o,λ_=>⟨[],z,Z1⟩⟩ h;rename_i Z T z;refine g _ (λj d=>by rw[WR];exact Z6h d) ⟨λp=>absurd (RI.2<|(H _).2 p) o,λ_=>⟨Z,?_,λ_=>by rw[WR,Z6k rfl]⟩⟩ h;grind;simp_all
end
end Vm
namespace Vm
open Go
open Go.RowKit (Below)
def Wx(t:St):OV->Option SV
 |.v e=>(eval t e).map .v
 |.m l=>(YB t l).map .m
 |.no=>J .no
def Vx:List (Nat×OV)->St->St->(St->Prop)->Prop
 | [],_,u,K=>K u
 | (i,o)::l,t,u,K=>match Wx t o with
   |some x=>Vx l t (YG u i x) K
   |none=>False
def TA(t:St):List (ZI×E)->Prop
 | []=>True
 |(C,e)::l=>(Vk t C=xk->(eval t e).isSome=xk)/\TA t l
def zj P [Lg P](r:Reg)(s:St)(K:St->Prop):Prop:=YH P r.efs s λt=>TA t r.chks/\Vx r.outs t t K
def G0{t}:∀ {l},TA t l->Qx t l
 | [],_=>λx a=>by simp at a
 | (C,e)::l,h=>λx a d=>by
   obtain rfl|a:=Z6S.1 a;exact Z7l.1<|h.1<|RI.2 d;exact G0 h.2 x a d
def G3{K t}:∀ {l} {u:St},Vx l t u K->∃a,K a/\(∀x∈l,∃y,Wx t x.2=J y)/\(∀j,(∀x∈l,x.1≠j)->ZJ a j=ZJ u j)/\
  ∀x∈l,(∀y∈l,y.1=x.1->y.2=x.2)->∀v,Wx t x.2=J v->ZJ a x.1=v
 | [],u,h=>⟨u,h,Z1,Z1,Z1⟩
 | (i,o)::l,u,h=>by
   simp[Vx]at h;split at h;rename_i v B;let⟨a,p,z,k,A⟩:=G3 h;refine⟨a,p,λx d=> ?_,λj n=> ?_,λx d q C r=> ?_⟩;grind;rw[k j λx d=>n x (by simp[d]),WR,Z6h];exactλe=>n (i,o) Z1 e.symm;by_cases f:∃y∈l,y.1=x.1;grind;have g:x=(i,o):=by
    obtain h|h:=Z6S.1 d;exact h;simp_all
   subst g;rw[k i λy w e=>f ⟨y,w,e⟩,WR,Z6k rfl];simp_all;simp_all
section
variable {c:Ctx}{B:Nat}{G:Nat->Prop}{s t u:St}{a a':Act}{w w':World}{h h':GH}{g:Gam}{S:SS}
def RelG.rn{f}(n:f.P=c.P)(j:f.ix=c.ix)(k:RelG c B G s a w h g):RelG f B G s a w h g:=by
 have l:∀C,ZK f C=ZK c C:=λC=>by simp[ZK,j]
 refine⟨k.ok,λp d o=> ?_,λp d=> ?_⟩;rw[l]at d;rw[n];exact k.Y p d o;rw[l]at d;exact k.skip p d
theorem XF:∀ {S} {p:Nat},(Yw c S).at p=match S.at p with|some k=>([],zV c p k)|none=>([],.no)
 | [],p=>rfl
 | (q,k)::S,p=>by
   simp[Yw,Gam.at,SS.at];by_cases a:q=p;grind;rw[Z6h a,Z6h a];exact XF (S:=S) (p:=p)
theorem RelC.eval{P o k e f v}(a:RelC P B s w h o k e v)(j:∀x,x.aj=xk->Vm.eval s e=J x->Vm.eval t f=J x):RelC P B t w h o k f v:=by
 cases k with
 |fz=>let⟨x,g,d,l⟩:=a;exact⟨x,Z5h,d,l⟩
 |own n=>let⟨x,g,d⟩:=a;exact⟨x,j x d.aj g,d⟩
 |nil=>exact⟨a.1,j _ rfl a.2⟩
 |gu=>exact a
def RelG.nf(A:RelG c B G s a w h<|Yw c S)(o:∀x∈S,ZJ t (c.ix x.1)=ZJ s (c.ix x.1)):RelG c B G t a w h<|Yw c S:=by
 have j:∀ {S:SS} {p:Nat} {k:OT},S.at p=J k->(p,k)∈S:=by
  intro S p k;induction S with
  |nil=>intro h;cases h
  |cons x S Q=>
   grind [SS.at,List.mem_cons_of_mem]
 have q:∀p,((Yw c S).at p).1=[]:=λp=>by grind [XF]
 refine⟨A.ok,λp _ L=> ?_,λp K=>absurd (by simp_all[Ys]) K⟩;let⟨v,M,d⟩:=A.Y p (by simp_all[Ys]) L;refine⟨v,M,?_⟩;rw[XF]at d⊢;cases z:S.at p with
 |none=>trivial
 |some k=>
  rw[z]at d;have O:=o _<|j z;cases k with
  |fz=>let⟨x,n,g⟩:=d;exact⟨x,by simp_all[Vm.eval],g⟩
  |own R=>let⟨x,n,g⟩:=d;exact⟨x,by simp_all[Vm.eval],g⟩
  |nil=>exact d
  |mem l=>
   let⟨b,N,T,n,g,D,F,H⟩:=d;refine⟨b,N,T,n,g,D,F,λi C r=>(H i C r).eval λx _ P=> ?_⟩;simp at r;obtain⟨y,_,rfl⟩:=r;simp_all[Vm.eval]
  |dh f u=>exact d
def Dd{keep}:∀ {p} {k:OT},(S3 keep g).at p=J k->p∈keep/\(g.at p).1=[]/\Ww (g.at p).2=J k:=by
 induction keep with
 |nil=>intro p k h;cases h
 |cons q keep d=>
  intro p k h;simp only[S3,Z7S]at h;split at h;let⟨f,j⟩:=d (p:=p) (k:=k) h;simp_all;rename_i y a;split at a;rename_i n;simp at a;obtain⟨o,l,rfl⟩:=a;simp only[SS.at]at h;split at h;simp_all;let⟨f,j⟩:=d (p:=p) (k:=k) h;simp_all;cases a
def TK.kept:TK->Bool
 |.val .. |.own .. |.mem _=>xk
 |_=>xw
def OE{S0 p}(a:(g.at p).1=[])(d:(g.at p).2.kept=xk):UZ c S0 g p=if Tt (c.ix p) (VE (g.at p).2)=xk then U else J (c.ix p,VE (g.at p).2):=by
 unfold UZ;simp[a];cases f:Tt _ _;simp;grind [TK.kept];rfl
def s6{keep sh:List Nat}{S0}(hr:RelG c B G t a w h g)(Y:∀p∈keep,∀e l,g.at p=([],.val e l)->∀b,h.ext l b->h.F b)
  (D:∀p∈keep,match UZ c S0 g p with|some x=>∃v,Wx t x.2=J v/\ZJ u (c.ix p)=v|none=>ZJ u (c.ix p)=ZJ t (c.ix p)):RelG c B G u a w h<|Yw c<|S3 keep g:=by
 have S:∀p,((Yw c<|S3 keep g).at p).1=[]:=λp=>by grind [XF,S3]
 refine⟨hr.ok,λp _ hn=> ?_,λp hh=>absurd (by simp_all[Ys]) hh⟩;rw[XF]at hn⊢;cases hS:(S3 keep g).at p with
 |none=>simp_all[TK.bu]
 |some k=>
  let⟨P,R,r⟩:=Dd hS;have X:(g.at p).2.bu=xw:=by cases A:(g.at p).2<;>rw[A]at r<;>first|rfl|simp[Ww]at r
  let⟨v,hv,d⟩:=hr.Y p (by simp_all[Ys]) X;refine⟨v,hv,?_⟩;have C:(g.at p).2.kept=xk->(Tt (c.ix p) (VE (g.at p).2)=xk/\ZJ u (c.ix p)=ZJ t (c.ix p))\/∃v,Wx t (VE (g.at p).2)=J v/\ZJ u (c.ix p)=v:=by
   intro L;have N:=D p P;rw[OE R L]at N;by_cases H:Tt (c.ix p) (VE (g.at p).2)=xk;simp_all;simp_all
  simp only;cases A:(g.at p).2 with
  |val e l=>
   rw[A]at r d C;simp[Ww,Z6c]at r;subst r;let⟨x,Z,M⟩:=d;have hF:=Y p P e l Z5h;refine⟨x,?_,M.mono λb hb=>GH.bz Z5i⟩;simp[Vm.eval];obtain⟨H,W⟩|⟨v',N,Q⟩:=C rfl
   .simp[VE]at H;cases e<;>simp[Tt]at H<;>first|(cases H;done)|skip
    simp_all[Vm.eval]
   grind [VE,Wx,Option.some.injEq]
  |own ty e=>
   rw[A]at r d C;simp[Ww,Z6c]at r;subst r;let⟨x,Z,M⟩:=d;refine⟨x,?_,M⟩;simp[Vm.eval];obtain⟨H,W⟩|⟨v',N,Q⟩:=C rfl
   .simp[VE]at H;cases e<;>simp[Tt]at H<;>first|(cases H;done)|skip
    simp_all[Vm.eval]
   grind [VE,Wx,Option.some.injEq]
  |nil=>
   rw[A]at r d;simp[Ww,Z6c]at r;subst r;exact d
  |mem cs=>
   rw[A]at r d C;simp[Ww,Z6c]at r;subst r;let⟨b,vs,T,N,Q,h3,h4,h5⟩:=d;refine⟨b,vs,T,N,Q,h3,by simpa using h4,λi ck hi=> ?_⟩;simp only[Z6G,Z8f,Z6f]at hi;obtain⟨y,⟨q,⟨K,O,rfl⟩,rfl⟩,rfl⟩:=hi;refine(h5 i K O).eval λx a2 Z=> ?_;simp[Z6V,Vm.eval];obtain⟨H,W⟩|⟨v',e1,e2⟩:=C rfl
   .simp only[VE,Tt,Z6y]at H;have:=H (K.2,i)<|Z8r.2 ⟨i,Z5i⟩;let⟨kk,e⟩:=K;cases e<;>simp only at this<;>first|(cases this;done)|skip
    simp[Z6l,Z71]at this;obtain⟨rfl,rfl⟩:=this;rw[W];simpa only[Vm.eval]using Z
   simp[VE,Wx,Z6f]at e1;obtain⟨xs,a0,rfl⟩:=e1;let⟨_,D⟩:=Ud a0;let⟨z,hz,a3⟩:=D i K.2 Z5i;simp_all[Z6s,YS]
  |no=>simp_all[Ww]
  |kf cs=>simp_all[Ww]
  |im p=>simp_all[Ww]
  |ge p i=>simp_all[Ww]
  |pm p o=>simp_all[Ww]
  |pc e o sh=>simp_all[Ww]
  |pe p i j o k=>simp_all[Ww]
  |pa p o j n k=>simp_all[Ww]
  |ni e sh=>simp_all[Ww]
  |dh f a1=>
   rw[A]at r d;simp[Ww,Z6c]at r;subst r;exact d
end
end Vm
namespace Vm
open Go
open Go.RowKit (Below)
def UE(c:Ctx)(s:St)(S:SS):Prop:=∀p,S.at p=J .nil->ZJ s (c.ix p)=.v (.sl [])
def QC:∀ {S:SS} {p:Nat} {k:OT},S.at p=J k->(p,k)∈S
 | [],p,k,h=>Z5u
 | (q,a)::S,p,k,h=>by
   simp[SS.at]at h;split at h;rename_i e;subst e;cases h;simp;exact Z76 _<|QC h
section
variable {c:Ctx}{B:Nat}{G:Nat->Prop}{s t u:St}{a a':Act}{w w':World}{h h':GH}{g:Gam}{S S':SS}
theorem Dc{S0 p x}(h:UZ c S0 g p=J x):x.1=c.ix p:=by
 grind [UZ,Option.some.injEq]
theorem zY{l xs}(h:YB t l=J xs):∀e∈l,∃v,eval t e=J v:=by
 let⟨_,a⟩:=Ud h;grind [List.getElem?_of_mem]
theorem OF{o v}(h:Wx t o=J v):∀e∈Ll o,∃v,eval t e=J v:=by
 intro e d;cases o with
 |v f=>
  grind [Ll,Wx,Option.map_eq_some_iff]
 |m l=>
  simp[Wx]at h;let⟨xs,a,_⟩:=h;exact zY a e d
 |no=>simp[Ll]at d
theorem C0{keep p e l}(d:p∈keep)(a:g.at p=([],.val e l)):∀q∈l,q∈V3 keep g:=by
 grind [V3]
def PZ{P} [Lg P]{ix fresh sig tr fix n keep draw ops r}(b0:∀o∈ops,Lg.lx P o)(hm:draw=xk->P.follows .mixedOrders=xk)(T:zR P ix fresh sig tr fix n keep draw ops S=J (r,S'))
  (e4:∀p∈keep,∀q∈keep,ix p=ix q->p=q) (hP:c.P=P) (b3:c.ix=ix) (hr:RelG c B G s a w h<|Yw c S) (b5:UE c s S) (hn:n<=a.tmps.size) {K} (hK:zj P r s K) {id Q}
  (hQ:∀a' w' s' h',K s'->RelG c B G s' a' w' h' (Yw c S')->UE c s' S'->h'.K=h.K->Frm h.K (λt=>t∈fix) a.tmps B w a' w'->a'.tmps.size=a.tmps.size->a'.defers=a.defers->Q .normal a' w'):Lg.wp P (.region id ops draw) Q a w:=by
 unfold zR at T;simp only[Z6a]at T;obtain⟨⟨gf,xs⟩,d9,T⟩:=T;simp only at T;split at T
 .rename_i M;simp only[Z6l]at M;let⟨⟨⟨b1,b7⟩,a8⟩,A⟩:=M;simp[Z6c,Z6t]at T;obtain⟨rfl,rfl⟩:=T;generalize a0:({P:=P,ix:=ix,own:=λt=>(Df ops).contains t,fresh:=fresh,sig:=sig,tr:=tr,n:=n,kp:=keep}:Ctx)=j at*;have a5:j.P=P:=by rw[<-a0]
  have L:j.ix=ix:=by rw[<-a0]
  have e3:j.n=n:=by rw[<-a0]
  have X:∀S,Yw j S=Yw c S:=by
   intro S;simp only[Yw];refine Z7w λx _=> ?_;cases x.2<;>simp[zV,L,b3]
  subst a5;obtain⟨hf,rfl⟩:=Md d9 b7;let⟨t,⟨a6,b8⟩,a7,a3⟩:=G1 a8 hK;let⟨u,c1,e7,d4,e8⟩:=G3 b8;have a4:Qx t (xs.flatMap λx=>x.os.chks):=by
   refine jn (λx D hh=> ?_)<|G0 a6;obtain D|D:=Z6Q.1 D;let⟨W,z,D⟩:=Z8U.1 D;have N:=a7 W z;cases W with
   |lt i C e=>
    have:x=(C,e):=by simpa[Bf]using D
    subst this;let⟨v,hv,_⟩:=N hh;grind
   |call i C f fr fl aq_=>
    obtain⟨e,F,rfl⟩:=Z6F.1 D;let⟨ys,n,_,e2,a1,_⟩:=N hh;obtain F|F:=Z6Q.1 F;cases f with
    |id q=>simp[FN.es]at F
    |e q=>
     simp[FN.es]at F;subst F;simp[Ui,Z6a]at a1;let⟨v,hv,_⟩:=a1;grind
    grind [zY]
   |fi i C f ks aq_=>
    obtain⟨e,F,rfl⟩:=Z6F.1 D;let⟨ys,n,_,e2,a1,_⟩:=N.1 hh;obtain F|F:=Z6Q.1 F;cases f with
    |id q=>simp[FN.es]at F
    |e q=>
     grind [FN.es,List.mem_singleton,V2]
    grind [zY]
   let⟨y,hy,D⟩:=Z8U.1 D;obtain⟨e,F,rfl⟩:=Z6F.1 D;grind [OF]
  have d5:∀x∈xs,RZ j.P t x.os:=by
   intro x D;exact⟨λW z=>a7 W<|Z8U.2 ⟨x,D,z⟩,λy hy=>a4 y<|Z8U.2 ⟨x,D,hy⟩⟩
  have d8:RelG j B G t a w h<|Yw j S:=by
   have h1:RelG j B G s a w h<|Yw j S:=by
    rw[X];exact hr.rn hP.symm Z5h
   refine h1.nf λx D=>a3 _ λW z F=> ?_;simp only[Z6y,Z8W,Z9L]at A;exact A W z x D Z5h
  have b2:∀p∈keep,match UZ j S (frz (V3 keep<|YD xs<|Yw j S)<|YD xs<|Yw j S) p with|some x=>∃v,Wx t x.2=J v/\ZJ u (j.ix p)=v|none=>ZJ u (j.ix p)=ZJ t (j.ix p):=by
   intro p hp;have e0:∀q∈keep,∀y,UZ j S (frz (V3 keep<|YD xs<|Yw j S)<|YD xs<|Yw j S) q=J y->y.1=j.ix p->q=p:=λq hq y hy F=>by
    have:=Dc hy;grind
   split;grind [Db,frz,V3,YD,Yw,Dc];rename_i D;refine d4 _ λy hy F=> ?_;let⟨q,hq,e9⟩:=Z8I.1 hy;grind
  have a2:UE c u<|S3 keep<|frz (V3 keep<|YD xs<|Yw j S)<|YD xs<|Yw j S:=by
   intro p hp;let⟨d7,c2,hk⟩:=Dd hp;have d3:((frz (V3 keep<|YD xs<|Yw j S)<|YD xs<|Yw j S).at p).2=.nil:=by
    cases d2:((frz (V3 keep<|YD xs<|Yw j S)<|YD xs<|Yw j S).at p).2<;>rw[d2]at hk<;>simp[Ww]at hk⊢
   have R:=b2 p d7;have b6:UZ j S (frz (V3 keep<|YD xs<|Yw j S)<|YD xs<|Yw j S) p=if S.at p=J .nil then U else J (j.ix p,.v<|.c<|.sl []):=by
    unfold UZ;simp[c2,d3,List.isEmpty_nil,VE,Tt,Z73];cases H:S.at p with
    |none=>simp
    |some k=>grind
   rw[b6]at R;rw[b3,<-L];by_cases H:S.at p=J .nil;rw[Z6k H]at R;simp only at R;rw[R,a3];have:=b5 p H;grind;intro W z F;simp only[Z6y,Z8W,Z9L]at A;exact A W z _ (QC H) Z5h;rw[Z6h H]at R;grind [Wx,eval,Option.some.injEq]
  have c7:∀o∈ops,∀d,o.dst=J d->¬d∈fix:=λo ho d hd hm=>by
   have:=Z6y.1 b1 o Z5h;grind
  have e1:=s8 (c:=j) (id:=id) (Q:=Q) b0 hm hf d5 Z0 d8 c7 λa' w' h' b9 c0 hb h1 h2=>by
   have d0:=b9.ly<|V3 keep<|YD xs<|Yw j S;refine hQ a' w' u (h'.ay<|V3 keep<|YD xs<|Yw j S) c1 ?_ a2 c0 hb h1 h2;rw[<-X];have a9:=s6 (u:=u) (keep:=keep) (sh:=[]) (S0:=S) d0 (λp hp e l Y b Z=> ?_) λp hp=> ?_;exact a9.rn hP Z5h
   ·
    have e5:∀q∈l,q∈V3 keep (YD xs<|Yw j S):=by
     unfold frz at Y;rw[Vd,Vd]at Y;split at Y
     .split at Y;grind [KV]
      .rename_i b4 d1;have d6:p∈V3 keep (YD xs<|Yw j S):=by
        simp only[Y0,Z7I,Z6Q]at b4;have:=b4.resolve_left d1;have h3:=KL (fz:=V3 keep<|YD xs<|Yw j S) (g:=YD xs<|Yw j S);unfold Y0 at h3;rw[h3]at this;exact this
       rw[KK d6]at Y;simp[Z6t]at Y;let⟨e6,O⟩:=Y;cases hk:((YD xs<|Yw j S).at p).2<;>rw[hk]at O<;>simp only[SB]at O<;>first|(cases O;done)|skip
       simp[TK.val.injEq]at O;obtain⟨rfl,rfl⟩:=O;grind [C0,Prod.ext];grind;grind
     exact C0 hp Y
    obtain Z|⟨q,hq,i,hi⟩:=Z;exact Z;simp[GH.ay]at hi;grind
   grind
  exact e1
 cases T
end
end Vm
namespace Vm
open Go
open Go.RowKit (Below)
def GH.drop(h:GH)(a:Nat->Nat->Bool):GH:= {F:=λb=>h.F b\/∃t i,a t i=xw/\i≠0/\h.bl t i=J b,bl:=λt i=>if a t i=xk\/i=0 then h.bl t i else U,K:=h.K}
section
variable {c:Ctx}{B:Nat}{G:Nat->Prop}{s t u:St}{a a':Act}{w w':World}{h h':GH}{g:Gam}{S R:SS}
def OA(d:Ok B G w h)r:Ok B G w<|h.drop r:=by
 refine⟨d.V,λb a=> ?_,λb a=> ?_,λb a=>.inl<|d.gs b a,λt i b a=> ?_,λt i u j b a f=> ?_,d.cw,λt i b a=> ?_,λb a=> ?_⟩;obtain a|⟨t,i,_,_,g⟩:=a;exact d.cd b a;exact(d.ax t i b g).2.1;obtain a|⟨t,i,_,_,g⟩:=a;exact d.dl b a;exact .inr (d.ax t i b g).1;simp only[GH.drop]at a;split at a;rename_i A;let⟨n,o,p⟩:=d.ax t i b a;refine⟨n,o,λk=> ?_⟩;obtain k|⟨x,q,y,z,l⟩:=k;exact p k;obtain⟨rfl,rfl⟩:=d.inj t i x q b a l;simp_all;cases a
 .simp only[GH.drop]at a f;split at a<;>split at f<;>first|(cases a;done)|(cases f;done)|exact d.inj t i u j b a f
 simp only[GH.drop]at a;split at a;exact d.cl t i b a;cases a;obtain a|⟨t,i,_,_,g⟩:=a;exact d.fw b a;exact .inr<|d.cl t i b g
def C8{P}(a:Tj P S R=xk){p k}(f:R.at p=J k):∃d,S.at p=J d/\UU P d k=xk:=by
 have:=Z6y.1 a _<|QC f;grind
def RelC.ke{P o u k g e v}(j:RelC P B s w h o k e v)(a:Ti P k g=xk)(r:∀b,h.F b->h'.F b)
  (p:∀d q,k=.own d->g=.own q->u=o) (t:(∀d,g≠.own d)->∀b,o=J b->h'.F b) (n:∀d,k=.nil->g=.own d->u=U):RelC P B s w h' u g e v:=by
 cases k with
 |fz=>
  cases g<;>simp[Ti]at a<;>first|(cases a;done)|skip
  let⟨x,f,l,y⟩:=j;exact⟨x,f,l,y.mono r⟩;exact j.cell
 |own d=>
  cases g<;>simp only[Ti]at a<;>first|(cases a;done)|skip
  let⟨x,f,l⟩:=j;exact⟨x,f,l.aj,l.rd r Z5i⟩;rename_i q;simp at a;subst a;let⟨x,f,l⟩:=j;exact⟨x,f,l.mono r (p d d rfl rfl).symm⟩;exact j.cell
 |nil=>
  obtain⟨rfl,f⟩:=j;cases g<;>simp only[Ti]at a<;>first|(cases a;done)|skip
  exact⟨_,f,rfl,.nil _ _ Z0⟩;rename_i d;simp at a;rw[n d rfl rfl];exact⟨_,f,.inl ⟨[],[],rfl,a,Z1,Z7e w B d _,rfl,λi A z=>by simp[flat]at z⟩⟩;exact⟨rfl,f⟩;rfl
 |gu=>
  cases g<;>simp[Ti]at a<;>first|(cases a;done)|skip
  exact j
def UT(S R:SS)(t i:Nat):Bool:=
 match S.at t,R.at t with
 |some (.own _),J (.own _)=>xk
 |some (.mem a),J (.mem b)=>match a[i-1]?,b[i-1]? with
  |some (.own _),J (.own _)=>xk
  |_,_=>xw
 |_,_=>xw
def C7{P}:∀ {a b},RP P a b=xk->I a=I b/\∀(i:Nat) x y,a[i]?=J x->b[i]?=J y->Ti P x y=xk
 | [],[],_=>Z1
 | [],_::_,h=>by simp[RP]at h
 |_::_,[],h=>by simp[RP]at h
 |x::a,y::b,h=>by
  simp[RP]at h;let⟨g,j⟩:=C7 h.2;refine⟨by simp[g],λi p q d f=> ?_⟩;cases i with
  |zero=>simp at d f;subst d f;exact h.1
  |succ i=>exact j i p q Z5E Z5y
def Ay(hr:RelG c B G s a w h<|Yw c S)(u:UE c s S)(K:Tj c.P S R=xk):RelG c B G s a w (h.drop<|UT S R) (Yw c R)/\UE c s R:=by
 constructor
 .refine⟨OA hr.ok _,λp _ Y=> ?_,λp hh=>absurd (by rw[XF];cases R.at p<;>exact Ys s c) hh⟩;rw[XF]at Y⊢;cases t:R.at p with
  |none=>rw[t]at Y;simp[TK.bu]at Y
  |some M=>
   let⟨k,j,g⟩:=C8 K t;let⟨v,hv,d⟩:=hr.Y p (by rw[XF,j];exact Ys s c) (by rw[XF,j];cases k<;>rfl);refine⟨v,hv,?_⟩;rw[XF,j]at d;have hF:∀b,h.F b->(h.drop<|UT S R).F b:=λb z=>.inl z;cases k with
   |fz=>
    cases M<;>simp[UU]at g<;>first|(cases g;done)|skip
    let⟨x,o,q⟩:=d;exact⟨x,o,q.mono<|λb z=>GH.bz<|.inl<|GH.it z⟩
   |own N=>
    cases M<;>simp only[UU]at g<;>first|(cases g;done)|skip
    let⟨x,o,q⟩:=d;exact⟨x,o,q.rd (λb z=>GH.bz Z5i) λb z=>GH.bz<|.inr ⟨p,1,by simp[UT,j,t],Z0,z⟩⟩;rename_i Z;simp at g;subst g;let⟨x,o,q⟩:=d;exact⟨x,o,q.mono hF<|by simp[GH.drop,UT,j,t]⟩
   |nil=>
    subst d;have hg:=u p j;cases M<;>simp only[UU]at g<;>first|(cases g;done)|skip
    exact⟨.sl [],by simp[eval,hg],.nil _ _ Z0⟩;rename_i N;simp at g;exact⟨.sl [],by simp[eval,hg],.inl ⟨[],[],rfl,g,Z1,Z7e w B N _,by simp[GH.drop,UT,j,t,Value.ownBlock],λi ck A=>by simp[flat]at A⟩⟩;rfl
   |mem l=>
    cases M<;>simp[UU]at g<;>first|(cases g;done)|skip
    let⟨hl,H⟩:=C7 g;let⟨b,vs,T,o,q,O,Q,W⟩:=d;refine⟨b,vs,T,by simp[GH.drop,o],q,O,by rw[Q];simp[hl],λi ck A=> ?_⟩;simp only[Z6G,Z8f,Z6f,Z6V]at A;obtain⟨y,⟨k2,n,rfl⟩,rfl⟩:=A;have X:i<I l:=by rw[hl];exact(Z6d.1 n).1
    have r:=Z6b X;refine(W i (l[i],.m (c.ix p) i) Z1).ke (H i _ _ r n) hF (λN Z C D=> ?_) (λL x hx=>.inr ⟨p,i+1,?_,Z0,hx⟩) λN C D=> ?_;simp only at C D;simp[GH.drop,UT,j,t,r,n,C,D];simp only at L;simp[UT,j,t,Nat.add_sub_cancel,r,n];cases k2<;>first|(cases l[i]<;>rfl)|exact absurd rfl<|L _
    simp only at C D;simp[GH.drop,UT,j,t,r,n,C,D]
   |dh f a0=>
    cases M<;>simp only[UU]at g<;>first|(cases g;done)|skip
    simp at g;obtain⟨rfl,rfl⟩:=g;let⟨vs,o,q,O⟩:=d;refine⟨vs,o,q,λi p A=> ?_⟩;let⟨b,Q,W⟩:=O i p A;exact⟨b,by simp[GH.drop,Q],W⟩
 .intro p hp;let⟨k,j,g⟩:=C8 K hp;cases k<;>simp[UU]at g<;>first|(cases g;done)|exact u p j
end
end Vm
namespace Vm
open Go
open Go.RowKit (Below)
def YO:List Nat->St->St
 | [],_=>[]
 |i::l,s=>YG (YO l s) i<|ZJ s i
def BN:∀ {keep} {s:St} {i:Nat},i∈keep->ZJ (YO keep s) i=ZJ s i
 | [],s,i,a=>by simp at a
 |j::l,s,i,a=>by
  simp[YO];rw[WR];split;rename_i e;rw[e];rename_i e;exact BN Z5i
def YK P [Lg P]:Stm->St->(St->Prop)->(Nat->St->Prop)->(St->Prop)->Prop
 |.be r,s,N,_,_=>zj P r s N
 |.skip,s,N,_,_=>N s
 |.seq a b,s,N,X,R=>YK P a s (λf=>YK P b f N X R) X R
 | .cond c a b,s,N,X,R=>match eval s c with
   |some (.bool xk)=>YK P a s N X R
   |some (.bool xw)=>YK P b s N X R
   |_=>False
 |.block id a,s,N,X,R=>YK P a s N (λi f=>if i=id then N f else X i f) R
 |.loop d a,s,_,X,R=>∃(I:St->Prop) (μ:St->Nat),I (YO d s)/\∀s,I s->YK P a s (λf=>I (YO d f)/\μ (YO d f)<μ s) X R
 |.exit id,s,_,X,_=>X id s
 |.ret,s,_,_,R=>R s
def RelS(Kf:Nat->Prop)(fix:List Nat)(T0:Array Value)(c:Ctx)(B:Nat)(G:Nat->Prop)(w0:World)(n0:Nat)(s:St)(a:Act)(w:World)(S:SS):Prop:=
 (∃h,RelG c B G s a w h (Yw c S)/\h.K=Kf)/\UE c s S/\Frm Kf (λt=>t∈fix) T0 B w0 a w/\a.tmps.size=n0/\a.defers=[]
section
variable {c:Ctx}{fc:FC}{B:Nat}{G:Nat->Prop}{s t u:St}{a a':Act}{w w' w0:World}{n0:Nat}{S R:SS}{Kf:Nat->Prop}{fix:List Nat}{T0:Array Value}
def RelS.ke(o:RelS Kf fix T0 c B G w0 n0 s a w S)(d:Tj c.P S R=xk):RelS Kf fix T0 c B G w0 n0 s a w R:=by
 let⟨⟨h,f,n⟩,g,j⟩:=o;let⟨k,l⟩:=Ay f g d;exact⟨⟨_,k,n⟩,l,j⟩
def yP{P S M}(h:SH P (J S) M=xk):∃R,M=J R/\Tj P S R=xk:=by
 obtain _|R:=M;cases h;exact⟨R,rfl,h⟩
def RelS.mh(n:RelS Kf fix T0 c B G w0 n0 s a w S):RelS Kf fix T0 c B G w0 n0 (YO (S.map λy=>c.ix y.1) s) a w S:=by
 let⟨⟨h,g,l⟩,j,k⟩:=n;have d:∀x∈S,ZJ (YO (S.map λy=>c.ix y.1) s) _=ZJ s _:=λx o=>BN<|Z6F.2 ⟨x,o,rfl⟩;exact⟨⟨h,g.nf d,l⟩,λp f=>by rw[d _<|QC f];exact j p f,k⟩
def Ca{p:Nat->Prop}:∀n,p n->∃n,p n/\∀m,p m->n<=m:=by
 intro n;induction n using Nat.strongRecOn with
 |_ n a=>
  grind
open Classical in
noncomputable def least (p:Nat->Prop):Nat:=if h:∃n,p n/\∀m,p m->n<=m then Classical.choose h else 0
def Nm{p:Nat->Prop}(h:∃n,p n):p<|least p:=by
 let⟨n,a⟩:=h;have h':=Ca n a;unfold least;grind
def Nl{p n}(a:p n):least p<=n:=by
 have h':=Ca n a;unfold least;grind
def Post(Kf:Nat->Prop)(fix:List Nat)(T0:Array Value)(c:Ctx)(B:Nat)(G:Nat->Prop)(w0:World)(n0:Nat)(fl:Flow)(N:St->Prop)(X:Nat->St->Prop)(R:St->Prop)(e:Exit)(a:Act)(w:World):Prop:=
 match e with
 |.normal=>∃s S,fl.n=J S/\N s/\RelS Kf fix T0 c B G w0 n0 s a w S
 |.exit id=>∃s S,(id,S)∈fl.x/\X id s/\RelS Kf fix T0 c B G w0 n0 s a w S
 |.ret=>∃s S,S∈fl.r/\R s/\RelS Kf fix T0 c B G w0 n0 s a w S
 |_=>False
def Post.mono{fl d N k X o Rt e a w}(h:Post Kf fix T0 c B G w0 n0 fl N X Rt e a w)
  (p:∀s S,fl.n=J S->N s->RelS Kf fix T0 c B G w0 n0 s a w S->∃s S,d.n=J S/\k s/\RelS Kf fix T0 c B G w0 n0 s a w S)
  (hx:∀id s S,(id,S)∈fl.x->X id s->RelS Kf fix T0 c B G w0 n0 s a w S->∃s S,(id,S)∈d.x/\o id s/\RelS Kf fix T0 c B G w0 n0 s a w S)
  (q:∀S,S∈fl.r->S∈d.r):Post Kf fix T0 c B G w0 n0 d k o Rt e a w:=by
 cases e with
 |normal=>let⟨s,S,f,g,j⟩:=h;exact p s S f g j
 |exit id=>let⟨s,S,f,g,j⟩:=h;exact hx id s S f g j
 |ret=>let⟨s,S,f,g,j⟩:=h;exact⟨s,S,q S f,g,j⟩
 |goto l=>exact h.elim
 |panic t=>exact h.elim
 |outgrown=>exact h.elim
def RelS.ma(n:RelS Kf fix T0 c B G w0 n0 s a w S)d:RelS Kf fix T0 c B G w0 n0 s a {w with drawn:=d} S:=by
 let⟨⟨h,f,l⟩,g,j,k⟩:=n;exact⟨⟨h,f.drew d,l⟩,g,j.trans ⟨⟨rfl,rfl,rfl,Z6i _,Z1⟩,λ_ _=>rfl,Z1⟩,k⟩
def IS [Lg fc.P](hm:fc.P.follows .mixedOrders=xk)(b2:∀p∈fc.keep,∀q∈fc.keep,fc.ix p=fc.ix q->p=q)(hP:c.P=fc.P)(a4:c.ix=fc.ix)(c0:fix=fc.oh)(hn:fc.n<=n0):
  ∀code {S:SS} {st:Stm} {fl:Flow} {s:St} {a:Act} {w:World} {N:St->Prop} {X:Nat->St->Prop} {Rt:St->Prop},TJ (Lg.lx fc.P) code->comp fc code S=J (st,fl)->RelS Kf fix T0 c B G w0 n0 s a w S->YK fc.P st s N X Rt->
   Lg.wp fc.P code (Post Kf fix T0 c B G w0 n0 fl N X Rt) a w:=by
 intro code;induction code with
 |skip=>
  intro S st fl s a w N X Rt A d u t;simp[comp,Z6c,Z6t]at d;obtain⟨rfl,rfl⟩:=d;exact Lg.wp_skip ⟨s,S,rfl,t,u⟩
 |label l=>
  intro S st fl s a w N X Rt A d u t;simp[comp,Z6c,Z6t]at d;obtain⟨rfl,rfl⟩:=d;exact Lg.wp_label ⟨s,S,rfl,t,u⟩
 |region id ops draw=>
  intro S st fl s a w N X Rt A d u t;simp only[comp,Z6f,Z6t]at d;obtain⟨⟨r,S'⟩,b6,rfl,rfl⟩:=d;let⟨⟨h,g,hK⟩,k,C,h4,h5⟩:=u;refine PZ A Z5i b6 b2 hP a4 g k (by rw[h4];exact hn) t λa' w' D h' hk L b4 a1 Y hs hd=> ?_;rw[hK,<-c0]at Y;exact⟨D,S',rfl,hk,Z5h,b4,C.trans Y,Z0,Z5i⟩
 |seq x y W a9=>
  intro S st fl s a w N X Rt A d u t;simp only[comp,Z6a]at d;let⟨⟨sx,fx⟩,Q,d⟩:=d;simp only at d;split at d;rename_i a5;simp[Z6c,Z6t]at d;obtain⟨rfl,rfl⟩:=d;refine Lg.wp_seq (Lg.wp_mono (W (N:=N) (X:=X) (Rt:=Rt) A.1 Q u t) λe a' w' j=> ?_);cases e with
  |normal=>let⟨D,S',g,_⟩:=j;rw[a5]at g;cases g
  |_=>exact j
  rename_i R a6;simp only[Z6f,Z6t]at d;obtain⟨⟨sy,fy⟩,hy,rfl,rfl⟩:=d;refine Lg.wp_seq (Lg.wp_mono (W (N:=λD=>YK fc.P sy D N X Rt) (X:=X) (Rt:=Rt) A.1 Q u t) λe a' w' j=> ?_);cases e with
  |normal=>
   let⟨D,S',g,k,C⟩:=j;rw[a6]at g;cases g;exact Lg.wp_mono (a9 A.2 hy C k) λe a' w' j=>j.mono (λs S g k C=>⟨s,S,g,k,C⟩) (λid s S g k C=>⟨s,S,Z6Q.2<|.inr g,k,C⟩) λS hS=>Z6Q.2<|.inr hS
  |exit id=>let⟨D,S',g,k⟩:=j;exact⟨D,S',Z6Q.2<|.inl g,k⟩
  |ret=>let⟨D,S',g,k⟩:=j;exact⟨D,S',Z6Q.2<|.inl g,k⟩
  |_=>exact j.elim
 |exit id=>
  intro S st fl s a w N X Rt A d u t;simp[comp,Z6c,Z6t]at d;obtain⟨rfl,rfl⟩:=d;exact Lg.wp_exit ⟨s,S,Z1,t,u⟩
 |ret=>
  intro S st fl s a w N X Rt A d u t;simp[comp,Z6c,Z6t]at d;obtain⟨rfl,rfl⟩:=d;exact Lg.wp_ret ⟨s,S,Z1,t,u⟩
 |scope x ih=>
  intro S st fl s a w N X Rt A d u t;refine Lg.rk (Lg.wp_mono (ih A (by simpa only[comp]using d) u t) λe a' w' j=> ?_);cases e<;>exact j
 |cond b9 x y W a9=>
  intro S st fl s a w N X Rt A d u t;cases b9 with
  |tmp tc=>
   simp only[comp]at d;split at d;rename_i a2;simp only[Z6a]at d;let⟨⟨sx,fx⟩,Q,⟨sy,fy⟩,hy,d⟩:=d;simp only at d;split at d;rename_i o;simp[Z6l]at o;simp[Z6c,Z6t]at d;obtain⟨rfl,rfl⟩:=d;let⟨⟨h,g,a1⟩,O⟩:=u;let⟨v,hv,L⟩:=g.Y tc (by rw[XF,a2];exact Ys s c) (by rw[XF,a2];rfl);rw[XF,a2]at L;let⟨xv,a8,b7⟩:=L;rw[a4]at a8;have b1:=Act.an a tc v hv;have a0:∀ {f} {fl:Flow} {e:Exit} {a':Act} {w':World},SH fc.P f.n fl.n=xk->(∀z∈f.x,z∈fl.x)->(∀z∈f.r,z∈fl.r)->Post Kf fix T0 c B G w0 n0 f N X Rt e a' w'->Post Kf fix T0 c B G w0 n0 fl N X Rt e a' w':=by
    intro f fl e a' w' T Q u j;refine j.mono (λs S g k C=> ?_) (λid s S g k C=>⟨s,S,Q _ g,k,C⟩) u;rw[g]at T;let⟨R,hR,o⟩:=yP T;exact⟨s,R,hR,k,C.ke (by rw[hP];exact o)⟩
   simp[YK]at t;split at t;rename_i Y;rw[a8]at Y;cases Y;have a7:v=.bool xk:=by cases b7;rfl
   refine Lg.wp_cond_true (by rw[b1,a7]) (Lg.wp_mono (W A.1 Q ⟨⟨h,g,a1⟩,O⟩ t) λe a' w' j=> ?_);exact a0 o.1 (λz hz=>Z6Q.2<|.inl hz) (λz hz=>Z6Q.2<|.inl hz) j;rename_i Y;rw[a8]at Y;cases Y;have a7:v=.bool xw:=by cases b7;rfl
   refine Lg.wp_cond_false (by rw[b1,a7]) (Lg.wp_mono (a9 A.2 hy ⟨⟨h,g,a1⟩,O⟩ t) λe a' w' j=> ?_);exact a0 o.2 (λz hz=>Z6Q.2<|.inr hz) (λz hz=>Z6Q.2<|.inr hz) j;exact t.elim;cases d;cases d
  |_=>simp[comp]at d
 |block id x ih=>
  intro S st fl s a w N X Rt A d u t;simp only[comp,Z6a]at d;let⟨⟨sx,fx⟩,Q,d⟩:=d;simp only at d;split at d;rename_i o;simp only[Z6l,Z6y,Z6z,Z8W,Z9L]at o;let⟨K,Z⟩:=o;simp[Z6c,Z6t]at d;obtain⟨rfl,rfl⟩:=d;generalize L1 fc.P fx.n (qa fc.P ((fx.x.filter λy=>y.1==id).map (·.2)))=M at K Z⊢;refine Lg.wp_block (Lg.wp_mono (ih (N:=N) (X:=λi D=>if i=id then N D else X i D) (Rt:=Rt) A Q u t) λe a' w' j=> ?_);cases e with
  |normal=>
   let⟨D,S',g,k,C⟩:=j;rw[g]at K;let⟨R,hR,T⟩:=yP K;exact⟨D,R,hR,k,C.ke (by rw[hP];exact T)⟩
  |exit d1=>
   let⟨D,S',g,k,C⟩:=j;simp[Exit.inBlock];by_cases a3:d1=id;subst a3;simp at k⊢;let⟨R,hR,T⟩:=yP<|(Z _ g).resolve_left Z1;exact⟨D,R,hR,k,C.ke (by rw[hP];exact T)⟩;simp[Z6h a3]at k⊢;exact⟨D,S',Z92.2 ⟨g,by simpa using a3⟩,k,C⟩
  |ret=>exact j
  |_=>exact j.elim
  cases d
 |loop x ih=>
  intro S st fl s a w N X Rt A d u t;simp only[comp,Z6a]at d;let⟨H,hH,⟨sx,fx⟩,Q,d⟩:=d;simp only at d;split at d;rename_i o;simp[Z6l]at o;simp[Z6c,Z6t]at d;obtain⟨rfl,rfl⟩:=d;let⟨I,μ,b0,F⟩:=t;have b3:(H.map λy=>fc.ix y.1)=H.map λy=>c.ix y.1:=by rw[a4]
  rw[b3]at b0 F;refine Lg.wp_loop (λa w=>∃s,I s/\RelS Kf fix T0 c B G w0 n0 s a w H) (λa w=>least λn=>∃s,μ s=n/\I s/\RelS Kf fix T0 c B G w0 n0 s a w H) ⟨_,b0,(u.ke (by rw[hP];exact o.1)).mh⟩ λa w hI=> ?_;let⟨s0,c7,c1⟩:=hI;let⟨s1,hμ,d0,c2⟩:=Nm (p:=λn=>∃s,μ s=n/\I s/\RelS Kf fix T0 c B G w0 n0 s a w H) ⟨μ s0,s0,rfl,c7,c1⟩;refine Lg.wp_mono (ih A Q c2<|F s1 d0) λe a' w' j=> ?_;cases e with
  |normal=>
   let⟨D,S',g,⟨k,h4⟩,C⟩:=j;have T:=o.2;rw[g]at T;have b5:=(C.ke (show Tj c.P S' H=xk by rw[hP];exact T)).mh;refine⟨⟨_,k,b5⟩,?_⟩;rw[<-hμ];exact Nat.lt_of_le_of_lt (Nl (p:=λn=>∃s,μ s=n/\I s/\RelS Kf fix T0 c B G w0 n0 s a' w' H) ⟨_,rfl,k,b5⟩) h4
  |exit id=>exact j
  |ret=>exact j
  |_=>exact j.elim
  cases d
 |rangeFunc f b8 d3 d2 d4 d5=>intro S st fl s a w N X Rt A d;simp[comp]at d
 |goto l=>intro S st fl s a w N X Rt A d;simp[comp]at d
 |refuse d6=>intro S st fl s a w N X Rt A d;simp[comp]at d
end
end Vm
namespace Vm
open Go
open Go.RowKit (Below)
def R5(s:St):Nat×RK->Option V
 |(i,.v)=>match ZJ s i with|.v x=>J x|_=>U
 |(i,.ag n)=>match ZJ s i with|.m a=>if n<=(I a) then J (.agg<|a.take n)else U|_=>U
 |(i,.aj)=>match ZJ s i with|.m (x::_)=>J x|_=>U
def Uw(s:St):List (Nat×RK)->Option (List V)
 | []=>J []
 |x::l=>(R5 s x).bind λy=>(Uw s l).map (y:: ·)
def T7(s:St)(l:List<|Nat×RK):Option V:=
 match l with
 | [x]=>R5 s x
 |l=>(Uw s l).map .am
theorem Ep:∀ {l} {p:Nat},p∈l->l[XQ l p]?=J p
 | [],p,h=>Z5V
 |q::l,p,h=>by
  simp[XQ];by_cases a:q=p;subst a;simp;rw[Z6h a];have:p∈l:=Z5h;simpa using Ep this
def Eo:∀ {l r} {t:Nat},t∈l->XQ (l++r) t=XQ l t
 | [],r,t,h=>Z5V
 |q::l,r,t,h=>by
  simp[XQ];by_cases a:q=t;simp_all;rw[Z6h a,Z6h a,Eo Z5h]
def Pw{l p q}(a:p∈l)(d:q∈l)(h:XQ l p=XQ l q):p=q:=by
 grind [Ep]
section
variable {c:Ctx}{B:Nat}{G:Nat->Prop}{s t u:St}{a a':Act}{w w' w0:World}{h:GH}{n0:Nat}{S R:SS}
def JK(P:Program)(d:Nat->Nat):ResultVar->Nat×RK
 |.tmp t=>(d t,.v)
 |.cell a t=>(d a,if Y9 P t then .ag (P.cellsOf t)else .aj)
def Qe(a:Array Value):ResultVar->Sem Value
 |.tmp t=>pure<|a.getD t xy
 |.cell p t=>do loadVar t (<-asAddr (a.getD p xy))
def t6 P a f:LH P a f=f.results.toList.map (JK P a):=by
 rfl
def EQ(H:RelG c B G s a w h<|Yw c S)(W:UE c s S){D}(hF:∀b,h.F b->D b){r}(A:∀i b,h.bl (Qf r) (i+1)=J b->D b)(q:Q1 c.P S r=xk){x}(hx:R5 s (JK c.P c.ix r)=J x):
  ∃v,(Qe a.tmps r).run c.P w=.ok v w/\Rd w D x v:=by
 cases r with
 |tmp O=>
  simp only[JK,Qe]at hx⊢;simp[Q1]at q;cases K:S.at O with
  |none=>simp_all
  |some k=>
   let⟨v,hv,L⟩:=H.Y O (by simp_all[XF,Ys]) (by rw[XF,K];cases k<;>rfl);rw[XF,K]at L;have M:a.tmps.getD O xy=v:=by simp[Z6g,hv]
   refine⟨v,by simp[M],?_⟩;simp[R5]at hx;have g:ZJ s (c.ix O)=.v x:=by
    cases hg:ZJ s (c.ix O)<;>rw[hg]at hx<;>simp at hx;rw[hx]
   cases k with
   |fz=>
    let⟨y,N,h2⟩:=L;simp[eval,g,Z6c]at N;subst N;exact h2.mono λb R=>hF b<|GH.it R
   |own ty=>
    let⟨y,N,h2⟩:=L;simp[eval,g,Z6c]at N;subst N;exact h2.rd hF λb R=>A 0 b R
   |nil=>
    have a1:=L;subst a1;have:=W O K;rw[g]at this;simp[SV.v.injEq]at this;subst this;exact .nil _ _ Z0
   |mem l=>simp_all
   |dh f l=>simp_all
 |cell p ty=>
  simp only[JK,Qe]at hx⊢;simp[Q1]at q;cases K:S.at p with
  |none=>simp_all
  |some k=>
   cases k with
   |mem l=>
    rw[K]at q;simp[Z6l,Z6y,Z8W,Z9L]at q;let⟨⟨hT,a0⟩,n⟩:=q;let⟨v,hv,L⟩:=H.Y p (by simp_all[XF,Ys]) (by rw[XF,K];rfl);rw[XF,K]at L;obtain⟨b,t,T,N,rfl,h3,h4⟩:=L;have M:a.tmps.getD p xy=.pointer (J ⟨b,0,U⟩):=by simp[Z6g,hv]
    rw[M];have a7:t.size=I l:=by have:=h4.1;simp_all
    have o:∀i,i<I l->∃y,eval s (.m (c.ix p) i)=J y/\y.aj=xk/\Rd w D y (t.getD i xy):=by
     intro i C;have:=h4.2 i (l[i],.m (c.ix p) i) (by simp[C]);exact this.rd Z5i hF λty _ b R=>A i b R
    let⟨d,info,hd,a4,hs,a3⟩:=VD hT;cases Q:Y9 c.P ty with
    |true=>
     rw[Q]at n hx;simp at n;simp[R5]at hx;split at hx;rename_i cs g;split at hx;rename_i a5;simp[Z6c]at hx;subst hx
     have hl:=run_loadCells_list (P:=c.P) w ⟨b,0,U⟩ t.toList (λj u hj=>by
      rw[Z7L,Z6V,Z6j w b j t T (0,0) h3];grind)
     simp[Z8D]at hl;refine⟨.agg t,?_,?_⟩;simp_all[asAddr,Z8Q,Z8v,loadVar,VH];have X:∀i y,(cs.take<|c.P.cellsOf ty)[i]?=J y->y.aj=xk/\Rd w D y (t.getD i xy):=by
      intro i y C;rw[Z6O]at C;split at C;rename_i a6;let⟨z,Y,a2,Z⟩:=o i Z0;simp[eval,g,C,Z6s]at Y;obtain⟨rfl,_⟩:=S1 Y;simp_all;cases C
     exact .agg _ t Z5i (λy hy=>by
      grind [List.getElem?_of_mem]) λi y C=>(X i y C).2
     cases hx;cases hx
    |false=>
     rw[Q]at n hx;simp[Z73]at n;simp[Z73,R5]at hx;split at hx;rename_i y0 r g;simp[Z6c]at hx;subst hx;let⟨z,Y,a2,Z⟩:=o 0 n;simp[eval,g,Z6s]at Y;obtain⟨rfl,_⟩:=S1 Y;refine⟨t.getD 0 xy,?_,Z⟩;have hc:w.cell? ⟨b,0,U⟩=J (t.getD 0 xy):=by
      rw[Z6j w b 0 t T (0,0) h3];simp_all
     simp_all[asAddr,Z8Q,Z8v,loadVar];cases hx
   |_=>simp_all
def EP(f:RelG c B G s a w h<|Yw c S)(d:UE c s S){D}(q:∀b,h.F b->D b):∀ {l:List ResultVar},(∀r∈l,Q1 c.P S r=xk/\∀i b,h.bl (Qf r) (i+1)=J b->D b)->∀ {xs},Uw s (l.map<|JK c.P c.ix)=J xs->
  ∃k,(l.mapM<|Qe a.tmps).run c.P w=.ok k w/\I k=I xs/\
   ∀(i:Nat) x,xs[i]?=J x->∃v,k[i]?=J v/\Rd w D x v
 | [],_,xs,j=>by
   simp[Uw]at j;subst j;exact⟨[],Z1,rfl,Z1⟩
 |r::l,g,xs,j=>by
  simp[Uw,Z6a]at j;obtain⟨y,A,H,p,rfl⟩:=j;let⟨v,C,o⟩:=EQ f d q (g r Z1).2 (g r Z1).1 A;let⟨k,z,u,n⟩:=EP f d q Z5h p;refine⟨v::k,?_,by simp[u],λi x t=> ?_⟩;simp_all;cases i with
  |zero=>simp at t;subst t;exact⟨v,rfl,o⟩
  |succ i=>simpa using n i x Z5h
def ER(o:RelG c B G s a w h<|Yw c S)(n:UE c s S){D}(L:∀b,h.F b->D b){f}(j:∀r∈f.results.toList,Q1 c.P S r=xk/\∀i b,h.bl (Qf r) (i+1)=J b->D b){x}(hx:T7 s (LH c.P c.ix f)=J x):
  ∃v,(results f a.tmps).run c.P w=.ok v w/\Rd w D x v:=by
 have k:∀d,(f.results.toList.mapM<|Qe a.tmps).run c.P w=.ok d w->
   (results f a.tmps).run c.P w=.ok (if h:d.toArray.size=1 then d.toArray[0]else .tuple d.toArray) w:=by
  intro d q;have O:results f a.tmps=(do let d<-f.results.mapM (Qe a.tmps);pure (if h:d.size=1 then d[0]else Value.tuple d)):=by
   refine Z7J (λg:ResultVar->Sem Value=>(do let d<-f.results.mapM g;pure (if h:d.size=1 then d[0]else Value.tuple d))) ?_;funext r;cases r<;>rfl
  rw[O,Array.mapM_eq_mapM_toList];simp;rw[q];simp
 rw[t6]at hx;generalize X:f.results.toList=l at hx j k
 match l,hx with
 | [r],hx=>
   simp[Z6R,Z7B,T7]at hx;let⟨v,K,p⟩:=EQ o n L (j r Z1).2 (j r Z1).1 hx;refine⟨v,?_,p⟩;have:=k [v] (by simp[List.mapM_cons,List.mapM_nil];rw[K];simp);simpa using this
 | [],hx=>
   simp[Z7B,T7,Uw,Z8i,Z6c]at hx;subst hx;have:=k [] Z1;exact⟨_,by simpa using this,.am _ _ rfl λi c C=>by simp at C⟩
 |r::Y::l,hx=>
  simp only[Z6R,T7]at hx;simp[Z6f]at hx;obtain⟨xs,t,rfl⟩:=hx;let⟨d,q,u,A⟩:=EP o n L j (xs:=xs) (by simpa only[Z6R]using t);have Q:I xs=I l+2:=by
   simp only[Uw,Z6a,Z6f]at t;obtain⟨y,_,T,⟨Z,_,W,N,rfl⟩,rfl⟩:=t;have:∀ {l} {xs:List V},Uw s l=J xs->I xs=I l:=by
    intro l;induction l with
    |nil=>intro xs h;simp[Uw,Z6c]at h;subst h;rfl
    |cons a l R=>
     intro xs h;simp[Uw,Z6a,Z6f]at h;obtain⟨_,_,T,M,rfl⟩:=h;simp[R M]
   have:=this N;simp[this]
  have z:=k d q;have H:¬d.toArray.size=1:=Z5j;rw[dif_neg H]at z;refine⟨_,z,.am _ _ (by simp[u]) λi x C=> ?_⟩;let⟨v,K,p⟩:=A i x C;have:d.toArray.getD i xy=v:=by simp[Z6g,K]
  rw[this];exact p
end
def TL(k:OT)(x:V):SV:=
 match k,x with
 |.mem _,.agg a=>.m a
 |_,x=>.v x
def UJ:List OT->List V->St
 |k::a,x::xs=>TL k x::UJ a xs
 |_,_=>[]
def AO:∀ {ks} {xs:List V} {i:Nat} {k:OT} {x:V},ks[i]?=J k->xs[i]?=J x->ZJ (UJ ks xs) i=TL k x
 | [],_,_,_,_,a,_=>by simp at a
 |_::_,[],_,_,_,_,d=>by simp at d
 |k::ks,x::xs,0,f,g,a,d=>by simp at a d;subst a d;rfl
 |k::ks,x::xs,i+1,f,g,a,d=>by
  have:=AO (ks:=ks) (xs:=xs) (i:=i) (by simpa using a) Z5E;simpa[UJ,ZJ]using this
def Sx(s:St)(i:Nat)(k:OT):Option V:=
 match k with
 |.fz=>J<|.bool xw
 | .own _=>match ZJ s i with
   |.v x=>J x
   |_=>U
 | .mem l=>match ZJ s i with
   |.m a=>if I a=(I l) then J (.agg a)else U
   |_=>U
 |_=>U
def Sw(s:St):Nat->List OT->Option (List V)
 |_,[]=>J []
 |i,k::a=>(Sx s i k).bind λx=>(Sw s (i+1) a).map (x:: ·)
def Bq:∀ {ks} {i:Nat} {s:St} {f:List V},Sw s i ks=J f->I f=I ks/\∀j k y,ks[j]?=J k->f[j]?=J y->Sx s (i+j) k=J y
 | [],i,s,f,d=>by
   simp[Sw]at d;subst d;exact⟨rfl,Z1⟩
 |k::ks,i,s,f,d=>by
  simp[Sw,Z6a]at d;obtain⟨y,o,r,h,rfl⟩:=d;let⟨l,n⟩:=Bq h;refine⟨by simp[l],λj p q g a=> ?_⟩;cases j with
  |zero=>simp at g a;subst g a;exact o
  |succ j=>
   have:=n j p q Z5Y (by simpa using a);rw[show i+(j+1)=i+1+j by omega];exact this
def Aj(ks:List OT)t:SS.at (ks.zipIdx.map λx=>(x.2,x.1)) t=ks[t]? :=by
 have:∀(ks:List OT) n t,SS.at ((ks.zipIdx n).map λx=>(x.2,x.1)) t=if n<=t then ks[t-n]? else U:=by
  intro ks;induction ks with
  |nil=>simp_all[SS.at]
  |cons k ks a=>
   simp[SS.at];grind
 simp_all
def nz:Option OT->Option OT
 |some .fz=>U
 |x=>x
def OP ks t:(ST ks).at t=nz ks[t]? :=by
 have:∀(ks:List OT) n t,SS.at ((ks.zipIdx n).filterMap λx=>match x.1 with|.fz=>U|k=>J (x.2,k)) t=if n<=t then nz ks[t-n]? else U:=by
  intro ks;induction ks with
  |nil=>intro n t;simp[SS.at,nz]
  |cons k ks j=>
   intro n t;have a:n≠t->(if n+1<=t then nz ks[t- (n+1)]? else U)=if n<=t then nz (k::ks)[t-n]? else U:=by
    intro f;by_cases g:n<=t;have d:n+1<=t:=Z0;rw[Z6k g,Z6k d,show t-n=(t- (n+1))+1 by omega];simp;have d:¬n+1<=t:=Z0;rw[Z6h g,Z6h d]
   simp[Z7S];by_cases f:n=t;subst f;have d:¬n+1<=n:=Z0;cases k<;>simp[SS.at,j,nz,d];rw[<-a f];cases k<;>simp[SS.at,j,Z6h f]
 have h:=this ks 0 t;simp[Nat.sub_zero]at h;exact h
theorem BH{P} [Lg P]{f fn R fresh sig ks M} [X:FitF P f](hf:P.funcs[f]?=J fn)(hm:P.follows .mixedOrders=xk)(A:ZS P fresh sig ks M fn=J R)
  {xs Rt} (hw:YK P R.body (UJ ks xs) Rt (λ_ _=>False) Rt) {B w h vs} (a5:Ok B h.F w h) (hA:zu P B w h ks xs vs) {Q}
  (hQ:∀c s S a w' h',c.P=P->(∀t,t<I ks->c.ix t=t)->(∀t∈R.keep,c.ix t=XQ R.keep t)->R.bj=LH P c.ix fn->Rt s->RelG c B h.F s a w' h' (Yw c S)->UE c s S->h'.K=h.K->Frm h.K (λt=>t∈Sy ks) vs B w a w'->RY P fn M S=xk->
   ∃v,(results fn a.tmps).run P w'=.ok v w'/\Q (.returned v) w'):Lg.ku P f vs w Q:=by
 unfold ZS at A;simp only[Z6a]at A;let⟨code,hb,⟨st,fl⟩,N,A⟩:=A;split at A
 .rename_i r;simp only[D4,Z6l]at r;let⟨⟨⟨a1,a6⟩,b2⟩,b1⟩:=r;simp only[Z6c]at A;subst A;simp only at hw;generalize a3:QJ [] ((List.range<|I ks)++Uc (λops=>De ops++jt ops ops.toList []) code)=keep at*;generalize a4:QJ [] ((Uc Cd code).filter λt=> !keep.contains t)=g at*;have L:∀t,t<I ks->XQ (keep++g) t=t:=λt G=>by
   simp_all
  refine Lg.calls_of_wp hf hb ?_;have Y:∀p∈keep,∀q∈keep,XQ (keep++g) p=XQ (keep++g) q->p=q:=λp C q hq he=>Pw (Z7r _ C) (Z7r _ hq) he;let⟨b3,a7,W⟩:=hA;have b0:∀t,t∈Sy ks->t<vs.size:=by
   intro t G;simp only[Sy,ST,Z6F,Z8I]at G;obtain⟨y,⟨x,hx,hy⟩,rfl⟩:=G;have D:=(List.mem_zipIdx hx).2.1;have a9:y.1=x.2:=by
    split at hy;cases hy;grind
   rw[a9,a7];omega
  have j:RelS h.K (Sy ks) vs {P,ix:=XQ<|keep++g,own:=λ_=>xw,fresh,sig,tr:=JZ fn,n:=fn.ntmps} B h.F w (vs++Array.replicate (fn.ntmps-vs.size) xy).size (UJ ks xs)
    {tmps:=vs++Array.replicate (fn.ntmps-vs.size) xy,defers:=[]} w (ks.zipIdx.map λx=>(x.2,x.1)):=by
   refine⟨⟨h,⟨a5,λt _ Z=> ?_,λt hh=> ?_⟩,rfl⟩,λp C=> ?_,⟨.refl _ _,.refl _ _,λt G=> ?_⟩,rfl,rfl⟩
   .rw[XF]at Z⊢;rw[Aj]at Z⊢;by_cases G:t<I ks
    .rw[Z6b G]at Z⊢;have D:t<I xs:=Z0;let⟨tk,d,j⟩:=W t ks[t] xs[t] Z1 Z1;refine⟨vs.getD t xy,?_,?_⟩;simp only;rw[Z8w Z0];simp[Z6g,show t<vs.size by omega]
     .have hg:ZJ (UJ ks xs) (XQ (keep++g) t)=TL ks[t] xs[t]:=by rw[L t G];exact AO Z1 Z1
      generalize ks[t]=k at d hg;generalize xs[t]=x at d hg;cases k with
      |fz=>
       simp[We,Z6c]at d;subst d;let⟨y,o,u⟩:=j;simp[eval,Z6c]at o;subst o;exact⟨x,by grind [eval,TL],u⟩
      |own ty=>
       simp[We,Z6c]at d;subst d;let⟨y,o,u⟩:=j;simp[eval,Z6c]at o;subst o;exact⟨x,by grind [eval,TL],u⟩
      |mem l=>
       cases x<;>simp only[We]at d<;>first|(cases d;done)|skip
       rename_i cs;split at d;rename_i a0;simp[Z6c]at d;subst d;let⟨b,us,T,e1,e2,e3,e4,e5⟩:=j;refine⟨b,us,T,e1,e2,e3,Z5i,λi ck hi=> ?_⟩;simp only[Z6G,Z8f,Z6f,Z6V]at hi;obtain⟨y,⟨k2,a2,rfl⟩,rfl⟩:=hi;have D:i<I cs:=by rw[a0];exact(Z6d.1 a2).1
       have A:=e5 i (k2,.c cs[i]) Z5h;refine A.eval λy o hy=> ?_;simp[eval,Z6c]at hy;subst hy;simp[eval,hg,TL,Z6b D,Z6s,YS,o];grind
      |nil=>grind [We]
      |dh f l=>grind [We]
    rw[Z6X Z0]at Z;cases Z
   exact absurd (by rw[XF];rw[Aj];split<;>exact RJ _) hh;rw[Aj]at C;have D:p<I xs:=by have:=(Z6d.1 C).1;omega
   let⟨tk,d,_⟩:=W p .nil xs[p] C Z1;grind [We];grind
  refine Lg.wp_mono (IS (c:= {P,ix:=XQ<|keep++g,own:=λ_=>xw,fresh,sig,tr:=JZ fn,n:=fn.ntmps}) (fc:= {P,ix:=XQ<|keep++g,fresh,sig,tr:=JZ fn,oh:=Sy ks,n:=fn.ntmps,keep}) hm Y rfl rfl rfl Z5j code (X.all fn code hf hb) N j hw) λe a' w' C=> ?_
  have H:∀ {s} {S:SS},RY P fn M S=xk->Rt s->RelS h.K (Sy ks) vs {P,ix:=XQ<|keep++g,own:=λ_=>xw,fresh,sig,tr:=JZ fn,n:=fn.ntmps} B h.F w (vs++Array.replicate (fn.ntmps-vs.size) xy).size s a' w' S->
    a'.defers=[]/\∀O,Lg.ma P w' O->∃v,(results fn a'.tmps).run P O=.ok v O/\Q (.returned v) O:=by
   intro s S o u z;refine⟨z.2.2.2.2,λO a8=> ?_⟩;rw[Lg.ml a8];replace z:=z.ma O.drawn;let⟨⟨h',z,h4⟩,h5,h6,h7,h8⟩:=z;exact hQ _ s S a' _ h' rfl L (λt G=>Eo G) rfl u z h5 h4 h6 o
  cases e with
  |normal=>
   let⟨s,S,o,u,z⟩:=C;rw[o]at a1;exact H a1 u z
  |ret=>
   let⟨s,S,o,u,z⟩:=C;exact H (Z6y.1 a6 S o) u z
  |exit id=>let⟨s,S,o,u,_⟩:=C;grind
  |_=>exact C.elim
 cases A
def FP{P} [Lg P]{f fn cf fresh sig ks} [FitF P f](d:P.funcs[f]?=J fn)(hm:P.follows .mixedOrders=xk)(G:WO P f=xk)(M:ZS P fresh sig ks (ST ks) fn=J cf)(a0:t5 fn (ST ks)=xk)
  {xs R} (hw:YK P cf.body (UJ ks xs) (λs=>∃r,T7 s cf.bj=J r/\∃L,Sw s 0 ks=J L/\R=Q7 r (Xw ks L)) (λ_ _=>False) (λs=>∃r,T7 s cf.bj=J r/\∃L,Sw s 0 ks=J L/\R=Q7 r (Xw ks L))):UH P f ks xs R:=by
 refine⟨G,λB w h vs a5 hA=>BH d hm M hw a5 hA λc s S a w' h' hP O _ X ⟨r,hr,L,a9,hR⟩ t p hK g o=> ?_⟩;subst hP;simp only[RY,Z6l,Z6y]at o;let⟨C,a3⟩:=o;let⟨n,a4⟩:=Ay t p a3;rw[X]at hr
 let⟨v,hv,a7⟩:=ER (D:=(h'.drop<|UT S<|ST ks).F) t p (λb hb=>.inl hb) (λq hq=>by
  have h2:=Z6y.1 a0 q hq;refine⟨C q hq,λi b hb=>.inr ⟨Qf q,i+1,?_,Z0,hb⟩⟩;simp_all[UT,Option.isNone_iff_eq_none,Qf]) hr
 let⟨a8,Y⟩:=Bq a9;refine⟨v,hv,v,r,L,h'.drop _,rfl,g.below,g.same,n.ok,hK,a7,⟨a8,λi k y hk b1 hy=> ?_⟩,hR⟩;have W:i<I ks:=Z5h;have H:(ST ks).at i=J k:=by
  rw[OP,hk];cases k<;>first|rfl|simp_all
 let⟨u,hu,K⟩:=n.Y i (by simp_all[XF,Ys]) (by rw[XF,H];cases k<;>rfl);rw[XF,H]at K;have a6:vs.getD i xy=u:=by
  have N:=g.oh i<|Z6F.2 ⟨(i,k),QC H,rfl⟩;rw[hu]at N;simp[Z6g,<-N]
 rw[a6];have d:=Y i k y hk hy;cases k with
 |fz=>simp_all
 |own ty=>
  simp[Sx]at d;split at d;rename_i x hg;simp[Z6c]at d;subst d;let⟨z,N,h2⟩:=K;simp[eval,O i W,hg,Z6c]at N;subst N;exact⟨_,rfl,x,rfl,h2⟩;cases d
 |mem l=>
  simp[Sx]at d;split at d;rename_i cs hg;split at d;rename_i b0;simp[Z6c]at d;subst d;let⟨b,us,T,e1,e2,e3,e4,e5⟩:=K;refine⟨.mem ((l.zip cs).map λy=>(y.1,.c y.2)),by simp_all[We],b,us,T,e1,e2,e3,Z5i,λj ck Q=> ?_⟩;simp only[Z6G,Z6f]at Q;obtain⟨⟨kk,x⟩,Q,rfl⟩:=Q;rw[Z9e]at Q;let⟨a1,a2⟩:=Q;have M:=e5 j (kk,.m (c.ix i) j) (by simp[a1]);have A:∀ {z},eval s (.m (c.ix i) j)=J z->z=x:=λhz=>by
   simp[eval,O i W,hg,a2,Z6s]at hz;obtain⟨rfl,_⟩:=S1 hz;rfl
  cases kk with
  |fz=>let⟨z,Z,q2,q3⟩:=M;have:=A Z;subst this;exact⟨_,rfl,q2,q3⟩
  |own ty=>let⟨z,Z,q2⟩:=M;have:=A Z;subst this;exact⟨_,rfl,q2⟩
  |nil=>let⟨Z,q2⟩:=M;have:=A q2;subst this;exact⟨Z,rfl⟩
  |gu=>exact M
  cases d;cases d
 |nil=>simp[Sx]at d
 |dh f l=>simp[Sx]at d
def AN:∀xs,UJ (xs.map λ_=>OT.fz) xs=xs.map .v
 | []=>rfl
 |x::xs=>by simp_all[Z6R,UJ,TL,AN]
def ZY{P} [Lg P]{f fn l fresh sig ks u} [FitF P f](T:P.funcs[f]?=J fn)(X:P.follows .mixedOrders=xk)(j:WO P f=xk)(R:ZS P fresh sig ks u fn=J l)
  {args r} (z:ks=args.map λ_=>.fz)
  (hw:YK P l.body (args.map .v) (λs=>T7 s l.bj=J r) (λ_ _=>False)<|λs=>T7 s l.bj=J r):VC P f xw args r:=by
 refine⟨j,λw G vs O Z C=> ?_⟩;subst z;have A:Ok (xz<|xj w) G w {F:=G,bl:=λ_ _=>U,K:=λ_=>False}:=⟨Z0,O,Z5i,Z1,Z1,Z1,Z1,Z1,Z1⟩;refine BH (h:= {F:=G,bl:=λ_ _=>U,K:=λ_=>False}) (B:=xz<|xj w) (Rt:=λs=>T7 s l.bj=J r) T X R (by rw[AN];exact hw) A ⟨Z1,Z5i,λi k x M hx=> ?_⟩ λc s S a w' h' Q W _ t N d p hK o n=> ?_;simp[Z6f]at M;obtain⟨y,_,rfl⟩:=M;exact⟨_,rfl,x,rfl,(C i x hx).mono λb g=>.inl g⟩;subst Q;simp only[RY,Z6l,Z6y]at n;rw[t]at N
 let⟨v,Y,H⟩:=ER (D:=λb=>G b\/(xz (xj w)<=b/\b<xz (xj w'))) d p (λb g=>by
  obtain L|L:=d.ok.dl b g;grind;exact .inr ⟨L,d.ok.cd b g⟩) (λq hq=>⟨Z5i,λi b g=>.inr ⟨(d.ok.ax _ _ b g).1,(d.ok.ax _ _ b g).2.1⟩⟩) N
 refine⟨v,Y,v,rfl,o.below,H.mono λb g=> ?_⟩;simp_all
end Vm
end
