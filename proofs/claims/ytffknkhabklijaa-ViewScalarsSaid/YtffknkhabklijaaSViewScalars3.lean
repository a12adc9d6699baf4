import Derived.Test.YtffknkhabklijaaSViewScalars2
set_option linter.unusedSimpArgs false
set_option linter.unusedVariables false
set_option linter.defProp false
theorem Z4n{p:Prop}(h:p:=by simp at hx):p:=h
theorem Z4k{p:Prop}(h:p:=by simp_all[eval,Option.bind_eq_some_iff]):p:=h
theorem Z4g{p:Prop}(h:p:=by rw[List.getElem?_map,List.getElem?_eq_getElem hlt];rfl):p:=h
theorem Z3P{p:Prop}(h:p:=by simp only[eval];rw[Z6 a fun j hj=>h j (by simp[E.asks,hj]),Z6 b fun j hj=>h j (by simp[E.asks,hj])]):p:=h
theorem Z3Q{p:Prop}(h:p:=by simp only[eval];rw[Z6 a fun j hj=>h j (by simp[E.asks,hj])]):p:=h
theorem Z3T{p:Prop}(h:p:=by simp only[eval];rw[Z6 a fun j hj=>h j (by simp[E.asks,hj]),Z6 b fun j hj=>h j (by simp[E.asks,hj]),Z6 d fun j hj=>h j (by simp[E.asks,hj])]):p:=h
theorem Z49{p:Prop}(h:p:=by simp only[eval];rw[Yy l fun j hj=>h j (by simp[E.asks,hj])]):p:=h
theorem Z4e{p:Prop}(h:p:=by simp_all[Yq,ZH,Bool.or_true]):p:=h
theorem Z4f{p:Prop}(h:p:=by simp_all[Yq,ZH,Bool.true_or,Bool.or_true]):p:=h
def Z8v:=@Nat.div_lt_iff_lt_mul
def Z7A:=@Nat.mod_lt
def Z76:=@List.isEmpty_iff
def Z6a:=@List.map_nil
def Z8C:=@Nat.mul_le_mul
def Z8s:=@List.length_replicate
def Z4U:=@Go.RowKit.Below.heap_alloc
def Z5G:=@List.nil_append
def Z5R:=@Go.World.ownsRow_nil
def Z5L:=@Array.toList_inj
def Z7F:=@Go.MapKept.sameNow_of_keys
def Z7O:=@Go.MapKept.run_checkKey
def Z7E:=@Go.MapKept.run_findKey
def Z66:=@Go.MapKept.run_getObj_map
def Z7i:=@List.mem_filterMap
def Z6F:=@List.map_map
def Z7B:=@bne_iff_ne
def Z6U:=@Go.setRow_other
def Z62:=@List.length_singleton
def Z5w:=@List.getElem?_eq_none
def Z5z:=@List.mem_or_eq_of_mem_set
def Z8f:=@List.getElem?_set_self
def Z7x:=@List.getElem?_set_ne
def Z6Y:=@Bool.not_eq_false
def Z7b:=@beq_eq_false_iff_ne
def Z7l:=@Go.MapKept.run_setObj_map
def Z5T:=@Array.getElem?_modify
def Z65:=@List.any_eq_true
def Z7Z:=@Go.Calls.mono
def Z8g:=@List.reverse_singleton
def Z7t:=@List.singleton_append
def Z7r:=@Bool.true_or
def Z8h:=@Option.map_eq_none_iff
def Z68:=@List.filterMap_cons
def Z7V:=@List.getElem?_zip_eq_some
def Z8I:=@and_true
def Z6y:=@List.getElem?_zipIdx
def Z6l:=@Array.getElem?_append_left
def Z7C:=@Array.getElem?_append_right
def Z6e:=@List.getElem?_cons_zero
def Z85:=@Bool.true_and
def Z8B:=@List.take_zero
def Z7s:=@List.mem_iff_getElem?
def Z7h:=@List.mem_filter
def Z8r:=@List.length_filter_le
def Z6o:=@List.mem_flatMap
def Z6d:=@List.mem_append_left
def Z7X:=@Option.isNone_iff_eq_none
section
namespace Vm
open Go
open Go.RowKit (Below)
theorem Sl{k:Nat}{l:List V}(hfit:∀x∈l,x.fits k)(hk:0<k){i:Nat}{c:V}(hi:(flat l)[i]?=some c):∃q j z,l[q]?=some z/\j<k/\i=q*k+j/\z.cells[j]?=some c:=by
 have hlt:i<l.length*k:=by rw[<-Yb hfit];exact(Z4v.1 hi).1
 have hq:i / k<l.length:=by rw[Z8v hk];exact hlt
 have hj:=Z7A i hk;have hdm:=Nat.div_add_mod i k;refine⟨i / k,i%k,l[i / k],Z4u hq,hj,Z3L,?_⟩;rw[<-YJ hfit (Z4u hq) (i%k) hj,show i / k*k+i%k=i from by grind];exact hi
section
variable {c:Ctx}{B:Nat}{G:Nat->Prop}{s:St}{a:Act}{w w':World}{h:GH}{g:Gam}{C:Zg}
theorem VB{P:Program}{el:TypeId}(he:elOk P el=true):∃i z,P.info? el=some i/\i.zero=some z/\z.cells.size=i.size/\0<i.size/\i.bytes<=32768/\P.cellsOf el=i.size:=by
 unfold elOk at he;split at he
 ·rename_i i hi;split at he
  ·simp_all[Z4x,Z59,Z4N,Program.cellsOf]
  grind
 grind
theorem VM{B B':Nat}{e:TypeId}{k n:Nat}{v:Value}{xs:List Value}(hr:w.ownsRow B' e k v n xs)(hb:B<=B'):w.ownsRow B e k v n xs:=by
 refine⟨hr.1,?_⟩;obtain hn|⟨g,cap,cur,rfl,h1,r⟩:=hr.2
 ·grind
 ·exact .inr ⟨g,cap,cur,rfl,Z4Z hb h1,r⟩
theorem jU(hok:Ok B G w h)(hg:w.grownBy w' none){el:TypeId}{e:E}{sh:List Nat}{l:List V}{v:Value}{xs:List Value}(he:eval s e=some (.sl l))(hk:0<c.P.cellsOf el)(hfit:∀x∈l,x.fits (c.P.cellsOf el))
  (hown:w'.ownsRow w.heap.size el (c.P.cellsOf el) v l.length xs) (hrd:∀(i:Nat) (ck:V),(flat l)[i]?=some ck->∃u,xs[i]?=some u/\Rd w (h.ext sh) ck u)
  {dst:Option Nat} {k:TK} {es:List E} (ho:JW c dst el e sh=some (k,es)) (tm:Nat->Option Value) (d:Nat) (hd:dst=some d):PRes c B G s w h tm d k v w':=by
 subst hd;unfold JW at ho;have hown':=VM hown hok.base;have hext:=Pd hok sh;simp only at ho;split at ho
 ·rename_i hcond;simp only[Z4x,Z76]at hcond;obtain⟨_,rfl⟩:=hcond;simp only[Z4s,Z4C]at ho;obtain⟨rfl,rfl⟩:=ho
  have hrd':∀ {h':GH},(∀b,h.F b->h'.F b)->∀(i:Nat) (ck:V),(flat l)[i]?=some ck->∃u,xs[i]?=some u/\Rd w' h'.F ck u:=by
   intro h' hF i ck hi;obtain⟨u,hu,hr⟩:=hrd i ck hi;exact⟨u,hu,hr.F.keep (SP hok hg hok.f_lt) hF⟩
  cases hv:v.ownBlock with
  |none=>
   refine⟨{F:=h.F,bl:=λt j=>if t=d then none else h.bl t j,K:=h.K},⟨Xh hok hg,λb hb _=>hg.block b hb Z1,λ_ hb=>hb,λt ht _=> ?_,λt ht=> ?_,λ_ _ _ _ hm=>Z4o,rfl⟩,
    ⟨Z4Z hok.base hg.size,λb hb=>Z4F (hok.f_lt b hb) hg.size,hok.f_or,hok.g_F,λt j b hb=> ?_,λt j u q b hb hb'=> ?_,λb hb=>Z4F (hok.k_lt b hb) hg.size,λt j b hb=> ?_,hok.k_F⟩,.sl l,he,.inl ⟨l,xs,rfl,hk,hfit,hown',Z3L,hrd' λ_ hb=>hb⟩⟩
   ·simp_all
   ·simp_all
   ·simp only at hb;split at hb
    ·cases hb
    ·obtain⟨h1,h2,h3⟩:=hok.b_lt t j b hb;exact⟨h1,Z4F h2 hg.size,h3⟩
   ·simp only at hb hb';split at hb<;>split at hb'<;>first|(cases hb;done)|(cases hb';done)|exact hok.inj t j u q b hb hb'
   ·simp only at hb;split at hb
    ·cases hb
    ·exact hok.k_bl t j b hb
  |some n=>
   obtain⟨h1,h2⟩:=hown.lt n hv;obtain⟨hok',hst⟩:=S4 hok hg d 1 h1 h2;exact⟨_,hst,hok',.sl l,he,.inl ⟨l,xs,rfl,hk,hfit,hown',by grind [GH.give],hrd' λ_ hb=>hb⟩⟩
 ·simp only[Z4s,Z4C]at ho;obtain⟨rfl,rfl⟩:=ho;obtain⟨rfl,hn⟩|⟨n,cap,cur,rfl,h1,hh,hle,hcap,hsz,htk⟩:=hown.2
  ·have hl:l=[]:=Z5s hn;subst hl
   refine⟨h,⟨Xh hok hg,λb hb _=>hg.block b hb Z1,λ_ hb=>hb,λ_ _ _=>rfl,λ_ _=>rfl,λ_ _ _ _ hm=>Z4o,rfl⟩,
    ⟨Z4Z hok.base hg.size,λb hb=>Z4F (hok.f_lt b hb) hg.size,hok.f_or,hok.g_F,λt j b hb=> ?_,hok.inj,λb hb=>Z4F (hok.k_lt b hb) hg.size,hok.k_bl,hok.k_F⟩,.sl [],he,.nil _ _ (Z5H _)⟩
   obtain⟨h1,h2,h3⟩:=hok.b_lt t j b hb;exact⟨h1,Z4F h2 hg.size,h3⟩
  ·have h2:n<w'.heap.size:=(Z4z.1 hh).1;obtain⟨hok',hst⟩:=Gp hok hg [d] [d] h1 h2;refine⟨_,hst,hok',.sl l,he,.sl l n 0 cap (c.P.cellsOf el) (λi=>cur.getD i undef) hle hcap (.inl (.inr rfl)) hfit (λi hi=> ?_) λi ck hi=> ?_⟩
   ·rw[Z5g,Z4Q w' n i cur el (0,0) hh];have:i<cur.size:=Z46;simp_all
   ·obtain⟨u,hu,hr⟩:=hrd i ck hi
    have hu':cur.getD i undef=u:=by
     rw[<-htk,Z55]at hu;split at hu
     ·simp_all
     ·simp at hu
    rw[hu'];refine hr.keep (SP hok hg hext) λb hb=> ?_;obtain hb|⟨p,hp,i,hi⟩:=hb
    ·exact .inl (.inl hb)
    ·exact .inr ⟨p,hp,i,hi⟩
theorem Fw(hr:RelG c B G s a w h g)(hC:holds s (ixC c C)){fl ag:Bool}{n:Nat}(hn:n≠0):∀ {l:List Operand} {es:List E×List Nat},opsF g C fl l=some es->∀ {zs:List V},Yg s (es.1.map (tyE ag n))=some zs->
  zs.length=l.length/\∀(i:Nat) (x:Operand),l[i]?=some x->∃z,zs[i]?=some z/\(∀l,z≠.tup l)/\(ag=true->z.cells.length=n)/\(ag=false->z.one=true)/\Rd w (h.ext es.2) z (a.eval x)
 | [],es,he,zs,hz=>by
   simp only[opsF,Z4s]at he;subst he;simp only[Z6a,Yg,Z4s]at hz;subst hz;exact⟨rfl,λi x hi=>Z43⟩
 |x::l,es,he,zs,hz=>by
  simp only[opsF,Z4t,Z4w]at he;obtain⟨a0,ha,b,hb,rfl⟩:=he;simp only[Z4T,Yg,Z4t,Z4w]at hz;obtain⟨z,hz1,zs',hz2,rfl⟩:=hz;obtain⟨h1,h2⟩:=Fw hr hC hn hb hz2;obtain⟨k1,k2,k3,k4⟩:=Sy hr hC ha hn hz1;refine⟨by simp[h1],λi y hi=> ?_⟩;cases i with
  |zero=>
   simp at hi;subst hi;exact⟨z,Z1,k1,k2,k3,k4.mono λb hb=>GH.ext_left hb⟩
  |succ i=>
   obtain⟨z',e1,e2,e3,e4,e5⟩:=h2 i y Z3L;exact⟨z',Z3L,e2,e3,e4,e5.mono λb hb=>GH.ext_right hb⟩
theorem RE(hr:RelG c B G s a w h g)(hC:holds s (ixC c C)){T:TypeId}{n:Nat}{parts:Array (Nat×Operand)}{dst:Option Nat}{k:TK}{es:List E}(hp:VQ c g C dst T n parts.toList=some (k,es))(hes:∀e∈es,∃z,eval s e=some z)(tm:Nat->Option Value)(d:Nat)(hd:dst=some d):
  ∃v w',(Instr.buildSlice T n (parts.map λ(i,x)=>(i,a.eval x))).run c.P w=.ok v w'/\PRes c B G s w h tm d k v w':=by
 unfold VQ at hp;split at hp
 ·rename_i el hT;have hT':=Dh hT;simp only[Z4t]at hp;obtain⟨ops,hops,hp⟩:=hp;split at hp
  ·rename_i hcond;obtain⟨hidx,hn,hcl,hel,hag⟩:=hcond;obtain⟨i,z,hi,hz0,hzs,h0,hby,hcs⟩:=VB hel
   have he:∃zz,eval s (.lit (ops.1.map (tyE (Zn c.P el) (c.P.cellsOf el))))=some zz:=by
    unfold JW at hp;subst hd;simp only at hp;split at hp<;>(simp only[Z4s,Z4C]at hp;obtain⟨_,rfl⟩:=hp;exact hes _ (List.Mem.head _))
   obtain⟨zz,hzz⟩:=he;have hzz0:=hzz;simp only[eval,Z4w]at hzz;obtain⟨zs,hzs',rfl⟩:=hzz;obtain⟨hl,hx⟩:=Fw hr hC Z0 hops hzs'
   have hlen:parts.toList.length=n:=by
    have:=Z5J List.length hidx;simpa using this
   have hln:zs.length=n:=by rw[hl,Z56,hlen]
   have hpi:∀(q:Nat) (p:Nat×Operand),parts.toList[q]?=some p->p.1=q:=by
    intro q p hq;have h1:(parts.toList.map (·.1))[q]?=some p.1:=Z3L;rw[hidx,List.getElem?_range]at h1
    ·simp_all
    ·grind
   have hfit1:∀z,(∀l,z≠V.tup l)->(Zn c.P el=true->z.cells.length=c.P.cellsOf el)->(Zn c.P el=false->z.one=true)->z.cells.length=c.P.cellsOf el:=by
    intro z h1 h2 h3;obtain hag|hag:=hag
    ·grind
    ·grind [Zn,YN]
   have hpart:∀(q:Nat) (p:Nat×Operand),parts.toList[q]?=some p->∃z,zs[q]?=some z/\z.fits (c.P.cellsOf el)/\(a.eval p.2).cells.size=c.P.cellsOf el/\∀(j:Nat) (ck:V),z.cells[j]?=some ck->Rd w (h.ext ops.2) ck ((a.eval p.2).cells.getD j undef):=by
    intro q p hq;obtain⟨z,e1,e2,e3,e4,e5⟩:=hx q p.2 Z3L;obtain⟨s1,s2,s3⟩:=e5.cells e2;have hc:=hfit1 z e2 e3 e4;exact⟨z,e1,⟨hc,s2⟩,by rw[s1,hc],s3⟩
   have hfit:∀x∈zs,x.fits (c.P.cellsOf el):=by
    intro x hxm;obtain⟨q,hq⟩:=Z4V hxm;have hlt:q<parts.toList.length:=Z3L;obtain⟨z,e1,e2,_⟩:=hpart q _ (Z4u hlt);rw[hq]at e1;cases e1;exact e2
   have hbase:((Array.range (n*i.size)).map (λx=>z.cells[x%z.cells.size]!)).size=n*i.size:=Z1
   obtain⟨R,hR,hRs,_,hRin⟩:=Qv (λq=>some (q*i.size,i.size)) (parts.toList.map λp=>(p.1,a.eval p.2)) ((Array.range (n*i.size)).map (λx=>z.cells[x%z.cells.size]!)) (by
    intro p hp;obtain⟨p',hp',rfl⟩:=Z4I.1 hp;obtain⟨q,hq⟩:=Z4V hp';obtain⟨_,_,_,e3,_⟩:=hpart q p' hq;have hqi:=hpi q p' hq;have hlt:q<n:=Z3L;refine⟨p'.1*i.size,Z3L,?_⟩;simp only;rw[e3,hcs,hqi,hbase,<-Z5P];exact Z5a _ hlt)
   rw[hbase]at hRs
   have hpow:¬(n*i.size>2 ^ 24):=by
    have:n*i.size<=256*256:=Z8C Z0 Z0;omega
   have hnk:n*i.size=0\/n*i.size≠0:=Z0
   have hrun:(Instr.buildSlice T n (parts.map λ(i,x)=>(i,a.eval x))).run c.P w=.ok (.slice (some ⟨w.heap.size,0,none⟩) n n) (w.alloc (.cells R el)):=by
    have hpow':¬(16777216<n*i.size):=Z0;obtain hnk|hnk:=hnk
    ·have hn0:n=0:=by
      obtain hh|hh:=Nat.mul_eq_zero.1 hnk
      ·exact hh
      ·omega
     subst hn0
     have hpe:parts=#[]:=by
      have:parts.size=0:=by simpa using hlen
      exact Z5v this
     subst hpe
     have hRe:R=#[]:=by
      have:R.size=0:=by simpa using hRs
      exact Z5v this
     simp_all[Instr.buildSlice,Z5e,YI,Instr.fill,newRow,Array.range_zero']
    ·simp[Instr.buildSlice,Z5e hT',YI hi,hpow',hnk,Vl hi hz0,hR,newRow]
   refine⟨_,_,hrun,?_⟩;have hg:=Z5U w (.cells R el) none;have hown:=World.ownsRow_lit (base:=w.heap.size) (e:=el) (size:=c.P.cellsOf el) w R n (Z4A _) (by grind [maxLen]) Z3L;rw[<-hln]at hown⊢;refine jU hr.ok hg hzz0 Z0 hfit hown (λj ck hj=> ?_) hp tm d hd;obtain⟨q,r,y,hq,hrk,rfl,hyc⟩:=Sl hfit Z0 hj;have hlt:q<parts.toList.length:=Z3L;obtain⟨y',e1,e2,e3,e4⟩:=hpart q _ (Z4u hlt);rw[hq]at e1;cases e1;have hqi:=hpi q _ (Z4u hlt);obtain⟨pre,suf,hps⟩:∃pre suf,parts.toList=pre++parts.toList[q]::suf:=List.append_of_mem (Z4J hlt);have hsz3:(a.eval parts.toList[q].2).cells.size=i.size:=by rw[e3,hcs]
   have hin:=hRin ((parts.toList.take q).map λp=>(p.1,a.eval p.2)) (parts.toList[q].1,a.eval parts.toList[q].2) ((parts.toList.drop (q+1)).map λp=>(p.1,a.eval p.2)) (by
    grind [List.drop_eq_getElem_cons,List.take_append_drop]) (q*i.size) Z3L (by
    intro p hp o n' ho;obtain⟨p',hp',rfl⟩:=Z4I.1 hp;obtain⟨m,hm⟩:=Z4V hp';rw[Z5d]at hm;have:=hpi _ _ hm;simp only[Z4s,Z4C]at ho;obtain⟨rfl,rfl⟩:=ho;left;simp only;rw[hsz3,this,<-Z5P]
    grind) r Z3L
   refine⟨(a.eval parts.toList[q].2).cells.getD r undef,?_,e4 r ck hyc⟩;rw[Z5O,hcs,hin];have hlt2:r< (a.eval parts.toList[q].2).cells.size:=Z0;simp only[Z4y]
   grind
  grind
 grind
theorem RG(z:Array Value)(n:Nat)(h0:0<z.size)(j:Nat)(hj:j<n):(madeCells z n).toList[j]?=z[j%z.size]? :=by
 simp_all[Z7A,madeCells]
theorem D1(hr:RelG c B G s a w h g){n m:Operand}(hs:G9 n m=true){k:IntKind}{q:Int}(hn:a.eval n=.int k q):∃k',a.eval m=.int k' q:=by
 unfold G9 at hs;split at hs
 ·simp_all
 ·simp_all[Z59,Act.eval,Value.int.injEq]
 ·cases hs
theorem CM(hr:RelG c B G s a w h g)(hC:holds s (ixC c C)){T:TypeId}{n m:Operand}{dst:Option Nat}{k:TK}{es:List E}(hp:FI c g C dst T n m=some (k,es))(hes:∀e∈es,∃z,eval s e=some z)(tm:Nat->Option Value)(d:Nat)(hd:dst=some d):
  ∃v w',(Instr.makeSlice T (a.eval n) (a.eval m)).run c.P w=.ok v w'/\PRes c B G s w h tm d k v w':=by
 unfold FI at hp;split at hp
 ·rename_i el hT;have hT':=Dh hT;simp only[Z4t]at hp;obtain⟨zs,hz,⟨e,sh⟩,he,hp⟩:=hp;split at hp
  ·rename_i hcond;simp only[Z4x,Z4L,Z59]at hcond;obtain⟨⟨hso,hel⟩,hag⟩:=hcond;obtain⟨i,z,hi,hz0,hzs,h0,hby,hcs⟩:=VB hel;obtain⟨i',z',hi',hz0',hzs',hcells⟩:=Wt hz;rw[hi]at hi';cases hi';rw[hz0]at hz0';cases hz0'
   have hev:∃zz,eval s (.mk (if Zn c.P el then .agg zs else zs.headD (.agg [])) e)=some zz:=by
    unfold JW at hp;subst hd;simp only at hp;split at hp<;>(simp only[Z4s,Z4C]at hp;obtain⟨_,rfl⟩:=hp;exact hes _ (List.Mem.head _))
   obtain⟨zz,hzz⟩:=hev;have hzz0:=hzz;obtain⟨y,hy,hyr⟩:=Xf hr hC he;simp only[eval,hy,Z4E]at hzz;generalize hzv:(if Zn c.P el then V.agg zs else zs.headD (.agg []))=zv at*;unfold mkV at hzz;split at hzz
   ·rename_i ki q;split at hzz
    ·rename_i hq;obtain⟨hq0,hq1⟩:=hq;obtain⟨q,rfl⟩:=Z4P hq0;simp only[Z4s,Z5f]at hzz;subst hzz;have hlim:q<=4294967296:=by simp only[lim]at hq1;omega
     have hn:=hyr.int_eq;obtain⟨k',hm⟩:=D1 hr hso hn;rw[hn,hm]
     have hb:i.bytes*q<=281474976710656:=by
      have:i.bytes*q<=32768*4294967296:=Z8C hby hlim;omega
     obtain⟨w',hrun,hown,hg⟩:=run_make_full (P:=c.P) w w.heap.size T el i z i.size hT' hi hz0 rfl ki k' q hb (by grind [maxLen]) (Z4A _);refine⟨_,_,hrun,?_⟩
     have hzc:zv.cells=zs:=by
      rw[<-hzv];obtain hag|hag:=hag
      ·rw[if_pos hag];rfl
      ·split
       ·rfl
       ·have h1:zs.length=1:=hag
        match zs,h1,hcells,hzs' with
        | [x],_,hcells,hzs'=>
          simp only[List.headD_cons];obtain⟨x',hx',hc⟩:=hcells 0 (z.cells[0]'Z0) (Z4X _)
          grind [YN,Qq]
     have hcell:∀(j:Nat) (ck:V),zs[j]?=some ck->∃u,z.cells[j]?=some u/\Uy u=some ck:=by
      intro j ck hj;have hlt:j<z.cells.size:=by rw[hzs'];exact(Z4v.1 hj).1
      obtain⟨x',hx',hc⟩:=hcells j _ (Z4X hlt);rw[hj]at hx';cases hx';exact⟨_,Z4X hlt,hc⟩
     have hzfit:zv.fits (c.P.cellsOf el):=by
      refine⟨Z3M,λck hck=> ?_⟩;rw[hzc]at hck;obtain⟨j,hj⟩:=Z4V hck;obtain⟨u,_,hc⟩:=hcell j ck hj;exact Qq hc
     have hfit:∀x∈List.replicate q zv,x.fits (c.P.cellsOf el):=λx hx=>Z3M;rw[<-hcs]at hown;have hown2:w'.ownsRow w.heap.size el (c.P.cellsOf el) (.slice (some ⟨w.heap.size,0,none⟩) q q) (List.replicate q zv).length (madeCells z.cells (q*c.P.cellsOf el)).toList:=by rw[Z8s];exact hown
     refine jU hr.ok hg hzz0 Z0 hfit hown2 (λj ck hj=> ?_) hp tm d hd;obtain⟨p,r,y',hp',hrk,rfl,hyc⟩:=Sl hfit Z0 hj;have hpq:p<q:=by simpa using(Z4v.1 hp').1
     have hy':y'=zv:=List.eq_of_mem_replicate (Z4B hp');subst hy';rw[hzc]at hyc;obtain⟨u,hu,hc⟩:=hcell r ck hyc;refine⟨u,?_,RJ hc _ _⟩;have hle:p*c.P.cellsOf el+c.P.cellsOf el<=q*c.P.cellsOf el:=by rw[<-Z5P];exact Z5a _ hpq
     grind [RG,Nat.mul_comm,Nat.mul_add_mod,Nat.mod_eq_of_lt]
    grind
   grind
  grind
 grind
end
end Vm
namespace Vm
open Go
open Go.RowKit (Below)
open Go.MapKept (IsKey bytes_beq sameNow_of_keys run_checkKey run_findKey run_keyThatStays)
section
variable {c:Ctx}{B:Nat}{G:Nat->Prop}{s:St}{a:Act}{w w':World}{h:GH}{g:Gam}{C:Zg}
theorem Jp{P:Program}{t ty e:TypeId}{i:TypeInfo}(ht:P.underlying t=some (.slice e))(hi:P.info? e=some i){size:Nat}{v:Value}{n:Nat}{xs:List Value}(hown:w.ownsRow B e size v n xs)(cp:Nat):
  (Builtin.append_ #[t,t] ty #[v,.slice none 0 cp]).run P w=.ok v w:=by
 obtain⟨rfl,rfl⟩|⟨g,cap,cur,rfl,_,_,hnc,_⟩:=hown.2
 ·simp[Builtin.append_,Z5e ht,Go.sizeOf,typeInfo,hi,Builtin.lenOf,Builtin.firstCells]
 ·simp[Builtin.append_,Z5e ht,Go.sizeOf,typeInfo,hi,Builtin.lenOf,Builtin.firstCells,hnc,storeCells]
theorem T8{P:Program}{t ty e:TypeId}(ht:P.underlying t=some (.slice e))(hel:elOk P e=true){v:Value}{n:Nat}{xs:List Value}(hown:w.ownsRow B e (P.cellsOf e) v n xs)(hB:B<=w.heap.size)
  {Gy:Nat->Prop} {l:List V} {y:Value} (hy:Rd w Gy (.sl l) y) (hk:Ya (P.cellsOf e) l=true) (hlim:n+l.length<=lim):
  ∃v' w' news,(Builtin.append_ #[t,t] ty #[v,y]).run P w=.ok v' w'/\w'.ownsRow B e (P.cellsOf e) v' (n+l.length) (xs++news)/\w.grownBy w' v.ownBlock/\
   (v'.ownBlock=v.ownBlock\/(w.grownBy w' none/\w'.ownsRow w.heap.size e (P.cellsOf e) v' (n+l.length) (xs++news)))/\
   (∀x∈l,x.fits (P.cellsOf e))/\∀(i:Nat) (ck:V),(flat l)[i]?=some ck->∃u,news[i]?=some u/\Rd w Gy ck u:=by
 obtain⟨i,z,hi,hz,hzs,h0,hby,hcs⟩:=VB hel;have hsl:=Jv hk
 have hnew:(∃cp,y=.slice none 0 cp/\l=[])\/∃ad cp,∃news:List Value,y=.slice (some ad) l.length cp/\news.length=l.length*P.cellsOf e/\(∀j u,news[j]?=some u->w.cell? (ad.add j)=some u)/\(∀u∈news,u.oneCell'=true)/\
   (∀x∈l,x.fits (P.cellsOf e))/\∀(i:Nat) (ck:V),(flat l)[i]?=some ck->∃u,news[i]?=some u/\Rd w Gy ck u:=by
  cases hy with
  |nil ad cp hc=>
   cases ad with
   |none=>simp
   |some ad=>exact .inr ⟨ad,cp,[],rfl,Z1,λj u hj=>by simp at hj,λu hu=>by simp at hu,λx hx=>Z4n,λi ck hi=>by simp[flat]at hi⟩
  |sl _ b o cap kk vs h1 h2 h3 h4 h5 h6=>
   refine .inr ⟨⟨b,o,none⟩,cap,(List.range (l.length*P.cellsOf e)).map vs,rfl,Z1,?_⟩;by_cases hl:l=[]
   ·simp_all[flat]
   ·obtain⟨x,hx⟩:=List.exists_mem_of_ne_nil l hl;have hkk:kk=P.cellsOf e:=by rw[<-(h4 x hx).1,hsl x hx]
    subst hkk;have hlenf:=Yb h4;refine⟨λj u hj=> ?_,λu hu=> ?_,h4,λi ck hi=> ?_⟩
    ·grind [List.getElem?_eq_some_iff,Addr.add_lit]
    ·obtain⟨j,hj,rfl⟩:=Z4I.1 hu;have hlt:=Z6x.1 hj;have hf:(flat l)[j]?=some ((flat l)[j]'Z0):=Z4u _;have hr:=h6 j _ hf;rw[hr.one_eq];obtain⟨x,hx,hcx⟩:=Lt hf;exact(h4 x hx).2 _ hcx
    grind
 obtain⟨cp,rfl,rfl⟩|⟨ad,cp,news,rfl,hl,hnews,h1,hfit,hrd⟩:=hnew
 ·refine⟨v,w,[],Jp ht hi hown cp,Z3M,⟨rfl,rfl,rfl,Z4A _,λ_ _ _=>rfl⟩,.inl rfl,λx hx=>Z4n,λi ck hi=>by simp[flat]at hi⟩
 ·simp only[lim]at hlim;have h63:n+l.length<=maxLen:=by grind [maxLen]
  have hbytes:(n+l.length)*i.bytes<=140737488355328:=by
   have:(n+l.length)*i.bytes<=4294967296*32768:=Z8C hlim hby;omega
  have hlen:(xs++news).length=(n+l.length)*P.cellsOf e:=by rw[Z5N,hown.1,hl,Nat.add_mul]
  have grown:∀(old:Nat),old<n+l.length->∀(row:Option Nat) (cs:Array Value),cs=xs.toArray++news.toArray->
    (w.drew.alloc (.cells (cs++Builtin.zeroCells z.cells (grownCap w (n+l.length) old e- (n+l.length))) e)).ownsRow w.heap.size e (P.cellsOf e)
     (.slice (some ⟨w.heap.size,0,none⟩) (n+l.length) (grownCap w (n+l.length) old e)) (n+l.length) (xs++news)/\
    w.grownBy (w.drew.alloc (.cells (cs++Builtin.zeroCells z.cells (grownCap w (n+l.length) old e- (n+l.length))) e)) row:=by
   rintro old ho row cs rfl;have hge:=grownCap_ge w (n+l.length) old e;have hcm:grownCap w (n+l.length) old e<=maxLen:=grownCap_le_maxLen w (n+l.length) old e h63;refine⟨⟨hlen,.inr ⟨w.heap.size,_,_,rfl,Z4A _,Z5c w.drew _,hge,hcm,?_,?_⟩⟩,⟨rfl,rfl,rfl,Z1,λk hk _=>Z4U w.drew _ k hk⟩⟩
   ·simp only[Array.size_append,Z63,size_zeroCells,hzs,hown.1,hl,hcs,<-Nat.add_mul];simp_all
   ·grind
  obtain⟨rfl,rfl⟩|⟨g,cap,cur,rfl,hbg,hg,hnc,hcm,hcsz,htake⟩:=hown.2
  ·have hx:xs=[]:=Z5s Z3M;subst hx;by_cases hm:l.length=0
   ·have hn:news=[]:=Z5s Z3M;subst hn;refine⟨.slice none 0 0,w,[],?_,Z3M,⟨rfl,rfl,rfl,Z4A _,λ_ _ _=>rfl⟩,.inl rfl,hfit,hrd⟩;simp[Builtin.append_,Z5e ht,Go.sizeOf,typeInfo,hi,Builtin.lenOf,hm,Builtin.firstCells,loadCells,loadCellsFrom]
   ·have hr:=run_append_nil (P:=P) w t ty e i z ht hi hz ad l.length cp news Z3L hnews Z0 Z0 Z3L;have hgr:=grown 0 Z0;simp only[Z5g,Z5G]at hgr⊢;obtain⟨g1,g2⟩:=hgr none news.toArray Z1
    grind [VM]
  ·by_cases hroom:n+l.length<=cap
   ·obtain⟨w',hr,ho,hgr⟩:=run_append_fits (P:=P) w B t ty e i (P.cellsOf e) ht hi hcs.symm g n cap xs hown ad l.length cp news hl hnews h1 hroom;exact⟨_,_,news,hr,ho,hgr,.inl rfl,hfit,hrd⟩
   ·have holds:∀j u,xs[j]?=some u->w.cell? ((⟨g,0,none⟩:Addr).add j)=some u:=hown.cells (g:=g) rfl;have hr:=run_append_grow (P:=P) w t ty e i z ht hi hz ⟨g,0,none⟩ n cap xs Z3L holds ad l.length cp news Z3L hnews Z0 Z0 (growslice_fits Z0 hbytes);have hgr:=grown cap Z0;obtain⟨g1,g2⟩:=hgr none _ rfl;exact⟨_,_,news,hr,VM g1 hB,(hgr _ _ rfl).2,.inr ⟨g2,g1⟩,hfit,hrd⟩
theorem Ww{k:Nat}{x y z:V}(hz:appV k x y=some z):∃l r,x=.sl l/\y=.sl r/\l.length+r.length<=lim/\Ya k r=true/\z=.sl (l++r):=by
 unfold appV at hz;split at hz
 ·simp_all
 grind
theorem Ef{x z:V}(hz:flsV x=some z):x=z/\∃l,z=.sl l/\∀y∈Vm.flat l,y.flatc=true:=by
 unfold flsV at hz;split at hz
 ·rename_i l;split at hz
  ·rename_i hall;simp only[Z4s]at hz;exact⟨hz,l,hz.symm,λy hy=>Z4D.1 hall y hy⟩
  grind
 grind
theorem AU(hr:RelG c B G s a w h g)(hC:holds s (ixC c C)){x:Operand}{b0:E×List Nat}(hx:opE g C x=some b0){fl:Bool}{z:V}(hz:eval s (R1 fl b0).1=some z):
  ∃G',Rd w G' z (a.eval x)/\∀l,z=.sl l->∀(i:Nat) (ck:V) (u:Value),(flat l)[i]?=some ck->Rd w G' ck u->Rd w (h.ext (R1 fl b0).2) ck u:=by
 obtain⟨y,hy,hyr⟩:=Xf hr hC (show opE g C x=some (b0.1,b0.2)from hx);unfold R1 at hz⊢;split
 ·grind
 ·rename_i hb;rw[if_neg hb]at hz;split
  ·rename_i hfl;rw[if_pos hfl]at hz;simp only[eval,hy,Z4E]at hz;obtain⟨rfl,l,rfl,hall⟩:=Ef hz;refine⟨_,hyr,λl' hl' i ck u hi hu=> ?_⟩;cases hl';exact hu.flat (hall ck (Z4B hi))
  grind
theorem NQ{dst:Option Nat}{d:Nat}(hd:dst=some d){el:TypeId}{e:E}{sh:List Nat}{k:TK}{es:List E}(ho:JW c dst el e sh=some (k,es))(hes:∀e∈es,∃z,eval s e=some z):∃z,eval s e=some z:=by
 unfold JW at ho;subst hd;simp only at ho;split at ho<;>(simp only[Z4s,Z4C]at ho;obtain⟨_,rfl⟩:=ho;exact hes _ (List.Mem.head _))
theorem qe(hr:RelG c B G s a w h g)(hC:holds s (ixC c C)){T U ty:TypeId}{x y:Operand}{dst:Option Nat}{k:TK}{es:List E}(hp:LX c g C dst T U x y=some (k,es))(hes:∀e∈es,∃z,eval s e=some z)(tm:Nat->Option Value)(d:Nat)(hd:dst=some d):
  ∃v w',(Builtin.append_ #[T,U] ty #[a.eval x,a.eval y]).run c.P w=.ok v w'/\PRes c B G s w h tm d k v w':=by
 unfold LX at hp;split at hp
 ·rename_i el hT;have hT':=Dh hT;split at hp
  ·rename_i hcond;obtain⟨rfl,hel⟩:=hcond;split at hp
   ·rename_i hk;simp only[Z4t]at hp;obtain⟨b0,hb,hp⟩:=hp;rw[SF hr hC hk]
    have hp':JW c dst el (.app (.c (.sl [])) (R1 (Xu c.P el) b0).1 (c.P.cellsOf el)) (R1 (Xu c.P el) b0).2=some (k,es):=by
     subst hd;simp only at hp;split at hp
     grind
     ·exact hp
    obtain⟨z,hz⟩:=NQ hd hp' hes;have hz0:=hz;simp only[eval,Z4E,Z4t]at hz;obtain⟨yy,hyy,hz⟩:=hz;obtain⟨l0,r,hl0,rfl,hlim,hsz,rfl⟩:=Ww hz;cases hl0;obtain⟨G',hrd,hback⟩:=AU hr hC hb hyy;obtain⟨i,zz,hi,hz1,hzs,h0,hby,hcs⟩:=VB hel;obtain⟨v',w',news,hrun,hown,hg,hor,hfit,hnews⟩:=T8 (ty:=ty) hT' hel (Z5R w w.heap.size el (c.P.cellsOf el)) (Z4A _) hrd hsz Z0;refine⟨v',w',hrun,?_⟩;simp only[Z5g,Z5G]at hown
    exact jU hr.ok hg Z3M Z0 hfit hown (λi ck hi=>by
     grind) hp' tm d hd
   grind
  grind
 grind
theorem UA(hr:RelG c B G s a w h g)(hC:holds s (ixC c C)){x:Operand}{b:E×List Nat}(he:opE g C x=some b):∃y,eval s b.1=some y/\Rd w (h.ext b.2) y (a.eval x):=Xf hr hC (show opE g C x=some (b.1,b.2)from he)
def PRun(c:Ctx)(B:Nat)(G:Nat->Prop)(s:St)(a:Act)(w:World)(h:GH)(o:Oper)(d:Nat)(k:TK):Prop:=
 ∃v w',(execOp a.eval o).run c.P w=.ok (.value v) w'/\PRes c B G s w h (λp=>a.tmps[p]?) d k v w'
theorem PRun.of{o:Oper}{d:Nat}{k:TK}{m:Sem Value}(he:execOp a.eval o=(do pure (.value (<-m))))(hm:∃v w',m.run c.P w=.ok v w'/\PRes c B G s w h (λp=>a.tmps[p]?) d k v w'):PRun c B G s a w h o d k:=by
 obtain⟨v,w',hrun,hres⟩:=hm;exact⟨v,w',Z3M,hres⟩
theorem Has.pr(hok:Ok B G w h){o:Oper}{d:Nat}{k:TK}{m:Sem Value}(he:execOp a.eval o=(do pure (.value (<-m))))(hm:Has c B s w h (λp=>a.tmps[p]?) d k m):PRun c B G s a w h o d k:=by
 obtain⟨v,hrun,hk⟩:=hm
 grind [PRun.of,PRes.here]
theorem RL{s:St}{e:E}{aq_:List V}{o:Nat}{z:V}(h:eval s e=some (.agg aq_))(hz:eval s (.fld e o)=some z):aq_[o]?=some z:=by
 simp_all[eval,Z4E,fldV,V.pc,Z4t,oneV]
def X3(P:Program)(T:TypeId)(vs:Array Value)(o:Nat):Value:=if Zn P T then .agg (vs.extract o (o+P.cellsOf T))else vs.getD o undef
theorem zZ{vs:Array Value}{o n i:Nat}(hi:i<n)(h:o+n<=vs.size):(vs.extract o (o+n)).getD i undef=vs.getD (o+i) undef:=by
 simp only[Z4y,Z8d];simp_all
theorem KT{P:Program}{T:TypeId}{vs:Array Value}{o n q:Nat}(h:o+n<=vs.size)(hq:q+P.cellsOf T<=n)(h0:P.cellsOf T≠0):X3 P T (vs.extract o (o+n)) q=X3 P T vs (o+q):=by
 grind [X3,Array.extract_extract,zZ]
theorem E6{P:Program}{a b e:E}:∀(d:Nat) (T:TypeId) (o:Nat),eqD P a b d T o=some e->P.cellsOf T≠0/\(P.underlying T).isSome=true
 |0,_,_,h=>by simp[eqD]at h
 |d+1,T,o,h=>by
  grind [eqD]
theorem G6{P:Program}{s:St}{ea eb:E}{aq_ bs:List V}{xs ys:Array Value}{G' G'':Nat->Prop}(ha:eval s ea=some (.agg aq_))(hb:eval s eb=some (.agg bs))(hxs:xs.size=aq_.length)(hys:ys.size=bs.length)
  (hx:∀i c,aq_[i]?=some c->Rd w G' c (xs.getD i undef)) (hy:∀i c,bs[i]?=some c->Rd w G'' c (ys.getD i undef)):∀(d D:Nat) (T:TypeId) (o:Nat) (e:E) (z:V),d<=D->o+P.cellsOf T<=xs.size->o+P.cellsOf T<=ys.size->eqD P ea eb d T o=some e->eval s e=some z->
  ∃r:Bool,(Op.equalIn (D+1) T (X3 P T xs o) (X3 P T ys o)).run P w=.ok r w/\z=.bool r
 |0,D,T,o,e,z,_,_,_,he,hz=>by simp[eqD]at he
 |d+1,D,T,o,e,z,hD,hbx,hby,he,hz=>by
  simp only[eqD]at he;split at he
  ·rename_i hT;split at he
   case isFalse=>cases he
   simp only[Z4s]at he;subst he;simp only[eval,Z4t]at hz;obtain⟨u,hu,v,hv,hzx⟩:=hz;have hu':=RL ha (z:=u) (o:=o) Z4k;have hv':=RL hb (z:=v) (o:=o) Z4k;have h1:=hx o u hu';have h2:=hy o v hv';have hag:Zn P T=false:=by simp[Zn,hT]
   simp only[X3,hag,Z4G,Z5h];generalize xs.getD o undef=vx at*;generalize ys.getD o undef=vy at*;cases h1<;>cases h2<;>simp only[eqV]at hzx<;>(try (simp at hzx;done))
   simp_all[Z4s,run_equalIn_bool]
  ·rename_i q hT;split at he
   case isFalse=>cases he
   simp only[Z4s]at he;subst he;simp only[eval,Z4t]at hz;obtain⟨u,hu,v,hv,hzx⟩:=hz;have hu':=RL ha (z:=u) (o:=o) Z4k;have hv':=RL hb (z:=v) (o:=o) Z4k;have h1:=hx o u hu';have h2:=hy o v hv';have hag:Zn P T=false:=by simp[Zn,hT]
   simp only[X3,hag,Z4G,Z5h];generalize xs.getD o undef=vx at*;generalize ys.getD o undef=vy at*;cases h1<;>cases h2<;>simp only[binV]at hzx<;>(try (simp at hzx;done))
   simp_all[Z4s,run_equalIn_int]
  ·rename_i fs hT;split at he
   case isFalse=>cases he
   rename_i hcond;obtain⟨hne,h0,hst⟩:=hcond;have hag:Zn P T=true:=by simp[Zn,hT]
   have hfo:P.fieldsOf T=fs:=by unfold Program.fieldsOf;rw[hT]
   simp only[X3,hag,Z5b];obtain⟨D',rfl⟩:∃D',D=D'+1:=⟨D-1,Z0⟩
   have key:∀(l:List Field) (e:E) (z:V),binS P (eqD P ea eb d) (P.cellsOf T) o l=some e->eval s e=some z->
     ∃r:Bool,(Op.eqFields (D'+1) (xs.extract o (o+P.cellsOf T)) (ys.extract o (o+P.cellsOf T)) l).run P w=.ok r w/\z=.bool r:=by
    intro l
    induction l with
    |nil=>
     intro e z he hz;simp only[binS,Z4s]at he;subst he;simp_all[eval,Z4s,Op.eqFields]
    |cons f l ih=>
     intro e z he hz;simp only[binS]at he;split at he
     case isFalse=>cases he
     rename_i hc;obtain⟨hn,ho⟩:=hc;simp only[Z4t,Z4w]at he;obtain⟨x,hcx,y,hy2,rfl⟩:=he;simp only[eval,Z4t]at hz;obtain⟨zx,hzx,hz⟩:=hz;obtain⟨c0,cu⟩:=E6 d f.type _ hcx;obtain⟨t,ht,rfl⟩:=G6 ha hb hxs hys hx hy d D' f.type (o+f.offset) x zx Z0 Z0 Z0 hcx hzx
     have p1:(part f.type (xs.extract o (o+P.cellsOf T)) f.offset).run P w=.ok (X3 P f.type xs (o+f.offset)) w:=by
      rw[<-KT hbx ho c0];exact zd (w:=w) (P:=P) cu c0 Z3M
     have p2:(part f.type (ys.extract o (o+P.cellsOf T)) f.offset).run P w=.ok (X3 P f.type ys (o+f.offset)) w:=by
      rw[<-KT hby ho c0];exact zd (w:=w) (P:=P) cu c0 Z3M
     simp only[Op.eqFields,hn,ne_eq,not_false_eq_true,Z5b,Z54,p1,p2,ht,Z51];cases t
     ·simp_all[iteV,eval,Z4s]
     simp_all[iteV]
   obtain⟨r,hr,rfl⟩:=key _ e z he hz;refine⟨r,?_,rfl⟩;have:=run_equalIn_struct w (D'+1) T (xs.extract o (o+P.cellsOf T)) (ys.extract o (o+P.cellsOf T)) (by rw[hfo];exact hT) hst;rw[hfo]at this;exact this.trans hr
  ·cases he
theorem AX{P:Program}{s:St}{ea eb:E}:∀(d:Nat) (T:TypeId) (o:Nat) (e:E) (z:V),eqD P ea eb d T o=some e->eval s e=some z->∃q t t',eval s (.fld ea q)=some t/\eval s (.fld eb q)=some t'
 |0,_,_,_,_,h,_=>by simp[eqD]at h
 |d+1,T,o,e,z,h,hz=>by
  simp only[eqD]at h;split at h
  ·split at h
   case isFalse=>cases h
   simp only[Z4s]at h;subst h;simp only[eval,Z4t]at hz;obtain⟨a,h1,b,h2,_⟩:=hz;exact⟨o,a,b,by simpa only[eval,Z4t]using h1,by simpa only[eval,Z4t]using h2⟩
  ·split at h
   case isFalse=>cases h
   simp only[Z4s]at h;subst h;simp only[eval,Z4t]at hz;obtain⟨a,h1,b,h2,_⟩:=hz;exact⟨o,a,b,by simpa only[eval,Z4t]using h1,by simpa only[eval,Z4t]using h2⟩
  ·rename_i fs hT;split at h
   case isFalse=>cases h
   rename_i hc;cases hfs:fs.toList with
   |nil=>exact absurd hfs hc.1
   |cons f l=>
    rw[hfs]at h;simp only[binS]at h;split at h
    case isFalse=>cases h
    simp only[Z4t,Z4w]at h;obtain⟨x,hcx,y,_,rfl⟩:=h;simp only[eval,Z4t]at hz;obtain⟨zx,hzx,_⟩:=hz;exact AX d _ _ _ _ hcx hzx
  ·cases h
theorem BF{P:Program}{s:St}{ea eb e:E}{u v z:V}{uv vv:Value}{T:TypeId}{G' G'':Nat->Prop}(hq:eqSt P T ea eb=some e)(hu:eval s ea=some u)(hv:eval s eb=some v)(hur:Rd w G' u uv)(hvr:Rd w G'' v vv)(hz:eval s e=some z):
  ∃(r:Bool) (xs ys:Array Value),uv=.agg xs/\vv=.agg ys/\(Op.equal T uv vv).run P w=.ok r w/\z=.bool r/\P.eqGuardType P.depth T=false:=by
 unfold eqSt at hq;split at hq
 case isFalse=>cases hq
 rename_i hcond;obtain⟨hag,hgd⟩:=hcond;obtain⟨q,t,t',h1,h2⟩:=AX 4 T 0 e z hq hz
 have ga:∀ {ex:E} {x:V} {y:V},eval s ex=some x->eval s (.fld (.sz (.isag ex) (P.cellsOf T)) q)=some y->∃aq_,x=.agg aq_/\aq_.length=P.cellsOf T/\eval s (.sz (.isag ex) (P.cellsOf T))=some (.agg aq_):=λ{ex x y} hx hy=>by
  simp only[eval,hx,Z4E]at hy⊢;cases x<;>simp only[jH,Option.bind_none,Z4E]at hy⊢ <;>(try (cases hy;done))
  rename_i aq_;unfold szV at hy⊢;by_cases hl:(V.agg aq_).cells.length=P.cellsOf T
  ·exact⟨aq_,rfl,hl,Z3L⟩
  simp_all
 obtain⟨aq_,rfl,hla,hea⟩:=ga hu h1;obtain⟨bs,rfl,hlb,heb⟩:=ga hv h2;cases hur with
 |agg _ xs h1 h2 h3=>
  cases hvr with
  |agg _ ys k1 k2 k3=>
   obtain⟨r,hr,rfl⟩:=G6 (P:=P) hea heb h1 k1 h3 k3 4 9999 T 0 e z Z0 Z0 Z0 hq hz;refine⟨r,xs,ys,rfl,rfl,?_,rfl,hgd⟩
   have e1:X3 P T xs 0=.agg xs:=by
    unfold X3;rw[if_pos hag,Z5g,show P.cellsOf T=xs.size by omega];simp
   have e2:X3 P T ys 0=.agg ys:=by
    unfold X3;rw[if_pos hag,Z5g,show P.cellsOf T=ys.size by omega];simp
   rw[e1,e2]at hr;exact hr
theorem FD(hr:RelG c B G s a w h g)(hC:holds s (ixC c C)){op:BinOp}{T:TypeId}{x y:Operand}{k:TK}{es:List E}(hp:NS c g C op T x y=some (k,es))(hes:∀e∈es,∃z,eval s e=some z)(d:Nat):
  Has c B s w h (λp=>a.tmps[p]?) d k (do eqGuard op T x y (a.eval x) (a.eval y);binOp op T (a.eval x) (a.eval y)):=by
 unfold NS at hp;simp only[Z4t,Z4w,Z4C]at hp;obtain⟨ea,ha,eb,hb,rfl,rfl⟩:=hp;obtain⟨u,hu,hur⟩:=UA hr hC ha;obtain⟨v,hv,hvr⟩:=UA hr hC hb;obtain⟨z,hz⟩:=hes _ (List.Mem.head _);have hz0:=hz
 have fin:∀ {m:Sem Value},(∃r,m.run c.P w=.ok r w/\Rd w h.F z r)->Has c B s w h (λp=>a.tmps[p]?) d (.val (binE c.P T op ea.1 eb.1) []) m:=by
  rintro m ⟨r,hr1,hr2⟩;exact⟨r,hr1,z,hz0,hr2.mono λb hb=>GH.ext_F hb⟩
 have plain:eval s (.bin op ea.1 eb.1)=some z->Has c B s w h (λp=>a.tmps[p]?) d (.val (binE c.P T op ea.1 eb.1) []) (do eqGuard op T x y (a.eval x) (a.eval y);binOp op T (a.eval x) (a.eval y)):=by
  intro hz;simp only[eval,hu,hv,Z4E]at hz;exact fin (It hz hur hvr T x y)
 unfold binE at hz;split at hz
 ·rename_i hT;split at hz
  ·simp only[eval,hu,hv,Z4E]at hz;exact fin (G7 (neg:=false) hz hur hvr hT x y)
  ·simp only[eval,hu,hv,Z4E]at hz;exact fin (G7 (neg:=true) hz hur hvr hT x y)
  simp_all
 ·split at hz
  ·cases hq:eqSt c.P T ea.1 eb.1 with
   |none=>simp_all
   |some e=>
    rw[hq]at hz;obtain⟨r,xs,ys,hxs,hys,h1,rfl,h2⟩:=BF hq hu hv hur hvr hz;refine fin ⟨.bool r,?_,.bool _⟩;simp_all[eqGuard,binOp,Z6g]
  ·cases hq:eqSt c.P T ea.1 eb.1 with
   |none=>simp_all
   |some e=>
    rw[hq]at hz;simp only[Z4K,Z4W,eval,Z4t]at hz;obtain⟨y',hy',hz⟩:=hz;obtain⟨r,xs,ys,hxs,hys,h1,rfl,h2⟩:=BF hq hu hv hur hvr hy';simp only[unV,Z4s]at hz;subst hz;refine fin ⟨.bool (!r),?_,.bool _⟩;simp_all[eqGuard,binOp,Z6g]
  simp_all
theorem CO{x z:V}{e:E}{d:Nat}{sh:List Nat}{m:Sem Value}(hz:eval s e=some z)(hm:∃r,m.run c.P w=.ok r w/\Rd w (h.ext sh) z r)(tm:Nat->Option Value):Has c B s w h tm d (.val e sh) m:=by
 obtain⟨r,h1,h2⟩:=hm;exact⟨r,h1,z,hz,h2⟩
theorem SL{m:Sem Value}{z:V}(hm:∃r,m.run c.P w=.ok r w/\Rd w h.F z r)(sh:List Nat):∃r,m.run c.P w=.ok r w/\Rd w (h.ext sh) z r:=by
 obtain⟨r,h1,h2⟩:=hm;exact⟨r,h1,h2.mono λb hb=>GH.ext_F hb⟩
theorem Kh(hr:RelG c B G s a w h g)(hC:holds s (ixC c C)):∀ {l:List Operand} {ts:List Nat},zI g C l=some ts->ts.length=l.length/\∀(i p:Nat),ts[i]?=some p->∃x b,l[i]?=some x/\h.bl p 0=some b/\a.eval x=.pointer (some ⟨b,0,none⟩)
 | [],ts,hc=>by
   simp only[zI,Z4s]at hc;subst hc;exact⟨rfl,λi p hi=>Z43⟩
 |x::l,ts,hc=>by
  simp only[zI]at hc;split at hc
  ·rename_i t cs hk;simp only[Z4w]at hc;obtain⟨us,hus,rfl⟩:=hc;obtain⟨h1,h2⟩:=Kh hr hC hus;obtain⟨v,hv,⟨b,vs,T,e1,e2,_⟩,_⟩:=hr.look hC (show look g C t=_ from hk) rfl;refine⟨by simp[h1],λi p hi=> ?_⟩;cases i with
   |zero=>simp at hi;subst hi;exact⟨_,b,rfl,e1,by rw[Act.eval_tmp a t v hv];exact e2⟩
   |succ i=>simpa using h2 i p (by simpa using hi)
  ·cases hc
theorem JY(hr:RelG c B G s a w h g)(hC:holds s (ixC c C)){f:Go.Fn}{first captured:Array Operand}{k:TK}{es:List E}(hp:SI g C f first.toList captured.toList=some (k,es))(d:Nat):
  Has c B s w h (λp=>a.tmps[p]?) d k (Instr.makeFunc f (first.map a.eval) (captured.map a.eval)):=by
 unfold SI at hp;split at hp
 ·rename_i f' h1 h2;simp only[Z4s,Z4C]at hp;obtain⟨rfl,rfl⟩:=hp;have e1:first=#[]:=Z5L.1 Z0;have e2:captured=#[]:=Z5L.1 Z0;subst e1 e2;exact⟨.func (.func f') #[] #[],by simp[Instr.makeFunc],.fn f',rfl,.fn f'⟩
 ·rename_i f' h1 _;simp only[Z4w,Z4C]at hp;obtain⟨ts,hts,rfl,rfl⟩:=hp;have e1:first=#[]:=Z5L.1 Z0;subst e1;obtain⟨hl,hall⟩:=Kh hr hC hts;refine⟨.func (.func f') #[] (captured.map a.eval),by simp[Instr.makeFunc],captured.map a.eval,rfl,Z3M,λi p hi=> ?_⟩
  grind
 ·cases hp
theorem z6(hok:Ok B G w h){T:TypeId}{k:TK}{es:List E}(hp:Jc c T=some (k,es))(tm:Nat->Option Value)(d:Nat):
  ∃v w',(Instr.makeMap T none).run c.P w=.ok v w'/\PRes c B G s w h tm d k v w':=by
 unfold Jc at hp;split at hp
 ·simp only[Z4s,Z4C]at hp;obtain⟨rfl,rfl⟩:=hp;have hg:=Z5U w (.map #[] 0) none;obtain⟨hok',hst⟩:=S4 hok hg d 1 (n:=w.heap.size) (Z4A _) Z1;refine⟨.map (some w.heap.size),w.alloc (.map #[] 0),?_,_,hst,hok',.mp 0 [] [],rfl,.inr ⟨0,[],[],w.heap.size, #[],0,rfl,rfl,by simp[GH.give],hok.base,.inl rfl,Z5c w _,rfl,rfl,λi c hi=>Z43,λi c hi=>Z43⟩⟩;rfl
 ·cases hp
theorem IT{P:Program}{T:TypeId}{x:V}(hz:Ot P T=some x):∃z,(∀w:World,(zeroValue T).run P w=.ok z w)/\∀(w:World) (G:Nat->Prop),Rd w G x z:=by
 unfold Ot at hz;simp only[Z4t]at hz;obtain⟨z,⟨i,hi,hz0⟩,hm⟩:=hz;refine⟨z,λw=>Vl hi hz0 w,λw G=> ?_⟩;split at hm
 ·rename_i cs;simp only[Z4w]at hm;obtain⟨xs,hxs,rfl⟩:=hm;obtain⟨h1,h2⟩:=QV hxs
  have key:∀(i:Nat) (c:V),xs[i]?=some c->Uy (cs.getD i undef)=some c:=by
   intro i c hi;have hlt:i<cs.size:=by have:=(Z4v.1 hi).1;rw[h1]at this;simpa using this
   obtain⟨y,hy,hc⟩:=h2 i cs[i] (by simp[hlt]);rw[hi]at hy;cases hy;simpa[Z4y,hlt]using hc
  refine .agg xs cs Z3M (λc hc=> ?_) λi c hi=>RJ (key i c hi) w G
  grind [List.getElem?_of_mem,Qq]
 grind [RJ]
def kcD:KC->TypeDesc
 |.b=>.bool
 |.i k=>.int k
 |.s=>.string
theorem ym{P:Program}{t:TypeId}{kc:KC}(hk:kcOf P t=some kc):P.underlying t=some (kcD kc):=by
 unfold kcOf at hk;split at hk<;>first|(simp only[Z4s]at hk;subst hk;assumption)|cases hk
theorem QR{kc:KC}{k:V}(hk:isK kc k=true){w:World}{G':Nat->Prop}{v:Value}(hv:Rd w G' k v):IsKey (kcD kc) v:=by
 cases kc<;>cases hv<;>simp_all [isK,IsKey,kcD]
theorem KF{kc:KC}{k y:V}{r:Bool}(hk:isK kc k=true)(he:ES k y=some r){w w2:World}{G' G'':Nat->Prop}{v u:Value}(hv:Rd w G' k v)(hu:Rd w2 G'' y u):IsKey (kcD kc) u/\(r=true↔v=u):=by
 cases kc<;>cases hv<;>simp[isK]at hk<;>cases hu<;>simp[ES]at he
 ·grind [IsKey,kcD]
 ·obtain⟨rfl,rfl⟩:=he;simp[IsKey,kcD,hk]
 grind [IsKey,kcD,bytes_beq]
theorem WA{kc:KC}{k:V}(hk:isK kc k=true){w w2:World}{G' G'':Nat->Prop}{v:Value}(hv:Rd w G' k v):∀ {ks:List V} {l:List MapEntry} {r:Option Nat},JO k ks=some r->ks.length=l.length->
  (∀(i:Nat) (c:V),ks[i]?=some c->Rd w2 G'' c (l.getD i default).key)->∀n,match r with
   |none=>Instr.findNow (kcD kc) v l n=some none
   |some j=>∃e,l[j]?=some e/\e.key=v/\Instr.findNow (kcD kc) v l n=some (some (n+j,e.val))
 | [],l,r,hf,hl,_,n=>by
   simp only[JO,Z4s]at hf;subst hf;have:l=[]:=Z5s hl.symm;subst this;rfl
 |y::ks,[],r,_,hl,_,n=>by simp at hl
 |y::ks,e::l,r,hf,hl,hrd,n=>by
  simp only[JO]at hf;have hy:Rd w2 G'' y e.key:=by simpa using hrd 0 y rfl
  split at hf
  ·rename_i he;obtain⟨h1,h2⟩:=KF hk he hv hy;simp only[Z4s]at hf;subst hf;have hve:=h2.1 rfl;obtain⟨q,hq,hiff⟩:=Z7F (QR hk hv) h1;have hq1:q=true:=hiff.2 hve;subst hq1;exact⟨e,rfl,hve.symm,by simp[Instr.findNow,hq]⟩
  ·rename_i he;obtain⟨h1,h2⟩:=KF hk he hv hy;obtain⟨q,hq,hiff⟩:=Z7F (QR hk hv) h1
   have hq1:q=false:=by
    cases q with
    |false=>rfl
    |true=>have:=h2.2 (hiff.1 rfl);cases this
   subst hq1;simp only[Z4w]at hf;obtain⟨r',hr',rfl⟩:=hf;have ih:=WA hk hv hr' (by simpa using hl) (λi c hi=>by simpa using hrd (i+1) c (by simpa using hi)) (n+1);cases r' with
   |none=>simpa[Instr.findNow,hq]using ih
   |some j=>
    obtain⟨e',e1,e2,e3⟩:=ih;exact⟨e',by simpa using e1,e2,by simp[Instr.findNow,hq,e3];omega⟩
  ·cases hf
theorem KK{kc:KC}{k z y:V}{ks vs:List V}{id:Nat}{ok:Bool}(hy:lkV kc (.mp id ks vs) k z ok=some y){l:List MapEntry}{w2:World}{G' G'':Nat->Prop}{kv zv:Value}(hk:Rd w G' k kv)(hz:∀(w:World) (G:Nat->Prop),Rd w G z zv)(h1:ks.length=l.length)(h2:vs.length=l.length)
  (h3:∀(i:Nat) (c:V),ks[i]?=some c->Rd w2 G'' c (l.getD i default).key) (h4:∀(i:Nat) (c:V),vs[i]?=some c->Rd w2 G'' c (l.getD i default).val):
  isK kc k=true/\∃r,Instr.findNow (kcD kc) kv l 0=some r/\Rd w2 G'' y (if ok then .tuple #[(match r with|some (_,v)=>(v,true)|none=>(zv,false)).1,.bool (match r with|some (_,v)=>(v,true)|none=>(zv,false)).2]else(match r with|some (_,v)=>(v,true)|none=>(zv,false)).1):=by
 have tup:∀ {x:V} {v:Value} {b:Bool},Rd w2 G'' x v->Rd w2 G'' (if ok then .tup [x,.bool b]else x) (if ok then .tuple #[v,.bool b]else v):=by
  intro x v b hx;cases ok
  ·exact hx
  ·refine .tup _ _ rfl λi c hi=> ?_
   match i,hi with
   |0,hi=>simp_all
   |1,hi=>simp at hi;subst hi;simpa using Rd.bool b
   |i+2,hi=>simp at hi
 unfold lkV at hy;split at hy
 ·cases hy
 rename_i hik;have hik:isK kc k=true:=by simpa using hik
 refine⟨hik,?_⟩;simp only at hy;split at hy
 ·rename_i j hf;obtain⟨e,e1,e2,e3⟩:=WA hik hk hf h1 h3 0
  grind
 ·rename_i hf;have:=WA hik hk hf h1 h3 0
  grind
 ·cases hy
theorem z5(hr:RelG c B G s a w h g)(hC:holds s (ixC c C)){T:TypeId}{x k:Operand}{ok:Bool}{kk:TK}{es:List E}(hp:VR c g C T x k ok=some (kk,es))(hes:∀e∈es,∃z,eval s e=some z)(d:Nat):
  Has c B s w h (λp=>a.tmps[p]?) d kk (Instr.lookup T (a.eval x) (a.eval k) ok):=by
 unfold VR at hp;split at hp
 ·rename_i kt el hT;simp only[Z4t,Z4w,Z4C]at hp;obtain⟨kc,hkc,z,hz,ea,ha,eb,hb,rfl,rfl⟩:=hp;obtain⟨u,hu,hur⟩:=Xf hr hC ha;obtain⟨v,hv,hvr⟩:=Xf hr hC hb;obtain⟨y,hy⟩:=hes _ (List.Mem.head _);have hy0:=hy;simp only[eval,hu,hv,Z4E]at hy;obtain⟨zv,hzr,hzrd⟩:=IT hz;have hkd:=ym hkc;generalize hav:a.eval x=av at hur;cases hur with
  |nomp=>
   obtain⟨hik,r,hf,hres⟩:=KK (w2:=w) (G'':=h.ext ea.2) hy hvr hzrd (l:=[]) rfl rfl (λi c hi=>Z43) (λi c hi=>Z43);refine⟨_,?_,y,hy0,hres⟩;have hck:=Z7O (w:=w) hkd (QR hik hvr);have hfk:=Z7E (w:=w) hkd hf;cases r with
   |none=>simp_all[Instr.lookup,Z5e,Result.andThen]
   |some p=>simp_all[Instr.lookup,Z5e,Result.andThen]
  |mp id ks xs b clk es h0 h1 h2 h3 h4 h5 h6=>
   obtain⟨hik,r,hf,hres⟩:=KK (w2:=w) (G'':=h.ext ea.2) hy hvr hzrd (l:=es.toList) Z0 Z0 (λi c hi=>Z3M) (λi c hi=>Z3M);refine⟨_,?_,y,hy0,hres⟩;have hck:=Z7O (w:=w) hkd (QR hik hvr);have hfk:=Z7E (w:=w) hkd hf;cases r with
   |none=>simp[Instr.lookup,Z5e hT,Z66 h2,hck,hfk,hzr,Result.andThen]
   |some p=>simp[Instr.lookup,Z5e hT,Z66 h2,hck,hfk,hzr,Result.andThen]
  |_=>simp[lkV]at hy
 ·cases hp
theorem qg{T:TypeId}{x k:Operand}{ok:Bool}{e:E}{sh:List Nat}{es:List E}(hp:VR c g C T x k ok=some (.val e sh,es)):es=[e]:=by
 unfold VR at hp;split at hp
 ·simp only[Z4t,Z4w,Z4C,TK.val.injEq]at hp
  grind
 ·cases hp
theorem qh(hr:RelG c B G s a w h g)(hC:holds s (ixC c C)){T:TypeId}{x k:Operand}{ok:Bool}{kk:TK}{es:List E}(hp:LZ c g C T x k ok=some (kk,es))(hes:∀e∈es,∃z,eval s e=some z)(d:Nat):
  Has c B s w h (λp=>a.tmps[p]?) d kk (Instr.lookup T (a.eval x) (a.eval k) ok):=by
 simp only[LZ,Z4t]at hp;obtain⟨⟨k0,es0⟩,hp0,hp⟩:=hp;simp only at hp;split at hp
 ·rename_i e sh;simp only[Z4s,Z4C]at hp;obtain⟨rfl,rfl⟩:=hp;have h0:=qg hp0;subst h0;have hy:=hes _ (List.Mem.head _)
  have hye:∃z,eval s e=some z:=by
   obtain⟨z,hz⟩:=hy;unfold flE at hz;split at hz
   ·simp_all
   ·split at hz
    ·simp only[eval,Z4t]at hz;obtain⟨u,hu,_⟩:=hz;exact⟨u,hu⟩
    ·simp_all
  obtain⟨v,hv,x0,hx0,hrd⟩:=z5 hr hC hp0 Z3M d;obtain⟨z,hz,hzr⟩:=QA (b:=(e,sh)) (fl:=(!ok&&M5 c.P T)) hx0 hrd hy;exact⟨v,hv,z,hz,hzr⟩
 ·cases hp
theorem G8{x z:V}(hz:yK x=some z){G':Nat->Prop}{v:Value}(hv:Rd w G' x v){T ty k e:TypeId}(hT:c.P.underlying T=some (.map k e)):
  ∃r,(Builtin.len_ #[T] ty #[v]).run c.P w=.ok r w/\Rd w h.F z r:=by
 cases hv with
 |nomp=>
  simp only[yK,Z4s]at hz;subst hz;exact⟨.int .i64 0,by simp[Builtin.len_,Z5e hT,goInt],.int _ _⟩
 |mp id ks xs b clk es h0 h1 h2 h3 h4 h5 h6=>
  simp only[yK,Z4s]at hz;subst hz;exact⟨.int .i64 es.size,by simp[Builtin.len_,Z5e hT,Z66 h2,goInt,Result.andThen],by rw[h3];exact .int _ _⟩
 |_=>simp[yK]at hz
theorem Z0h(hr:RelG c B G s a w h g)(hC:holds s (ixC c C)){o:Oper}{k:TK}{es:List E}(hp:pk c g C o=some (k,es))(hes:∀e∈es,∃z,eval s e=some z)(d:Nat)(hd:o.dst=some d):PRun c B G s a w h o d k:=by
 have hok:=hr.ok;obtain⟨dst,op,type,pos,after,guard⟩:=o;simp only at hd;unfold pk at hp;simp only at hp;split at hp
 ·exact⟨_,w,rfl,PRes.here hok (CN hr hC hp d)⟩
 ·rename_i x;obtain⟨v,h1,h2⟩:=JZ hr hC hp hes {dst,op:=.nilCheck x,type,pos,after,guard} rfl d;exact⟨v,w,h1,PRes.here hok h2⟩
 ·exact⟨_,w,rfl,PRes.here hok (qf hr hC hp hes d)⟩
 ·exact PRun.of rfl (A3 hok hp _ d)
 ·exact PRun.of rfl (FE hr hC hp hes _ d)
 ·exact Has.pr hok rfl (FD hr hC hp hes d)
 ·simp only[pkUn,Z4w,Z4C]at hp;obtain⟨ea,ha,rfl,rfl⟩:=hp;obtain⟨u,hu,hur⟩:=UA hr hC ha;obtain⟨z,hz⟩:=hes _ (List.Mem.head _);have hz0:=hz;simp only[eval,hu,Z4E]at hz;exact Has.pr hok rfl (CO (x:=u) hz0 (SL (O6 hz hur) []) _)
 ·rename_i src dst' x;unfold Mn at hp;split at hp
  grind
  ·rename_i hsrc;split at hp
   ·rename_i kk hdst;simp only[Z4w,Z4C]at hp;obtain⟨ea,ha,rfl,rfl⟩:=hp;obtain⟨u,hu,hur⟩:=UA hr hC ha;obtain⟨z,hz⟩:=hes _ (List.Mem.head _);have hz0:=hz;simp only[eval,hu,Z4E]at hz;exact Has.pr hok rfl (CO (x:=u) hz0 (SL (G5 hz hur (by cases hh:c.P.underlying src<;>simp_all) hdst) []) _)
   grind
 ·rename_i x i;simp only[Z0f,Z4w,Z4C]at hp;obtain⟨ea,ha,rfl,rfl⟩:=hp;obtain⟨u,hu,hur⟩:=UA hr hC ha;obtain⟨z,hz⟩:=hes _ (List.Mem.head _)
  have he:∃q,eval s (.ext ea.1 i)=some q:=by
   unfold flE at hz;split at hz
   ·simp_all
   ·split at hz
    ·simp only[eval,hu,Z4E]at hz⊢;cases hq:extV u i with
     |none=>simp_all
     |some q=>simp
    ·simp_all
  obtain⟨q,hq⟩:=he;have hq0:=hq;simp only[eval,hu,Z4E]at hq;obtain⟨r,hr1,hr2⟩:=Iu (c:=c) (w:=w) hq hur;obtain⟨z',hz',hrz⟩:=QA (h:=h) (fl:=Xu c.P type) (b:=(.ext ea.1 i,ea.2)) hq0 hr2 ⟨z,hz⟩;exact Has.pr hok rfl ⟨r,hr1,z',hz',hrz⟩
 ·exact Has.pr hok rfl (CL hr hC hp hes d)
 ·exact Has.pr hok rfl (A5 hr hC hp hes d)
 ·exact Has.pr hok rfl (Jb hr hC hp hes d)
 ·exact Has.pr hok rfl (FG hr hC hp hes d)
 ·exact Has.pr hok rfl (A7 hr hC hp hes d)
 ·exact Has.pr hok rfl (A9 hr hC hp hes d)
 ·
  rename_i T parts;unfold FF at hp
  ·simp only[Z4t]at hp;obtain⟨fs,hT,zs,hz,b,hb,hp⟩:=hp;split at hp
   ·rename_i hempty;have hts:b.2.2=[]:=by simpa using hempty
    have hev:∃z,eval s (.ag (b.1.map (·.2)))=some z:=by
     split at hp<;>(simp only[Z4s,Z4C]at hp;obtain⟨_,rfl⟩:=hp;exact hes _ (List.Mem.head _))
    obtain⟨z,hz1⟩:=hev;have hz1':=hz1;simp only[eval,Z4w]at hz1';obtain⟨xs,hxs,hxz⟩:=hz1';obtain⟨hl,hx⟩:=Yz hxs;have hl':xs.length=b.1.length:=Z3L
    obtain⟨vs,hrun,hsz,howns,hcell⟩:=KX hr hC hT hz hb (λck hck=>by
     obtain⟨i,hi⟩:=Z4V hck;obtain⟨x,_,he⟩:=hx i ck.2 Z3M;simp_all)
    rw[hts]at howns hcell;refine Has.pr hok rfl ⟨.agg vs,hrun,?_⟩
    have hx2:∀(i:Nat) (x:V),xs[i]?=some x->x.one=true/\Rd w (h.ext b.2.1) x (vs.getD i undef):=by
     intro i x hi;have hlt:i<b.1.length:=Z3Z;obtain⟨y,hy,hye⟩:=hx i (b.1[i]).2 Z3M;rw[hi]at hy;cases hy;have hc:=hcell i b.1[i] (Z4u hlt);unfold BRel at hc;split at hc
     ·simp_all
     ·obtain⟨e1,e2⟩:=hc;rw[hye]at e2;cases e2;rw[e1];exact⟨rfl,.nil _ _ (Z5H _)⟩
     ·simp_all
     ·grind
    have hone:∀x∈xs,x.one=true:=λx hxm=>by
     grind [List.getElem?_of_mem]
    have hzx:z=.agg xs:=by rw[<-hxz];simp only[agV,YG hone]
    split at hp
    ·rename_i hfz;simp only[Z4x,Z76]at hfz;simp only[Z4s,Z4C]at hp;obtain⟨rfl,rfl⟩:=hp;refine⟨vs,rfl,hsz,λi ck hi=> ?_⟩;have hc:=hcell i ck hi;unfold BRel at hc;obtain⟨kk,e⟩:=ck;cases kk with
     |own ty=>simp_all
     |nil=>exact hc
     |fz=>
      obtain⟨x,e1,e2,e3⟩:=hc;rw[hfz.1]at e3;exact⟨x,e1,e2,e3.F⟩
     |dead=>grind
    ·simp only[Z4s,Z4C]at hp;obtain⟨rfl,rfl⟩:=hp;refine⟨z,hz1,?_⟩;rw[hzx];exact .agg xs vs Z0 hone λi x hi=>(hx2 i x hi).2
   grind
 ·exact PRun.of rfl (RE hr hC hp hes _ d hd)
 ·exact PRun.of rfl (CM hr hC hp hes _ d hd)
 ·exact Has.pr hok rfl (JY hr hC hp d)
 ·exact PRun.of rfl (z6 hok hp _ d)
 ·exact Has.pr hok rfl (qh hr hC hp hes d)
 ·
  rename_i args argTypes;split at hp
  ·rename_i x T hx hT;have hargs:args=#[x]:=Z5L.1 Z0;have htys:argTypes=#[T]:=Z5L.1 Z0;subst hargs htys
   have hex:execOp a.eval {dst,op:=.call {callee:=.builtin .len,args:=#[x],argTypes:=#[T]},type,pos,after,guard}=(do pure (.value (<-Builtin.len_ #[T] type #[a.eval x]))):=by
    simp[execOp,resolve,invoke,builtin]
   unfold Z0g at hp;split at hp
   ·rename_i e hT';simp only[Z4w,Z4C]at hp;obtain⟨ea,ha,rfl,rfl⟩:=hp;obtain⟨u,hu,hur⟩:=UA hr hC ha;obtain⟨z,hz⟩:=hes _ (List.Mem.head _);have hz0:=hz;simp only[eval,hu,Z4E]at hz;exact Has.pr hok hex (CO (x:=u) hz0 (SL (Iv hz hur hT') []) _)
   ·rename_i n e hT';simp only[Z4s,Z4C]at hp;obtain⟨rfl,rfl⟩:=hp;refine Has.pr hok hex ⟨.int .i64 n,?_,_,rfl,.int _ _⟩;simp[Builtin.len_,Z5e hT',goInt]
   ·rename_i k e hT';simp only[Z4w,Z4C]at hp;obtain⟨ea,ha,rfl,rfl⟩:=hp;obtain⟨u,hu,hur⟩:=UA hr hC ha;obtain⟨z,hz⟩:=hes _ (List.Mem.head _);have hz0:=hz;simp only[eval,hu,Z4E]at hz;exact Has.pr hok hex (CO (x:=u) hz0 (SL (G8 hz hur hT') []) _)
   grind
  grind
 ·rename_i args _;split at hp
  ·rename_i x y hx;have hargs:args=#[x,y]:=Z5L.1 Z0;subst hargs;simp only[pkMM,Z4G,Z5h,Z4t,Z4w,Z4C]at hp;obtain⟨ea,ha,eb,hb,rfl,rfl⟩:=hp;obtain⟨u,hu,hur⟩:=UA hr hC ha;obtain⟨v,hv,hvr⟩:=UA hr hC hb;obtain⟨z,hz⟩:=hes _ (List.Mem.head _);have hz0:=hz;simp only[eval,hu,hv,Z4E]at hz;exact Has.pr hok (by simp[execOp,resolve,invoke,builtin];rfl) (CO (x:=u) hz0 (SL (Ix hz hur hvr _ type) []) _)
  grind
 ·rename_i args _;split at hp
  ·rename_i x y hx;have hargs:args=#[x,y]:=Z5L.1 Z0;subst hargs;simp only[pkMM,Z5b,Z4t,Z4w,Z4C]at hp;obtain⟨ea,ha,eb,hb,rfl,rfl⟩:=hp;obtain⟨u,hu,hur⟩:=UA hr hC ha;obtain⟨v,hv,hvr⟩:=UA hr hC hb;obtain⟨z,hz⟩:=hes _ (List.Mem.head _);have hz0:=hz;simp only[eval,hu,hv,Z4E]at hz;exact Has.pr hok (by simp[execOp,resolve,invoke,builtin];rfl) (CO (x:=u) hz0 (SL (Iw hz hur hvr _ type) []) _)
  grind
 ·rename_i args argTypes;split at hp
  ·rename_i x y T U hx hT;have hargs:args=#[x,y]:=Z5L.1 Z0;have htys:argTypes=#[T,U]:=Z5L.1 Z0;subst hargs htys;exact PRun.of (by simp[execOp,resolve,invoke,builtin]) (qe (ty:=type) hr hC hp hes _ d hd)
  grind
 grind
end
end Vm
namespace Vm
open Go
open Go.RowKit (Below)
theorem Sd:∀ {g:Gam} {t:Nat},t∉Zw g->g.at t=([],.no)
 | [],t,_=>rfl
 | (u,x)::g,t,ht=>by
   simp only[Zw,Z4T,Z4H,not_or]at ht;simp only[Gam.at];rw[if_neg (λe=>ht.1 e.symm)];exact Sd ht.2
theorem AJ:∀ {g:Gam} {t:Nat},t∈Zw g->(t,g.at t)∈g
 | [],t,ht=>by simp[Zw]at ht
 | (u,x)::g,t,ht=>by
   simp only[Gam.at];by_cases hu:u=t
   ·subst hu;simp
   ·rw[if_neg hu]
    have:t∈Zw g:=by
     simp only[Zw,Z4T,Z4H]at ht;exact ht.resolve_left λe=>hu e.symm
    exact Z53 _ (AJ this)
theorem Y3:∀(a b:Gam) (t:Nat),(a++b).at t=if t∈Zw a then a.at t else b.at t
 | [],b,t=>Z4r
 | (u,x)::a,b,t=>by
   simp only[Z5M,Gam.at];by_cases hu:u=t
   ·grind [Zw]
   ·rw[if_neg hu,if_neg hu,Y3 a b t]
    grind [Zw,List.map]
theorem RS{ps rb fz:List Nat}{g:Gam}{t:Nat}(ht:t∈Zw (Wc ps rb fz g)):(Wc ps rb fz g).at t=([],.no):=by
 grind [AJ,Wc,Option.some.injEq,Prod.mk.injEq]
theorem ET{ps rb fz:List Nat}{g:Gam}{t:Nat}(ht:t∉Zw (Wc ps rb fz g)){x:Zg×TK}(hx:(t,x)∈g):calm ps rb fz x.2=true:=by
 by_cases hc:calm ps rb fz x.2=true
 ·exact hc
 ·exfalso;apply ht;simp only[Zw,Wc,Z4I,Z7i];exact⟨(t,[],.no),⟨(t,x),hx,by simp[hc]⟩,rfl⟩
theorem j9(ps rb fz:List Nat):calm ps rb fz .no=true:=by simp[calm,XB,leads,Sw]
theorem KG{ps rb fz:List Nat}{g:Gam}{t:Nat}(ht:t∉Zw (Wc ps rb fz g)):calm ps rb fz (g.at t).2=true:=by
 grind [Zw,ET,AJ,Sd,j9]
theorem WX{fz:List Nat}{g:Gam}:Zw (Xj fz g)=fz:=by
 simp only[Zw,Xj,Z6F]
 conv=>rhs;rw[<-List.map_id fz]
 rfl
theorem U9:∀ {fz:List Nat} {g:Gam} {t:Nat},t∈fz->(Xj fz g).at t=((g.at t).1,UP (g.at t).2)
 | [],g,t,ht=>by simp at ht
 |p::fz,g,t,ht=>by
  simp only[Xj,Z4T,Gam.at];by_cases hp:p=t
  ·grind
  ·rw[if_neg hp];exact U9 ((Z4H.1 ht).resolve_left λe=>hp e.symm)
def GH.thaw(h:GH)(fz:List Nat):GH:= {F:=λb=>h.F b\/∃p∈fz,∃i,h.bl p (i+1)=some b,bl:=λp i=>if p∈fz/\i≠0 then none else h.bl p i,K:=h.K}
section
variable {c:Ctx}{B:Nat}{G:Nat->Prop}{s:St}{a:Act}{w w':World}{h h':GH}{g:Gam}{C:Zg}{fz:List Nat}
theorem U4(hok:Ok B G w h)(fz:List Nat):Ok B G w (h.thaw fz)/\Step B [] [] fz w w h (h.thaw fz):=by
 refine⟨⟨hok.base,λb hb=> ?_,λb hb=> ?_,λb hb=>.inl (hok.g_F b hb),λt i b hb=> ?_,λt i u j b hb hb'=> ?_,hok.k_lt,λt i b hb=> ?_,λb hb=> ?_⟩,
  Z5i _ _,λb hb _=>rfl,λb hb=>.inl hb,λt _ ht=> ?_,λt _=> ?_,λt i b _ ht hb=>.inr ⟨t,ht,i,hb⟩,rfl⟩
 ·obtain hb|⟨p,_,i,hi⟩:=hb
  ·exact hok.f_lt b hb
  ·exact(hok.b_lt p (i+1) b hi).2.1
 ·obtain hb|⟨p,_,i,hi⟩:=hb
  ·exact hok.f_or b hb
  ·exact .inr (hok.b_lt p (i+1) b hi).1
 ·simp only[GH.thaw]at hb;split at hb
  ·cases hb
  ·rename_i hn;obtain⟨h1,h2,h3⟩:=hok.b_lt t i b hb;refine⟨h1,h2,λhF=> ?_⟩;obtain hF|⟨p,hp,j,hj⟩:=hF
   ·exact h3 hF
   ·obtain⟨rfl,rfl⟩:=hok.inj t i p (j+1) b hb hj;simp_all
 ·simp only[GH.thaw]at hb hb';split at hb<;>split at hb'<;>first|(cases hb;done)|(cases hb';done)|exact hok.inj t i u j b hb hb'
 ·simp only[GH.thaw]at hb;split at hb
  ·cases hb
  ·exact hok.k_bl t i b hb
 ·obtain hb|⟨p,_,i,hi⟩:=hb
  ·exact hok.k_F b hb
  ·exact .inr (hok.k_bl p (i+1) b hi)
 ·simp_all[GH.thaw]
 ·simp[GH.thaw]
theorem zj{sh:List Nat}(hsub:∀p∈sh,p∈fz):∀b,h.ext sh b->(h.thaw fz).F b:=by
 intro b hb;obtain hb|⟨p,hp,i,hi⟩:=hb
 ·exact .inl hb
 ·exact .inr ⟨p,hsub p hp,i,hi⟩
theorem OwnV.one{P:Program}{o:Option Nat}{ty:TypeId}{x:V}{v:Value}(hv:OwnV P B w h o ty x v):x.one=true:=by
 obtain⟨l,xs,rfl,_⟩|⟨_,_,_,_,_,_,rfl,_⟩:=hv<;>rfl
theorem RelC.freeze{P:Program}{o:Option Nat}{k:CK}{e:E}{v:Value}(hr:RelC P B s w h o k e v)(hF:Same h.F w w')(hFF:∀b,h.F b->h'.F b)(ho:∀b,o=some b->w'.heap[b]?=w.heap[b]?)(hoF:∀b,o=some b->h'.F b)(o':Option Nat):
  RelC P B s w' h' o' (i7 k) e v:=by
 cases k with
 |fz=>obtain⟨x,h0,h1,h2⟩:=hr;exact⟨x,h0,h1,h2.keep hF hFF⟩
 |own ty=>
  obtain⟨x,h0,h1⟩:=hr;have h2:=h1.keep (h':=h') hF hFF ho;exact⟨x,h0,h2.one,h2.rd (λb hb=>hb) hoF⟩
 |nil=>exact hr
 |dead=>exact hr
theorem RelK.freeze{tm tm':Nat->Option Value}{t:Nat}{v:Value}{k:TK}{ps rb:List Nat}(hk:RelK c.P B s w h tm t v k)(hs:Step B ps rb fz w w' h h')(hok:Ok B G w h)(hrb:∀t∈rb,t∈ps)
  (ht:t∉ps) (htf:t∈fz) (hcalm:calm ps rb fz k=true) (htm:∀p,p∉ps->tm' p=tm p):RelK c.P B s w' h' tm' t v (UP k):=by
 have hF:Same h.F w w':=λb hb=>hs.F_same hok hb;cases hkk:k.owning with
 |false=>
  have:=hk.keep hs hok hrb ht (λ_=>hkk) hcalm htm;cases k<;>first|exact this|simp[TK.owning]at hkk
 |true=>
  cases k<;>first|(simp[TK.owning]at hkk;done)|skip
  ·rename_i ty e;obtain⟨x,h0,h1⟩:=hk;have h2:=h1.keep (h':=h') hF hs.F λb hb=>hs.bl_same hok ht hb;exact⟨x,h0,h2.rd (λb hb=>GH.ext_F hb) λb hb=>GH.ext_F (hs.fzF t 0 b ht htf hb)⟩
  ·rename_i cs;obtain⟨b,vs,T,h1,h2,h3,h4,h5⟩:=hk;refine⟨b,vs,T,by rw[hs.fz0 t (λhr=>ht (hrb t hr))];exact h1,h2,by rw[hs.bl_same hok ht h1];exact h3,by simpa using h4,λi ck hi=> ?_⟩;simp only[Z4M,Z4w]at hi;obtain⟨ck',hi',rfl⟩:=hi;exact(h5 i ck' hi').freeze hF hs.F (λb hb=>hs.bl_same hok ht hb) (λb hb=>hs.fzF t i b ht htf hb) _
  ·rename_i cs;obtain⟨vs,rfl,h4⟩:=hk;simp only[UP];split
   ·trivial
   ·rename_i hd;obtain⟨x,hx,_,hrd⟩:=h4.rd (G':=λb=>h.F b\/∃i,h.bl t (i+1)=some b) (by simpa using hd) (λb hb=>.inl hb) (λ_ i b hb=>.inr ⟨i,hb⟩);refine⟨_,hx,hrd.keep (λb hb=> ?_) λb hb=> ?_⟩
    ·obtain hb|⟨i,hi⟩:=hb
     ·exact hF b hb
     ·exact hs.bl_same hok ht hi
    ·obtain hb|⟨i,hi⟩:=hb
     ·exact GH.ext_F (hs.F b hb)
     ·exact GH.ext_F (hs.fzF t i b ht htf hi)
theorem RelG.step{a':Act}{ps rb:List Nat}{d:Gam}(hr:RelG c B G s a w h g)(hs:Step B ps rb fz w w' h h')(hok':Ok B G w' h')(hrb:∀t∈rb,t∈ps)(htm:∀p,p∉ps->a'.tmps[p]?=a.tmps[p]?)
  (hps:∀t∈ps,t∈Zw d)
  (hd:∀t∈Zw d,(holds s (ixC c (d.at t).1)->(d.at t).2.isNo=false->∃v,a'.tmps[t]?=some v/\RelK c.P B s w' h' (λp=>a'.tmps[p]?) t v (d.at t).2)/\(¬holds s (ixC c (d.at t).1)->a'.tmps.getD t undef=undef)):
  RelG c B G s a' w' h' (d++Wc ps rb fz g++Xj fz g++g):=by
 have key:∀t,(holds s (ixC c ((d++Wc ps rb fz g++Xj fz g++g).at t).1)->((d++Wc ps rb fz g++Xj fz g++g).at t).2.isNo=false->∃v,a'.tmps[t]?=some v/\RelK c.P B s w' h' (λp=>a'.tmps[p]?) t v ((d++Wc ps rb fz g++Xj fz g++g).at t).2)/\
   (¬holds s (ixC c ((d++Wc ps rb fz g++Xj fz g++g).at t).1)->a'.tmps.getD t undef=undef):=by
  intro t;rw[Y3,Y3,Y3];simp only[Zw,Z5F,Z4R];by_cases h1:t∈Zw d
  ·have h1':t∈List.map (·.1) d:=h1;simp_all
  ·have h1':t∉List.map (·.1) d:=h1;by_cases h2:t∈Zw (Wc ps rb fz g)
   ·have h2':t∈List.map (·.1) (Wc ps rb fz g):=h2;simp only[h1',h2',false_or,true_or,Z5b,Z5h,RS h2];simp_all[TK.isNo,absurd,Y5,ixC]
   ·have h2':t∉List.map (·.1) (Wc ps rb fz g):=h2;have hc:=KG h2;have htp:t∉ps:=λhp=>h1 (hps t hp);by_cases h3:t∈fz
    ·have h3':t∈List.map (·.1) (Xj fz g):=by have:=WX (fz:=fz) (g:=g);unfold Zw at this;rw[this];exact h3
     simp only[h1',h2',h3',false_or,Z5b,Z5h,U9 h3];refine⟨λhC hn=> ?_,λhn=> ?_⟩
     ·have hn':(g.at t).2.isNo=false:=by
       cases hk:(g.at t).2<;>first|rfl|simp_all[UP,TK.isNo]
      obtain⟨v,hv,hk⟩:=hr.at_ t hC hn';exact⟨v,Z3M,hk.freeze hs hr.ok hrb htp h3 hc htm⟩
     ·have:=hr.skip t hn;simp_all
    ·have h3':t∉List.map (·.1) (Xj fz g):=by have:=WX (fz:=fz) (g:=g);unfold Zw at this;rw[this];exact h3
     simp only[h1',h2',h3',false_or,Z5h];refine⟨λhC hn=> ?_,λhn=> ?_⟩
     ·obtain⟨v,hv,hk⟩:=hr.at_ t hC hn;exact⟨v,Z3M,hk.keep hs hr.ok hrb htp (λhf=>absurd hf h3) hc htm⟩
     ·have:=hr.skip t hn;simp_all
 exact⟨hok',λt=>(key t).1,λt=>(key t).2⟩
theorem RelG.frz(hr:RelG c B G s a w h g)(fz:List Nat):RelG c B G s a w (h.thaw fz) (Vm.frz fz g):=by
 obtain⟨hok,hst⟩:=U4 hr.ok fz;have:=hr.step (d:=[]) (a':=a) hst hok (λ_ h=>h) (λ_ _=>rfl) (λt ht=>by simp at ht) (λt ht=>by simp[Zw]at ht);simpa[Vm.frz]using this
end
end Vm
namespace Vm
open Go
open Go.RowKit (Below)
def GH.put(h:GH)(d:Nat)(f:Nat->Option Nat)(r:Nat->Nat->Option Nat):GH:= {F:=h.F,bl:=λu=>if u=d then f else r u,K:=h.K}
def lost(h:GH)(ts:List Nat)(u:Nat)(i:Nat):Option Nat:=if u∈ts then none else h.bl u i
section
variable {c:Ctx}{B:Nat}{G:Nat->Prop}{s:St}{a a':Act}{w w':World}{h h':GH}{g:Gam}{C:Zg}{fz ps rb:List Nat}
theorem Ok.put(hok:Ok B G w h)(hsz:w.heap.size<=w'.heap.size){d:Nat}{f:Nat->Option Nat}{r:Nat->Nat->Option Nat}
  (hr:∀u i b,u≠d->r u i=some b->h.bl u i=some b) (hf:∀i b,f i=some b->(w.heap.size<=b/\b<w'.heap.size)\/∃t j,h.bl t j=some b)
  (hinj:∀i j b,f i=some b->f j=some b->i=j) (hdis:∀i b u j,u≠d->f i=some b->r u j=some b->False):Ok B G w' (h.put d f r):=by
 refine⟨Z4Z hok.base hsz,λb hb=>Z4F (hok.f_lt b hb) hsz,hok.f_or,hok.g_F,λt i b hb=> ?_,λt i u j b hb hb'=> ?_,λb hb=>Z4F (hok.k_lt b hb) hsz,λt i b hb hK=> ?_,hok.k_F⟩
 ·simp only[GH.put]at hb
  have old:∀t j,h.bl t j=some b->B<=b/\b<w'.heap.size/\¬h.F b:=λt j hj=>by
   obtain⟨h1,h2,h3⟩:=hok.b_lt t j b hj
   grind
  split at hb
  ·obtain⟨h1,h2⟩|⟨t,j,hj⟩:=hf i b hb
   ·exact⟨Z4Z hok.base h1,h2,λhF=>by have:=hok.f_lt _ hF;omega⟩
   ·exact old t j hj
  ·rename_i hne;exact old t i (hr t i b hne hb)
 ·simp only[GH.put]at hb hb';split at hb<;>split at hb'
  ·grind
  ·grind
  ·grind
  ·rename_i e1 e2;exact hok.inj t i u j b (hr t i b e1 hb) (hr u j b e2 hb')
 ·simp only[GH.put]at hb;split at hb
  ·obtain⟨h1,h2⟩|⟨t,j,hj⟩:=hf i b hb
   ·have:=hok.k_lt _ hK;omega
   ·exact hok.k_bl t j b hj hK
  ·rename_i hne;exact hok.k_bl t i b (hr t i b hne hb) hK
theorem ZQ{ts:List Nat}{u i b:Nat}(hl:lost h ts u i=some b):h.bl u i=some b/\u∉ts:=by
 simp_all[lost]
theorem Bi{ts:List Nat}{u:Nat}(hu:u∉ts):lost h ts u=h.bl u:=by
 grind [lost]
theorem XG(hb:Below B w w')(hsame:∀b,b<w.heap.size->(∀p∈ps,∀i,h.bl p i≠some b)->w'.heap[b]?=w.heap[b]?){d:Nat}{f:Nat->Option Nat}{ts:List Nat}
  (hd:d∈ps) (hts:∀t∈ts,t∈ps/\t∈rb) (h0:d∉rb->f 0=h.bl d 0):Step B ps rb [] w w' h (h.put d f (lost h ts)):=by
 refine⟨hb,hsame,λ_ hb=>hb,λt ht _=> ?_,λt ht=> ?_,λ_ _ _ _ hm=>Z4o,rfl⟩
 ·have h1:t≠d:=λe=>ht (e▸hd);simp only[GH.put,if_neg h1]
  grind [Bi]
 ·simp only[GH.put];split
  ·simp_all
  ·rw[Bi λe=>ht (hts t e).2]
theorem Step.after(h2:Step B ps rb [] w w' (h.thaw fz) h'):Step B ps rb fz w w' h h':=by
 have hbl:∀p i b,(h.thaw fz).bl p i=some b->h.bl p i=some b:=by
  intro p i b hb;simp only[GH.thaw]at hb;split at hb
  ·cases hb
  ·exact hb
 refine⟨h2.below,λb hb hn=>h2.same b hb λp hp i hi=>hn p hp i (hbl p i b hi),λb hb=>h2.F b (.inl hb),λt ht htf=> ?_,λt ht=> ?_,λt i b _ htf hb=>h2.F b (.inr ⟨t,htf,i,hb⟩),h2.K⟩
 ·rw[h2.bl t ht Z1]
  grind [GH.thaw]
 ·rw[h2.fz0 t ht];simp[GH.thaw]
structure MPost (c:Ctx) (B:Nat) (G:Nat->Prop) (s:St) (a':Act) (w w':World) (h h':GH) (m:MS):Prop where
 step:Step B m.ps m.rb m.fz w w' h h'
 ok:Ok B G w' h'
 ent:∀t∈Zw m.d,(m.d.at t).1=[]/\((m.d.at t).2.isNo=false->∃u,a'.tmps[t]?=some u/\RelK c.P B s w' h' (λp=>a'.tmps[p]?) t u (m.d.at t).2)
theorem Yf{d:Nat}{k:TK}{ts:List Nat}(hd:∃u,a'.tmps[d]?=some u/\RelK c.P B s w' h' (λp=>a'.tmps[p]?) d u k):
  ∀t∈Zw ((d,[],k)::ts.map λt=>(t,([]:Zg),TK.no)),(Gam.at ((d,[],k)::ts.map λt=>(t,([]:Zg),TK.no)) t).1=[]/\
   ((Gam.at ((d,[],k)::ts.map λt=>(t,([]:Zg),TK.no)) t).2.isNo=false->∃u,a'.tmps[t]?=some u/\RelK c.P B s w' h' (λp=>a'.tmps[p]?) t u (Gam.at ((d,[],k)::ts.map λt=>(t,([]:Zg),TK.no)) t).2):=by
 intro t ht;simp only[Gam.at];by_cases hdt:d=t
 ·simp_all
 ·rw[if_neg hdt]
  have:∀(ts:List Nat),Gam.at (ts.map λt=>(t,([]:Zg),TK.no)) t=([],.no):=by
   intro ts
   induction ts with
   |nil=>rfl
   |cons u ts ih=>simp_all[Z4T,Gam.at,ite_self]
  rw[this];exact⟨rfl,λhn=>by simp[TK.isNo]at hn⟩
theorem Wh{d:Nat}(hd:d<a.tmps.size)(v:Value):(a.put (some d) v).tmps[d]?=some v:=by
 simp[Act.put,hd]
theorem Je{d t:Nat}(hd:t≠d)(v:Value):(a.put (some d) v).tmps[t]?=a.tmps[t]? :=by
 simp[Act.put,Z5q (Z6K hd)]
theorem Zb(s:St)(c:Ctx):holds s (ixC c []):=Y5 s
theorem Nq(hr:RelG c B G s a w h g){fl:Bool}{x:Operand}{b:E×List Nat}(hk:yn g fl x=some b){z:V}(hz:eval s b.1=some z):Rd w (h.thaw b.2).F z (a.eval x):=by
 simp only[yn,Z4w]at hk;obtain⟨a0,ha,rfl⟩:=hk;obtain⟨y,hy,hyr⟩:=UA hr (Zb s c) ha;obtain⟨z',hz',hzr⟩:=QA (fl:=fl) (b:=a0) hy hyr ⟨z,hz⟩;rw[hz]at hz';cases hz';exact hzr.mono (zj λp hp=>hp)
theorem Nr(hr:RelG c B G s a w h g){fl ag:Bool}{n:Nat}{x:Operand}{b:E×List Nat}(hk:yn g fl x=some b){z:V}(hz:eval s (tyE ag n b.1)=some z):
  (∀l,z≠.tup l)/\(ag=true->z.cells.length=n)/\(ag=false->z.one=true)/\Rd w (h.thaw b.2).F z (a.eval x):=by
 grind [Q7,Nq]
theorem OwnV.mono{P:Program}{o o':Option Nat}{ty:TypeId}{x:V}{v:Value}(hv:OwnV P B w h o ty x v)(hF:∀b,h.F b->h'.F b)(ho:o=o'):OwnV P B w h' o' ty x v:=by
 subst ho;exact hv.keep (.refl _ _) hF λ_ _=>rfl
theorem B9(hr:RelG c B G s a w h g){ty:TypeId}{d t:Nat}{e:E}{v:Value}(hd:d<a.tmps.size)(htd:t≠d){y:V}(hy:eval s e=some y)(hown:OwnV c.P B w h (h.bl t 1) ty y v):
  ∃h',MPost c B G s (a.put (some d) v) w w h h' {d:=[(d,[],.own ty e),(t,[],.no)],ps:=[d,t],rb:=[d,t],fz:=[],es:=[]}:=by
 refine⟨h.put d (λi=>if i=1 then h.bl t 1 else none) (lost h [t]),XG (Z5i _ _) (λ_ _ _=>rfl) Z1 (λu hu=>by simp at hu;grind) (λhn=>by simp at hn),
  hr.ok.put (Z4A _) (λu i b _ hb=>(ZQ hb).1) (λi b hb=> ?_) (λi j b hi hj=> ?_) (λi b u j hu hi hj=> ?_),Yf (ts:=[t]) ⟨v,Wh hd v,y,hy,?_⟩⟩
 ·grind
 ·simp_all
 ·split at hi
  ·obtain⟨h1,h2⟩:=ZQ hj;exact h2 (by simp[(hr.ok.inj t 1 u j b hi h1).1])
  ·cases hi
 ·exact hown.mono (λ_ hb=>hb) (by simp[GH.put])
theorem HU(hr:RelG c B G s a w h g){d t:Nat}{cs:List (CK×E)}{v:Value}(hd:d<a.tmps.size)(htd:t≠d)(hk:RelK c.P B s w h (λp=>a.tmps[p]?) t v (.mem cs)):
  ∃h',MPost c B G s (a.put (some d) v) w w h h' {d:=[(d,[],.mem cs),(t,[],.no)],ps:=[d,t],rb:=[d,t],fz:=[],es:=[]}:=by
 obtain⟨b,vs,T,h1,rfl,h2,h3,h4⟩:=hk
 refine⟨h.put d (λi=>h.bl t i) (lost h [t]),XG (Z5i _ _) (λ_ _ _=>rfl) Z1 (λu hu=>by simp at hu;grind) (λhn=>by simp at hn),
  hr.ok.put (Z4A _) (λu i b _ hb=>(ZQ hb).1) (λi b hb=>.inr ⟨t,i,hb⟩) (λi j b hi hj=>(hr.ok.inj t i t j b hi hj).2) (λi b u j hu hi hj=> ?_),Yf (ts:=[t]) ⟨_,Wh hd _,b,vs,T,by simp[GH.put,h1],rfl,h2,h3,λi ck hi=> ?_⟩⟩
 ·obtain⟨h5,h6⟩:=ZQ hj;exact h6 (by simp[(hr.ok.inj t i u j b hi h5).1])
 ·have:=(h4 i ck hi).keep (h':=h.put d (λi=>h.bl t i) (lost h [t])) (w':=w) (.refl _ _) (λ_ hb=>hb) λ_ _=>rfl;simp_all[GH.put]
def GH.yield(h:GH)(d p:Nat):GH:= {F:=λb=>h.F b\/∃i,h.bl p i=some b,bl:=λu i=>if u=p\/u=d then none else h.bl u i,K:=h.K}
theorem Hh(hr:RelG c B G s a w h g){d p:Nat}{cs:List (CK×E)}(hd:d<a.tmps.size)(hpd:p≠d)(hm:memOf g p=some cs)(hdd:Ye cs=false){z:V}(hz:eval s (.pt none (cs.map (·.2)))=some z){v:Value}(hv:∃b,h.bl p 0=some b/\v=.pointer (some ⟨b,0,none⟩)):
  ∃h',MPost c B G s (a.put (some d) v) w w h h' {d:=[(d,[],.val (.pt none (cs.map (·.2))) []),(p,[],.no)],ps:=[d,p],rb:=[d,p],fz:=[],es:=[.pt none (cs.map (·.2))]}:=by
 obtain⟨b,vs,T,h1,_,h2,h3⟩:=hr.memOf hm;obtain⟨b',h1',rfl⟩:=hv;rw[h1]at h1';cases h1';have hok:=hr.ok
 have hbl:∀u i x,(h.yield d p).bl u i=some x->h.bl u i=some x/\u≠p:=by
  intro u i x hx;simp only[GH.yield]at hx;split at hx
  ·cases hx
  ·simp_all
 refine⟨h.yield d p,⟨Z5i _ _,λ_ _ _=>rfl,λb hb=>.inl hb,λt ht _=> ?_,λt ht=> ?_,λ_ _ _ _ hm=>Z4o,rfl⟩,⟨hok.base,λb hb=> ?_,λb hb=> ?_,λb hb=>.inl (hok.g_F b hb),λt i b hb=> ?_,λt i u j b hb hb'=>hok.inj t i u j b (hbl _ _ _ hb).1 (hbl _ _ _ hb').1,hok.k_lt,λt i b hb=>hok.k_bl t i b (hbl _ _ _ hb).1,λb hb=> ?_⟩,
  Yf (ts:=[p]) ⟨_,Wh hd _,z,hz,QW h1 h2 h3 hdd hz (λb hb=>.inl (.inl hb)) λi b hb=>.inl (.inr ⟨i,hb⟩)⟩⟩
 ·simp_all[Z4H,Z5t,Z6u,not_or,GH.yield]
 ·simp_all[Z4H,Z5t,Z6u,not_or,GH.yield]
 ·obtain hb|⟨i,hi⟩:=hb
  ·exact hok.f_lt b hb
  ·exact(hok.b_lt p i b hi).2.1
 ·obtain hb|⟨i,hi⟩:=hb
  ·exact hok.f_or b hb
  ·exact .inr (hok.b_lt p i b hi).1
 ·obtain⟨hb1,hne⟩:=hbl _ _ _ hb;obtain⟨q1,q2,q3⟩:=hok.b_lt t i b hb1;refine⟨q1,q2,λhF=> ?_⟩;obtain hF|⟨j,hj⟩:=hF
  grind
  ·exact hne (hok.inj t i p j b hb1 hj).1
 ·obtain hb|⟨i,hi⟩:=hb
  ·exact hok.k_F b hb
  ·exact .inr (hok.k_bl p i b hi)
theorem Rc(hr:RelG c B G s a w h g){ty:TypeId}{d:Nat}{x:Operand}{m:MS}(hd:d<a.tmps.size)(hm:RT c g ty d x=some m)(hes:∀e∈m.es,∃z,eval s e=some z):
  ∃h',MPost c B G s (a.put (some d) (a.eval x)) w w h h' m:=by
 unfold RT at hm;split at hm
 ·rename_i t ty' e hk;split at hm
  ·cases hm
  ·rename_i hne;have htd:t≠d:=λe=>hne (.inl e);simp only[Z4s]at hm;subst hm;obtain⟨v,hv,⟨y,hy,hown⟩,_⟩:=hr.look (Zb s c) (show look g [] t=_ from hk) rfl
   grind [Act.eval_tmp,B9]
 ·rename_i t cs hk;split at hm
  ·cases hm
  ·rename_i hne;have htd:t≠d:=λe=>hne (.inl e);simp only[Z4s]at hm;subst hm;obtain⟨v,hv,hrel,_⟩:=hr.look (Zb s c) (show look g [] t=_ from hk) rfl
   grind [Act.eval_tmp,HU]
 ·rename_i t p hk;split at hm
  ·rename_i hcond;simp only[Z4x,Z7B,ne_eq]at hcond;simp only[Z4t]at hm;obtain⟨cs,hm1,hm⟩:=hm;split at hm
   ·cases hm
   ·rename_i hdd;simp only[Z4s]at hm;subst hm;obtain⟨z,hz⟩:=hes _ (List.Mem.head _);obtain⟨v,hv,hrel,_⟩:=hr.look (Zb s c) (show look g [] t=_ from hk) rfl;rw[Act.eval_tmp a t v hv];exact Hh hr hd hcond.2 hm1 Z3M hz hrel
  ·cases hm
 ·rename_i hk;simp only[Z4s]at hm;subst hm;rw[SF hr (Zb s c) hk]
  exact⟨h.put d (λ_=>none) (lost h []),XG (Z5i _ _) (λ_ _ _=>rfl) Z1 (λu hu=>by simp at hu) (λhn=>by simp at hn),
   hr.ok.put (Z4A _) (λu i b _ hb=>(ZQ hb).1) (λi b hb=>by cases hb) (λi j b hi hj=>by cases hi) (λi b u j hu hi hj=>by cases hi),Yf (ts:=[]) ⟨_,Wh hd _,rfl⟩⟩
 ·split at hm
  ·rename_i p ty' e hho;simp only[Z4s]at hm;subst hm;unfold B8 at hho;split at hho
   ·rename_i p' hk;split at hho
    ·rename_i hcond;simp only[Z4x,Z7B,ne_eq]at hcond;simp only[Z4w,Z4C]at hho;obtain⟨⟨q1,q2⟩,hho,rfl,rfl,rfl⟩:=hho;obtain⟨v,hv,y,hy,hown⟩:=hr.ownOf hho;have hrel:a.tmps[p']?=some (a.eval _):=ZN hr (Zb s c) hk rfl 0
     grind [Option.some.injEq,B9]
    grind
   grind
  ·simp only[Z4w]at hm;obtain⟨b,hb,rfl⟩:=hm;obtain⟨z,hz⟩:=hes b.1 Z1;have hrd:=Nq hr hb hz;obtain⟨hok1,_⟩:=U4 hr.ok b.2
   exact⟨(h.thaw b.2).put d (λ_=>none) (lost (h.thaw b.2) []),Step.after (XG (Z5i _ _) (λ_ _ _=>rfl) Z1 (λu hu=>by simp at hu) (λhn=>by simp at hn)),
    hok1.put (Z4A _) (λu i b _ hb=>(ZQ hb).1) (λi b hb=>by cases hb) (λi j b hi hj=>by cases hi) (λi b u j hu hi hj=>by cases hi),Yf (ts:=[]) ⟨_,Wh hd _,z,hz,hrd.mono λb hb=>GH.ext_F hb⟩⟩
def Xg(cur:Array Value)(o:Nat)(new:Array Value):Array Value:=(cur.toList.take o++new.toList++cur.toList.drop (o+new.size)).toArray
theorem T7{cur new:Array Value}{o:Nat}(hle:o+new.size<=cur.size):(Xg cur o new).size=cur.size:=by
 grind [Xg]
theorem Jo{cur new:Array Value}{o:Nat}(hle:o+new.size<=cur.size){i:Nat}(hi:i<new.size):(Xg cur o new).getD (o+i) undef=new.getD i undef:=by
 simp only[Xg,Z4y,Z6s]
 grind
theorem Uk{cur new:Array Value}{o:Nat}(hle:o+new.size<=cur.size){i:Nat}(hi:i<o\/o+new.size<=i):(Xg cur o new).getD i undef=cur.getD i undef:=by
 simp only[Xg,Z4y,Z6s]
 grind
theorem U0{P:Program}{T:TypeId}(hT:okT P T=true){b o:Nat}{cur:Array Value}{ty:TypeId}(hh:w.heap[b]?=some (.cells cur ty (0,0))){v:Value}(hn:v.cells.size=P.cellsOf T)(hone:∀(i:Nat),i<v.cells.size->(v.cells.getD i undef).oneCell'=true)(hle:o+v.cells.size<=cur.size):
  (Instr.storeAt T (.pointer (some ⟨b,o,none⟩)) v).run P w=.ok () (w.setRow b (Xg cur o v.cells)):=by
 obtain⟨d,i,hd,hi,hs,_⟩:=WI hT
 have hst:=run_storeCells_at (P:=P) b o ty v.cells.toList 0 cur w hh Z0 (λu hu=>by
  obtain⟨j,hj⟩:=Z4V hu;have hlt:j<v.cells.size:=by simpa using(Z4v.1 hj).1
  have:=hone j hlt
  have hget:v.cells.getD j undef=u:=by
   simp only[Z4y];rw[Z5O]at hj;rw[hj];rfl
  simp_all)
 simp_all[Z6G,Z6I,Instr.storeAt,Instr.sureAddr,storeVar,YI,Xg]
theorem Vv(w:World){b:Nat}(hb:B<=b)(cs:Array Value):Below B w (w.setRow b cs):=
 ⟨rfl,rfl,rfl,Z1,λk hk=>Z6U w b k cs Z0⟩
theorem T9(hok:Ok B G w h){b:Nat}(cs:Array Value){G':Nat->Prop}(hn:∀x,G' x->x≠b):Same G' w (w.setRow b cs):=λx hx=>Z6U w b x cs (hn x hx)
theorem Wi{cs new:List (CK×E)}{o:Nat}(hle:o+new.length<=cs.length):(Un cs o new).length=cs.length/\∀(i:Nat) (ck:CK×E),(Un cs o new)[i]?=some ck->(o<=i/\i<o+new.length/\new[i-o]?=some ck)\/((i<o\/o+new.length<=i)/\cs[i]?=some ck):=by
 unfold Un;refine⟨Z3N,λi ck hi=> ?_⟩;by_cases h1:i<o
 ·grind
 ·by_cases h2:i<o+new.length
  ·grind
  ·right;rw[Z4S Z3N,Z5d]at hi
   grind
theorem JA(hok:Ok B G w h){p o b:Nat}{cs new:List (CK×E)}{cur row:Array Value}{ty:TypeId}(hbl:h.bl p 0=some b)(hh:w.heap[b]?=some (.cells cur ty (0,0)))(hcs:RelCs c.P B s w h p cs cur)
  (hsz:row.size=cur.size) (hle:o+new.length<=cs.length) (hrow:∀i,i<o\/o+new.length<=i->row.getD i undef=cur.getD i undef) {ts:List Nat} {f:Nat->Option Nat} (hpt:p∉ts)
  (hf0:f 0=h.bl p 0) (hfout:∀i,i<o\/o+new.length<=i->f (i+1)=h.bl p (i+1)) (hfin:∀i x,i<new.length->f (o+i+1)=some x->h.bl p (o+i+1)=some x\/∃t∈ts,∃j,h.bl t j=some x)
  (hinj:∀i j x,f i=some x->f j=some x->i=j)
  (hnew:∀(i:Nat) (ck:CK×E),new[i]?=some ck->RelC c.P B s w h (f (o+i+1)) ck.1 ck.2 (row.getD (o+i) undef)) (tm:Nat->Option Value):
  ∃h',Ok B G (w.setRow b row) h'/\Step B (p::ts) ts [] w (w.setRow b row) h h'/\
   RelK c.P B s (w.setRow b row) h' tm p (.pointer (some ⟨b,0,none⟩)) (.mem (Un cs o new)):=by
 obtain⟨hbB,hblt,hbF⟩:=hok.b_lt p 0 b hbl;obtain⟨hsl,hget⟩:=Wi hle;have hFs:Same h.F w (w.setRow b row):=T9 hok _ λx hx e=>hbF (e▸hx)
 have hfb:∀i x,f (i+1)=some x->x≠b/\((h.bl p (i+1)=some x)\/∃t∈ts,∃j,h.bl t j=some x):=by
  intro i x hx
  have h2:h.bl p (i+1)=some x\/∃t∈ts,∃j,h.bl t j=some x:=by
   by_cases hin:o<=i/\i<o+new.length
   ·have:=hfin (i-o) x Z0
    grind
   ·grind
  refine⟨λe=> ?_,h2⟩;subst e;obtain h2|⟨t,ht,j,hj⟩:=h2
  ·grind
  ·grind
 refine⟨h.put p f (lost h ts),hok.put Z1 (λu i x _ hx=>(ZQ hx).1) (λi x hx=>.inr ?_) hinj (λi x u j hu hi hj=> ?_),
  XG (Vv w hbB _) (λx hx hn=>Z6U w b x _ λe=>hn p Z1 0 (e▸hbl)) Z1 (λt ht=>⟨by simp[ht],ht⟩) (λ_=>hf0),b,row,ty,by grind [GH.put],rfl,setRow_heap w b cur _ ty (0,0) hh,by rw[hsz,hcs.1,hsl],λi ck hi=> ?_⟩
 ·cases i with
  |zero=>grind
  |succ i=>
   grind
 ·obtain⟨k1,k2⟩:=ZQ hj;cases i with
  |zero=>rw[hf0]at hi;exact hu (hok.inj u j p 0 x k1 hi).1
  |succ i=>
   rcases(hfb i x hi).2 with h2|⟨t,ht,j',hj'⟩
   ·exact hu (hok.inj u j p (i+1) x k1 h2).1
   ·exact k2 ((hok.inj u j t j' x k1 hj').1▸ht)
 ·have hbl':(h.put p f (lost h ts)).bl p (i+1)=f (i+1):=by simp[GH.put]
  rw[hbl'];have hkeep:∀x,f (i+1)=some x->(w.setRow b row).heap[x]?=w.heap[x]? :=λx hx=>Z6U w b x _ (hfb i x hx).1;obtain⟨h1,h2,h3⟩|⟨h1,h3⟩:=hget i ck hi
  ·have:=hnew (i-o) ck h3;rw[show o+(i-o)=i from by omega]at this;exact this.keep hFs (λ_ hb=>hb) hkeep
  ·have:=hcs.2 i ck h3;rw[hrow i h1,hfout i h1];rw[hfout i h1]at hkeep;exact this.keep hFs (λ_ hb=>hb) hkeep
theorem VU{p o:Nat}{new:List (CK×E)}{k:TK}(hp:putM g p o new=some k):∃cs,memOf g p=some cs/\o+new.length<=cs.length/\k=.mem (Un cs o new):=by
 grind [putM,Option.bind_eq_some_iff,Option.some.injEq]
theorem WQ(hr:RelG c B G s a w h g){T:TypeId}(hT:okT c.P T=true){p o b:Nat}{new:List (CK×E)}{k:TK}(hp:putM g p o new=some k)(hbl:h.bl p 0=some b){v:Value}(hn:v.cells.size=c.P.cellsOf T)(hlen:new.length=c.P.cellsOf T)
  {ts:List Nat} {f:Nat->Option Nat} (hpt:p∉ts) (hf0:f 0=h.bl p 0) (hfout:∀i,i<o\/o+new.length<=i->f (i+1)=h.bl p (i+1)) (hfin:∀i x,i<new.length->f (o+i+1)=some x->h.bl p (o+i+1)=some x\/∃t∈ts,∃j,h.bl t j=some x)
  (hinj:∀i j x,f i=some x->f j=some x->i=j)
  (hnew:∀(i:Nat) (ck:CK×E),new[i]?=some ck->RelC c.P B s w h (f (o+i+1)) ck.1 ck.2 (v.cells.getD i undef)):
  ∃w' h',(Instr.storeAt T (.pointer (some ⟨b,o,none⟩)) v).run c.P w=.ok () w'/\Ok B G w' h'/\Step B (p::ts) ts [] w w' h h'/\∃u,a.tmps[p]?=some u/\RelK c.P B s w' h' (λp=>a.tmps[p]?) p u k:=by
 obtain⟨cs,hm,hle,rfl⟩:=VU hp;obtain⟨b',cur,ty,h1,htm,hh,hcs⟩:=hr.memOf hm;rw[hbl]at h1;cases h1;have hle':o+v.cells.size<=cur.size:=by rw[hcs.1,hn,<-hlen];exact hle
 have hvn:v.cells.size=new.length:=by rw[hn,hlen]
 obtain⟨h',k1,k2,k3⟩:=JA (row:=Xg cur o v.cells) hr.ok hbl hh hcs (T7 hle') hle (λi hi=>Uk hle' Z0) hpt hf0 hfout hfin hinj (λi ck hi=>by
  grind [Jo,List.getElem?_eq_some_iff]) (λp=>a.tmps[p]?)
 refine⟨_,h',U0 hT hh hn (λi hi=> ?_) hle',k1,k2,_,htm,k3⟩;exact(hnew i new[i] (Z4u Z0)).cell
theorem IM{n:Nat}{e:E}{z:V}{v:Value}(hz:eval s e=some z)(ht:∀l,z≠.tup l)(hrd:Rd w h.F z v)(o:Option Nat){i:Nat}{ck:CK×E}(hlt:i<z.cells.length)(hi:ck=(CK.fz,E.fld e i)):RelC c.P B s w h o ck.1 ck.2 (v.cells.getD i undef):=by
 subst hi;obtain⟨hs1,hs2,hs3⟩:=hrd.cells ht;have hget:z.cells[i]?=some z.cells[i]:=Z4u hlt;refine⟨z.cells[i],?_,hs2 _ (Z4J _),hs3 i _ hget⟩;simp_all[eval,Z4E,fldV,Z0e,oneV,if_pos,Z4J]
theorem TM{β:Type}{n i:Nat}{f:Nat->β}{y:β}(hi:((List.range n).map f)[i]?=some y):i<n/\y=f i:=by
 grind
theorem Re(hr:RelG c B G s a w h g){T:TypeId}(hT:okT c.P T=true)(hT1:Zn c.P T=true\/c.P.cellsOf T=1){p o:Nat}{x:Operand}{m:MS}(hm:RU c g T p o x=some m)(hes:∀e∈m.es,∃z,eval s e=some z){b:Nat}(hbl:h.bl p 0=some b):
  ∃w' h',(Instr.storeAt T (.pointer (some ⟨b,o,none⟩)) (a.eval x)).run c.P w=.ok () w'/\MPost c B G s a w w' h h' m:=by
 have hthaw:∀fz,(h.thaw fz).bl p 0=some b:=λfz=>by simp[GH.thaw,hbl]
 unfold RU at hm;simp only at hm;split at hm
 ·rename_i hag;split at hm
  ·rename_i t cs hk;split at hm
   ·rename_i hcond;obtain⟨hl,htp,_⟩:=hcond;simp only[Z4w]at hm;obtain⟨k,hput,rfl⟩:=hm;obtain⟨v,hv,⟨vs,rfl,hcs⟩,_⟩:=hr.look (Zb s c) (show look g [] t=_ from hk) rfl;rw[Act.eval_tmp a t _ hv]
    obtain⟨w',h',e1,e2,e3,e4⟩:=WQ hr hT hput hbl (v:=.agg vs) (by show vs.size=_;rw[hcs.1,hl]) hl (ts:=[t]) (f:=λi=>if o+1<=i/\i<o+1+cs.length then h.bl t (i-o)else h.bl p i) (by simpa using Z6K htp)
     (if_neg Z0) (λi hi=>if_neg Z0) (λi x hi hx=>.inr ⟨t,Z1,_,by rw[if_pos Z0]at hx;exact hx⟩) (λi j x hi hj=>by
      split at hi<;>split at hj
      ·have:=(hr.ok.inj t _ t _ x hi hj).2;omega
      ·exact absurd (hr.ok.inj t _ p _ x hi hj).1 htp
      ·exact absurd (hr.ok.inj t _ p _ x hj hi).1 htp
      ·exact(hr.ok.inj p _ p _ x hi hj).2)
     (λi ck hi=>by
      have hlt:=(Z4v.1 hi).1;rw[if_pos Z0,show o+i+1-o=i+1 from by omega];exact hcs.2 i ck hi)
    exact⟨w',h',e1,e3,e2,Yf (ts:=[t]) e4⟩
   ·cases hm
  ·simp only[Z4t,Z4w]at hm;obtain⟨b0,hb0,k,hput,rfl⟩:=hm;obtain⟨z,hz⟩:=hes _ (List.Mem.head _);obtain⟨k1,k2,k3,k4⟩:=Nr hr hb0 hz;obtain⟨hs1,hs2,hs3⟩:=k4.cells k1
   obtain⟨w',h',e1,e2,e3,e4⟩:=WQ (hr.frz b0.2) hT hput (hthaw _) (hs1.trans (k2 rfl)) Z1 (ts:=[]) (f:=(h.thaw b0.2).bl p) Z1 rfl (λ_ _=>rfl) (λi x _ hx=>.inl hx)
    (λi j x hi hj=>((U4 hr.ok b0.2).1.inj p i p j x hi hj).2) (λi ck hi=>by
     obtain⟨hlt,rfl⟩:=TM hi;exact IM (n:=0) hz k1 k4 _ (by rw[k2 rfl];exact hlt) rfl)
   exact⟨w',h',e1,e3.after,e2,Yf (ts:=[]) e4⟩
 ·rename_i hag;have h1:c.P.cellsOf T=1:=hT1.resolve_left hag;split at hm
  ·rename_i t ty e hk;split at hm
   ·rename_i hcond;obtain⟨htp,_⟩:=hcond;simp only[Z4w]at hm;obtain⟨k,hput,rfl⟩:=hm;obtain⟨v,hv,⟨y,hy,hown⟩,_⟩:=hr.look (Zb s c) (show look g [] t=_ from hk) rfl;rw[Act.eval_tmp a t _ hv]
    have hvc:v.cells=#[v]:=by
     obtain⟨l,xs,_,_,_,⟨_,hc⟩,_⟩|⟨_,_,_,_,_,_,_,rfl,_⟩:=hown
     ·obtain⟨rfl,_⟩|⟨_,_,_,rfl,_⟩:=hc<;>rfl
     ·rfl
    obtain⟨w',h',e1,e2,e3,e4⟩:=WQ hr hT hput hbl (v:=v) (by rw[hvc,h1];rfl) (by rw[h1];rfl) (ts:=[t]) (f:=λi=>if i=o+1 then h.bl t 1 else h.bl p i) (by simpa using Z6K htp)
     (if_neg Z0) (λi hi=>if_neg (by simp only[Z62]at hi;omega)) (λi x hi hx=>.inr ⟨t,Z1,1,by simp only[Z62]at hi;rw[if_pos Z0]at hx;exact hx⟩) (λi j x hi hj=>by
      split at hi<;>split at hj
      ·omega
      ·exact absurd (hr.ok.inj t _ p _ x hi hj).1 htp
      ·exact absurd (hr.ok.inj t _ p _ x hj hi).1 htp
      ·exact(hr.ok.inj p _ p _ x hi hj).2)
     (λi ck hi=>by
      cases i with
      |zero=>simp at hi;subst hi;rw[if_pos Z0,hvc];exact⟨y,hy,hown⟩
      |succ i=>simp at hi)
    exact⟨w',h',e1,e3,e2,Yf (ts:=[t]) e4⟩
   ·cases hm
  ·rename_i hk;simp only[Z4w]at hm;obtain⟨k,hput,rfl⟩:=hm;rw[SF hr (Zb s c) hk]
   obtain⟨w',h',e1,e2,e3,e4⟩:=WQ hr hT hput hbl (v:=.slice none 0 0) (by rw[h1];rfl) (by rw[h1];rfl) (ts:=[]) (f:=h.bl p) Z1 rfl (λ_ _=>rfl) (λi x _ hx=>.inl hx)
    (λi j x hi hj=>(hr.ok.inj p i p j x hi hj).2) (λi ck hi=>by
     cases i with
     |zero=>simp at hi;subst hi;exact⟨rfl,rfl⟩
     |succ i=>simp at hi)
   exact⟨w',h',e1,e3,e2,Yf (ts:=[]) e4⟩
  ·simp only[Z4t,Z4w]at hm;obtain⟨b0,hb0,k,hput,rfl⟩:=hm;obtain⟨z,hz⟩:=hes _ (List.Mem.head _);obtain⟨hz1,hzo⟩:=yW hz;have k4:=Nq hr hb0 hz1;obtain⟨hs1,hs2,hs3⟩:=k4.cells (J3 hzo);rw[YN hzo]at hs1 hs3
   obtain⟨w',h',e1,e2,e3,e4⟩:=WQ (hr.frz b0.2) hT hput (hthaw _) (hs1.trans (by rw[h1];rfl)) (by rw[h1];rfl) (ts:=[]) (f:=(h.thaw b0.2).bl p) Z1 rfl (λ_ _=>rfl) (λi x _ hx=>.inl hx)
    (λi j x hi hj=>((U4 hr.ok b0.2).1.inj p i p j x hi hj).2) (λi ck hi=>by
     cases i with
     |zero=>simp at hi;subst hi;exact⟨z,hz,hzo,hs3 0 z rfl⟩
     |succ i=>simp at hi)
   exact⟨w',h',e1,e3.after,e2,Yf (ts:=[]) e4⟩
end
end Vm
namespace Vm
open Go
open Go.RowKit (Below)
theorem Rn{cs b:List V}{o:Nat}(hle:o+b.length<=cs.length):(Zx cs o b).length=cs.length/\(∀i,i<b.length->(Zx cs o b)[o+i]?=b[i]?)/\∀i,i<o\/o+b.length<=i->(Zx cs o b)[i]?=cs[i]? :=by
 unfold Zx;refine⟨Z3N,λi hi=> ?_,λi hi=> ?_⟩
 ·grind
 ·obtain hi|hi:=hi
  ·grind
  ·rw[Z4S Z3N,Z5d]
   grind
theorem qD{cs b:List V}{o:Nat}{x:V}(hx:x∈Zx cs o b):x∈cs\/x∈b:=by
 grind [Zx,List.mem_of_mem_take,List.mem_of_mem_drop]
theorem Il{y:V}{k o:Nat}{b:List V}(hy:y.fits k)(hb:∀x∈b,x.one=true)(hne:b≠[])(hle:o+b.length<=y.cells.length):
  (y.put o b).fits k/\(∀i,i<b.length->(y.put o b).cells[o+i]?=b[i]?)/\∀i,i<o\/o+b.length<=i->(y.put o b).cells[i]?=y.cells[i]? :=by
 have other:y.cells=[y]->y.put o b=b.headD y->(y.put o b).fits k/\(∀i,i<b.length->(y.put o b).cells[o+i]?=b[i]?)/\∀i,i<o\/o+b.length<=i->(y.put o b).cells[i]?=y.cells[i]? :=by
  intro hyc hput;have hlen:y.cells.length=1:=by rw[hyc];rfl
  match b,hne,hle with
  | [z],_,hle=>
    simp only[Z62]at hle;have ho:o=0:=Z0;subst ho;have hz:=hb z Z1;have hpz:y.put 0 [z]=z:=by rw[hput];rfl
    rw[hpz];refine⟨⟨by rw[YN hz,<-hy.1,hlen];rfl,λc hc=>by simp_all[YN]⟩,λi hi=> ?_,λi hi=> ?_⟩
    ·have:i=0:=Z3L;subst this;rw[YN hz]
    simp_all[YN,Z5w]
  |z::z'::r,_,hle=>grind
 cases y with
 |agg cs=>
  have hle':o+b.length<=cs.length:=hle;obtain⟨h1,h2,h3⟩:=Rn hle';refine⟨⟨by show(Zx cs o b).length=k;rw[h1];exact hy.1,λc hc=> ?_⟩,h2,h3⟩;obtain hc|hc:=qD (show c∈Zx cs o b from hc)
  ·exact hy.2 c hc
  simp_all
 |tup l=>exact other rfl rfl
 |int k n=>exact other rfl rfl
 |bool v=>exact other rfl rfl
 |str v=>exact other rfl rfl
 |sl l=>exact other rfl rfl
 |ptr l=>exact other rfl rfl
 |fn f=>exact other rfl rfl
 |clo f cs=>exact other rfl rfl
 |nul k=>exact other rfl rfl
 |mp id ks xs=>exact other rfl rfl
theorem qO{x i z u:V}{o:Nat}(hz:updV x i o z=some u):∃l ki q y,x=.sl l/\i=.int ki (q:Nat)/\l[q]?=some y/\o+z.cells.length<=y.cells.length/\z.cells≠[]/\u=.sl (l.set q (y.put o z.cells)):=by
 unfold updV at hz;split at hz
 ·rename_i l ki i;split at hz
  ·rename_i h0;obtain⟨q,rfl⟩:=Z4P h0;rw[Z5f,Z4t]at hz;obtain⟨y,hy,hz⟩:=hz;split at hz
   ·rename_i hc;simp only[Z4s]at hz;exact⟨l,ki,q,y,rfl,rfl,hy,hc.1,hc.2,hz.symm⟩
   grind
  grind
 grind
section
variable {c:Ctx}{B:Nat}{G:Nat->Prop}{s:St}{a a':Act}{w w':World}{h h':GH}{g:Gam}{C:Zg}{fz ps rb:List Nat}
theorem OwnV.store(hok:Ok B G w h){p i n:Nat}{ty:TypeId}{x u:V}{v:Value}(hv:OwnV c.P B w h (h.bl p i) ty x v)(hbl:h.bl p i=some n){ki:IntKind}{q off:Nat}{z:V}(hu:updV x (.int ki (q:Nat)) off z=some u)
  {T:TypeId} (hT:okT c.P T=true) {vz:Value} (hzt:∀l,z≠.tup l) (hzr:Rd w h.F z vz) (hzn:z.cells.length=c.P.cellsOf T):
  ∃row,(Instr.storeAt T (.pointer (some ⟨n,q*c.P.cellsOf ty+off,none⟩)) vz).run c.P w=.ok () (w.setRow n row)/\OwnV c.P B (w.setRow n row) h (h.bl p i) ty u v:=by
 obtain⟨l,xs,rfl,h0,hfit,hown,hb,hrd⟩|⟨_,_,_,_,_,_,rfl,_⟩:=hv
 case inr=>grind [qO]
 obtain⟨l',ki',q',y,hl',hq',hy,hle,hne,rfl⟩:=qO hu;cases hl';simp only[V.int.injEq]at hq';have hqq:q'=q:=Z0;subst hqq;obtain⟨hnB,hnlt,hnF⟩:=hok.b_lt p i n hbl;obtain⟨hs1,hs2,hs3⟩:=hzr.cells hzt;have hyf:=hfit y (Z4B hy);obtain⟨f1,f2,f3⟩:=Il hyf (λx hx=>hs2 x hx) hne hle;have hq:q'<l.length:=(Z4v.1 hy).1;have hqk:q'*c.P.cellsOf ty+c.P.cellsOf ty<=l.length*c.P.cellsOf ty:=by rw[<-Z5P];exact Z5a _ hq
 rw[hyf.1]at hle;obtain⟨rfl,hn⟩|⟨n',cap,cur,rfl,hB,hh,hlc,hcap,hsz,htk⟩:=hown.2
 ·omega
 ·have hnn:n'=n:=by
   have:Value.ownBlock (.slice (some ⟨n',0,none⟩) l.length cap)=some n':=rfl;rw[this,hbl]at hb;cases hb;rfl
  subst hnn;have hcl:l.length*c.P.cellsOf ty<=cur.size:=by rw[hsz];exact Z5a _ hlc
  have hle':(q'*c.P.cellsOf ty+off)+vz.cells.size<=cur.size:=by rw[hs1];omega
  refine⟨Xg cur (q'*c.P.cellsOf ty+off) vz.cells,U0 hT hh Z0 (λj hj=> ?_) hle',?_⟩
  ·have hj':j<z.cells.length:=by rw[<-hs1];exact hj
   have:=hs3 j z.cells[j] (Z4u hj');rw[this.one_eq];simp_all
  ·have hfit':∀x∈l.set q' (y.put off z.cells),x.fits (c.P.cellsOf ty):=by
    intro x hx;obtain hx|rfl:=Z5z hx
    ·simp_all
    ·exact f1
   have hFs:Same h.F w (w.setRow n' (Xg cur (q'*c.P.cellsOf ty+off) vz.cells)):=T9 hok _ λx hx e=>hnF (e▸hx);have hrs:=T7 hle';refine .inl ⟨l.set q' (y.put off z.cells),(Xg cur (q'*c.P.cellsOf ty+off) vz.cells).toList.take (l.length*c.P.cellsOf ty),rfl,h0,hfit',⟨Z3M,.inr ⟨n',cap,_,Z1,hB,setRow_heap w n' cur _ ty (0,0) hh,Z3M,hcap,Z0,Z1⟩⟩,hb,λj ck hj=> ?_⟩;obtain⟨q2,r,y2,hq2,hr,rfl,hyc⟩:=Sl hfit' h0 hj;have hq2l:q2<l.length:=by simpa using(Z4v.1 hq2).1
   have hq2k:q2*c.P.cellsOf ty+c.P.cellsOf ty<=l.length*c.P.cellsOf ty:=by rw[<-Z5P];exact Z5a _ hq2l
   have hlt:q2*c.P.cellsOf ty+r< (Xg cur (q'*c.P.cellsOf ty+off) vz.cells).size:=by rw[hrs];omega
   refine⟨(Xg cur (q'*c.P.cellsOf ty+off) vz.cells).getD (q2*c.P.cellsOf ty+r) undef,?_,?_⟩
   ·rw[Z55,if_pos Z0,Z5O];simp_all
   ·
    have old:∀y0,l[q2]?=some y0->y0.cells[r]?=some ck->(q2*c.P.cellsOf ty+r<q'*c.P.cellsOf ty+off\/q'*c.P.cellsOf ty+off+vz.cells.size<=q2*c.P.cellsOf ty+r)->
      Rd (w.setRow n' (Xg cur (q'*c.P.cellsOf ty+off) vz.cells)) h.F ck ((Xg cur (q'*c.P.cellsOf ty+off) vz.cells).getD (q2*c.P.cellsOf ty+r) undef):=by
     intro y0 hy0 hyr hout;obtain⟨u0,hu0,hru⟩:=hrd (q2*c.P.cellsOf ty+r) ck (by simp_all[YJ]);rw[Uk hle' hout]
     have:cur.getD (q2*c.P.cellsOf ty+r) undef=u0:=by
      rw[<-htk,Z55,if_pos Z0]at hu0;have hu':cur[q2*c.P.cellsOf ty+r]?=some u0:=by simpa using hu0
      simp[Z4y,hu']
     rw[this];exact hru.keep hFs λ_ hb=>hb
    by_cases hqe:q2=q'
    ·subst hqe;rw[Z8f hq]at hq2;cases hq2;by_cases hin:off<=r/\r<off+z.cells.length
     ·have h2:=f2 (r-off) Z0;rw[show off+(r-off)=r from by omega,hyc]at h2;have h3:=Jo hle' (i:=r-off) Z0;rw[show q2*c.P.cellsOf ty+off+(r-off)=q2*c.P.cellsOf ty+r from by omega]at h3;rw[h3];exact(hs3 (r-off) ck h2.symm).keep hFs λ_ hb=>hb
     grind
    ·rw[Z7x (Z6K hqe)]at hq2
     have hsep:q2*c.P.cellsOf ty+c.P.cellsOf ty<=q'*c.P.cellsOf ty\/q'*c.P.cellsOf ty+c.P.cellsOf ty<=q2*c.P.cellsOf ty:=by
      obtain hlt'|hlt':=Z7S hqe
      ·left;rw[<-Z5P];exact Z5a _ hlt'
      ·right;rw[<-Z5P];exact Z5a _ hlt'
     grind
theorem yJ(hr:RelG c B G s a w h g){T:TypeId}(hT:okT c.P T=true)(hT1:Zn c.P T=true\/c.P.cellsOf T=1){p off kk:Nat}{i:Option Nat}{j:E}{x:Operand}{m:MS}(hm:LO c g T p i j off kk x=some m)(hes:∀e∈m.es,∃z,eval s e=some z)
  {n q:Nat} (hbl:h.bl p (plI i)=some n) {ki:IntKind} (hj:eval s j=some (.int ki (q:Nat))):
  ∃w' h',(Instr.storeAt T (.pointer (some ⟨n,q*kk+off,none⟩)) (a.eval x)).run c.P w=.ok () w'/\MPost c B G s a w w' h h' m:=by
 unfold LO at hm;simp only[Z4t]at hm;obtain⟨b0,hb0,hm⟩:=hm;split at hm
 ·cases hm
 ·rename_i hpf;have hpf':p∉b0.2:=by simpa using hpf
  have hbl1:∀i,(h.thaw b0.2).bl p i=h.bl p i:=λi=>by simp[GH.thaw,hpf']
  have hr1:=hr.frz b0.2
  have upd_e:∀ {e1 e2:E} {u:V},eval s (.upd e1 j off e2)=some u->∃y z,eval s e1=some y/\eval s e2=some z/\updV y (.int ki (q:Nat)) off z=some u:=by
   intro e1 e2 u hu;simp only[eval,hj,Z4E,Z4t]at hu;obtain⟨y,hy,z,hz,hu⟩:=hu;exact⟨y,z,hy,hz,hu⟩
  have zs:∀ {z:V},eval s (tyE (Zn c.P T) (c.P.cellsOf T) b0.1)=some z->(∀l,z≠.tup l)/\Rd w (h.thaw b0.2).F z (a.eval x)/\z.cells.length=c.P.cellsOf T:=by
   intro z hz;obtain⟨k1,k2,k3,k4⟩:=Nr hr hb0 hz;refine⟨k1,k4,?_⟩;cases hag:Zn c.P T with
   |true=>grind
   |false=>
    simp_all[YN]
  split at hm
  ·simp only[Z4t]at hm;obtain⟨⟨ty,e⟩,ho,hm⟩:=hm;split at hm
   ·rename_i hkk;simp only[Z4s]at hm;subst hm;simp only at hkk;subst hkk;obtain⟨v,hv,y,hy,hown⟩:=hr1.ownOf ho;obtain⟨u,hu⟩:=hes _ (List.Mem.head _);obtain⟨y',z,hy',hz,hupd⟩:=upd_e hu;rw[hy]at hy';cases hy';obtain⟨k1,k2,k3⟩:=zs hz;have hbl':(h.thaw b0.2).bl p 1=some n:=by rw[hbl1];exact hbl
    obtain⟨row,hrun,hres⟩:=hown.store hr1.ok hbl' hupd hT k1 k2 k3;obtain⟨hnB,hnlt,_⟩:=hr1.ok.b_lt p 1 n hbl'
    refine⟨_,h.thaw b0.2,hrun,Step.after ⟨Vv w hnB _,λx hx hn=>Z6U w n x _ λe=>hn p Z1 1 (e▸hbl'),λ_ hb=>hb,λ_ _ _=>rfl,λ_ _=>rfl,λ_ _ _ _ hm=>Z4o,rfl⟩,
     ⟨by simp;exact hr1.ok.base,λb hb=>(by simp;exact hr1.ok.f_lt b hb),hr1.ok.f_or,hr1.ok.g_F,λt i b hb=>(by simp;exact hr1.ok.b_lt t i b hb),hr1.ok.inj,λb hb=>(by simp;exact hr1.ok.k_lt b hb),hr1.ok.k_bl,hr1.ok.k_F⟩,Yf (ts:=[]) ⟨v,hv,u,hu,hres⟩⟩
   ·cases hm
  ·rename_i q0;simp only[Z4t]at hm;obtain⟨cs,hmem,hm⟩:=hm;split at hm
   ·rename_i ty e0 hc;split at hm
    ·rename_i hkk;subst hkk;simp only[Z4w]at hm;obtain⟨k,hput,rfl⟩:=hm;obtain⟨cs',hmem',hle,rfl⟩:=VU hput;rw[hmem]at hmem';cases hmem';obtain⟨b,vs,ty',hb0',htm,hh,hcs⟩:=hr1.memOf hmem;obtain⟨y,hy,hown⟩:=hcs.2 q0 _ hc;obtain⟨u,hu⟩:=hes _ (List.Mem.head _);obtain⟨y',z,hy',hz,hupd⟩:=upd_e hu;rw[hy]at hy';cases hy';obtain⟨k1,k2,k3⟩:=zs hz;have hbl':(h.thaw b0.2).bl p (q0+1)=some n:=by rw[hbl1];exact hbl
     obtain⟨row,hrun,hres⟩:=hown.store hr1.ok hbl' hupd hT k1 k2 k3;obtain⟨hnB,hnlt,hnF⟩:=hr1.ok.b_lt p (q0+1) n hbl'
     have hbn:b≠n:=λe=>by
      subst e;have:=(hr1.ok.inj p 0 p (q0+1) b hb0' hbl').2;omega
     obtain⟨hsl,hget⟩:=Wi hle
     refine⟨_,h.thaw b0.2,hrun,Step.after ⟨Vv w hnB _,λx hx hn=>Z6U w n x _ λe=>hn p Z1 (q0+1) (e▸hbl'),λ_ hb=>hb,λ_ _ _=>rfl,λ_ _=>rfl,λ_ _ _ _ hm=>Z4o,rfl⟩,
      ⟨by simp;exact hr1.ok.base,λb hb=>(by simp;exact hr1.ok.f_lt b hb),hr1.ok.f_or,hr1.ok.g_F,λt i b hb=>(by simp;exact hr1.ok.b_lt t i b hb),hr1.ok.inj,λb hb=>(by simp;exact hr1.ok.k_lt b hb),hr1.ok.k_bl,hr1.ok.k_F⟩,
      Yf (ts:=[]) ⟨_,htm,b,vs,ty',hb0',rfl,by simp_all[Z6U],by rw[hcs.1,hsl],λi ck hi=> ?_⟩⟩
     obtain⟨h1,h2,h3⟩|⟨h1,h3⟩:=hget i ck hi
     ·have hiq:i=q0:=by simp only[Z62]at h2;omega
      subst hiq;simp at h3;subst h3;exact⟨u,hu,hres⟩
     ·refine(hcs.2 i ck h3).keep (T9 hr1.ok _ λx hx e=>hnF (e▸hx)) (λ_ hb=>hb) λx hx=>Z6U w n x _ λe=> ?_;subst e;have:=(hr1.ok.inj p (i+1) p (q0+1) x hx hbl').2
      grind
    ·cases hm
   ·cases hm
theorem C1{x i u z:V}{n k:Nat}(hz:Qm x i n k z=some u):∃cs ki j,x=.agg cs/\i=.int ki (j:Nat)/\j<n/\cs.length=n*k/\z.cells.length=k/\u=.agg (Zx cs (j*k) z.cells):=by
 unfold Qm at hz;split at hz
 ·rename_i cs ki i;split at hz
  ·rename_i hc;obtain⟨h0,h1,h2,h3⟩:=hc;obtain⟨j,rfl⟩:=Z4P h0;simp only[Z5f,Z4s]at hz;exact⟨cs,ki,j,rfl,rfl,Z0,h2,h3,hz.symm⟩
  grind
 grind
theorem yI(hr:RelG c B G s a w h g){T:TypeId}(hT:okT c.P T=true){p o n kk:Nat}{j:E}{x:Operand}{m:MS}(hm:LN c g T p o j n kk x=some m)(hes:∀e∈m.es,∃z,eval s e=some z)
  {b q:Nat} (hbl:h.bl p 0=some b) {ki:IntKind} (hj:eval s j=some (.int ki (q:Nat))) (hq:q<n):
  ∃w' h',(Instr.storeAt T (.pointer (some ⟨b,o+q*kk,none⟩)) (a.eval x)).run c.P w=.ok () w'/\MPost c B G s a w w' h h' m:=by
 unfold LN at hm;simp only[Z4t]at hm;obtain⟨b0,hb0,hm⟩:=hm;split at hm
 ·cases hm
 ·rename_i hcond;simp only[Z4L,Z5m,Z4N,not_or,Decidable.not_not,Z6Y,Z76]at hcond;obtain⟨hsh,hk⟩:=hcond;simp only[Z4t]at hm;obtain⟨cs,hmem,hm⟩:=hm;split at hm
  ·rename_i hpart;obtain⟨hpl,hpf⟩:=hpart;simp only[Z4w]at hm;obtain⟨k,hput,rfl⟩:=hm;obtain⟨cs',hmem',hle,rfl⟩:=VU hput;rw[hmem]at hmem';cases hmem';obtain⟨b',cur,ty,h1,htm,hh,hcs⟩:=hr.memOf hmem;rw[hbl]at h1;cases h1;obtain⟨u,hu⟩:=hes _ (List.Mem.head _);have hu0:=hu;simp only[eval,hj,Z4E,Z4t]at hu;obtain⟨y,hy,z,hz,hu⟩:=hu;obtain⟨cs0,ki',q',rfl,hq',hqn,hcl,hzl,rfl⟩:=C1 hu;have hqq:q'=q:=by simp only[V.int.injEq]at hq';omega
   subst hqq;obtain⟨k1,k2,k3,k4⟩:=Nr hr hb0 hz
   have hF:∀b,(h.thaw b0.2).F b->h.F b:=by
    intro b hb;obtain hb|⟨t,ht,_⟩:=hb
    ·exact hb
    ·simp_all
   have k4:=k4.mono hF;obtain⟨hs1,hs2,hs3⟩:=k4.cells k1
   have hnd:Ye ((cs.drop o).take (n*kk))=false:=by
    simp only[Ye,Z7m,Z6L,Z7b,ne_eq];intro ck hck hd;have:=Z4D.1 hpf ck hck;rw[hd]at this;simp at this
   have hno:Vu ((cs.drop o).take (n*kk))=false:=by
    simp only[Vu,Z7m,Z6L];intro ck hck;have:=Z4D.1 hpf ck hck;simp only[Z59]at this;rw[this]
   obtain⟨xs,hxe,hxl,hxo,hxr,hxv⟩:=hcs.part_rd hpl hnd (G':=h.F) (λ_ hb=>hb) (λho=>Z3M);have hle1:q'*kk+kk<=n*kk:=by rw[<-Z5P];exact Z5a _ hqn
   have hkpos:0<n*kk\/n*kk=0:=Z0
   have hcx:cs0=xs:=by
    obtain hpos|hzero:=hkpos
    ·grind [eval,X4,Lo,Option.some.injEq,V.agg.injEq]
    ·simp_all
   subst hcx;have hvn:(a.eval x).cells.size=kk:=by rw[hs1,hzl]
   have hnl:o+n*kk<=cur.size:=by
    have:=hcs.1;simp only[Z5Q,Z6M]at hpl;omega
   have hle2:(o+q'*kk)+(a.eval x).cells.size<=cur.size:=Z0
   have hxcell:∀i (y:V),cs0[i]?=some y->y.one=true/\Rd w h.F y (cur.getD (o+i) undef):=by
    intro i y hi;have hlt:i<n*kk:=by rw[<-hcl];exact(Z4v.1 hi).1
    cases hxr with
    |agg _ _ e1 e2 e3=>
     have:=e3 i y hi
     have hg:((cur.toList.drop o).take (n*kk)).toArray.getD i undef=cur.getD (o+i) undef:=by
      simp only[Z4y,Z6s,Z55,if_pos hlt,Z5d,Z5O]
     grind
   obtain⟨g1,g2,g3⟩:=Rn (cs:=cs0) (b:=z.cells) (o:=q'*kk) Z0
   obtain⟨h',e1,e2,e3⟩:=JA (row:=Xg cur (o+q'*kk) (a.eval x).cells) (new:=(List.range (n*kk)).map λi=>(CK.fz,E.fld (E.aput (if X4 (c.ix p) o ((cs.drop o).take (n*kk))=true then E.mm (c.ix p) o (n*kk)else .ag (((cs.drop o).take (n*kk)).map (·.2))) j n kk (tyE (Zn c.P T) (c.P.cellsOf T) b0.1)) i)) hr.ok hbl hh hcs (T7 hle2) hle (λi hi=>Uk hle2 Z3L) (ts:=[]) (f:=h.bl p) Z1 rfl (λ_ _=>rfl) (λi x _ hx=>.inl hx)
    (λi j x hi hj=>(hr.ok.inj p i p j x hi hj).2) (λi ck hi=>by
     obtain⟨hlt,rfl⟩:=TM hi;have hgl:i< (Zx cs0 (q'*kk) z.cells).length:=by rw[g1,hcl];exact hlt
     have key:((Zx cs0 (q'*kk) z.cells)[i]).one=true/\Rd w h.F (Zx cs0 (q'*kk) z.cells)[i] ((Xg cur (o+q'*kk) (a.eval x).cells).getD (o+i) undef):=by
      have hsome:(Zx cs0 (q'*kk) z.cells)[i]?=some (Zx cs0 (q'*kk) z.cells)[i]:=Z4u hgl;by_cases hin:q'*kk<=i/\i<q'*kk+kk
      ·have h2:=g2 (i-q'*kk) Z0;rw[show q'*kk+(i-q'*kk)=i from by omega,hsome]at h2;have h3:=Jo hle2 (i:=i-q'*kk) Z0;rw[show o+q'*kk+(i-q'*kk)=o+i from by omega]at h3
       grind
      ·have h2:=g3 i Z0;rw[hsome]at h2;rw[Uk hle2 Z0];exact hxcell i _ h2.symm
     refine⟨_,?_,key.1,key.2⟩;refine Eq.trans (b:=(some (V.agg (Zx cs0 (q'*kk) z.cells))).bind λy=>fldV y i) (Z5J (λy=>Option.bind y λy=>fldV y i) hu0) ?_;show((Zx cs0 (q'*kk) z.cells)[i]?).bind oneV=_;rw[Z4u hgl,Z4E];unfold oneV
     grind) (λp=>a.tmps[p]?)
   exact⟨_,h',U0 hT hh Z0 (λi hi=>by
    have hi':i<z.cells.length:=by rw[<-hs1];exact hi
    rw[(hs3 i _ (Z4u hi')).one_eq];simp_all) hle2,e2,e1,Yf (ts:=[]) ⟨_,htm,e3⟩⟩
  ·cases hm
end
end Vm
namespace Vm
open Go
open Go.RowKit (Below)
open Go.MapKept (IsKey bytes_beq sameNow_of_keys run_checkKey run_findKey run_keyThatStays)
def setB(w:World)(b:Nat)(o:Obj):World:= {w with heap:=w.heap.setIfInBounds b o}
theorem TV(w:World)(b:Nat)(o:Obj):(setB w b o).heap.size=w.heap.size:=by simp[setB]
theorem WN(w:World)(b x:Nat)(o:Obj)(h:x≠b):(setB w b o).heap[x]?=w.heap[x]? :=by
 simp[setB,Z5q (Z6K h)]
theorem O8{w:World}{b:Nat}(o:Obj)(h:b<w.heap.size):(setB w b o).heap[b]?=some o:=by
 simp[setB,h]
theorem C3{B:Nat}(w:World){b:Nat}(o:Obj)(h:B<=b):Below B w (setB w b o):=
 ⟨rfl,rfl,rfl,by simp[setB],λx hx=>WN w b x o Z0⟩
section
variable {c:Ctx}{B:Nat}{G:Nat->Prop}{s:St}{a a':Act}{w w':World}{h h':GH}{g:Gam}{C:Zg}{fz ps rb:List Nat}
theorem Fc(hr:RelG c B G s a w h g){d:Nat}{T:TypeId}{x:Operand}{m:MS}(hd:d<a.tmps.size)(hm:Nz c g d T x=some m):
  ∃v w' h',(Instr.box T (a.eval x)).run c.P w=.ok v w'/\MPost c B G s (a.put (some d) v) w w' h h' m:=by
 unfold Nz at hm;split at hm
 ·rename_i t ty e hk;split at hm
  ·rename_i hcond;obtain⟨htd,_⟩:=hcond;simp only[Z4s]at hm;subst hm;obtain⟨v,hv,⟨y,hy,hown⟩,_⟩:=hr.look (Zb s c) (show look g [] t=_ from hk) rfl;rw[Act.eval_tmp a t v hv]
   have hvc:v.cells=#[v]:=by
    obtain⟨l,xs,_,_,_,⟨_,hc⟩,_⟩|⟨_,_,_,_,_,_,_,rfl,_⟩:=hown
    ·obtain⟨rfl,_⟩|⟨_,_,_,rfl,_⟩:=hc<;>rfl
    ·rfl
   have hg:=Z5U w (.cells v.cells T) none;have hsz:(w.alloc (.cells v.cells T)).heap.size=w.heap.size+1:=Z1;have hF:Same h.F w (w.alloc (.cells v.cells T)):=λb hb=>hg.block b (hr.ok.f_lt b hb) Z1
   refine⟨.pointer (some ⟨w.heap.size,0,none⟩),_,h.put d (λi=>if i=0 then some w.heap.size else if i=1 then h.bl t 1 else none) (lost h [t]),by simp[Instr.box,SO],
    XG (Xh hr.ok hg) (λb hb _=>hg.block b hb Z1) Z1 (λu hu=>by simp at hu;subst hu;simp) (λhn=>by simp at hn),
    hr.ok.put Z0 (λu i b _ hb=>(ZQ hb).1) (λi b hb=> ?_) (λi j b hi hj=> ?_) (λi b u j hu hi hj=> ?_),Yf (ts:=[t]) ⟨_,Wh hd _,w.heap.size,v.cells,T,by simp[GH.put],rfl,Z5c w _,by rw[hvc];rfl,λi ck hi=> ?_⟩⟩
   ·split at hb
    ·simp only[Z4s]at hb;subst hb;exact .inl ⟨Z4A _,Z0⟩
    ·split at hb
     ·exact .inr ⟨t,1,hb⟩
     ·cases hb
   ·have old:∀ {b},h.bl t 1=some b->b<w.heap.size:=λhb=>(hr.ok.b_lt t 1 _ hb).2.1;split at hi<;>split at hj<;>(try split at hi)<;>(try split at hj)<;>first|(cases hi;done)|(cases hj;done)|omega|skip
    ·simp only[Z4s]at hi;subst hi;have:=old hj;omega
    ·simp only[Z4s]at hj;subst hj;have:=old hi;omega
   ·obtain⟨h1,h2⟩:=ZQ hj;split at hi
    ·simp only[Z4s]at hi;subst hi;have:=(hr.ok.b_lt u j _ h1).2.1;omega
    ·split at hi
     ·exact h2 (by simp[(hr.ok.inj t 1 u j b hi h1).1])
     ·cases hi
   ·cases i with
    |zero=>
     simp at hi;subst hi;refine⟨y,hy,?_⟩;have hget:v.cells.getD 0 undef=v:=by rw[hvc];rfl
     rw[hget];have hk:=hown.keep (h':=h.put d (λi=>if i=0 then some w.heap.size else if i=1 then h.bl t 1 else none) (lost h [t])) hF (λ_ hb=>hb) λb hb=>hg.block b (hr.ok.b_lt t 1 b hb).2.1 Z1;simpa[GH.put]using hk
    |succ i=>simp at hi
  ·cases hm
 ·rename_i t cs hk;split at hm
  ·rename_i hcond;obtain⟨htd,_⟩:=hcond;simp only[Z4s]at hm;subst hm;obtain⟨v,hv,⟨vs,rfl,hcs⟩,_⟩:=hr.look (Zb s c) (show look g [] t=_ from hk) rfl;rw[Act.eval_tmp a t _ hv];have hg:=Z5U w (.cells (Value.agg vs).cells T) none;have hsz:(w.alloc (.cells (Value.agg vs).cells T)).heap.size=w.heap.size+1:=Z1;have hF:Same h.F w (w.alloc (.cells (Value.agg vs).cells T)):=λb hb=>hg.block b (hr.ok.f_lt b hb) Z1;have old:∀ {i b},h.bl t i=some b->b<w.heap.size:=λhb=>(hr.ok.b_lt t _ _ hb).2.1
   refine⟨.pointer (some ⟨w.heap.size,0,none⟩),_,h.put d (λi=>if i=0 then some w.heap.size else h.bl t i) (lost h [t]),by simp[Instr.box,SO],
    XG (Xh hr.ok hg) (λb hb _=>hg.block b hb Z1) Z1 (λu hu=>by simp at hu;subst hu;simp) (λhn=>by simp at hn),
    hr.ok.put Z0 (λu i b _ hb=>(ZQ hb).1) (λi b hb=> ?_) (λi j b hi hj=> ?_) (λi b u j hu hi hj=> ?_),Yf (ts:=[t]) ⟨_,Wh hd _,w.heap.size,vs,T,by simp[GH.put],rfl,Z5c w _,hcs.1,λi ck hi=> ?_⟩⟩
   ·split at hb
    ·simp only[Z4s]at hb;subst hb;exact .inl ⟨Z4A _,Z0⟩
    ·exact .inr ⟨t,i,hb⟩
   ·split at hi<;>split at hj
    ·omega
    ·simp only[Z4s]at hi;subst hi;have:=old hj;omega
    ·simp only[Z4s]at hj;subst hj;have:=old hi;omega
    ·exact(hr.ok.inj t i t j b hi hj).2
   ·obtain⟨h1,h2⟩:=ZQ hj;split at hi
    ·simp only[Z4s]at hi;subst hi;have:=(hr.ok.b_lt u j _ h1).2.1;omega
    ·exact h2 (by simp[(hr.ok.inj t i u j b hi h1).1])
   ·have hk:=(hcs.2 i ck hi).keep (h':=h.put d (λi=>if i=0 then some w.heap.size else h.bl t i) (lost h [t])) hF (λ_ hb=>hb) λb hb=>hg.block b (hr.ok.b_lt t (i+1) b hb).2.1 Z1;simpa[GH.put]using hk
  ·cases hm
 ·cases hm
def NV(c:Ctx)(B:Nat)(s:St)(a:Act)(w:World)(h:GH)(g:Gam)(p:Nat)(ty:TypeId)(e:E)(v:Value):Option Nat->Prop
 |none=>a.tmps[p]?=some v
 |some j=>∃cs,memOf g p=some cs/\cs[j]?=some (.own ty,e)/\∃b vs T,h.bl p 0=some b/\a.tmps[p]?=some (.pointer (some ⟨b,0,none⟩))/\w.heap[b]?=some (.cells vs T (0,0))/\RelCs c.P B s w h p cs vs/\vs.getD j undef=v
theorem F7(hr:RelG c B G s a w h g){x:Operand}{p:Nat}{i:Option Nat}{ty:TypeId}{e:E}(hm:Nx g x=some (p,i,ty,e)):
  ∃X,eval s e=some X/\OwnV c.P B w h (h.bl p (plI i)) ty X (a.eval x)/\NV c B s a w h g p ty e (a.eval x) i:=by
 unfold Nx at hm;split at hm
 ·rename_i t ty' e' hk;split at hm
  ·simp only[Z4s,Z4C]at hm;obtain⟨rfl,rfl,rfl,rfl⟩:=hm;obtain⟨v,hv,⟨X,hX,hown⟩,_⟩:=hr.look (Zb s c) (show look g [] t=_ from hk) rfl;rw[Act.eval_tmp a t v hv];exact⟨X,hX,hown,hv⟩
  ·cases hm
 ·rename_i x _ _ q hk;simp only[Z4w]at hm;obtain⟨⟨ty',e'⟩,ho,hm⟩:=hm;simp only[Z4C]at hm;obtain⟨rfl,rfl,rfl,rfl⟩:=hm;obtain⟨v,hv,X,hX,hown⟩:=hr.ownOf ho;have hrel:a.tmps[q]?=some (a.eval x):=ZN hr (Zb s c) hk rfl 0;rw[hv]at hrel;simp only[Z4s]at hrel;rw[<-hrel];exact⟨X,hX,hown,hv⟩
 ·rename_i x _ _ q j hk;simp only[Z4t]at hm;obtain⟨cs,hmem,hm⟩:=hm;split at hm
  ·rename_i ty' e' hc;simp only[Z4s,Z4C]at hm;obtain⟨rfl,rfl,rfl,rfl⟩:=hm;obtain⟨b,vs,T,h1,h2,h3,h4⟩:=hr.memOf hmem;obtain⟨X,hX,hown⟩:=h4.2 j _ hc;obtain⟨b',h1',hcell⟩:∃b,h.bl q 0=some b/\w.cell? ⟨b,j,none⟩=some (a.eval x):=ZN hr (Zb s c) hk rfl 0;rw[h1]at h1';cases h1';rw[Z4Q w b j vs T (0,0) h3]at hcell;have hget:vs.getD j undef=a.eval x:=by simp[Z4y,hcell]
   rw[hget]at hown;exact⟨X,hX,hown,cs,hmem,hc,b,vs,T,h1,h2,h3,h4,hget⟩
  ·cases hm
 ·cases hm
theorem yH(hr:RelG c B G s a w h g)(ha:a'.tmps=a.tmps){T:TypeId}{x:Operand}{f:E->E}{m:MS}(hm:HT g T x f=some m)(hes:∀e∈m.es,∃z,eval s e=some z)
  (hform:∀e z,eval s (f e)=some z->∃X,eval s e=some X/\∃id ks xs,X=.mp id ks xs):
  ∃e id ks xs b es clk,eval s e=some (.mp id ks xs)/\(∃z,eval s (f e)=some z)/\a.eval x=.map (some b)/\w.heap[b]?=some (.map es clk)/\ks.length=es.size/\xs.length=es.size/\
   (∀(i:Nat) (c:V),ks[i]?=some c->Rd w h.F c (es.getD i default).key)/\(∀(i:Nat) (c:V),xs[i]?=some c->Rd w h.F c (es.getD i default).val)/\
   ∀ks' xs' es' clk',eval s (f e)=some (.mp id ks' xs')->ks'.length=es'.size->xs'.length=es'.size->(∀(i:Nat) (c:V),ks'[i]?=some c->Rd w h.F c (es'.getD i default).key)->(∀(i:Nat) (c:V),xs'[i]?=some c->Rd w h.F c (es'.getD i default).val)->
    MPost c B G s a' w (setB w b (.map es' clk')) h h m:=by
 unfold HT at hm;simp only[Z4t]at hm;obtain⟨⟨p,i,ty,e⟩,hat,hm⟩:=hm;split at hm
 ·rename_i hty;simp only at hty;subst hty;simp only[Z4w]at hm;obtain⟨k,hput,rfl⟩:=hm;obtain⟨X,hX,hown,hplace⟩:=F7 hr hat;obtain⟨z,hz⟩:=hes _ (List.Mem.head _);obtain⟨X',hX',id,ks,xs,rfl⟩:=hform e z hz;rw[hX]at hX';cases hX';obtain⟨l,_,hl,_⟩|⟨id',ks',xs',b,es,clk,hX2,hv,hbl,hB,hid,hh,h1,h2,h3,h4⟩:=hown
  ·cases hl
  cases hX2;refine⟨e,id,ks,xs,b,es,clk,hX,⟨z,hz⟩,hv,hh,h1,h2,h3,h4,λks' xs' es' clk' he h1' h2' h3' h4'=> ?_⟩;obtain⟨hBb,hlt,hnF⟩:=hr.ok.b_lt p (plI i) b hbl;have hF:Same h.F w (setB w b (.map es' clk')):=λy hy=>WN w b y _ λe=>hnF (e▸hy)
  have hown':OwnV c.P B (setB w b (.map es' clk')) h (h.bl p (plI i)) ty (.mp id ks' xs') (a.eval x):=
   .inr ⟨id,ks',xs',b,es',clk',rfl,hv,hbl,hB,hid,O8 _ hlt,h1',h2',λi c hi=>(h3' i c hi).keep hF λ_ hb=>hb,λi c hi=>(h4' i c hi).keep hF λ_ hb=>hb⟩
  refine⟨⟨C3 w _ hB,λy hy hn=>WN w b y _ λe=>hn p Z1 (plI i) (e▸hbl),λ_ hb=>hb,λ_ _ _=>rfl,λ_ _=>rfl,λ_ _ _ _ hm=>Z4o,rfl⟩,
   ⟨by grind [TV],λy hy=>by rw[TV];exact hr.ok.f_lt y hy,hr.ok.f_or,hr.ok.g_F,λt j y hy=>by rw[TV];exact hr.ok.b_lt t j y hy,hr.ok.inj,λy hy=>by rw[TV];exact hr.ok.k_lt y hy,hr.ok.k_bl,hr.ok.k_F⟩,?_⟩
  cases i with
  |none=>
   simp only[Mp,Z4s]at hput;subst hput;exact Yf (ts:=[]) ⟨_,by rw[ha];exact hplace,_,he,hown'⟩
  |some j=>
   obtain⟨cs,hmem,hc,b0,vs,T',e1,e2,e3,e4,e5⟩:=hplace;obtain⟨cs',hmem',hle,rfl⟩:=VU hput;rw[hmem]at hmem';cases hmem'
   have hbn:b0≠b:=λe=>by
    simp_all
   obtain⟨hsl,hget⟩:=Wi hle;refine Yf (ts:=[]) ⟨_,Z3M,b0,vs,T',e1,rfl,by simp_all[WN],by rw[e4.1,hsl],λq ck hi=> ?_⟩;obtain⟨q1,q2,q3⟩|⟨q1,q3⟩:=hget q ck hi
   ·have hiq:q=j:=by simp only[Z62]at q2;omega
    subst hiq;simp at q3;subst q3;exact⟨_,he,by rw[e5];exact hown'⟩
   ·refine(e4.2 q ck q3).keep hF (λ_ hb=>hb) λy hy=>WN w b y _ λe=> ?_;subst e;have:=(hr.ok.inj p (q+1) p (j+1) y hy hbl).2
    grind
 ·cases hm
theorem jT(hr:RelG c B G s a w h g)(ha:a'.tmps=a.tmps){T ty:TypeId}{x:Operand}{m:MS}(hm:jS c g T x=some m)(hes:∀e∈m.es,∃z,eval s e=some z):
  ∃v w' h',(Builtin.clear_ #[T] ty #[a.eval x]).run c.P w=.ok v w'/\MPost c B G s a' w w' h h' m:=by
 unfold jS at hm;split at hm
 ·rename_i hT;unfold EQ at hT;split at hT
  ·rename_i kt el hT'
   obtain⟨e,id,ks,xs,b,es,clk,h1,_,h3,h4,h5,h6,h7,h8,h9⟩:=yH hr ha hm hes λe z hz=>by
    simp only[eval,Z4t]at hz;obtain⟨X,hX,hz⟩:=hz;refine⟨X,hX,?_⟩;cases X<;>simp[F9]at hz
    simp
   refine⟨.tuple #[],setB w b (.map #[] clk),h,?_,h9 [] [] #[] clk (by simp[eval,h1,F9]) rfl rfl (λi c hi=>Z43) (λi c hi=>Z43)⟩;rw[h3];simp[Builtin.clear_,Z5e hT',Z66 h4,Z7l _ h4,Result.andThen,setB]
  ·cases hT
 ·cases hm
theorem QX(hr:RelG c B G s a w h g)(ha:a'.tmps=a.tmps){T:TypeId}{x k v:Operand}{m:MS}(hm:UU c g T x k v=some m)(hes:∀e∈m.es,∃z,eval s e=some z):
  ∃w' h',(Instr.mapUpdate T (a.eval x) (a.eval k) (a.eval v)).run c.P w=.ok () w'/\MPost c B G s a' w w' h h' m:=by
 unfold UU at hm;split at hm
 ·rename_i kt el hT;simp only[Z4t]at hm;obtain⟨kc,hkc,ek,hk,ev,hv,hm⟩:=hm;split at hm
  ·cases hm
  ·rename_i hemp;have hsh:ev.2=[]:=by simpa using hemp
   obtain⟨kv,hkv,hkr⟩:=Xf hr (Zb s c) hk;obtain⟨vv,hvv,hvr⟩:=Xf hr (Zb s c) hv;rw[hsh]at hvr;have hvr:=hvr.F
   obtain⟨e,id,ks,xs,b,es,clk,h1,⟨z,hz⟩,h3,h4,h5,h6,h7,h8,h9⟩:=yH hr ha hm hes λe z hz=>by
    simp only[eval,hkv,hvv,Z4E,Z4t]at hz;obtain⟨X,hX,hz⟩:=hz;obtain⟨_,_,_,_,_,rfl,_⟩:=KN hz;exact⟨_,hX,_,_,_,rfl⟩
   have hz0:=hz;simp only[eval,h1,hkv,hvv,Z4E]at hz;unfold QY at hz;split at hz
   ·cases hz
   rename_i hik;have hik:isK kc kv=true:=by simpa using hik
   have hkd:=ym hkc;have hkey:=QR hik hkr;have hkF:Rd w h.F kv (a.eval k):=hkr.flat (by cases kc<;>cases kv<;>simp[isK,V.flatc]at hik⊢);have hck:=Z7O (w:=w) hkd hkey;have hks:=run_keyThatStays (P:=c.P) (w:=w) hkey;simp only at hz;rw[h3];split at hz
   ·rename_i j hf;obtain⟨en,e1,e2,e3⟩:=WA (w2:=w) (G'':=h.F) hik hkr hf (l:=es.toList) (by simpa using h5) (λi c hi=>by simpa[Z4y]using h7 i c hi) 0;simp only[Z4s]at hz;subst hz;have hj:es[j]?=some en:=by simpa using e1
    have hjl:j<es.size:=(Z4z.1 hj).1;have hfk:=Z7E (w:=w) hkd e3;refine⟨setB w b (.map (es.modify j λe=> {e with key:=a.eval k,val:=a.eval v}) clk),h,?_,h9 _ _ _ _ hz0 (by simpa using h5) (by simpa using h6) (λi c hi=> ?_) (λi c hi=> ?_)⟩
    ·have:es[j]=en:=by rw[Z4X hjl]at hj;simpa using hj
     simp[Instr.mapUpdate,Z5e hT,Z66 h4,hck,hfk,hj,this,e2,hks,Z7l _ h4,Result.andThen,setB]
    ·have:=h7 i c hi;rw[Z4y,Z5T];rw[Z4y]at this;by_cases hij:j=i
     ·subst hij;rw[hj]at this;simp only[Z5b,hj,Z4K,Z4W];simp only[Z4W,e2]at this;exact this
     ·rw[if_neg hij];exact this
    ·rw[Z4y,Z5T];by_cases hij:j=i
     ·subst hij;simp only[Z5b,hj,Z4K,Z4W];rw[Z8f Z0]at hi;cases hi;exact hvr
     ·rw[if_neg hij];rw[Z7x hij]at hi;have:=h8 i c hi;rw[Z4y]at this;exact this
   ·rename_i hf;have e3:=WA (w2:=w) (G'':=h.F) hik hkr hf (l:=es.toList) (by simpa using h5) (λi c hi=>by simpa[Z4y]using h7 i c hi) 0;simp only[Z4s]at hz;subst hz;have hfk:=Z7E (w:=w) hkd e3;refine⟨setB w b (.map (es.push {key:=a.eval k,val:=a.eval v,born:=clk}) (clk+1)),h,?_,h9 _ _ _ _ hz0 (by simp[h5]) (by simp[h6]) (λi c hi=> ?_) (λi c hi=> ?_)⟩
    ·simp[Instr.mapUpdate,Z5e hT,Z66 h4,hck,hfk,Z7l _ h4,Result.andThen,setB]
    ·rw[Z4y,Z6H];by_cases hlt:i<ks.length
     ·rw[Z57 hlt]at hi;rw[if_neg Z0];have:=h7 i c hi;rw[Z4y]at this;exact this
     ·rw[Z4S Z0]at hi
      have hi0:i=ks.length:=by
       have:=(Z4v.1 hi).1;simp at this;omega
      subst hi0;simp at hi;subst hi;rw[if_pos h5];exact hkF
    ·rw[Z4y,Z6H];by_cases hlt:i<xs.length
     ·rw[Z57 hlt]at hi;rw[if_neg Z0];have:=h8 i c hi;rw[Z4y]at this;exact this
     ·rw[Z4S Z0]at hi
      have hi0:i=xs.length:=by
       have:=(Z4v.1 hi).1;simp at this;omega
      subst hi0;simp at hi;subst hi;rw[if_pos h6];exact hvr
   ·cases hz
 ·cases hm
end
end Vm
namespace Vm
open Go
open Go.RowKit (Below)
theorem WP:∀ {cs:List (CK×E)} {ts:List Nat} {i t:Nat},ZS cs ts i=some t->t∈ts
 | [],_,_,_,h=>by simp[ZS]at h
 | (k,e)::cs,ts,i,t,h=>by
   cases k with
   |own ty=>
    cases ts with
    |nil=>simp[ZS]at h
    |cons u ts=>
     cases i with
     |zero=>simp[ZS]at h;simp[h]
     |succ i=>exact Z53 _ (WP (by simpa[ZS]using h))
   |_=>
    cases i with
    |zero=>simp[ZS]at h
    |succ i=>exact WP (by simpa[ZS]using h)
theorem SR:∀ {cs:List (CK×E)} {ts:List Nat} {i j t:Nat},ts.Nodup->ZS cs ts i=some t->ZS cs ts j=some t->i=j
 | [],_,_,_,_,_,h,_=>by simp[ZS]at h
 | (k,e)::cs,ts,i,j,t,hn,h,h'=>by
   cases k with
   |own ty=>
    cases ts with
    |nil=>simp[ZS]at h
    |cons u ts=>
     obtain⟨h1,h2⟩:=Z6k.1 hn;cases i with
     |zero=>
      cases j with
      |zero=>rfl
      |succ j=>
       grind [ZS,absurd,WP]
     |succ i=>
      cases j with
      |zero=>
       grind [ZS,absurd,WP]
      |succ j=>exact Z5J (· +1) (SR h2 (by simpa[ZS]using h) (by simp_all[ZS]))
   |_=>
    cases i with
    |zero=>simp[ZS]at h
    |succ i=>
     cases j with
     |zero=>simp[ZS]at h'
     |succ j=>exact Z5J (· +1) (SR hn (by simpa[ZS]using h) (by simp_all[ZS]))
section
variable {c:Ctx}{B:Nat}{G:Nat->Prop}{s:St}{a a':Act}{w w':World}{h h':GH}{g:Gam}{C:Zg}{fz ps rb:List Nat}
theorem jR(hr:RelG c B G s a w h g){T:TypeId}{parts:Array (Nat×Operand)}{d:Nat}(hd:d<a.tmps.size){m:MS}(hm:jQ c g d T parts.toList=some m)(hes:∀e∈m.es,∃z,eval s e=some z):
  ∃v h',(Instr.build T (parts.map λ(i,x)=>(i,a.eval x))).run c.P w=.ok v w/\MPost c B G s (a.put (some d) v) w w h h' m:=by
 unfold jQ at hm
 ·simp only[Z4t]at hm;obtain⟨fs,hT,zs,hz,b,hb,hm⟩:=hm;split at hm
  ·cases hm
  ·rename_i hcond;simp only[Z4L,Z5m,not_or,Z65,not_exists,not_and,Z6Y]at hcond;obtain⟨hts,hnd⟩:=hcond;have hnd:=UV hnd
   have hts:∀t∈b.2.2,t∉b.2.1/\t≠d:=by
    intro t ht;have:=hts t ht;simp only[Z5W,Z4N,Z59]at this;exact⟨this.1.1,this.1.2⟩
   simp only[Z4s]at hm;subst hm;obtain⟨z,hz1⟩:=hes _ (List.Mem.head _);have hz1':=hz1;simp only[eval,Z4w]at hz1';obtain⟨xs,hxs,hxz⟩:=hz1';obtain⟨hl,hx⟩:=Yz hxs
   obtain⟨vs,hrun,hsz,howns,hcell⟩:=KX hr (Zb s c) hT hz hb (λck hck=>by
    obtain⟨i,hi⟩:=Z4V hck;obtain⟨x,_,he⟩:=hx i ck.2 Z3M;simp_all)
   obtain⟨hok1,_⟩:=U4 hr.ok b.2.1
   let f:Nat->Option Nat:=λi=>match i with|0=>none|i+1=>(ZS b.1 b.2.2 i).bind λt=>(h.thaw b.2.1).bl t 1
   have hf:∀i x,f i=some x->∃i' t,i=i'+1/\ZS b.1 b.2.2 i'=some t/\(h.thaw b.2.1).bl t 1=some x:=by
    intro i x hi;cases i with
    |zero=>cases hi
    |succ i=>
     simp only[f,Z4t]at hi;simp_all
   refine⟨.agg vs,(h.thaw b.2.1).put d f (lost (h.thaw b.2.1) b.2.2),hrun,Step.after (XG (Z5i _ _) (λ_ _ _=>rfl) Z1 (λu hu=>⟨by simp[hu],by simp[hu]⟩) (λhn=>by simp at hn)),
    hok1.put (Z4A _) (λu i b _ hb=>(ZQ hb).1) (λi x hx=> ?_) (λi j x hi hj=> ?_) (λi x u j hu hi hj=> ?_),Yf ⟨.agg vs,Wh hd _,vs,rfl,hsz,λi ck hi=> ?_⟩⟩
   ·grind
   ·obtain⟨i',t,rfl,ht,h1⟩:=hf i x hi;obtain⟨j',t',rfl,ht',h1'⟩:=hf j x hj;have:=(hok1.inj t 1 t' 1 x h1 h1').1
    grind [SR]
   ·obtain⟨i',t,rfl,ht,h1⟩:=hf i x hi;obtain⟨k1,k2⟩:=ZQ hj;exact k2 ((hok1.inj u j t 1 x k1 h1).1▸WP ht)
   ·have hbl:((h.thaw b.2.1).put d f (lost (h.thaw b.2.1) b.2.2)).bl d (i+1)=(ZS b.1 b.2.2 i).bind λt=>(h.thaw b.2.1).bl t 1:=by simp[GH.put,f]
    rw[hbl];have hc:=hcell i ck hi;unfold BRel at hc;obtain⟨kk,e⟩:=ck;cases kk with
    |own ty=>
     obtain⟨t,h1,h2,h3,y,hy,hown⟩:=hc;refine⟨y,hy,hown.mono (λ_ hb=>.inl hb) ?_⟩;simp_all[GH.thaw]
    |nil=>exact hc
    |fz=>
     obtain⟨y,h1,h2,h3⟩:=hc;exact⟨y,h1,h2,h3.mono (zj λp hp=>hp)⟩
    |dead=>grind
theorem UJ(hok:Ok B G w h){o:Option Nat}(ho:∀b,o=some b->∃t i,h.bl t i=some b){el T ty:TypeId}{x z:V}{v y:Value}(hv:OwnV c.P B w h o el x v)(hT:c.P.underlying T=some (.slice el))(hel:elOk c.P el=true)
  {l2:List V} {Gy:Nat->Prop} (hy:Rd w Gy (.sl l2) y) (hback:∀(i:Nat) (ck:V) (u:Value),(flat l2)[i]?=some ck->Rd w Gy ck u->Rd w h.F ck u) (hz:appV (c.P.cellsOf el) x (.sl l2)=some z):
  ∃v' w',(Builtin.append_ #[T,T] ty #[v,y]).run c.P w=.ok v' w'/\Below B w w'/\(∀b,b<w.heap.size->o≠some b->w'.heap[b]?=w.heap[b]?)/\
   (v'.ownBlock=o\/∀b,v'.ownBlock=some b->w.heap.size<=b/\b<w'.heap.size)/\∀h':GH,h'.F=h.F->OwnV c.P B w' h' v'.ownBlock el z v':=by
 obtain⟨l,xs,rfl,h0,hfit,hown,hb,hrd⟩|⟨_,_,_,_,_,_,rfl,_⟩:=hv
 case inr=>grind [Ww]
 obtain⟨l1,r,hl1,hr1,hlim,hsz,rfl⟩:=Ww hz;cases hl1;cases hr1;obtain⟨v',w',news,hrun,hown',hg,hor,hfit2,hnews⟩:=T8 (ty:=ty) hT hel hown hok.base hy hsz hlim;have hsame:∀b,b<w.heap.size->o≠some b->w'.heap[b]?=w.heap[b]? :=λb hb hn=>hg.block b hb Z3L
 have hFs:Same h.F w w':=λb hb=>hsame b (hok.f_lt b hb) λe=>by
  obtain⟨t,i,hi⟩:=ho b e;exact(hok.b_lt t i b hi).2.2 hb
 refine⟨v',w',hrun,(Z5i B w).grown hg hok.base λk hk=> ?_,hsame,?_,λh' hF=>.inl ⟨l++l2,xs++news,rfl,h0,λx hx=> ?_,Z3M,rfl,λi ck hi=> ?_⟩⟩
 ·rw[‹v.ownBlock=o›]at hk;obtain⟨t,i,hi⟩:=ho k hk;exact(hok.b_lt t i k hi).1
 ·obtain h1|⟨h1,h2⟩:=hor
  ·simp_all
  ·exact .inr λb hb=>h2.lt b hb
 ·obtain hx|hx:=Z4R.1 hx
  ·simp_all
  ·exact hfit2 x hx
 ·have hfl:=Yb hfit;rw[UO]at hi;by_cases hlt:i< (flat l).length
  ·rw[Z57 hlt]at hi;obtain⟨u,hu,hr⟩:=hrd i ck hi;exact⟨u,Z3L,hr.keep hFs λb hb=>Z3M⟩
  ·rw[Z4S Z0]at hi;obtain⟨u,hu,hr⟩:=hnews _ ck hi;have hxl:xs.length=(flat l).length:=by rw[hown.1,hfl]
   exact⟨u,Z3L,(hback _ ck u hi hr).keep hFs λb hb=>Z3M⟩
theorem La{e1 e2:E}{k:Nat}{z:V}(hz:eval s (.app e1 e2 k)=some z):∃x y,eval s e1=some x/\eval s e2=some y/\appV k x y=some z:=by
 simp_all[eval,Z4t]
theorem K8(hok:Ok B G w h){t0 i0 d:Nat}{ts:List Nat}{o:Option Nat}(ho:∀b,o=some b->∃t∈ts,h.bl t 1=some b)(hdt:d∉ts){v':Value}(hb:Below B w w')(hsame:∀b,b<w.heap.size->o≠some b->w'.heap[b]?=w.heap[b]?)
  (hor:v'.ownBlock=o\/∀b,v'.ownBlock=some b->w.heap.size<=b/\b<w'.heap.size):
  Ok B G w' (h.put d (λi=>if i=1 then v'.ownBlock else none) (lost h ts))/\Step B (d::ts) (d::ts) [] w w' h (h.put d (λi=>if i=1 then v'.ownBlock else none) (lost h ts)):=by
 have hf:∀i b,(if i=1 then v'.ownBlock else none)=some b->i=1/\((w.heap.size<=b/\b<w'.heap.size)\/∃t∈ts,h.bl t 1=some b):=by
  intro i b hi;split at hi
  ·grind
  ·cases hi
 refine⟨hok.put hb.size (λu i b _ hb=>(ZQ hb).1) (λi b hi=> ?_) (λi j b hi hj=>Z3L) (λi b u j hu hi hj=> ?_),
  XG hb (λb hb hn=>hsame b hb λe=> ?_) Z1 (λt ht=>⟨by simp[ht],by simp[ht]⟩) (λhn=>by simp at hn)⟩
 ·grind
 ·obtain⟨k1,k2⟩:=ZQ hj;rcases(hf i b hi).2 with h1|⟨t,ht,h1⟩
  ·have:=(hok.b_lt u j b k1).2.1;omega
  ·exact k2 ((hok.inj u j t 1 b k1 h1).1▸ht)
 grind
theorem yG(hr:RelG c B G s a w h g){T U ty:TypeId}{x y:Operand}{d:Nat}(hd:d<a.tmps.size){m:MS}(hm:LM c g d T U x y=some m)(hes:∀e∈m.es,∃z,eval s e=some z):
  ∃v w' h',(Builtin.append_ #[T,U] ty #[a.eval x,a.eval y]).run c.P w=.ok v w'/\MPost c B G s (a.put (some d) v) w w' h h' m:=by
 unfold LM at hm;split at hm
 ·rename_i el hT;have hT':=Dh hT;split at hm
  ·rename_i hcond;obtain⟨rfl,hel⟩:=hcond;simp only[Z4t]at hm;obtain⟨b0,hb0,hm⟩:=hm;generalize hbe:R1 (Xu c.P el) b0=be at hm;have hr1:=hr.frz be.2
   have elems:∀ {yy:V} {l2:List V},eval s be.1=some yy->yy=.sl l2->∃Gy,Rd w Gy (.sl l2) (a.eval y)/\∀(i:Nat) (ck:V) (u:Value),(flat l2)[i]?=some ck->Rd w Gy ck u->Rd w (h.thaw be.2).F ck u:=by
    rintro yy l2 hyy rfl;obtain⟨Gy,h1,h2⟩:=AU hr (Zb s c) hb0 (fl:=Xu c.P el) (by rw[hbe];exact hyy);rw[hbe]at h2;exact⟨Gy,h1,λi ck u hi hu=>(h2 _ rfl i ck u hi hu).mono (zj λp hp=>hp)⟩
   have slot:∀ {t:Nat} {e:E} {v:Value},t≠d->(∃y,eval s e=some y/\OwnV c.P B w (h.thaw be.2) ((h.thaw be.2).bl t 1) el y v)->m= {d:=[(d,[],.own el (.app e be.1 (c.P.cellsOf el))),(t,[],.no)],ps:=[d,t],rb:=[d,t],fz:=be.2,es:=[.app e be.1 (c.P.cellsOf el)]}->
     ∃v2 w' h',(Builtin.append_ #[T,T] ty #[v,a.eval y]).run c.P w=.ok v2 w'/\MPost c B G s (a.put (some d) v2) w w' h h' m:=by
    rintro t e v htd ⟨yv,hyv,hown⟩ rfl;obtain⟨z,hz⟩:=hes _ (List.Mem.head _);obtain⟨xx,yy,hxx,hyy,happ⟩:=La hz;rw[hyv]at hxx;cases hxx;obtain⟨_,l2,_,rfl,_⟩:=Ww happ;obtain⟨Gy,e1,e2⟩:=elems hyy rfl;obtain⟨v2,w',k1,k2,k3,k4,k5⟩:=UJ (ty:=ty) hr1.ok (λb hb=>⟨t,1,hb⟩) hown hT' hel e1 e2 happ;obtain⟨q1,q2⟩:=K8 (d:=d) (ts:=[t]) (t0:=0) (i0:=0) hr1.ok (λb hb=>⟨t,Z1,hb⟩) Z3L k2 k3 k4;exact⟨v2,w',_,k1,q2.after,q1,Yf (ts:=[t]) ⟨v2,Wh hd v2,z,hz,(k5 (h.thaw be.2) rfl).mono (λ_ hb=>hb) (by simp[GH.put])⟩⟩
   split at hm
   ·rename_i hk;simp only[Z4s]at hm;subst hm;have hv:=SF hr1 (Zb s c) hk;rw[hv];obtain⟨z,hz⟩:=hes _ (List.Mem.head _);obtain⟨xx,yy,hxx,hyy,happ⟩:=La hz;simp only[eval,Z4s]at hxx;subst hxx;obtain⟨_,l2,_,rfl,_⟩:=Ww happ;obtain⟨Gy,e1,e2⟩:=elems hyy rfl;obtain⟨i,zz,hi,hz1,hzs,h0,hby,hcs⟩:=VB hel;have hown:OwnV c.P B w (h.thaw be.2) none el (.sl []) (.slice none 0 0):=.inl ⟨[],[],rfl,Z0,λx hx=>Z4n,Z5R w B el _,rfl,λi ck hi=>by simp[flat]at hi⟩;obtain⟨v2,w',k1,k2,k3,k4,k5⟩:=UJ (ty:=ty) hr1.ok (λb hb=>by cases hb) hown hT' hel e1 e2 happ;obtain⟨q1,q2⟩:=K8 (d:=d) (ts:=[]) (t0:=0) (i0:=0) hr1.ok (λb hb=>by cases hb) Z1 k2 k3 k4;exact⟨v2,w',_,k1,q2.after,q1,Yf (ts:=[]) ⟨v2,Wh hd v2,z,hz,(k5 (h.thaw be.2) rfl).mono (λ_ hb=>hb) (by simp[GH.put])⟩⟩
   ·rename_i t ty' e hk;split at hm
    ·rename_i hcond;obtain⟨rfl,htd,_⟩:=hcond;simp only[Z4s]at hm;obtain⟨v,hv,hrel,_⟩:=hr1.look (Zb s c) (show look _ [] t=_ from hk) rfl;rw[Act.eval_tmp a t v hv];exact slot htd hrel hm.symm
    ·cases hm
   ·rename_i p hk;simp only[Z4t]at hm;obtain⟨⟨ty',e⟩,ho,hm⟩:=hm;split at hm
    ·rename_i hcond;obtain⟨hty,hpd⟩:=hcond;simp only at hty;subst hty;simp only[Z4s]at hm;obtain⟨u,hu,hrel⟩:=hr1.ownOf ho;have hv:=ZN hr1 (Zb s c) hk rfl 0;have huv:=hu.symm.trans hv;simp only[Z4s]at huv;rw[<-huv];exact slot hpd hrel hm.symm
    ·cases hm
   ·rename_i p i hk;simp only[Z4t]at hm;obtain⟨cs,hmem,hm⟩:=hm;split at hm
    ·rename_i ty' e hc;split at hm
     ·rename_i hcond;obtain⟨rfl,hpd⟩:=hcond;simp only[Z4w]at hm;obtain⟨k,hput,rfl⟩:=hm;obtain⟨cs',hmem',hle,rfl⟩:=VU hput;rw[hmem]at hmem';cases hmem';obtain⟨b,vs,tyb,hb,htm,hh,hcs⟩:=hr1.memOf hmem;have hv:=ZN hr1 (Zb s c) hk rfl 0;obtain⟨b',hb',hcell⟩:=hv;rw[hb]at hb';cases hb';rw[Z4Q w b i vs tyb (0,0) hh]at hcell;have hget:∀v,vs[i]?=some v->vs.getD i undef=v:=λv hv=>Z3M;obtain⟨yv,hyv,hown⟩:=hcs.2 i _ hc;rw[hget _ hcell]at hown;simp only at hown hyv;obtain⟨z,hz⟩:=hes _ (List.Mem.head _);obtain⟨xx,yy,hxx,hyy,happ⟩:=La hz;rw[hyv]at hxx;cases hxx;obtain⟨_,l2,_,rfl,_⟩:=Ww happ;obtain⟨Gy,e1,e2⟩:=elems hyy rfl;obtain⟨v2,w',k1,k2,k3,k4,k5⟩:=UJ (ty:=ty) hr1.ok (λb hb=>⟨p,i+1,hb⟩) hown hT' hel e1 e2 happ;have hF:Same (h.thaw be.2).F w w':=λx hx=>k3 x (hr1.ok.f_lt x hx) λe=>(hr1.ok.b_lt p (i+1) x e).2.2 hx
      have hbw:w'.heap[b]?=w.heap[b]? :=k3 b (hr1.ok.b_lt p 0 b hb).2.1 λe=>by
       have:=(hr1.ok.inj p 0 p (i+1) b hb e).2;omega
      obtain⟨hsl,hgetc⟩:=Wi hle
      have hf:∀j x,(if j=1 then v2.ownBlock else none)=some x->j=1/\((w.heap.size<=x/\x<w'.heap.size)\/(h.thaw be.2).bl p (i+1)=some x):=by
       intro j x hj;split at hj
       ·grind
       ·cases hj
      have hrr:∀u j x,(if u=p/\j=i+1 then none else(h.thaw be.2).bl u j)=some x->(h.thaw be.2).bl u j=some x/\¬(u=p/\j=i+1):=by
       intro u j x hj;split at hj
       ·cases hj
       ·grind
      refine⟨v2,w',(h.thaw be.2).put d (λj=>if j=1 then v2.ownBlock else none) (λu j=>if u=p/\j=i+1 then none else(h.thaw be.2).bl u j),k1,Step.after ⟨k2,λx hx hn=>k3 x hx λe=>hn p Z1 (i+1) e,λ_ hb=>hb,λt ht _=> ?_,λt ht=> ?_,λ_ _ _ _ hm=>Z4o,rfl⟩,
       hr1.ok.put k2.size (λu j x _ hx=>(hrr u j x hx).1) (λj x hx=> ?_) (λj j' x hj hj'=>Z3L) (λj x u j' hu hj hj'=> ?_),λt ht=> ?_⟩
      ·grind [GH.put]
      ·have h1:t≠d:=Z3L;simp[GH.put,h1]
      ·grind
      ·obtain⟨q1,q2⟩:=hrr u j' x hj';rcases(hf j x hj).2 with h1|h1
       ·have:=(hr1.ok.b_lt u j' x q1).2.1;omega
       ·exact q2 (hr1.ok.inj u j' p (i+1) x q1 h1)
      ·simp only[Zw,Z4T,Z6a,Z4H,Z5t,Z6u]at ht;by_cases htd:t=d
       ·subst htd;simp only[Gam.at,Z5b];exact⟨trivial,λ_=>⟨v2,Wh hd v2,z,hz,(k5 (h.thaw be.2) rfl).mono (λ_ hb=>hb) (by simp[GH.put])⟩⟩
       ·have htp:t=p:=ht.resolve_left htd;subst htp;simp only[Gam.at,if_neg (Z6K htd),Z5b];refine⟨trivial,λ_=>⟨_,by grind [Je],b,vs,tyb,by simpa[GH.put,htd]using hb,rfl,Z3L,by rw[hcs.1,hsl],λj ck hj=> ?_⟩⟩;obtain⟨h1,h2,h3⟩|⟨h1,h3⟩:=hgetc j ck hj
        ·have hjq:j=i:=by simp only[Z62]at h2;omega
         subst hjq;simp at h3;subst h3;exact(hcs.2 j _ hc).cell
        ·have hji:j≠i:=by simp only[Z62]at h1;omega
         have hbl:((h.thaw be.2).put d (λj=>if j=1 then v2.ownBlock else none) (λu j=>if u=t/\j=i+1 then none else(h.thaw be.2).bl u j)).bl t (j+1)=(h.thaw be.2).bl t (j+1):=by simp[GH.put,htd,hji]
         rw[hbl]
         exact(hcs.2 j ck h3).keep hF (λ_ hb=>hb) λx hx=>k3 x (hr1.ok.b_lt t (j+1) x hx).2.1 λe=>by
          have:=(hr1.ok.inj t (j+1) t (i+1) x hx e).2;omega
     ·cases hm
    ·cases hm
   ·cases hm
  ·cases hm
 ·cases hm
def MRun(c:Ctx)(B:Nat)(G:Nat->Prop)(s:St)(a:Act)(w:World)(h:GH)(o:Oper)(m:MS):Prop:=
 ∃n u w' h',(execOp a.eval o).run c.P w=.ok n w'/\(n=.value u\/n=.skip/\u=undef)/\MPost c B G s (a.put o.dst u) w w' h h' m
theorem m7(hr:RelG c B G s a w h g){o:Oper}(hd:∀d,o.dst=some d->d<a.tmps.size){m:MS}(hm:mk c g o=some m)(hes:∀e∈m.es,∃z,eval s e=some z):MRun c B G s a w h o m:=by
 obtain⟨dst,op,type,pos,after,guard⟩:=o;unfold mk at hm;simp only at hm hd;split at hm
 ·rename_i x d;obtain⟨h',hp⟩:=Rc hr (hd _ rfl) hm hes;exact⟨_,_,w,h',rfl,.inl rfl,hp⟩
 ·rename_i x d;obtain⟨h',hp⟩:=Rc hr (hd _ rfl) hm hes;exact⟨_,_,w,h',rfl,.inl rfl,hp⟩
 ·rename_i T ad x;unfold Fe at hm;split at hm
  ·cases hm
  ·rename_i hcond;simp only[Z4L,Z5m,not_or,Z6Y,Bool.or_eq_false_iff,not_and,Z59]at hcond;obtain⟨hT,hT1⟩:=hcond
   have hT1:Zn c.P T=true\/c.P.cellsOf T=1:=by
    cases hag:Zn c.P T with
    |true=>simp
    |false=>simp_all
   have fin:∀ {va:Value},a.eval ad=va->(∃w' h',(Instr.storeAt T va (a.eval x)).run c.P w=.ok () w'/\MPost c B G s a w w' h h' m)->MRun c B G s a w h {dst:=none,op:=.store T ad x,type,pos,after,guard} m:=by
    rintro va rfl ⟨w',h',h1,h2⟩;refine⟨.skip,undef,w',h',?_,.inr ⟨rfl,rfl⟩,h2⟩;simp[execOp,h1]
   split at hm
   ·rename_i cs hk;obtain⟨t,rfl,⟨v,hv,hev,⟨b,vs,ty,h1,rfl,_⟩⟩,_⟩:=(Ue hr (Zb s c) hk rfl).resolve_left Z1;exact fin hev (Re hr hT hT1 hm hes h1)
   ·rename_i p o hk;obtain⟨b,h1,h2⟩:=ZN hr (Zb s c) hk rfl 0
    grind [Re]
   ·rename_i p i j o k hk;obtain⟨n,q,h1,⟨ki,h2⟩,h3⟩:=ZN hr (Zb s c) hk rfl 0
    grind [yJ]
   ·rename_i p o j n k hk;obtain⟨b,q,h1,⟨ki,h2⟩,h3,h4⟩:=ZN hr (Zb s c) hk rfl 0
    grind [yI]
   ·cases hm
 ·rename_i T parts d;obtain⟨v,h',h1,h2⟩:=jR hr (hd _ rfl) hm hes;exact⟨.value v,v,w,h',by simp[execOp,h1],.inl rfl,h2⟩
 ·rename_i T x d;obtain⟨v,w',h',h1,h2⟩:=Fc hr (hd _ rfl) hm;exact⟨.value v,v,w',h',by simp[execOp,h1],.inl rfl,h2⟩
 ·rename_i T m' k v;obtain⟨w',h',h1,h2⟩:=QX (a':=a) hr rfl hm hes;exact⟨.skip,undef,w',h',by simp[execOp,h1],.inr ⟨rfl,rfl⟩,h2⟩
 ·rename_i args argTypes;split at hm
  ·rename_i x T hx hT;have hargs:args=#[x]:=Z5L.1 Z0;have htys:argTypes=#[T]:=Z5L.1 Z0;subst hargs htys;obtain⟨v,w',h',h1,h2⟩:=jT (a':=a) (ty:=type) hr rfl hm hes;exact⟨.value v,v,w',h',by simp[execOp,resolve,invoke,builtin,h1],.inl rfl,h2⟩
  ·cases hm
 ·rename_i args argTypes d;split at hm
  ·rename_i x y T U hx hT;have hargs:args=#[x,y]:=Z5L.1 Z0;have htys:argTypes=#[T,U]:=Z5L.1 Z0;subst hargs htys;obtain⟨v,w',h',h1,h2⟩:=yG (ty:=type) hr (hd _ rfl) hm hes;exact⟨.value v,v,w',h',by simp[execOp,resolve,invoke,builtin,h1],.inl rfl,h2⟩
  ·cases hm
 ·cases hm
end
end Vm
namespace Vm
open Go
def Dj(calls:FuncId->Array Value->World->(Ending->World->Prop)->Prop)(o:Oper)(a:Act)(K:Act->World->Prop):Result Next->Prop
 |.ok (.value v) w'=>K (a.put o.dst v) w'
 |.ok .skip w'=>K (a.put o.dst undef) w'
 |.ok (.enter f args) w'=>calls f args w' λe w''=>∃v,e=.returned v/\K (a.put o.dst v) w''
 |_=>False
section
variable (calls:FuncId->Array Value->World->(Ending->World->Prop)->Prop)(o:Oper)(a:Act)(K:Act->World->Prop)(w:World)
theorem JD(v:Value):Dj calls o a K (.ok (.value v) w)=K (a.put o.dst v) w:=rfl
theorem Dk:Dj calls o a K (.ok .skip w)=K (a.put o.dst undef) w:=rfl
theorem JC(f:FuncId)(args:Array Value):Dj calls o a K (.ok (.enter f args) w)=calls f args w λe w''=>∃v,e=.returned v/\K (a.put o.dst v) w'':=rfl
end
def Z1L(sim:World->World->Prop)(P:Program)(fn:Func)(R:Ending->World->Prop):Exit->Act->World->Prop
 |.normal,a,w|.ret,a,w=>a.defers=[]/\∀w1,sim w w1->∃v,(results fn a.tmps).run P w1=.ok v w1/\R (.returned v) w1
 |_,_,_=>False
class Lg (P:Program) where
 wp:Code->(Exit->Act->World->Prop)->Act->World->Prop
 calls:FuncId->Array Value->World->(Ending->World->Prop)->Prop
 todo:Array Oper->(Exit->Act->World->Prop)->List Nat->Act->World->Prop
 sim:World->World->Prop
 fit:Oper->Prop
 sim_eq:∀ {w w1},sim w w1->w1= {w with drawn:=w1.drawn}
 calls_mono:∀ {f args w} {R R':Ending->World->Prop},calls f args w R->(∀e w',R e w'->R' e w')->calls f args w R'
 wp_mono:∀ {c a w} {Q Q':Exit->Act->World->Prop},wp c Q a w->(∀e a w,Q e a w->Q' e a w)->wp c Q' a w
 wp_skip:∀ {Q a w},Q .normal a w->wp .skip Q a w
 wp_label:∀ {l Q a w},Q .normal a w->wp (.label l) Q a w
 wp_exit:∀ {id Q a w},Q (.exit id) a w->wp (.exit id) Q a w
 wp_ret:∀ {Q a w},Q .ret a w->wp .ret Q a w
 wp_seq:∀ {x y Q a w},wp x (Exit.then (wp y Q) Q) a w->wp (.seq x y) Q a w
 wp_scope:∀ {x} {Q:Exit->Act->World->Prop} {a w},wp x (Exit.noGoto Q) a w->wp (.scope x) Q a w
 wp_cond_true:∀ {c x y Q} {a:Act} {w},a.eval c=.bool true->wp x Q a w->wp (.cond c x y) Q a w
 wp_cond_false:∀ {c x y Q} {a:Act} {w},a.eval c=.bool false->wp y Q a w->wp (.cond c x y) Q a w
 wp_block:∀ {id x Q a w},wp x (Exit.inBlock id Q) a w->wp (.block id x) Q a w
 wp_loop:∀ {x Q a w} (I:Act->World->Prop) (μ:Act->World->Nat),I a w->(∀a w,I a w->wp x (Exit.then (λa' w'=>I a' w'/\μ a' w'<μ a w) Q) a w)->wp (.loop x) Q a w
 wp_region:∀ {id ops Q a w},(∀o∈ops,fit o)->todo ops Q (List.range ops.size) a w->wp (.region id ops false) Q a w
 wp_draw:∀ {id ops Q a} {w:World},(∀o∈ops,fit o)->(∀w1,sim w w1->∀t,todo ops Q (Region.schedule (P.follows .mixedOrders) ops t) a {w1 with drawn:=w1.drawn+1})->wp (.region id ops true) Q a w
 todo_nil:∀ {ops Q a w},Q .normal a w->todo ops Q [] a w
 todo_cons:∀ {ops Q i rest a w},(∀o∈ops,fit o)->(∀w1,sim w w1->match ops[i]? with
   |none=>todo ops Q rest a w1
   |some o=>if Region.wanted o (yielded ops a.tmps)=true then Dj calls o a (todo ops Q rest) ((execOp a.eval o).run P w1)else todo ops Q rest (a.put o.dst undef) w1)->todo ops Q (i::rest) a w
 calls_of_wp:∀ {f fn c args w R},P.funcs[f]?=some fn->fn.body=some c->wp c (Z1L sim P fn R) {tmps:=args++Array.replicate (fn.ntmps-args.size) undef,defers:=[]} w->calls f args w R
instance (priority:=low) loneQ (P:Program):Lg P where
 wp c Q a w:=c.wp P Q a w
 calls f args w R:=Calls P f args w R
 todo ops Q l a w:=wpOps P ops Q l a w
 sim w w1:=w1=w
 fit _:=True
 sim_eq h:=by subst h;rfl
 calls_mono h k:=Z7Z h k
 wp_mono h k:=Go.wp_mono h k
 wp_skip h:=Go.wp_skip h
 wp_label h:=Go.wp_label h
 wp_exit h:=Go.wp_exit h
 wp_ret h:=Go.wp_ret h
 wp_seq h:=Go.wp_seq h
 wp_scope h:=Go.wp_scope_straight h
 wp_cond_true:=Go.wp_cond_true
 wp_cond_false:=Go.wp_cond_false
 wp_block h:=Go.wp_block h
 wp_loop I μ h k:=Go.wp_loop I μ h k
 wp_region _ h:=Go.wp_region h
 wp_draw _ h:=Go.wp_region_draw λt=>h _ rfl t
 todo_nil h:=h
 todo_cons {ops Q i rest a w} _ h:=by
  have h:=h w rfl;rw[wpOps_cons];unfold wpOp
  revert h
  cases hi:ops[i]? with
  |none=>exact id
  |some o=>
   dsimp only;split
   ·intro h;left;unfold Oper.wp
    revert h
    cases(execOp a.eval o).run P w with
    |halt x w'=>exact False.elim
    |ok n w'=>
     cases n<;>first|exact id|exact False.elim|skip
     exactλh=>Z7Z h λe w'' he=>by
      obtain⟨v,rfl,hk⟩:=he;exact hk
   ·exact id
 calls_of_wp {f fn c args w R} hf hb h:=Go.calls_of_wp hf hb (Go.wp_mono h λe a w he=>by
  cases e with
  |normal=>obtain⟨h1,h2⟩:=he;obtain⟨v,h3,h4⟩:=h2 w rfl;exact⟨h1,v,h3,h4⟩
  |ret=>obtain⟨h1,h2⟩:=he;obtain⟨v,h3,h4⟩:=h2 w rfl;exact⟨h1,v,h3,h4⟩
  |_=>exact he.elim)
def opG(P:Program) [Lg P](ops:Array Oper)(i:Nat)(K:Act->World->Prop)(a:Act)(w:World):Prop:=
 match ops[i]? with
 |none=>K a w
 |some o=>if Region.wanted o (yielded ops a.tmps)=true then Dj (Lg.calls P) o a K ((execOp a.eval o).run P w)else K (a.put o.dst undef) w
theorem I8{P:Program} [Lg P]{ops:Array Oper}{i:Nat}{K K':Act->World->Prop}{a:Act}{w:World}(h:∀a w,K a w->K' a w)(hh:opG P ops i K a w):opG P ops i K' a w:=by
 unfold opG at*;split
 ·exact h _ _ (by simpa[*]using hh)
 ·rename_i o ho;simp only[ho]at hh;split
  ·rename_i hw;rw[if_pos hw]at hh
   revert hh
   cases(execOp a.eval o).run P w with
   |halt x w'=>exact id
   |ok n w'=>
    cases n<;>first|exact id|exact h _ _|skip
    exactλh2=>Lg.calls_mono h2 λe w'' ⟨v,h3,h4⟩=>⟨v,h3,h _ _ h4⟩
  ·rename_i hw;rw[if_neg hw]at hh;exact h _ _ hh
def anyG(P:Program) [Lg P](ops:Array Oper)(Q:Exit->Act->World->Prop):Nat->Array Bool->Act->World->Prop
 |0,listed,a,w=>Region.ready .any ops listed=[]/\Q .normal a w
 |n+1,listed,a,w=>(Region.ready .any ops listed=[]->Q .normal a w)/\∀i∈Region.ready .any ops listed,∀w1,Lg.sim P w w1->opG P ops i (anyG P ops Q n (listed.setIfInBounds i true)) a w1
theorem C0{P:Program} [Lg P]{ops:Array Oper}{Q:Exit->Act->World->Prop}(hf:∀o∈ops,Lg.fit P o):∀(fuel t:Nat) (listed:Array Bool) (a:Act) (w:World),anyG P ops Q fuel listed a w->
  Lg.todo P ops Q (Region.linearise.go .any ops fuel t listed []) a w:=by
 intro fuel
 induction fuel with
 |zero=>intro t listed a w h;exact Lg.todo_nil h.2
 |succ fuel ih=>
  intro t listed a w h;obtain⟨h₀,h₁⟩:=h;simp only[Region.linearise.go]
  change Lg.todo P ops Q (match(Region.ready .any ops listed)[t% (Region.ready .any ops listed).length]? with
   |some i=>Region.linearise.go .any ops fuel (t / (Region.ready .any ops listed).length) (listed.setIfInBounds i true) [i]
   |none=>[].reverse) a w
  cases hi:(Region.ready .any ops listed)[t% (Region.ready .any ops listed).length]? with
  |none=>
   have hnil:Region.ready .any ops listed=[]:=by
    cases hr:Region.ready .any ops listed with
    |nil=>rfl
    |cons x xs=>
     rw[hr]at hi;have hlt:t% (x::xs).length< (x::xs).length:=Z7A _ Z1;simp at hi;simp at hlt;omega
   exact Lg.todo_nil (h₀ hnil)
  |some i=>
   simp only[];rw[linearise_go_acc,Z8g,Z7t];exact Lg.todo_cons hf λw1 hw=>I8 (λa w=>ih _ _ a w) (h₁ i (Z4B hi) w1 hw)
theorem Aj{P:Program} [Lg P]{ops:Array Oper}{Q:Exit->Act->World->Prop}{id:Nat}{a:Act}{w:World}(hf:∀o∈ops,Lg.fit P o)(hm:P.follows .mixedOrders=true)
  (h:∀w1,Lg.sim P w w1->anyG P ops Q ops.size (Array.replicate ops.size false) a {w1 with drawn:=w1.drawn+1}):Lg.wp P (.region id ops true) Q a w:=
 Lg.wp_draw hf λw1 hw t=>by
  simp only[Region.schedule,hm,Z7r,Z5b];exact C0 hf ops.size t _ a _ (h w1 hw)
def Th(p:Oper->Prop):Code->Prop
 |.region _ ops _=>∀o∈ops,p o
 |.seq x y=>Th p x/\Th p y
 |.cond _ x y=>Th p x/\Th p y
 |.block _ x|.loop x|.scope x=>Th p x
 |_=>True
class FitF (P:Program) [Lg P] (f:FuncId):Prop where
 all:∀fn c,P.funcs[f]?=some fn->fn.body=some c->Th (Lg.fit P) c
theorem Qe{p:Oper->Prop}(h:∀o,p o):∀c:Code,Th p c:=by
 intro c
 induction c with
 |region id ops d=>exactλo _=>h o
 |seq x y hx hy=>exact⟨hx,hy⟩
 |cond c x y hx hy=>exact⟨hx,hy⟩
 |block id x hx=>exact hx
 |loop x hx=>exact hx
 |scope x hx=>exact hx
 |_=>trivial
instance (priority:=low) fit_lone (P:Program) (f:FuncId): @FitF P (loneQ P) f:=⟨λ_ c _ _=>Qe (λ_=>trivial) c⟩
end Vm
namespace Vm
open Go
open Go.RowKit (Below)
def Yd(P:Program)(f:FuncId):Bool:=
 match P.funcs[f]? with
 |some fn=> !(fn.name== "runtime.NumGoroutine")&&fn.body.isSome
 |none=>false
def VC(P:Program) [Lg P](f:FuncId)(fr:Bool)(args:List V)(r:V):Prop:=
 Yd P f=true/\∀(w:World) (G:Nat->Prop) (vs:Array Value),(∀b,G b->b<w.heap.size)->vs.size=args.length->(∀(i:Nat) (x:V),args[i]?=some x->Rd w G x (vs.getD i undef))->
  Lg.calls P f vs w λe w'=>∃v,e=.returned v/\Below w.heap.size w w'/\Rd w' (λb=>(fr=false/\G b)\/(w.heap.size<=b/\b<w'.heap.size)) r v
def argK(k:OT)(x:V):Option TK:=
 match k,x with
 |.fz,x=>some (.val (.c x) [])
 |.own ty,x=>some (.own ty (.c x))
 |.mem l,.agg cs=>if cs.length=l.length then some (.mem ((l.zip cs).map λy=>(y.1,.c y.2)))else none
 |_,_=>none
def RelA(P:Program)(B:Nat)(w:World)(h:GH)(ks:List OT)(xs:List V)(vs:Array Value):Prop:=
 xs.length=ks.length/\vs.size=ks.length/\∀(i:Nat) (k:OT) (x:V),ks[i]?=some k->xs[i]?=some x->∃tk,argK k x=some tk/\RelK P B [] w h (λ_=>none) i (vs.getD i undef) tk
def RelB(P:Program)(B:Nat)(w:World)(h:GH)(ks:List OT)(ys:List V)(vs:Array Value):Prop:=
 ys.length=ks.length/\∀(i:Nat) (k:OT) (y:V),ks[i]?=some k->k≠.fz->ys[i]?=some y->∃tk,argK k y=some tk/\RelK P B [] w h (λ_=>none) i (vs.getD i undef) tk
def Xd:List OT->List V->List V
 |.fz::ks,_::ys=>Xd ks ys
 |_::ks,y::ys=>y::Xd ks ys
 |_,_=>[]
def CI(r:V)(os:List V):V:=
 match os with
 | []=>r
 |os=>.tup (r::os)
def VCM(P:Program) [Lg P](f:FuncId)(ks:List OT)(xs:List V)(R:V):Prop:=
 Yd P f=true/\∀(B:Nat) (w:World) (h:GH) (vs:Array Value),Ok B h.F w h->RelA P B w h ks xs vs->
  Lg.calls P f vs w λe w'=>∃v r ys h',e=.returned v/\Below B w w'/\Same h.K w w'/\Ok B h.F w' h'/\h'.K=h.K/\Rd w' h'.F r v/\RelB P B w' h' ks ys vs/\R=CI r (Xd ks ys)
def fnOf(s:St):FN->Option FuncId
 |.id f=>some f
 | .e x=>match eval s x with
   |some (.fn f)=>some f
   |_=>none
def cloV:V->Option (FuncId×List V)
 |.fn f=>some (f,[])
 |.clo f cs=>some (f,cs)
 |_=>none
def fnV(s:St):FN->Option (FuncId×List V)
 |.id f=>some (f,[])
 |.e x=>(eval s x).bind cloV
def oldV(s:St):List OT->List E->Option (List V)
 |.fz::ks,_::es=>oldV s ks es
 |_::ks,e::es=>(eval s e).bind λx=>(oldV s ks es).map (x:: ·)
 |_,_=>some []
def EFok(P:Program) [Lg P](s:St):EF->Prop
 |.lt i C e=>holds s C->∃x,eval s e=some x/\get s i=.v x
 |.call i C f fr fl aq_=>holds s C->∃xs n r,Yg s aq_=some xs/\fnV s f=some n/\VC P n.1 fr (xs++n.2) r/\(fl=true->flV r=some r)/\get s i=.v r
 | .callm i C f ks aq_=>(holds s C->∃xs n R,Yg s aq_=some xs/\fnOf s f=some n/\VCM P n ks xs R/\get s i=.v R)/\
   (¬holds s C->∃os,oldV s ks aq_=some os/\(os≠[]->get s i=.v (.tup (.bool false::os))))
section
variable {c:Ctx}{B:Nat}{G:Nat->Prop}{s:St}{a a':Act}{w w':World}{h h':GH}{g:Gam}{C:Zg}{fz ps rb:List Nat}{ops:Array Oper}
def UI:List (E×Option Nat)->Nat->Option Nat
 | [],_=>none
 |x::l,u=>if x.2=some u then some 0 else(UI l u).map (· +1)
theorem Wa:∀ {l:List (E×Option Nat)} {u i:Nat},UI l u=some i->∃e,l[i]?=some (e,some u)
 | [],u,i,hi=>by cases hi
 | (e,o)::l,u,i,hi=>by
   simp only[UI]at hi;split at hi
   ·rename_i ho;have ho:o=some u:=ho;simp only[Z4s]at hi;subst hi ho;exact⟨e,rfl⟩
   ·simp only[Z4w]at hi;obtain⟨j,hj,rfl⟩:=hi;obtain⟨e',he⟩:=Wa hj;exact⟨e',by simpa using he⟩
theorem Td:∀ {l:List (E×Option Nat)} {u:Nat},UI l u=none->u∉l.filterMap (·.2)
 | [],u,_,hm=>Z4o
 | (e,o)::l,u,hi,hm=>by
   simp only[UI]at hi;split at hi
   ·cases hi
   ·rename_i ho;have ho:¬o=some u:=ho;simp only[Z8h]at hi;have:=Td hi;simp_all
theorem Ur{l:List (E×Option Nat)}{e:E}{u i:Nat}(hi:l[i]?=some (e,some u)):u∈l.filterMap (·.2):=
 Z7i.2 ⟨_,Z4B hi,rfl⟩
theorem KO:∀ {l:List Nat},TG l=true↔l.Nodup
 | []=>by simp[TG]
 |x::l=>by
  simp_all[TG,Z4x,Z5m,Z5W,Z7k,Z6k,KO]
theorem Q6:∀ {l:List (E×Option Nat)} {e e':E} {u i j:Nat},(l.filterMap (·.2)).Nodup->l[i]?=some (e,some u)->l[j]?=some (e',some u)->i=j
 | [],e,e',u,i,j,_,hi,_=>Z43
 | (e0,o)::l,e,e',u,i,j,hn,hi,hj=>by
   have hn':(l.filterMap (·.2)).Nodup:=by
    cases o with
    |none=>simpa using hn
    |some p=>simp only[Z68,Z6k]at hn;exact hn.2
   cases i with
   |zero=>
    simp at hi;cases j with
    |zero=>rfl
    |succ j=>
     exfalso;have h1:=Ur (l:=l) (i:=j) (by simpa using hj);rw[hi.2]at hn;simp only[Z68,Z6k]at hn;exact hn.1 h1
   |succ i=>
    cases j with
    |zero=>
     exfalso;simp at hj;have h1:=Ur (l:=l) (i:=i) (by simpa using hi);rw[hj.2]at hn;simp only[Z68,Z6k]at hn;exact hn.1 h1
    |succ j=>
     have:=Q6 (i:=i) (j:=j) hn' (by simpa using hi) (by simpa using hj);rw[this]
theorem Gh{l:List (E×Option Nat)}(hn:(l.filterMap (·.2)).Nodup){e:E}{u i:Nat}(hi:l[i]?=some (e,some u)):UI l u=some i:=by
 cases hx:UI l u with
 |none=>exact absurd (Ur hi) (Td hx)
 |some j=>
  grind [Wa,Q6]
def XP(g:Gam)(h:GH)(ks:List OT)(aq_:List (E×Option Nat))(i j:Nat):Option Nat:=
 match(aq_[i]?).bind (·.2),ks[i]? with
 |some p,some (.mem _)=>match j with
  |0=>h.bl p 0
  |j+1=>match(memOf g p).bind λcs=>cs[j]? with
   |some (.own _,_)=>h.bl p (j+1)
   |_=>none
 |some p,some (.own _)=>if j=1 then h.bl p 1 else none
 |_,_=>none
theorem YR{ks:List OT}{aq_:List (E×Option Nat)}{i j b:Nat}(hb:XP g h ks aq_ i j=some b):∃p e k,aq_[i]?=some (e,some p)/\ks[i]?=some k/\k≠.fz/\h.bl p j=some b/\(∀ty,k=.own ty->j=1):=by
 unfold XP at hb
 grind
def XQ(g:Gam)(h:GH)(w:World)(ks:List OT)(aq_:List (E×Option Nat)):GH:=
 {F:=h.F,bl:=XP g h ks aq_,K:=λb=>b<w.heap.size/\∀i j,XP g h ks aq_ i j≠some b}
theorem zC(hok:Ok B G w h){ks:List OT}{aq_:List (E×Option Nat)}(hn:(aq_.filterMap (·.2)).Nodup):Ok B h.F w (XQ g h w ks aq_):=by
 refine⟨hok.base,hok.f_lt,λb hb=>.inl hb,λb hb=>hb,λt i b hb=> ?_,λt i u j b hb hb'=> ?_,λb hb=>hb.1,λt i b hb hK=>hK.2 t i hb,λb hb=>.inl hb⟩
 ·obtain⟨p,_,_,_,_,_,h1,_⟩:=YR hb;exact hok.b_lt p i b h1
 ·obtain⟨p,e,_,h1,_,_,h2,_⟩:=YR hb;obtain⟨q,e',_,h3,_,_,h4,_⟩:=YR hb';obtain⟨rfl,rfl⟩:=hok.inj p i q j b h2 h4;exact⟨Q6 hn h1 h3,rfl⟩
def apV(a:Act)(h:GH)(x:AP)(v:Value):Prop:=
 match x with
 |.op x _=>v=a.eval x
 |.cap p=>∃b,h.bl p 0=some b/\v=.pointer (some ⟨b,0,none⟩)
theorem KR:∀ {a b:List CK},KQ c.P a b=true->a.length=b.length/\∀(i:Nat) (x y:CK),a[i]?=some x->b[i]?=some y->x=y\/x=.nil/\(y=.fz\/∃ty,y=.own ty/\0<c.P.cellsOf ty)
 | [],[],_=>⟨rfl,λi x y hx=>Z4n⟩
 | [],_::_,h=>by simp[KQ]at h
 |_::_,[],h=>by simp[KQ]at h
 |x::a,y::b,h=>by
  simp only[KQ,Z4x,Z4L,Z59]at h;obtain⟨h1,h2⟩:=h;obtain⟨h3,h4⟩:=KR h2;refine⟨by simp[h3],λi x' y' hx hy=> ?_⟩;cases i with
  |zero=>
   simp at hx hy;subst hx hy;obtain h1|h1:=h1
   ·exact .inl h1
   ·split at h1
    ·simp only[Z4N]at h1;exact .inr ⟨rfl,.inr ⟨_,rfl,h1⟩⟩
    ·exact .inr ⟨rfl,.inl rfl⟩
    ·cases h1
  |succ i=>exact h4 i x' y' (by simpa using hx) (by simpa using hy)
theorem RelC.const{P:Program}{o:Option Nat}{k:CK}{e:E}{v:Value}{x:V}(hr:RelC P B s w h o k e v)(hx:eval s e=some x){h2:GH}(hF:h2.F=h.F):RelC P B [] w h2 o k (.c x) v:=by
 cases k with
 |fz=>obtain⟨y,h0,h1,h3⟩:=hr;rw[hx]at h0;cases h0;exact⟨x,rfl,h1,h3.mono λb hb=>Z3M⟩
 |own ty=>obtain⟨y,h0,h1⟩:=hr;rw[hx]at h0;cases h0;exact⟨x,rfl,h1.mono (λb hb=>Z3M) rfl⟩
 |nil=>obtain⟨h0,h1⟩:=hr;rw[hx]at h1;cases h1;exact⟨h0,rfl⟩
 |dead=>exact hr
theorem Gi(hr:RelG c B G s a w h g)(hC:holds s (ixC c C)){x:AP}{p:Nat}{v:Value}(hs:Od g C x=some p)(hv:apV a h x v):∃b,h.bl p 0=some b/\v=.pointer (some ⟨b,0,none⟩):=by
 unfold Od at hs;split at hs
 ·simp only[Z4s]at hs;subst hs;exact hv
 ·rename_i t ty;have hv:v=a.eval (.tmp t):=hv;subst hv;split at hs
  ·rename_i cs hk;simp only[Z4s]at hs;subst hs;obtain⟨v,hv,⟨b,vs,T,h1,h2,_⟩,_⟩:=hr.look hC (show look g C t=_ from hk) rfl;simp_all[Act.eval_tmp]
  ·rename_i q hk;simp only[Z4s]at hs;subst hs;exact ZN hr hC hk rfl 0
  ·cases hs
 ·cases hs
theorem Q1(hr:RelG c B G s a w h g){k:OT}{x:AP}{e:E}{p:Nat}(hp:VO c g C k x=some (e,some p)){X:V}(hX:eval s e=some X){ks:List OT}{aq_:List (E×Option Nat)}{i:Nat}(hk:ks[i]?=some k)(hi:aq_[i]?=some (e,some p)):
  ∃v,a.tmps[p]?=some v/\(∃tk,argK k X=some tk/\RelK c.P B [] w (XQ g h w ks aq_) (λ_=>none) i v tk)/\((∃l b,k=.mem l/\h.bl p 0=some b/\v=.pointer (some ⟨b,0,none⟩))\/∃ty,k=.own ty):=by
 unfold VO at hp;split at hp
 ·split at hp
  ·simp only[Z4t]at hp;obtain⟨_,_,hp⟩:=hp;split at hp
   ·simp at hp
   ·cases hp
  ·cases hp
 ·
  rename_i l;simp only[Z4t]at hp;obtain⟨p,hs,cs,hmem,hp⟩:=hp;split at hp
  ·rename_i hcond;simp only[Z4x,Z5m]at hcond;obtain⟨hdead,hpass⟩:=hcond;simp only[Z4s,Z4C]at hp;obtain⟨rfl,rfl⟩:=hp;obtain⟨b,vs,T,h1,h2,h3,h4⟩:=hr.memOf hmem;obtain⟨hlen,hget⟩:=KR hpass;simp only[Z56]at hlen;have hX0:=hX;simp only[eval,Z4w]at hX0;obtain⟨xs,hxs,hag⟩:=hX0;obtain⟨hxl,hxat⟩:=Yz hxs;have hxl':xs.length=cs.length:=by simpa using hxl
   have hone:∀x∈xs,x.one=true:=λx hx=>by
    obtain⟨j,hj⟩:=Z4V hx;have hlt:j<cs.length:=by have:=(Z4v.1 hj).1;omega
    obtain⟨x',hx1,hx2⟩:=hxat j (cs[j]).2 Z4g;rw[hj]at hx1;cases hx1;have hc:=h4.2 j cs[j] (Z4u hlt)
    obtain⟨z,hz,hz1,_⟩:=hc.rd (G':=λ_=>True) (λhd=>by
     have:Ye cs=true:=Z65.2 ⟨cs[j],Z4J hlt,by simp[hd]⟩;rw[hdead]at this;cases this) (λ_ _=>trivial) λ_ _ _ _=>trivial
    rw[hx2]at hz;cases hz;exact hz1
   have hXe:X=.agg xs:=by rw[<-hag];simp only[agV,YG hone]
   subst hXe;have hlx:xs.length=l.length:=Z0;have hbl0:XP g h ks aq_ i 0=h.bl p 0:=by simp[XP,hi,hk]
   refine⟨_,h2,⟨.mem ((l.zip xs).map λy=>(y.1,.c y.2)),by simp only[argK,hlx,Z5b],b,vs,T,by show XP g h ks aq_ i 0=_;rw[hbl0];exact h1,rfl,h3,by rw[h4.1];simp;omega,λj ck hj=> ?_⟩,.inl ⟨l,b,rfl,h1,rfl⟩⟩;simp only[Z4M,Z4w]at hj;obtain⟨⟨ck1,x1⟩,hj,rfl⟩:=hj;rw[Z7V]at hj;obtain⟨hj1,hj2⟩:=hj;have hlt:j<cs.length:=by have:=(Z4v.1 hj2).1;omega
   obtain⟨x',hx1,hx2⟩:=hxat j (cs[j]).2 Z4g;simp only at hj2 hj1;rw[hj2]at hx1;cases hx1;have hc:=h4.2 j cs[j] (Z4u hlt)
   have hcb:XP g h ks aq_ i (j+1)=match cs[j]with|(.own _,_)=>h.bl p (j+1)|_=>none:=by
    simp only[XP,hi,hk,hmem,Z4E,Z4u hlt];rcases cs[j]with ⟨kk,e⟩;cases kk<;>rfl
   obtain he|⟨he,rfl|⟨ty,rfl,h0⟩⟩:=hget j (cs[j]).1 ck1 Z4g hj1
   ·rw[<-he];show RelC c.P B [] w (XQ g h w ks aq_) (XP g h ks aq_ i (j+1)) (cs[j]).1 (.c x1) (vs.getD j undef);rw[hcb];have hcc:=hc.const hx2 (h2:=XQ g h w ks aq_) rfl;generalize cs[j]=q at hcc;obtain⟨kk,e⟩:=q;cases kk with
    |own ty=>exact hcc
    |fz=>exact hcc
    |nil=>exact hcc
    |dead=>exact hcc
   ·show RelC c.P B [] w (XQ g h w ks aq_) (XP g h ks aq_ i (j+1)) .fz (.c x1) (vs.getD j undef);generalize cs[j]=q at he hc hx2;obtain⟨kk,e⟩:=q;simp only at he;subst he;obtain⟨e1,e2⟩:=hc;simp only at hx2 e2;rw[e2]at hx2;cases hx2;rw[e1];exact⟨_,rfl,rfl,.nil _ _ (Z5H _)⟩
   ·show RelC c.P B [] w (XQ g h w ks aq_) (XP g h ks aq_ i (j+1)) (.own ty) (.c x1) (vs.getD j undef);rw[hcb];generalize cs[j]=q at he hc hx2;obtain⟨kk,e⟩:=q;simp only at he;subst he;obtain⟨e1,e2⟩:=hc;simp only at hx2 e2;rw[e2]at hx2;cases hx2;rw[e1];exact⟨_,rfl,.inl ⟨[],[],rfl,h0,λx hx=>Z4n,Z5R w B ty _,rfl,λi ck hi=>by simp[flat]at hi⟩⟩
  ·cases hp
 ·
  rename_i ty;simp only[Z4t]at hp;obtain⟨p,hs,⟨ty',e'⟩,ho,hp⟩:=hp;split at hp
  ·rename_i hty;simp only at hty;subst hty;simp only[Z4s,Z4C]at hp;obtain⟨rfl,rfl⟩:=hp;obtain⟨u,hu,X',hX',hown⟩:=hr.ownOf ho;rw[hX]at hX';cases hX';have hcb:XP g h ks aq_ i 1=h.bl p 1:=by simp[XP,hi,hk]
   refine⟨u,hu,⟨_,rfl,X,rfl,?_⟩,.inr ⟨_,rfl⟩⟩;show OwnV c.P B w (XQ g h w ks aq_) (XP g h ks aq_ i 1) ty' X u;rw[hcb];exact hown.mono (λ_ hb=>hb) rfl
  ·cases hp
 ·cases hp
theorem Bu(hr:RelG c B G s a w h g)(hC:holds s (ixC c C)){k:OT}{x:AP}{y:E×Option Nat}(hp:VO c g C k x=some y){X:V}(hX:eval s y.1=some X){v:Value}(hv:apV a h x v){ks:List OT}{aq_:List (E×Option Nat)}{i:Nat}(hk:ks[i]?=some k)(hi:aq_[i]?=some y):
  (∃tk,argK k X=some tk/\RelK c.P B [] w (XQ g h w ks aq_) (λ_=>none) i v tk)/\∀p,y.2=some p->a.tmps[p]?=some v:=by
 obtain⟨e,o⟩:=y;cases o with
 |none=>
  refine⟨?_,λp hp=>by cases hp⟩;unfold VO at hp;split at hp
  ·split at hp
   ·rename_i x ty;simp only[Z4t]at hp;obtain⟨a0,ha0,hp⟩:=hp;split at hp
    ·rename_i hemp;simp only[Z4s,Z4C,Z8I]at hp;subst hp;obtain⟨z,hz,hzr⟩:=UA hr hC ha0;obtain⟨z',hz',hzr'⟩:=QA (fl:=Xu c.P ty) (b:=a0) hz hzr ⟨X,hX⟩;simp only at hX;rw[hX]at hz';cases hz';have hv:v=a.eval x:=hv;subst hv;rw[Z76.1 hemp]at hzr';exact⟨_,rfl,X,rfl,hzr'.F.mono λb hb=>GH.ext_F hb⟩
    ·cases hp
   ·cases hp
  ·simp only[Z4t]at hp;obtain⟨_,_,_,_,hp⟩:=hp;split at hp
   grind
   ·cases hp
  ·simp only[Z4t]at hp;obtain⟨_,_,_,_,hp⟩:=hp;split at hp
   grind
   ·cases hp
  ·cases hp
 |some p=>
  obtain⟨u,hu,hrel,hcase⟩:=Q1 hr hp hX hk hi
  have huv:u=v:=by
   unfold VO at hp;split at hp
   ·split at hp
    ·simp only[Z4t]at hp;obtain⟨_,_,hp⟩:=hp;split at hp
     grind
     ·cases hp
    ·cases hp
   ·simp only[Z4t]at hp;obtain⟨p',hs,cs,hmem,hp⟩:=hp;split at hp
    ·simp only[Z4s,Z4C]at hp;obtain⟨_,rfl⟩:=hp;obtain⟨b,q1,rfl⟩:=Gi hr hC hs hv;simp_all
    ·cases hp
   ·simp only[Z4t]at hp;obtain⟨p',hs,⟨ty',e'⟩,ho,hp⟩:=hp;split at hp
    ·simp only[Z4s,Z4C]at hp;obtain⟨_,rfl⟩:=hp;unfold Z0G at hs;split at hs
     ·rename_i t tt;have hv:v=a.eval (.tmp t):=hv;subst hv;split at hs
      ·simp_all[Z4s,Act.eval_tmp]
      ·rename_i q hk2;simp only[Z4s]at hs;subst hs;have hrel:a.tmps[q]?=some (a.eval (.tmp t)):=ZN hr hC hk2 rfl 0;simp_all
      ·cases hs
     ·cases hs
    ·cases hp
   ·cases hp
  simp_all
end
end Vm
namespace Vm
open Go
open Go.RowKit (Below)
section
variable {c:Ctx}{B:Nat}{G:Nat->Prop}{s:St}{a a':Act}{w w':World}{h h' hx:GH}{g:Gam}{C:Zg}{fz ps rb:List Nat}{ops:Array Oper}{ks:List OT}{aq_:List (E×Option Nat)}
structure OPost (c:Ctx) (B:Nat) (G:Nat->Prop) (s:St) (a a':Act) (w w':World) (h h':GH) (os:OS):Prop where
 step:Step B os.ps os.rb os.fz w w' h h'
 ok:Ok B G w' h'
 size:a'.tmps.size=a.tmps.size
 defers:a'.defers=a.defers
 tm:∀t,t∉os.ps->a'.tmps[t]?=a.tmps[t]?
 ent:∀t∈Zw os.d,(holds s (ixC c (os.d.at t).1)->(os.d.at t).2.isNo=false->∃v,a'.tmps[t]?=some v/\RelK c.P B s w' h' (λp=>a'.tmps[p]?) t v (os.d.at t).2)/\(¬holds s (ixC c (os.d.at t).1)->a'.tmps.getD t undef=undef)
theorem Q2(a:Act)(d:Option Nat)(v:Value):(a.put d v).tmps.size=a.tmps.size:=by
 cases d<;>simp[Act.put]
theorem Uf(a:Act)(d:Option Nat)(v:Value):(a.put d v).defers=a.defers:=by
 cases d<;>rfl
theorem Mq{d:Nat}(v:Value){t:Nat}(ht:t∉ [d]):(a.put (some d) v).tmps[t]?=a.tmps[t]? :=Je Z3L v
def Wd(h hx:GH)(aq_:List (E×Option Nat)):GH:=
 {F:=λb=>h.F b\/hx.F b,K:=h.K,
  bl:=λu j=>match UI aq_ u with
   |some i=>if j=0 then h.bl u 0 else hx.bl i j
   |none=>h.bl u j}
theorem MN(hok:Ok B G w h)(hn:(aq_.filterMap (·.2)).Nodup)(hokx:Ok B h.F w' hx)(hK:hx.K=(XQ g h w ks aq_).K)(hsz:w.heap.size<=w'.heap.size)
  (hks:∀(i:Nat) (e:E) (p:Nat),aq_[i]?=some (e,some p)->(∃l,ks[i]?=some (.mem l)/\hx.bl i 0=h.bl p 0)\/∃ty,ks[i]?=some (.own ty)):Ok B G w' (Wd h hx aq_):=by
 have hKlt:∀b,h.K b->(XQ g h w ks aq_).K b:=λb hb=>⟨hok.k_lt b hb,λi j hbl=>by
  obtain⟨p,_,_,_,_,_,h1,_⟩:=YR hbl;exact hok.k_bl p j b h1 hb⟩
 have isK:∀ {t j b:Nat},h.bl t j=some b->UI aq_ t=none->hx.K b:=by
  intro t j b hb ht;rw[hK];refine⟨(hok.b_lt t j b hb).2.1,λi q hbl=> ?_⟩;obtain⟨p,e,_,h1,_,_,h3,_⟩:=YR hbl;obtain⟨rfl,_⟩:=hok.inj t j p q b hb h3;exact Td ht (Ur h1)
 have isK0:∀ {t i:Nat} {e:E} {b:Nat},aq_[i]?=some (e,some t)->(∃ty,ks[i]?=some (OT.own ty))->h.bl t 0=some b->hx.K b:=by
  intro t i e b hi hk hb;rw[hK];refine⟨(hok.b_lt t 0 b hb).2.1,λi' q hbl=> ?_⟩;obtain⟨p,e',k,h1,h2,_,h3,h4⟩:=YR hbl;obtain⟨rfl,rfl⟩:=hok.inj t 0 p q b hb h3;have:=Q6 hn hi h1;subst this;obtain⟨ty,hk⟩:=hk;rw[hk]at h2;cases h2;have:=h4 ty rfl;omega
 have notF:∀ {t j b:Nat},h.bl t j=some b->hx.K b->¬(h.F b\/hx.F b):=by
  intro t j b hb hkb hF;obtain hF|hF:=hF
  ·exact(hok.b_lt t j b hb).2.2 hF
  ·obtain h1|h1:=hokx.k_F b hF
   ·exact(hok.b_lt t j b hb).2.2 h1
   simp_all
 refine⟨hokx.base,λb hb=> ?_,λb hb=> ?_,λb hb=>.inl (hok.g_F b hb),λt j b hb=> ?_,λt j u q b hb hb'=> ?_,λb hb=>Z4F (hok.k_lt b hb) hsz,λt j b hb hkb=> ?_,λb hb=> ?_⟩
 ·obtain hb|hb:=hb
  ·exact Z4F (hok.f_lt b hb) hsz
  ·exact hokx.f_lt b hb
 ·obtain hb|hb:=hb
  ·exact hok.f_or b hb
  ·obtain h1|h1:=hokx.f_or b hb
   ·exact hok.f_or b h1
   omega
 ·simp only[Wd]at hb⊢;split at hb
  ·rename_i i hix;obtain⟨e,hi⟩:=Wa hix;split at hb
   ·rename_i hj;subst hj;obtain⟨l,hk,h0⟩|hk:=hks i e t hi
    ·rw[<-h0]at hb;obtain⟨q1,q2,q3⟩:=hokx.b_lt i 0 b hb;refine⟨q1,q2,λhF=> ?_⟩;obtain hF|hF:=hF
     ·exact q3 (hokx.g_F b hF)
     grind
    ·obtain⟨q1,q2,_⟩:=hok.b_lt t 0 b hb
     grind
   ·obtain⟨q1,q2,q3⟩:=hokx.b_lt i j b hb;refine⟨q1,q2,λhF=> ?_⟩;obtain hF|hF:=hF
    ·exact q3 (hokx.g_F b hF)
    grind
  ·rename_i hix;obtain⟨q1,q2,_⟩:=hok.b_lt t j b hb
   grind
 ·
  have place:∀ {t j:Nat},(Wd h hx aq_).bl t j=some b->(∃i e,aq_[i]?=some (e,some t)/\hx.bl i j=some b)\/(h.bl t j=some b/\hx.K b):=by
   intro t j hb;simp only[Wd]at hb;split at hb
   ·grind [Wa]
   ·grind
  obtain⟨i,e,hi,h1⟩|⟨h1,h2⟩:=place hb<;>obtain⟨i',e',hi',h1'⟩|⟨h1',h2'⟩:=place hb'
  ·obtain⟨rfl,rfl⟩:=hokx.inj i j i' q b h1 h1';simp_all
  ·exact absurd h2' (hokx.k_bl i j b h1)
  ·exact absurd h2 (hokx.k_bl i' q b h1')
  ·exact hok.inj t j u q b h1 h1'
 ·have hkx:=hKlt b hkb;rw[<-hK]at hkx;simp only[Wd]at hb;split at hb
  ·rename_i i hix;split at hb
   ·exact hok.k_bl t 0 b (by assumption) hkb
   ·exact hokx.k_bl i j b hb hkx
  ·exact hok.k_bl t j b hb hkb
 ·obtain hb|hb:=hb
  ·exact hok.k_F b hb
  ·obtain h1|h1:=hokx.k_F b hb
   ·exact hok.k_F b h1
   ·exact .inr λhkb=>h1 (by rw[hK];exact hKlt b hkb)
theorem DG(hok:Ok B G w h){d:Nat}(hbel:Below B w w')(hsame:Same (XQ g h w ks aq_).K w w'):Step B (d::aq_.filterMap (·.2)) [d] [] w w' h (Wd h hx aq_):=by
 refine⟨hbel,λb hlt hn=>hsame b ⟨hlt,λi j hb=> ?_⟩,λb hb=>.inl hb,λt ht _=> ?_,λt ht=> ?_,λ_ _ _ _ hm=>Z4o,rfl⟩
 ·grind [YR,Ur]
 ·grind [UI,Wa,absurd,List.mem_cons_of_mem,Ur,Wd]
 grind [Wd]
theorem Q0{i0:Nat}:∀ {q:Nat} {ks:List OT} {aq_:List (E×Option Nat)} {ys:List V},aq_.length=ks.length->ys.length=ks.length->(∀(j:Nat) (k:OT) (y:E×Option Nat),ks[j]?=some k->aq_[j]?=some y->(y.2=none↔k=OT.fz))->∀(t:Nat),t∈Zw (Xv i0 q ks aq_)->
  ∃(j:Nat) (k:OT) (e:E) (y:V) (r:Nat),ks[j]?=some k/\aq_[j]?=some (e,some t)/\ys[j]?=some y/\(Xv i0 q ks aq_).at t=([],newK i0 (q+r) k)/\(Xd ks ys)[r]?=some y
 |q,[],aq_,ys,_,_,_,t,ht=>by
  have:Xv i0 q [] aq_=[]:=by unfold Xv;rfl
  rw[this]at ht;simp[Zw]at ht
 |q,k::ks,[],ys,h1,_,_,t,ht=>by simp at h1
 |q,k::ks,(e,o)::aq_,[],_,h2,_,t,ht=>by simp at h2
 |q,k::ks,(e,o)::aq_,y::ys,h1,h2,h3,t,ht=>by
  have hk:=h3 0 k (e,o) rfl rfl;have h3':∀(j:Nat) (k:OT) (y:E×Option Nat),ks[j]?=some k->aq_[j]?=some y->(y.2=none↔k=.fz):=λj k y h4 h5=>h3 (j+1) k y (by simpa using h4) (by simpa using h5);cases o with
  |none=>
   have hkz:k=.fz:=hk.1 rfl;subst hkz;have e1:Xv i0 q (.fz::ks) ((e,none)::aq_)=Xv i0 q ks aq_:=by simp only[Xv]
   have e2:Xd (.fz::ks) (y::ys)=Xd ks ys:=by simp only[Xd]
   rw[e1]at ht⊢;obtain⟨j,k',e',y',r,q1,q2,q3,q4,q5⟩:=Q0 (ys:=ys) (by simpa using h1) (by simpa using h2) h3' t ht;exact⟨j+1,k',e',y',r,by simpa using q1,by simpa using q2,by simpa using q3,q4,by rw[e2];exact q5⟩
  |some p=>
   have hkz:k≠.fz:=λe=>by have:=hk.2 e;cases this
   have e1:Xv i0 q (k::ks) ((e,some p)::aq_)=(p,[],newK i0 q k)::Xv i0 (q+1) ks aq_:=by simp only[Xv]
   have e2:Xd (k::ks) (y::ys)=y::Xd ks ys:=by cases k<;>first|exact absurd rfl hkz|simp only[Xd]
   rw[e1]at ht⊢;by_cases hpt:p=t
   ·subst hpt;exact⟨0,k,e,y,0,rfl,rfl,rfl,by simp[Gam.at],by rw[e2];rfl⟩
   ·have ht':t∈Zw (Xv i0 (q+1) ks aq_):=by
     simp only[Zw,Z4T,Z4H]at ht;exact ht.resolve_left λe=>hpt e.symm
    obtain⟨j,k',e',y',r,q1,q2,q3,q4,q5⟩:=Q0 (ys:=ys) (by simpa using h1) (by simpa using h2) h3' t ht';exact⟨j+1,k',e',y',r+1,by simpa using q1,by simpa using q2,by simpa using q3,by simp only[Gam.at,if_neg hpt];rw[q4,Z61,Z7u 1 r],by rw[e2];simpa using q5⟩
theorem J7{i0:Nat}:∀ {q:Nat} {ks:List OT} {aq_:List (E×Option Nat)},aq_.length=ks.length->Zw (Xv i0 q ks aq_)=aq_.filterMap (·.2)
 |q,[],[],_=>by simp[Xv,Zw]
 |q,[],_::_,h=>Z4q
 |q,k::ks,[],h=>Z4q
 |q,k::ks,(e,o)::aq_,h=>by
  cases o with
  |none=>
   have e1:Xv i0 q (k::ks) ((e,none)::aq_)=Xv i0 q ks aq_:=by simp only[Xv]
   rw[e1,J7 (by simpa using h)];simp
  |some p=>
   have e1:Xv i0 q (k::ks) ((e,some p)::aq_)=(p,[],newK i0 q k)::Xv i0 (q+1) ks aq_:=by simp only[Xv]
   rw[e1];have:=J7 (i0:=i0) (q:=q+1) (ks:=ks) (aq_:=aq_) (by simpa using h);simp only[Zw,Z4T]at this⊢;rw[this];simp
theorem HZ{P:Program}{i0 q j p:Nat}{k:OT}{y:V}{L:List V}{v:Value}(hk:k≠.fz)(hst:get s i0=.v (.tup L))(hq:L[q]?=some y){hx h':GH}(hrel:∃tk,argK k y=some tk/\RelK P B [] w' hx (λ_=>none) j v tk)
  (hF:∀b,hx.F b->h'.F b) (h0:(∃l,k=.mem l)->h'.bl p 0=hx.bl j 0) (hbl:∀i,h'.bl p (i+1)=hx.bl j (i+1)) (tm:Nat->Option Value):RelK P B s w' h' tm p v (newK i0 q k):=by
 obtain⟨tk,harg,hrel⟩:=hrel;have hext:eval s (.ext (.s i0) q)=some y:=by simp only[eval,hst,Z4E,extV,hq]
 cases k with
 |fz=>simp_all
 |own ty=>
  simp only[argK,Z4s]at harg;subst harg;obtain⟨x,hx1,hown⟩:=hrel;simp only[eval,Z4s]at hx1;subst hx1;exact⟨y,hext,hown.mono hF (hbl 0).symm⟩
 |mem l=>
  cases y<;>simp only[argK]at harg<;>first|(cases harg;done)|skip
  rename_i cs;split at harg
  ·rename_i hlen;simp only[Z4s]at harg;subst harg;obtain⟨b,vs,T,e1,e2,e3,e4,e5⟩:=hrel;refine⟨b,vs,T,Z3M,e2,e3,Z3M,λi ck hi=> ?_⟩;simp only[Z4M,Z4w]at hi;obtain⟨⟨kk,i'⟩,hi,rfl⟩:=hi;rw[Z6y,Z4w]at hi;obtain⟨kk',hi,hki⟩:=hi;simp only[Z4C,Z5g]at hki;obtain⟨rfl,rfl⟩:=hki;have hlt:i<cs.length:=by rw[hlen];exact(Z4v.1 hi).1
   have hc:=e5 i (kk',.c cs[i]) Z3L;show RelC P B s w' h' (h'.bl p (i+1)) kk' (.fld (.ext (.s i0) q) i) (vs.getD i undef);rw[hbl]
   have hfld:cs[i].one=true->eval s (.fld (.ext (.s i0) q) i)=some cs[i]:=λh1=>by
    simp only[eval,hst,Z4E,extV,hq,fldV,V.pc,Z4u hlt,oneV,h1,Z5b]
   cases kk' with
   |fz=>
    obtain⟨x,q1,q2,q3⟩:=hc;simp only[eval,Z4s]at q1;subst q1;exact⟨_,hfld q2,q2,q3.mono hF⟩
   |own ty=>
    obtain⟨x,q1,q2⟩:=hc;simp only[eval,Z4s]at q1;subst q1;exact⟨_,hfld q2.one,q2.mono hF rfl⟩
   |nil=>
    obtain⟨q1,q2⟩:=hc;simp only[eval,Z4s]at q2;exact⟨q1,by rw[hfld (by rw[q2];rfl),q2]⟩
   |dead=>exact hc
  grind
 |nil=>grind [argK]
 |clo f l=>grind [argK]
theorem Xl:∀ {ks:List OT} {aps:List AP} {aq_:List (E×Option Nat)},W4 c g C ks aps=some aq_->aps.length=ks.length/\aq_.length=ks.length/\∀(i:Nat) (k:OT) (x:AP) (y:E×Option Nat),ks[i]?=some k->aps[i]?=some x->aq_[i]?=some y->VO c g C k x=some y
 | [],[],aq_,h=>by
   simp only[W4,Z4s]at h;subst h;exact⟨rfl,rfl,λi k x y hk=>by simp at hk⟩
 | [],_::_,aq_,h=>by simp[W4]at h
 |_::_,[],aq_,h=>by simp[W4]at h
 |k::ks,x::l,aq_,h=>by
  simp only[W4,Z4t,Z4w]at h;obtain⟨y,hy,ys,hys,rfl⟩:=h;obtain⟨h1,h2,h3⟩:=Xl hys;refine⟨by simp[h1],by simp[h2],λi k' x' y' q1 q2 q3=> ?_⟩;cases i with
  |zero=>simp at q1 q2 q3;subst q1 q2 q3;exact hy
  |succ i=>exact h3 i k' x' y' Z3L Z3L Z3L
theorem H1(hr:RelG c B G s a w h g)(hC:holds s (ixC c C)){aps:List AP}(hp:W4 c g C ks aps=some aq_){xs:List V}(hxs:Yg s (aq_.map (·.1))=some xs){vs:Array Value}(hvl:vs.size=aps.length)(hvs:∀(i:Nat) (x:AP),aps[i]?=some x->apV a h x (vs.getD i undef)):
  RelA c.P B w (XQ g h w ks aq_) ks xs vs:=by
 obtain⟨h1,h2,h3⟩:=Xl hp;obtain⟨h4,h5⟩:=Yz hxs;refine⟨by rw[h4];simpa using h2,Z0,λi k x hk hx=> ?_⟩;have hlt:i<ks.length:=(Z4v.1 hk).1;have ha:aps[i]?=some aps[i]:=Z4u Z0;have hs:aq_[i]?=some aq_[i]:=Z4u Z0;obtain⟨x',hx1,hx2⟩:=h5 i (aq_[i]).1 (by rw[Z4M,hs];rfl);rw[hx]at hx1;cases hx1;exact(Bu hr hC (h3 i k _ _ hk ha hs) hx2 (hvs i _ ha) hk hs).1
theorem Ke(hr:RelG c B G s a w h g){aps:List AP}(hp:W4 c g C ks aps=some aq_)(hn:(aq_.filterMap (·.2)).Nodup){d:Nat}(hd:d<a.tmps.size)(hdp:d∉aq_.filterMap (·.2)){all:Gam}{efs:List EF}{chks:List (Zg×E)}{kd:TK}
  {vs:Array Value} (hslot:∀(i:Nat) (e:E) (p:Nat),aq_[i]?=some (e,some p)->a.tmps[p]?=some (vs.getD i undef)/\((∃l b,ks[i]?=some (.mem l)/\h.bl p 0=some b/\vs.getD i undef=.pointer (some ⟨b,0,none⟩))\/∃ty,ks[i]?=some (.own ty)))
  (hz:∀(j:Nat) (k:OT) (y:E×Option Nat),ks[j]?=some k->aq_[j]?=some y->(y.2=none↔k=OT.fz))
  (hokx:Ok B h.F w' hx) (hK:hx.K=(XQ g h w ks aq_).K) (hbel:Below B w w') (hsame:Same (XQ g h w ks aq_).K w w') {ys:List V} (hB:RelB c.P B w' hx ks ys vs) {r0:V} (hget:Xd ks ys≠[]->get s (c.ix d)=.v (.tup (r0::Xd ks ys)))
  {u:Value} (hu:holds s (ixC c C)->RelK c.P B s w' (Wd h hx aq_) (λp=>(a.put (some d) u).tmps[p]?) d u kd) (hu':¬holds s (ixC c C)->u=undef):
  OPost c B G s a (a.put (some d) u) w w' h (Wd h hx aq_) {d:=(d,C,kd)::Xv (c.ix d) 1 ks aq_++Wc (d::aq_.filterMap (·.2)) [d] [] all,ps:=d::aq_.filterMap (·.2),rb:=[d],fz:=[],efs,chks}:=by
 obtain⟨h1,h2,h3⟩:=Xl hp
 have hks:∀(i:Nat) (e:E) (p:Nat),aq_[i]?=some (e,some p)->(∃l,ks[i]?=some (.mem l)/\hx.bl i 0=h.bl p 0)\/∃ty,ks[i]?=some (.own ty):=by
  intro i e p hi;obtain⟨_,hcase⟩:=hslot i e p hi;obtain⟨l,b,hk,hb,hv⟩|hk:=hcase
  ·refine .inl ⟨l,hk,?_⟩;have hlt:i<ys.length:=by rw[hB.1];exact(Z4v.1 hk).1
   obtain⟨tk,harg,hrel⟩:=hB.2 i _ ys[i] hk Z1 (Z4u hlt);generalize ys[i]=y at harg;cases y<;>simp only[argK]at harg<;>first|(cases harg;done)|skip
   split at harg
   ·simp only[Z4s]at harg;subst harg;obtain⟨b',vs',T,e1,e2,_⟩:=hrel;simp_all
   grind
  ·grind
 have hok':=MN hr.ok hn hokx hK hbel.size hks;have hst:=DG (hx:=hx) (d:=d) hr.ok hbel hsame;refine⟨hst,hok',Q2 _ _ _,Uf _ _ _,λt ht=>Je (λe=>ht (by simp[e])) u,λt ht=> ?_⟩;simp only[Z5M,Gam.at];by_cases hdt:d=t
 ·simp_all[Z5b,Wh,Z4y,Z4W]
 ·rw[if_neg hdt,Y3];by_cases hto:t∈Zw (Xv (c.ix d) 1 ks aq_)
  ·rw[if_pos hto];obtain⟨j,k,e,y,r,q1,q2,q3,q4,q5⟩:=Q0 (i0:=c.ix d) (q:=1) (ys:=ys) h2 hB.1 hz t hto;rw[q4];refine⟨λ_ _=>⟨vs.getD j undef,by rw[Je (Z6K hdt)];grind,?_⟩,λhh=>absurd (Zb s c) hh⟩;have hkz:k≠.fz:=λe'=>Z3L;have hix:=Gh hn q2;refine HZ (h':=Wd h hx aq_) hkz (hget λe'=>Z3M) Z3L (hB.2 j k y q1 hkz q3) (λb hb=>.inr hb) (λhm=> ?_) (λi=>by simp[Wd,hix]) _;obtain⟨l,_,h0⟩|⟨ty,hty⟩:=hks j e t q2
   ·grind [Wd]
   grind
  ·rw[if_neg hto]
   have htk:t∈Zw (Wc (d::aq_.filterMap (·.2)) [d] [] all):=by
    simp only[Zw,Z4T,Z5F,Z5M,Z4H,Z4R]at ht hto⊢;obtain ht|ht|ht:=ht
    ·omega
    ·simp_all
    ·exact ht
   simp_all[RS,TK.isNo,absurd,Zb]
end
end Vm
namespace Vm
open Go
open Go.RowKit (Below)
section
variable {c:Ctx}{B:Nat}{G:Nat->Prop}{s:St}{a a':Act}{w w':World}{h h':GH}{g:Gam}{C:Zg}{fz ps rb:List Nat}{ops:Array Oper}
theorem GH.exb_of{h:GH}{big:Bool}{sh:List Nat}{b:Nat}(hb:h.ext sh b):h.exb big sh b:=by
 obtain hb|⟨p,hp,i,hi⟩:=hb
 ·exact .inl hb
 ·exact .inr ⟨p,hp,i+1,.inr Z0,hi⟩
theorem GH.exb_ext{h:GH}{sh:List Nat}{b:Nat}(hb:h.exb false sh b):h.ext sh b:=by
 obtain hb|⟨p,hp,i,hi0,hi⟩:=hb
 ·exact .inl hb
 ·obtain hi0|hi0:=hi0
  ·cases hi0
  ·cases i with
   |zero=>omega
   |succ i=>exact .inr ⟨p,hp,i,hi⟩
theorem GH.exb_mono{h:GH}{big big':Bool}{sh sh':List Nat}(hb:big=true->big'=true)(hs:∀p∈sh,p∈sh'):∀b,h.exb big sh b->h.exb big' sh' b:=by
 intro b hx;obtain hx|⟨p,hp,i,hi0,hi⟩:=hx
 ·exact .inl hx
 ·refine .inr ⟨p,hs p hp,i,?_,hi⟩
  grind
theorem GH.exb_lt(hok:Ok B G w h){big:Bool}{sh:List Nat}:∀b,h.exb big sh b->b<w.heap.size:=by
 intro b hb;obtain hb|⟨p,_,i,_,hi⟩:=hb
 ·exact hok.f_lt b hb
 ·exact(hok.b_lt p i b hi).2.1
theorem AN(hr:RelG c B G s a w h g){G':Nat->Prop}(hF:∀b,h.F b->G' b):∀ {caps:List Nat} {es:List E} {xs:List V},(∀p∈caps,∀i b,h.bl p i=some b->G' b)->DS g caps=some es->Yg s es=some xs->
  xs.length=caps.length/\∀(i p b:Nat) (x:V),caps[i]?=some p->xs[i]?=some x->h.bl p 0=some b->Rd w G' x (.pointer (some ⟨b,0,none⟩))
 | [],es,xs,_,he,hx=>by
   simp only[DS,Z4s]at he;subst he;simp only[Yg,Z4s]at hx;subst hx;exact⟨rfl,λi p b x hi=>Z43⟩
 |q::l,es,xs,hG,he,hx=>by
  simp only[DS,Z4t]at he;obtain⟨cs,hm,he⟩:=he;split at he
  ·cases he
  rename_i hd;simp only[Z4w]at he;obtain⟨es',he',rfl⟩:=he;simp only[Yg,Z4t,Z4w]at hx;obtain⟨z,hz,xs',hxs',rfl⟩:=hx;obtain⟨h1,h2⟩:=AN hr hF (λp hp=>hG p (by simp[hp])) he' hxs';refine⟨by simp[h1],λi p b x hi hxi hb=> ?_⟩;cases i with
  |zero=>
   simp at hi hxi;subst hi hxi;obtain⟨b',vs,T,q0,_,q2,q3⟩:=hr.memOf hm;rw[hb]at q0;cases q0;exact QW hb q2 q3 Z3L hz hF (hG q Z1)
  |succ i=>exact h2 i p b x Z3L (by simpa using hxi) hb
theorem MR(hr:RelG c B G s a w h g)(hC:holds s (ixC c C)){x:Operand}{e:E}{sh:List Nat}(he:bigE g (opK g C x) (yX x)=some (e,sh)){z:V}(hz:eval s e=some z):Rd w (h.exb true sh) z (a.eval x):=by
 have hF:∀b,h.F b->h.exb true sh b:=λb hb=>.inl hb;have hG:∀p∈sh,∀i b,h.bl p i=some b->h.exb true sh b:=λp hp i b hi=>.inr ⟨p,hp,i,.inl rfl,hi⟩;cases x with
 |tmp t=>
  simp only[opK,yX]at he;cases hk:look g C t with
  |mem cs=>
   rw[hk]at he;simp only[bigE]at he;split at he
   ·cases he
   rename_i hd;simp only[Z4s,Z4C]at he;obtain⟨rfl,rfl⟩:=he;obtain⟨v,hv,⟨b,vs,T,q0,rfl,q2,q3⟩,_⟩:=hr.look hC hk rfl;rw[Act.eval_tmp a t _ hv];exact QW q0 q2 q3 Z3L hz hF (hG t Z1)
  |pm p o=>
   rw[hk]at he;cases o with
   |succ o=>simp[bigE]at he
   |zero=>
    simp only[bigE,Z4t]at he;obtain⟨cs,hm,he⟩:=he;split at he
    ·cases he
    rename_i hd;simp only[Z4s,Z4C]at he;obtain⟨rfl,rfl⟩:=he;obtain⟨v,hv,⟨b,q0,rfl⟩,_⟩:=hr.look hC hk rfl;obtain⟨b',vs,T,q1,_,q2,q3⟩:=hr.memOf hm;rw[q0]at q1;cases q1;rw[Act.eval_tmp a t _ hv];exact QW q0 q2 q3 Z3L hz hF (hG p Z1)
  |clo f caps=>
   rw[hk]at he;simp only[bigE,Z4w,Z4C]at he;obtain⟨es,hes,rfl,rfl⟩:=he;obtain⟨v,hv,⟨vs,rfl,q1,q2⟩,_⟩:=hr.look hC hk rfl;rw[Act.eval_tmp a t _ hv];simp only[eval,Z4t]at hz;obtain⟨xs,hxs,hz⟩:=hz;simp only[ptV,Z4s]at hz;subst hz;obtain⟨h1,h2⟩:=AN hr hF hG hes hxs;refine .clo f xs vs Z0 λi x hi=> ?_;have hlt:i<caps.length:=Z3Z;obtain⟨b,q3,q4⟩:=q2 i caps[i] (by simp[hlt]);have:vs.getD i undef=.pointer (some ⟨b,0,none⟩):=by simp[Z4y,q4]
   grind
  |big e' sh'=>
   rw[hk]at he;simp only[bigE,Z4s,Z4C]at he;obtain⟨rfl,rfl⟩:=he;obtain⟨v,hv,⟨x,hx,hrd⟩,_⟩:=hr.look hC hk rfl;simp_all[Act.eval_tmp]
  |_=>rw[hk]at he;simp[bigE]at he
 |const v=>
  have:∀k,bigE g k 0=some (e,sh)->(∃cs,k=.mem cs)\/(∃p o,k=.pm p o)\/(∃f l,k=.clo f l)\/∃e l,k=.big e l:=by
   intro k hk;cases k<;>first|(simp[bigE]at hk;done)|exact .inl ⟨_,rfl⟩|exact .inr (.inl ⟨_,_,rfl⟩)|exact .inr (.inr (.inl ⟨_,_,rfl⟩))|simp
  have h1:=this _ he
  grind [opK]
 |func f=>grind [opK,bigE]
 |global q=>grind [opK,bigE]
theorem MH(hr:RelG c B G s a w h g)(hC:holds s (ixC c C)){fl:Bool}{x:Operand}{r:E×List Nat×Bool}(he:argE g C fl x=some r){z:V}(hz:eval s r.1=some z):Rd w (h.exb r.2.2 r.2.1) z (a.eval x):=by
 unfold argE at he;split at he
 ·rename_i a0 ha;simp only[Z4s]at he;subst he;obtain⟨y,hy,hyr⟩:=UA hr hC ha;obtain⟨z',hz',hzr⟩:=QA (b:=a0) hy hyr ⟨z,hz⟩;rw[hz]at hz';cases hz';exact hzr.mono λb hb=>GH.exb_of hb
 ·simp only[Z4w]at he;obtain⟨a1,ha,rfl⟩:=he
  grind [MR]
theorem AI(hr:RelG c B G s a w h g)(hC:holds s (ixC c C)):∀ {l:List Operand} {ts:List TypeId} {es:List E×List Nat×Bool},DE c.P g C l ts=some es->∀ {xs:List V},Yg s es.1=some xs->
  xs.length=l.length/\∀(i:Nat) (x:Operand),l[i]?=some x->∃z,xs[i]?=some z/\Rd w (h.exb es.2.2 es.2.1) z (a.eval x)
 | [],ts,es,he,xs,hx=>by
   simp only[DE,Z4s]at he;subst he;simp only[Yg,Z4s]at hx;subst hx;exact⟨rfl,λi x hi=>Z43⟩
 |x::l,ts,es,he,xs,hx=>by
  simp only[DE,Z4t,Z4w]at he;obtain⟨a0,ha,b,hb,rfl⟩:=he;simp only[Yg,Z4t,Z4w]at hx;obtain⟨z,hz1,xs',hx2,rfl⟩:=hx;obtain⟨h1,h2⟩:=AI hr hC hb hx2;have hzr:=MH hr hC ha hz1;refine⟨by simp[h1],λi y hi=> ?_⟩;cases i with
  |zero=>simp at hi;subst hi;exact⟨z,Z1,hzr.mono (GH.exb_mono (λe=>by simp[e]) λp hp=>by simp[hp])⟩
  |succ i=>
   obtain⟨z',e1,e2⟩:=h2 i y Z3L;exact⟨z',Z3L,e2.mono (GH.exb_mono (λe=>by simp[e]) λp hp=>by simp[hp])⟩
theorem C5(hr:RelG c B G s a w h g)(hC:holds s (ixC c C)){o:Oper}{fn:FN}{sh:List Nat}{args:List Operand}{ts:List TypeId}(hcall:DL g C o=some (fn,sh,args,ts)){n:FuncId×List V}(hf:fnV s fn=some n)(hcb:Yd c.P n.1=true):
  ∃caps:Array Value,(execOp a.eval o).run c.P w=.ok (.enter n.1 ((args.map a.eval).toArray++caps)) w/\caps.size=n.2.length/\∀(i:Nat) (x:V),n.2[i]?=some x->Rd w (h.ext sh) x (caps.getD i undef):=by
 have hent:∀ {f:FuncId} {args:Array Operand} {tys:Array TypeId} {cv:Operand} {caps:Array Value},Yd c.P f=true->o.op=.call {callee:=.value cv,args:=args,argTypes:=tys}->a.eval cv=.func (.func f) #[] caps->
   (execOp a.eval o).run c.P w=.ok (.enter f ((args.toList.map a.eval).toArray++caps)) w:=by
  intro f args tys cv caps hcb hop hev;unfold Yd at hcb;split at hcb
  ·rename_i fn hfn;simp only[Z4x,Z5m,Z7b,ne_eq]at hcb;obtain⟨h1,h2⟩:=hcb;obtain⟨code,h3⟩:=Z5y.1 h2;have:(args.toList.map a.eval).toArray=args.map a.eval:=by rw[<-Z5C,Array.toArray_toList]
   rw[this];simp[execOp,hop,resolve,hev,Deferred.ofValue,invoke,callFunc,hfn,h1,h3]
  ·cases hcb
 unfold DL at hcall;split at hcall
 ·rename_i f' args' tys hop;simp only[Z4s,Z4C]at hcall;obtain⟨rfl,rfl,rfl,rfl⟩:=hcall;simp only[fnV,Z4s]at hf;subst hf;exact⟨#[],hent hcb hop rfl,rfl,λi x hi=>Z43⟩
 ·rename_i t args' tys hop;split at hcall
  ·rename_i e sh' hk;simp only[Z4s,Z4C]at hcall;obtain⟨rfl,rfl,rfl,rfl⟩:=hcall;obtain⟨v,hv,⟨x,hx,hxr⟩,_⟩:=hr.look hC (show look g C t=_ from hk) rfl;simp only[fnV,hx,Z4E]at hf;unfold cloV at hf;split at hf
   ·simp only[Z4s]at hf;subst hf;cases hxr;exact⟨#[],hent hcb hop (Act.eval_tmp a t _ hv),rfl,λi x hi=>Z43⟩
   ·simp only[Z4s]at hf;subst hf;cases hxr with
    |clo _ _ vs h1 h2=>grind [Act.eval_tmp]
   ·cases hf
  grind
 grind
theorem CP(hr:RelG c B G s a w h g)(hC:holds s (ixC c C)){o:Oper}{x y z:Operand}(ho:o.op=.pick x y z){k:TK}{es:List E}(hp:FK c g C x y z=some (k,es))(hes:∀e∈es,∃z,eval s e=some z)(d:Nat):PRun c B G s a w h o d k:=by
 unfold FK at hp;split at hp
 ·rename_i t u hk;split at hp
  ·cases hp
  ·rename_i hu;have hu:u=c.ix t:=by simpa using hu
   subst hu;simp only[Z4t,Z4w,Z4C]at hp;obtain⟨ey,hey,ez,hez,rfl,rfl⟩:=hp;obtain⟨v,hv,⟨xb,hxb,hxr⟩,_⟩:=hr.look hC (show look g C t=_ from hk) rfl;obtain⟨q,hq⟩:=hes _ (List.Mem.head _);have hq0:=hq;simp only[eval]at hq hxb;rw[hxb,Z4E]at hq
   have hst:get s (c.ix t)=.v xb:=by
    cases hg:get s (c.ix t)<;>rw[hg]at hxb<;>simp at hxb
    rw[hxb]
   have hex:∀b,xb=.bool b->(execOp a.eval o).run c.P w=.ok (.value (if b=true then a.eval y else a.eval z)) w:=by
    intro b hb;subst hb;have hvb:v=.bool b:=by cases hxr;rfl
    subst hvb;unfold execOp;simp only[ho,Act.eval_tmp a t _ hv];cases b<;>simp[asBool]
   unfold iteV at hq;split at hq
   ·have hC2:holds s (ixC c (C++[(t,true)])):=by
     have:ixC c (C++[(t,true)])=ixC c C++[(c.ix t,true)]:=by simp[ixC]
     rw[this,VH];refine⟨hC,λx hx=> ?_⟩;simp at hx;subst hx;exact hst
    obtain⟨r,hr1,hr2⟩:=UA hr hC2 hey;rw[hr1]at hq;cases hq;exact⟨_,w,hex true rfl,PRes.here hr.ok ⟨_,hq0,hr2.mono λb hb=>GH.ext_left hb⟩⟩
   ·have hC2:holds s (ixC c (C++[(t,false)])):=by
     have:ixC c (C++[(t,false)])=ixC c C++[(c.ix t,false)]:=by simp[ixC]
     rw[this,VH];refine⟨hC,λx hx=> ?_⟩;simp at hx;subst hx;exact hst
    obtain⟨r,hr1,hr2⟩:=UA hr hC2 hez;rw[hr1]at hq;cases hq;exact⟨_,w,hex false rfl,PRes.here hr.ok ⟨_,hq0,hr2.mono λb hb=>GH.ext_right hb⟩⟩
   ·cases hq
 ·cases hp
theorem Ie(hr:RelG c B G s a w h g)(hC:holds s (ixC c C)){o:Oper}{k:TK}{es:List E}(hp:pkOf c g C o=some (k,es))(hes:∀e∈es,∃z,eval s e=some z)(d:Nat)(hd:o.dst=some d):PRun c B G s a w h o d k:=by
 grind [pkOf,CP,Z0h]
theorem zM(hr:RelG c B G s a w h g){o:Oper}(hc:Ll c ops g o=some C):(holds s (ixC c C)->Region.wanted o (yielded ops a.tmps)=true)/\(¬holds s (ixC c C)->Region.wanted o (yielded ops a.tmps)=false):=by
 unfold Ll at hc;unfold Region.wanted;split at hc
 ·simp_all[Z4s,trivial,absurd,Zb]
 ·rename_i j want hg;simp only[Z4t]at hc;obtain⟨t,ht,hc⟩:=hc;simp only[hg]
  have hy:yielded ops a.tmps j=match a.tmps[t]? with|some (.bool b)=>some b|_=>none:=by
   unfold yielded;rw[show(ops[j]?).bind (·.dst)=some t from by grind,Z4E];generalize a.tmps[t]?=q;cases q with
   |none=>rfl
   |some v=>rfl
  split at hc
  ·rename_i Ct u hat;split at hc
   ·rename_i hu;subst hu;simp only[Z4s]at hc;subst hc;have e1:ixC c (Ct++[(t,want)])=ixC c Ct++[(c.ix t,want)]:=by simp[ixC]
    have e2:holds s (ixC c (Ct++[(t,want)]))↔holds s (ixC c Ct)/\get s (c.ix t)=.v (.bool want):=by
     rw[e1,VH];simp[holds]
    by_cases hCt:holds s (ixC c Ct)
    ·obtain⟨v,hv,hrel⟩:=hr.at_ t Z3M (by rw[hat];rfl);rw[hat]at hrel;obtain⟨x,hx,hxr⟩:=hrel
     have hst:get s (c.ix t)=.v x:=by
      simp only[eval]at hx;cases hg:get s (c.ix t)<;>rw[hg]at hx<;>simp at hx
      rw[hx]
     rw[hy,hv];constructor
     ·intro hh;have:=(e2.1 hh).2;rw[hst]at this;simp only[SV.v.injEq]at this;subst this;have hvb:v=.bool want:=by cases hxr;rfl
      simp_all
     ·intro hh;have hne:x≠.bool want:=λe=>hh (e2.2 ⟨hCt,by rw[hst,e]⟩)
      cases hxr<;>first
       |rfl
       |simp_all
    ·have hs:=hr.skip t Z3M
     have hnone:(match a.tmps[t]? with|some (.bool b)=>some b|_=>none)=(none:Option Bool):=by
      cases hh:a.tmps[t]? with
      |none=>rfl
      |some v=>
       simp only[Z4y,hh,Z4W]at hs;subst hs;rfl
     simp_all
   ·cases hc
  ·cases hc
theorem Bv{d:Nat}{k:TK}{v:Value}{efs:List EF}{chks:List (Zg×E)}(hd:d<a.tmps.size)(hs:Step B [d] [d] [] w w' h h')(hok:Ok B G w' h')(hC:holds s (ixC c C))(hk:RelK c.P B s w' h' (λp=>(a.put (some d) v).tmps[p]?) d v k):
  OPost c B G s a (a.put (some d) v) w w' h h' {d:=[(d,C,k)],ps:=[d],rb:=[d],fz:=[],efs,chks}:=
 ⟨hs,hok,Q2 _ _ _,Uf _ _ _,λt ht=>Mq v ht,λt ht=>by
  simp_all[Zw,Gam.at,Z5b,Wh,absurd]⟩
theorem qi{d:Nat}{k:TK}{efs:List EF}{chks:List (Zg×E)}(hd:d<a.tmps.size)(hok:Ok B G w h)(hC:¬holds s (ixC c C)):
  OPost c B G s a (a.put (some d) undef) w w h h {d:=[(d,C,k)],ps:=[d],rb:=[d],fz:=[],efs,chks}:=
 ⟨Step.refl _ _ _ _,hok,Q2 _ _ _,Uf _ _ _,λt ht=>Mq _ ht,λt ht=>by
  simp_all[Zw,Gam.at,Z5b,absurd,Z4y,Wh,Z4W]⟩
theorem RelK.other{d t:Nat}{v u:Value}{k:TK}(hk:RelK c.P B s w h (λp=>a.tmps[p]?) t v k)(ht:XB d k=false):RelK c.P B s w h (λp=>(a.put (some d) u).tmps[p]?) t v k:=by
 cases k with
 |ref p=>
  have:p≠d:=λe=>by simp_all[XB]
  show(a.put (some d) u).tmps[p]?=some v;rw[Je this];exact hk
 |_=>exact hk
theorem LU:∀ {R:List Nat} {g:Gam} {t:Nat},(only g R).at t=if t∈R then g.at t else([],.no)
 | [],g,t=>rfl
 |u::R,g,t=>by
  simp only[only,Z4T,Gam.at];by_cases hu:u=t
  ·grind
  ·rw[if_neg hu];have:=LU (R:=R) (g:=g) (t:=t);simp_all[only,Z6K]
theorem BK(hr:RelG c B G s a w h g){ks:List OT}{aps:List AP}{aq_:List (E×Option Nat)}(hp:W4 c g C ks aps=some aq_)(hX:∀(i:Nat) (e:E) (p:Nat),aq_[i]?=some (e,some p)->∃X,eval s e=some X){vs:Array Value}
  (hvs:∀(i:Nat) (e:E) (p:Nat),aq_[i]?=some (e,some p)->a.tmps[p]?=some (vs.getD i undef)):
  (∀(i:Nat) (e:E) (p:Nat),aq_[i]?=some (e,some p)->a.tmps[p]?=some (vs.getD i undef)/\((∃l b,ks[i]?=some (.mem l)/\h.bl p 0=some b/\vs.getD i undef=.pointer (some ⟨b,0,none⟩))\/∃ty,ks[i]?=some (.own ty))):=by
 obtain⟨h1,h2,h3⟩:=Xl hp;intro i e p hi;have hlt:i<ks.length:=by rw[<-h2];exact(Z4v.1 hi).1
 have hk:ks[i]?=some ks[i]:=Z4u hlt;have ha:aps[i]?=some aps[i]:=Z4u Z0
 grind [Q1,Option.some.injEq]
theorem Z0d{ks:List OT}{aps:List AP}{aq_:List (E×Option Nat)}(hp:W4 c g C ks aps=some aq_):∀(j:Nat) (k:OT) (y:E×Option Nat),ks[j]?=some k->aq_[j]?=some y->(y.2=none↔k=OT.fz):=by
 obtain⟨h1,h2,h3⟩:=Xl hp;intro j k y hk hy;have hlt:j<ks.length:=(Z4v.1 hk).1;have hpo:=h3 j k _ y hk (Z4u (by omega:j<aps.length)) hy;unfold VO at hpo
 grind [Option.bind_eq_some_iff,Option.some.injEq]
theorem Wx:∀ {l:List Operand} {ts:List TypeId},(UK l ts).length=l.length/\∀(i:Nat) (x:AP),(UK l ts)[i]?=some x->∃y t,l[i]?=some y/\x=.op y t
 | [],ts=>by simp[UK]
 |x::l,[]=>by
  obtain⟨h1,h2⟩:=Wx (l:=l) (ts:=[]);refine⟨by simp[UK,h1],λi y hi=> ?_⟩;cases i with
  |zero=>simp[UK]at hi;exact⟨x,0,rfl,hi.symm⟩
  |succ i=>simpa using h2 i y (by simpa[UK]using hi)
 |x::l,t::ts=>by
  obtain⟨h1,h2⟩:=Wx (l:=l) (ts:=ts);refine⟨by simp[UK,h1],λi y hi=> ?_⟩;cases i with
  |zero=>simp[UK]at hi;exact⟨x,t,rfl,hi.symm⟩
  |succ i=>simpa using h2 i y (by simpa[UK]using hi)
theorem j8(hr:RelG c B G s a w h g)(hC:holds s (ixC c C)){o:Oper}{fn:FN}{ks:List OT}{aps:List AP}(hcall:j7 c g C o=some (fn,ks,aps)){f:FuncId}(hf:fnOf s fn=some f)(hcb:Yd c.P f=true):
  ∃vs:Array Value,(execOp a.eval o).run c.P w=.ok (.enter f vs) w/\vs.size=aps.length/\∀(i:Nat) (x:AP),aps[i]?=some x->apV a h x (vs.getD i undef):=by
 have hent:∀ {args:Array Operand} {tys:Array TypeId} {cv:Operand} {caps:Array Value},o.op=.call {callee:=.value cv,args:=args,argTypes:=tys}->a.eval cv=.func (.func f) #[] caps->
   (execOp a.eval o).run c.P w=.ok (.enter f (args.map a.eval++caps)) w:=by
  intro args tys cv caps hop hev;unfold Yd at hcb;split at hcb
  ·rename_i fn hfn;simp only[Z4x,Z5m,Z7b,ne_eq]at hcb;obtain⟨h1,h2⟩:=hcb;obtain⟨code,h3⟩:=Z5y.1 h2;simp[execOp,hop,resolve,hev,Deferred.ofValue,invoke,callFunc,hfn,h1,h3]
  ·cases hcb
 have plain:∀ {args:Array Operand} {tys:Array TypeId} {i:Nat} {x:AP},(UK args.toList tys.toList)[i]?=some x->apV a h x ((args.map a.eval).getD i undef):=by
  intro args tys i x hi;obtain⟨y,t,hy,rfl⟩:=(Wx (l:=args.toList) (ts:=tys.toList)).2 i x hi;rw[Z5O]at hy;have hlt:i<args.size:=(Z4z.1 hy).1;show(args.map a.eval).getD i undef=a.eval y;simp[Z4y,hy]
 unfold j7 at hcall;split at hcall
 ·rename_i f' args tys hop;simp only[Z4w,Z4C]at hcall;obtain⟨ks',_,rfl,rfl,rfl⟩:=hcall;simp only[fnOf,Z4s]at hf;subst hf;refine⟨args.map a.eval++ #[],hent hop rfl,by simp_all[Wx],λi x hi=> ?_⟩
  grind
 ·rename_i t args tys hop;split at hcall
  ·rename_i f' caps hk;simp only[Z4w,Z4C]at hcall;obtain⟨ks',_,rfl,rfl,rfl⟩:=hcall;simp only[fnOf,Z4s]at hf;subst hf;obtain⟨v,hv,⟨vs,rfl,h2,h3⟩,_⟩:=hr.look hC (show look g C t=_ from hk) rfl;have hal:=(Wx (l:=args.toList) (ts:=tys.toList)).1;simp only[Z6I]at hal;refine⟨args.map a.eval++vs,hent hop (Act.eval_tmp a t _ hv),Z3L,λi x hi=> ?_⟩;by_cases hlt:i<args.size
   ·rw[Z57 Z0]at hi;have:=plain hi;simp_all[Z4y,Z6l]
   ·rw[Z4S Z0,Z4M,Z4w]at hi;obtain⟨p,hp,rfl⟩:=hi;rw[hal]at hp;obtain⟨b,q1,q2⟩:=h3 _ p hp;refine⟨b,q1,?_⟩;simp_all[Z4y,Z7C]
  ·rename_i e sh hk;simp only[Z4w,Z4C]at hcall;obtain⟨ks',_,rfl,rfl,rfl⟩:=hcall;obtain⟨v,hv,⟨x,hx,hxr⟩,_⟩:=hr.look hC (show look g C t=_ from hk) rfl;simp only[fnOf,hx]at hf;split at hf
   ·rename_i f' hx';simp only[Z4s]at hx' hf;subst hx' hf;have hvf:v=.func (.func f') #[] #[]:=by cases hxr;rfl
    subst hvf;refine⟨args.map a.eval++ #[],hent hop (Act.eval_tmp a t _ hv),by simp_all[Wx],λi x hi=> ?_⟩;rw[Z5k];exact plain hi
   ·cases hf
  grind
 grind
theorem J2:∀ {ks:List OT} {aq_:List (E×Option Nat)} {os:List V},aq_.length=ks.length->oldV s ks (aq_.map (·.1))=some os->∃ys,ys.length=ks.length/\Xd ks ys=os/\∀(i:Nat) (k:OT) (y:E×Option Nat) (x:V),ks[i]?=some k->k≠.fz->aq_[i]?=some y->ys[i]?=some x->eval s y.1=some x
 | [],[],os,_,ho=>by
   simp only[Z6a,oldV,Z4s]at ho;subst ho;exact⟨[],rfl,rfl,λi k y x hk=>by simp at hk⟩
 | [],_::_,os,hl,_=>by simp at hl
 |_::_,[],os,hl,_=>by simp at hl
 |k::ks,(e,o)::aq_,os,hl,ho=>by
  by_cases hk:k=.fz
  ·subst hk;simp only[Z4T,oldV]at ho;obtain⟨ys,h1,h2,h3⟩:=J2 (ks:=ks) (aq_:=aq_) (by simpa using hl) ho;refine⟨.bool false::ys,by simp[h1],by simpa only[Xd]using h2,λi k y x q1 q2 q3 q4=> ?_⟩;cases i with
   |zero=>simp at q1;exact absurd q1.symm q2
   |succ i=>exact h3 i k y x (by simpa using q1) q2 (by simpa using q3) (by simpa using q4)
  ·have e1:oldV s (k::ks) (e::aq_.map (·.1))=(eval s e).bind λx=>(oldV s ks (aq_.map (·.1))).map (x:: ·):=by cases k<;>first|exact absurd rfl hk|simp only[oldV]
   rw[Z4T,e1]at ho;simp only[Z4t,Z4w]at ho;obtain⟨x,hx,os',hos,rfl⟩:=ho;obtain⟨ys,h1,h2,h3⟩:=J2 (ks:=ks) (aq_:=aq_) (by simpa using hl) hos;have e2:Xd (k::ks) (x::ys)=x::Xd ks ys:=by cases k<;>first|exact absurd rfl hk|simp only[Xd]
   refine⟨x::ys,by simp[h1],by rw[e2,h2],λi k y z q1 q2 q3 q4=> ?_⟩;cases i with
   |zero=>simp at q3 q4;subst q3 q4;exact hx
   |succ i=>exact h3 i k y z (by simpa using q1) q2 (by simpa using q3) (by simpa using q4)
def okOS(P:Program) [Lg P](s:St)(os:OS):Prop:=(∀ef∈os.efs,EFok P s ef)/\∀x∈os.chks,holds s x.1->∃z,eval s x.2=some z
theorem Dg [Lg c.P]{lets R:List Nat}{all:Gam}{o:Oper}{os:OS}{i:Nat}(hi:ops[i]?=some o)(hR:R=QU ops all o)(hr:RelG c B G s a w h (only all R))(hst:Jz c lets ops all o=some os)(hok:okOS c.P s os)(hn:c.n<=a.tmps.size)
  {K:Act->World->Prop} (hK:∀a' w' h',OPost c B G s a a' w w' h h' os->(∃u,a'=a.put o.dst u)->K a' w'):opG c.P ops i K a w:=by
 subst hR;unfold opG;simp only[hi];unfold Jz at hst;simp only at hst;split at hst
 ·cases hst
 ·rename_i hdn
  have hdst:∀d,o.dst=some d->d<a.tmps.size:=by
   intro d hd;obtain hlt|hge:=Z8w d c.n
   ·exact Z4F hlt hn
   ·simp[M4,hd,Z8x.2 hge]at hdn
  simp only[Z4t]at hst;obtain⟨C,hC,hst⟩:=hst;obtain⟨hw1,hw2⟩:=zM (ops:=ops) hr hC;split at hst
  ·
   rename_i fn ks aps d hcall hd;unfold Jy at hst;split at hst
   ·cases hst
   ·simp only[Z4t]at hst;obtain⟨aq_,has,hst⟩:=hst;split at hst
    ·cases hst
    ·rename_i hnd;simp only[Z4L,Z5m,not_or,Z6Y,Z5W,Z4N]at hnd;obtain⟨hn,hdp⟩:=hnd;have hn:=KO.1 hn;simp only[Z4s]at hst;subst hst;have hef:=hok.1 _ (List.Mem.head _);obtain⟨hl1,hl2,hget⟩:=Xl has;have hz:=Z0d has;rw[hd];by_cases hh:holds s (ixC c C)
     ·rw[if_pos (hw1 hh)];obtain⟨xs,f,R,hxs,hf,⟨hcb,hvc⟩,hR⟩:=hef.1 hh;obtain⟨vs,hent,hvl,hvs⟩:=j8 hr hh hcall hf hcb;have hrel:=H1 hr hh has hxs hvl hvs;obtain⟨_,hxat⟩:=Yz hxs
      have hX:∀(i:Nat) (e:E) (p:Nat),aq_[i]?=some (e,some p)->∃X,eval s e=some X:=λi e p hi=>by
       obtain⟨X,_,hX⟩:=hxat i e (by rw[Z4M,hi];rfl);exact⟨X,hX⟩
      have hslot:=BK hr has hX (vs:=vs) λi e p hi=>by
       have hlt:i<ks.length:=by rw[<-hl2];exact(Z4v.1 hi).1
       have hk:ks[i]?=some ks[i]:=Z4u hlt;have ha:aps[i]?=some aps[i]:=Z4u Z0;obtain⟨X,hx⟩:=hX i e p hi;exact(Bu (ks:=ks) (aq_:=aq_) hr hh (hget i _ _ _ hk ha hi) hx (hvs i _ ha) hk hi).2 p rfl
      rw[hent,JC];refine Lg.calls_mono (hvc B w (XQ _ h w ks aq_) vs (zC hr.ok hn) hrel) λe w' he=> ?_;obtain⟨v,r,ys,hx,rfl,hbel,hsame,hokx,hK',hrd,hB,hpack⟩:=he;refine⟨v,rfl,?_⟩;rw[hd];refine hK _ _ _ (Ke hr has hn (hdst d hd) hdp hslot hz hokx hK' hbel hsame hB (r0:=r) (λhne=> ?_) (λ_=> ?_) λhh'=>absurd hh hh') ⟨_,by rw[hd]⟩
      ·rw[hR,hpack];cases hos:Xd ks ys with
       |nil=>exact absurd hos hne
       |cons x l=>rfl
      ·have hFx:∀b,hx.F b->(Wd h hx aq_).F b:=λb hb=>.inr hb;cases hos:Xd ks ys with
       |nil=>
        have hps:(aq_.filterMap (·.2)).isEmpty=true:=by
         cases hpe:aq_.filterMap (·.2)with
         |nil=>rfl
         |cons p l=>
          exfalso;have hpm:p∈Zw (Xv (c.ix d) 1 ks aq_):=by rw[J7 hl2,hpe];simp
          obtain⟨_,_,_,_,_,_,_,_,_,q5⟩:=Q0 (i0:=c.ix d) (q:=1) (ys:=ys) hl2 hB.1 hz p hpm;rw[hos]at q5;simp at q5
        rw[if_pos hps];refine⟨r,?_,hrd.mono λb hb=>GH.ext_F (hFx b hb)⟩;simp only[eval,hR,hpack,hos,CI]
       |cons x l=>
        have hps:¬(aq_.filterMap (·.2)).isEmpty=true:=by
         intro he;have hnil:=Z76.1 he
         have:∀ {ks:List OT} {aq_:List (E×Option Nat)} {ys:List V},aq_.length=ks.length->(∀(j:Nat) (k:OT) (y:E×Option Nat),ks[j]?=some k->aq_[j]?=some y->(y.2=none↔k=OT.fz))->aq_.filterMap (·.2)=[]->Xd ks ys=[]:=by
          intro ks
          induction ks with
          |nil=>intro aq_ ys _ _ _;simp[Xd]
          |cons k ks ih=>
           intro aq_ ys h1 h2 h3;cases aq_ with
           |nil=>simp at h1
           |cons y aq_=>
            have hy:y.2=none:=by
             cases hy:y.2 with
             |none=>rfl
             |some p=>simp[Z68,hy]at h3
            have hk:=(h2 0 k y rfl rfl).1 hy;subst hk;cases ys with
            |nil=>simp[Xd]
            |cons z ys=>
             simp only[Xd];exact ih (by simpa using h1) (λj k y q1 q2=>h2 (j+1) k y (by simpa using q1) (by simpa using q2)) (by simpa[Z68,hy]using h3)
         have:=this (ys:=ys) hl2 hz hnil;rw[hos]at this;cases this
        rw[if_neg hps];refine⟨r,?_,hrd.mono λb hb=>GH.ext_F (hFx b hb)⟩;simp only[eval,hR,hpack,hos,CI,Z4E,extV,Z6e]
     ·rw[if_neg (by rw[hw2 hh];simp)];obtain⟨os,hos,hgo⟩:=hef.2 hh;obtain⟨ys,hy1,hy2,hy3⟩:=J2 hl2 hos
      let vs:Array Value:=(aq_.map λy=>match y.2 with|some p=>a.tmps.getD p undef|none=>undef).toArray
      have hX:∀(i:Nat) (e:E) (p:Nat),aq_[i]?=some (e,some p)->∃X,ys[i]?=some X/\eval s e=some X:=λi e p hi=>by
       have hlt:i<ks.length:=by rw[<-hl2];exact(Z4v.1 hi).1
       have hk:ks[i]?=some ks[i]:=Z4u hlt;have hyi:ys[i]?=some ys[i]:=Z4u Z0;have hkz:ks[i]≠.fz:=λe'=>by have:=(hz i _ _ hk hi).2 e';cases this
       exact⟨_,hyi,hy3 i _ _ _ hk hkz hi hyi⟩
      have hval:∀(i:Nat) (e:E) (p:Nat),aq_[i]?=some (e,some p)->a.tmps[p]?=some (vs.getD i undef):=λi e p hi=>by
       have hlt:i<ks.length:=by rw[<-hl2];exact(Z4v.1 hi).1
       have hk:ks[i]?=some ks[i]:=Z4u hlt;have ha:aps[i]?=some aps[i]:=Z4u Z0;obtain⟨X,_,hx⟩:=hX i e p hi;obtain⟨v,q1,_⟩:=Q1 (ks:=ks) (aq_:=aq_) hr (hget i _ _ _ hk ha hi) hx hk hi;have:vs.getD i undef=v:=by simp[vs,Z4y,hi,q1]
       rw[this];exact q1
      have hslot:=BK hr has (λi e p hi=>by obtain⟨X,_,hX⟩:=hX i e p hi;exact⟨X,hX⟩) hval;refine hK _ _ _ (Ke hr has hn (hdst d hd) hdp hslot hz (zC hr.ok hn) rfl (.refl _ _) (.refl _ _) (ys:=ys) ⟨hy1,λi k y hk hkz hy=> ?_⟩ (r0:=.bool false) (λhne=>by rw[hy2];exact hgo (by rw[<-hy2];exact hne)) (λhh'=>absurd hh' hh) λ_=>rfl) ⟨_,by rw[hd]⟩;have hlt:i<ks.length:=(Z4v.1 hk).1;have ha:aps[i]?=some aps[i]:=Z4u Z0;have hs:aq_[i]?=some aq_[i]:=Z4u Z0;generalize aq_[i]=y0 at hs;obtain⟨e,o⟩:=y0;cases o with
      |none=>exact absurd ((hz i k _ hk hs).1 rfl) hkz
      |some p=>
       obtain⟨X,hX1,hX2⟩:=hX i e p hs;rw[hy]at hX1;cases hX1;obtain⟨v,q1,q2,_⟩:=Q1 (ks:=ks) (aq_:=aq_) hr (hget i _ _ _ hk ha hs) hX2 hk hs;have:=hval i e p hs;rw[q1]at this;simp only[Z4s]at this;rw[<-this];exact q2
  ·cases hst
  split at hst
  ·
   rename_i f shf args ts d hcall hd;unfold zh at hst;split at hst
   ·cases hst
   ·simp only[Z4w]at hst;obtain⟨aq_,has,rfl⟩:=hst;by_cases hh:holds s (ixC c C)
    ·rw[if_pos (hw1 hh)];obtain⟨xs,n,r,hxs,hfn,hvc,hfl,hget⟩:=hok.1 _ (List.Mem.head _) hh;obtain⟨hl,hx⟩:=AI hr hh has hxs;obtain⟨hcb,hvc⟩:=hvc;obtain⟨caps,henter,hcsz,hcrd⟩:=C5 hr hh hcall hfn hcb
     ·rw[henter,JC];refine Lg.calls_mono (hvc w (h.exb aq_.2.2 (aq_.2.1++shf)) ((args.map a.eval).toArray++caps) (GH.exb_lt hr.ok) (by simp[hl,hcsz]) λj x hj=> ?_) λe w' he=> ?_
      ·by_cases hlt:j<args.length
       ·rw[Z57 Z0]at hj;obtain⟨z,hz,hzr⟩:=hx j args[j] (by simp[hlt]);rw[hj]at hz;cases hz
        have:((args.map a.eval).toArray++caps).getD j undef=a.eval args[j]:=by
         rw[Z4y,Z6l (by simpa using hlt)];simp[hlt]
        rw[this];exact hzr.mono (GH.exb_mono (λe=>e) λp hp=>by simp[hp])
       ·rw[Z4S Z0]at hj;have:=hcrd _ x hj
        have e:((args.map a.eval).toArray++caps).getD j undef=caps.getD (j-xs.length) undef:=by
         rw[Z4y,Z4y,Z7C Z3N];simp[hl]
        rw[e];exact this.mono λb hb=>GH.exb_mono (λe=>by cases e) (λp hp=>by simp[hp]) b (GH.exb_of (big:=false) hb)
      ·obtain⟨v,rfl,hbel,hrd⟩:=he;refine⟨v,rfl,?_⟩;have hsz:=hbel.size
       let h':GH:= {F:=λb=>h.F b\/(w.heap.size<=b/\b<w'.heap.size),bl:=h.bl,K:=h.K}
       have hok':Ok B G w' h':=by
        refine⟨Z4Z hr.ok.base hsz,λb hb=> ?_,λb hb=> ?_,λb hb=>.inl (hr.ok.g_F b hb),λt j b hb=> ?_,hr.ok.inj,λb hb=>Z4F (hr.ok.k_lt b hb) hsz,hr.ok.k_bl,λb hb=> ?_⟩
        ·obtain hb|hb:=hb
         ·exact Z4F (hr.ok.f_lt b hb) hsz
         ·exact hb.2
        ·obtain hb|hb:=hb
         ·exact hr.ok.f_or b hb
         ·exact .inr (Z4Z hr.ok.base hb.1)
        ·obtain⟨h1,h2,h3⟩:=hr.ok.b_lt t j b hb;refine⟨h1,Z4F h2 hsz,λhF=> ?_⟩;obtain hF|hF:=hF
         ·exact h3 hF
         ·omega
        ·obtain hb|hb:=hb
         ·exact hr.ok.k_F b hb
         ·exact .inr λhkb=>by have:=hr.ok.k_lt b hkb;omega
       have hstep:Step B [d] [d] [] w w' h h':=⟨hbel.mono hr.ok.base,λb hb _=>hbel.block b hb,λb hb=>.inl hb,λ_ _ _=>rfl,λ_ _=>rfl,λ_ _ _ _ hm=>Z4o,rfl⟩;rw[hd]
       have hexb:∀b,h.exb aq_.2.2 (aq_.2.1++shf) b->h'.exb aq_.2.2 (aq_.2.1++shf) b:=λb hb=>by
        obtain hb|hb:=hb
        ·exact .inl (.inl hb)
        ·exact .inr hb
       refine hK _ _ h' (Bv (hdst d hd) hstep hok' hh ?_) ⟨_,by rw[hd]⟩;split
       ·
        rename_i hbig;simp only[Z4x]at hbig;refine⟨r,by simp only[eval,hget],hrd.mono λb hb=> ?_⟩;obtain⟨_,hb⟩|hb:=hb
        ·rw[hbig.1]at hexb hb;exact hexb b hb
        ·exact .inl (.inr hb)
       ·rename_i hbig;refine⟨r,by simp only[eval,hget],?_⟩;split
        ·rename_i hor;simp only[Z4L]at hor;obtain hflat|hfresh:=hor
         ·have hfr:=hfl hflat;unfold flV at hfr;split at hfr
          ·cases hfr
          ·rename_i hnt;split at hfr
           ·rename_i hall;exact hrd.flatAll (λy hy=>Z4D.1 hall y hy) λl hl=>hnt l hl
           ·cases hfr
         ·refine hrd.mono λb hb=> ?_;obtain⟨hb,_⟩|hb:=hb
          ·rw[hfresh]at hb;cases hb
          ·exact .inl (.inr hb)
        ·rename_i hnor;refine hrd.mono λb hb=> ?_;obtain⟨_,hb⟩|hb:=hb
         ·have hbf:aq_.2.2=false:=by
           cases hb2:aq_.2.2
           ·rfl
           ·exfalso;apply hbig;rw[hb2]at hnor⊢;simp only[Z85];cases hz:((!(aq_.2.1++shf).isEmpty||true)&& !Kr c f&&Xu c.P o.type||Kr c f)
            ·rfl
            ·exact(hnor hz).elim
          have:=hexb b hb;rw[hbf]at this;exact GH.exb_ext this
         ·exact .inl (.inr hb)
    ·rw[if_neg (by rw[hw2 hh];simp)];rw[hd];exact hK _ _ h (qi (hdst d hd) hr.ok hh) ⟨_,by rw[hd]⟩
  ·cases hst
  ·split at hst
   ·
    rename_i k es d hpk hd
    have hres:∃k' efs chks,os= {d:=[(d,C,k')],ps:=[d],rb:=[d],fz:=[],efs,chks}/\(holds s (ixC c C)->(∀e∈es,∃z,eval s e=some z)/\∀ {v w' h'},RelK c.P B s w' h' (λp=>a.tmps[p]?) d v k->RelK c.P B s w' h' (λp=>(a.put (some d) v).tmps[p]?) d v k'):=by
     unfold Gn at hst;split at hst
     ·split at hst
      ·rename_i e;split at hst
       ·cases hst
       ·simp only[Z4s]at hst;subst hst;refine⟨_,_,_,rfl,λhh=>⟨λe he=>hok.2 (ixC c C,e) (Z4I.2 ⟨e,he,rfl⟩) hh,λhk=> ?_⟩⟩;obtain⟨x,hx,hget⟩:=hok.1 _ (List.Mem.head _) hh;obtain⟨y,hy,hyr⟩:=hk;rw[hx]at hy;cases hy;exact⟨x,by simp only[eval,hget],hyr⟩
      ·cases hst
     ·split at hst
      ·cases hst
      ·rename_i ht;simp only[Z4L,not_or,Z6L]at ht;simp only[Z4s]at hst;subst hst;refine⟨_,_,_,rfl,λhh=>⟨λe he=>hok.2 (ixC c C,e) (Z4I.2 ⟨e,he,rfl⟩) hh,λhk=>hk.other ht.1⟩⟩
    obtain⟨k',efs,chks,rfl,hrel⟩:=hres;by_cases hh:holds s (ixC c C)
    ·rw[if_pos (hw1 hh)];obtain⟨hes,hrel⟩:=hrel hh;obtain⟨v,w',hrun,h',hs',hok',hk'⟩:=Ie hr hh hpk hes d hd;rw[hrun,JD,hd];exact hK _ _ h' (Bv (hdst d hd) hs' hok' hh (hrel hk')) ⟨_,by rw[hd]⟩
    ·rw[if_neg (by rw[hw2 hh];simp),hd];exact hK _ _ h (qi (hdst d hd) hr.ok hh) ⟨_,by rw[hd]⟩
   ·
    split at hst
    ·cases hst
    ·rename_i hguard;have hgn:o.guard=none:=by cases hg:o.guard<;>simp_all
     have hCn:C=[]:=by
      unfold Ll at hC;rw[hgn]at hC;simpa using hC.symm
     subst hCn;rw[if_pos (hw1 (Zb s c))];simp only[Z4t]at hst;obtain⟨m,hm,hst⟩:=hst;split at hst
     ·rename_i hsub;simp only[Z4x,Z4D,Z5W,Z4N]at hsub;obtain⟨⟨hps,hrb⟩,hdin⟩:=hsub;simp only[Z4s]at hst;subst hst;obtain⟨n,u,w',h',hrun,hn',hpost⟩:=m7 hr hdst hm λe he=>hok.2 ([],e) (Z4I.2 ⟨e,he,rfl⟩) (Y5 s)
      have htm:∀t,t∉m.ps->(a.put o.dst u).tmps[t]?=a.tmps[t]? :=by
       intro t ht;cases hd:o.dst with
       |none=>rfl
       |some d=>
        refine Je (λe=>ht ?_) u;rw[e];simpa[Pb,hd]using hdin
      have hfin:OPost c B G s a (a.put o.dst u) w w' h h' (Og (only all (QU ops all o)) all m):=by
       refine⟨hpost.step,hpost.ok,Q2 _ _ _,Uf _ _ _,htm,λt ht=> ?_⟩;simp only[Og,Zw,Z5F,Z4R]at ht⊢;rw[Y3,Y3];simp only[Zw,Z5F,Z4R];by_cases h1:t∈Zw m.d
       ·have h1':t∈List.map (·.1) m.d:=h1;simp only[h1',true_or,Z5b];obtain⟨e1,e2⟩:=hpost.ent t h1;exact⟨λ_ hno=>e2 hno,λhn=>absurd (by rw[e1];exact Zb s c) hn⟩
       ·have h1':t∉List.map (·.1) m.d:=h1;by_cases h2:t∈Zw (Wc m.ps m.rb m.fz all)
        ·have h2':t∈List.map (·.1) (Wc m.ps m.rb m.fz all):=h2;simp only[h1',h2',false_or,Z5b,Z5h,RS h2];exact⟨λ_ hno=>by simp[TK.isNo]at hno,λhn=>absurd (Zb s c) hn⟩
        ·have h2':t∉List.map (·.1) (Wc m.ps m.rb m.fz all):=h2
         have h3:t∈m.fz:=by
          obtain(ht|ht)|ht:=ht
          ·exact absurd ht h1'
          ·exact absurd ht h2'
          ·have:=WX (fz:=m.fz) (g:=only all (QU ops all o));unfold Zw at this;rw[this]at ht;exact ht
         have htp:t∉m.ps:=λhp=>h1 (hps t hp)
         have hcalm:calm m.ps m.rb m.fz ((only all (QU ops all o)).at t).2=true:=by
          rw[LU];split
          ·exact KG h2
          ·exact j9 _ _ _
         simp only[h1',h2',false_or,Z5h,U9 h3];refine⟨λhCt hno=> ?_,λhn=> ?_⟩
         ·have hno':((only all (QU ops all o)).at t).2.isNo=false:=by
           cases hk:((only all (QU ops all o)).at t).2<;>first|rfl|(rw[hk]at hno;simp[UP,TK.isNo]at hno)
          obtain⟨v,hv,hk⟩:=hr.at_ t hCt hno';exact⟨v,by rw[htm t htp];exact hv,hk.freeze hpost.step hr.ok hrb htp h3 hcalm htm⟩
         ·have:=hr.skip t hn;simp only[Z4y,htm t htp]at this⊢;exact this
      rw[hrun];obtain rfl|⟨rfl,rfl⟩:=hn'
      ·rw[JD];exact hK _ _ h' hfin ⟨_,rfl⟩
      ·rw[Dk];exact hK _ _ h' hfin ⟨_,rfl⟩
     ·cases hst
end
end Vm
end
section
namespace Vm
open Go
open Go.RowKit (Below)
def gL:List XS->Nat->(Nat->Bool)->Gam->Gam
 | [],_,_,g=>g
 |x::xs,k,L,g=>gL xs (k+1) L (if L k then x.os.d++g else g)
def gAll(xs:List XS)(g:Gam):Gam:=xs.foldl (λg x=>x.os.d++g) g
def RO{t:Nat}:∀ {xs:List XS} {k:Nat} {L L':Nat->Bool} {g g':Gam},(∀(i:Nat) (x:XS),xs[i]?=some x->t∈Zw x.os.d->L (k+i)=L' (k+i))->g.at t=g'.at t->(gL xs k L g).at t=(gL xs k L' g').at t
 | [],_,_,_,_,_,_,hg=>hg
 |x::xs,k,L,L',g,g',hx,hg=>by
  simp only[gL];refine RO (λi y hi ht=> ?_) ?_
  ·have:=hx (i+1) y Z3L ht
   grind
  ·by_cases ht:t∈Zw x.os.d
   ·have h0:=hx 0 x rfl ht;rw[Z6G]at h0;rw[<-h0];split
    ·simp_all[Y3,if_pos]
    ·exact hg
   ·have:∀(b:Bool) (g:Gam),Gam.at (if b=true then x.os.d++g else g) t=g.at t:=by
     intro b g;split
     ·rw[Y3,if_neg ht]
     ·rfl
    rw[this,this];exact hg
def jn{t:Nat}:∀ {xs:List XS} {k:Nat} {L:Nat->Bool} {g:Gam},(∀(i:Nat) (x:XS),xs[i]?=some x->L (k+i)=true->t∉Zw x.os.d)->(gL xs k L g).at t=g.at t
 | [],_,_,_,_=>rfl
 |x::xs,k,L,g,hx=>by
  simp only[gL];rw[jn λi y hi hl=>hx (i+1) y Z3L Z3L];split
  ·rename_i hk;rw[Y3,if_neg (hx 0 x rfl hk)]
  ·rfl
def M8{t:Nat}:∀ {xs:List XS} {k i:Nat} {L:Nat->Bool} {g:Gam} {x:XS},xs[i]?=some x->L (k+i)=true->t∈Zw x.os.d->(∀(j:Nat) (y:XS),xs[j]?=some y->i<j->L (k+j)=true->t∉Zw y.os.d)->(gL xs k L g).at t=x.os.d.at t
 | [],_,_,_,_,_,hx,_,_,_=>Z4n
 |y::xs,k,0,L,g,x,hx,hl,ht,hn=>by
  simp at hx;subst hx;simp only[gL];rw[Z6G]at hl;rw[hl,if_pos rfl,jn λj z hj hlj=>hn (j+1) z Z3L Z0 Z3L,Y3,if_pos ht]
 |y::xs,k,i+1,L,g,x,hx,hl,ht,hn=>by
  simp only[gL];exact M8 (i:=i) (by simpa using hx) Z3L ht λj z hj hij hlj=>hn (j+1) z Z3L Z0 Z3L
def Em{t:Nat}:∀ {xs:List XS} {k:Nat} {L:Nat->Bool} {g:Gam},(gL xs k L g).at t=g.at t\/∃j y,xs[j]?=some y/\L (k+j)=true/\t∈Zw y.os.d/\(gL xs k L g).at t=y.os.d.at t
 | [],_,_,_=>.inl rfl
 |x::xs,k,L,g=>by
  simp only[gL];obtain h|⟨j,y,hj,hl,ht,h⟩:=Em (xs:=xs) (k:=k+1) (L:=L) (g:=if L k=true then x.os.d++g else g) (t:=t)
  ·by_cases hk:L k=true
   ·rw[if_pos hk]at h⊢;rw[Y3]at h;split at h
    ·rename_i ht;exact .inr ⟨0,x,rfl,hk,ht,h⟩
    simp_all
   simp_all
  ·exact .inr ⟨j+1,y,Z3L,Z3L,ht,h⟩
def jo:∀ {xs:List XS} {k j:Nat} {g:Gam},gL xs k (λi=>decide (i<k+j)) g=gAll (xs.take j) g
 | [],_,_,_=>by simp[gL,gAll]
 |x::xs,k,0,g=>by
  simp only[gL];rw[if_neg Z1];simp only[Z8B,gAll,List.foldl_nil]
  have h0:∀(xs:List XS) (k':Nat) (g:Gam),k<=k'->gL xs k' (λi=>decide (i<k+0)) g=g:=by
   intro xs
   induction xs with
   |nil=>intro k' g _;rfl
   |cons y ys ih=>
    intro k' g hk;simp only[gL];rw[if_neg Z3N];exact ih (k'+1) g Z0
  exact h0 xs (k+1) g Z0
 |x::xs,k,j+1,g=>by
  simp only[gL];rw[if_pos Z1];have h1:=jo (xs:=xs) (k:=k+1) (j:=j) (g:=x.os.d++g)
  have h2:(λi=>decide (i<k+1+j))=λi=>decide (i<k+(j+1)):=by
   funext i;congr 1;apply propext;omega
  rw[h2]at h1;rw[h1];simp[gAll]
def Rq{c:Ctx}{draw:Bool}{lets:List Nat}{ops:Array Oper}:∀ {l:List Oper} {g gf:Gam} {xs0 xs:List XS},SU c draw lets ops l g xs0=some (gf,xs)->
  ∃ys,xs=xs0++ys/\ys.length=l.length/\gf=gAll ys g/\∀(j:Nat) (o:Oper),l[j]?=some o->∃y,ys[j]?=some y/\Jz c lets ops (gAll (ys.take j) g) o=some y.os/\y.R=QU ops (gAll (ys.take j) g) o/\y.T=Dn draw (xs0++ys.take j) o/\(draw=true->∀e∈VA o,e<xs0.length+j)
 | [],g,gf,xs0,xs,h=>by
   simp only[SU,Z4s,Z4C]at h;obtain⟨rfl,rfl⟩:=h;exact⟨[],Z1,rfl,rfl,λj o hj=>by simp at hj⟩
 |o::l,g,gf,xs0,xs,h=>by
  simp only[SU]at h;split at h
  ·cases h
  ·rename_i hedge;simp only[Z4t]at h;obtain⟨os,hos,h⟩:=h;obtain⟨ys,rfl,hl,rfl,hall⟩:=Rq h;refine⟨{os,R:=QU ops g o,T:=Dn draw xs0 o}::ys,Z1,by simp[hl],by simp[gAll],λj o' hj=> ?_⟩;cases j with
   |zero=>
    simp at hj;subst hj;refine⟨_,rfl,by simpa[gAll]using hos,by simp[gAll],Z1,λhd e he=> ?_⟩;simp only[hd,Z85,Z5m,Z6Y,Z4D,Z4N]at hedge;exact hedge e he
   |succ j=>
    obtain⟨y,h1,h2,h3,h4,h5⟩:=hall j o' Z3L;refine⟨y,by simpa using h1,by simpa[gAll]using h2,by simpa[gAll]using h3,by simpa using h4,λhd e he=> ?_⟩;have:=h5 hd e he;simp at this;omega
structure Reg.Fine (c:Ctx) (draw:Bool) (ops:Array Oper) (g0:Gam) (xs:List XS):Prop where
 len:xs.length=ops.size
 at_:∀(i:Nat) (o:Oper) (x:XS),ops[i]?=some o->xs[i]?=some x->Jz c (Bg ops) ops (gAll (xs.take i) g0) o=some x.os/\x.R=QU ops (gAll (xs.take i) g0) o/\x.T=Dn draw (xs.take i) o/\(draw=true->∀e∈VA o,e<i)
 ps:∀(i:Nat) (x:XS),xs[i]?=some x->(∀p∈x.os.ps,p∈Zw x.os.d)/\(∀p∈x.os.fz,p∈Zw x.os.d)/\Jf x.os g0=true/\∀j∈x.T,j<i
 pair:∀(i j:Nat) (x y:XS),xs[i]?=some x->xs[j]?=some y->Bm x i y j=true
def N4{c:Ctx}{draw:Bool}{ops:Array Oper}{g0 gf:Gam}{xs:List XS}(h:SU c draw (Bg ops) ops ops.toList g0 []=some (gf,xs))(hok:LT g0 xs=true):Reg.Fine c draw ops g0 xs/\gf=gAll xs g0:=by
 obtain⟨ys,hys,hl,rfl,hall⟩:=Rq h;simp only[Z5G]at hys;subst hys;refine⟨⟨Z0,λi o x ho hx=> ?_,λi x hx=> ?_,λi j x y hx hy=> ?_⟩,rfl⟩
 ·obtain⟨y,h1,h2,h3,h4,h5⟩:=hall i o Z3L;simp_all
 all_goals
  simp only[LT,Z4D,Z4x]at hok;have hm:∀(i:Nat) (x:XS),xs[i]?=some x->(x,i)∈xs.zipIdx:=λi x hx=>Z7s.2 ⟨i,by rw[Z6y,hx];simp⟩
 ·obtain⟨⟨⟨⟨h1,h2⟩,h3⟩,h4⟩,_⟩:=hok (x,i) (hm i x hx);simp_all
 simp_all
section
variable {c:Ctx}{B:Nat}{G:Nat->Prop}{s:St}{a a':Act}{w w' w0:World}{h h':GH}{g0:Gam}{ops:Array Oper}{xs:List XS}{draw:Bool}{L:Nat->Bool}
def K1(xs:List XS)(L:Nat->Bool):Prop:=∀(i:Nat) (x:XS),xs[i]?=some x->L i=true->∀j∈x.T,L j=true
def add(L:Nat->Bool)(i:Nat):Nat->Bool:=λj=>L j||j==i
def J9{x y:XS}{i j:Nat}(hp:Bm x i y j=true)(hne:j≠i)(hT:i∉y.T):Jf x.os y.os.d=true/\(j∉x.T->(∀t∈Zw y.os.d,t∉Zw x.os.d)/\∀t∈Zw y.os.d,t∉x.R):=by
 simp only[Bm,Z4L,Z4x,Z59,hne,false_or,Z5W,Z4N,hT]at hp
 grind [DD,List.all_eq_true,Bool.not_eq_true',decide_eq_false_iff_not]
def Ri{os:OS}{g:Gam}(hq:Jf os g=true){t:Nat}(ht:t∉Zw os.d):calm os.ps os.rb os.fz (g.at t).2=true:=by
 by_cases hm:t∈Zw g
 ·have:=Z4D.1 hq _ (AJ hm);simp_all
 simp_all[Sd,j9]
def Reg.Fine.only(hf:Reg.Fine c draw ops g0 xs)(hcl:K1 xs L)(hr:RelG c B G s a w h (gL xs 0 L g0)){i:Nat}{x:XS}(hx:xs[i]?=some x)(hi:L i=false)(hT:∀j∈x.T,L j=true):
  RelG c B G s a w h (only (gAll (xs.take i) g0) x.R):=by
 have hsame:∀t,t∈x.R->(gL xs 0 L g0).at t=(gAll (xs.take i) g0).at t:=by
  intro t ht;have hgt:=jo (xs:=xs) (k:=0) (j:=i) (g:=g0);simp only[Z5g]at hgt;rw[<-hgt];refine RO (λj y hy htd=> ?_) rfl;rw[Z5g];obtain⟨_,_,_,hTy⟩:=hf.ps j y hy;obtain⟨_,_,_,hTx⟩:=hf.ps i x hx;by_cases hji:j=i
  ·simp_all
  ·have hcase:j∉x.T->i∉y.T->False:=λh1 h2=>((J9 (hf.pair i j x y hx hy) hji h2).2 h1).2 t htd ht;obtain hlt|hgt:=Z7S hji
   ·grind
   ·cases hL:L j with
    |false=>simp;omega
    |true=>
     exfalso;refine hcase (λhh=>Z3L) λhh=> ?_;have:=hcl j y hy hL i hh;simp_all
 refine⟨hr.ok,λt=> ?_,λt=> ?_⟩
 ·rw[LU];split
  ·rename_i ht;rw[<-hsame t ht];exact hr.at_ t
  simp_all[TK.isNo]
 ·rw[LU];split
  ·rename_i ht;rw[<-hsame t ht];exact hr.skip t
  simp_all[absurd,Zb]
def Reg.Fine.next(hf:Reg.Fine c draw ops g0 xs)(hcl:K1 xs L)(hr:RelG c B G s a w h (gL xs 0 L g0)){i:Nat}{x:XS}(hx:xs[i]?=some x)(hi:L i=false)(hrb:∀t∈x.os.rb,t∈x.os.ps)(hT:∀j∈x.T,L j=true)(hp:OPost c B G s a a' w w' h h' x.os):
  RelG c B G s a' w' h' (gL xs 0 (add L i) g0):=by
 obtain⟨hps,hfz,hq0,hTx⟩:=hf.ps i x hx
 have key:∀t,(holds s (ixC c ((gL xs 0 (add L i) g0).at t).1)->((gL xs 0 (add L i) g0).at t).2.isNo=false->∃v,a'.tmps[t]?=some v/\RelK c.P B s w' h' (λp=>a'.tmps[p]?) t v ((gL xs 0 (add L i) g0).at t).2)/\
   (¬holds s (ixC c ((gL xs 0 (add L i) g0).at t).1)->a'.tmps.getD t undef=undef):=by
  intro t;by_cases ht:t∈Zw x.os.d
  ·have:(gL xs 0 (add L i) g0).at t=x.os.d.at t:=by
    refine M8 hx (by simp[add]) ht λj y hy hij hl htd=> ?_
    have hlj:L j=true:=by
     simp only[add,Z5g,Z4L,Z59]at hl;exact hl.resolve_right Z0
    have hTi:i∉y.T:=λhh=>by
     have:=hcl j y hy hlj i hh;simp_all
    exact((J9 (hf.pair i j x y hx hy) Z0 hTi).2 λhh=>Z3L).1 t htd ht
   rw[this];exact hp.ent t ht
  ·have hsame:(gL xs 0 (add L i) g0).at t=(gL xs 0 L g0).at t:=by
    refine RO (λj y hy htd=> ?_) rfl;by_cases hji:j=i
    ·simp_all
    ·simp[add,hji]
   rw[hsame];have htp:t∉x.os.ps:=λhh=>ht (hps t hh)
   have hcalm:calm x.os.ps x.os.rb x.os.fz ((gL xs 0 L g0).at t).2=true:=by
    obtain h1|⟨j,y,hy,hl,htd,h1⟩:=Em (xs:=xs) (k:=0) (L:=L) (g:=g0) (t:=t)
    ·simp_all[Ri]
    ·rw[h1];rw[Z5g]at hl;have hji:j≠i:=λe=>Z3M
     have hTi:i∉y.T:=λhh=>by
      have:=hcl j y hy hl i hh;simp_all
     exact Ri (J9 (hf.pair i j x y hx hy) hji hTi).1 ht
   refine⟨λhC hn=> ?_,λhn=> ?_⟩
   ·obtain⟨v,hv,hk⟩:=hr.at_ t hC hn;exact⟨v,by rw[hp.tm t htp];exact hv,hk.keep hp.step hr.ok hrb htp (λhh=>absurd (hfz t hh) ht) hcalm hp.tm⟩
   ·have:=hr.skip t hn;simp only[Z4y,hp.tm t htp]at this⊢;exact this
 exact⟨hp.ok,λt=>(key t).1,λt=>(key t).2⟩
def Cd(hcl:K1 xs L){i:Nat}{x:XS}(hx:xs[i]?=some x)(hT:∀j∈x.T,L j=true):K1 xs (add L i):=by
 intro j y hy hl k hk;simp only[add,Z4L,Z59]at hl⊢;obtain hl|rfl:=hl
 ·exact .inl (hcl j y hy hl k hk)
 simp_all
end
end Vm
namespace Vm
open Go
open Go.RowKit (Below)
section
variable {c:Ctx}{B:Nat}{G:Nat->Prop}{s:St}{a a':Act}{w w' w0:World}{h h':GH}{g0:Gam}{ops:Array Oper}{xs:List XS}{draw:Bool}{L:Nat->Bool}{n0:Nat}{ds:List Deferred}
def Gm{lets:List Nat}{all:Gam}{o:Oper}{os:OS}(hst:Jz c lets ops all o=some os):∀t∈os.rb,t∈os.ps:=by
 unfold Jz at hst;simp only at hst;split at hst
 grind
 ·simp only[Z4t]at hst;obtain⟨C,_,hst⟩:=hst;split at hst
  ·unfold Jy at hst;split at hst
   grind
   ·simp only[Z4t]at hst
    grind
  grind
  split at hst
  ·unfold zh at hst;split at hst
   grind
   ·simp only[Z4w]at hst
    grind
  grind
  ·split at hst
   ·unfold Gn at hst
    grind
   ·split at hst
    grind
    ·simp only[Z4t]at hst;obtain⟨m,_,hst⟩:=hst;split at hst
     ·rename_i hsub;simp only[Z4x,Z4D,Z5W,Z4N]at hsub;simp only[Z4s]at hst;subst hst;exact hsub.1.2
     grind
structure Frm (Kf:Nat->Prop) (fx:Nat->Prop) (T0:Array Value) (B:Nat) (w0:World) (a:Act) (w:World):Prop where
 below:Below B w0 w
 same:Same Kf w0 w
 fix:∀t,fx t->a.tmps[t]?=T0[t]?
def Frm.refl{Kf fx:Nat->Prop}{B:Nat}(a:Act)(w:World):Frm Kf fx a.tmps B w a w:=⟨.refl _ _,.refl _ _,λ_ _=>rfl⟩
theorem Frm.trans{Kf fx:Nat->Prop}{T0:Array Value}{B:Nat}{w0 w w':World}{a a':Act}(h:Frm Kf fx T0 B w0 a w)(h':Frm Kf fx a.tmps B w a' w'):Frm Kf fx T0 B w0 a' w':=
 ⟨h.below.trans h'.below,h.same.trans h'.same,λt ht=>(h'.fix t ht).trans (h.fix t ht)⟩
variable {Kf fx:Nat->Prop}{T0:Array Value}
def Step.K_same{ps rb fz:List Nat}(hs:Step B ps rb fz w w' h h')(hok:Ok B G w h):Same h.K w w':=
 λb hb=>hs.same b (hok.k_lt b hb) λp _ i hi=>hok.k_bl p i b hi hb
def RInv(Kf fx:Nat->Prop)(T0:Array Value)(c:Ctx)(B:Nat)(G:Nat->Prop)(s:St)(g0:Gam)(xs:List XS)(w0:World)(n0:Nat)(ds:List Deferred)(L:Nat->Bool)(a:Act)(w:World):Prop:=
 (∃h,RelG c B G s a w h (gL xs 0 L g0)/\h.K=Kf)/\Frm Kf fx T0 B w0 a w/\a.tmps.size=n0/\a.defers=ds/\K1 xs L
def RelG.drew{g:Gam}(hr:RelG c B G s a w h g)(d:Nat):RelG c B G s a {w with drawn:=d} h g:=by
 have hst:Step B [] [] [] w {w with drawn:=d} h h:=⟨⟨rfl,rfl,rfl,Z4A _,λ_ _=>rfl⟩,λ_ _ _=>rfl,λ_ hb=>hb,λ_ _ _=>rfl,λ_ _=>rfl,λ_ _ _ _ hm=>Z4o,rfl⟩;have hok:Ok B G {w with drawn:=d} h:=⟨hr.ok.base,hr.ok.f_lt,hr.ok.f_or,hr.ok.g_F,hr.ok.b_lt,hr.ok.inj,hr.ok.k_lt,hr.ok.k_bl,hr.ok.k_F⟩;refine⟨hok,λt hC hn=> ?_,hr.skip⟩;obtain⟨v,hv,hk⟩:=hr.at_ t hC hn
 exact⟨v,hv,hk.keep hst hr.ok (λ_ h=>h) Z1 (λh=>Z4q) (by
  have:Sw [] (g.at t).2=false:=by cases(g.at t).2<;>simp[Sw]
  simp[calm,this]) λ_ _=>rfl⟩
def RInv.sim(hI:RInv Kf fx T0 c B G s g0 xs w0 n0 ds L a w)(d:Nat):RInv Kf fx T0 c B G s g0 xs w0 n0 ds L a {w with drawn:=d}:=by
 obtain⟨⟨h,hr,hK⟩,hb,h1⟩:=hI;exact⟨⟨h,hr.drew d,hK⟩,hb.trans ⟨⟨rfl,rfl,rfl,Z4A _,λ_ _=>rfl⟩,λ_ _=>rfl,λ_ _=>rfl⟩,h1⟩
def RInv.of_sim [Lg c.P]{w1:World}(hI:RInv Kf fx T0 c B G s g0 xs w0 n0 ds L a w)(h:Lg.sim c.P w w1):RInv Kf fx T0 c B G s g0 xs w0 n0 ds L a w1:=by
 rw[Lg.sim_eq h];exact hI.sim _
def Jj [Lg c.P](hfx:∀o∈ops,∀d,o.dst=some d->¬fx d)(hf:Reg.Fine c draw ops g0 xs)(hs:∀x∈xs,okOS c.P s x.os)(hn:c.n<=n0)(hI:RInv Kf fx T0 c B G s g0 xs w0 n0 ds L a w){i:Nat}{x:XS}(hx:xs[i]?=some x)(hi:L i=false)(hT:∀j∈x.T,L j=true)
  {K:Act->World->Prop} (hK:∀a' w',RInv Kf fx T0 c B G s g0 xs w0 n0 ds (add L i) a' w'->K a' w'):opG c.P ops i K a w:=by
 obtain⟨⟨h,hr,hKf⟩,hb,hsz,hds,hcl⟩:=hI;have hlt:i<ops.size:=by rw[<-hf.len];exact(Z4v.1 hx).1
 obtain⟨e1,e2,e3,e4⟩:=hf.at_ i ops[i] x (Z4X hlt) hx;have hro:=hf.only hcl hr hx hi hT;have hrb:=Gm e1;refine Dg (R:=x.R) (Z4X hlt) e2 hro e1 (hs x (Z4B hx)) Z0 λa' w' h' hp hput=>hK a' w' ⟨⟨h',hf.next hcl hr hx hi hrb hT hp,hp.step.K.trans hKf⟩,hb.trans ⟨hp.step.below,by rw[<-hKf];exact hp.step.K_same hr.ok,λt ht=> ?_⟩,by rw[hp.size,hsz],by rw[hp.defers,hds],Cd hcl hx hT⟩;obtain⟨u,rfl⟩:=hput;cases hd:(ops[i]).dst with
 |none=>rfl
 |some d=>grind [Je,Array.getElem_mem]
def Jk [Lg c.P](hfit:∀o∈ops,Lg.fit c.P o)(hfx:∀o∈ops,∀d,o.dst=some d->¬fx d)(hf:Reg.Fine c false ops g0 xs)(hs:∀x∈xs,okOS c.P s x.os)(hn:c.n<=n0){Q:Exit->Act->World->Prop}(hQ:∀a w,RInv Kf fx T0 c B G s g0 xs w0 n0 ds (λi=>decide (i<ops.size)) a w->Q .normal a w):
  ∀(m k:Nat) (a:Act) (w:World),k+m=ops.size->RInv Kf fx T0 c B G s g0 xs w0 n0 ds (λi=>decide (i<k)) a w->Lg.todo c.P ops Q (List.range' k m) a w
 |0,k,a,w,hk,hI=>by
  have:k=ops.size:=Z0;subst this;exact Lg.todo_nil (hQ a w hI)
 |m+1,k,a,w,hk,hI=>by
  rw[List.range'_succ];have hlt:k<xs.length:=by rw[hf.len];omega
  have hlt':k<ops.size:=Z0;obtain⟨_,_,e3,_⟩:=hf.at_ k ops[k] xs[k] (Z4X hlt') (Z4u hlt);refine Lg.todo_cons hfit λw1 hw1=> ?_;show opG c.P ops k _ a w1;refine Jj hfx hf hs hn (hI.of_sim hw1) (Z4u hlt) Z1 (λj hj=> ?_) λa' w' hI'=>Jk hfit hfx hf hs hn hQ m (k+1) a' w' Z0 ?_
  ·rw[e3]at hj;simp only[Dn,Z4G,Z5h,Z6x,Z5Q]at hj;simp;omega
  ·have:add (λi=>decide (i<k)) k=λi=>decide (i<k+1):=by
    funext i;simp only[add];by_cases h1:i<k
    ·grind
    ·grind
   simp_all
def unl(n:Nat)(L:Nat->Bool):Nat:=((List.range n).filter λi=> !L i).length
def zT{p q:Nat->Bool}:∀ {l:List Nat},(∀i∈l,q i=true->p i=true)->(∃i∈l,p i=true/\q i=false)->(l.filter q).length< (l.filter p).length
 | [],_,⟨i,hi,_⟩=>Z43
 |x::l,hpq,⟨i,hi,h1,h2⟩=>by
  have hle:∀(l:List Nat),(∀i∈l,q i=true->p i=true)->(l.filter q).length<=(l.filter p).length:=by
   intro l
   induction l with
   |nil=>simp
   |cons y l ih=>
    grind
  have hx:=hpq x Z1;have hl:=hle l λi hi=>hpq i (by simp[hi]);simp only[List.filter_cons];obtain rfl|hi:=Z4H.1 hi
  ·grind
  ·have:=zT (l:=l) (λi hi=>hpq i (by simp[hi])) ⟨i,hi,h1,h2⟩
   grind
def Ol{n:Nat}{L:Nat->Bool}{i:Nat}(hi:i<n)(hl:L i=false):unl n (add L i)<unl n L:=
 zT (λj _ hj=>by simp_all[add,Z5m,Bool.or_eq_false_iff]) ⟨i,Z3L,by simp[hl],by simp[add]⟩
def IK{n:Nat}{L:Nat->Bool}(h:unl n L=0):∀i,i<n->L i=true:=by
 intro i hi;cases hl:L i with
 |true=>rfl
 |false=>
  have:i∈(List.range n).filter λi=> !L i:=by simp[hi,hl]
  have h0:=Z5s h;simp_all
def Fa{o:Oper}{e:Edge}(he:e∈o.after)(hb:Region.binds .any e=true):e.on∈VA o:=by
 simp only[VA,Z4I,Z7h]
 grind
def E4{o:Oper}{j:Nat}(hj:j∈VA o):∃e∈o.after,Region.binds .any e=true/\e.on=j:=by
 grind [VA]
def CS [Lg c.P](hfx:∀o∈ops,∀d,o.dst=some d->¬fx d)(hf:Reg.Fine c true ops g0 xs)(hs:∀x∈xs,okOS c.P s x.os)(hn:c.n<=n0){Q:Exit->Act->World->Prop}(hQ:∀a w L,(∀i,i<ops.size->L i=true)->RInv Kf fx T0 c B G s g0 xs w0 n0 ds L a w->Q .normal a w):
  ∀(fuel:Nat) (listed:Array Bool) (a:Act) (w:World),listed.size=ops.size->unl ops.size (λi=>listed.getD i false)<=fuel->RInv Kf fx T0 c B G s g0 xs w0 n0 ds (λi=>listed.getD i false) a w->anyG c.P ops Q fuel listed a w:=by
 have hgd:∀(listed:Array Bool) (i:Nat),listed.size=ops.size->i<ops.size->listed.getD i true=listed.getD i false:=by
  intro listed i h1 h2;simp[Z4y,h1,h2]
 have hempty:∀(listed:Array Bool),listed.size=ops.size->Region.ready .any ops listed=[]->∀i,i<ops.size->listed.getD i false=true:=by
  intro listed hsz hr i
  induction i using Nat.strongRecOn with
  |_ i ih=>
   intro hi;cases hl:listed.getD i false with
   |true=>rfl
   |false=>
    have hlx:i<xs.length:=by rw[hf.len];exact hi
    obtain⟨_,_,_,e4⟩:=hf.at_ i ops[i] xs[i] (Z4X hi) (Z4u hlx)
    have:i∈Region.ready .any ops listed:=mem_ready.2 ⟨Z3M,ops[i],Z4X hi,λe he hb=>by
     have hlt:=e4 rfl e.on (Fa he hb)
     grind⟩
    simp_all
 intro fuel
 induction fuel with
 |zero=>
  intro listed a w hsz hu hI;have hall:=IK (Nat.le_zero.1 hu);refine⟨?_,hQ a w _ hall hI⟩;cases hr:Region.ready .any ops listed with
  |nil=>rfl
  |cons i r=>
   have:i∈Region.ready .any ops listed:=by rw[hr];simp
   grind [mem_ready,Array.getElem?_eq_some_iff]
 |succ fuel ih=>
  intro listed a w hsz hu hI;refine⟨λhr=>hQ a w _ (hempty listed hsz hr) hI,λi hi w1 hw1=> ?_⟩;obtain⟨h1,o,ho,hall⟩:=mem_ready.1 hi;have hlt:i<ops.size:=(Z4z.1 ho).1;have hlx:i<xs.length:=by rw[hf.len];exact hlt
  rw[hgd listed i hsz hlt]at h1;obtain⟨_,_,e3,e4⟩:=hf.at_ i o xs[i] ho (Z4u hlx);have hcl:=hI.2.2.2.2
  have hadd:(λj=>(listed.setIfInBounds i true).getD j false)=add (λi=>listed.getD i false) i:=by
   funext j;simp only[add];by_cases hji:j=i
   ·simp_all
   ·simp_all[getD_set_ne,Z6K]
  refine Jj hfx hf hs hn (hI.of_sim hw1) (Z4u hlx) h1 (λj hj=> ?_) λa' w' hI'=>ih _ a' w' Z3M ?_ Z3M
  ·rw[e3]at hj;simp only[Dn,Z5b,Z7h,Z6x,Z65,Z4L,Z59,Z5W,Z4N]at hj;obtain⟨_,e,he,hje⟩:=hj;obtain⟨ed,h2,h3,rfl⟩:=E4 he;have hed:=hall ed h2 h3;obtain rfl|hjT:=hje
   ·exact hed
   ·have hlte:=e4 rfl ed.on he;have hlxe:ed.on<xs.length:=Z0;unfold Tof at hjT;rw[Z55,if_pos hlte,Z4u hlxe]at hjT;exact hcl ed.on _ (Z4u hlxe) hed j hjT
  ·rw[hadd];have:=Ol (n:=ops.size) (L:=λi=>listed.getD i false) hlt h1;omega
def CT [Lg c.P](hfit:∀o∈ops,Lg.fit c.P o)(hm:draw=true->c.P.follows .mixedOrders=true){id:Nat}(hf:Reg.Fine c draw ops g0 xs)(hs:∀x∈xs,okOS c.P s x.os)(hn:c.n<=a.tmps.size)(hr:RelG c B G s a w h g0)(hfx:∀o∈ops,∀d,o.dst=some d->¬fx d)
  {Q:Exit->Act->World->Prop} (hQ:∀a' w' h',RelG c B G s a' w' h' (gAll xs g0)->h'.K=h.K->Frm h.K fx a.tmps B w a' w'->a'.tmps.size=a.tmps.size->a'.defers=a.defers->Q .normal a' w'):Lg.wp c.P (.region id ops draw) Q a w:=by
 have hcl0:∀(L:Nat->Bool),(∀i,L i=false)->K1 xs L:=λL hL i x _ hi=>Z3M;have hg0:∀(L:Nat->Bool),(∀i,L i=false)->∀t,(gL xs 0 L g0).at t=g0.at t:=λL hL t=>jn λi x _ hi=>Z3M
 have hrel0:∀ {w:World} (L:Nat->Bool),(∀i,L i=false)->RelG c B G s a w h g0->RelG c B G s a w h (gL xs 0 L g0):=λL hL hr=>
  ⟨hr.ok,λt=>by rw[hg0 L hL t];exact hr.at_ t,λt=>by rw[hg0 L hL t];exact hr.skip t⟩
 have hfin:∀ {a':Act} {w1 w':World} (L:Nat->Bool),(∀i,i<ops.size->L i=true)->RInv h.K fx a.tmps c B G s g0 xs w1 a.tmps.size a.defers L a' w'->Frm h.K fx a.tmps B w a w1->Q .normal a' w':=by
  rintro a' w1 w' L hL ⟨⟨h',hr',hK'⟩,hb,h1,h2,_⟩ hb0;refine hQ a' w' h' ?_ hK' (hb0.trans hb) h1 h2
  have hg:∀t,(gL xs 0 L g0).at t=(gAll xs g0).at t:=by
   intro t;have:=jo (xs:=xs) (k:=0) (j:=xs.length) (g:=g0);rw[Z5D]at this;rw[<-this];refine RO (λi x hx _=> ?_) rfl;have hlt:=(Z4v.1 hx).1;rw[Z5g,hL i (by rw[<-hf.len];exact hlt)];simp[hlt]
  exact⟨hr'.ok,λt=>by rw[<-hg t];exact hr'.at_ t,λt=>by rw[<-hg t];exact hr'.skip t⟩
 cases draw with
 |false=>
  refine Lg.wp_region hfit ?_;rw[List.range_eq_range'];refine Jk hfit (Kf:=h.K) (T0:=a.tmps) hfx hf hs hn (w0:=w) (n0:=a.tmps.size) (ds:=a.defers) (λa' w' hI=>hfin _ (λi hi=>by simp[hi]) hI (Frm.refl _ _)) ops.size 0 a w Z0 ⟨⟨h,hrel0 _ (λi=>Z1) hr,rfl⟩,Frm.refl _ _,rfl,rfl,hcl0 _ λi=>Z1⟩
 |true=>
  refine Aj hfit (hm rfl) λw1 hw1=> ?_;rw[show({w1 with drawn:=w1.drawn+1}:World)= {w with drawn:=w1.drawn+1}from Z5J (λx:World=> {x with drawn:=w1.drawn+1}) (Lg.sim_eq hw1)];generalize w1.drawn+1=d
  have hL0:∀i,(Array.replicate ops.size false).getD i false=false:=λi=>by
   simp only[Z4y,Array.getElem?_replicate]
   grind
  refine CS (Kf:=h.K) (T0:=a.tmps) hfx hf hs hn (w0:= {w with drawn:=d}) (n0:=a.tmps.size) (ds:=a.defers) (λa' w' L hL hI=>hfin L hL hI ⟨⟨rfl,rfl,rfl,Z4A _,λ_ _=>rfl⟩,λ_ _=>rfl,λ_ _=>rfl⟩) ops.size _ a _ Z1 ?_ ⟨⟨h,hrel0 _ hL0 (hr.drew d),rfl⟩,Frm.refl _ _,rfl,rfl,hcl0 _ hL0⟩;exact Z4Z (Z8r _ _) Z1
end
end Vm
namespace Vm
open Go
mutual
theorem Z6{s t:St}:∀(e:E),(∀j,E.asks j e=true->get s j=get t j)->eval s e=eval t e
 |.c v,_=>rfl
 |.s u,h=>by simp only[eval];rw[h u (by simp[E.asks])]
 |.m u i,h=>by simp only[eval];rw[h u (by simp[E.asks])]
 |.mm u i n,h=>by simp only[eval];rw[h u (by simp[E.asks])]
 |.bin op a b,h=>Z3P
 |.eqv n a b,h=>Z3P
 |.un op a,h=>Z3Q
 |.conv k a,h=>Z3Q
 |.len a,h=>Z3Q
 |.mn a b,h=>Z3P
 |.mx a b,h=>Z3P
 |.ext a i,h=>Z3Q
 |.idx a b k,h=>Z3P
 |.fld a o,h=>Z3Q
 |.flds a o n,h=>Z3Q
 |.ai a b n k g,h=>Z3P
 |.slc a b d k,h=>Z3T
 |.slcl a b k,h=>Z3P
 |.app a b k,h=>Z3P
 |.upd a b o d,h=>Z3T
 |.aput a b n k d,h=>Z3T
 |.mk z a,h=>Z3Q
 |.lit l,h=>Z49
 |.ag l,h=>Z49
 |.pt f l,h=>Z49
 |.ite a b d,h=>Z3T
 |.star a,h=>Z3Q
 |.isag a,h=>Z3Q
 |.one a,h=>Z3Q
 |.sz a n,h=>Z3Q
 |.fl a,h=>Z3Q
 |.fls a,h=>Z3Q
 |.lk kc a b z ok,h=>Z3P
 |.mput kc a b d,h=>Z3T
 |.mlen a,h=>Z3Q
 |.mclr a,h=>Z3Q
theorem Yy{s t:St}:∀(l:List E),(∀j,E.asksIn j l=true->get s j=get t j)->Yg s l=Yg t l
 | [],_=>rfl
 |e::l,h=>by simp only[Yg];rw[Z6 e λj hj=>h j (by simp[E.asksIn,hj]),Yy l λj hj=>h j (by simp[E.asksIn,hj])]
end
mutual
theorem V.same_eq:∀(a b:V),V.same a b=true->a=b
 | .int k n,b,h=>by
   cases b<;>simp only[V.same]at h<;>first|(cases h;done)|skip
   simp at h;rw[h.1,h.2]
 | .bool x,b,h=>by
   cases b<;>simp only[V.same]at h<;>first|(cases h;done)|skip
   simp at h;rw[h]
 |.str x,b,h=>by cases b<;>simp[V.same]at h
 | .sl l,b,h=>by
   cases b<;>simp only[V.same]at h<;>first|(cases h;done)|skip
   rw[V.sames_eq l _ h]
 | .agg l,b,h=>by
   cases b<;>simp only[V.same]at h<;>first|(cases h;done)|skip
   rw[V.sames_eq l _ h]
 | .tup l,b,h=>by
   cases b<;>simp only[V.same]at h<;>first|(cases h;done)|skip
   rw[V.sames_eq l _ h]
 |.ptr l,b,h=>by cases b<;>simp[V.same]at h
 |.clo f l,b,h=>by cases b<;>simp[V.same]at h
 |.nul k,b,h=>by cases b<;>simp[V.same]at h
 | .fn f,b,h=>by
   cases b<;>simp only[V.same]at h<;>first|(cases h;done)|skip
   simp at h;rw[h]
 | .mp id ks vs,b,h=>by
   cases b<;>simp only[V.same,Z4x,Z59]at h<;>first|(cases h;done)|skip
   rw[h.1.1,V.sames_eq ks _ h.1.2,V.sames_eq vs _ h.2]
theorem V.sames_eq:∀(a b:List V),V.sames a b=true->a=b
 | [],b,h=>by cases b<;>simp[V.sames]at h⊢
 |x::l,b,h=>by
  cases b with
  |nil=>simp[V.sames]at h
  |cons y r=>
   simp only[V.sames,Z4x]at h;rw[V.same_eq x y h.1,V.sames_eq l r h.2]
end
mutual
theorem E.same_eq:∀(a b:E),E.same a b=true->a=b
 | .c v,b,h=>by
   cases b<;>simp only[E.same]at h<;>first|(cases h;done)|skip
   rw[V.same_eq v _ h]
 | .s u,b,h=>by
   cases b<;>simp only[E.same,Z59,Z4x]at h<;>first|(cases h;done)|skip
   rw[h]
 | .m u i,b,h=>by
   cases b<;>simp only[E.same,Z59,Z4x]at h<;>first|(cases h;done)|skip
   rw[h.1,h.2]
 | .mm u i n,b,h=>by
   cases b<;>simp only[E.same,Z59,Z4x]at h<;>first|(cases h;done)|skip
   rw[h.1.1,h.1.2,h.2]
 | .bin op x y,b,h=>by
   cases b<;>simp only[E.same,Z4N,Z4x]at h<;>first|(cases h;done)|skip
   rw[h.1.1,E.same_eq x _ h.1.2,E.same_eq y _ h.2]
 | .eqv op x y,b,h=>by
   cases b<;>simp only[E.same,Z59,Z4x]at h<;>first|(cases h;done)|skip
   rw[h.1.1,E.same_eq x _ h.1.2,E.same_eq y _ h.2]
 | .un op x,b,h=>by
   cases b<;>simp only[E.same,Z4N,Z4x]at h<;>first|(cases h;done)|skip
   rw[h.1,E.same_eq x _ h.2]
 | .conv k x,b,h=>by
   cases b<;>simp only[E.same,Z4N,Z4x]at h<;>first|(cases h;done)|skip
   rw[h.1,E.same_eq x _ h.2]
 | .len x,b,h=>by
   cases b<;>simp only[E.same]at h<;>first|(cases h;done)|skip
   rw[E.same_eq x _ h]
 | .mn x y,b,h=>by
   cases b<;>simp only[E.same,Z4x]at h<;>first|(cases h;done)|skip
   rw[E.same_eq x _ h.1,E.same_eq y _ h.2]
 | .mx x y,b,h=>by
   cases b<;>simp only[E.same,Z4x]at h<;>first|(cases h;done)|skip
   rw[E.same_eq x _ h.1,E.same_eq y _ h.2]
 | .ext x i,b,h=>by
   cases b<;>simp only[E.same,Z59,Z4x]at h<;>first|(cases h;done)|skip
   rw[E.same_eq x _ h.1,h.2]
 | .idx x y k,b,h=>by
   cases b<;>simp only[E.same,Z59,Z4x]at h<;>first|(cases h;done)|skip
   rw[E.same_eq x _ h.1.1,E.same_eq y _ h.1.2,h.2]
 | .fld x o,b,h=>by
   cases b<;>simp only[E.same,Z59,Z4x]at h<;>first|(cases h;done)|skip
   rw[E.same_eq x _ h.1,h.2]
 | .flds x o n,b,h=>by
   cases b<;>simp only[E.same,Z59,Z4x]at h<;>first|(cases h;done)|skip
   rw[E.same_eq x _ h.1.1,h.1.2,h.2]
 | .ai x y n k g,b,h=>by
   cases b<;>simp only[E.same,Z59,Z4x]at h<;>first|(cases h;done)|skip
   rw[E.same_eq x _ h.1.1.1.1,E.same_eq y _ h.1.1.1.2,h.1.1.2,h.1.2,h.2]
 | .slc x y z k,b,h=>by
   cases b<;>simp only[E.same,Z59,Z4x]at h<;>first|(cases h;done)|skip
   rw[E.same_eq x _ h.1.1.1,E.same_eq y _ h.1.1.2,E.same_eq z _ h.1.2,h.2]
 | .slcl x y k,b,h=>by
   cases b<;>simp only[E.same,Z59,Z4x]at h<;>first|(cases h;done)|skip
   rw[E.same_eq x _ h.1.1,E.same_eq y _ h.1.2,h.2]
 | .app x y k,b,h=>by
   cases b<;>simp only[E.same,Z59,Z4x]at h<;>first|(cases h;done)|skip
   rw[E.same_eq x _ h.1.1,E.same_eq y _ h.1.2,h.2]
 | .upd x y o z,b,h=>by
   cases b<;>simp only[E.same,Z59,Z4x]at h<;>first|(cases h;done)|skip
   rw[E.same_eq x _ h.1.1.1,E.same_eq y _ h.1.1.2,h.1.2,E.same_eq z _ h.2]
 | .aput x y n k z,b,h=>by
   cases b<;>simp only[E.same,Z59,Z4x]at h<;>first|(cases h;done)|skip
   rw[E.same_eq x _ h.1.1.1.1,E.same_eq y _ h.1.1.1.2,h.1.1.2,h.1.2,E.same_eq z _ h.2]
 | .mk v x,b,h=>by
   cases b<;>simp only[E.same,Z4x]at h<;>first|(cases h;done)|skip
   rw[V.same_eq v _ h.1,E.same_eq x _ h.2]
 | .lit l,b,h=>by
   cases b<;>simp only[E.same]at h<;>first|(cases h;done)|skip
   rw[E.sames_eq l _ h]
 | .pt f l,b,h=>by
   cases b<;>simp only[E.same,Z4x,Z59]at h<;>first|(cases h;done)|skip
   rw[h.1,E.sames_eq l _ h.2]
 | .ag l,b,h=>by
   cases b<;>simp only[E.same]at h<;>first|(cases h;done)|skip
   rw[E.sames_eq l _ h]
 | .ite x y z,b,h=>by
   cases b<;>simp only[E.same,Z4x]at h<;>first|(cases h;done)|skip
   rw[E.same_eq x _ h.1.1,E.same_eq y _ h.1.2,E.same_eq z _ h.2]
 | .star x,b,h=>by
   cases b<;>simp only[E.same]at h<;>first|(cases h;done)|skip
   rw[E.same_eq x _ h]
 | .isag x,b,h=>by
   cases b<;>simp only[E.same]at h<;>first|(cases h;done)|skip
   rw[E.same_eq x _ h]
 | .one x,b,h=>by
   cases b<;>simp only[E.same]at h<;>first|(cases h;done)|skip
   rw[E.same_eq x _ h]
 | .sz x n,b,h=>by
   cases b<;>simp only[E.same,Z59,Z4x]at h<;>first|(cases h;done)|skip
   rw[E.same_eq x _ h.1,h.2]
 | .fl x,b,h=>by
   cases b<;>simp only[E.same]at h<;>first|(cases h;done)|skip
   rw[E.same_eq x _ h]
 | .fls x,b,h=>by
   cases b<;>simp only[E.same]at h<;>first|(cases h;done)|skip
   rw[E.same_eq x _ h]
 | .lk kc x y z ok,b,h=>by
   cases b<;>simp only[E.same,Z59,Z4N,Z4x]at h<;>first|(cases h;done)|skip
   rw[h.1.1.1.1,E.same_eq x _ h.1.1.1.2,E.same_eq y _ h.1.1.2,V.same_eq z _ h.1.2,h.2]
 | .mput kc x y z,b,h=>by
   cases b<;>simp only[E.same,Z4N,Z4x]at h<;>first|(cases h;done)|skip
   rw[h.1.1.1,E.same_eq x _ h.1.1.2,E.same_eq y _ h.1.2,E.same_eq z _ h.2]
 | .mlen x,b,h=>by
   cases b<;>simp only[E.same]at h<;>first|(cases h;done)|skip
   rw[E.same_eq x _ h]
 | .mclr x,b,h=>by
   cases b<;>simp only[E.same]at h<;>first|(cases h;done)|skip
   rw[E.same_eq x _ h]
theorem E.sames_eq:∀(a b:List E),E.sames a b=true->a=b
 | [],b,h=>by cases b<;>simp[E.sames]at h⊢
 |x::l,b,h=>by
  cases b with
  |nil=>simp[E.sames]at h
  |cons y r=>
   simp only[E.sames,Z4x]at h;rw[E.same_eq x y h.1,E.sames_eq l r h.2]
end
end Vm
namespace Vm
open Go
section
variable {s t:St}
def Z9{α β:Type}{x:Option α}{f:α->Option β}(h:∃z,x.bind f=some z):∃y,x=some y:=by
 grind [Option.bind_eq_some_iff]
def Zq{α β:Type}{x:Option α}{f:α->Option β}(h:∃z,x.bind f=some z):∃y,x=some y/\∃z,f y=some z:=by
 grind [Option.bind_eq_some_iff]
mutual
def Ze{x:E}:∀(e:E),E.has x e=true->(∃v,eval s e=some v)->∃v,eval s x=some v
 | .c v,h,hv=>by
   grind [E.has,E.same_eq]
 | .s u,h,hv=>by
   grind [E.has,E.same_eq]
 | .m u i,h,hv=>by
   grind [E.has,E.same_eq]
 | .mm u i n,h,hv=>by
   grind [E.has,E.same_eq]
 | .bin op a b,h,hv=>by
   simp only[E.has,Z4L]at h;obtain(h|h)|h:=h
   ·grind [E.same_eq]
   ·exact Ze a h (Z9 hv)
   ·obtain⟨y,_,hz⟩:=Zq hv;exact Ze b h (Z9 hz)
 | .eqv op a b,h,hv=>by
   simp only[E.has,Z4L]at h;obtain(h|h)|h:=h
   ·grind [E.same_eq]
   ·exact Ze a h (Z9 hv)
   ·obtain⟨y,_,hz⟩:=Zq hv;exact Ze b h (Z9 hz)
 | .mn a b,h,hv=>by
   simp only[E.has,Z4L]at h;obtain(h|h)|h:=h
   ·grind [E.same_eq]
   ·exact Ze a h (Z9 hv)
   ·obtain⟨y,_,hz⟩:=Zq hv;exact Ze b h (Z9 hz)
 | .mx a b,h,hv=>by
   simp only[E.has,Z4L]at h;obtain(h|h)|h:=h
   ·grind [E.same_eq]
   ·exact Ze a h (Z9 hv)
   ·obtain⟨y,_,hz⟩:=Zq hv;exact Ze b h (Z9 hz)
 | .idx a b k,h,hv=>by
   simp only[E.has,Z4L]at h;obtain(h|h)|h:=h
   ·grind [E.same_eq]
   ·exact Ze a h (Z9 hv)
   ·obtain⟨y,_,hz⟩:=Zq hv;exact Ze b h (Z9 hz)
 | .ai a b n k g,h,hv=>by
   simp only[E.has,Z4L]at h;obtain(h|h)|h:=h
   ·grind [E.same_eq]
   ·exact Ze a h (Z9 hv)
   ·obtain⟨y,_,hz⟩:=Zq hv;exact Ze b h (Z9 hz)
 | .slcl a b k,h,hv=>by
   simp only[E.has,Z4L]at h;obtain(h|h)|h:=h
   ·grind [E.same_eq]
   ·exact Ze a h (Z9 hv)
   ·obtain⟨y,_,hz⟩:=Zq hv;exact Ze b h (Z9 hz)
 | .app a b k,h,hv=>by
   simp only[E.has,Z4L]at h;obtain(h|h)|h:=h
   ·grind [E.same_eq]
   ·exact Ze a h (Z9 hv)
   ·obtain⟨y,_,hz⟩:=Zq hv;exact Ze b h (Z9 hz)
 | .slc a b d k,h,hv=>by
   simp only[E.has,Z4L]at h;obtain((h|h)|h)|h:=h
   ·grind [E.same_eq]
   ·exact Ze a h (Z9 hv)
   ·obtain⟨y,_,hz⟩:=Zq hv;exact Ze b h (Z9 hz)
   ·obtain⟨y,_,hz⟩:=Zq hv;obtain⟨y',_,hz'⟩:=Zq hz;exact Ze d h (Z9 hz')
 | .upd a b o d,h,hv=>by
   simp only[E.has,Z4L]at h;obtain((h|h)|h)|h:=h
   ·grind [E.same_eq]
   ·exact Ze a h (Z9 hv)
   ·obtain⟨y,_,hz⟩:=Zq hv;exact Ze b h (Z9 hz)
   ·obtain⟨y,_,hz⟩:=Zq hv;obtain⟨y',_,hz'⟩:=Zq hz;exact Ze d h (Z9 hz')
 | .aput a b n k d,h,hv=>by
   simp only[E.has,Z4L]at h;obtain((h|h)|h)|h:=h
   ·grind [E.same_eq]
   ·exact Ze a h (Z9 hv)
   ·obtain⟨y,_,hz⟩:=Zq hv;exact Ze b h (Z9 hz)
   ·obtain⟨y,_,hz⟩:=Zq hv;obtain⟨y',_,hz'⟩:=Zq hz;exact Ze d h (Z9 hz')
 | .un op a,h,hv=>by
   simp only[E.has,Z4L]at h;obtain h|h:=h
   ·grind [E.same_eq]
   ·exact Ze a h (Z9 hv)
 | .conv k a,h,hv=>by
   simp only[E.has,Z4L]at h;obtain h|h:=h
   ·grind [E.same_eq]
   ·exact Ze a h (Z9 hv)
 | .len a,h,hv=>by
   simp only[E.has,Z4L]at h;obtain h|h:=h
   ·grind [E.same_eq]
   ·exact Ze a h (Z9 hv)
 | .ext a i,h,hv=>by
   simp only[E.has,Z4L]at h;obtain h|h:=h
   ·grind [E.same_eq]
   ·exact Ze a h (Z9 hv)
 | .fld a o,h,hv=>by
   simp only[E.has,Z4L]at h;obtain h|h:=h
   ·grind [E.same_eq]
   ·exact Ze a h (Z9 hv)
 | .flds a o n,h,hv=>by
   simp only[E.has,Z4L]at h;obtain h|h:=h
   ·grind [E.same_eq]
   ·exact Ze a h (Z9 hv)
 | .mk z a,h,hv=>by
   simp only[E.has,Z4L]at h;obtain h|h:=h
   ·grind [E.same_eq]
   ·exact Ze a h (Z9 hv)
 | .star a,h,hv=>by
   simp only[E.has,Z4L]at h;obtain h|h:=h
   ·grind [E.same_eq]
   ·exact Ze a h (Z9 hv)
 | .isag a,h,hv=>by
   simp only[E.has,Z4L]at h;obtain h|h:=h
   ·grind [E.same_eq]
   ·exact Ze a h (Z9 hv)
 | .one a,h,hv=>by
   simp only[E.has,Z4L]at h;obtain h|h:=h
   ·grind [E.same_eq]
   ·exact Ze a h (Z9 hv)
 | .sz a n,h,hv=>by
   simp only[E.has,Z4L]at h;obtain h|h:=h
   ·grind [E.same_eq]
   ·exact Ze a h (Z9 hv)
 | .fl a,h,hv=>by
   simp only[E.has,Z4L]at h;obtain h|h:=h
   ·grind [E.same_eq]
   ·exact Ze a h (Z9 hv)
 | .fls a,h,hv=>by
   simp only[E.has,Z4L]at h;obtain h|h:=h
   ·grind [E.same_eq]
   ·exact Ze a h (Z9 hv)
 | .mlen a,h,hv=>by
   simp only[E.has,Z4L]at h;obtain h|h:=h
   ·grind [E.same_eq]
   ·exact Ze a h (Z9 hv)
 | .mclr a,h,hv=>by
   simp only[E.has,Z4L]at h;obtain h|h:=h
   ·grind [E.same_eq]
   ·exact Ze a h (Z9 hv)
 | .lk kc a b z ok,h,hv=>by
   simp only[E.has,Z4L]at h;obtain(h|h)|h:=h
   ·grind [E.same_eq]
   ·exact Ze a h (Z9 hv)
   ·obtain⟨y,_,hz⟩:=Zq hv;exact Ze b h (Z9 hz)
 | .mput kc a b d,h,hv=>by
   simp only[E.has,Z4L]at h;obtain((h|h)|h)|h:=h
   ·grind [E.same_eq]
   ·exact Ze a h (Z9 hv)
   ·obtain⟨y,_,hz⟩:=Zq hv;exact Ze b h (Z9 hz)
   ·obtain⟨y,_,hz⟩:=Zq hv;obtain⟨y',_,hz'⟩:=Zq hz;exact Ze d h (Z9 hz')
 | .ite a b d,h,hv=>by
   simp only[E.has,Z4L]at h;obtain h|h:=h
   ·grind [E.same_eq]
   ·exact Ze a h (Z9 hv)
 | .lit l,h,hv=>by
   simp only[E.has,Z4L]at h;obtain h|h:=h
   ·grind [E.same_eq]
   ·obtain⟨v,hv⟩:=hv;simp only[eval,Z4w]at hv;obtain⟨ys,hys,_⟩:=hv;exact Tu l h ⟨ys,hys⟩
 | .pt f l,h,hv=>by
   simp only[E.has,Z4L]at h;obtain h|h:=h
   ·grind [E.same_eq]
   ·obtain⟨v,hv⟩:=hv;simp only[eval,Z4t]at hv;obtain⟨ys,hys,_⟩:=hv;exact Tu l h ⟨ys,hys⟩
 | .ag l,h,hv=>by
   simp only[E.has,Z4L]at h;obtain h|h:=h
   ·grind [E.same_eq]
   ·obtain⟨v,hv⟩:=hv;simp only[eval,Z4w]at hv;obtain⟨ys,hys,_⟩:=hv;exact Tu l h ⟨ys,hys⟩
def Tu{x:E}:∀(l:List E),E.hasIn x l=true->(∃v,Yg s l=some v)->∃v,eval s x=some v
 | [],h,_=>by simp[E.hasIn]at h
 |e::l,h,hv=>by
  obtain⟨v,hv⟩:=hv;simp only[Yg,Z4t,Z4w]at hv;obtain⟨y,hy,ys,hys,_⟩:=hv;simp only[E.hasIn,Z4L]at h;obtain h|h:=h
  ·exact Ze e h ⟨y,hy⟩
  ·exact Tu l h ⟨ys,hys⟩
end
def Q9(s:St)(l:List (Zg×E)):Prop:=∀x∈l,holds s x.1->∃v,eval s x.2=some v
def y8{C D:Zg}(h:UN C D=true)(hd:holds s D):holds s C:=λx hx=>by
 have:=Z4D.1 h x hx;exact hd x Z3M
def T4:∀ {l r:List (Zg×E)},Q9 s l->Q9 s (If l r)->Q9 s r
 |l,[],_,_=>λx hx=>Z4n
 |l,x::r,hl,hp=>by
  simp only[If]at hp;split at hp
  ·rename_i hc;have hr:=T4 hl hp;intro y hy hh;obtain rfl|hy:=Z4H.1 hy
   ·simp only[DU,Z65,Z4x]at hc;obtain⟨z,hz,hz1,hz2⟩:=hc
    have hzs:∃v,eval s z.2=some v:=by
     obtain hz|hz:=Z4R.1 hz
     ·exact hl z hz (y8 hz1 hh)
     ·exact hp z hz (y8 hz1 hh)
    exact Ze _ hz2 hzs
   ·exact hr y hy hh
  ·have hr:=T4 hl λy hy=>hp y (Z53 _ hy);intro y hy hh;obtain rfl|hy:=Z4H.1 hy
   ·exact hp y (Z58 ..) hh
   ·exact hr y hy hh
def putS:St->Nat->SV->St
 | [],0,x=>[x]
 | [],i+1,x=>.no::putS [] i x
 |_::s,0,x=>x::s
 |y::s,i+1,x=>y::putS s i x
def Zk:∀(s:St) (i j:Nat) (x:SV),get (putS s i x) j=if j=i then x else get s j
 | [],0,0,x=>rfl
 | [],0,j+1,x=>by simp[putS,get]
 | [],i+1,0,x=>by simp[putS,get]
 | [],i+1,j+1,x=>by
   have:=Zk [] i j x;simp only[get]at this;simp[putS,get,this]
 |y::s,0,0,x=>rfl
 |y::s,0,j+1,x=>by simp[putS,get]
 |y::s,i+1,0,x=>by simp[putS,get]
 |y::s,i+1,j+1,x=>by
  have:=Zk s i j x;simp only[get]at this;simp[putS,get,this]
def Wf(s:St)(C:Zg):Bool:=C.all λx=>match get s x.1 with|.v (.bool b)=>b==x.2|_=>false
def XK{C:Zg}:Wf s C=true↔holds s C:=by
 simp only[Wf,Z4D,holds]
 grind
def wpE(P:Program) [Lg P]:List EF->St->(St->Prop)->Prop
 | [],s,K=>K s
 |.lt i C e::l,s,K=>if Wf s C=true then(match eval s e with|some x=>wpE P l (putS s i (.v x)) K|none=>False)else wpE P l s K
 |.call i C f fr fl aq_::l,s,K=>if Wf s C=true then(match Yg s aq_,fnV s f with|some xs,some n=>∃r,VC P n.1 fr (xs++n.2) r/\(fl=true->flV r=some r)/\wpE P l (putS s i (.v r)) K|_,_=>False)else wpE P l s K
 | .callm i C f ks aq_::l,s,K=>if Wf s C=true then(match Yg s aq_,fnOf s f with|some xs,some n=>∃R,VCM P n ks xs R/\wpE P l (putS s i (.v R)) K|_,_=>False)
   else(match oldV s ks aq_ with|some []=>wpE P l s K|some os=>wpE P l (putS s i (.v (.tup (.bool false::os)))) K|none=>False)
def V0{C:Zg}(h:∀j,C.any (λx=>x.1==j)=true->get s j=get t j):holds s C↔holds t C:=by
 have:∀x∈C,get s x.1=get t x.1:=λx hx=>h x.1 (Z65.2 ⟨x,hx,Z1⟩);constructor
 ·intro hs x hx;rw[<-this x hx];exact hs x hx
 ·intro hs x hx;rw[this x hx];exact hs x hx
def ZH{j:Nat}{l r:List E}:E.asksIn j (l++r)=(E.asksIn j l||E.asksIn j r):=by
 induction l with
 |nil=>rfl
 |cons e l ih=>simp[E.asksIn,ih,Bool.or_assoc]
def Kq{f:FN}(h:∀j,E.asksIn j f.es=true->get s j=get t j):fnOf s f=fnOf t f:=by
 cases f with
 |id n=>rfl
 |e x=>grind [fnOf,Z6,FN.es,E.asksIn]
def zX{f:FN}(h:∀j,E.asksIn j f.es=true->get s j=get t j):fnV s f=fnV t f:=by
 cases f with
 |id n=>rfl
 |e x=>grind [fnV,Z6,FN.es,E.asksIn]
def SE:∀ {ks:List OT} {aq_:List E},(∀j,E.asksIn j aq_=true->get s j=get t j)->oldV s ks aq_=oldV t ks aq_
 | [],aq_,_=>by simp[oldV]
 |k::ks,[],_=>by cases k<;>simp[oldV]
 |k::ks,e::aq_,h=>by
  have ih:=SE (ks:=ks) (aq_:=aq_) λj hj=>h j (by simp[E.asksIn,hj]);have he:=Z6 e λj hj=>h j (by simp[E.asksIn,hj]);cases k<;>simp only[oldV,ih,he]
def BW{P:Program} [Lg P]{x:EF}(h:∀j,Yq j x=true->get s j=get t j)(hi:get s (efI x)=get t (efI x))(hs:EFok P s x):EFok P t x:=by
 cases x with
 |lt i C e=>
  intro hh;have h1:=(V0 (s:=s) (t:=t) (C:=C) λj hj=>h j (by simp_all[Yq,Z7r])).2 hh;obtain⟨v,hv,hg⟩:=hs h1;exact⟨v,by rw[<-Z6 e λj hj=>h j (by simp_all[Yq,Z8m])];exact hv,by rw[<-hg];exact hi.symm⟩
 |call i C f fr fl aq_=>
  intro hh;have h1:=(V0 (s:=s) (t:=t) (C:=C) λj hj=>h j (by simp_all[Yq,Z7r])).2 hh;obtain⟨xs,n,r,hv,hn,h2,h3,hg⟩:=hs h1;exact⟨xs,n,r,by rw[<-Yy aq_ λj hj=>h j Z4e];exact hv,by rw[<-zX (f:=f) λj hj=>h j Z4f];exact hn,h2,h3,by rw[<-hg];exact hi.symm⟩
 |callm i C f ks aq_=>
  have hC:=V0 (s:=s) (t:=t) (C:=C) λj hj=>h j (by simp_all[Yq,Z7r]);have ha:=Yy aq_ λj hj=>h j Z4e;have hf:=Kq (f:=f) λj hj=>h j Z4f;have ho:=SE (ks:=ks) (aq_:=aq_) λj hj=>h j Z4e;refine⟨λhh=> ?_,λhh=> ?_⟩
  ·obtain⟨xs,n,R,h1,h2,h3,h4⟩:=hs.1 (hC.2 hh);exact⟨xs,n,R,Z3M,Z3M,h3,by rw[<-h4];exact hi.symm⟩
  ·obtain⟨os,h1,h2⟩:=hs.2 λh'=>hh (hC.1 h');exact⟨os,Z3M,λhne=>by rw[<-h2 hne];exact hi.symm⟩
def qV{P:Program} [Lg P]{K:St->Prop}:∀ {l:List EF} {s:St},I6 l=true->wpE P l s K->∃t,K t/\(∀x∈l,EFok P t x)/\∀j,(∀x∈l,efI x≠j)->get t j=get s j
 | [],s,_,h=>⟨s,h,λx hx=>Z4n,λ_ _=>rfl⟩
 |x::l,s,hok,h=>by
  simp only[I6,Z4x,Z5m,Z4D,Z7B,ne_eq]at hok;obtain⟨⟨hself,hl⟩,hok⟩:=hok
  have fin:∀(s1:St),(∀j,j≠efI x->get s1 j=get s j)->EFok P s1 x->wpE P l s1 K->∃t,K t/\(∀y∈x::l,EFok P t y)/\∀j,(∀y∈x::l,efI y≠j)->get t j=get s j:=by
   intro s1 hs1 hx h;obtain⟨t,hK,hall,hag⟩:=qV hok h;refine⟨t,hK,λy hy=> ?_,λj hj=> ?_⟩
   ·obtain rfl|hy:=Z4H.1 hy
    ·refine BW (s:=s1) (λj hj=>(hag j λy hy e=> ?_).symm) (hag _ λy hy e=>(hl y hy).1 e).symm hx
     grind
    simp_all
   ·grind
  cases x with
  |lt i C e=>
   simp only[wpE]at h
   have hask:∀(v:SV) (j:Nat),Yq j (.lt i C e)=true->get (putS s i v) j=get s j:=λv j hj=>by
    rw[Zk,if_neg];intro e';subst e';exact absurd hj (by rw[show Yq j (.lt j C e)=false from hself];simp)
   split at h
   ·rename_i hh;split at h
    ·rename_i v hv;refine fin (putS s i (.v v)) (λj hj=>by rw[Zk];exact if_neg hj) (λ_=>⟨v,?_,by rw[Zk,if_pos rfl]⟩) h;rw[Z6 e λj hj=>hask _ j (by simp_all[Yq,Z8m])];exact hv
    simp_all
   ·rename_i hh;exact fin s (λ_ _=>rfl) (λhc=>absurd (XK.2 hc) hh) h
  |call i C f fr fl aq_=>
   simp only[wpE]at h
   have hask:∀(v:SV) (j:Nat),Yq j (.call i C f fr fl aq_)=true->get (putS s i v) j=get s j:=λv j hj=>by
    rw[Zk,if_neg];intro e';subst e';exact absurd hj (by rw[show Yq j (.call j C f fr fl aq_)=false from hself];simp)
   split at h
   ·rename_i hh;split at h
    ·rename_i xs n hxs hn;obtain⟨r,h1,h2,h3⟩:=h;refine fin (putS s i (.v r)) (λj hj=>by rw[Zk];exact if_neg hj) (λ_=>⟨xs,n,r,?_,?_,h1,h2,by rw[Zk,if_pos rfl]⟩) h3
     ·rw[Yy aq_ λj hj=>hask _ j Z4e];exact hxs
     ·rw[zX (f:=f) λj hj=>hask _ j Z4f];exact hn
    simp_all
   ·rename_i hh;exact fin s (λ_ _=>rfl) (λhc=>absurd (XK.2 hc) hh) h
  |callm i C f ks aq_=>
   simp only[wpE]at h
   have hask:∀(v:SV) (j:Nat),Yq j (.callm i C f ks aq_)=true->get s j=get (putS s i v) j:=λv j hj=>by
    rw[Zk,if_neg];intro e';subst e';exact absurd hj (by rw[show Yq j (.callm j C f ks aq_)=false from hself];simp)
   have hC:∀v,holds s C↔holds (putS s i v) C:=λv=>V0 λj hj=>hask v j (by simp_all[Yq,Z7r]);have ha:∀v,Yg s aq_=Yg (putS s i v) aq_:=λv=>Yy aq_ λj hj=>hask v j Z4e;have hf:∀v,fnOf s f=fnOf (putS s i v) f:=λv=>Kq λj hj=>hask v j Z4f;have ho:∀v,oldV s ks aq_=oldV (putS s i v) ks aq_:=λv=>SE λj hj=>hask v j Z4e;split at h
   ·rename_i hh;split at h
    ·rename_i xs n hxs hn;obtain⟨R,h1,h2⟩:=h;refine fin (putS s i (.v R)) (λj hj=>by rw[Zk];exact if_neg hj) ⟨λ_=>⟨xs,n,R,?_,?_,h1,by rw[Zk,if_pos rfl]⟩,λhc=>absurd ((hC _).1 (XK.1 hh)) hc⟩ h2
     ·grind
     grind
    simp_all
   ·rename_i hh;split at h
    ·rename_i hos;exact fin s (λ_ _=>rfl) ⟨λhc=>absurd (XK.2 hc) hh,λ_=>⟨[],hos,λhne=>absurd rfl hne⟩⟩ h
    ·rename_i os hne hos;refine fin (putS s i (.v (.tup (.bool false::os)))) (λj hj=>by rw[Zk];exact if_neg hj) ⟨λhc=>absurd (XK.2 ((hC _).2 hc)) hh,λ_=>⟨os,?_,λ_=>by rw[Zk,if_pos rfl]⟩⟩ h
     grind
    simp_all
end
end Vm
namespace Vm
open Go
open Go.RowKit (Below)
def ovV(t:St):OV->Option SV
 |.v e=>(eval t e).map .v
 |.m l=>(Yg t l).map .m
 |.no=>some .no
def wpO:List (Nat×OV)->St->St->(St->Prop)->Prop
 | [],_,u,K=>K u
 | (i,o)::l,t,u,K=>match ovV t o with
   |some x=>wpO l t (putS u i x) K
   |none=>False
def wpC(t:St):List (Zg×E)->Prop
 | []=>True
 |(C,e)::l=>(Wf t C=true->(eval t e).isSome=true)/\wpC t l
def wpR(P:Program) [Lg P](r:Reg)(s:St)(K:St->Prop):Prop:=wpE P r.efs s λt=>wpC t r.chks/\wpO r.outs t t K
def BR{t:St}:∀ {l:List (Zg×E)},wpC t l->Q9 t l
 | [],_=>λx hx=>Z4n
 | (C,e)::l,h=>λx hx hh=>by
   obtain rfl|hx:=Z4H.1 hx
   ·exact Z5y.1 (h.1 (XK.2 hh))
   ·exact BR h.2 x hx hh
def BT{K:St->Prop}{t:St}:∀ {l:List (Nat×OV)} {u:St},wpO l t u K->∃u',K u'/\(∀x∈l,∃y,ovV t x.2=some y)/\(∀j,(∀x∈l,x.1≠j)->get u' j=get u j)/\
  ∀x∈l,(∀y∈l,y.1=x.1->y.2=x.2)->∀v,ovV t x.2=some v->get u' x.1=v
 | [],u,h=>⟨u,h,λx hx=>Z4n,λ_ _=>rfl,λx hx=>Z4n⟩
 | (i,o)::l,u,h=>by
   simp only[wpO]at h;split at h
   ·rename_i v hv;obtain⟨u',hK,h1,h2,h3⟩:=BT h;refine⟨u',hK,λx hx=> ?_,λj hj=> ?_,λx hx hun v' hv'=> ?_⟩
    ·grind
    ·rw[h2 j λx hx=>hj x (by simp[hx]),Zk,if_neg];exactλe=>hj (i,o) Z1 e.symm
    ·by_cases hin:∃y∈l,y.1=x.1
     ·grind
     ·have hxi:x=(i,o):=by
       obtain h|h:=Z4H.1 hx
       ·exact h
       ·simp_all
      subst hxi;rw[h2 i λy hy e=>hin ⟨y,hy,e⟩,Zk,if_pos rfl];simp_all
   simp_all
section
variable {c:Ctx}{B:Nat}{G:Nat->Prop}{s t u:St}{a a':Act}{w w':World}{h h':GH}{g:Gam}{S:SS}
def RelG.ctx{c':Ctx}(hP:c'.P=c.P)(hix:c'.ix=c.ix)(hr:RelG c B G s a w h g):RelG c' B G s a w h g:=by
 have hC:∀C,ixC c' C=ixC c C:=λC=>by simp[ixC,hix]
 refine⟨hr.ok,λp hh hn=> ?_,λp hh=> ?_⟩
 ·rw[hC]at hh;rw[hP];exact hr.at_ p hh hn
 ·rw[hC]at hh;exact hr.skip p hh
theorem Zh:∀ {S:SS} {p:Nat},(Y0 c S).at p=match S.at p with|some k=>([],Kj c p k)|none=>([],.no)
 | [],p=>rfl
 | (q,k)::S,p=>by
   simp only[Y0,Z4T,Gam.at,SS.at];by_cases hq:q=p
   ·grind
   ·rw[if_neg hq,if_neg hq];exact Zh (S:=S) (p:=p)
theorem RelC.eval{P:Program}{o:Option Nat}{k:CK}{e e':E}{v:Value}(hr:RelC P B s w h o k e v)(he:∀x,x.one=true->Vm.eval s e=some x->Vm.eval t e'=some x):RelC P B t w h o k e' v:=by
 cases k with
 |fz=>obtain⟨x,h0,h1,h2⟩:=hr;exact⟨x,he x h1 h0,h1,h2⟩
 |own ty=>obtain⟨x,h0,h1⟩:=hr;exact⟨x,he x h1.one h0,h1⟩
 |nil=>exact⟨hr.1,he _ rfl hr.2⟩
 |dead=>exact hr
def RelG.agree(hr:RelG c B G s a w h (Y0 c S))(hag:∀x∈S,get t (c.ix x.1)=get s (c.ix x.1)):RelG c B G t a w h (Y0 c S):=by
 have hmem:∀ {S:SS} {p:Nat} {k:OT},S.at p=some k->(p,k)∈S:=by
  intro S p k
  induction S with
  |nil=>intro h;cases h
  |cons x S ih=>
   grind [SS.at,List.mem_cons_of_mem]
 have hcond:∀p,((Y0 c S).at p).1=[]:=λp=>by grind [Zh]
 refine⟨hr.ok,λp _ hn=> ?_,λp hh=>absurd (by simp_all[Zb]) hh⟩;obtain⟨v,hv,hk⟩:=hr.at_ p (by simp_all[Zb]) hn;refine⟨v,hv,?_⟩;rw[Zh]at hk⊢;cases hS:S.at p with
 |none=>trivial
 |some k=>
  rw[hS]at hk;have hg:=hag _ (hmem hS);simp only at hg hk⊢;cases k with
  |fz=>obtain⟨x,h1,h2⟩:=hk;exact⟨x,by simp_all[Vm.eval],h2⟩
  |own ty=>obtain⟨x,h1,h2⟩:=hk;exact⟨x,by simp_all[Vm.eval],h2⟩
  |nil=>exact hk
  |mem l=>
   obtain⟨b,vs,T,h1,h2,h3,h4,h5⟩:=hk;refine⟨b,vs,T,h1,h2,h3,h4,λi ck hi=>(h5 i ck hi).eval λx _ hx=> ?_⟩;simp only[Z4M,Z4w]at hi;obtain⟨y,_,rfl⟩:=hi;simp_all[Vm.eval]
  |clo f caps=>exact hk
def Bp{keep:List Nat}:∀ {p:Nat} {k:OT},(q9 keep g).at p=some k->p∈keep/\(g.at p).1=[]/\outK (g.at p).2=some k:=by
 induction keep with
 |nil=>intro p k h;cases h
 |cons q keep ih=>
  intro p k h;simp only[q9,Z68]at h;split at h
  ·obtain⟨h1,h2⟩:=ih (p:=p) (k:=k) h;simp_all
  ·rename_i y hy;split at hy
   ·rename_i hc;simp only[Z4w]at hy;obtain⟨k',hk',rfl⟩:=hy;simp only[SS.at]at h;split at h
    ·simp_all
    ·obtain⟨h1,h2⟩:=ih (p:=p) (k:=k) h;simp_all
   ·cases hy
def TK.kept:TK->Bool
 |.val .. |.own .. |.mem _=>true
 |_=>false
def A0{S0:SS}{p:Nat}(hc:(g.at p).1=[])(hk:(g.at p).2.kept=true):UG c S0 g p=if TU (c.ix p) (ovK (g.at p).2)=true then none else some (c.ix p,ovK (g.at p).2):=by
 unfold UG;simp only[hc,Z8b,Z5b];cases hs:TU (c.ix p) (ovK (g.at p).2)
 ·simp only[Z4G,Z5h]
  grind [TK.kept]
 rfl
def Ak{keep sh:List Nat}{S0:SS}(hr:RelG c B G t a w h g)(hsh:∀p∈keep,∀e l,g.at p=([],.val e l)->∀b,h.ext l b->h.F b)
  (hget:∀p∈keep,match UG c S0 g p with|some x=>∃v,ovV t x.2=some v/\get u (c.ix p)=v|none=>get u (c.ix p)=get t (c.ix p)):RelG c B G u a w h (Y0 c (q9 keep g)):=by
 have hcond:∀p,((Y0 c (q9 keep g)).at p).1=[]:=λp=>by grind [Zh,q9]
 refine⟨hr.ok,λp _ hn=> ?_,λp hh=>absurd (by simp_all[Zb]) hh⟩;rw[Zh]at hn⊢;cases hS:(q9 keep g).at p with
 |none=>simp_all[TK.isNo]
 |some k=>
  obtain⟨hpk,hc0,hk⟩:=Bp hS;have hno:(g.at p).2.isNo=false:=by cases hkk:(g.at p).2<;>rw[hkk]at hk<;>first|rfl|simp[outK]at hk
  obtain⟨v,hv,hrel⟩:=hr.at_ p (by simp_all[Zb]) hno;refine⟨v,hv,?_⟩
  have hgp:(g.at p).2.kept=true->(TU (c.ix p) (ovK (g.at p).2)=true/\get u (c.ix p)=get t (c.ix p))\/∃v,ovV t (ovK (g.at p).2)=some v/\get u (c.ix p)=v:=by
   intro hkept;have h1:=hget p hpk;rw[A0 hc0 hkept]at h1;by_cases hs:TU (c.ix p) (ovK (g.at p).2)=true
   ·simp_all
   ·simp_all
  simp only;cases hkk:(g.at p).2 with
  |val e l=>
   rw[hkk]at hk hrel hgp;simp only[outK,Z4s]at hk;subst hk;obtain⟨x,hx,hxr⟩:=hrel;have hF:=hsh p hpk e l Z3L;refine⟨x,?_,hxr.mono λb hb=>GH.ext_F (hF b hb)⟩;simp only[Vm.eval];obtain⟨hs,hg⟩|⟨v',h1,h2⟩:=hgp rfl
   ·simp only[ovK]at hs;cases e<;>simp only[TU]at hs<;>first|(cases hs;done)|skip
    simp_all[Z59,Vm.eval]
   grind [ovK,ovV,Option.some.injEq]
  |own ty e=>
   rw[hkk]at hk hrel hgp;simp only[outK,Z4s]at hk;subst hk;obtain⟨x,hx,hxr⟩:=hrel;refine⟨x,?_,hxr⟩;simp only[Vm.eval];obtain⟨hs,hg⟩|⟨v',h1,h2⟩:=hgp rfl
   ·simp only[ovK]at hs;cases e<;>simp only[TU]at hs<;>first|(cases hs;done)|skip
    simp_all[Z59,Vm.eval]
   grind [ovK,ovV,Option.some.injEq]
  |nil=>
   rw[hkk]at hk hrel;simp only[outK,Z4s]at hk;subst hk;exact hrel
  |mem cs=>
   rw[hkk]at hk hrel hgp;simp only[outK,Z4s]at hk;subst hk;obtain⟨b,vs,T,h1,h2,h3,h4,h5⟩:=hrel;refine⟨b,vs,T,h1,h2,h3,by simpa using h4,λi ck hi=> ?_⟩;simp only[Z4M,Z6y,Z4w]at hi;obtain⟨y,⟨q,⟨ck0,hck0,rfl⟩,rfl⟩,rfl⟩:=hi;refine(h5 i ck0 hck0).eval λx hx1 hx=> ?_;simp only[Z5g,Vm.eval];obtain⟨hs,hg⟩|⟨v',e1,e2⟩:=hgp rfl
   ·simp only[ovK,TU,Z4D]at hs;have:=hs (ck0.2,i) (Z7s.2 ⟨i,Z3M⟩);obtain⟨kk,e⟩:=ck0;cases e<;>simp only at this<;>first|(cases this;done)|skip
    simp only[Z4x,Z59]at this;obtain⟨rfl,rfl⟩:=this;rw[hg];simpa only[Vm.eval]using hx
   ·simp only[ovK,ovV,Z4w]at e1;obtain⟨xs,hxs,rfl⟩:=e1;obtain⟨_,hget⟩:=Yz hxs;obtain⟨z,hz,hze⟩:=hget i ck0.2 Z3M;simp_all[Z4E,oneV,if_pos]
  |no=>simp_all[outK]
  |ags cs=>simp_all[outK]
  |ref p=>simp_all[outK]
  |refm p i=>simp_all[outK]
  |pm p o=>simp_all[outK]
  |pc e o sh=>simp_all[outK]
  |pe p i j o k=>simp_all[outK]
  |pa p o j n k=>simp_all[outK]
  |big e sh=>simp_all[outK]
  |clo f caps=>
   rw[hkk]at hk hrel;simp only[outK,Z4s]at hk;subst hk;exact hrel
end
end Vm
namespace Vm
open Go
open Go.RowKit (Below)
def JK(c:Ctx)(s:St)(S:SS):Prop:=∀p,S.at p=some .nil->get s (c.ix p)=.v (.sl [])
def U6:∀ {S:SS} {p:Nat} {k:OT},S.at p=some k->(p,k)∈S
 | [],p,k,h=>Z3V
 | (q,k')::S,p,k,h=>by
   simp only[SS.at]at h;split at h
   ·rename_i e;subst e;cases h;simp
   ·exact Z53 _ (U6 h)
section
variable {c:Ctx}{B:Nat}{G:Nat->Prop}{s t u:St}{a a':Act}{w w':World}{h h':GH}{g:Gam}{S S':SS}
theorem yZ{S0:SS}{p:Nat}{x:Nat×OV}(h:UG c S0 g p=some x):x.1=c.ix p:=by
 grind [UG,ovK,Option.some.injEq]
theorem Sh{l:List E}{xs:List V}(h:Yg t l=some xs):∀e∈l,∃v,eval t e=some v:=by
 intro e he;obtain⟨_,hg⟩:=Yz h
 grind [List.getElem?_of_mem]
theorem NP{o:OV}{v:SV}(h:ovV t o=some v):∀e∈ovE o,∃v,eval t e=some v:=by
 intro e he;cases o with
 |v e'=>
  grind [ovE,ovV,Option.map_eq_some_iff]
 |m l=>
  simp only[ovV,Z4w]at h;obtain⟨xs,hxs,_⟩:=h;exact Sh hxs e he
 |no=>simp[ovE]at he
theorem KE{keep:List Nat}{p:Nat}{e:E}{l:List Nat}(hp:p∈keep)(hg:g.at p=([],.val e l)):∀q∈l,q∈XX keep g:=by
 grind [XX]
def Z0t{P:Program} [Lg P]{ix:Nat->Nat}{fresh:FuncId->Bool}{sig:FuncId->Option (List OT)}{tr fix:List Nat}{n:Nat}{keep:List Nat}{draw:Bool}{ops:Array Oper}{r:Reg}(hfit:∀o∈ops,Lg.fit P o)(hm:draw=true->P.follows .mixedOrders=true)(hc:jd P ix fresh sig tr fix n keep draw ops S=some (r,S'))
  (hinj:∀p∈keep,∀q∈keep,ix p=ix q->p=q) (hP:c.P=P) (hix:c.ix=ix) (hr:RelG c B G s a w h (Y0 c S)) (hnil:JK c s S) (hn:n<=a.tmps.size) {K:St->Prop} (hK:wpR P r s K) {id:Nat} {Q:Exit->Act->World->Prop}
  (hQ:∀a' w' s' h',K s'->RelG c B G s' a' w' h' (Y0 c S')->JK c s' S'->h'.K=h.K->Frm h.K (λt=>t∈fix) a.tmps B w a' w'->a'.tmps.size=a.tmps.size->a'.defers=a.defers->Q .normal a' w'):Lg.wp P (.region id ops draw) Q a w:=by
 unfold jd at hc;simp only[Z4t]at hc;obtain⟨⟨gf,xs⟩,hst,hc⟩:=hc;simp only at hc;split at hc
 ·rename_i hcond;simp only[Z4x]at hcond;obtain⟨⟨⟨hfix,hord⟩,hefs⟩,hlets⟩:=hcond;simp only[Z4s,Z4C]at hc;obtain⟨rfl,rfl⟩:=hc;generalize hcc:({P:=P,ix:=ix,own:=λt=>(FA ops).contains t,fresh:=fresh,sig:=sig,tr:=tr,n:=n}:Ctx)=cc at*;have hccP:cc.P=P:=by rw[<-hcc]
  have hccix:cc.ix=ix:=by rw[<-hcc]
  have hccn:cc.n=n:=by rw[<-hcc]
  have hent:∀S,Y0 cc S=Y0 c S:=by
   intro S;simp only[Y0];refine Z6J λx _=> ?_;cases x.2<;>simp[Kj,hccix,hix]
  clear hcc;subst hccP;obtain⟨hf,rfl⟩:=N4 hst hord;obtain⟨t,⟨hchk,hout⟩,hef,hag⟩:=qV hefs hK;obtain⟨u,hKu,ho1,ho2,ho3⟩:=BT hout
  have hall:Q9 t (xs.flatMap λx=>x.os.chks):=by
   refine T4 (λx hx hh=> ?_) (BR hchk);obtain hx|hx:=Z4R.1 hx
   ·obtain⟨ef,hef1,hx⟩:=Z6o.1 hx;have hefo:=hef ef hef1;cases ef with
    |lt i C e=>
     have:x=(C,e):=by simpa[efE]using hx
     subst this;obtain⟨v,hv,_⟩:=hefo hh
     grind
    |call i C f fr fl aq_=>
     obtain⟨e,he,rfl⟩:=Z4I.1 hx;obtain⟨ys,n,_,hys,hfn,_⟩:=hefo hh;obtain he|he:=Z4R.1 he
     ·cases f with
      |id q=>simp[FN.es]at he
      |e q=>
       simp only[FN.es,Z5x]at he;subst he;simp only[fnV,Z4t]at hfn;obtain⟨v,hv,_⟩:=hfn
       grind
     grind [Sh]
    |callm i C f ks aq_=>
     obtain⟨e,he,rfl⟩:=Z4I.1 hx;obtain⟨ys,n,_,hys,hfn,_⟩:=hefo.1 hh;obtain he|he:=Z4R.1 he
     ·cases f with
      |id q=>simp[FN.es]at he
      |e q=>
       grind [FN.es,List.mem_singleton,fnOf]
     grind [Sh]
   ·obtain⟨y,hy,hx⟩:=Z6o.1 hx;obtain⟨e,he,rfl⟩:=Z4I.1 hx
    grind [NP]
  have hos:∀x∈xs,okOS cc.P t x.os:=by
   intro x hx;exact⟨λef hef1=>hef ef (Z6o.2 ⟨x,hx,hef1⟩),λy hy=>hall y (Z6o.2 ⟨x,hx,hy⟩)⟩
  have hr1:RelG cc B G t a w h (Y0 cc S):=by
   have h1:RelG cc B G s a w h (Y0 cc S):=by
    rw[hent];exact hr.ctx hP.symm Z3L
   refine h1.agree λx hx=>hag _ λef hef1 he=> ?_;simp only[Z4D,Z7B,ne_eq]at hlets;exact hlets ef hef1 x hx Z3L
  have hget:∀p∈keep,match UG cc S (frz (XX keep (gAll xs (Y0 cc S))) (gAll xs (Y0 cc S))) p with|some x=>∃v,ovV t x.2=some v/\get u (cc.ix p)=v|none=>get u (cc.ix p)=get t (cc.ix p):=by
   intro p hp
   have huniq:∀q∈keep,∀y,UG cc S (frz (XX keep (gAll xs (Y0 cc S))) (gAll xs (Y0 cc S))) q=some y->y.1=cc.ix p->q=p:=λq hq y hy he=>by
    have:=yZ hy
    grind
   split
   ·grind [Z0b,frz,XX,gAll,Y0,yZ]
   ·rename_i hx;refine ho2 _ λy hy he=> ?_;obtain⟨q,hq,hy'⟩:=Z7i.1 hy
    grind
  have hnil':JK c u (q9 keep (frz (XX keep (gAll xs (Y0 cc S))) (gAll xs (Y0 cc S)))):=by
   intro p hp;obtain⟨hpk,hc0,hk⟩:=Bp hp
   have hkn:((frz (XX keep (gAll xs (Y0 cc S))) (gAll xs (Y0 cc S))).at p).2=.nil:=by
    cases hkk:((frz (XX keep (gAll xs (Y0 cc S))) (gAll xs (Y0 cc S))).at p).2<;>rw[hkk]at hk<;>simp[outK]at hk⊢
   have hgp:=hget p hpk
   have hone:UG cc S (frz (XX keep (gAll xs (Y0 cc S))) (gAll xs (Y0 cc S))) p=if S.at p=some .nil then none else some (cc.ix p,.v (.c (.sl []))):=by
    unfold UG;simp only[hc0,hkn,Z8b,Z5b,ovK,TU,Z4G,Z5h];cases hSp:S.at p with
    |none=>simp
    |some k=>grind
   rw[hone]at hgp;rw[hix,<-hccix];by_cases hSp:S.at p=some .nil
   ·rw[if_pos hSp]at hgp;simp only at hgp;rw[hgp,hag]
    ·have:=hnil p hSp
     grind
    ·intro ef hef1 he;simp only[Z4D,Z7B,ne_eq]at hlets;exact hlets ef hef1 _ (U6 hSp) Z3L
   ·rw[if_neg hSp]at hgp
    grind [ovV,eval,Option.some.injEq]
  have hfx:∀o∈ops,∀d,o.dst=some d->¬d∈fix:=λo ho d hd hm=>by
   have:=Z4D.1 hfix o Z3L
   grind
  have hwp:=CT (c:=cc) (id:=id) (Q:=Q) hfit hm hf hos Z0 hr1 hfx λa' w' h' hrel hKk hb h1 h2=>by
   have hfz:=hrel.frz (XX keep (gAll xs (Y0 cc S)));refine hQ a' w' u (h'.thaw (XX keep (gAll xs (Y0 cc S)))) hKu ?_ hnil' hKk hb h1 h2;rw[<-hent];have hfin:=Ak (u:=u) (keep:=keep) (sh:=[]) (S0:=S) hfz (λp hp e l hg b hbx=> ?_) λp hp=> ?_
   ·exact hfin.ctx hP Z3L
   ·
    have hsub:∀q∈l,q∈XX keep (gAll xs (Y0 cc S)):=by
     unfold frz at hg;rw[Y3,Y3]at hg;split at hg
     ·split at hg
      ·grind [RS]
      ·rename_i hk1 hk2
       have hpf:p∈XX keep (gAll xs (Y0 cc S)):=by
        simp only[Zw,Z5F,Z4R]at hk1;have:=hk1.resolve_left hk2;have h3:=WX (fz:=XX keep (gAll xs (Y0 cc S))) (g:=gAll xs (Y0 cc S));unfold Zw at h3;rw[h3]at this;exact this
       rw[U9 hpf]at hg;simp only[Z4C]at hg;obtain⟨hg1,hg2⟩:=hg;cases hk:((gAll xs (Y0 cc S)).at p).2<;>rw[hk]at hg2<;>simp only[UP]at hg2<;>first|(cases hg2;done)|skip
       ·simp only[TK.val.injEq]at hg2;obtain⟨rfl,rfl⟩:=hg2
        grind [KE,Prod.ext]
       ·grind
       grind
     ·exact KE hp hg
    obtain hbx|⟨q,hq,i,hi⟩:=hbx
    ·exact hbx
    ·simp only[GH.thaw]at hi
     grind
   grind
  exact hwp
 ·cases hc
end
end Vm
namespace Vm
open Go
open Go.RowKit (Below)
def GH.drop(h:GH)(kp:Nat->Nat->Bool):GH:= {F:=λb=>h.F b\/∃t i,kp t i=false/\i≠0/\h.bl t i=some b,bl:=λt i=>if kp t i=true\/i=0 then h.bl t i else none,K:=h.K}
section
variable {c:Ctx}{B:Nat}{G:Nat->Prop}{s t u:St}{a a':Act}{w w':World}{h h':GH}{g:Gam}{S R:SS}
def NM(hok:Ok B G w h)(kp:Nat->Nat->Bool):Ok B G w (h.drop kp):=by
 refine⟨hok.base,λb hb=> ?_,λb hb=> ?_,λb hb=>.inl (hok.g_F b hb),λt i b hb=> ?_,λt i u j b hb hb'=> ?_,hok.k_lt,λt i b hb=> ?_,λb hb=> ?_⟩
 ·obtain hb|⟨t,i,_,_,hi⟩:=hb
  ·exact hok.f_lt b hb
  ·exact(hok.b_lt t i b hi).2.1
 ·obtain hb|⟨t,i,_,_,hi⟩:=hb
  ·exact hok.f_or b hb
  ·exact .inr (hok.b_lt t i b hi).1
 ·simp only[GH.drop]at hb;split at hb
  ·rename_i hk;obtain⟨h1,h2,h3⟩:=hok.b_lt t i b hb;refine⟨h1,h2,λhF=> ?_⟩;obtain hF|⟨t',i',e1,e2,e3⟩:=hF
   ·exact h3 hF
   ·obtain⟨rfl,rfl⟩:=hok.inj t i t' i' b hb e3;simp_all
  ·cases hb
 ·simp only[GH.drop]at hb hb';split at hb<;>split at hb'<;>first|(cases hb;done)|(cases hb';done)|exact hok.inj t i u j b hb hb'
 ·simp only[GH.drop]at hb;split at hb
  ·exact hok.k_bl t i b hb
  ·cases hb
 ·obtain hb|⟨t,i,_,_,hi⟩:=hb
  ·exact hok.k_F b hb
  ·exact .inr (hok.k_bl t i b hi)
def EU{P:Program}(hle:leSS P S R=true){p:Nat}{k:OT}(hp:R.at p=some k):∃k0,S.at p=some k0/\leOT P k0 k=true:=by
 have:=Z4D.1 hle _ (U6 hp)
 grind
def RelC.weak{P:Program}{o o':Option Nat}{k k':CK}{e:E}{v:Value}(hr:RelC P B s w h o k e v)(hle:leCK P k k'=true)(hF:∀b,h.F b->h'.F b)
  (hown:∀ty ty',k=.own ty->k'=.own ty'->o'=o) (hdrop:(∀ty,k'≠.own ty)->∀b,o=some b->h'.F b) (hnil:∀ty,k=.nil->k'=.own ty->o'=none):RelC P B s w h' o' k' e v:=by
 cases k with
 |fz=>
  cases k'<;>simp only[leCK]at hle<;>first|(cases hle;done)|skip
  ·obtain⟨x,h0,h1,h2⟩:=hr;exact⟨x,h0,h1,h2.mono hF⟩
  ·exact hr.cell
 |own ty=>
  cases k'<;>simp only[leCK]at hle<;>first|(cases hle;done)|skip
  ·obtain⟨x,h0,h1⟩:=hr;exact⟨x,h0,h1.one,h1.rd hF (hdrop Z1)⟩
  ·rename_i ty';simp only[Z59]at hle;subst hle;obtain⟨x,h0,h1⟩:=hr;exact⟨x,h0,h1.mono hF (hown ty ty rfl rfl).symm⟩
  ·exact hr.cell
 |nil=>
  obtain⟨rfl,h0⟩:=hr;cases k'<;>simp only[leCK]at hle<;>first|(cases hle;done)|skip
  ·exact⟨_,h0,rfl,.nil _ _ (Z5H _)⟩
  ·rename_i ty;simp only[Z4N]at hle;rw[hnil ty rfl rfl];exact⟨_,h0,.inl ⟨[],[],rfl,hle,λx hx=>Z4n,Z5R w B ty _,rfl,λi ck hi=>by simp[flat]at hi⟩⟩
  ·exact⟨rfl,h0⟩
  ·rfl
 |dead=>
  cases k'<;>simp only[leCK]at hle<;>first|(cases hle;done)|skip
  exact hr
def UT(S R:SS)(t i:Nat):Bool:=
 match S.at t,R.at t with
 |some (.own _),some (.own _)=>true
 |some (.mem a),some (.mem b)=>match a[i-1]?,b[i-1]? with
  |some (.own _),some (.own _)=>true
  |_,_=>false
 |_,_=>false
def yr{P:Program}:∀ {a b:List CK},CB P a b=true->a.length=b.length/\∀(i:Nat) (x y:CK),a[i]?=some x->b[i]?=some y->leCK P x y=true
 | [],[],_=>⟨rfl,λi x y hx=>Z4n⟩
 | [],_::_,h=>by simp[CB]at h
 |_::_,[],h=>by simp[CB]at h
 |x::a,y::b,h=>by
  simp only[CB,Z4x]at h;obtain⟨h1,h2⟩:=yr h.2;refine⟨by simp[h1],λi p q hp hq=> ?_⟩;cases i with
  |zero=>simp at hp hq;subst hp hq;exact h.1
  |succ i=>exact h2 i p q (by simpa using hp) (by simpa using hq)
def Tg(hr:RelG c B G s a w h (Y0 c S))(hnil:JK c s S)(hle:leSS c.P S R=true):RelG c B G s a w (h.drop (UT S R)) (Y0 c R)/\JK c s R:=by
 constructor
 ·refine⟨NM hr.ok _,λp _ hn=> ?_,λp hh=>absurd (by rw[Zh];cases R.at p<;>exact Zb s c) hh⟩;rw[Zh]at hn⊢;cases hR:R.at p with
  |none=>rw[hR]at hn;simp[TK.isNo]at hn
  |some k'=>
   obtain⟨k,hS,hk⟩:=EU hle hR;obtain⟨v,hv,hrel⟩:=hr.at_ p (by rw[Zh,hS];exact Zb s c) (by rw[Zh,hS];cases k<;>rfl);refine⟨v,hv,?_⟩;rw[Zh,hS]at hrel;simp only at hrel⊢;have hF:∀b,h.F b->(h.drop (UT S R)).F b:=λb hb=>.inl hb;have hFe:∀b,h.ext [] b->(h.drop (UT S R)).ext [] b:=λb hb=>GH.ext_F (.inl (GH.ext_nil hb));cases k with
   |fz=>
    cases k'<;>simp only[leOT]at hk<;>first|(cases hk;done)|skip
    obtain⟨x,h1,h2⟩:=hrel;exact⟨x,h1,h2.mono hFe⟩
   |own ty=>
    cases k'<;>simp only[leOT]at hk<;>first|(cases hk;done)|skip
    ·obtain⟨x,h1,h2⟩:=hrel;exact⟨x,h1,h2.rd (λb hb=>GH.ext_F (hF b hb)) λb hb=>GH.ext_F (.inr ⟨p,1,by simp[UT,hS,hR],Z0,hb⟩)⟩
    ·rename_i ty';simp only[Z59]at hk;subst hk;obtain⟨x,h1,h2⟩:=hrel;exact⟨x,h1,h2.mono hF (by simp[GH.drop,UT,hS,hR])⟩
   |nil=>
    have hv0:v=.slice none 0 0:=hrel;subst hv0;have hg:=hnil p hS;cases k'<;>simp only[leOT]at hk<;>first|(cases hk;done)|skip
    ·exact⟨.sl [],by simp only[eval,hg],.nil _ _ (Z5H _)⟩
    ·rename_i ty;simp only[Z4N]at hk;exact⟨.sl [],by simp only[eval,hg],.inl ⟨[],[],rfl,hk,λx hx=>Z4n,Z5R w B ty _,by simp[GH.drop,UT,hS,hR,Value.ownBlock],λi ck hi=>by simp[flat]at hi⟩⟩
    ·rfl
   |mem l=>
    cases k'<;>simp only[leOT]at hk<;>first|(cases hk;done)|skip
    rename_i l';obtain⟨hl,hget⟩:=yr hk;obtain⟨b,vs,T,h1,h2,h3,h4,h5⟩:=hrel;refine⟨b,vs,T,by simp[GH.drop,h1],h2,h3,by rw[h4];simp[hl],λi ck hi=> ?_⟩;simp only[Z4M,Z6y,Z4w,Z5g]at hi;obtain⟨y,⟨k2,hk2,rfl⟩,rfl⟩:=hi;have hlt:i<l.length:=by rw[hl];exact(Z4v.1 hk2).1
    have hk1:l[i]?=some l[i]:=Z4u hlt;have h5i:=h5 i (l[i],.m (c.ix p) i) (by simp[hlt]);refine h5i.weak (hget i _ _ hk1 hk2) hF (λty ty' e1 e2=> ?_) (λhno x hx=>.inr ⟨p,i+1,?_,Z0,hx⟩) λty e1 e2=> ?_
    ·simp only at e1 e2;simp[GH.drop,UT,hS,hR,hk1,hk2,e1,e2]
    ·simp only at hno;simp only[UT,hS,hR,Nat.add_sub_cancel,hk1,hk2];cases k2<;>first|(cases l[i]<;>rfl)|exact absurd rfl (hno _)
    ·simp only at e1 e2;simp[GH.drop,UT,hS,hR,hk1,hk2,e1,e2]
   |clo f caps=>
    cases k'<;>simp only[leOT]at hk<;>first|(cases hk;done)|skip
    simp only[Z4x,Z59]at hk;obtain⟨rfl,rfl⟩:=hk;obtain⟨vs,h1,h2,h3⟩:=hrel;refine⟨vs,h1,h2,λi p hi=> ?_⟩;obtain⟨b,h4,h5⟩:=h3 i p hi;exact⟨b,by simp[GH.drop,h4],h5⟩
 ·intro p hp;obtain⟨k,hS,hk⟩:=EU hle hp;cases k<;>simp only[leOT]at hk<;>first|(cases hk;done)|exact hnil p hS
end
end Vm
namespace Vm
open Go
open Go.RowKit (Below)
def Yj:List Nat->St->St
 | [],_=>[]
 |i::l,s=>putS (Yj l s) i (get s i)
def y5:∀ {keep:List Nat} {s:St} {i:Nat},i∈keep->get (Yj keep s) i=get s i
 | [],s,i,hi=>Z43
 |j::l,s,i,hi=>by
  simp only[Yj];rw[Zk];split
  ·rename_i e;rw[e]
  ·rename_i e;exact y5 ((Z4H.1 hi).resolve_left e)
def wpS(P:Program) [Lg P]:Stm->St->(St->Prop)->(Nat->St->Prop)->(St->Prop)->Prop
 |.reg r,s,N,_,_=>wpR P r s N
 |.skip,s,N,_,_=>N s
 |.seq a b,s,N,X,R=>wpS P a s (λs'=>wpS P b s' N X R) X R
 | .cond c a b,s,N,X,R=>match eval s c with
   |some (.bool true)=>wpS P a s N X R
   |some (.bool false)=>wpS P b s N X R
   |_=>False
 |.block id a,s,N,X,R=>wpS P a s N (λi s'=>if i=id then N s' else X i s') R
 |.loop keep a,s,_,X,R=>∃(I:St->Prop) (μ:St->Nat),I (Yj keep s)/\∀s,I s->wpS P a s (λs'=>I (Yj keep s')/\μ (Yj keep s')<μ s) X R
 |.exit id,s,_,X,_=>X id s
 |.ret,s,_,_,R=>R s
def RelS(Kf:Nat->Prop)(fix:List Nat)(T0:Array Value)(c:Ctx)(B:Nat)(G:Nat->Prop)(w0:World)(n0:Nat)(s:St)(a:Act)(w:World)(S:SS):Prop:=
 (∃h,RelG c B G s a w h (Y0 c S)/\h.K=Kf)/\JK c s S/\Frm Kf (λt=>t∈fix) T0 B w0 a w/\a.tmps.size=n0/\a.defers=[]
section
variable {c:Ctx}{fc:FC}{B:Nat}{G:Nat->Prop}{s t u:St}{a a':Act}{w w' w0:World}{n0:Nat}{S R:SS}{Kf:Nat->Prop}{fix:List Nat}{T0:Array Value}
def RelS.weak(hr:RelS Kf fix T0 c B G w0 n0 s a w S)(hle:leSS c.P S R=true):RelS Kf fix T0 c B G w0 n0 s a w R:=by
 obtain⟨⟨h,h1,hK⟩,h2,h3⟩:=hr;obtain⟨h4,h5⟩:=Tg h1 h2 hle;exact⟨⟨_,h4,hK⟩,h5,h3⟩
def LF{P:Program}{S:SS}{M:Option SS}(h:leO P (some S) M=true):∃R,M=some R/\leSS P S R=true:=by
 cases M with
 |none=>cases h
 |some R=>exact⟨R,rfl,h⟩
def RelS.only(hr:RelS Kf fix T0 c B G w0 n0 s a w S):RelS Kf fix T0 c B G w0 n0 (Yj (S.map λy=>c.ix y.1) s) a w S:=by
 obtain⟨⟨h,h1,hK⟩,h2,h3⟩:=hr;have hag:∀x∈S,get (Yj (S.map λy=>c.ix y.1) s) (c.ix x.1)=get s (c.ix x.1):=λx hx=>y5 (Z4I.2 ⟨x,hx,rfl⟩);exact⟨⟨h,h1.agree hag,hK⟩,λp hp=>by rw[hag _ (U6 hp)];exact h2 p hp,h3⟩
def R7{p:Nat->Prop}:∀(n:Nat),p n->∃n,p n/\∀m,p m->n<=m:=by
 intro n
 induction n using Nat.strongRecOn with
 |_ n ih=>
  grind
open Classical in
noncomputable def least (p:Nat->Prop):Nat:=if h:∃n,p n/\∀m,p m->n<=m then Classical.choose h else 0
def CC{p:Nat->Prop}(h:∃n,p n):p (least p):=by
 obtain⟨n,hn⟩:=h;have h':=R7 n hn;unfold least
 grind
def Ht{p:Nat->Prop}{n:Nat}(hn:p n):least p<=n:=by
 have h':=R7 n hn;unfold least
 grind
def Post(Kf:Nat->Prop)(fix:List Nat)(T0:Array Value)(c:Ctx)(B:Nat)(G:Nat->Prop)(w0:World)(n0:Nat)(fl:Flow)(N:St->Prop)(X:Nat->St->Prop)(R:St->Prop)(e:Exit)(a:Act)(w:World):Prop:=
 match e with
 |.normal=>∃s S,fl.n=some S/\N s/\RelS Kf fix T0 c B G w0 n0 s a w S
 |.exit id=>∃s S,(id,S)∈fl.x/\X id s/\RelS Kf fix T0 c B G w0 n0 s a w S
 |.ret=>∃s S,S∈fl.r/\R s/\RelS Kf fix T0 c B G w0 n0 s a w S
 |_=>False
def Post.mono{fl fl':Flow}{N N':St->Prop}{X X':Nat->St->Prop}{Rt:St->Prop}{e:Exit}{a:Act}{w:World}(h:Post Kf fix T0 c B G w0 n0 fl N X Rt e a w)
  (hn:∀s S,fl.n=some S->N s->RelS Kf fix T0 c B G w0 n0 s a w S->∃s S,fl'.n=some S/\N' s/\RelS Kf fix T0 c B G w0 n0 s a w S)
  (hx:∀id s S,(id,S)∈fl.x->X id s->RelS Kf fix T0 c B G w0 n0 s a w S->∃s S,(id,S)∈fl'.x/\X' id s/\RelS Kf fix T0 c B G w0 n0 s a w S)
  (hr:∀S,S∈fl.r->S∈fl'.r):Post Kf fix T0 c B G w0 n0 fl' N' X' Rt e a w:=by
 cases e with
 |normal=>obtain⟨s,S,h1,h2,h3⟩:=h;exact hn s S h1 h2 h3
 |exit id=>obtain⟨s,S,h1,h2,h3⟩:=h;exact hx id s S h1 h2 h3
 |ret=>obtain⟨s,S,h1,h2,h3⟩:=h;exact⟨s,S,hr S h1,h2,h3⟩
 |goto l=>exact h.elim
 |panic ch=>exact h.elim
 |outgrown=>exact h.elim
def RelS.sim(hr:RelS Kf fix T0 c B G w0 n0 s a w S)(d:Nat):RelS Kf fix T0 c B G w0 n0 s a {w with drawn:=d} S:=by
 obtain⟨⟨h,h1,hK⟩,h2,h3,h4⟩:=hr;exact⟨⟨h,h1.drew d,hK⟩,h2,h3.trans ⟨⟨rfl,rfl,rfl,Z4A _,λ_ _=>rfl⟩,λ_ _=>rfl,λ_ _=>rfl⟩,h4⟩
def Sg [Lg fc.P](hm:fc.P.follows .mixedOrders=true)(hinj:∀p∈fc.keep,∀q∈fc.keep,fc.ix p=fc.ix q->p=q)(hP:c.P=fc.P)(hix:c.ix=fc.ix)(hfx:fix=fc.fix)(hn:fc.n<=n0):
  ∀(code:Code) {S:SS} {st:Stm} {fl:Flow} {s:St} {a:Act} {w:World} {N:St->Prop} {X:Nat->St->Prop} {Rt:St->Prop},Th (Lg.fit fc.P) code->comp fc code S=some (st,fl)->RelS Kf fix T0 c B G w0 n0 s a w S->wpS fc.P st s N X Rt->
   Lg.wp fc.P code (Post Kf fix T0 c B G w0 n0 fl N X Rt) a w:=by
 intro code
 induction code with
 |skip=>
  intro S st fl s a w N X Rt ha hc hr hw;simp only[comp,Z4s,Z4C]at hc;obtain⟨rfl,rfl⟩:=hc;exact Lg.wp_skip ⟨s,S,rfl,hw,hr⟩
 |label l=>
  intro S st fl s a w N X Rt ha hc hr hw;simp only[comp,Z4s,Z4C]at hc;obtain⟨rfl,rfl⟩:=hc;exact Lg.wp_label ⟨s,S,rfl,hw,hr⟩
 |region id ops draw=>
  intro S st fl s a w N X Rt ha hc hr hw;simp only[comp,Z4w,Z4C]at hc;obtain⟨⟨r,S'⟩,hreg,rfl,rfl⟩:=hc;obtain⟨⟨h,h1,hK⟩,h2,h3,h4,h5⟩:=hr;refine Z0t ha (λ_=>hm) hreg hinj hP hix h1 h2 (by rw[h4];exact hn) hw λa' w' s' h' hk hrel hnil hKk hb hs hd=> ?_;rw[hK,<-hfx]at hb;exact⟨s',S',rfl,hk,⟨h',hrel,hKk.trans hK⟩,hnil,h3.trans hb,hs.trans h4,hd.trans h5⟩
 |seq x y ihx ihy=>
  intro S st fl s a w N X Rt ha hc hr hw;simp only[comp,Z4t]at hc;obtain⟨⟨sx,fx⟩,hx,hc⟩:=hc;simp only at hc;split at hc
  ·rename_i hnone;simp only[Z4s,Z4C]at hc;obtain⟨rfl,rfl⟩:=hc;refine Lg.wp_seq (Lg.wp_mono (ihx (N:=N) (X:=X) (Rt:=Rt) ha.1 hx hr hw) λe a' w' hp=> ?_);cases e with
   |normal=>obtain⟨s',S',h1,_⟩:=hp;rw[hnone]at h1;cases h1
   |_=>exact hp
  ·rename_i R hsome;simp only[Z4w,Z4C]at hc;obtain⟨⟨sy,fy⟩,hy,rfl,rfl⟩:=hc;refine Lg.wp_seq (Lg.wp_mono (ihx (N:=λs'=>wpS fc.P sy s' N X Rt) (X:=X) (Rt:=Rt) ha.1 hx hr hw) λe a' w' hp=> ?_);cases e with
   |normal=>
    obtain⟨s',S',h1,h2,h3⟩:=hp;rw[hsome]at h1;cases h1;exact Lg.wp_mono (ihy ha.2 hy h3 h2) λe a' w' hp=>hp.mono (λs S h1 h2 h3=>⟨s,S,h1,h2,h3⟩) (λid s S h1 h2 h3=>⟨s,S,Z4R.2 (.inr h1),h2,h3⟩) λS hS=>Z4R.2 (.inr hS)
   |exit id=>obtain⟨s',S',h1,h2⟩:=hp;exact⟨s',S',Z4R.2 (.inl h1),h2⟩
   |ret=>obtain⟨s',S',h1,h2⟩:=hp;exact⟨s',S',Z4R.2 (.inl h1),h2⟩
   |_=>exact hp.elim
 |exit id=>
  intro S st fl s a w N X Rt ha hc hr hw;simp only[comp,Z4s,Z4C]at hc;obtain⟨rfl,rfl⟩:=hc;exact Lg.wp_exit ⟨s,S,Z1,hw,hr⟩
 |ret=>
  intro S st fl s a w N X Rt ha hc hr hw;simp only[comp,Z4s,Z4C]at hc;obtain⟨rfl,rfl⟩:=hc;exact Lg.wp_ret ⟨s,S,Z1,hw,hr⟩
 |scope x ih=>
  intro S st fl s a w N X Rt ha hc hr hw;refine Lg.wp_scope (Lg.wp_mono (ih ha (by simpa only[comp]using hc) hr hw) λe a' w' hp=> ?_);cases e<;>exact hp
 |cond cnd x y ihx ihy=>
  intro S st fl s a w N X Rt ha hc hr hw;cases cnd with
  |tmp tc=>
   simp only[comp]at hc;split at hc
   ·rename_i hfz;simp only[Z4t]at hc;obtain⟨⟨sx,fx⟩,hx,⟨sy,fy⟩,hy,hc⟩:=hc;simp only at hc;split at hc
    ·rename_i hle;simp only[Z4x]at hle;simp only[Z4s,Z4C]at hc;obtain⟨rfl,rfl⟩:=hc;obtain⟨⟨h,h1,hKk⟩,hrest⟩:=hr;obtain⟨v,hv,hrel⟩:=h1.at_ tc (by rw[Zh,hfz];exact Zb s c) (by rw[Zh,hfz];rfl);rw[Zh,hfz]at hrel;obtain⟨xv,hxv,hxr⟩:=hrel;rw[hix]at hxv;have hav:=Act.eval_tmp a tc v hv
     have weak:∀ {f:Flow} {fl:Flow} {e:Exit} {a':Act} {w':World},leO fc.P f.n fl.n=true->(∀z∈f.x,z∈fl.x)->(∀z∈f.r,z∈fl.r)->Post Kf fix T0 c B G w0 n0 f N X Rt e a' w'->Post Kf fix T0 c B G w0 n0 fl N X Rt e a' w':=by
      intro f fl e a' w' hl hx hr hp;refine hp.mono (λs S h1 h2 h3=> ?_) (λid s S h1 h2 h3=>⟨s,S,hx _ h1,h2,h3⟩) hr;rw[h1]at hl;obtain⟨R,hR,hle⟩:=LF hl;exact⟨s,R,hR,h2,h3.weak (by rw[hP];exact hle)⟩
     simp only[wpS]at hw;split at hw
     ·rename_i hb;rw[hxv]at hb;cases hb;have hvb:v=.bool true:=by cases hxr;rfl
      refine Lg.wp_cond_true (by rw[hav,hvb]) (Lg.wp_mono (ihx ha.1 hx ⟨⟨h,h1,hKk⟩,hrest⟩ hw) λe a' w' hp=> ?_);exact weak hle.1 (λz hz=>Z4R.2 (.inl hz)) (λz hz=>Z4R.2 (.inl hz)) hp
     ·rename_i hb;rw[hxv]at hb;cases hb;have hvb:v=.bool false:=by cases hxr;rfl
      refine Lg.wp_cond_false (by rw[hav,hvb]) (Lg.wp_mono (ihy ha.2 hy ⟨⟨h,h1,hKk⟩,hrest⟩ hw) λe a' w' hp=> ?_);exact weak hle.2 (λz hz=>Z4R.2 (.inr hz)) (λz hz=>Z4R.2 (.inr hz)) hp
     ·exact hw.elim
    ·cases hc
   ·cases hc
  |_=>simp[comp]at hc
 |block id x ih=>
  intro S st fl s a w N X Rt ha hc hr hw;simp only[comp,Z4t]at hc;obtain⟨⟨sx,fx⟩,hx,hc⟩:=hc;simp only at hc;split at hc
  ·rename_i hle;simp only[Z4x,Z4D,Z4L,Z7B,ne_eq]at hle;obtain⟨hle1,hle2⟩:=hle;simp only[Z4s,Z4C]at hc;obtain⟨rfl,rfl⟩:=hc;generalize HJ fc.P fx.n (jO fc.P ((fx.x.filter λy=>y.1==id).map (·.2)))=M at hle1 hle2⊢;refine Lg.wp_block (Lg.wp_mono (ih (N:=N) (X:=λi s'=>if i=id then N s' else X i s') (Rt:=Rt) ha hx hr hw) λe a' w' hp=> ?_);cases e with
   |normal=>
    obtain⟨s',S',h1,h2,h3⟩:=hp;rw[h1]at hle1;obtain⟨R,hR,hl⟩:=LF hle1;exact⟨s',R,hR,h2,h3.weak (by rw[hP];exact hl)⟩
   |exit id'=>
    obtain⟨s',S',h1,h2,h3⟩:=hp;simp only[Exit.inBlock];by_cases hid:id'=id
    ·subst hid;simp only[Z5b]at h2⊢;obtain⟨R,hR,hl⟩:=LF ((hle2 _ h1).resolve_left Z1);exact⟨s',R,hR,h2,h3.weak (by rw[hP];exact hl)⟩
    ·simp only[if_neg hid]at h2⊢;exact⟨s',S',Z7h.2 ⟨h1,by simpa using hid⟩,h2,h3⟩
   |ret=>exact hp
   |_=>exact hp.elim
  ·cases hc
 |loop x ih=>
  intro S st fl s a w N X Rt ha hc hr hw;simp only[comp,Z4t]at hc;obtain⟨H,hH,⟨sx,fx⟩,hx,hc⟩:=hc;simp only at hc;split at hc
  ·rename_i hle;simp only[Z4x]at hle;simp only[Z4s,Z4C]at hc;obtain⟨rfl,rfl⟩:=hc;obtain⟨I,μ,hI0,hround⟩:=hw;have hixs:(H.map λy=>fc.ix y.1)=H.map λy=>c.ix y.1:=by rw[hix]
   rw[hixs]at hI0 hround;refine Lg.wp_loop (λa w=>∃s,I s/\RelS Kf fix T0 c B G w0 n0 s a w H) (λa w=>least λn=>∃s,μ s=n/\I s/\RelS Kf fix T0 c B G w0 n0 s a w H) ⟨_,hI0,(hr.weak (by rw[hP];exact hle.1)).only⟩ λa w hI=> ?_;obtain⟨s0,hs0,hr0⟩:=hI;obtain⟨s1,hμ,hs1,hr1⟩:=CC (p:=λn=>∃s,μ s=n/\I s/\RelS Kf fix T0 c B G w0 n0 s a w H) ⟨μ s0,s0,rfl,hs0,hr0⟩;refine Lg.wp_mono (ih ha hx hr1 (hround s1 hs1)) λe a' w' hp=> ?_;cases e with
   |normal=>
    obtain⟨s',S',h1,⟨h2,h4⟩,h3⟩:=hp;have hl:=hle.2;rw[h1]at hl;have hr':=(h3.weak (show leSS c.P S' H=true by rw[hP];exact hl)).only;refine⟨⟨_,h2,hr'⟩,?_⟩;rw[<-hμ];exact Nat.lt_of_le_of_lt (Ht (p:=λn=>∃s,μ s=n/\I s/\RelS Kf fix T0 c B G w0 n0 s a' w' H) ⟨_,rfl,h2,hr'⟩) h4
   |exit id=>exact hp
   |ret=>exact hp
   |_=>exact hp.elim
  ·cases hc
 |rangeFunc f params asg body ih1 ih2=>intro S st fl s a w N X Rt ha hc;simp[comp]at hc
 |goto l=>intro S st fl s a w N X Rt ha hc;simp[comp]at hc
 |refuse why=>intro S st fl s a w N X Rt ha hc;simp[comp]at hc
end
end Vm
namespace Vm
open Go
open Go.RowKit (Below)
def Jl(s:St):Nat×RK->Option V
 |(i,.v)=>match get s i with|.v x=>some x|_=>none
 |(i,.ag n)=>match get s i with|.m cs=>if n<=cs.length then some (.agg (cs.take n))else none|_=>none
 |(i,.one)=>match get s i with|.m (x::_)=>some x|_=>none
def TO(s:St):List (Nat×RK)->Option (List V)
 | []=>some []
 |x::l=>(Jl s x).bind λy=>(TO s l).map (y:: ·)
def resV(s:St)(l:List (Nat×RK)):Option V:=
 match l with
 | [x]=>Jl s x
 |l=>(TO s l).map .tup
theorem FO:∀ {l:List Nat} {p:Nat},p∈l->l[pos l p]?=some p
 | [],p,h=>Z4q
 |q::l,p,h=>by
  simp only[pos];by_cases hq:q=p
  ·subst hq;simp
  ·rw[if_neg hq];have:p∈l:=(Z4H.1 h).resolve_left λe=>hq e.symm;simpa using FO this
def KU:∀ {l r:List Nat} {t:Nat},t∈l->pos (l++r) t=pos l t
 | [],r,t,h=>Z4q
 |q::l,r,t,h=>by
  simp only[Z5M,pos];by_cases hq:q=t
  ·simp_all
  ·rw[if_neg hq,if_neg hq,KU ((Z4H.1 h).resolve_left λe=>hq e.symm)]
def Aa{l:List Nat}{p q:Nat}(hp:p∈l)(hq:q∈l)(h:pos l p=pos l q):p=q:=by
 grind [FO]
section
variable {c:Ctx}{B:Nat}{G:Nat->Prop}{s t u:St}{a a':Act}{w w' w0:World}{h:GH}{n0:Nat}{S R:SS}
def rkOf(P:Program)(ix:Nat->Nat):ResultVar->Nat×RK
 |.tmp t=>(ix t,.v)
 |.cell a t=>(ix a,if Zn P t then .ag (P.cellsOf t)else .one)
def KV(tmps:Array Value):ResultVar->Sem Value
 |.tmp t=>pure (tmps.getD t undef)
 |.cell p t=>do loadVar t (<-asAddr (tmps.getD p undef))
def BA(P:Program)(ix:Nat->Nat)(f:Func):FU P ix f=f.results.toList.map (rkOf P ix):=by
 rfl
def FV(hrel:RelG c B G s a w h (Y0 c S))(hnil:JK c s S){D:Nat->Prop}(hF:∀b,h.F b->D b){r:ResultVar}(hbl0:∀i b,h.bl (VW r) (i+1)=some b->D b)(hok:yV c.P S r=true){x:V}(hx:Jl s (rkOf c.P c.ix r)=some x):
  ∃v,(KV a.tmps r).run c.P w=.ok v w/\Rd w D x v:=by
 cases r with
 |tmp tt=>
  simp only[rkOf,KV]at hx⊢;simp only[yV]at hok;cases hS:S.at tt with
  |none=>simp_all
  |some k=>
   obtain⟨v,hv,hk⟩:=hrel.at_ tt (by simp_all[Zh,Zb]) (by rw[Zh,hS];cases k<;>rfl);rw[Zh,hS]at hk;have hvd:a.tmps.getD tt undef=v:=by simp[Z4y,hv]
   refine⟨v,by simp[hvd],?_⟩;simp only[Jl]at hx
   have hget:get s (c.ix tt)=.v x:=by
    cases hg:get s (c.ix tt)<;>rw[hg]at hx<;>simp at hx
    rw[hx]
   cases k with
   |fz=>
    obtain⟨y,h1,h2⟩:=hk;simp only[eval,hget,Z4s]at h1;subst h1;exact h2.mono λb hb=>hF b (GH.ext_nil hb)
   |own ty=>
    obtain⟨y,h1,h2⟩:=hk;simp only[eval,hget,Z4s]at h1;subst h1;exact h2.rd hF λb hb=>hbl0 0 b hb
   |nil=>
    have hv0:v=.slice none 0 0:=hk;subst hv0;have:=hnil tt hS;rw[hget]at this;simp only[SV.v.injEq]at this;subst this;exact .nil _ _ (Z5H _)
   |mem l=>simp_all
   |clo f l=>simp_all
 |cell p ty=>
  simp only[rkOf,KV]at hx⊢;simp only[yV]at hok;cases hS:S.at p with
  |none=>simp_all
  |some k=>
   cases k with
   |mem l=>
    rw[hS]at hok;simp only[Z4x,Z4D,Z7B,ne_eq]at hok;obtain⟨⟨hT,hdead⟩,hlen⟩:=hok;obtain⟨v,hv,hk⟩:=hrel.at_ p (by simp_all[Zh,Zb]) (by rw[Zh,hS];rfl);rw[Zh,hS]at hk;obtain⟨b,vs,T,h1,rfl,h3,h4⟩:=hk;have hvd:a.tmps.getD p undef=.pointer (some ⟨b,0,none⟩):=by simp[Z4y,hv]
    rw[hvd];have hsz:vs.size=l.length:=by have:=h4.1;simp_all
    have hcell:∀i,i<l.length->∃y,eval s (.m (c.ix p) i)=some y/\y.one=true/\Rd w D y (vs.getD i undef):=by
     intro i hi;have:=h4.2 i (l[i],.m (c.ix p) i) (by simp[hi]);exact this.rd (hdead l[i] (Z4J hi)) hF λty _ b hb=>hbl0 i b hb
    obtain⟨d,info,hd,hinf,hs,hagg⟩:=WI hT;cases hag:Zn c.P ty with
    |true=>
     rw[hag]at hlen hx;simp only[Z5b,Z59]at hlen;simp only[Z5b,Jl]at hx;split at hx
     ·rename_i cs hget;split at hx
      ·rename_i hle;simp only[Z4s]at hx;subst hx
       have hl:=run_loadCells_list (P:=c.P) w ⟨b,0,none⟩ vs.toList (λj u hj=>by
        rw[Z6q,Z5g,Z4Q w b j vs T (0,0) h3];grind)
       simp only[Z6I]at hl;refine⟨.agg vs,?_,?_⟩
       ·simp_all[asAddr,Z54,Z6E,Z51,loadVar,YI]
       ·have hone:∀(i:Nat) (y:V),(cs.take (c.P.cellsOf ty))[i]?=some y->y.one=true/\Rd w D y (vs.getD i undef):=by
         intro i y hi;rw[Z55]at hi;split at hi
         ·rename_i hlt;obtain⟨z,hz,hz1,hz2⟩:=hcell i Z0;simp only[eval,hget,hi,Z4E]at hz;obtain⟨rfl,_⟩:=X2 hz;simp_all
         ·cases hi
        exact .agg _ vs Z3M (λy hy=>by
         grind [List.getElem?_of_mem]) λi y hi=>(hone i y hi).2
      ·cases hx
     ·cases hx
    |false=>
     rw[hag]at hlen hx;simp only[Z4G,Z5h,Z4N]at hlen;simp only[Z4G,Z5h,Jl]at hx;split at hx
     ·rename_i y0 r hget;simp only[Z4s]at hx;subst hx;obtain⟨z,hz,hz1,hz2⟩:=hcell 0 hlen;simp only[eval,hget,Z6e,Z4E]at hz;obtain⟨rfl,_⟩:=X2 hz;refine⟨vs.getD 0 undef,?_,hz2⟩
      have hc:w.cell? ⟨b,0,none⟩=some (vs.getD 0 undef):=by
       rw[Z4Q w b 0 vs T (0,0) h3];have:0<vs.size:=Z0;simp_all
      simp_all[asAddr,Z54,Z6E,Z51,loadVar]
     ·cases hx
   |_=>simp_all
def BB(hrel:RelG c B G s a w h (Y0 c S))(hnil:JK c s S){D:Nat->Prop}(hF:∀b,h.F b->D b):∀ {l:List ResultVar},(∀r∈l,yV c.P S r=true/\∀i b,h.bl (VW r) (i+1)=some b->D b)->∀ {xs:List V},TO s (l.map (rkOf c.P c.ix))=some xs->
  ∃vs:List Value,(l.mapM (KV a.tmps)).run c.P w=.ok vs w/\vs.length=xs.length/\
   ∀(i:Nat) (x:V),xs[i]?=some x->∃v,vs[i]?=some v/\Rd w D x v
 | [],_,xs,hx=>by
   simp only[Z6a,TO,Z4s]at hx;subst hx;exact⟨[],Z1,rfl,λi x hi=>Z43⟩
 |r::l,hok,xs,hx=>by
  simp only[Z4T,TO,Z4t,Z4w]at hx;obtain⟨y,hy,ys,hys,rfl⟩:=hx;obtain⟨v,hv,hvr⟩:=FV hrel hnil hF (hok r Z1).2 (hok r Z1).1 hy;obtain⟨vs,hvs,hl,hat⟩:=BB hrel hnil hF (λq hq=>hok q (by simp[hq])) hys;refine⟨v::vs,?_,by simp[hl],λi x hi=> ?_⟩
  ·simp_all
  ·cases i with
   |zero=>simp at hi;subst hi;exact⟨v,rfl,hvr⟩
   |succ i=>simpa using hat i x Z3L
def WM(hrel:RelG c B G s a w h (Y0 c S))(hnil:JK c s S){D:Nat->Prop}(hF:∀b,h.F b->D b){f:Func}(hok':∀r∈f.results.toList,yV c.P S r=true/\∀i b,h.bl (VW r) (i+1)=some b->D b){x:V}(hx:resV s (FU c.P c.ix f)=some x):
  ∃v,(results f a.tmps).run c.P w=.ok v w/\Rd w D x v:=by
 have hrun:∀vs:List Value,(f.results.toList.mapM (KV a.tmps)).run c.P w=.ok vs w->
   (results f a.tmps).run c.P w=.ok (if h:vs.toArray.size=1 then vs.toArray[0]else .tuple vs.toArray) w:=by
  intro vs hvs
  have hf:results f a.tmps=(do let vs<-f.results.mapM (KV a.tmps);pure (if h:vs.size=1 then vs[0]else Value.tuple vs)):=by
   unfold results;refine Z5J (λg:ResultVar->Sem Value=>(do let vs<-f.results.mapM g;pure (if h:vs.size=1 then vs[0]else Value.tuple vs))) ?_;funext r;cases r<;>rfl
  rw[hf,Z5Y];simp only[Z54,Z78];rw[hvs];simp
 rw[BA]at hx;generalize hl:f.results.toList=l at hx hok' hrun
 match l,hx with
 | [r],hx=>
   simp only[Z4T,Z6a,resV]at hx;obtain⟨v,hv,hvr⟩:=FV hrel hnil hF (hok' r Z1).2 (hok' r Z1).1 hx;refine⟨v,?_,hvr⟩;have:=hrun [v] (by simp only[Z6N,Z7z,Z54];rw[hv];simp);simpa using this
 | [],hx=>
   simp only[Z6a,resV,TO,Z4K,Z4s]at hx;subst hx;have:=hrun [] Z1;exact⟨_,by simpa using this,.tup _ _ rfl λi c hi=>Z43⟩
 |r::r'::l,hx=>
  simp only[Z4T,resV]at hx;simp only[Z4w]at hx;obtain⟨xs,hxs,rfl⟩:=hx;obtain⟨vs,hvs,hlen,hat⟩:=BB hrel hnil hF hok' (xs:=xs) (by simpa only[Z4T]using hxs)
  have hxl:xs.length=l.length+2:=by
   simp only[TO,Z4t,Z4w]at hxs;obtain⟨y,_,ys,⟨y',_,ys',h3,rfl⟩,rfl⟩:=hxs
   have:∀ {l:List (Nat×RK)} {xs:List V},TO s l=some xs->xs.length=l.length:=by
    intro l
    induction l with
    |nil=>intro xs h;simp only[TO,Z4s]at h;subst h;rfl
    |cons a l ih=>
     intro xs h;simp only[TO,Z4t,Z4w]at h;obtain⟨_,_,ys,h2,rfl⟩:=h;simp[ih h2]
   have:=this h3;simp at this;simp[this]
  have hr2:=hrun vs hvs;have hne:¬vs.toArray.size=1:=Z3N;rw[dif_neg hne]at hr2;refine⟨_,hr2,.tup _ _ (by simp[hlen]) λi x hi=> ?_⟩;obtain⟨v,hv,hvr⟩:=hat i x hi;have:vs.toArray.getD i undef=v:=by simp[Z4y,hv]
  rw[this];exact hvr
end
def argS(k:OT)(x:V):SV:=
 match k,x with
 |.mem _,.agg cs=>.m cs
 |_,x=>.v x
def JL:List OT->List V->St
 |k::ks,x::xs=>argS k x::JL ks xs
 |_,_=>[]
def zy:∀ {ks:List OT} {xs:List V} {i:Nat} {k:OT} {x:V},ks[i]?=some k->xs[i]?=some x->get (JL ks xs) i=argS k x
 | [],_,_,_,_,hk,_=>by simp at hk
 |_::_,[],_,_,_,_,hx=>Z4n
 |k::ks,x::xs,0,k',x',hk,hx=>by simp at hk hx;subst hk hx;rfl
 |k::ks,x::xs,i+1,k',x',hk,hx=>by
  have:=zy (ks:=ks) (xs:=xs) (i:=i) (by simpa using hk) (by simpa using hx);simpa[JL,get]using this
def finV(s:St)(i:Nat)(k:OT):Option V:=
 match k with
 |.fz=>some (.bool false)
 | .own _=>match get s i with
   |.v x=>some x
   |_=>none
 | .mem l=>match get s i with
   |.m cs=>if cs.length=l.length then some (.agg cs)else none
   |_=>none
 |_=>none
def Qw(s:St):Nat->List OT->Option (List V)
 |_,[]=>some []
 |i,k::ks=>(finV s i k).bind λx=>(Qw s (i+1) ks).map (x:: ·)
def Kn:∀ {ks:List OT} {i:Nat} {s:St} {ys:List V},Qw s i ks=some ys->ys.length=ks.length/\∀(j:Nat) (k:OT) (y:V),ks[j]?=some k->ys[j]?=some y->finV s (i+j) k=some y
 | [],i,s,ys,hf=>by
   simp only[Qw,Z4s]at hf;subst hf;exact⟨rfl,λj k y hk=>by simp at hk⟩
 |k::ks,i,s,ys,hf=>by
  simp only[Qw,Z4t,Z4w]at hf;obtain⟨y,hy,ys',hys,rfl⟩:=hf;obtain⟨h1,h2⟩:=Kn hys;refine⟨by simp[h1],λj k' y' hk hy'=> ?_⟩;cases j with
  |zero=>simp at hk hy';subst hk hy';exact hy
  |succ j=>
   have:=h2 j k' y' (by simpa using hk) (by simpa using hy');rw[show i+(j+1)=i+1+j by omega];exact this
def zn(ks:List OT)(t:Nat):SS.at (ks.zipIdx.map λx=>(x.2,x.1)) t=ks[t]? :=by
 have:∀(ks:List OT) (n t:Nat),SS.at ((ks.zipIdx n).map λx=>(x.2,x.1)) t=if n<=t then ks[t-n]? else none:=by
  intro ks
  induction ks with
  |nil=>simp_all[SS.at]
  |cons k ks ih=>
   intro n t;simp only[Z8c,Z4T,SS.at,ih]
   grind
 have:=this ks 0 t;simp_all
def nz:Option OT->Option OT
 |some .fz=>none
 |x=>x
def CJ(ks:List OT)(t:Nat):(Vc ks).at t=nz ks[t]? :=by
 have:∀(ks:List OT) (n t:Nat),SS.at ((ks.zipIdx n).filterMap λx=>match x.1 with|.fz=>none|k=>some (x.2,k)) t=if n<=t then nz ks[t-n]? else none:=by
  intro ks
  induction ks with
  |nil=>intro n t;simp[SS.at,nz]
  |cons k ks ih=>
   intro n t
   have hrest:n≠t->(if n+1<=t then nz ks[t- (n+1)]? else none)=if n<=t then nz (k::ks)[t-n]? else none:=by
    intro h1;by_cases h2:n<=t
    ·have h3:n+1<=t:=Z0;rw[if_pos h2,if_pos h3,show t-n=(t- (n+1))+1 by omega];simp
    ·have h3:¬n+1<=t:=Z0;rw[if_neg h2,if_neg h3]
   simp only[Z8c,Z68];by_cases h1:n=t
   ·subst h1;have h3:¬n+1<=n:=Z0;cases k<;>simp[SS.at,ih,nz,h3]
   ·rw[<-hrest h1];cases k<;>simp only[SS.at,ih,if_neg h1]
 have h:=this ks 0 t;simp only[Z5H,Z5b,Nat.sub_zero]at h;exact h
theorem B4{P:Program} [Lg P]{f:FuncId}{fn:Func}{cf:Fn}{fresh:FuncId->Bool}{sig:FuncId->Option (List OT)}{ks:List OT}{fin:SS} [hfit:FitF P f](hf:P.funcs[f]?=some fn)(hm:P.follows .mixedOrders=true)(hc:Zf P fresh sig ks fin fn=some cf)
  {xs:List V} {Rt:St->Prop} (hw:wpS P cf.body (JL ks xs) Rt (λ_ _=>False) Rt) {B:Nat} {w:World} {h:GH} {vs:Array Value} (hok:Ok B h.F w h) (hA:RelA P B w h ks xs vs) {Q:Ending->World->Prop}
  (hQ:∀(c:Ctx) (s:St) (S:SS) (a:Act) (w':World) (h':GH),c.P=P->(∀t,t<ks.length->c.ix t=t)->(∀t∈cf.keep,c.ix t=pos cf.keep t)->cf.res=FU P c.ix fn->Rt s->RelG c B h.F s a w' h' (Y0 c S)->JK c s S->h'.K=h.K->Frm h.K (λt=>t∈jj ks) vs B w a w'->yT P fn fin S=true->
   ∃v,(results fn a.tmps).run P w'=.ok v w'/\Q (.returned v) w'):Lg.calls P f vs w Q:=by
 unfold Zf at hc;simp only[Z4t]at hc;obtain⟨code,hb,⟨st,fl⟩,hcomp,hc⟩:=hc;split at hc
 ·rename_i hcond;simp only[x9,Z4x]at hcond;obtain⟨⟨⟨hn1,hr1⟩,hx1⟩,hix⟩:=hcond;simp only[Z4s]at hc;subst hc;simp only at hw;generalize hkeep:DV [] ((List.range ks.length)++Yx (λops=>Bq ops++Af ops ops.toList []) code)=keep at*;generalize hmore:DV [] ((Yx Bf code).filter λt=> !keep.contains t)=more at*
  have hixt:∀t,t<ks.length->pos (keep++more) t=t:=λt ht=>by
   have:=Z4D.1 hix t (Z6x.2 ht);simp_all
  refine Lg.calls_of_wp hf hb ?_;have hinj:∀p∈keep,∀q∈keep,pos (keep++more) p=pos (keep++more) q->p=q:=λp hp q hq he=>Aa (Z6d _ hp) (Z6d _ hq) he;obtain⟨hxl,hvl,hAi⟩:=hA
  have hfl:∀t,t∈jj ks->t<vs.size:=by
   intro t ht;simp only[jj,Vc,Z4I,Z7i]at ht;obtain⟨y,⟨x,hx,hy⟩,rfl⟩:=ht;have hlt:=(List.mem_zipIdx hx).2.1;have:y.2=y.2:=rfl
   have hy1:y.1=x.2:=by
    split at hy
    ·cases hy
    ·grind
   rw[hy1,hvl];omega
  have hrel:RelS h.K (jj ks) vs {P,ix:=pos (keep++more),own:=λ_=>false,fresh,sig,tr:=trOf fn,n:=fn.ntmps} B h.F w (vs++Array.replicate (fn.ntmps-vs.size) undef).size (JL ks xs)
    {tmps:=vs++Array.replicate (fn.ntmps-vs.size) undef,defers:=[]} w (ks.zipIdx.map λx=>(x.2,x.1)):=by
   refine⟨⟨h,⟨hok,λt _ hk=> ?_,λt hh=> ?_⟩,rfl⟩,λp hp=> ?_,⟨.refl _ _,.refl _ _,λt ht=> ?_⟩,rfl,rfl⟩
   ·rw[Zh]at hk⊢;rw[zn]at hk⊢;by_cases ht:t<ks.length
    ·rw[Z4u ht]at hk⊢;have hlt:t<xs.length:=Z0;obtain⟨tk,harg,hrel⟩:=hAi t ks[t] xs[t] (Z4u ht) (Z4u hlt);refine⟨vs.getD t undef,?_,?_⟩
     ·simp only;rw[Z6l Z0];simp[Z4y,show t<vs.size by omega]
     ·have hg:get (JL ks xs) (pos (keep++more) t)=argS ks[t] xs[t]:=by rw[hixt t ht];exact zy (Z4u ht) (Z4u hlt)
      generalize ks[t]=k at harg hg;generalize xs[t]=x at harg hg;cases k with
      |fz=>
       simp only[argK,Z4s]at harg;subst harg;obtain⟨y,h1,h2⟩:=hrel;simp only[eval,Z4s]at h1;subst h1;exact⟨x,by grind [eval,argS],h2⟩
      |own ty=>
       simp only[argK,Z4s]at harg;subst harg;obtain⟨y,h1,h2⟩:=hrel;simp only[eval,Z4s]at h1;subst h1;exact⟨x,by grind [eval,argS],h2⟩
      |mem l=>
       cases x<;>simp only[argK]at harg<;>first|(cases harg;done)|skip
       rename_i cs;split at harg
       ·rename_i hlen;simp only[Z4s]at harg;subst harg;obtain⟨b,us,T,e1,e2,e3,e4,e5⟩:=hrel;refine⟨b,us,T,e1,e2,e3,Z3M,λi ck hi=> ?_⟩;simp only[Z4M,Z6y,Z4w,Z5g]at hi;obtain⟨y,⟨k2,hk2,rfl⟩,rfl⟩:=hi;have hlt:i<cs.length:=by rw[hlen];exact(Z4v.1 hk2).1
        have hc:=e5 i (k2,.c cs[i]) Z3L;refine hc.eval λy h1 hy=> ?_;simp only[eval,Z4s]at hy;subst hy;simp only[eval,hg,argS,Z4u hlt,Z4E,oneV,h1,Z5b]
       grind
      |nil=>grind [argK]
      |clo f l=>grind [argK]
    ·rw[Z5w Z0]at hk;cases hk
   ·exact absurd (by rw[Zh];rw[zn];split<;>exact Y5 _) hh
   ·rw[zn]at hp;have hlt:p<xs.length:=by have:=(Z4v.1 hp).1;omega
    obtain⟨tk,harg,_⟩:=hAi p .nil xs[p] hp (Z4u hlt)
    grind [argK]
   ·grind
  refine Lg.wp_mono (Sg (c:= {P,ix:=pos (keep++more),own:=λ_=>false,fresh,sig,tr:=trOf fn,n:=fn.ntmps}) (fc:= {P,ix:=pos (keep++more),fresh,sig,tr:=trOf fn,fix:=jj ks,n:=fn.ntmps,keep}) hm hinj rfl rfl rfl Z3N code (hfit.all fn code hf hb) hcomp hrel hw) λe a' w' hp=> ?_
  have fin':∀ {s:St} {S:SS},yT P fn fin S=true->Rt s->RelS h.K (jj ks) vs {P,ix:=pos (keep++more),own:=λ_=>false,fresh,sig,tr:=trOf fn,n:=fn.ntmps} B h.F w (vs++Array.replicate (fn.ntmps-vs.size) undef).size s a' w' S->
    a'.defers=[]/\∀w1,Lg.sim P w' w1->∃v,(results fn a'.tmps).run P w1=.ok v w1/\Q (.returned v) w1:=by
   intro s S h1 h2 h3;refine⟨h3.2.2.2.2,λw1 hw1=> ?_⟩;rw[Lg.sim_eq hw1];replace h3:=h3.sim w1.drawn;obtain⟨⟨h',h3,h4⟩,h5,h6,h7,h8⟩:=h3;exact hQ _ s S a' _ h' rfl hixt (λt ht=>KU ht) rfl h2 h3 h5 h4 h6 h1
  cases e with
  |normal=>
   obtain⟨s,S,h1,h2,h3⟩:=hp;rw[h1]at hn1;exact fin' hn1 h2 h3
  |ret=>
   obtain⟨s,S,h1,h2,h3⟩:=hp;exact fin' (Z4D.1 hr1 S h1) h2 h3
  |exit id=>obtain⟨s,S,h1,h2,_⟩:=hp;grind
  |_=>exact hp.elim
 ·cases hc
def WS{P:Program} [Lg P]{f:FuncId}{fn:Func}{cf:Fn}{fresh:FuncId->Bool}{sig:FuncId->Option (List OT)}{ks:List OT} [FitF P f](hf:P.funcs[f]?=some fn)(hm:P.follows .mixedOrders=true)(hname:Yd P f=true)(hc:Zf P fresh sig ks (Vc ks) fn=some cf)(hap:Bz fn (Vc ks)=true)
  {xs:List V} {R:V} (hw:wpS P cf.body (JL ks xs) (λs=>∃r,resV s cf.res=some r/\∃ys,Qw s 0 ks=some ys/\R=CI r (Xd ks ys)) (λ_ _=>False) (λs=>∃r,resV s cf.res=some r/\∃ys,Qw s 0 ks=some ys/\R=CI r (Xd ks ys))):VCM P f ks xs R:=by
 refine⟨hname,λB w h vs hok hA=>B4 hf hm hc hw hok hA λc s S a w' h' hP hix _ hres ⟨r,hr,ys,hys,hR⟩ hrel hnil hK hfrm hfin=> ?_⟩;subst hP;simp only[yT,Z4x,Z4D]at hfin;obtain⟨hfin1,hle⟩:=hfin;obtain⟨hrel2,hnil2⟩:=Tg hrel hnil hle;rw[hres]at hr
 obtain⟨v,hv,hvr⟩:=WM (D:=(h'.drop (UT S (Vc ks))).F) hrel hnil (λb hb=>.inl hb) (λq hq=>by
  have h1:=hfin1 q hq;have h2:=Z4D.1 hap q hq;refine⟨h1,λi b hb=>.inr ⟨VW q,i+1,?_,Z0,hb⟩⟩;simp_all[UT,Z7X,VW]) hr
 obtain⟨hyl,hyat⟩:=Kn hys;refine⟨v,hv,v,r,ys,h'.drop (UT S (Vc ks)),rfl,hfrm.below,hfrm.same,hrel2.ok,hK,hvr,⟨hyl,λi k y hk hkz hy=> ?_⟩,hR⟩;have hlt:i<ks.length:=(Z4v.1 hk).1
 have hpk:(Vc ks).at i=some k:=by
  rw[CJ,hk];cases k<;>first|rfl|simp_all
 obtain⟨u,hu,hru⟩:=hrel2.at_ i (by simp_all[Zh,Zb]) (by rw[Zh,hpk];cases k<;>rfl);rw[Zh,hpk]at hru
 have huv:vs.getD i undef=u:=by
  have h1:=hfrm.fix i (Z4I.2 ⟨(i,k),U6 hpk,rfl⟩);rw[hu]at h1;simp[Z4y,<-h1]
 rw[huv];have hf:=hyat i k y hk hy;rw[Z5g]at hf;cases k with
 |fz=>simp_all
 |own ty=>
  simp only[finV]at hf;split at hf
  ·rename_i x hg;simp only[Z4s]at hf;subst hf;obtain⟨z,h1,h2⟩:=hru;simp only[eval,hix i hlt,hg,Z4s]at h1;subst h1;exact⟨_,rfl,x,rfl,h2⟩
  ·cases hf
 |mem l=>
  simp only[finV]at hf;split at hf
  ·rename_i cs hg;split at hf
   ·rename_i hlen;simp only[Z4s]at hf;subst hf;obtain⟨b,us,T,e1,e2,e3,e4,e5⟩:=hru;refine⟨.mem ((l.zip cs).map λy=>(y.1,.c y.2)),by simp_all[argK,Z5b],b,us,T,e1,e2,e3,Z3M,λj ck hj=> ?_⟩;simp only[Z4M,Z4w]at hj;obtain⟨⟨kk,x⟩,hj,rfl⟩:=hj;rw[Z7V]at hj;obtain⟨hj1,hj2⟩:=hj;simp only at hj1 hj2;have hc:=e5 j (kk,.m (c.ix i) j) (by simp[hj1])
    have hev:∀ {z:V},eval s (.m (c.ix i) j)=some z->z=x:=λhz=>by
     simp only[eval,hix i hlt,hg,hj2,Z4E]at hz;obtain⟨rfl,_⟩:=X2 hz;rfl
    show RelC c.P B [] w' _ _ kk (.c x) (us.getD j undef);cases kk with
    |fz=>obtain⟨z,q1,q2,q3⟩:=hc;have:=hev q1;subst this;exact⟨_,rfl,q2,q3⟩
    |own ty=>obtain⟨z,q1,q2⟩:=hc;have:=hev q1;subst this;exact⟨_,rfl,q2⟩
    |nil=>obtain⟨q1,q2⟩:=hc;have:=hev q2;subst this;exact⟨q1,rfl⟩
    |dead=>exact hc
   ·cases hf
  ·cases hf
 |nil=>simp[finV]at hf
 |clo f l=>simp[finV]at hf
def Lb:∀(xs:List V),JL (xs.map λ_=>OT.fz) xs=xs.map .v
 | []=>rfl
 |x::xs=>by simp_all[Z4T,JL,argS,Lb]
def Z8{P:Program} [Lg P]{f:FuncId}{fn:Func}{cf:Fn}{fresh:FuncId->Bool}{sig:FuncId->Option (List OT)}{ks:List OT}{fin:SS} [FitF P f](hf:P.funcs[f]?=some fn)(hm:P.follows .mixedOrders=true)(hname:Yd P f=true)(hc:Zf P fresh sig ks fin fn=some cf)
  {args:List V} {r:V} (hks:ks=args.map λ_=>.fz)
  (hw:wpS P cf.body (args.map .v) (λs=>resV s cf.res=some r) (λ_ _=>False) (λs=>resV s cf.res=some r)):VC P f false args r:=by
 refine⟨hname,λw G vs hG hvs hrd=> ?_⟩;subst hks;have hok:Ok w.heap.size G w {F:=G,bl:=λ_ _=>none,K:=λ_=>False}:=⟨Z4A _,hG,λb hb=>.inl hb,λb hb=>hb,λt i b hb=>(by cases hb),λt i u j b hb=>(by cases hb),λb hb=>hb.elim,λt i b hb=>(by cases hb),λb hb=>.inl hb⟩;refine B4 (h:= {F:=G,bl:=λ_ _=>none,K:=λ_=>False}) (B:=w.heap.size) (Rt:=λs=>resV s cf.res=some r) hf hm hc (by rw[Lb];exact hw) hok ⟨Z1,Z3M,λi k x hk hx=> ?_⟩ λc s S a w' h' hP hix _ hres hr hrel hnil hK hfrm hfin=> ?_
 ·simp only[Z4M,Z4w]at hk;obtain⟨y,_,rfl⟩:=hk;exact⟨_,rfl,x,rfl,(hrd i x hx).mono λb hb=>.inl hb⟩
 ·subst hP;simp only[yT,Z4x,Z4D]at hfin;rw[hres]at hr
  obtain⟨v,hv,hvr⟩:=WM (D:=λb=>G b\/(w.heap.size<=b/\b<w'.heap.size)) hrel hnil (λb hb=>by
   obtain h1|h1:=hrel.ok.f_or b hb
   ·grind
   ·exact .inr ⟨h1,hrel.ok.f_lt b hb⟩) (λq hq=>⟨hfin.1 q hq,λi b hb=>.inr ⟨(hrel.ok.b_lt _ _ b hb).1,(hrel.ok.b_lt _ _ b hb).2.1⟩⟩) hr
  refine⟨v,hv,v,rfl,hfrm.below,hvr.mono λb hb=> ?_⟩;simp_all
def OwnV.rd_flat{P:Program}{B:Nat}{w:World}{h:GH}{o:Option Nat}{ty:TypeId}{l:List V}{v:Value}(hv:OwnV P B w h o ty (.sl l) v)(hfl:∀c∈flat l,c.flatc=true){G':Nat->Prop}(ho:∀b,o=some b->G' b):Rd w G' (.sl l) v:=by
 obtain⟨l',xs,hl,h0,hfit,hown,hb,hrd⟩|⟨_,_,_,_,_,_,hl,_⟩:=hv
 case inr=>cases hl
 cases hl;obtain⟨hlen,hc⟩:=hown;obtain⟨rfl,hn⟩|⟨b,cap,cur,rfl,_,hh,hle,hcap,hsz,htk⟩:=hc
 ·have:l=[]:=Z5s hn;subst this;exact .nil _ _ (Z5H _)
 ·simp only[Value.ownBlock]at hb;refine .sl l b 0 cap (P.cellsOf ty) (λi=>cur.getD i undef) hle hcap (ho b hb.symm) hfit (λi hi=> ?_) λi c hi=> ?_
  ·rw[Z5g,Z4Q w b i cur ty (0,0) hh];have:i<cur.size:=Z46;simp_all
  ·obtain⟨u,hu,hr⟩:=hrd i c hi
   have hu':cur.getD i undef=u:=by
    rw[<-htk,Z55]at hu;split at hu
    ·simp_all
    ·simp at hu
   rw[hu'];exact hr.flat (hfl c (Z4B hi))
def IN{P:Program} [Lg P]{f:FuncId}{fn:Func}{cf:Fn}{fresh:FuncId->Bool}{sig:FuncId->Option (List OT)}{ks:List OT}{t:Nat}{ty:TypeId} [FitF P f](hf:P.funcs[f]?=some fn)(hm:P.follows .mixedOrders=true)(hname:Yd P f=true)(hres1:fn.results=#[.tmp t])(hc:Zf P fresh sig ks [(t,.own ty)] fn=some cf)
  {args:List V} {l:List V} (hks:ks=args.map λ_=>.fz) (hfl:∀c∈flat l,c.flatc=true)
  (hw:wpS P cf.body (args.map .v) (λs=>resV s cf.res=some (.sl l)) (λ_ _=>False) (λs=>resV s cf.res=some (.sl l))):VC P f true args (.sl l):=by
 refine⟨hname,λw G vs hG hvs hrd=> ?_⟩;subst hks;have hok:Ok w.heap.size G w {F:=G,bl:=λ_ _=>none,K:=λ_=>False}:=⟨Z4A _,hG,λb hb=>.inl hb,λb hb=>hb,λt i b hb=>(by cases hb),λt i u j b hb=>(by cases hb),λb hb=>hb.elim,λt i b hb=>(by cases hb),λb hb=>.inl hb⟩;refine B4 (h:= {F:=G,bl:=λ_ _=>none,K:=λ_=>False}) (B:=w.heap.size) (Rt:=λs=>resV s cf.res=some (.sl l)) hf hm hc (by rw[Lb];exact hw) hok ⟨Z1,Z3M,λi k x hk hx=> ?_⟩ λc s S a w' h' hP hix _ hres hr hrel hnil hK hfrm hfin=> ?_
 ·simp only[Z4M,Z4w]at hk;obtain⟨y,_,rfl⟩:=hk;exact⟨_,rfl,x,rfl,(hrd i x hx).mono λb hb=>.inl hb⟩
 ·subst hP;simp only[yT,Z4x,Z4D]at hfin;obtain⟨hrel2,hnil2⟩:=Tg hrel hnil hfin.2
  have hat:(Y0 c [(t,OT.own ty)]).at t=([],.own ty (.s (c.ix t))):=by
   rw[Zh];simp[SS.at,Kj]
  obtain⟨u,hu,hk⟩:=hrel2.at_ t (by simp_all[Zb]) (by rw[hat];rfl);rw[hat]at hk;obtain⟨X,hX,hown⟩:=hk;rw[hres,BA,hres1]at hr;simp only[Z4T,Z6a,rkOf,resV,Jl]at hr
  have hXl:X=.sl l:=by
   simp only[eval]at hX;cases hg:get s (c.ix t)<;>rw[hg]at hX hr<;>simp at hX hr
   rw[<-hX,hr]
  subst hXl
  have hrd':Rd w' (λb=>(true=false/\G b)\/(w.heap.size<=b/\b<w'.heap.size)) (.sl l) u:=by
   refine OwnV.rd_flat hown hfl λb hb=>.inr ?_;obtain⟨q1,q2,_⟩:=hrel2.ok.b_lt t 1 b hb;exact⟨q1,q2⟩
  refine⟨u,?_,u,rfl,hfrm.below,hrd'⟩;simp_all[results_tmp,Z4y]
def GC{P:Program} [Lg P]{f:FuncId}{xs:List V}{r:V}(hv:VC P f false xs r):VCM P f (xs.map λ_=>.fz) xs r:=by
 obtain⟨h1,h2⟩:=hv;refine⟨h1,λB w h vs hok hA=> ?_⟩;obtain⟨hxl,hvl,hAi⟩:=hA;refine Lg.calls_mono (h2 w h.F vs hok.f_lt (by simpa using hvl) λi x hx=> ?_) λe w' he=> ?_
 ·obtain⟨tk,harg,hrel⟩:=hAi i .fz x (by simp[hx]) hx;simp only[argK,Z4s]at harg;subst harg;obtain⟨y,q1,q2⟩:=hrel;simp only[eval,Z4s]at q1;subst q1;exact q2.F
 ·obtain⟨v,rfl,hbel,hrd⟩:=he;have hsz:=hbel.size
  have hno:∀(xs:List V),Xd (xs.map λ_=>OT.fz) xs=[]:=by
   intro xs
   induction xs with
   |nil=>rfl
   |cons x xs ih=>simp only[Z4T,Xd,ih]
  refine⟨v,r,xs,{F:=λb=>h.F b\/(w.heap.size<=b/\b<w'.heap.size),bl:=λ_ _=>none,K:=h.K},rfl,hbel.mono hok.base,λb hb=>hbel.block b (hok.k_lt b hb),⟨Z4Z hok.base hsz,λb hb=> ?_,λb hb=> ?_,λb hb=>.inl hb,λt i b hb=>(by cases hb),λt i u j b hb=>(by cases hb),λb hb=>Z4F (hok.k_lt b hb) hsz,λt i b hb=>(by cases hb),λb hb=> ?_⟩,rfl,hrd.mono λb hb=> ?_,⟨Z1,λi k y hk hkz=> ?_⟩,by rw[hno];rfl⟩
  ·obtain hb|hb:=hb
   ·exact Z4F (hok.f_lt b hb) hsz
   ·exact hb.2
  ·obtain hb|hb:=hb
   ·exact .inl hb
   ·exact .inr (Z4Z hok.base hb.1)
  ·obtain hb|hb:=hb
   ·exact .inl hb
   ·exact .inr λhkb=>by have:=hok.k_lt b hkb;omega
  ·obtain⟨_,hb⟩|hb:=hb
   ·exact .inl hb
   ·exact .inr hb
  ·simp only[Z4M,Z4w]at hk;obtain⟨y,_,rfl⟩:=hk;exact absurd rfl hkz
end Vm
end
