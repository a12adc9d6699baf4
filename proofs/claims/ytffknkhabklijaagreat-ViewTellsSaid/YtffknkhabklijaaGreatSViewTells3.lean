import Derived.Test.YtffknkhabklijaaGreatSViewTells2
set_option linter.unusedSimpArgs false
set_option linter.unusedVariables false
set_option linter.defProp false
def Zl3:=@Nat.div_lt_iff_lt_mul
def Zkc:=@Nat.mod_lt
def ZjH:=@List.isEmpty_iff
def Zja:=@List.map_nil
def Zkl:=@List.getElem?_range
def Zl9:=@Nat.mul_le_mul
def ZkZ:=@List.length_replicate
def Zif:=@Go.RowKit.Below.heap_alloc
def Zir:=@List.nil_append
def ZiW:=@Go.World.ownsRow_nil
def Zii:=@Array.toList_inj
def Zkg:=@Go.MapKept.sameNow_of_keys
def Zkr:=@Go.MapKept.run_checkKey
def Zkf:=@Go.MapKept.run_findKey
def ZiI:=@Go.MapKept.run_getObj_map
def ZjW:=@List.mem_filterMap
def ZjO:=@List.map_map
def Zkd:=@bne_iff_ne
def Zju:=@Go.setRow_other
def Zip:=@List.length_singleton
def Zih:=@List.getElem?_eq_none
def Zjc:=@List.mem_or_eq_of_mem_set
def ZkP:=@List.getElem?_set_self
def ZjB:=@Bool.not_eq_false
def Zkn:=@beq_eq_false_iff_ne
def ZjY:=@Go.MapKept.run_setObj_map
def ZiG:=@List.any_eq_true
def ZkD:=@Go.Calls.mono
def ZkQ:=@List.reverse_singleton
def Zk6:=@List.singleton_append
def Zj5:=@Bool.true_or
def ZkR:=@Option.map_eq_none_iff
def ZiJ:=@List.filterMap_cons
def ZkB:=@List.getElem?_zip_eq_some
def Zje:=@List.getElem?_zipIdx
def Zj0:=@Array.getElem?_append_left
def Zke:=@Array.getElem?_append_right
def ZiT:=@List.getElem?_cons_zero
def Zk9:=@Bool.true_and
section
namespace Vm
open Go
open Go.RowKit (Below)
theorem SK{k:Nat}{l:List V}(hfit:∀x∈l,x.fits k)(hk:0<k){i:Nat}{c:V}(hi:(flat l)[i]?=some c):∃q j z,l[q]?=some z/\j<k/\i=q*k+j/\z.cells[j]?=some c:=by
 have hlt:i<l.length*k:=by rw[<-Yk hfit];exact(Zh9.1 hi).1
 have hq:i / k<l.length:=by rw[Zl3 hk];exact hlt
 have hj:=Zkc i hk;have hdm:=Nat.div_add_mod i k;refine⟨i / k,i%k,l[i / k],Zh8 hq,hj,by grind,?_⟩;rw[<-X2 hfit (Zh8 hq) (i%k) hj,show i / k*k+i%k=i from by grind];exact hi
section
variable {c:Ctx}{B:Nat}{G:Nat->Prop}{s:St}{a:Act}{w w':World}{h:GH}{g:Gam}{C:Zj}
theorem VU{P:Program}{el:TypeId}(he:elOk P el=true):∃i z,P.info? el=some i/\i.zero=some z/\z.cells.size=i.size/\0<i.size/\i.bytes<=32768/\P.cellsOf el=i.size:=by
 unfold elOk at he;split at he
 ·rename_i i hi;split at he
  ·simp_all[Zhb,ZhG,Zhw,Program.cellsOf]
  grind
 grind
theorem U2{B B':Nat}{e:TypeId}{k n:Nat}{v:Value}{xs:List Value}(hr:w.ownsRow B' e k v n xs)(hb:B<=B'):w.ownsRow B e k v n xs:=by
 refine⟨hr.1,?_⟩;obtain hn|⟨g,cap,cur,rfl,h1,r⟩:=hr.2
 ·grind
 ·exact .inr ⟨g,cap,cur,rfl,Zht hb h1,r⟩
theorem Z0S(hok:Ok B G w h)(hg:w.grownBy w' none){el:TypeId}{e:E}{sh:List Nat}{l:List V}{v:Value}{xs:List Value}(he:eval s e=some (.sl l))(hk:0<c.P.cellsOf el)(hfit:∀x∈l,x.fits (c.P.cellsOf el))
  (hown:w'.ownsRow w.heap.size el (c.P.cellsOf el) v l.length xs) (hrd:∀(i:Nat) (ck:V),(flat l)[i]?=some ck->∃u,xs[i]?=some u/\Rd w (h.ext sh) ck u)
  {dst:Option Nat} {k:TK} {es:List E} (ho:Ks c dst el e sh=some (k,es)) (tm:Nat->Option Value) (d:Nat) (hd:dst=some d):PRes c B G s w h tm d k v w':=by
 subst hd;unfold Ks at ho;have hown':=U2 hown hok.base;have hext:=ZbZ hok sh;simp only at ho;split at ho
 ·rename_i hcond;simp only[Zhb,ZjH]at hcond;obtain⟨_,rfl⟩:=hcond;simp only[Zh6,Zhf]at ho;obtain⟨rfl,rfl⟩:=ho
  have hrd':∀ {h':GH},(∀b,h.F b->h'.F b)->∀(i:Nat) (ck:V),(flat l)[i]?=some ck->∃u,xs[i]?=some u/\Rd w' h'.F ck u:=by
   intro h' hF i ck hi;obtain⟨u,hu,hr⟩:=hrd i ck hi;exact⟨u,hu,hr.F.keep (Rc hok hg hok.f_lt) hF⟩
  cases hv:v.ownBlock with
  |none=>
   refine⟨{F:=h.F,bl:=λt j=>if t=d then none else h.bl t j,K:=h.K},⟨Xk hok hg,λb hb _=>hg.block b hb (by simp),λ_ hb=>hb,λt ht _=> ?_,λt ht=> ?_,λ_ _ _ _ hm=>(by simp at hm),rfl⟩,
    ⟨Zht hok.base hg.size,λb hb=>Zhj (hok.f_lt b hb) hg.size,hok.f_or,hok.g_F,λt j b hb=> ?_,λt j u q b hb hb'=> ?_,λb hb=>Zhj (hok.k_lt b hb) hg.size,λt j b hb=> ?_,hok.k_F⟩,.sl l,he,.inl ⟨l,xs,rfl,hk,hfit,hown',by grind,hrd' λ_ hb=>hb⟩⟩
   ·simp_all
   ·simp_all
   ·simp only at hb;split at hb
    ·cases hb
    ·obtain⟨h1,h2,h3⟩:=hok.b_lt t j b hb;exact⟨h1,Zhj h2 hg.size,h3⟩
   ·simp only at hb hb';split at hb<;>split at hb'<;>first|(cases hb;done)|(cases hb';done)|exact hok.inj t j u q b hb hb'
   ·simp only at hb;split at hb
    ·cases hb
    ·exact hok.k_bl t j b hb
  |some n=>
   obtain⟨h1,h2⟩:=hown.lt n hv;obtain⟨hok',hst⟩:=Ss hok hg d 1 h1 h2;exact⟨_,hst,hok',.sl l,he,.inl ⟨l,xs,rfl,hk,hfit,hown',by grind [GH.give],hrd' λ_ hb=>hb⟩⟩
 ·simp only[Zh6,Zhf]at ho;obtain⟨rfl,rfl⟩:=ho;obtain⟨rfl,hn⟩|⟨n,cap,cur,rfl,h1,hh,hle,hcap,hsz,htk⟩:=hown.2
  ·have hl:l=[]:=Zi6 hn;subst hl
   refine⟨h,⟨Xk hok hg,λb hb _=>hg.block b hb (by simp),λ_ hb=>hb,λ_ _ _=>rfl,λ_ _=>rfl,λ_ _ _ _ hm=>(by simp at hm),rfl⟩,
    ⟨Zht hok.base hg.size,λb hb=>Zhj (hok.f_lt b hb) hg.size,hok.f_or,hok.g_F,λt j b hb=> ?_,hok.inj,λb hb=>Zhj (hok.k_lt b hb) hg.size,hok.k_bl,hok.k_F⟩,.sl [],he,.nil _ _ (Zim _)⟩
   obtain⟨h1,h2,h3⟩:=hok.b_lt t j b hb;exact⟨h1,Zhj h2 hg.size,h3⟩
  ·have h2:n<w'.heap.size:=(Zhd.1 hh).1;obtain⟨hok',hst⟩:=Z7h hok hg [d] [d] h1 h2;refine⟨_,hst,hok',.sl l,he,.sl l n 0 cap (c.P.cellsOf el) (λi=>cur.getD i undef) hle hcap (.inl (.inr rfl)) hfit (λi hi=> ?_) λi ck hi=> ?_⟩
   ·rw[Zi2,Zhs w' n i cur el (0,0) hh];have:i<cur.size:=by rw[hsz];exact Zhj hi (ZhD _ hle)
    simp_all
   ·obtain⟨u,hu,hr⟩:=hrd i ck hi
    have hu':cur.getD i undef=u:=by
     rw[<-htk,ZhN]at hu;split at hu
     ·simp_all
     ·simp at hu
    rw[hu'];refine hr.keep (Rc hok hg hext) λb hb=> ?_;obtain hb|⟨p,hp,i,hi⟩:=hb
    ·exact .inl (.inl hb)
    ·exact .inr ⟨p,hp,i,hi⟩
theorem Z6u(hr:RelG c B G s a w h g)(hC:holds s (ixC c C)){fl ag:Bool}{n:Nat}(hn:n≠0):∀ {l:List Operand} {es:List E×List Nat},opsF g C fl l=some es->∀ {zs:List V},Yb s (es.1.map (tyE ag n))=some zs->
  zs.length=l.length/\∀(i:Nat) (x:Operand),l[i]?=some x->∃z,zs[i]?=some z/\(∀l,z≠.tup l)/\(ag=true->z.cells.length=n)/\(ag=false->z.one=true)/\Rd w (h.ext es.2) z (a.eval x)
 | [],es,he,zs,hz=>by
   simp only[opsF,Zh6]at he;subst he;simp only[Zja,Yb,Zh6]at hz;subst hz;exact⟨rfl,λi x hi=>by simp at hi⟩
 |x::l,es,he,zs,hz=>by
  simp only[opsF,Zh7,Zha]at he;obtain⟨a0,ha,b,hb,rfl⟩:=he;simp only[ZhA,Yb,Zh7,Zha]at hz;obtain⟨z,hz1,zs',hz2,rfl⟩:=hz;obtain⟨h1,h2⟩:=Z6u hr hC hn hb hz2;obtain⟨k1,k2,k3,k4⟩:=SY hr hC ha hn hz1;refine⟨by simp[h1],λi y hi=> ?_⟩;cases i with
  |zero=>
   simp at hi;subst hi;exact⟨z,by simp,k1,k2,k3,k4.mono λb hb=>GH.ext_left hb⟩
  |succ i=>
   obtain⟨z',e1,e2,e3,e4,e5⟩:=h2 i y (by grind);exact⟨z',by grind,e2,e3,e4,e5.mono λb hb=>GH.ext_right hb⟩
theorem Q4(hr:RelG c B G s a w h g)(hC:holds s (ixC c C)){T:TypeId}{n:Nat}{parts:Array (Nat×Operand)}{dst:Option Nat}{k:TK}{es:List E}(hp:U4 c g C dst T n parts.toList=some (k,es))(hes:∀e∈es,∃z,eval s e=some z)(tm:Nat->Option Value)(d:Nat)(hd:dst=some d):
  ∃v w',(Instr.buildSlice T n (parts.map λ(i,x)=>(i,a.eval x))).run c.P w=.ok v w'/\PRes c B G s w h tm d k v w':=by
 unfold U4 at hp;split at hp
 ·rename_i el hT;have hT':=Z4u hT;simp only[Zh7]at hp;obtain⟨ops,hops,hp⟩:=hp;split at hp
  ·rename_i hcond;obtain⟨hidx,hn,hcl,hel,hag⟩:=hcond;obtain⟨i,z,hi,hz0,hzs,h0,hby,hcs⟩:=VU hel
   have he:∃zz,eval s (.lit (ops.1.map (tyE (Zr c.P el) (c.P.cellsOf el))))=some zz:=by
    unfold Ks at hp;subst hd;simp only at hp;split at hp<;>(simp only[Zh6,Zhf]at hp;obtain⟨_,rfl⟩:=hp;exact hes _ (List.Mem.head _))
   obtain⟨zz,hzz⟩:=he;have hzz0:=hzz;simp only[eval,Zha]at hzz;obtain⟨zs,hzs',rfl⟩:=hzz;obtain⟨hl,hx⟩:=Z6u hr hC (by omega) hops hzs'
   have hlen:parts.toList.length=n:=by
    have:=Ziu List.length hidx;simpa using this
   have hln:zs.length=n:=by rw[hl,Zi1,hlen]
   have hpi:∀(q:Nat) (p:Nat×Operand),parts.toList[q]?=some p->p.1=q:=by
    intro q p hq;have h1:(parts.toList.map (·.1))[q]?=some p.1:=by grind
    rw[hidx,Zkl]at h1
    ·simp_all
    ·grind
   have hfit1:∀z,(∀l,z≠V.tup l)->(Zr c.P el=true->z.cells.length=c.P.cellsOf el)->(Zr c.P el=false->z.one=true)->z.cells.length=c.P.cellsOf el:=by
    intro z h1 h2 h3;obtain hag|hag:=hag
    ·grind
    ·grind [Zr,YL]
   have hpart:∀(q:Nat) (p:Nat×Operand),parts.toList[q]?=some p->∃z,zs[q]?=some z/\z.fits (c.P.cellsOf el)/\(a.eval p.2).cells.size=c.P.cellsOf el/\∀(j:Nat) (ck:V),z.cells[j]?=some ck->Rd w (h.ext ops.2) ck ((a.eval p.2).cells.getD j undef):=by
    intro q p hq;obtain⟨z,e1,e2,e3,e4,e5⟩:=hx q p.2 (by grind);obtain⟨s1,s2,s3⟩:=e5.cells e2;have hc:=hfit1 z e2 e3 e4;exact⟨z,e1,⟨hc,s2⟩,by rw[s1,hc],s3⟩
   have hfit:∀x∈zs,x.fits (c.P.cellsOf el):=by
    intro x hxm;obtain⟨q,hq⟩:=Zhy hxm;have hlt:q<parts.toList.length:=by grind
    obtain⟨z,e1,e2,_⟩:=hpart q _ (Zh8 hlt);rw[hq]at e1;cases e1;exact e2
   have hbase:((Array.range (n*i.size)).map (λx=>z.cells[x%z.cells.size]!)).size=n*i.size:=by simp
   obtain⟨R,hR,hRs,_,hRin⟩:=QY (λq=>some (q*i.size,i.size)) (parts.toList.map λp=>(p.1,a.eval p.2)) ((Array.range (n*i.size)).map (λx=>z.cells[x%z.cells.size]!)) (by
    intro p hp;obtain⟨p',hp',rfl⟩:=Zhq.1 hp;obtain⟨q,hq⟩:=Zhy hp';obtain⟨_,_,_,e3,_⟩:=hpart q p' hq;have hqi:=hpi q p' hq;have hlt:q<n:=by grind
    refine⟨p'.1*i.size,by grind,?_⟩;simp only;rw[e3,hcs,hqi,hbase,<-Ziq];exact ZhD _ hlt)
   rw[hbase]at hRs
   have hpow:¬(n*i.size>2 ^ 24):=by
    have:n*i.size<=256*256:=Zl9 (by omega) (by omega);omega
   have hnk:n*i.size=0\/n*i.size≠0:=by omega
   have hrun:(Instr.buildSlice T n (parts.map λ(i,x)=>(i,a.eval x))).run c.P w=.ok (.slice (some ⟨w.heap.size,0,none⟩) n n) (w.alloc (.cells R el)):=by
    have hpow':¬(16777216<n*i.size):=by omega
    obtain hnk|hnk:=hnk
    ·have hn0:n=0:=by
      obtain hh|hh:=Nat.mul_eq_zero.1 hnk
      ·exact hh
      ·omega
     subst hn0
     have hpe:parts=#[]:=by
      have:parts.size=0:=by simpa using hlen
      exact Zi9 this
     subst hpe
     have hRe:R=#[]:=by
      have:R.size=0:=by simpa using hRs
      exact Zi9 this
     simp_all[Instr.buildSlice,ZhK,YF,Instr.fill,newRow,Array.range_zero']
    ·simp[Instr.buildSlice,ZhK hT',YF hi,hpow',hnk,Vv hi hz0,hR,newRow]
   refine⟨_,_,hrun,?_⟩;have hg:=Ziw w (.cells R el) none;have hown:=World.ownsRow_lit (base:=w.heap.size) (e:=el) (size:=c.P.cellsOf el) w R n (Zhe _) (by grind [maxLen]) (by grind);rw[<-hln]at hown⊢;refine Z0S hr.ok hg hzz0 (by omega) hfit hown (λj ck hj=> ?_) hp tm d hd;obtain⟨q,r,y,hq,hrk,rfl,hyc⟩:=SK hfit (by omega) hj;have hlt:q<parts.toList.length:=by grind
   obtain⟨y',e1,e2,e3,e4⟩:=hpart q _ (Zh8 hlt);rw[hq]at e1;cases e1;have hqi:=hpi q _ (Zh8 hlt);obtain⟨pre,suf,hps⟩:∃pre suf,parts.toList=pre++parts.toList[q]::suf:=List.append_of_mem (Zhi hlt);have hsz3:(a.eval parts.toList[q].2).cells.size=i.size:=by rw[e3,hcs]
   have hin:=hRin ((parts.toList.take q).map λp=>(p.1,a.eval p.2)) (parts.toList[q].1,a.eval parts.toList[q].2) ((parts.toList.drop (q+1)).map λp=>(p.1,a.eval p.2)) (by
    grind [List.drop_eq_getElem_cons,List.take_append_drop]) (q*i.size) (by grind) (by
    intro p hp o n' ho;obtain⟨p',hp',rfl⟩:=Zhq.1 hp;obtain⟨m,hm⟩:=Zhy hp';rw[ZhU]at hm;have:=hpi _ _ hm;simp only[Zh6,Zhf]at ho;obtain⟨rfl,rfl⟩:=ho;left;simp only;rw[hsz3,this,<-Ziq]
    grind) r (by grind)
   refine⟨(a.eval parts.toList[q].2).cells.getD r undef,?_,e4 r ck hyc⟩;rw[Zio,hcs,hin];have hlt2:r< (a.eval parts.toList[q].2).cells.size:=by omega
   simp only[Zhc]
   grind
  grind
 grind
theorem Q5(z:Array Value)(n:Nat)(h0:0<z.size)(j:Nat)(hj:j<n):(madeCells z n).toList[j]?=z[j%z.size]? :=by
 simp_all[Zkc,madeCells]
theorem Z4c(hr:RelG c B G s a w h g){n m:Operand}(hs:Z74 n m=true){k:IntKind}{q:Int}(hn:a.eval n=.int k q):∃k',a.eval m=.int k' q:=by
 unfold Z74 at hs;split at hs
 ·simp_all
 ·simp_all[ZhG,Act.eval,Value.int.injEq]
 ·cases hs
theorem Z3Y(hr:RelG c B G s a w h g)(hC:holds s (ixC c C)){T:TypeId}{n m:Operand}{dst:Option Nat}{k:TK}{es:List E}(hp:Z6D c g C dst T n m=some (k,es))(hes:∀e∈es,∃z,eval s e=some z)(tm:Nat->Option Value)(d:Nat)(hd:dst=some d):
  ∃v w',(Instr.makeSlice T (a.eval n) (a.eval m)).run c.P w=.ok v w'/\PRes c B G s w h tm d k v w':=by
 unfold Z6D at hp;split at hp
 ·rename_i el hT;have hT':=Z4u hT;simp only[Zh7]at hp;obtain⟨zs,hz,⟨e,sh⟩,he,hp⟩:=hp;split at hp
  ·rename_i hcond;simp only[Zhb,Zhn,ZhG]at hcond;obtain⟨⟨hso,hel⟩,hag⟩:=hcond;obtain⟨i,z,hi,hz0,hzs,h0,hby,hcs⟩:=VU hel;obtain⟨i',z',hi',hz0',hzs',hcells⟩:=Wy hz;rw[hi]at hi';cases hi';rw[hz0]at hz0';cases hz0'
   have hev:∃zz,eval s (.mk (if Zr c.P el then .agg zs else zs.headD (.agg [])) e)=some zz:=by
    unfold Ks at hp;subst hd;simp only at hp;split at hp<;>(simp only[Zh6,Zhf]at hp;obtain⟨_,rfl⟩:=hp;exact hes _ (List.Mem.head _))
   obtain⟨zz,hzz⟩:=hev;have hzz0:=hzz;obtain⟨y,hy,hyr⟩:=Xh hr hC he;simp only[eval,hy,Zhh]at hzz;generalize hzv:(if Zr c.P el then V.agg zs else zs.headD (.agg []))=zv at*;unfold mkV at hzz;split at hzz
   ·rename_i ki q;split at hzz
    ·rename_i hq;obtain⟨hq0,hq1⟩:=hq;obtain⟨q,rfl⟩:=Zhl hq0;simp only[Zh6,ZhV]at hzz;subst hzz;have hlim:q<=4294967296:=by simp only[lim]at hq1;omega
     have hn:=hyr.int_eq;obtain⟨k',hm⟩:=Z4c hr hso hn;rw[hn,hm]
     have hb:i.bytes*q<=281474976710656:=by
      have:i.bytes*q<=32768*4294967296:=Zl9 hby hlim;omega
     obtain⟨w',hrun,hown,hg⟩:=run_make_full (P:=c.P) w w.heap.size T el i z i.size hT' hi hz0 rfl ki k' q hb (by grind [maxLen]) (Zhe _);refine⟨_,_,hrun,?_⟩
     have hzc:zv.cells=zs:=by
      rw[<-hzv];obtain hag|hag:=hag
      ·rw[if_pos hag];rfl
      ·split
       ·rfl
       ·have h1:zs.length=1:=hag
        match zs,h1,hcells,hzs' with
        | [x],_,hcells,hzs'=>
          simp only[List.headD_cons];obtain⟨x',hx',hc⟩:=hcells 0 (z.cells[0]'(by omega)) (Zhu _)
          grind [YL,QT]
     have hcell:∀(j:Nat) (ck:V),zs[j]?=some ck->∃u,z.cells[j]?=some u/\UL u=some ck:=by
      intro j ck hj;have hlt:j<z.cells.size:=by rw[hzs'];exact(Zh9.1 hj).1
      obtain⟨x',hx',hc⟩:=hcells j _ (Zhu hlt);rw[hj]at hx';cases hx';exact⟨_,Zhu hlt,hc⟩
     have hzfit:zv.fits (c.P.cellsOf el):=by
      refine⟨by simp_all,λck hck=> ?_⟩;rw[hzc]at hck;obtain⟨j,hj⟩:=Zhy hck;obtain⟨u,_,hc⟩:=hcell j ck hj;exact QT hc
     have hfit:∀x∈List.replicate q zv,x.fits (c.P.cellsOf el):=λx hx=>by simp_all
     rw[<-hcs]at hown;have hown2:w'.ownsRow w.heap.size el (c.P.cellsOf el) (.slice (some ⟨w.heap.size,0,none⟩) q q) (List.replicate q zv).length (madeCells z.cells (q*c.P.cellsOf el)).toList:=by rw[ZkZ];exact hown
     refine Z0S hr.ok hg hzz0 (by omega) hfit hown2 (λj ck hj=> ?_) hp tm d hd;obtain⟨p,r,y',hp',hrk,rfl,hyc⟩:=SK hfit (by omega) hj;have hpq:p<q:=by simpa using(Zh9.1 hp').1
     have hy':y'=zv:=List.eq_of_mem_replicate (Zhg hp');subst hy';rw[hzc]at hyc;obtain⟨u,hu,hc⟩:=hcell r ck hyc;refine⟨u,?_,Q8 hc _ _⟩;have hle:p*c.P.cellsOf el+c.P.cellsOf el<=q*c.P.cellsOf el:=by rw[<-Ziq];exact ZhD _ hpq
     grind [Q5,Nat.mul_comm,Nat.mul_add_mod,Nat.mod_eq_of_lt]
    grind
   grind
  grind
 grind
end
end Vm
namespace Vm
open Go
open Go.RowKit (Below)
open Go.MapKept (IsKey bytes_beq sameNow_of_keys run_checkKey run_findKey run_keyThatStays)
section
variable {c:Ctx}{B:Nat}{G:Nat->Prop}{s:St}{a:Act}{w w':World}{h:GH}{g:Gam}{C:Zj}
theorem JP{P:Program}{t ty e:TypeId}{i:TypeInfo}(ht:P.underlying t=some (.slice e))(hi:P.info? e=some i){size:Nat}{v:Value}{n:Nat}{xs:List Value}(hown:w.ownsRow B e size v n xs)(cp:Nat):
  (Builtin.append_ #[t,t] ty #[v,.slice none 0 cp]).run P w=.ok v w:=by
 obtain⟨rfl,rfl⟩|⟨g,cap,cur,rfl,_,_,hnc,_⟩:=hown.2
 ·simp[Builtin.append_,ZhK ht,Go.sizeOf,typeInfo,hi,Builtin.lenOf,Builtin.firstCells]
 ·simp[Builtin.append_,ZhK ht,Go.sizeOf,typeInfo,hi,Builtin.lenOf,Builtin.firstCells,hnc,storeCells]
theorem JO{P:Program}{t ty e:TypeId}(ht:P.underlying t=some (.slice e))(hel:elOk P e=true){v:Value}{n:Nat}{xs:List Value}(hown:w.ownsRow B e (P.cellsOf e) v n xs)(hB:B<=w.heap.size)
  {Gy:Nat->Prop} {l:List V} {y:Value} (hy:Rd w Gy (.sl l) y) (hk:YN (P.cellsOf e) l=true) (hlim:n+l.length<=lim):
  ∃v' w' news,(Builtin.append_ #[t,t] ty #[v,y]).run P w=.ok v' w'/\w'.ownsRow B e (P.cellsOf e) v' (n+l.length) (xs++news)/\w.grownBy w' v.ownBlock/\
   (v'.ownBlock=v.ownBlock\/(w.grownBy w' none/\w'.ownsRow w.heap.size e (P.cellsOf e) v' (n+l.length) (xs++news)))/\
   (∀x∈l,x.fits (P.cellsOf e))/\∀(i:Nat) (ck:V),(flat l)[i]?=some ck->∃u,news[i]?=some u/\Rd w Gy ck u:=by
 obtain⟨i,z,hi,hz,hzs,h0,hby,hcs⟩:=VU hel;have hsl:=JV hk
 have hnew:(∃cp,y=.slice none 0 cp/\l=[])\/∃ad cp,∃news:List Value,y=.slice (some ad) l.length cp/\news.length=l.length*P.cellsOf e/\(∀j u,news[j]?=some u->w.cell? (ad.add j)=some u)/\(∀u∈news,u.oneCell'=true)/\
   (∀x∈l,x.fits (P.cellsOf e))/\∀(i:Nat) (ck:V),(flat l)[i]?=some ck->∃u,news[i]?=some u/\Rd w Gy ck u:=by
  cases hy with
  |nil ad cp hc=>
   cases ad with
   |none=>simp
   |some ad=>exact .inr ⟨ad,cp,[],rfl,by simp,λj u hj=>by simp at hj,λu hu=>by simp at hu,λx hx=>by simp at hx,λi ck hi=>by simp[flat]at hi⟩
  |sl _ b o cap kk vs h1 h2 h3 h4 h5 h6=>
   refine .inr ⟨⟨b,o,none⟩,cap,(List.range (l.length*P.cellsOf e)).map vs,rfl,by simp,?_⟩;by_cases hl:l=[]
   ·simp_all[flat]
   ·obtain⟨x,hx⟩:=List.exists_mem_of_ne_nil l hl;have hkk:kk=P.cellsOf e:=by rw[<-(h4 x hx).1,hsl x hx]
    subst hkk;have hlenf:=Yk h4;refine⟨λj u hj=> ?_,λu hu=> ?_,h4,λi ck hi=> ?_⟩
    ·grind [List.getElem?_eq_some_iff,Addr.add_lit]
    ·obtain⟨j,hj,rfl⟩:=Zhq.1 hu;have hlt:=Zjl.1 hj;have hf:(flat l)[j]?=some ((flat l)[j]'(by omega)):=Zh8 _;have hr:=h6 j _ hf;rw[hr.one_eq];obtain⟨x,hx,hcx⟩:=ze hf;exact(h4 x hx).2 _ hcx
    grind
 obtain⟨cp,rfl,rfl⟩|⟨ad,cp,news,rfl,hl,hnews,h1,hfit,hrd⟩:=hnew
 ·refine⟨v,w,[],JP ht hi hown cp,by simp_all,⟨rfl,rfl,rfl,Zhe _,λ_ _ _=>rfl⟩,.inl rfl,λx hx=>by simp at hx,λi ck hi=>by simp[flat]at hi⟩
 ·simp only[lim]at hlim;have h63:n+l.length<=maxLen:=by grind [maxLen]
  have hbytes:(n+l.length)*i.bytes<=140737488355328:=by
   have:(n+l.length)*i.bytes<=4294967296*32768:=Zl9 hlim hby;omega
  have hlen:(xs++news).length=(n+l.length)*P.cellsOf e:=by rw[Zin,hown.1,hl,Nat.add_mul]
  have grown:∀(old:Nat),old<n+l.length->∀(row:Option Nat) (cs:Array Value),cs=xs.toArray++news.toArray->
    (w.drew.alloc (.cells (cs++Builtin.zeroCells z.cells (grownCap w (n+l.length) old e- (n+l.length))) e)).ownsRow w.heap.size e (P.cellsOf e)
     (.slice (some ⟨w.heap.size,0,none⟩) (n+l.length) (grownCap w (n+l.length) old e)) (n+l.length) (xs++news)/\
    w.grownBy (w.drew.alloc (.cells (cs++Builtin.zeroCells z.cells (grownCap w (n+l.length) old e- (n+l.length))) e)) row:=by
   rintro old ho row cs rfl;have hge:=grownCap_ge w (n+l.length) old e;have hcm:grownCap w (n+l.length) old e<=maxLen:=grownCap_le_maxLen w (n+l.length) old e h63;refine⟨⟨hlen,.inr ⟨w.heap.size,_,_,rfl,Zhe _,ZhX w.drew _,hge,hcm,?_,?_⟩⟩,⟨rfl,rfl,rfl,by simp,λk hk _=>Zif w.drew _ k hk⟩⟩
   ·simp only[Array.size_append,ZiE,size_zeroCells,hzs,hown.1,hl,hcs,<-Nat.add_mul];simp_all
   ·grind
  obtain⟨rfl,rfl⟩|⟨g,cap,cur,rfl,hbg,hg,hnc,hcm,hcsz,htake⟩:=hown.2
  ·have hx:xs=[]:=Zi6 (by simp_all);subst hx;by_cases hm:l.length=0
   ·have hn:news=[]:=Zi6 (by simp_all);subst hn;refine⟨.slice none 0 0,w,[],?_,by simp_all,⟨rfl,rfl,rfl,Zhe _,λ_ _ _=>rfl⟩,.inl rfl,hfit,hrd⟩;simp[Builtin.append_,ZhK ht,Go.sizeOf,typeInfo,hi,Builtin.lenOf,hm,Builtin.firstCells,loadCells,loadCellsFrom]
   ·have hr:=run_append_nil (P:=P) w t ty e i z ht hi hz ad l.length cp news (by grind) hnews (by omega) (by omega) (by grind);have hgr:=grown 0 (by omega);simp only[Zi2,Zir]at hgr⊢;obtain⟨g1,g2⟩:=hgr none news.toArray (by simp)
    grind [U2]
  ·by_cases hroom:n+l.length<=cap
   ·obtain⟨w',hr,ho,hgr⟩:=run_append_fits (P:=P) w B t ty e i (P.cellsOf e) ht hi hcs.symm g n cap xs hown ad l.length cp news hl hnews h1 hroom;exact⟨_,_,news,hr,ho,hgr,.inl rfl,hfit,hrd⟩
   ·have holds:∀j u,xs[j]?=some u->w.cell? ((⟨g,0,none⟩:Addr).add j)=some u:=hown.cells (g:=g) rfl;have hr:=run_append_grow (P:=P) w t ty e i z ht hi hz ⟨g,0,none⟩ n cap xs (by grind) holds ad l.length cp news (by grind) hnews (by omega) (by omega) (growslice_fits (by omega) hbytes);have hgr:=grown cap (by omega);obtain⟨g1,g2⟩:=hgr none _ rfl;exact⟨_,_,news,hr,U2 g1 hB,(hgr _ _ rfl).2,.inr ⟨g2,g1⟩,hfit,hrd⟩
theorem WB{k:Nat}{x y z:V}(hz:appV k x y=some z):∃l r,x=.sl l/\y=.sl r/\l.length+r.length<=lim/\YN k r=true/\z=.sl (l++r):=by
 unfold appV at hz;split at hz
 ·simp_all
 grind
theorem Z5i{x z:V}(hz:flsV x=some z):x=z/\∃l,z=.sl l/\∀y∈Vm.flat l,y.flatc=true:=by
 unfold flsV at hz;split at hz
 ·rename_i l;split at hz
  ·rename_i hall;simp only[Zh6]at hz;exact⟨hz,l,hz.symm,λy hy=>Zhm.1 hall y hy⟩
  grind
 grind
theorem Z1S(hr:RelG c B G s a w h g)(hC:holds s (ixC c C)){x:Operand}{b0:E×List Nat}(hx:opE g C x=some b0){fl:Bool}{z:V}(hz:eval s (Rs fl b0).1=some z):
  ∃G',Rd w G' z (a.eval x)/\∀l,z=.sl l->∀(i:Nat) (ck:V) (u:Value),(flat l)[i]?=some ck->Rd w G' ck u->Rd w (h.ext (Rs fl b0).2) ck u:=by
 obtain⟨y,hy,hyr⟩:=Xh hr hC (show opE g C x=some (b0.1,b0.2)from hx);unfold Rs at hz⊢;split
 ·grind
 ·rename_i hb;rw[if_neg hb]at hz;split
  ·rename_i hfl;rw[if_pos hfl]at hz;simp only[eval,hy,Zhh]at hz;obtain⟨rfl,l,rfl,hall⟩:=Z5i hz;refine⟨_,hyr,λl' hl' i ck u hi hu=> ?_⟩;cases hl';exact hu.flat (hall ck (Zhg hi))
  grind
theorem ZaZ{dst:Option Nat}{d:Nat}(hd:dst=some d){el:TypeId}{e:E}{sh:List Nat}{k:TK}{es:List E}(ho:Ks c dst el e sh=some (k,es))(hes:∀e∈es,∃z,eval s e=some z):∃z,eval s e=some z:=by
 unfold Ks at ho;subst hd;simp only at ho;split at ho<;>(simp only[Zh6,Zhf]at ho;obtain⟨_,rfl⟩:=ho;exact hes _ (List.Mem.head _))
theorem jd(hr:RelG c B G s a w h g)(hC:holds s (ixC c C)){T U ty:TypeId}{x y:Operand}{dst:Option Nat}{k:TK}{es:List E}(hp:zL c g C dst T U x y=some (k,es))(hes:∀e∈es,∃z,eval s e=some z)(tm:Nat->Option Value)(d:Nat)(hd:dst=some d):
  ∃v w',(Builtin.append_ #[T,U] ty #[a.eval x,a.eval y]).run c.P w=.ok v w'/\PRes c B G s w h tm d k v w':=by
 unfold zL at hp;split at hp
 ·rename_i el hT;have hT':=Z4u hT;split at hp
  ·rename_i hcond;obtain⟨rfl,hel⟩:=hcond;split at hp
   ·rename_i hk;simp only[Zh7]at hp;obtain⟨b0,hb,hp⟩:=hp;rw[R4 hr hC hk]
    have hp':Ks c dst el (.app (.c (.sl [])) (Rs (Xw c.P el) b0).1 (c.P.cellsOf el)) (Rs (Xw c.P el) b0).2=some (k,es):=by
     subst hd;simp only at hp;split at hp
     grind
     ·exact hp
    obtain⟨z,hz⟩:=ZaZ hd hp' hes;have hz0:=hz;simp only[eval,Zhh,Zh7]at hz;obtain⟨yy,hyy,hz⟩:=hz;obtain⟨l0,r,hl0,rfl,hlim,hsz,rfl⟩:=WB hz;cases hl0;obtain⟨G',hrd,hback⟩:=Z1S hr hC hb hyy;obtain⟨i,zz,hi,hz1,hzs,h0,hby,hcs⟩:=VU hel;obtain⟨v',w',news,hrun,hown,hg,hor,hfit,hnews⟩:=JO (ty:=ty) hT' hel (ZiW w w.heap.size el (c.P.cellsOf el)) (Zhe _) hrd hsz (by omega);refine⟨v',w',hrun,?_⟩;simp only[Zi2,Zir]at hown
    exact Z0S hr.ok hg (by simp_all) (by omega) hfit hown (λi ck hi=>by
     grind) hp' tm d hd
   grind
  grind
 grind
theorem UN(hr:RelG c B G s a w h g)(hC:holds s (ixC c C)){x:Operand}{b:E×List Nat}(he:opE g C x=some b):∃y,eval s b.1=some y/\Rd w (h.ext b.2) y (a.eval x):=Xh hr hC (show opE g C x=some (b.1,b.2)from he)
def PRun(c:Ctx)(B:Nat)(G:Nat->Prop)(s:St)(a:Act)(w:World)(h:GH)(o:Oper)(d:Nat)(k:TK):Prop:=
 ∃v w',(execOp a.eval o).run c.P w=.ok (.value v) w'/\PRes c B G s w h (λp=>a.tmps[p]?) d k v w'
theorem PRun.of{o:Oper}{d:Nat}{k:TK}{m:Sem Value}(he:execOp a.eval o=(do pure (.value (<-m))))(hm:∃v w',m.run c.P w=.ok v w'/\PRes c B G s w h (λp=>a.tmps[p]?) d k v w'):PRun c B G s a w h o d k:=by
 obtain⟨v,w',hrun,hres⟩:=hm;exact⟨v,w',by simp_all,hres⟩
theorem Has.pr(hok:Ok B G w h){o:Oper}{d:Nat}{k:TK}{m:Sem Value}(he:execOp a.eval o=(do pure (.value (<-m))))(hm:Has c B s w h (λp=>a.tmps[p]?) d k m):PRun c B G s a w h o d k:=by
 obtain⟨v,hrun,hk⟩:=hm
 grind [PRun.of,PRes.here]
theorem Q9{s:St}{e:E}{aq_:List V}{o:Nat}{z:V}(h:eval s e=some (.agg aq_))(hz:eval s (.fld e o)=some z):aq_[o]?=some z:=by
 simp_all[eval,Zhh,fldV,V.pc,Zh7,oneV]
def X7(P:Program)(T:TypeId)(vs:Array Value)(o:Nat):Value:=if Zr P T then .agg (vs.extract o (o+P.cellsOf T))else vs.getD o undef
theorem qd{vs:Array Value}{o n i:Nat}(hi:i<n)(h:o+n<=vs.size):(vs.extract o (o+n)).getD i undef=vs.getD (o+i) undef:=by
 simp only[Zhc,ZkN];simp_all
theorem Ll{P:Program}{T:TypeId}{vs:Array Value}{o n q:Nat}(h:o+n<=vs.size)(hq:q+P.cellsOf T<=n)(h0:P.cellsOf T≠0):X7 P T (vs.extract o (o+n)) q=X7 P T vs (o+q):=by
 grind [X7,Array.extract_extract,qd]
theorem Z5a{P:Program}{a b e:E}:∀(d:Nat) (T:TypeId) (o:Nat),eqD P a b d T o=some e->P.cellsOf T≠0/\(P.underlying T).isSome=true
 |0,_,_,h=>by simp[eqD]at h
 |d+1,T,o,h=>by
  grind [eqD]
theorem Z71{P:Program}{s:St}{ea eb:E}{aq_ bs:List V}{xs ys:Array Value}{G' G'':Nat->Prop}(ha:eval s ea=some (.agg aq_))(hb:eval s eb=some (.agg bs))(hxs:xs.size=aq_.length)(hys:ys.size=bs.length)
  (hx:∀i c,aq_[i]?=some c->Rd w G' c (xs.getD i undef)) (hy:∀i c,bs[i]?=some c->Rd w G'' c (ys.getD i undef)):∀(d D:Nat) (T:TypeId) (o:Nat) (e:E) (z:V),d<=D->o+P.cellsOf T<=xs.size->o+P.cellsOf T<=ys.size->eqD P ea eb d T o=some e->eval s e=some z->
  ∃r:Bool,(Op.equalIn (D+1) T (X7 P T xs o) (X7 P T ys o)).run P w=.ok r w/\z=.bool r
 |0,D,T,o,e,z,_,_,_,he,hz=>by simp[eqD]at he
 |d+1,D,T,o,e,z,hD,hbx,hby,he,hz=>by
  simp only[eqD]at he;split at he
  ·rename_i hT;split at he
   case isFalse=>cases he
   simp only[Zh6]at he;subst he;simp only[eval,Zh7]at hz;obtain⟨u,hu,v,hv,hzx⟩:=hz;have hu':=Q9 ha (z:=u) (o:=o) (by simp_all[eval,Zh7]);have hv':=Q9 hb (z:=v) (o:=o) (by simp_all[eval,Zh7]);have h1:=hx o u hu';have h2:=hy o v hv';have hag:Zr P T=false:=by simp[Zr,hT]
   simp only[X7,hag,Zhk,ZhT];generalize xs.getD o undef=vx at*;generalize ys.getD o undef=vy at*;cases h1<;>cases h2<;>simp only[eqV]at hzx<;>(try (simp at hzx;done))
   simp_all[Zh6,run_equalIn_bool]
  ·rename_i q hT;split at he
   case isFalse=>cases he
   simp only[Zh6]at he;subst he;simp only[eval,Zh7]at hz;obtain⟨u,hu,v,hv,hzx⟩:=hz;have hu':=Q9 ha (z:=u) (o:=o) (by simp_all[eval,Zh7]);have hv':=Q9 hb (z:=v) (o:=o) (by simp_all[eval,Zh7]);have h1:=hx o u hu';have h2:=hy o v hv';have hag:Zr P T=false:=by simp[Zr,hT]
   simp only[X7,hag,Zhk,ZhT];generalize xs.getD o undef=vx at*;generalize ys.getD o undef=vy at*;cases h1<;>cases h2<;>simp only[binV]at hzx<;>(try (simp at hzx;done))
   simp_all[Zh6,run_equalIn_int]
  ·rename_i fs hT;split at he
   case isFalse=>cases he
   rename_i hcond;obtain⟨hne,h0,hst⟩:=hcond;have hag:Zr P T=true:=by simp[Zr,hT]
   have hfo:P.fieldsOf T=fs:=by unfold Program.fieldsOf;rw[hT]
   simp only[X7,hag,ZhR];obtain⟨D',rfl⟩:∃D',D=D'+1:=⟨D-1,by omega⟩
   have key:∀(l:List Field) (e:E) (z:V),binS P (eqD P ea eb d) (P.cellsOf T) o l=some e->eval s e=some z->
     ∃r:Bool,(Op.eqFields (D'+1) (xs.extract o (o+P.cellsOf T)) (ys.extract o (o+P.cellsOf T)) l).run P w=.ok r w/\z=.bool r:=by
    intro l
    induction l with
    |nil=>
     intro e z he hz;simp only[binS,Zh6]at he;subst he;simp_all[eval,Zh6,Op.eqFields]
    |cons f l ih=>
     intro e z he hz;simp only[binS]at he;split at he
     case isFalse=>cases he
     rename_i hc;obtain⟨hn,ho⟩:=hc;simp only[Zh7,Zha]at he;obtain⟨x,hcx,y,hy2,rfl⟩:=he;simp only[eval,Zh7]at hz;obtain⟨zx,hzx,hz⟩:=hz;obtain⟨c0,cu⟩:=Z5a d f.type _ hcx;obtain⟨t,ht,rfl⟩:=Z71 ha hb hxs hys hx hy d D' f.type (o+f.offset) x zx (by omega) (by omega) (by omega) hcx hzx
     have p1:(part f.type (xs.extract o (o+P.cellsOf T)) f.offset).run P w=.ok (X7 P f.type xs (o+f.offset)) w:=by
      rw[<-Ll hbx ho c0];exact zX (w:=w) (P:=P) cu c0 (by simp_all)
     have p2:(part f.type (ys.extract o (o+P.cellsOf T)) f.offset).run P w=.ok (X7 P f.type ys (o+f.offset)) w:=by
      rw[<-Ll hby ho c0];exact zX (w:=w) (P:=P) cu c0 (by simp_all)
     simp only[Op.eqFields,hn,ne_eq,not_false_eq_true,ZhR,ZhE,p1,p2,ht,ZhC];cases t
     ·simp_all[iteV,eval,Zh6]
     simp_all[iteV]
   obtain⟨r,hr,rfl⟩:=key _ e z he hz;refine⟨r,?_,rfl⟩;have:=run_equalIn_struct w (D'+1) T (xs.extract o (o+P.cellsOf T)) (ys.extract o (o+P.cellsOf T)) (by rw[hfo];exact hT) hst;rw[hfo]at this;exact this.trans hr
  ·cases he
theorem Z1V{P:Program}{s:St}{ea eb:E}:∀(d:Nat) (T:TypeId) (o:Nat) (e:E) (z:V),eqD P ea eb d T o=some e->eval s e=some z->∃q t t',eval s (.fld ea q)=some t/\eval s (.fld eb q)=some t'
 |0,_,_,_,_,h,_=>by simp[eqD]at h
 |d+1,T,o,e,z,h,hz=>by
  simp only[eqD]at h;split at h
  ·split at h
   case isFalse=>cases h
   simp only[Zh6]at h;subst h;simp only[eval,Zh7]at hz;obtain⟨a,h1,b,h2,_⟩:=hz;exact⟨o,a,b,by simpa only[eval,Zh7]using h1,by simpa only[eval,Zh7]using h2⟩
  ·split at h
   case isFalse=>cases h
   simp only[Zh6]at h;subst h;simp only[eval,Zh7]at hz;obtain⟨a,h1,b,h2,_⟩:=hz;exact⟨o,a,b,by simpa only[eval,Zh7]using h1,by simpa only[eval,Zh7]using h2⟩
  ·rename_i fs hT;split at h
   case isFalse=>cases h
   rename_i hc;cases hfs:fs.toList with
   |nil=>exact absurd hfs hc.1
   |cons f l=>
    rw[hfs]at h;simp only[binS]at h;split at h
    case isFalse=>cases h
    simp only[Zh7,Zha]at h;obtain⟨x,hcx,y,_,rfl⟩:=h;simp only[eval,Zh7]at hz;obtain⟨zx,hzx,_⟩:=hz;exact Z1V d _ _ _ _ hcx hzx
  ·cases h
theorem Z2C{P:Program}{s:St}{ea eb e:E}{u v z:V}{uv vv:Value}{T:TypeId}{G' G'':Nat->Prop}(hq:eqSt P T ea eb=some e)(hu:eval s ea=some u)(hv:eval s eb=some v)(hur:Rd w G' u uv)(hvr:Rd w G'' v vv)(hz:eval s e=some z):
  ∃(r:Bool) (xs ys:Array Value),uv=.agg xs/\vv=.agg ys/\(Op.equal T uv vv).run P w=.ok r w/\z=.bool r/\P.eqGuardType P.depth T=false:=by
 unfold eqSt at hq;split at hq
 case isFalse=>cases hq
 rename_i hcond;obtain⟨hag,hgd⟩:=hcond;obtain⟨q,t,t',h1,h2⟩:=Z1V 4 T 0 e z hq hz
 have ga:∀ {ex:E} {x:V} {y:V},eval s ex=some x->eval s (.fld (.sz (.isag ex) (P.cellsOf T)) q)=some y->∃aq_,x=.agg aq_/\aq_.length=P.cellsOf T/\eval s (.sz (.isag ex) (P.cellsOf T))=some (.agg aq_):=λ{ex x y} hx hy=>by
  simp only[eval,hx,Zhh]at hy⊢;cases x<;>simp only[Z0F,Option.bind_none,Zhh]at hy⊢ <;>(try (cases hy;done))
  rename_i aq_;unfold szV at hy⊢;by_cases hl:(V.agg aq_).cells.length=P.cellsOf T
  ·exact⟨aq_,rfl,hl,by grind⟩
  simp_all
 obtain⟨aq_,rfl,hla,hea⟩:=ga hu h1;obtain⟨bs,rfl,hlb,heb⟩:=ga hv h2;cases hur with
 |agg _ xs h1 h2 h3=>
  cases hvr with
  |agg _ ys k1 k2 k3=>
   obtain⟨r,hr,rfl⟩:=Z71 (P:=P) hea heb h1 k1 h3 k3 4 9999 T 0 e z (by omega) (by omega) (by omega) hq hz;refine⟨r,xs,ys,rfl,rfl,?_,rfl,hgd⟩
   have e1:X7 P T xs 0=.agg xs:=by
    unfold X7;rw[if_pos hag,Zi2,show P.cellsOf T=xs.size by omega];simp
   have e2:X7 P T ys 0=.agg ys:=by
    unfold X7;rw[if_pos hag,Zi2,show P.cellsOf T=ys.size by omega];simp
   rw[e1,e2]at hr;exact hr
theorem Z6y(hr:RelG c B G s a w h g)(hC:holds s (ixC c C)){op:BinOp}{T:TypeId}{x y:Operand}{k:TK}{es:List E}(hp:Zb0 c g C op T x y=some (k,es))(hes:∀e∈es,∃z,eval s e=some z)(d:Nat):
  Has c B s w h (λp=>a.tmps[p]?) d k (do eqGuard op T x y (a.eval x) (a.eval y);binOp op T (a.eval x) (a.eval y)):=by
 unfold Zb0 at hp;simp only[Zh7,Zha,Zhf]at hp;obtain⟨ea,ha,eb,hb,rfl,rfl⟩:=hp;obtain⟨u,hu,hur⟩:=UN hr hC ha;obtain⟨v,hv,hvr⟩:=UN hr hC hb;obtain⟨z,hz⟩:=hes _ (List.Mem.head _);have hz0:=hz
 have fin:∀ {m:Sem Value},(∃r,m.run c.P w=.ok r w/\Rd w h.F z r)->Has c B s w h (λp=>a.tmps[p]?) d (.val (binE c.P T op ea.1 eb.1) []) m:=by
  rintro m ⟨r,hr1,hr2⟩;exact⟨r,hr1,z,hz0,hr2.mono λb hb=>GH.ext_F hb⟩
 have plain:eval s (.bin op ea.1 eb.1)=some z->Has c B s w h (λp=>a.tmps[p]?) d (.val (binE c.P T op ea.1 eb.1) []) (do eqGuard op T x y (a.eval x) (a.eval y);binOp op T (a.eval x) (a.eval y)):=by
  intro hz;simp only[eval,hu,hv,Zhh]at hz;exact fin (Z8S hz hur hvr T x y)
 unfold binE at hz;split at hz
 ·rename_i hT;split at hz
  ·simp only[eval,hu,hv,Zhh]at hz;exact fin (Z72 (neg:=false) hz hur hvr hT x y)
  ·simp only[eval,hu,hv,Zhh]at hz;exact fin (Z72 (neg:=true) hz hur hvr hT x y)
  simp_all
 ·split at hz
  ·cases hq:eqSt c.P T ea.1 eb.1 with
   |none=>simp_all
   |some e=>
    rw[hq]at hz;obtain⟨r,xs,ys,hxs,hys,h1,rfl,h2⟩:=Z2C hq hu hv hur hvr hz;refine fin ⟨.bool r,?_,.bool _⟩;simp_all[eqGuard,binOp,ZiX]
  ·cases hq:eqSt c.P T ea.1 eb.1 with
   |none=>simp_all
   |some e=>
    rw[hq]at hz;simp only[Zhp,ZhL,eval,Zh7]at hz;obtain⟨y',hy',hz⟩:=hz;obtain⟨r,xs,ys,hxs,hys,h1,rfl,h2⟩:=Z2C hq hu hv hur hvr hy';simp only[unV,Zh6]at hz;subst hz;refine fin ⟨.bool (!r),?_,.bool _⟩;simp_all[eqGuard,binOp,ZiX]
  simp_all
theorem Z40{x z:V}{e:E}{d:Nat}{sh:List Nat}{m:Sem Value}(hz:eval s e=some z)(hm:∃r,m.run c.P w=.ok r w/\Rd w (h.ext sh) z r)(tm:Nat->Option Value):Has c B s w h tm d (.val e sh) m:=by
 obtain⟨r,h1,h2⟩:=hm;exact⟨r,h1,z,hz,h2⟩
theorem R8{m:Sem Value}{z:V}(hm:∃r,m.run c.P w=.ok r w/\Rd w h.F z r)(sh:List Nat):∃r,m.run c.P w=.ok r w/\Rd w (h.ext sh) z r:=by
 obtain⟨r,h1,h2⟩:=hm;exact⟨r,h1,h2.mono λb hb=>GH.ext_F hb⟩
theorem KQ(hr:RelG c B G s a w h g)(hC:holds s (ixC c C)):∀ {l:List Operand} {ts:List Nat},yN g C l=some ts->ts.length=l.length/\∀(i p:Nat),ts[i]?=some p->∃x b,l[i]?=some x/\h.bl p 0=some b/\a.eval x=.pointer (some ⟨b,0,none⟩)
 | [],ts,hc=>by
   simp only[yN,Zh6]at hc;subst hc;exact⟨rfl,λi p hi=>by simp at hi⟩
 |x::l,ts,hc=>by
  simp only[yN]at hc;split at hc
  ·rename_i t cs hk;simp only[Zha]at hc;obtain⟨us,hus,rfl⟩:=hc;obtain⟨h1,h2⟩:=KQ hr hC hus;obtain⟨v,hv,⟨b,vs,T,e1,e2,_⟩,_⟩:=hr.look hC (show look g C t=_ from hk) rfl;refine⟨by simp[h1],λi p hi=> ?_⟩;cases i with
   |zero=>simp at hi;subst hi;exact⟨_,b,rfl,e1,by rw[Act.eval_tmp a t v hv];exact e2⟩
   |succ i=>simpa using h2 i p (by simpa using hi)
  ·cases hc
theorem Ku(hr:RelG c B G s a w h g)(hC:holds s (ixC c C)){f:Go.Fn}{first captured:Array Operand}{k:TK}{es:List E}(hp:R6 g C f first.toList captured.toList=some (k,es))(d:Nat):
  Has c B s w h (λp=>a.tmps[p]?) d k (Instr.makeFunc f (first.map a.eval) (captured.map a.eval)):=by
 unfold R6 at hp;split at hp
 ·rename_i f' h1 h2;simp only[Zh6,Zhf]at hp;obtain⟨rfl,rfl⟩:=hp;have e1:first=#[]:=Zii.1 (by omega);have e2:captured=#[]:=Zii.1 (by omega);subst e1 e2;exact⟨.func (.func f') #[] #[],by simp[Instr.makeFunc],.fn f',rfl,.fn f'⟩
 ·rename_i f' h1 _;simp only[Zha,Zhf]at hp;obtain⟨ts,hts,rfl,rfl⟩:=hp;have e1:first=#[]:=Zii.1 (by omega);subst e1;obtain⟨hl,hall⟩:=KQ hr hC hts;refine⟨.func (.func f') #[] (captured.map a.eval),by simp[Instr.makeFunc],captured.map a.eval,rfl,by simp_all,λi p hi=> ?_⟩
  grind
 ·cases hp
theorem zP(hok:Ok B G w h){T:TypeId}{k:TK}{es:List E}(hp:JC c T=some (k,es))(tm:Nat->Option Value)(d:Nat):
  ∃v w',(Instr.makeMap T none).run c.P w=.ok v w'/\PRes c B G s w h tm d k v w':=by
 unfold JC at hp;split at hp
 ·simp only[Zh6,Zhf]at hp;obtain⟨rfl,rfl⟩:=hp;have hg:=Ziw w (.map #[] 0) none;obtain⟨hok',hst⟩:=Ss hok hg d 1 (n:=w.heap.size) (Zhe _) (by simp);refine⟨.map (some w.heap.size),w.alloc (.map #[] 0),?_,_,hst,hok',.mp 0 [] [],rfl,.inr ⟨0,[],[],w.heap.size, #[],0,rfl,rfl,by simp[GH.give],hok.base,.inl rfl,ZhX w _,rfl,rfl,λi c hi=>by simp at hi,λi c hi=>by simp at hi⟩⟩;rfl
 ·cases hp
theorem Z9f{P:Program}{T:TypeId}{x:V}(hz:Zbu P T=some x):∃z,(∀w:World,(zeroValue T).run P w=.ok z w)/\∀(w:World) (G:Nat->Prop),Rd w G x z:=by
 unfold Zbu at hz;simp only[Zh7]at hz;obtain⟨z,⟨i,hi,hz0⟩,hm⟩:=hz;refine⟨z,λw=>Vv hi hz0 w,λw G=> ?_⟩;split at hm
 ·rename_i cs;simp only[Zha]at hm;obtain⟨xs,hxs,rfl⟩:=hm;obtain⟨h1,h2⟩:=Jk hxs
  have key:∀(i:Nat) (c:V),xs[i]?=some c->UL (cs.getD i undef)=some c:=by
   intro i c hi;have hlt:i<cs.size:=by have:=(Zh9.1 hi).1;rw[h1]at this;simpa using this
   obtain⟨y,hy,hc⟩:=h2 i cs[i] (by simp[hlt]);rw[hi]at hy;cases hy;simpa[Zhc,hlt]using hc
  refine .agg xs cs (by simp_all) (λc hc=> ?_) λi c hi=>Q8 (key i c hi) w G
  grind [List.getElem?_of_mem,QT]
 grind [Q8]
def kcD:KC->TypeDesc
 |.b=>.bool
 |.i k=>.int k
 |.s=>.string
theorem qx{P:Program}{t:TypeId}{kc:KC}(hk:kcOf P t=some kc):P.underlying t=some (kcD kc):=by
 unfold kcOf at hk;split at hk<;>first|(simp only[Zh6]at hk;subst hk;assumption)|cases hk
theorem Jf{kc:KC}{k:V}(hk:isK kc k=true){w:World}{G':Nat->Prop}{v:Value}(hv:Rd w G' k v):IsKey (kcD kc) v:=by
 cases kc<;>cases hv<;>simp_all [isK,IsKey,kcD]
theorem L9{kc:KC}{k y:V}{r:Bool}(hk:isK kc k=true)(he:Z5P k y=some r){w w2:World}{G' G'':Nat->Prop}{v u:Value}(hv:Rd w G' k v)(hu:Rd w2 G'' y u):IsKey (kcD kc) u/\(r=true↔v=u):=by
 cases kc<;>cases hv<;>simp[isK]at hk<;>cases hu<;>simp[Z5P]at he
 ·grind [IsKey,kcD]
 ·obtain⟨rfl,rfl⟩:=he;simp[IsKey,kcD,hk]
 grind [IsKey,kcD,bytes_beq]
theorem WG{kc:KC}{k:V}(hk:isK kc k=true){w w2:World}{G' G'':Nat->Prop}{v:Value}(hv:Rd w G' k v):∀ {ks:List V} {l:List MapEntry} {r:Option Nat},Kj k ks=some r->ks.length=l.length->
  (∀(i:Nat) (c:V),ks[i]?=some c->Rd w2 G'' c (l.getD i default).key)->∀n,match r with
   |none=>Instr.findNow (kcD kc) v l n=some none
   |some j=>∃e,l[j]?=some e/\e.key=v/\Instr.findNow (kcD kc) v l n=some (some (n+j,e.val))
 | [],l,r,hf,hl,_,n=>by
   simp only[Kj,Zh6]at hf;subst hf;have:l=[]:=Zi6 hl.symm;subst this;rfl
 |y::ks,[],r,_,hl,_,n=>by simp at hl
 |y::ks,e::l,r,hf,hl,hrd,n=>by
  simp only[Kj]at hf;have hy:Rd w2 G'' y e.key:=by simpa using hrd 0 y rfl
  split at hf
  ·rename_i he;obtain⟨h1,h2⟩:=L9 hk he hv hy;simp only[Zh6]at hf;subst hf;have hve:=h2.1 rfl;obtain⟨q,hq,hiff⟩:=Zkg (Jf hk hv) h1;have hq1:q=true:=hiff.2 hve;subst hq1;exact⟨e,rfl,hve.symm,by simp[Instr.findNow,hq]⟩
  ·rename_i he;obtain⟨h1,h2⟩:=L9 hk he hv hy;obtain⟨q,hq,hiff⟩:=Zkg (Jf hk hv) h1
   have hq1:q=false:=by
    cases q with
    |false=>rfl
    |true=>have:=h2.2 (hiff.1 rfl);cases this
   subst hq1;simp only[Zha]at hf;obtain⟨r',hr',rfl⟩:=hf;have ih:=WG hk hv hr' (by simpa using hl) (λi c hi=>by simpa using hrd (i+1) c (by simpa using hi)) (n+1);cases r' with
   |none=>simpa[Instr.findNow,hq]using ih
   |some j=>
    obtain⟨e',e1,e2,e3⟩:=ih;exact⟨e',by simpa using e1,e2,by simp[Instr.findNow,hq,e3];omega⟩
  ·cases hf
theorem Ld{kc:KC}{k z y:V}{ks vs:List V}{id:Nat}{ok:Bool}(hy:lkV kc (.mp id ks vs) k z ok=some y){l:List MapEntry}{w2:World}{G' G'':Nat->Prop}{kv zv:Value}(hk:Rd w G' k kv)(hz:∀(w:World) (G:Nat->Prop),Rd w G z zv)(h1:ks.length=l.length)(h2:vs.length=l.length)
  (h3:∀(i:Nat) (c:V),ks[i]?=some c->Rd w2 G'' c (l.getD i default).key) (h4:∀(i:Nat) (c:V),vs[i]?=some c->Rd w2 G'' c (l.getD i default).val):
  isK kc k=true/\∃r,Instr.findNow (kcD kc) kv l 0=some r/\Rd w2 G'' y (if ok then .tuple #[(match r with|some (_,v)=>(v,true)|none=>(zv,false)).1,.bool (match r with|some (_,v)=>(v,true)|none=>(zv,false)).2]else(match r with|some (_,v)=>(v,true)|none=>(zv,false)).1):=by
 have tup:∀ {x:V} {v:Value} {b:Bool},Rd w2 G'' x v->Rd w2 G'' (if ok then .tup [x,.bool b]else x) (if ok then .tuple #[v,.bool b]else v):=by
  intro x v b hx;cases ok
  ·exact hx
  ·refine .tup _ _ rfl λi c hi=> ?_
   match i,hi with
   |0,hi=>simp_all
   |1,hi=>simp at hi;subst hi;simpa using Rd.bool b
   |i+2,hi=>simp at hi
 unfold lkV at hy;split at hy
 ·cases hy
 rename_i hik;have hik:isK kc k=true:=by simpa using hik
 refine⟨hik,?_⟩;simp only at hy;split at hy
 ·rename_i j hf;obtain⟨e,e1,e2,e3⟩:=WG hik hk hf h1 h3 0
  grind
 ·rename_i hf;have:=WG hik hk hf h1 h3 0
  grind
 ·cases hy
theorem zO(hr:RelG c B G s a w h g)(hC:holds s (ixC c C)){T:TypeId}{x k:Operand}{ok:Bool}{kk:TK}{es:List E}(hp:U5 c g C T x k ok=some (kk,es))(hes:∀e∈es,∃z,eval s e=some z)(d:Nat):
  Has c B s w h (λp=>a.tmps[p]?) d kk (Instr.lookup T (a.eval x) (a.eval k) ok):=by
 unfold U5 at hp;split at hp
 ·rename_i kt el hT;simp only[Zh7,Zha,Zhf]at hp;obtain⟨kc,hkc,z,hz,ea,ha,eb,hb,rfl,rfl⟩:=hp;obtain⟨u,hu,hur⟩:=Xh hr hC ha;obtain⟨v,hv,hvr⟩:=Xh hr hC hb;obtain⟨y,hy⟩:=hes _ (List.Mem.head _);have hy0:=hy;simp only[eval,hu,hv,Zhh]at hy;obtain⟨zv,hzr,hzrd⟩:=Z9f hz;have hkd:=qx hkc;generalize hav:a.eval x=av at hur;cases hur with
  |nomp=>
   obtain⟨hik,r,hf,hres⟩:=Ld (w2:=w) (G'':=h.ext ea.2) hy hvr hzrd (l:=[]) rfl rfl (λi c hi=>by simp at hi) (λi c hi=>by simp at hi);refine⟨_,?_,y,hy0,hres⟩;have hck:=Zkr (w:=w) hkd (Jf hik hvr);have hfk:=Zkf (w:=w) hkd hf;cases r with
   |none=>simp_all[Instr.lookup,ZhK,Result.andThen]
   |some p=>simp_all[Instr.lookup,ZhK,Result.andThen]
  |mp id ks xs b clk es h0 h1 h2 h3 h4 h5 h6=>
   obtain⟨hik,r,hf,hres⟩:=Ld (w2:=w) (G'':=h.ext ea.2) hy hvr hzrd (l:=es.toList) (by omega) (by omega) (λi c hi=>by simp_all) (λi c hi=>by simp_all);refine⟨_,?_,y,hy0,hres⟩;have hck:=Zkr (w:=w) hkd (Jf hik hvr);have hfk:=Zkf (w:=w) hkd hf;cases r with
   |none=>simp[Instr.lookup,ZhK hT,ZiI h2,hck,hfk,hzr,Result.andThen]
   |some p=>simp[Instr.lookup,ZhK hT,ZiI h2,hck,hfk,hzr,Result.andThen]
  |_=>simp[lkV]at hy
 ·cases hp
theorem jf{T:TypeId}{x k:Operand}{ok:Bool}{e:E}{sh:List Nat}{es:List E}(hp:U5 c g C T x k ok=some (.val e sh,es)):es=[e]:=by
 unfold U5 at hp;split at hp
 ·simp only[Zh7,Zha,Zhf,TK.val.injEq]at hp
  grind
 ·cases hp
theorem jg(hr:RelG c B G s a w h g)(hC:holds s (ixC c C)){T:TypeId}{x k:Operand}{ok:Bool}{kk:TK}{es:List E}(hp:zN c g C T x k ok=some (kk,es))(hes:∀e∈es,∃z,eval s e=some z)(d:Nat):
  Has c B s w h (λp=>a.tmps[p]?) d kk (Instr.lookup T (a.eval x) (a.eval k) ok):=by
 simp only[zN,Zh7]at hp;obtain⟨⟨k0,es0⟩,hp0,hp⟩:=hp;simp only at hp;split at hp
 ·rename_i e sh;simp only[Zh6,Zhf]at hp;obtain⟨rfl,rfl⟩:=hp;have h0:=jf hp0;subst h0;have hy:=hes _ (List.Mem.head _)
  have hye:∃z,eval s e=some z:=by
   obtain⟨z,hz⟩:=hy;unfold flE at hz;split at hz
   ·simp_all
   ·split at hz
    ·simp only[eval,Zh7]at hz;obtain⟨u,hu,_⟩:=hz;exact⟨u,hu⟩
    ·simp_all
  obtain⟨v,hv,x0,hx0,hrd⟩:=zO hr hC hp0 (by simp_all) d;obtain⟨z,hz,hzr⟩:=J2 (b:=(e,sh)) (fl:=(!ok&&Z9n c.P T)) hx0 hrd hy;exact⟨v,hv,z,hz,hzr⟩
 ·cases hp
theorem Z73{x z:V}(hz:qQ x=some z){G':Nat->Prop}{v:Value}(hv:Rd w G' x v){T ty k e:TypeId}(hT:c.P.underlying T=some (.map k e)):
  ∃r,(Builtin.len_ #[T] ty #[v]).run c.P w=.ok r w/\Rd w h.F z r:=by
 cases hv with
 |nomp=>
  simp only[qQ,Zh6]at hz;subst hz;exact⟨.int .i64 0,by simp[Builtin.len_,ZhK hT,goInt],.int _ _⟩
 |mp id ks xs b clk es h0 h1 h2 h3 h4 h5 h6=>
  simp only[qQ,Zh6]at hz;subst hz;exact⟨.int .i64 es.size,by simp[Builtin.len_,ZhK hT,ZiI h2,goInt,Result.andThen],by rw[h3];exact .int _ _⟩
 |_=>simp[qQ]at hz
theorem ZdJ(hr:RelG c B G s a w h g)(hC:holds s (ixC c C)){o:Oper}{k:TK}{es:List E}(hp:pk c g C o=some (k,es))(hes:∀e∈es,∃z,eval s e=some z)(d:Nat)(hd:o.dst=some d):PRun c B G s a w h o d k:=by
 have hok:=hr.ok;obtain⟨dst,op,type,pos,after,guard⟩:=o;simp only at hd;unfold pk at hp;simp only at hp;split at hp
 ·exact⟨_,w,rfl,PRes.here hok (Z3Z hr hC hp d)⟩
 ·rename_i x;obtain⟨v,h1,h2⟩:=Kv hr hC hp hes {dst,op:=.nilCheck x,type,pos,after,guard} rfl d;exact⟨v,w,h1,PRes.here hok h2⟩
 ·exact⟨_,w,rfl,PRes.here hok (je hr hC hp hes d)⟩
 ·exact PRun.of rfl (Z10 hok hp _ d)
 ·exact PRun.of rfl (Z6z hr hC hp hes _ d)
 ·exact Has.pr hok rfl (Z6y hr hC hp hes d)
 ·simp only[pkUn,Zha,Zhf]at hp;obtain⟨ea,ha,rfl,rfl⟩:=hp;obtain⟨u,hu,hur⟩:=UN hr hC ha;obtain⟨z,hz⟩:=hes _ (List.Mem.head _);have hz0:=hz;simp only[eval,hu,Zhh]at hz;exact Has.pr hok rfl (Z40 (x:=u) hz0 (R8 (Zbe hz hur) []) _)
 ·rename_i src dst' x;unfold Z9F at hp;split at hp
  grind
  ·rename_i hsrc;split at hp
   ·rename_i kk hdst;simp only[Zha,Zhf]at hp;obtain⟨ea,ha,rfl,rfl⟩:=hp;obtain⟨u,hu,hur⟩:=UN hr hC ha;obtain⟨z,hz⟩:=hes _ (List.Mem.head _);have hz0:=hz;simp only[eval,hu,Zhh]at hz;exact Has.pr hok rfl (Z40 (x:=u) hz0 (R8 (Z70 hz hur (by cases hh:c.P.underlying src<;>simp_all) hdst) []) _)
   grind
 ·rename_i x i;simp only[ZdH,Zha,Zhf]at hp;obtain⟨ea,ha,rfl,rfl⟩:=hp;obtain⟨u,hu,hur⟩:=UN hr hC ha;obtain⟨z,hz⟩:=hes _ (List.Mem.head _)
  have he:∃q,eval s (.ext ea.1 i)=some q:=by
   unfold flE at hz;split at hz
   ·simp_all
   ·split at hz
    ·simp only[eval,hu,Zhh]at hz⊢;cases hq:extV u i with
     |none=>simp_all
     |some q=>simp
    ·simp_all
  obtain⟨q,hq⟩:=he;have hq0:=hq;simp only[eval,hu,Zhh]at hq;obtain⟨r,hr1,hr2⟩:=Z8T (c:=c) (w:=w) hq hur;obtain⟨z',hz',hrz⟩:=J2 (h:=h) (fl:=Xw c.P type) (b:=(.ext ea.1 i,ea.2)) hq0 hr2 ⟨z,hz⟩;exact Has.pr hok rfl ⟨r,hr1,z',hz',hrz⟩
 ·exact Has.pr hok rfl (Z3X hr hC hp hes d)
 ·exact Has.pr hok rfl (Z12 hr hC hp hes d)
 ·exact Has.pr hok rfl (JB hr hC hp hes d)
 ·exact Has.pr hok rfl (Z6B hr hC hp hes d)
 ·exact Has.pr hok rfl (Z14 hr hC hp hes d)
 ·exact Has.pr hok rfl (Z16 hr hC hp hes d)
 ·
  rename_i T parts;unfold Z6A at hp
  ·simp only[Zh7]at hp;obtain⟨fs,hT,zs,hz,b,hb,hp⟩:=hp;split at hp
   ·rename_i hempty;have hts:b.2.2=[]:=by simpa using hempty
    have hev:∃z,eval s (.ag (b.1.map (·.2)))=some z:=by
     split at hp<;>(simp only[Zh6,Zhf]at hp;obtain⟨_,rfl⟩:=hp;exact hes _ (List.Mem.head _))
    obtain⟨z,hz1⟩:=hev;have hz1':=hz1;simp only[eval,Zha]at hz1';obtain⟨xs,hxs,hxz⟩:=hz1';obtain⟨hl,hx⟩:=Yy hxs;have hl':xs.length=b.1.length:=by grind
    obtain⟨vs,hrun,hsz,howns,hcell⟩:=Lw hr hC hT hz hb (λck hck=>by
     obtain⟨i,hi⟩:=Zhy hck;obtain⟨x,_,he⟩:=hx i ck.2 (by simp_all);simp_all)
    rw[hts]at howns hcell;refine Has.pr hok rfl ⟨.agg vs,hrun,?_⟩
    have hx2:∀(i:Nat) (x:V),xs[i]?=some x->x.one=true/\Rd w (h.ext b.2.1) x (vs.getD i undef):=by
     intro i x hi;have hlt:i<b.1.length:=by have:=(Zh9.1 hi).1;omega
     obtain⟨y,hy,hye⟩:=hx i (b.1[i]).2 (by simp_all);rw[hi]at hy;cases hy;have hc:=hcell i b.1[i] (Zh8 hlt);unfold BRel at hc;split at hc
     ·simp_all
     ·obtain⟨e1,e2⟩:=hc;rw[hye]at e2;cases e2;rw[e1];exact⟨rfl,.nil _ _ (Zim _)⟩
     ·simp_all
     ·grind
    have hone:∀x∈xs,x.one=true:=λx hxm=>by
     grind [List.getElem?_of_mem]
    have hzx:z=.agg xs:=by rw[<-hxz];simp only[agV,YC hone]
    split at hp
    ·rename_i hfz;simp only[Zhb,ZjH]at hfz;simp only[Zh6,Zhf]at hp;obtain⟨rfl,rfl⟩:=hp;refine⟨vs,rfl,hsz,λi ck hi=> ?_⟩;have hc:=hcell i ck hi;unfold BRel at hc;obtain⟨kk,e⟩:=ck;cases kk with
     |own ty=>simp_all
     |nil=>exact hc
     |fz=>
      obtain⟨x,e1,e2,e3⟩:=hc;rw[hfz.1]at e3;exact⟨x,e1,e2,e3.F⟩
     |dead=>grind
    ·simp only[Zh6,Zhf]at hp;obtain⟨rfl,rfl⟩:=hp;refine⟨z,hz1,?_⟩;rw[hzx];exact .agg xs vs (by omega) hone λi x hi=>(hx2 i x hi).2
   grind
 ·exact PRun.of rfl (Q4 hr hC hp hes _ d hd)
 ·exact PRun.of rfl (Z3Y hr hC hp hes _ d hd)
 ·exact Has.pr hok rfl (Ku hr hC hp d)
 ·exact PRun.of rfl (zP hok hp _ d)
 ·exact Has.pr hok rfl (jg hr hC hp hes d)
 ·
  rename_i args argTypes;split at hp
  ·rename_i x T hx hT;have hargs:args=#[x]:=Zii.1 (by omega);have htys:argTypes=#[T]:=Zii.1 (by omega);subst hargs htys
   have hex:execOp a.eval {dst,op:=.call {callee:=.builtin .len,args:=#[x],argTypes:=#[T]},type,pos,after,guard}=(do pure (.value (<-Builtin.len_ #[T] type #[a.eval x]))):=by
    simp[execOp,resolve,invoke,builtin]
   unfold ZdI at hp;split at hp
   ·rename_i e hT';simp only[Zha,Zhf]at hp;obtain⟨ea,ha,rfl,rfl⟩:=hp;obtain⟨u,hu,hur⟩:=UN hr hC ha;obtain⟨z,hz⟩:=hes _ (List.Mem.head _);have hz0:=hz;simp only[eval,hu,Zhh]at hz;exact Has.pr hok hex (Z40 (x:=u) hz0 (R8 (Z8U hz hur hT') []) _)
   ·rename_i n e hT';simp only[Zh6,Zhf]at hp;obtain⟨rfl,rfl⟩:=hp;refine Has.pr hok hex ⟨.int .i64 n,?_,_,rfl,.int _ _⟩;simp[Builtin.len_,ZhK hT',goInt]
   ·rename_i k e hT';simp only[Zha,Zhf]at hp;obtain⟨ea,ha,rfl,rfl⟩:=hp;obtain⟨u,hu,hur⟩:=UN hr hC ha;obtain⟨z,hz⟩:=hes _ (List.Mem.head _);have hz0:=hz;simp only[eval,hu,Zhh]at hz;exact Has.pr hok hex (Z40 (x:=u) hz0 (R8 (Z73 hz hur hT') []) _)
   grind
  grind
 ·rename_i args _;split at hp
  ·rename_i x y hx;have hargs:args=#[x,y]:=Zii.1 (by omega);subst hargs;simp only[pkMM,Zhk,ZhT,Zh7,Zha,Zhf]at hp;obtain⟨ea,ha,eb,hb,rfl,rfl⟩:=hp;obtain⟨u,hu,hur⟩:=UN hr hC ha;obtain⟨v,hv,hvr⟩:=UN hr hC hb;obtain⟨z,hz⟩:=hes _ (List.Mem.head _);have hz0:=hz;simp only[eval,hu,hv,Zhh]at hz;exact Has.pr hok (by simp[execOp,resolve,invoke,builtin];rfl) (Z40 (x:=u) hz0 (R8 (Z8W hz hur hvr _ type) []) _)
  grind
 ·rename_i args _;split at hp
  ·rename_i x y hx;have hargs:args=#[x,y]:=Zii.1 (by omega);subst hargs;simp only[pkMM,ZhR,Zh7,Zha,Zhf]at hp;obtain⟨ea,ha,eb,hb,rfl,rfl⟩:=hp;obtain⟨u,hu,hur⟩:=UN hr hC ha;obtain⟨v,hv,hvr⟩:=UN hr hC hb;obtain⟨z,hz⟩:=hes _ (List.Mem.head _);have hz0:=hz;simp only[eval,hu,hv,Zhh]at hz;exact Has.pr hok (by simp[execOp,resolve,invoke,builtin];rfl) (Z40 (x:=u) hz0 (R8 (Z8V hz hur hvr _ type) []) _)
  grind
 ·rename_i args argTypes;split at hp
  ·rename_i x y T U hx hT;have hargs:args=#[x,y]:=Zii.1 (by omega);have htys:argTypes=#[T,U]:=Zii.1 (by omega);subst hargs htys;exact PRun.of (by simp[execOp,resolve,invoke,builtin]) (jd (ty:=type) hr hC hp hes _ d hd)
  grind
 grind
end
end Vm
namespace Vm
open Go
open Go.RowKit (Below)
theorem Sy:∀ {g:Gam} {t:Nat},t∉ZB g->g.at t=([],.no)
 | [],t,_=>rfl
 | (u,x)::g,t,ht=>by
   simp only[ZB,ZhA,Zho,not_or]at ht;simp only[Gam.at];rw[if_neg (λe=>ht.1 e.symm)];exact Sy ht.2
theorem Z1H:∀ {g:Gam} {t:Nat},t∈ZB g->(t,g.at t)∈g
 | [],t,ht=>by simp[ZB]at ht
 | (u,x)::g,t,ht=>by
   simp only[Gam.at];by_cases hu:u=t
   ·subst hu;simp
   ·rw[if_neg hu]
    have:t∈ZB g:=by
     simp only[ZB,ZhA,Zho]at ht;exact ht.resolve_left λe=>hu e.symm
    exact ZhB _ (Z1H this)
theorem Y4:∀(a b:Gam) (t:Nat),(a++b).at t=if t∈ZB a then a.at t else b.at t
 | [],b,t=>by rfl
 | (u,x)::a,b,t=>by
   simp only[Zij,Gam.at];by_cases hu:u=t
   ·grind [ZB]
   ·rw[if_neg hu,if_neg hu,Y4 a b t]
    grind [ZB,List.map]
theorem Qg{ps rb fz:List Nat}{g:Gam}{t:Nat}(ht:t∈ZB (Wf ps rb fz g)):(Wf ps rb fz g).at t=([],.no):=by
 grind [Z1H,Wf,Option.some.injEq,Prod.mk.injEq]
theorem Z5Q{ps rb fz:List Nat}{g:Gam}{t:Nat}(ht:t∉ZB (Wf ps rb fz g)){x:Zj×TK}(hx:(t,x)∈g):calm ps rb fz x.2=true:=by
 by_cases hc:calm ps rb fz x.2=true
 ·exact hc
 ·exfalso;apply ht;simp only[ZB,Wf,Zhq,ZjW];exact⟨(t,[],.no),⟨(t,x),hx,by simp[hc]⟩,rfl⟩
theorem Z0a(ps rb fz:List Nat):calm ps rb fz .no=true:=by simp[calm,XB,leads,SW]
theorem La{ps rb fz:List Nat}{g:Gam}{t:Nat}(ht:t∉ZB (Wf ps rb fz g)):calm ps rb fz (g.at t).2=true:=by
 grind [ZB,Z5Q,Z1H,Sy,Z0a]
theorem Vd{fz:List Nat}{g:Gam}:ZB (Xm fz g)=fz:=by
 simp only[ZB,Xm,ZjO]
 conv=>rhs;rw[<-List.map_id fz]
 rfl
theorem Up:∀ {fz:List Nat} {g:Gam} {t:Nat},t∈fz->(Xm fz g).at t=((g.at t).1,Td (g.at t).2)
 | [],g,t,ht=>by simp at ht
 |p::fz,g,t,ht=>by
  simp only[Xm,ZhA,Gam.at];by_cases hp:p=t
  ·grind
  ·rw[if_neg hp];exact Up ((Zho.1 ht).resolve_left λe=>hp e.symm)
def GH.thaw(h:GH)(fz:List Nat):GH:= {F:=λb=>h.F b\/∃p∈fz,∃i,h.bl p (i+1)=some b,bl:=λp i=>if p∈fz/\i≠0 then none else h.bl p i,K:=h.K}
section
variable {c:Ctx}{B:Nat}{G:Nat->Prop}{s:St}{a:Act}{w w':World}{h h':GH}{g:Gam}{C:Zj}{fz:List Nat}
theorem Uk(hok:Ok B G w h)(fz:List Nat):Ok B G w (h.thaw fz)/\Step B [] [] fz w w h (h.thaw fz):=by
 refine⟨⟨hok.base,λb hb=> ?_,λb hb=> ?_,λb hb=>.inl (hok.g_F b hb),λt i b hb=> ?_,λt i u j b hb hb'=> ?_,hok.k_lt,λt i b hb=> ?_,λb hb=> ?_⟩,
  Zi3 _ _,λb hb _=>rfl,λb hb=>.inl hb,λt _ ht=> ?_,λt _=> ?_,λt i b _ ht hb=>.inr ⟨t,ht,i,hb⟩,rfl⟩
 ·obtain hb|⟨p,_,i,hi⟩:=hb
  ·exact hok.f_lt b hb
  ·exact(hok.b_lt p (i+1) b hi).2.1
 ·obtain hb|⟨p,_,i,hi⟩:=hb
  ·exact hok.f_or b hb
  ·exact .inr (hok.b_lt p (i+1) b hi).1
 ·simp only[GH.thaw]at hb;split at hb
  ·cases hb
  ·rename_i hn;obtain⟨h1,h2,h3⟩:=hok.b_lt t i b hb;refine⟨h1,h2,λhF=> ?_⟩;obtain hF|⟨p,hp,j,hj⟩:=hF
   ·exact h3 hF
   ·obtain⟨rfl,rfl⟩:=hok.inj t i p (j+1) b hb hj;simp_all
 ·simp only[GH.thaw]at hb hb';split at hb<;>split at hb'<;>first|(cases hb;done)|(cases hb';done)|exact hok.inj t i u j b hb hb'
 ·simp only[GH.thaw]at hb;split at hb
  ·cases hb
  ·exact hok.k_bl t i b hb
 ·obtain hb|⟨p,_,i,hi⟩:=hb
  ·exact hok.k_F b hb
  ·exact .inr (hok.k_bl p (i+1) b hi)
 ·simp_all[GH.thaw]
 ·simp[GH.thaw]
theorem y9{sh:List Nat}(hsub:∀p∈sh,p∈fz):∀b,h.ext sh b->(h.thaw fz).F b:=by
 intro b hb;obtain hb|⟨p,hp,i,hi⟩:=hb
 ·exact .inl hb
 ·exact .inr ⟨p,hsub p hp,i,hi⟩
theorem OwnV.one{P:Program}{o:Option Nat}{ty:TypeId}{x:V}{v:Value}(hv:OwnV P B w h o ty x v):x.one=true:=by
 obtain⟨l,xs,rfl,_⟩|⟨_,_,_,_,_,_,rfl,_⟩:=hv<;>rfl
theorem RelC.freeze{P:Program}{o:Option Nat}{k:CK}{e:E}{v:Value}(hr:RelC P B s w h o k e v)(hF:Same h.F w w')(hFF:∀b,h.F b->h'.F b)(ho:∀b,o=some b->w'.heap[b]?=w.heap[b]?)(hoF:∀b,o=some b->h'.F b)(o':Option Nat):
  RelC P B s w' h' o' (Zd0 k) e v:=by
 cases k with
 |fz=>obtain⟨x,h0,h1,h2⟩:=hr;exact⟨x,h0,h1,h2.keep hF hFF⟩
 |own ty=>
  obtain⟨x,h0,h1⟩:=hr;have h2:=h1.keep (h':=h') hF hFF ho;exact⟨x,h0,h2.one,h2.rd (λb hb=>hb) hoF⟩
 |nil=>exact hr
 |dead=>exact hr
theorem RelK.freeze{tm tm':Nat->Option Value}{t:Nat}{v:Value}{k:TK}{ps rb:List Nat}(hk:RelK c.P B s w h tm t v k)(hs:Step B ps rb fz w w' h h')(hok:Ok B G w h)(hrb:∀t∈rb,t∈ps)
  (ht:t∉ps) (htf:t∈fz) (hcalm:calm ps rb fz k=true) (htm:∀p,p∉ps->tm' p=tm p):RelK c.P B s w' h' tm' t v (Td k):=by
 have hF:Same h.F w w':=λb hb=>hs.F_same hok hb;cases hkk:k.owning with
 |false=>
  have:=hk.keep hs hok hrb ht (λ_=>hkk) hcalm htm;cases k<;>first|exact this|simp[TK.owning]at hkk
 |true=>
  cases k<;>first|(simp[TK.owning]at hkk;done)|skip
  ·rename_i ty e;obtain⟨x,h0,h1⟩:=hk;have h2:=h1.keep (h':=h') hF hs.F λb hb=>hs.bl_same hok ht hb;exact⟨x,h0,h2.rd (λb hb=>GH.ext_F hb) λb hb=>GH.ext_F (hs.fzF t 0 b ht htf hb)⟩
  ·rename_i cs;obtain⟨b,vs,T,h1,h2,h3,h4,h5⟩:=hk;refine⟨b,vs,T,by rw[hs.fz0 t (λhr=>ht (hrb t hr))];exact h1,h2,by rw[hs.bl_same hok ht h1];exact h3,by simpa using h4,λi ck hi=> ?_⟩;simp only[Zhr,Zha]at hi;obtain⟨ck',hi',rfl⟩:=hi;exact(h5 i ck' hi').freeze hF hs.F (λb hb=>hs.bl_same hok ht hb) (λb hb=>hs.fzF t i b ht htf hb) _
  ·rename_i cs;obtain⟨vs,rfl,h4⟩:=hk;simp only[Td];split
   ·trivial
   ·rename_i hd;obtain⟨x,hx,_,hrd⟩:=h4.rd (G':=λb=>h.F b\/∃i,h.bl t (i+1)=some b) (by simpa using hd) (λb hb=>.inl hb) (λ_ i b hb=>.inr ⟨i,hb⟩);refine⟨_,hx,hrd.keep (λb hb=> ?_) λb hb=> ?_⟩
    ·obtain hb|⟨i,hi⟩:=hb
     ·exact hF b hb
     ·exact hs.bl_same hok ht hi
    ·obtain hb|⟨i,hi⟩:=hb
     ·exact GH.ext_F (hs.F b hb)
     ·exact GH.ext_F (hs.fzF t i b ht htf hi)
theorem RelG.step{a':Act}{ps rb:List Nat}{d:Gam}(hr:RelG c B G s a w h g)(hs:Step B ps rb fz w w' h h')(hok':Ok B G w' h')(hrb:∀t∈rb,t∈ps)(htm:∀p,p∉ps->a'.tmps[p]?=a.tmps[p]?)
  (hps:∀t∈ps,t∈ZB d)
  (hd:∀t∈ZB d,(holds s (ixC c (d.at t).1)->(d.at t).2.isNo=false->∃v,a'.tmps[t]?=some v/\RelK c.P B s w' h' (λp=>a'.tmps[p]?) t v (d.at t).2)/\(¬holds s (ixC c (d.at t).1)->a'.tmps.getD t undef=undef)):
  RelG c B G s a' w' h' (d++Wf ps rb fz g++Xm fz g++g):=by
 have key:∀t,(holds s (ixC c ((d++Wf ps rb fz g++Xm fz g++g).at t).1)->((d++Wf ps rb fz g++Xm fz g++g).at t).2.isNo=false->∃v,a'.tmps[t]?=some v/\RelK c.P B s w' h' (λp=>a'.tmps[p]?) t v ((d++Wf ps rb fz g++Xm fz g++g).at t).2)/\
   (¬holds s (ixC c ((d++Wf ps rb fz g++Xm fz g++g).at t).1)->a'.tmps.getD t undef=undef):=by
  intro t;rw[Y4,Y4,Y4];simp only[ZB,Zic,Zhx];by_cases h1:t∈ZB d
  ·have h1':t∈List.map (·.1) d:=h1;simp_all
  ·have h1':t∉List.map (·.1) d:=h1;by_cases h2:t∈ZB (Wf ps rb fz g)
   ·have h2':t∈List.map (·.1) (Wf ps rb fz g):=h2;simp only[h1',h2',false_or,true_or,ZhR,ZhT,Qg h2];simp_all[TK.isNo,absurd,Y5,ixC]
   ·have h2':t∉List.map (·.1) (Wf ps rb fz g):=h2;have hc:=La h2;have htp:t∉ps:=λhp=>h1 (hps t hp);by_cases h3:t∈fz
    ·have h3':t∈List.map (·.1) (Xm fz g):=by have:=Vd (fz:=fz) (g:=g);unfold ZB at this;rw[this];exact h3
     simp only[h1',h2',h3',false_or,ZhR,ZhT,Up h3];refine⟨λhC hn=> ?_,λhn=> ?_⟩
     ·have hn':(g.at t).2.isNo=false:=by
       cases hk:(g.at t).2<;>first|rfl|simp_all[Td,TK.isNo]
      obtain⟨v,hv,hk⟩:=hr.at_ t hC hn';exact⟨v,by simp_all,hk.freeze hs hr.ok hrb htp h3 hc htm⟩
     ·have:=hr.skip t hn;simp_all
    ·have h3':t∉List.map (·.1) (Xm fz g):=by have:=Vd (fz:=fz) (g:=g);unfold ZB at this;rw[this];exact h3
     simp only[h1',h2',h3',false_or,ZhT];refine⟨λhC hn=> ?_,λhn=> ?_⟩
     ·obtain⟨v,hv,hk⟩:=hr.at_ t hC hn;exact⟨v,by simp_all,hk.keep hs hr.ok hrb htp (λhf=>absurd hf h3) hc htm⟩
     ·have:=hr.skip t hn;simp_all
 exact⟨hok',λt=>(key t).1,λt=>(key t).2⟩
theorem RelG.frz(hr:RelG c B G s a w h g)(fz:List Nat):RelG c B G s a w (h.thaw fz) (Vm.frz fz g):=by
 obtain⟨hok,hst⟩:=Uk hr.ok fz;have:=hr.step (d:=[]) (a':=a) hst hok (λ_ h=>h) (λ_ _=>rfl) (λt ht=>by simp at ht) (λt ht=>by simp[ZB]at ht);simpa[Vm.frz]using this
end
end Vm
namespace Vm
open Go
open Go.RowKit (Below)
def GH.put(h:GH)(d:Nat)(f:Nat->Option Nat)(r:Nat->Nat->Option Nat):GH:= {F:=h.F,bl:=λu=>if u=d then f else r u,K:=h.K}
def lost(h:GH)(ts:List Nat)(u:Nat)(i:Nat):Option Nat:=if u∈ts then none else h.bl u i
section
variable {c:Ctx}{B:Nat}{G:Nat->Prop}{s:St}{a a':Act}{w w':World}{h h':GH}{g:Gam}{C:Zj}{fz ps rb:List Nat}
theorem Ok.put(hok:Ok B G w h)(hsz:w.heap.size<=w'.heap.size){d:Nat}{f:Nat->Option Nat}{r:Nat->Nat->Option Nat}
  (hr:∀u i b,u≠d->r u i=some b->h.bl u i=some b) (hf:∀i b,f i=some b->(w.heap.size<=b/\b<w'.heap.size)\/∃t j,h.bl t j=some b)
  (hinj:∀i j b,f i=some b->f j=some b->i=j) (hdis:∀i b u j,u≠d->f i=some b->r u j=some b->False):Ok B G w' (h.put d f r):=by
 refine⟨Zht hok.base hsz,λb hb=>Zhj (hok.f_lt b hb) hsz,hok.f_or,hok.g_F,λt i b hb=> ?_,λt i u j b hb hb'=> ?_,λb hb=>Zhj (hok.k_lt b hb) hsz,λt i b hb hK=> ?_,hok.k_F⟩
 ·simp only[GH.put]at hb
  have old:∀t j,h.bl t j=some b->B<=b/\b<w'.heap.size/\¬h.F b:=λt j hj=>by
   obtain⟨h1,h2,h3⟩:=hok.b_lt t j b hj
   grind
  split at hb
  ·obtain⟨h1,h2⟩|⟨t,j,hj⟩:=hf i b hb
   ·exact⟨Zht hok.base h1,h2,λhF=>by have:=hok.f_lt _ hF;omega⟩
   ·exact old t j hj
  ·rename_i hne;exact old t i (hr t i b hne hb)
 ·simp only[GH.put]at hb hb';split at hb<;>split at hb'
  ·grind
  ·grind
  ·grind
  ·rename_i e1 e2;exact hok.inj t i u j b (hr t i b e1 hb) (hr u j b e2 hb')
 ·simp only[GH.put]at hb;split at hb
  ·obtain⟨h1,h2⟩|⟨t,j,hj⟩:=hf i b hb
   ·have:=hok.k_lt _ hK;omega
   ·exact hok.k_bl t j b hj hK
  ·rename_i hne;exact hok.k_bl t i b (hr t i b hne hb) hK
theorem ZS{ts:List Nat}{u i b:Nat}(hl:lost h ts u i=some b):h.bl u i=some b/\u∉ts:=by
 simp_all[lost]
theorem Z2f{ts:List Nat}{u:Nat}(hu:u∉ts):lost h ts u=h.bl u:=by
 grind [lost]
theorem XG(hb:Below B w w')(hsame:∀b,b<w.heap.size->(∀p∈ps,∀i,h.bl p i≠some b)->w'.heap[b]?=w.heap[b]?){d:Nat}{f:Nat->Option Nat}{ts:List Nat}
  (hd:d∈ps) (hts:∀t∈ts,t∈ps/\t∈rb) (h0:d∉rb->f 0=h.bl d 0):Step B ps rb [] w w' h (h.put d f (lost h ts)):=by
 refine⟨hb,hsame,λ_ hb=>hb,λt ht _=> ?_,λt ht=> ?_,λ_ _ _ _ hm=>(by simp at hm),rfl⟩
 ·have h1:t≠d:=λe=>ht (e▸hd);simp only[GH.put,if_neg h1]
  grind [Z2f]
 ·simp only[GH.put];split
  ·simp_all
  ·rw[Z2f λe=>ht (hts t e).2]
theorem Step.after(h2:Step B ps rb [] w w' (h.thaw fz) h'):Step B ps rb fz w w' h h':=by
 have hbl:∀p i b,(h.thaw fz).bl p i=some b->h.bl p i=some b:=by
  intro p i b hb;simp only[GH.thaw]at hb;split at hb
  ·cases hb
  ·exact hb
 refine⟨h2.below,λb hb hn=>h2.same b hb λp hp i hi=>hn p hp i (hbl p i b hi),λb hb=>h2.F b (.inl hb),λt ht htf=> ?_,λt ht=> ?_,λt i b _ htf hb=>h2.F b (.inr ⟨t,htf,i,hb⟩),h2.K⟩
 ·rw[h2.bl t ht (by simp)]
  grind [GH.thaw]
 ·rw[h2.fz0 t ht];simp[GH.thaw]
structure MPost (c:Ctx) (B:Nat) (G:Nat->Prop) (s:St) (a':Act) (w w':World) (h h':GH) (m:MS):Prop where
 step:Step B m.ps m.rb m.fz w w' h h'
 ok:Ok B G w' h'
 ent:∀t∈ZB m.d,(m.d.at t).1=[]/\((m.d.at t).2.isNo=false->∃u,a'.tmps[t]?=some u/\RelK c.P B s w' h' (λp=>a'.tmps[p]?) t u (m.d.at t).2)
theorem Ya{d:Nat}{k:TK}{ts:List Nat}(hd:∃u,a'.tmps[d]?=some u/\RelK c.P B s w' h' (λp=>a'.tmps[p]?) d u k):
  ∀t∈ZB ((d,[],k)::ts.map λt=>(t,([]:Zj),TK.no)),(Gam.at ((d,[],k)::ts.map λt=>(t,([]:Zj),TK.no)) t).1=[]/\
   ((Gam.at ((d,[],k)::ts.map λt=>(t,([]:Zj),TK.no)) t).2.isNo=false->∃u,a'.tmps[t]?=some u/\RelK c.P B s w' h' (λp=>a'.tmps[p]?) t u (Gam.at ((d,[],k)::ts.map λt=>(t,([]:Zj),TK.no)) t).2):=by
 intro t ht;simp only[Gam.at];by_cases hdt:d=t
 ·simp_all
 ·rw[if_neg hdt]
  have:∀(ts:List Nat),Gam.at (ts.map λt=>(t,([]:Zj),TK.no)) t=([],.no):=by
   intro ts
   induction ts with
   |nil=>rfl
   |cons u ts ih=>simp_all[ZhA,Gam.at,ite_self]
  rw[this];exact⟨rfl,λhn=>by simp[TK.isNo]at hn⟩
theorem Wm{d:Nat}(hd:d<a.tmps.size)(v:Value):(a.put (some d) v).tmps[d]?=some v:=by
 simp[Act.put,hd]
theorem JE{d t:Nat}(hd:t≠d)(v:Value):(a.put (some d) v).tmps[t]?=a.tmps[t]? :=by
 simp[Act.put,Zi4 (Zjd hd)]
theorem Zc(s:St)(c:Ctx):holds s (ixC c []):=Y5 s
theorem Zaz(hr:RelG c B G s a w h g){fl:Bool}{x:Operand}{b:E×List Nat}(hk:qy g fl x=some b){z:V}(hz:eval s b.1=some z):Rd w (h.thaw b.2).F z (a.eval x):=by
 simp only[qy,Zha]at hk;obtain⟨a0,ha,rfl⟩:=hk;obtain⟨y,hy,hyr⟩:=UN hr (Zc s c) ha;obtain⟨z',hz',hzr⟩:=J2 (fl:=fl) (b:=a0) hy hyr ⟨z,hz⟩;rw[hz]at hz';cases hz';exact hzr.mono (y9 λp hp=>hp)
theorem ZaA(hr:RelG c B G s a w h g){fl ag:Bool}{n:Nat}{x:Operand}{b:E×List Nat}(hk:qy g fl x=some b){z:V}(hz:eval s (tyE ag n b.1)=some z):
  (∀l,z≠.tup l)/\(ag=true->z.cells.length=n)/\(ag=false->z.one=true)/\Rd w (h.thaw b.2).F z (a.eval x):=by
 grind [Qt,Zaz]
theorem OwnV.mono{P:Program}{o o':Option Nat}{ty:TypeId}{x:V}{v:Value}(hv:OwnV P B w h o ty x v)(hF:∀b,h.F b->h'.F b)(ho:o=o'):OwnV P B w h' o' ty x v:=by
 subst ho;exact hv.keep (.refl _ _) hF λ_ _=>rfl
theorem Z25(hr:RelG c B G s a w h g){ty:TypeId}{d t:Nat}{e:E}{v:Value}(hd:d<a.tmps.size)(htd:t≠d){y:V}(hy:eval s e=some y)(hown:OwnV c.P B w h (h.bl t 1) ty y v):
  ∃h',MPost c B G s (a.put (some d) v) w w h h' {d:=[(d,[],.own ty e),(t,[],.no)],ps:=[d,t],rb:=[d,t],fz:=[],es:=[]}:=by
 refine⟨h.put d (λi=>if i=1 then h.bl t 1 else none) (lost h [t]),XG (Zi3 _ _) (λ_ _ _=>rfl) (by simp) (λu hu=>by simp at hu;grind) (λhn=>by simp at hn),
  hr.ok.put (Zhe _) (λu i b _ hb=>(ZS hb).1) (λi b hb=> ?_) (λi j b hi hj=> ?_) (λi b u j hu hi hj=> ?_),Ya (ts:=[t]) ⟨v,Wm hd v,y,hy,?_⟩⟩
 ·grind
 ·simp_all
 ·split at hi
  ·obtain⟨h1,h2⟩:=ZS hj;exact h2 (by simp[(hr.ok.inj t 1 u j b hi h1).1])
  ·cases hi
 ·exact hown.mono (λ_ hb=>hb) (by simp[GH.put])
theorem Z8n(hr:RelG c B G s a w h g){d t:Nat}{cs:List (CK×E)}{v:Value}(hd:d<a.tmps.size)(htd:t≠d)(hk:RelK c.P B s w h (λp=>a.tmps[p]?) t v (.mem cs)):
  ∃h',MPost c B G s (a.put (some d) v) w w h h' {d:=[(d,[],.mem cs),(t,[],.no)],ps:=[d,t],rb:=[d,t],fz:=[],es:=[]}:=by
 obtain⟨b,vs,T,h1,rfl,h2,h3,h4⟩:=hk
 refine⟨h.put d (λi=>h.bl t i) (lost h [t]),XG (Zi3 _ _) (λ_ _ _=>rfl) (by simp) (λu hu=>by simp at hu;grind) (λhn=>by simp at hn),
  hr.ok.put (Zhe _) (λu i b _ hb=>(ZS hb).1) (λi b hb=>.inr ⟨t,i,hb⟩) (λi j b hi hj=>(hr.ok.inj t i t j b hi hj).2) (λi b u j hu hi hj=> ?_),Ya (ts:=[t]) ⟨_,Wm hd _,b,vs,T,by simp[GH.put,h1],rfl,h2,h3,λi ck hi=> ?_⟩⟩
 ·obtain⟨h5,h6⟩:=ZS hj;exact h6 (by simp[(hr.ok.inj t i u j b hi h5).1])
 ·have:=(h4 i ck hi).keep (h':=h.put d (λi=>h.bl t i) (lost h [t])) (w':=w) (.refl _ _) (λ_ hb=>hb) λ_ _=>rfl;simp_all[GH.put]
def GH.yield(h:GH)(d p:Nat):GH:= {F:=λb=>h.F b\/∃i,h.bl p i=some b,bl:=λu i=>if u=p\/u=d then none else h.bl u i,K:=h.K}
theorem Z81(hr:RelG c B G s a w h g){d p:Nat}{cs:List (CK×E)}(hd:d<a.tmps.size)(hpd:p≠d)(hm:memOf g p=some cs)(hdd:Y8 cs=false){z:V}(hz:eval s (.pt none (cs.map (·.2)))=some z){v:Value}(hv:∃b,h.bl p 0=some b/\v=.pointer (some ⟨b,0,none⟩)):
  ∃h',MPost c B G s (a.put (some d) v) w w h h' {d:=[(d,[],.val (.pt none (cs.map (·.2))) []),(p,[],.no)],ps:=[d,p],rb:=[d,p],fz:=[],es:=[.pt none (cs.map (·.2))]}:=by
 obtain⟨b,vs,T,h1,_,h2,h3⟩:=hr.memOf hm;obtain⟨b',h1',rfl⟩:=hv;rw[h1]at h1';cases h1';have hok:=hr.ok
 have hbl:∀u i x,(h.yield d p).bl u i=some x->h.bl u i=some x/\u≠p:=by
  intro u i x hx;simp only[GH.yield]at hx;split at hx
  ·cases hx
  ·simp_all
 refine⟨h.yield d p,⟨Zi3 _ _,λ_ _ _=>rfl,λb hb=>.inl hb,λt ht _=> ?_,λt ht=> ?_,λ_ _ _ _ hm=>(by simp at hm),rfl⟩,⟨hok.base,λb hb=> ?_,λb hb=> ?_,λb hb=>.inl (hok.g_F b hb),λt i b hb=> ?_,λt i u j b hb hb'=>hok.inj t i u j b (hbl _ _ _ hb).1 (hbl _ _ _ hb').1,hok.k_lt,λt i b hb=>hok.k_bl t i b (hbl _ _ _ hb).1,λb hb=> ?_⟩,
  Ya (ts:=[p]) ⟨_,Wm hd _,z,hz,Jl h1 h2 h3 hdd hz (λb hb=>.inl (.inl hb)) λi b hb=>.inl (.inr ⟨i,hb⟩)⟩⟩
 ·simp_all[Zho,Zil,ZjD,not_or,GH.yield]
 ·simp_all[Zho,Zil,ZjD,not_or,GH.yield]
 ·obtain hb|⟨i,hi⟩:=hb
  ·exact hok.f_lt b hb
  ·exact(hok.b_lt p i b hi).2.1
 ·obtain hb|⟨i,hi⟩:=hb
  ·exact hok.f_or b hb
  ·exact .inr (hok.b_lt p i b hi).1
 ·obtain⟨hb1,hne⟩:=hbl _ _ _ hb;obtain⟨q1,q2,q3⟩:=hok.b_lt t i b hb1;refine⟨q1,q2,λhF=> ?_⟩;obtain hF|⟨j,hj⟩:=hF
  grind
  ·exact hne (hok.inj t i p j b hb1 hj).1
 ·obtain hb|⟨i,hi⟩:=hb
  ·exact hok.k_F b hb
  ·exact .inr (hok.k_bl p i b hi)
theorem RH(hr:RelG c B G s a w h g){ty:TypeId}{d:Nat}{x:Operand}{m:MS}(hd:d<a.tmps.size)(hm:Qh c g ty d x=some m)(hes:∀e∈m.es,∃z,eval s e=some z):
  ∃h',MPost c B G s (a.put (some d) (a.eval x)) w w h h' m:=by
 unfold Qh at hm;split at hm
 ·rename_i t ty' e hk;split at hm
  ·cases hm
  ·rename_i hne;have htd:t≠d:=λe=>hne (.inl e);simp only[Zh6]at hm;subst hm;obtain⟨v,hv,⟨y,hy,hown⟩,_⟩:=hr.look (Zc s c) (show look g [] t=_ from hk) rfl
   grind [Act.eval_tmp,Z25]
 ·rename_i t cs hk;split at hm
  ·cases hm
  ·rename_i hne;have htd:t≠d:=λe=>hne (.inl e);simp only[Zh6]at hm;subst hm;obtain⟨v,hv,hrel,_⟩:=hr.look (Zc s c) (show look g [] t=_ from hk) rfl
   grind [Act.eval_tmp,Z8n]
 ·rename_i t p hk;split at hm
  ·rename_i hcond;simp only[Zhb,Zkd,ne_eq]at hcond;simp only[Zh7]at hm;obtain⟨cs,hm1,hm⟩:=hm;split at hm
   ·cases hm
   ·rename_i hdd;simp only[Zh6]at hm;subst hm;obtain⟨z,hz⟩:=hes _ (List.Mem.head _);obtain⟨v,hv,hrel,_⟩:=hr.look (Zc s c) (show look g [] t=_ from hk) rfl;rw[Act.eval_tmp a t v hv];exact Z81 hr hd hcond.2 hm1 (by simp_all) hz hrel
  ·cases hm
 ·rename_i hk;simp only[Zh6]at hm;subst hm;rw[R4 hr (Zc s c) hk]
  exact⟨h.put d (λ_=>none) (lost h []),XG (Zi3 _ _) (λ_ _ _=>rfl) (by simp) (λu hu=>by simp at hu) (λhn=>by simp at hn),
   hr.ok.put (Zhe _) (λu i b _ hb=>(ZS hb).1) (λi b hb=>by cases hb) (λi j b hi hj=>by cases hi) (λi b u j hu hi hj=>by cases hi),Ya (ts:=[]) ⟨_,Wm hd _,rfl⟩⟩
 ·split at hm
  ·rename_i p ty' e hho;simp only[Zh6]at hm;subst hm;unfold Z24 at hho;split at hho
   ·rename_i p' hk;split at hho
    ·rename_i hcond;simp only[Zhb,Zkd,ne_eq]at hcond;simp only[Zha,Zhf]at hho;obtain⟨⟨q1,q2⟩,hho,rfl,rfl,rfl⟩:=hho;obtain⟨v,hv,y,hy,hown⟩:=hr.ownOf hho;have hrel:a.tmps[p']?=some (a.eval _):=ZR hr (Zc s c) hk rfl 0
     grind [Option.some.injEq,Z25]
    grind
   grind
  ·simp only[Zha]at hm;obtain⟨b,hb,rfl⟩:=hm;obtain⟨z,hz⟩:=hes b.1 (by simp);have hrd:=Zaz hr hb hz;obtain⟨hok1,_⟩:=Uk hr.ok b.2
   exact⟨(h.thaw b.2).put d (λ_=>none) (lost (h.thaw b.2) []),Step.after (XG (Zi3 _ _) (λ_ _ _=>rfl) (by simp) (λu hu=>by simp at hu) (λhn=>by simp at hn)),
    hok1.put (Zhe _) (λu i b _ hb=>(ZS hb).1) (λi b hb=>by cases hb) (λi j b hi hj=>by cases hi) (λi b u j hu hi hj=>by cases hi),Ya (ts:=[]) ⟨_,Wm hd _,z,hz,hrd.mono λb hb=>GH.ext_F hb⟩⟩
def Xi(cur:Array Value)(o:Nat)(new:Array Value):Array Value:=(cur.toList.take o++new.toList++cur.toList.drop (o+new.size)).toArray
theorem Tr{cur new:Array Value}{o:Nat}(hle:o+new.size<=cur.size):(Xi cur o new).size=cur.size:=by
 grind [Xi]
theorem JN{cur new:Array Value}{o:Nat}(hle:o+new.size<=cur.size){i:Nat}(hi:i<new.size):(Xi cur o new).getD (o+i) undef=new.getD i undef:=by
 simp only[Xi,Zhc,Zj9]
 grind
theorem UA{cur new:Array Value}{o:Nat}(hle:o+new.size<=cur.size){i:Nat}(hi:i<o\/o+new.size<=i):(Xi cur o new).getD i undef=cur.getD i undef:=by
 simp only[Xi,Zhc,Zj9]
 grind
theorem Ug{P:Program}{T:TypeId}(hT:okT P T=true){b o:Nat}{cur:Array Value}{ty:TypeId}(hh:w.heap[b]?=some (.cells cur ty (0,0))){v:Value}(hn:v.cells.size=P.cellsOf T)(hone:∀(i:Nat),i<v.cells.size->(v.cells.getD i undef).oneCell'=true)(hle:o+v.cells.size<=cur.size):
  (Instr.storeAt T (.pointer (some ⟨b,o,none⟩)) v).run P w=.ok () (w.setRow b (Xi cur o v.cells)):=by
 obtain⟨d,i,hd,hi,hs,_⟩:=WN hT
 have hst:=run_storeCells_at (P:=P) b o ty v.cells.toList 0 cur w hh (by omega) (λu hu=>by
  obtain⟨j,hj⟩:=Zhy hu;have hlt:j<v.cells.size:=by simpa using(Zh9.1 hj).1
  have:=hone j hlt
  have hget:v.cells.getD j undef=u:=by
   simp only[Zhc];rw[Zio]at hj;rw[hj];rfl
  simp_all)
 simp_all[Zjg,Zjh,Instr.storeAt,Instr.sureAddr,storeVar,YF,Xi]
theorem VL(w:World){b:Nat}(hb:B<=b)(cs:Array Value):Below B w (w.setRow b cs):=
 ⟨rfl,rfl,rfl,by simp,λk hk=>Zju w b k cs (by omega)⟩
theorem Ts(hok:Ok B G w h){b:Nat}(cs:Array Value){G':Nat->Prop}(hn:∀x,G' x->x≠b):Same G' w (w.setRow b cs):=λx hx=>Zju w b x cs (hn x hx)
theorem Wp{cs new:List (CK×E)}{o:Nat}(hle:o+new.length<=cs.length):(UD cs o new).length=cs.length/\∀(i:Nat) (ck:CK×E),(UD cs o new)[i]?=some ck->(o<=i/\i<o+new.length/\new[i-o]?=some ck)\/((i<o\/o+new.length<=i)/\cs[i]?=some ck):=by
 unfold UD;refine⟨by simp;omega,λi ck hi=> ?_⟩;by_cases h1:i<o
 ·grind
 ·by_cases h2:i<o+new.length
  ·grind
  ·right;rw[ZhH (by simp;omega),ZhU]at hi
   grind
theorem K1(hok:Ok B G w h){p o b:Nat}{cs new:List (CK×E)}{cur row:Array Value}{ty:TypeId}(hbl:h.bl p 0=some b)(hh:w.heap[b]?=some (.cells cur ty (0,0)))(hcs:RelCs c.P B s w h p cs cur)
  (hsz:row.size=cur.size) (hle:o+new.length<=cs.length) (hrow:∀i,i<o\/o+new.length<=i->row.getD i undef=cur.getD i undef) {ts:List Nat} {f:Nat->Option Nat} (hpt:p∉ts)
  (hf0:f 0=h.bl p 0) (hfout:∀i,i<o\/o+new.length<=i->f (i+1)=h.bl p (i+1)) (hfin:∀i x,i<new.length->f (o+i+1)=some x->h.bl p (o+i+1)=some x\/∃t∈ts,∃j,h.bl t j=some x)
  (hinj:∀i j x,f i=some x->f j=some x->i=j)
  (hnew:∀(i:Nat) (ck:CK×E),new[i]?=some ck->RelC c.P B s w h (f (o+i+1)) ck.1 ck.2 (row.getD (o+i) undef)) (tm:Nat->Option Value):
  ∃h',Ok B G (w.setRow b row) h'/\Step B (p::ts) ts [] w (w.setRow b row) h h'/\
   RelK c.P B s (w.setRow b row) h' tm p (.pointer (some ⟨b,0,none⟩)) (.mem (UD cs o new)):=by
 obtain⟨hbB,hblt,hbF⟩:=hok.b_lt p 0 b hbl;obtain⟨hsl,hget⟩:=Wp hle;have hFs:Same h.F w (w.setRow b row):=Ts hok _ λx hx e=>hbF (e▸hx)
 have hfb:∀i x,f (i+1)=some x->x≠b/\((h.bl p (i+1)=some x)\/∃t∈ts,∃j,h.bl t j=some x):=by
  intro i x hx
  have h2:h.bl p (i+1)=some x\/∃t∈ts,∃j,h.bl t j=some x:=by
   by_cases hin:o<=i/\i<o+new.length
   ·have:=hfin (i-o) x (by omega)
    grind
   ·grind
  refine⟨λe=> ?_,h2⟩;subst e;obtain h2|⟨t,ht,j,hj⟩:=h2
  ·grind
  ·grind
 refine⟨h.put p f (lost h ts),hok.put (by simp) (λu i x _ hx=>(ZS hx).1) (λi x hx=>.inr ?_) hinj (λi x u j hu hi hj=> ?_),
  XG (VL w hbB _) (λx hx hn=>Zju w b x _ λe=>hn p (by simp) 0 (e▸hbl)) (by simp) (λt ht=>⟨by simp[ht],ht⟩) (λ_=>hf0),b,row,ty,by grind [GH.put],rfl,setRow_heap w b cur _ ty (0,0) hh,by rw[hsz,hcs.1,hsl],λi ck hi=> ?_⟩
 ·cases i with
  |zero=>grind
  |succ i=>
   grind
 ·obtain⟨k1,k2⟩:=ZS hj;cases i with
  |zero=>rw[hf0]at hi;exact hu (hok.inj u j p 0 x k1 hi).1
  |succ i=>
   rcases(hfb i x hi).2 with h2|⟨t,ht,j',hj'⟩
   ·exact hu (hok.inj u j p (i+1) x k1 h2).1
   ·exact k2 ((hok.inj u j t j' x k1 hj').1▸ht)
 ·have hbl':(h.put p f (lost h ts)).bl p (i+1)=f (i+1):=by simp[GH.put]
  rw[hbl'];have hkeep:∀x,f (i+1)=some x->(w.setRow b row).heap[x]?=w.heap[x]? :=λx hx=>Zju w b x _ (hfb i x hx).1;obtain⟨h1,h2,h3⟩|⟨h1,h3⟩:=hget i ck hi
  ·have:=hnew (i-o) ck h3;rw[show o+(i-o)=i from by omega]at this;exact this.keep hFs (λ_ hb=>hb) hkeep
  ·have:=hcs.2 i ck h3;rw[hrow i h1,hfout i h1];rw[hfout i h1]at hkeep;exact this.keep hFs (λ_ hb=>hb) hkeep
theorem U8{p o:Nat}{new:List (CK×E)}{k:TK}(hp:putM g p o new=some k):∃cs,memOf g p=some cs/\o+new.length<=cs.length/\k=.mem (UD cs o new):=by
 grind [putM,Option.bind_eq_some_iff,Option.some.injEq]
theorem WY(hr:RelG c B G s a w h g){T:TypeId}(hT:okT c.P T=true){p o b:Nat}{new:List (CK×E)}{k:TK}(hp:putM g p o new=some k)(hbl:h.bl p 0=some b){v:Value}(hn:v.cells.size=c.P.cellsOf T)(hlen:new.length=c.P.cellsOf T)
  {ts:List Nat} {f:Nat->Option Nat} (hpt:p∉ts) (hf0:f 0=h.bl p 0) (hfout:∀i,i<o\/o+new.length<=i->f (i+1)=h.bl p (i+1)) (hfin:∀i x,i<new.length->f (o+i+1)=some x->h.bl p (o+i+1)=some x\/∃t∈ts,∃j,h.bl t j=some x)
  (hinj:∀i j x,f i=some x->f j=some x->i=j)
  (hnew:∀(i:Nat) (ck:CK×E),new[i]?=some ck->RelC c.P B s w h (f (o+i+1)) ck.1 ck.2 (v.cells.getD i undef)):
  ∃w' h',(Instr.storeAt T (.pointer (some ⟨b,o,none⟩)) v).run c.P w=.ok () w'/\Ok B G w' h'/\Step B (p::ts) ts [] w w' h h'/\∃u,a.tmps[p]?=some u/\RelK c.P B s w' h' (λp=>a.tmps[p]?) p u k:=by
 obtain⟨cs,hm,hle,rfl⟩:=U8 hp;obtain⟨b',cur,ty,h1,htm,hh,hcs⟩:=hr.memOf hm;rw[hbl]at h1;cases h1;have hle':o+v.cells.size<=cur.size:=by rw[hcs.1,hn,<-hlen];exact hle
 have hvn:v.cells.size=new.length:=by rw[hn,hlen]
 obtain⟨h',k1,k2,k3⟩:=K1 (row:=Xi cur o v.cells) hr.ok hbl hh hcs (Tr hle') hle (λi hi=>UA hle' (by omega)) hpt hf0 hfout hfin hinj (λi ck hi=>by
  grind [JN,List.getElem?_eq_some_iff]) (λp=>a.tmps[p]?)
 refine⟨_,h',Ug hT hh hn (λi hi=> ?_) hle',k1,k2,_,htm,k3⟩;exact(hnew i new[i] (Zh8 (by omega))).cell
theorem Z98{n:Nat}{e:E}{z:V}{v:Value}(hz:eval s e=some z)(ht:∀l,z≠.tup l)(hrd:Rd w h.F z v)(o:Option Nat){i:Nat}{ck:CK×E}(hlt:i<z.cells.length)(hi:ck=(CK.fz,E.fld e i)):RelC c.P B s w h o ck.1 ck.2 (v.cells.getD i undef):=by
 subst hi;obtain⟨hs1,hs2,hs3⟩:=hrd.cells ht;have hget:z.cells[i]?=some z.cells[i]:=Zh8 hlt;refine⟨z.cells[i],?_,hs2 _ (Zhi _),hs3 i _ hget⟩;simp_all[eval,Zhh,fldV,ZdG,oneV,if_pos,Zhi]
theorem Sf{β:Type}{n i:Nat}{f:Nat->β}{y:β}(hi:((List.range n).map f)[i]?=some y):i<n/\y=f i:=by
 grind
theorem RI(hr:RelG c B G s a w h g){T:TypeId}(hT:okT c.P T=true)(hT1:Zr c.P T=true\/c.P.cellsOf T=1){p o:Nat}{x:Operand}{m:MS}(hm:Qi c g T p o x=some m)(hes:∀e∈m.es,∃z,eval s e=some z){b:Nat}(hbl:h.bl p 0=some b):
  ∃w' h',(Instr.storeAt T (.pointer (some ⟨b,o,none⟩)) (a.eval x)).run c.P w=.ok () w'/\MPost c B G s a w w' h h' m:=by
 have hthaw:∀fz,(h.thaw fz).bl p 0=some b:=λfz=>by simp[GH.thaw,hbl]
 unfold Qi at hm;simp only at hm;split at hm
 ·rename_i hag;split at hm
  ·rename_i t cs hk;split at hm
   ·rename_i hcond;obtain⟨hl,htp,_⟩:=hcond;simp only[Zha]at hm;obtain⟨k,hput,rfl⟩:=hm;obtain⟨v,hv,⟨vs,rfl,hcs⟩,_⟩:=hr.look (Zc s c) (show look g [] t=_ from hk) rfl;rw[Act.eval_tmp a t _ hv]
    obtain⟨w',h',e1,e2,e3,e4⟩:=WY hr hT hput hbl (v:=.agg vs) (by show vs.size=_;rw[hcs.1,hl]) hl (ts:=[t]) (f:=λi=>if o+1<=i/\i<o+1+cs.length then h.bl t (i-o)else h.bl p i) (by simpa using Zjd htp)
     (if_neg (by omega)) (λi hi=>if_neg (by omega)) (λi x hi hx=>.inr ⟨t,by simp,_,by rw[if_pos (by omega)]at hx;exact hx⟩) (λi j x hi hj=>by
      split at hi<;>split at hj
      ·have:=(hr.ok.inj t _ t _ x hi hj).2;omega
      ·exact absurd (hr.ok.inj t _ p _ x hi hj).1 htp
      ·exact absurd (hr.ok.inj t _ p _ x hj hi).1 htp
      ·exact(hr.ok.inj p _ p _ x hi hj).2)
     (λi ck hi=>by
      have hlt:=(Zh9.1 hi).1;rw[if_pos (by omega),show o+i+1-o=i+1 from by omega];exact hcs.2 i ck hi)
    exact⟨w',h',e1,e3,e2,Ya (ts:=[t]) e4⟩
   ·cases hm
  ·simp only[Zh7,Zha]at hm;obtain⟨b0,hb0,k,hput,rfl⟩:=hm;obtain⟨z,hz⟩:=hes _ (List.Mem.head _);obtain⟨k1,k2,k3,k4⟩:=ZaA hr hb0 hz;obtain⟨hs1,hs2,hs3⟩:=k4.cells k1
   obtain⟨w',h',e1,e2,e3,e4⟩:=WY (hr.frz b0.2) hT hput (hthaw _) (hs1.trans (k2 rfl)) (by simp) (ts:=[]) (f:=(h.thaw b0.2).bl p) (by simp) rfl (λ_ _=>rfl) (λi x _ hx=>.inl hx)
    (λi j x hi hj=>((Uk hr.ok b0.2).1.inj p i p j x hi hj).2) (λi ck hi=>by
     obtain⟨hlt,rfl⟩:=Sf hi;exact Z98 (n:=0) hz k1 k4 _ (by rw[k2 rfl];exact hlt) rfl)
   exact⟨w',h',e1,e3.after,e2,Ya (ts:=[]) e4⟩
 ·rename_i hag;have h1:c.P.cellsOf T=1:=hT1.resolve_left hag;split at hm
  ·rename_i t ty e hk;split at hm
   ·rename_i hcond;obtain⟨htp,_⟩:=hcond;simp only[Zha]at hm;obtain⟨k,hput,rfl⟩:=hm;obtain⟨v,hv,⟨y,hy,hown⟩,_⟩:=hr.look (Zc s c) (show look g [] t=_ from hk) rfl;rw[Act.eval_tmp a t _ hv]
    have hvc:v.cells=#[v]:=by
     obtain⟨l,xs,_,_,_,⟨_,hc⟩,_⟩|⟨_,_,_,_,_,_,_,rfl,_⟩:=hown
     ·obtain⟨rfl,_⟩|⟨_,_,_,rfl,_⟩:=hc<;>rfl
     ·rfl
    obtain⟨w',h',e1,e2,e3,e4⟩:=WY hr hT hput hbl (v:=v) (by rw[hvc,h1];rfl) (by rw[h1];rfl) (ts:=[t]) (f:=λi=>if i=o+1 then h.bl t 1 else h.bl p i) (by simpa using Zjd htp)
     (if_neg (by omega)) (λi hi=>if_neg (by simp only[Zip]at hi;omega)) (λi x hi hx=>.inr ⟨t,by simp,1,by simp only[Zip]at hi;rw[if_pos (by omega)]at hx;exact hx⟩) (λi j x hi hj=>by
      split at hi<;>split at hj
      ·omega
      ·exact absurd (hr.ok.inj t _ p _ x hi hj).1 htp
      ·exact absurd (hr.ok.inj t _ p _ x hj hi).1 htp
      ·exact(hr.ok.inj p _ p _ x hi hj).2)
     (λi ck hi=>by
      cases i with
      |zero=>simp at hi;subst hi;rw[if_pos (by omega),hvc];exact⟨y,hy,hown⟩
      |succ i=>simp at hi)
    exact⟨w',h',e1,e3,e2,Ya (ts:=[t]) e4⟩
   ·cases hm
  ·rename_i hk;simp only[Zha]at hm;obtain⟨k,hput,rfl⟩:=hm;rw[R4 hr (Zc s c) hk]
   obtain⟨w',h',e1,e2,e3,e4⟩:=WY hr hT hput hbl (v:=.slice none 0 0) (by rw[h1];rfl) (by rw[h1];rfl) (ts:=[]) (f:=h.bl p) (by simp) rfl (λ_ _=>rfl) (λi x _ hx=>.inl hx)
    (λi j x hi hj=>(hr.ok.inj p i p j x hi hj).2) (λi ck hi=>by
     cases i with
     |zero=>simp at hi;subst hi;exact⟨rfl,rfl⟩
     |succ i=>simp at hi)
   exact⟨w',h',e1,e3,e2,Ya (ts:=[]) e4⟩
  ·simp only[Zh7,Zha]at hm;obtain⟨b0,hb0,k,hput,rfl⟩:=hm;obtain⟨z,hz⟩:=hes _ (List.Mem.head _);obtain⟨hz1,hzo⟩:=j5 hz;have k4:=Zaz hr hb0 hz1;obtain⟨hs1,hs2,hs3⟩:=k4.cells (Js hzo);rw[YL hzo]at hs1 hs3
   obtain⟨w',h',e1,e2,e3,e4⟩:=WY (hr.frz b0.2) hT hput (hthaw _) (hs1.trans (by rw[h1];rfl)) (by rw[h1];rfl) (ts:=[]) (f:=(h.thaw b0.2).bl p) (by simp) rfl (λ_ _=>rfl) (λi x _ hx=>.inl hx)
    (λi j x hi hj=>((Uk hr.ok b0.2).1.inj p i p j x hi hj).2) (λi ck hi=>by
     cases i with
     |zero=>simp at hi;subst hi;exact⟨z,hz,hzo,hs3 0 z rfl⟩
     |succ i=>simp at hi)
   exact⟨w',h',e1,e3.after,e2,Ya (ts:=[]) e4⟩
end
end Vm
namespace Vm
open Go
open Go.RowKit (Below)
theorem RT{cs b:List V}{o:Nat}(hle:o+b.length<=cs.length):(ZC cs o b).length=cs.length/\(∀i,i<b.length->(ZC cs o b)[o+i]?=b[i]?)/\∀i,i<o\/o+b.length<=i->(ZC cs o b)[i]?=cs[i]? :=by
 unfold ZC;refine⟨by simp;omega,λi hi=> ?_,λi hi=> ?_⟩
 ·grind
 ·obtain hi|hi:=hi
  ·grind
  ·rw[ZhH (by simp;omega),ZhU]
   grind
theorem jy{cs b:List V}{o:Nat}{x:V}(hx:x∈ZC cs o b):x∈cs\/x∈b:=by
 grind [ZC,List.mem_of_mem_take,List.mem_of_mem_drop]
theorem Z8I{y:V}{k o:Nat}{b:List V}(hy:y.fits k)(hb:∀x∈b,x.one=true)(hne:b≠[])(hle:o+b.length<=y.cells.length):
  (y.put o b).fits k/\(∀i,i<b.length->(y.put o b).cells[o+i]?=b[i]?)/\∀i,i<o\/o+b.length<=i->(y.put o b).cells[i]?=y.cells[i]? :=by
 have other:y.cells=[y]->y.put o b=b.headD y->(y.put o b).fits k/\(∀i,i<b.length->(y.put o b).cells[o+i]?=b[i]?)/\∀i,i<o\/o+b.length<=i->(y.put o b).cells[i]?=y.cells[i]? :=by
  intro hyc hput;have hlen:y.cells.length=1:=by rw[hyc];rfl
  match b,hne,hle with
  | [z],_,hle=>
    simp only[Zip]at hle;have ho:o=0:=by omega
    subst ho;have hz:=hb z (by simp);have hpz:y.put 0 [z]=z:=by rw[hput];rfl
    rw[hpz];refine⟨⟨by rw[YL hz,<-hy.1,hlen];rfl,λc hc=>by simp_all[YL]⟩,λi hi=> ?_,λi hi=> ?_⟩
    ·have:i=0:=by grind
     subst this;rw[YL hz]
    simp_all[YL,Zih]
  |z::z'::r,_,hle=>grind
 cases y with
 |agg cs=>
  have hle':o+b.length<=cs.length:=hle;obtain⟨h1,h2,h3⟩:=RT hle';refine⟨⟨by show(ZC cs o b).length=k;rw[h1];exact hy.1,λc hc=> ?_⟩,h2,h3⟩;obtain hc|hc:=jy (show c∈ZC cs o b from hc)
  ·exact hy.2 c hc
  simp_all
 |tup l=>exact other rfl rfl
 |int k n=>exact other rfl rfl
 |bool v=>exact other rfl rfl
 |str v=>exact other rfl rfl
 |sl l=>exact other rfl rfl
 |ptr l=>exact other rfl rfl
 |fn f=>exact other rfl rfl
 |clo f cs=>exact other rfl rfl
 |nul k=>exact other rfl rfl
 |mp id ks xs=>exact other rfl rfl
theorem jI{x i z u:V}{o:Nat}(hz:updV x i o z=some u):∃l ki q y,x=.sl l/\i=.int ki (q:Nat)/\l[q]?=some y/\o+z.cells.length<=y.cells.length/\z.cells≠[]/\u=.sl (l.set q (y.put o z.cells)):=by
 unfold updV at hz;split at hz
 ·rename_i l ki i;split at hz
  ·rename_i h0;obtain⟨q,rfl⟩:=Zhl h0;rw[ZhV,Zh7]at hz;obtain⟨y,hy,hz⟩:=hz;split at hz
   ·rename_i hc;simp only[Zh6]at hz;exact⟨l,ki,q,y,rfl,rfl,hy,hc.1,hc.2,hz.symm⟩
   grind
  grind
 grind
section
variable {c:Ctx}{B:Nat}{G:Nat->Prop}{s:St}{a a':Act}{w w':World}{h h':GH}{g:Gam}{C:Zj}{fz ps rb:List Nat}
theorem OwnV.store(hok:Ok B G w h){p i n:Nat}{ty:TypeId}{x u:V}{v:Value}(hv:OwnV c.P B w h (h.bl p i) ty x v)(hbl:h.bl p i=some n){ki:IntKind}{q off:Nat}{z:V}(hu:updV x (.int ki (q:Nat)) off z=some u)
  {T:TypeId} (hT:okT c.P T=true) {vz:Value} (hzt:∀l,z≠.tup l) (hzr:Rd w h.F z vz) (hzn:z.cells.length=c.P.cellsOf T):
  ∃row,(Instr.storeAt T (.pointer (some ⟨n,q*c.P.cellsOf ty+off,none⟩)) vz).run c.P w=.ok () (w.setRow n row)/\OwnV c.P B (w.setRow n row) h (h.bl p i) ty u v:=by
 obtain⟨l,xs,rfl,h0,hfit,hown,hb,hrd⟩|⟨_,_,_,_,_,_,rfl,_⟩:=hv
 case inr=>grind [jI]
 obtain⟨l',ki',q',y,hl',hq',hy,hle,hne,rfl⟩:=jI hu;cases hl';simp only[V.int.injEq]at hq';have hqq:q'=q:=by omega
 subst hqq;obtain⟨hnB,hnlt,hnF⟩:=hok.b_lt p i n hbl;obtain⟨hs1,hs2,hs3⟩:=hzr.cells hzt;have hyf:=hfit y (Zhg hy);obtain⟨f1,f2,f3⟩:=Z8I hyf (λx hx=>hs2 x hx) hne hle;have hq:q'<l.length:=(Zh9.1 hy).1;have hqk:q'*c.P.cellsOf ty+c.P.cellsOf ty<=l.length*c.P.cellsOf ty:=by rw[<-Ziq];exact ZhD _ hq
 rw[hyf.1]at hle;obtain⟨rfl,hn⟩|⟨n',cap,cur,rfl,hB,hh,hlc,hcap,hsz,htk⟩:=hown.2
 ·omega
 ·have hnn:n'=n:=by
   have:Value.ownBlock (.slice (some ⟨n',0,none⟩) l.length cap)=some n':=rfl;rw[this,hbl]at hb;cases hb;rfl
  subst hnn;have hcl:l.length*c.P.cellsOf ty<=cur.size:=by rw[hsz];exact ZhD _ hlc
  have hle':(q'*c.P.cellsOf ty+off)+vz.cells.size<=cur.size:=by rw[hs1];omega
  refine⟨Xi cur (q'*c.P.cellsOf ty+off) vz.cells,Ug hT hh (by omega) (λj hj=> ?_) hle',?_⟩
  ·have hj':j<z.cells.length:=by rw[<-hs1];exact hj
   have:=hs3 j z.cells[j] (Zh8 hj');rw[this.one_eq];simp_all
  ·have hfit':∀x∈l.set q' (y.put off z.cells),x.fits (c.P.cellsOf ty):=by
    intro x hx;obtain hx|rfl:=Zjc hx
    ·simp_all
    ·exact f1
   have hFs:Same h.F w (w.setRow n' (Xi cur (q'*c.P.cellsOf ty+off) vz.cells)):=Ts hok _ λx hx e=>hnF (e▸hx);have hrs:=Tr hle';refine .inl ⟨l.set q' (y.put off z.cells),(Xi cur (q'*c.P.cellsOf ty+off) vz.cells).toList.take (l.length*c.P.cellsOf ty),rfl,h0,hfit',⟨by simp_all,.inr ⟨n',cap,_,by simp,hB,setRow_heap w n' cur _ ty (0,0) hh,by simp_all,hcap,by omega,by simp⟩⟩,hb,λj ck hj=> ?_⟩;obtain⟨q2,r,y2,hq2,hr,rfl,hyc⟩:=SK hfit' h0 hj;have hq2l:q2<l.length:=by simpa using(Zh9.1 hq2).1
   have hq2k:q2*c.P.cellsOf ty+c.P.cellsOf ty<=l.length*c.P.cellsOf ty:=by rw[<-Ziq];exact ZhD _ hq2l
   have hlt:q2*c.P.cellsOf ty+r< (Xi cur (q'*c.P.cellsOf ty+off) vz.cells).size:=by rw[hrs];omega
   refine⟨(Xi cur (q'*c.P.cellsOf ty+off) vz.cells).getD (q2*c.P.cellsOf ty+r) undef,?_,?_⟩
   ·rw[ZhN,if_pos (by omega),Zio];simp_all
   ·
    have old:∀y0,l[q2]?=some y0->y0.cells[r]?=some ck->(q2*c.P.cellsOf ty+r<q'*c.P.cellsOf ty+off\/q'*c.P.cellsOf ty+off+vz.cells.size<=q2*c.P.cellsOf ty+r)->
      Rd (w.setRow n' (Xi cur (q'*c.P.cellsOf ty+off) vz.cells)) h.F ck ((Xi cur (q'*c.P.cellsOf ty+off) vz.cells).getD (q2*c.P.cellsOf ty+r) undef):=by
     intro y0 hy0 hyr hout;obtain⟨u0,hu0,hru⟩:=hrd (q2*c.P.cellsOf ty+r) ck (by simp_all[X2]);rw[UA hle' hout]
     have:cur.getD (q2*c.P.cellsOf ty+r) undef=u0:=by
      rw[<-htk,ZhN,if_pos (by omega)]at hu0;have hu':cur[q2*c.P.cellsOf ty+r]?=some u0:=by simpa using hu0
      simp[Zhc,hu']
     rw[this];exact hru.keep hFs λ_ hb=>hb
    by_cases hqe:q2=q'
    ·subst hqe;rw[ZkP hq]at hq2;cases hq2;by_cases hin:off<=r/\r<off+z.cells.length
     ·have h2:=f2 (r-off) (by omega);rw[show off+(r-off)=r from by omega,hyc]at h2;have h3:=JN hle' (i:=r-off) (by omega);rw[show q2*c.P.cellsOf ty+off+(r-off)=q2*c.P.cellsOf ty+r from by omega]at h3;rw[h3];exact(hs3 (r-off) ck h2.symm).keep hFs λ_ hb=>hb
     grind
    ·rw[List.getElem?_set_ne (Zjd hqe)]at hq2
     have hsep:q2*c.P.cellsOf ty+c.P.cellsOf ty<=q'*c.P.cellsOf ty\/q'*c.P.cellsOf ty+c.P.cellsOf ty<=q2*c.P.cellsOf ty:=by
      obtain hlt'|hlt':=Zkx hqe
      ·left;rw[<-Ziq];exact ZhD _ hlt'
      ·right;rw[<-Ziq];exact ZhD _ hlt'
     grind
theorem qP(hr:RelG c B G s a w h g){T:TypeId}(hT:okT c.P T=true)(hT1:Zr c.P T=true\/c.P.cellsOf T=1){p off kk:Nat}{i:Option Nat}{j:E}{x:Operand}{m:MS}(hm:zy c g T p i j off kk x=some m)(hes:∀e∈m.es,∃z,eval s e=some z)
  {n q:Nat} (hbl:h.bl p (plI i)=some n) {ki:IntKind} (hj:eval s j=some (.int ki (q:Nat))):
  ∃w' h',(Instr.storeAt T (.pointer (some ⟨n,q*kk+off,none⟩)) (a.eval x)).run c.P w=.ok () w'/\MPost c B G s a w w' h h' m:=by
 unfold zy at hm;simp only[Zh7]at hm;obtain⟨b0,hb0,hm⟩:=hm;split at hm
 ·cases hm
 ·rename_i hpf;have hpf':p∉b0.2:=by simpa using hpf
  have hbl1:∀i,(h.thaw b0.2).bl p i=h.bl p i:=λi=>by simp[GH.thaw,hpf']
  have hr1:=hr.frz b0.2
  have upd_e:∀ {e1 e2:E} {u:V},eval s (.upd e1 j off e2)=some u->∃y z,eval s e1=some y/\eval s e2=some z/\updV y (.int ki (q:Nat)) off z=some u:=by
   intro e1 e2 u hu;simp only[eval,hj,Zhh,Zh7]at hu;obtain⟨y,hy,z,hz,hu⟩:=hu;exact⟨y,z,hy,hz,hu⟩
  have zs:∀ {z:V},eval s (tyE (Zr c.P T) (c.P.cellsOf T) b0.1)=some z->(∀l,z≠.tup l)/\Rd w (h.thaw b0.2).F z (a.eval x)/\z.cells.length=c.P.cellsOf T:=by
   intro z hz;obtain⟨k1,k2,k3,k4⟩:=ZaA hr hb0 hz;refine⟨k1,k4,?_⟩;cases hag:Zr c.P T with
   |true=>grind
   |false=>
    simp_all[YL]
  split at hm
  ·simp only[Zh7]at hm;obtain⟨⟨ty,e⟩,ho,hm⟩:=hm;split at hm
   ·rename_i hkk;simp only[Zh6]at hm;subst hm;simp only at hkk;subst hkk;obtain⟨v,hv,y,hy,hown⟩:=hr1.ownOf ho;obtain⟨u,hu⟩:=hes _ (List.Mem.head _);obtain⟨y',z,hy',hz,hupd⟩:=upd_e hu;rw[hy]at hy';cases hy';obtain⟨k1,k2,k3⟩:=zs hz;have hbl':(h.thaw b0.2).bl p 1=some n:=by rw[hbl1];exact hbl
    obtain⟨row,hrun,hres⟩:=hown.store hr1.ok hbl' hupd hT k1 k2 k3;obtain⟨hnB,hnlt,_⟩:=hr1.ok.b_lt p 1 n hbl'
    refine⟨_,h.thaw b0.2,hrun,Step.after ⟨VL w hnB _,λx hx hn=>Zju w n x _ λe=>hn p (by simp) 1 (e▸hbl'),λ_ hb=>hb,λ_ _ _=>rfl,λ_ _=>rfl,λ_ _ _ _ hm=>(by simp at hm),rfl⟩,
     ⟨by simp;exact hr1.ok.base,λb hb=>(by simp;exact hr1.ok.f_lt b hb),hr1.ok.f_or,hr1.ok.g_F,λt i b hb=>(by simp;exact hr1.ok.b_lt t i b hb),hr1.ok.inj,λb hb=>(by simp;exact hr1.ok.k_lt b hb),hr1.ok.k_bl,hr1.ok.k_F⟩,Ya (ts:=[]) ⟨v,hv,u,hu,hres⟩⟩
   ·cases hm
  ·rename_i q0;simp only[Zh7]at hm;obtain⟨cs,hmem,hm⟩:=hm;split at hm
   ·rename_i ty e0 hc;split at hm
    ·rename_i hkk;subst hkk;simp only[Zha]at hm;obtain⟨k,hput,rfl⟩:=hm;obtain⟨cs',hmem',hle,rfl⟩:=U8 hput;rw[hmem]at hmem';cases hmem';obtain⟨b,vs,ty',hb0',htm,hh,hcs⟩:=hr1.memOf hmem;obtain⟨y,hy,hown⟩:=hcs.2 q0 _ hc;obtain⟨u,hu⟩:=hes _ (List.Mem.head _);obtain⟨y',z,hy',hz,hupd⟩:=upd_e hu;rw[hy]at hy';cases hy';obtain⟨k1,k2,k3⟩:=zs hz;have hbl':(h.thaw b0.2).bl p (q0+1)=some n:=by rw[hbl1];exact hbl
     obtain⟨row,hrun,hres⟩:=hown.store hr1.ok hbl' hupd hT k1 k2 k3;obtain⟨hnB,hnlt,hnF⟩:=hr1.ok.b_lt p (q0+1) n hbl'
     have hbn:b≠n:=λe=>by
      subst e;have:=(hr1.ok.inj p 0 p (q0+1) b hb0' hbl').2;omega
     obtain⟨hsl,hget⟩:=Wp hle
     refine⟨_,h.thaw b0.2,hrun,Step.after ⟨VL w hnB _,λx hx hn=>Zju w n x _ λe=>hn p (by simp) (q0+1) (e▸hbl'),λ_ hb=>hb,λ_ _ _=>rfl,λ_ _=>rfl,λ_ _ _ _ hm=>(by simp at hm),rfl⟩,
      ⟨by simp;exact hr1.ok.base,λb hb=>(by simp;exact hr1.ok.f_lt b hb),hr1.ok.f_or,hr1.ok.g_F,λt i b hb=>(by simp;exact hr1.ok.b_lt t i b hb),hr1.ok.inj,λb hb=>(by simp;exact hr1.ok.k_lt b hb),hr1.ok.k_bl,hr1.ok.k_F⟩,
      Ya (ts:=[]) ⟨_,htm,b,vs,ty',hb0',rfl,by simp_all[Zju],by rw[hcs.1,hsl],λi ck hi=> ?_⟩⟩
     obtain⟨h1,h2,h3⟩|⟨h1,h3⟩:=hget i ck hi
     ·have hiq:i=q0:=by simp only[Zip]at h2;omega
      subst hiq;simp at h3;subst h3;exact⟨u,hu,hres⟩
     ·refine(hcs.2 i ck h3).keep (Ts hr1.ok _ λx hx e=>hnF (e▸hx)) (λ_ hb=>hb) λx hx=>Zju w n x _ λe=> ?_;subst e;have:=(hr1.ok.inj p (i+1) p (q0+1) x hx hbl').2
      grind
    ·cases hm
   ·cases hm
theorem Z32{x i u z:V}{n k:Nat}(hz:QH x i n k z=some u):∃cs ki j,x=.agg cs/\i=.int ki (j:Nat)/\j<n/\cs.length=n*k/\z.cells.length=k/\u=.agg (ZC cs (j*k) z.cells):=by
 unfold QH at hz;split at hz
 ·rename_i cs ki i;split at hz
  ·rename_i hc;obtain⟨h0,h1,h2,h3⟩:=hc;obtain⟨j,rfl⟩:=Zhl h0;simp only[ZhV,Zh6]at hz;exact⟨cs,ki,j,rfl,rfl,by omega,h2,h3,hz.symm⟩
  grind
 grind
theorem qO(hr:RelG c B G s a w h g){T:TypeId}(hT:okT c.P T=true){p o n kk:Nat}{j:E}{x:Operand}{m:MS}(hm:zw c g T p o j n kk x=some m)(hes:∀e∈m.es,∃z,eval s e=some z)
  {b q:Nat} (hbl:h.bl p 0=some b) {ki:IntKind} (hj:eval s j=some (.int ki (q:Nat))) (hq:q<n):
  ∃w' h',(Instr.storeAt T (.pointer (some ⟨b,o+q*kk,none⟩)) (a.eval x)).run c.P w=.ok () w'/\MPost c B G s a w w' h h' m:=by
 unfold zw at hm;simp only[Zh7]at hm;obtain⟨b0,hb0,hm⟩:=hm;split at hm
 ·cases hm
 ·rename_i hcond;simp only[Zhn,Zi5,Zhw,not_or,Decidable.not_not,ZjB,ZjH]at hcond;obtain⟨hsh,hk⟩:=hcond;simp only[Zh7]at hm;obtain⟨cs,hmem,hm⟩:=hm;split at hm
  ·rename_i hpart;obtain⟨hpl,hpf⟩:=hpart;simp only[Zha]at hm;obtain⟨k,hput,rfl⟩:=hm;obtain⟨cs',hmem',hle,rfl⟩:=U8 hput;rw[hmem]at hmem';cases hmem';obtain⟨b',cur,ty,h1,htm,hh,hcs⟩:=hr.memOf hmem;rw[hbl]at h1;cases h1;obtain⟨u,hu⟩:=hes _ (List.Mem.head _);have hu0:=hu;simp only[eval,hj,Zhh,Zh7]at hu;obtain⟨y,hy,z,hz,hu⟩:=hu;obtain⟨cs0,ki',q',rfl,hq',hqn,hcl,hzl,rfl⟩:=Z32 hu;have hqq:q'=q:=by simp only[V.int.injEq]at hq';omega
   subst hqq;obtain⟨k1,k2,k3,k4⟩:=ZaA hr hb0 hz
   have hF:∀b,(h.thaw b0.2).F b->h.F b:=by
    intro b hb;obtain hb|⟨t,ht,_⟩:=hb
    ·exact hb
    ·simp_all
   have k4:=k4.mono hF;obtain⟨hs1,hs2,hs3⟩:=k4.cells k1
   have hnd:Y8 ((cs.drop o).take (n*kk))=false:=by
    simp only[Y8,ZjZ,Zji,Zkn,ne_eq];intro ck hck hd;have:=Zhm.1 hpf ck hck;rw[hd]at this;simp at this
   have hno:VK ((cs.drop o).take (n*kk))=false:=by
    simp only[VK,ZjZ,Zji];intro ck hck;have:=Zhm.1 hpf ck hck;simp only[ZhG]at this;rw[this]
   obtain⟨xs,hxe,hxl,hxo,hxr,hxv⟩:=hcs.part_rd hpl hnd (G':=h.F) (λ_ hb=>hb) (λho=>by simp_all);have hle1:q'*kk+kk<=n*kk:=by rw[<-Ziq];exact ZhD _ hqn
   have hkpos:0<n*kk\/n*kk=0:=by omega
   have hcx:cs0=xs:=by
    obtain hpos|hzero:=hkpos
    ·grind [eval,X8,z8,Option.some.injEq,V.agg.injEq]
    ·simp_all
   subst hcx;have hvn:(a.eval x).cells.size=kk:=by rw[hs1,hzl]
   have hnl:o+n*kk<=cur.size:=by
    have:=hcs.1;simp only[Zik,ZjI]at hpl;omega
   have hle2:(o+q'*kk)+(a.eval x).cells.size<=cur.size:=by omega
   have hxcell:∀i (y:V),cs0[i]?=some y->y.one=true/\Rd w h.F y (cur.getD (o+i) undef):=by
    intro i y hi;have hlt:i<n*kk:=by rw[<-hcl];exact(Zh9.1 hi).1
    cases hxr with
    |agg _ _ e1 e2 e3=>
     have:=e3 i y hi
     have hg:((cur.toList.drop o).take (n*kk)).toArray.getD i undef=cur.getD (o+i) undef:=by
      simp only[Zhc,Zj9,ZhN,if_pos hlt,ZhU,Zio]
     grind
   obtain⟨g1,g2,g3⟩:=RT (cs:=cs0) (b:=z.cells) (o:=q'*kk) (by omega)
   obtain⟨h',e1,e2,e3⟩:=K1 (row:=Xi cur (o+q'*kk) (a.eval x).cells) (new:=(List.range (n*kk)).map λi=>(CK.fz,E.fld (E.aput (if X8 (c.ix p) o ((cs.drop o).take (n*kk))=true then E.mm (c.ix p) o (n*kk)else .ag (((cs.drop o).take (n*kk)).map (·.2))) j n kk (tyE (Zr c.P T) (c.P.cellsOf T) b0.1)) i)) hr.ok hbl hh hcs (Tr hle2) hle (λi hi=>UA hle2 (by grind)) (ts:=[]) (f:=h.bl p) (by simp) rfl (λ_ _=>rfl) (λi x _ hx=>.inl hx)
    (λi j x hi hj=>(hr.ok.inj p i p j x hi hj).2) (λi ck hi=>by
     obtain⟨hlt,rfl⟩:=Sf hi;have hgl:i< (ZC cs0 (q'*kk) z.cells).length:=by rw[g1,hcl];exact hlt
     have key:((ZC cs0 (q'*kk) z.cells)[i]).one=true/\Rd w h.F (ZC cs0 (q'*kk) z.cells)[i] ((Xi cur (o+q'*kk) (a.eval x).cells).getD (o+i) undef):=by
      have hsome:(ZC cs0 (q'*kk) z.cells)[i]?=some (ZC cs0 (q'*kk) z.cells)[i]:=Zh8 hgl;by_cases hin:q'*kk<=i/\i<q'*kk+kk
      ·have h2:=g2 (i-q'*kk) (by omega);rw[show q'*kk+(i-q'*kk)=i from by omega,hsome]at h2;have h3:=JN hle2 (i:=i-q'*kk) (by omega);rw[show o+q'*kk+(i-q'*kk)=o+i from by omega]at h3
       grind
      ·have h2:=g3 i (by omega);rw[hsome]at h2;rw[UA hle2 (by omega)];exact hxcell i _ h2.symm
     refine⟨_,?_,key.1,key.2⟩;refine Eq.trans (b:=(some (V.agg (ZC cs0 (q'*kk) z.cells))).bind λy=>fldV y i) (Ziu (λy=>Option.bind y λy=>fldV y i) hu0) ?_;show((ZC cs0 (q'*kk) z.cells)[i]?).bind oneV=_;rw[Zh8 hgl,Zhh];unfold oneV
     grind) (λp=>a.tmps[p]?)
   exact⟨_,h',Ug hT hh (by omega) (λi hi=>by
    have hi':i<z.cells.length:=by rw[<-hs1];exact hi
    rw[(hs3 i _ (Zh8 hi')).one_eq];simp_all) hle2,e2,e1,Ya (ts:=[]) ⟨_,htm,e3⟩⟩
  ·cases hm
end
end Vm
namespace Vm
open Go
open Go.RowKit (Below)
open Go.MapKept (IsKey bytes_beq sameNow_of_keys run_checkKey run_findKey run_keyThatStays)
def setB(w:World)(b:Nat)(o:Obj):World:= {w with heap:=w.heap.setIfInBounds b o}
theorem So(w:World)(b:Nat)(o:Obj):(setB w b o).heap.size=w.heap.size:=by simp[setB]
theorem WU(w:World)(b x:Nat)(o:Obj)(h:x≠b):(setB w b o).heap[x]?=w.heap[x]? :=by
 simp[setB,Zi4 (Zjd h)]
theorem Zbg{w:World}{b:Nat}(o:Obj)(h:b<w.heap.size):(setB w b o).heap[b]?=some o:=by
 simp[setB,h]
theorem Z35{B:Nat}(w:World){b:Nat}(o:Obj)(h:B<=b):Below B w (setB w b o):=
 ⟨rfl,rfl,rfl,by simp[setB],λx hx=>WU w b x o (by omega)⟩
section
variable {c:Ctx}{B:Nat}{G:Nat->Prop}{s:St}{a a':Act}{w w':World}{h h':GH}{g:Gam}{C:Zj}{fz ps rb:List Nat}
theorem Z6a(hr:RelG c B G s a w h g){d:Nat}{T:TypeId}{x:Operand}{m:MS}(hd:d<a.tmps.size)(hm:ZaI c g d T x=some m):
  ∃v w' h',(Instr.box T (a.eval x)).run c.P w=.ok v w'/\MPost c B G s (a.put (some d) v) w w' h h' m:=by
 unfold ZaI at hm;split at hm
 ·rename_i t ty e hk;split at hm
  ·rename_i hcond;obtain⟨htd,_⟩:=hcond;simp only[Zh6]at hm;subst hm;obtain⟨v,hv,⟨y,hy,hown⟩,_⟩:=hr.look (Zc s c) (show look g [] t=_ from hk) rfl;rw[Act.eval_tmp a t v hv]
   have hvc:v.cells=#[v]:=by
    obtain⟨l,xs,_,_,_,⟨_,hc⟩,_⟩|⟨_,_,_,_,_,_,_,rfl,_⟩:=hown
    ·obtain⟨rfl,_⟩|⟨_,_,_,rfl,_⟩:=hc<;>rfl
    ·rfl
   have hg:=Ziw w (.cells v.cells T) none;have hsz:(w.alloc (.cells v.cells T)).heap.size=w.heap.size+1:=by simp
   have hF:Same h.F w (w.alloc (.cells v.cells T)):=λb hb=>hg.block b (hr.ok.f_lt b hb) (by simp)
   refine⟨.pointer (some ⟨w.heap.size,0,none⟩),_,h.put d (λi=>if i=0 then some w.heap.size else if i=1 then h.bl t 1 else none) (lost h [t]),by simp[Instr.box,Rb],
    XG (Xk hr.ok hg) (λb hb _=>hg.block b hb (by simp)) (by simp) (λu hu=>by simp at hu;subst hu;simp) (λhn=>by simp at hn),
    hr.ok.put (by omega) (λu i b _ hb=>(ZS hb).1) (λi b hb=> ?_) (λi j b hi hj=> ?_) (λi b u j hu hi hj=> ?_),Ya (ts:=[t]) ⟨_,Wm hd _,w.heap.size,v.cells,T,by simp[GH.put],rfl,ZhX w _,by rw[hvc];rfl,λi ck hi=> ?_⟩⟩
   ·split at hb
    ·simp only[Zh6]at hb;subst hb;exact .inl ⟨Zhe _,by omega⟩
    ·split at hb
     ·exact .inr ⟨t,1,hb⟩
     ·cases hb
   ·have old:∀ {b},h.bl t 1=some b->b<w.heap.size:=λhb=>(hr.ok.b_lt t 1 _ hb).2.1;split at hi<;>split at hj<;>(try split at hi)<;>(try split at hj)<;>first|(cases hi;done)|(cases hj;done)|omega|skip
    ·simp only[Zh6]at hi;subst hi;have:=old hj;omega
    ·simp only[Zh6]at hj;subst hj;have:=old hi;omega
   ·obtain⟨h1,h2⟩:=ZS hj;split at hi
    ·simp only[Zh6]at hi;subst hi;have:=(hr.ok.b_lt u j _ h1).2.1;omega
    ·split at hi
     ·exact h2 (by simp[(hr.ok.inj t 1 u j b hi h1).1])
     ·cases hi
   ·cases i with
    |zero=>
     simp at hi;subst hi;refine⟨y,hy,?_⟩;have hget:v.cells.getD 0 undef=v:=by rw[hvc];rfl
     rw[hget];have hk:=hown.keep (h':=h.put d (λi=>if i=0 then some w.heap.size else if i=1 then h.bl t 1 else none) (lost h [t])) hF (λ_ hb=>hb) λb hb=>hg.block b (hr.ok.b_lt t 1 b hb).2.1 (by simp);simpa[GH.put]using hk
    |succ i=>simp at hi
  ·cases hm
 ·rename_i t cs hk;split at hm
  ·rename_i hcond;obtain⟨htd,_⟩:=hcond;simp only[Zh6]at hm;subst hm;obtain⟨v,hv,⟨vs,rfl,hcs⟩,_⟩:=hr.look (Zc s c) (show look g [] t=_ from hk) rfl;rw[Act.eval_tmp a t _ hv];have hg:=Ziw w (.cells (Value.agg vs).cells T) none;have hsz:(w.alloc (.cells (Value.agg vs).cells T)).heap.size=w.heap.size+1:=by simp
   have hF:Same h.F w (w.alloc (.cells (Value.agg vs).cells T)):=λb hb=>hg.block b (hr.ok.f_lt b hb) (by simp);have old:∀ {i b},h.bl t i=some b->b<w.heap.size:=λhb=>(hr.ok.b_lt t _ _ hb).2.1
   refine⟨.pointer (some ⟨w.heap.size,0,none⟩),_,h.put d (λi=>if i=0 then some w.heap.size else h.bl t i) (lost h [t]),by simp[Instr.box,Rb],
    XG (Xk hr.ok hg) (λb hb _=>hg.block b hb (by simp)) (by simp) (λu hu=>by simp at hu;subst hu;simp) (λhn=>by simp at hn),
    hr.ok.put (by omega) (λu i b _ hb=>(ZS hb).1) (λi b hb=> ?_) (λi j b hi hj=> ?_) (λi b u j hu hi hj=> ?_),Ya (ts:=[t]) ⟨_,Wm hd _,w.heap.size,vs,T,by simp[GH.put],rfl,ZhX w _,hcs.1,λi ck hi=> ?_⟩⟩
   ·split at hb
    ·simp only[Zh6]at hb;subst hb;exact .inl ⟨Zhe _,by omega⟩
    ·exact .inr ⟨t,i,hb⟩
   ·split at hi<;>split at hj
    ·omega
    ·simp only[Zh6]at hi;subst hi;have:=old hj;omega
    ·simp only[Zh6]at hj;subst hj;have:=old hi;omega
    ·exact(hr.ok.inj t i t j b hi hj).2
   ·obtain⟨h1,h2⟩:=ZS hj;split at hi
    ·simp only[Zh6]at hi;subst hi;have:=(hr.ok.b_lt u j _ h1).2.1;omega
    ·exact h2 (by simp[(hr.ok.inj t i u j b hi h1).1])
   ·have hk:=(hcs.2 i ck hi).keep (h':=h.put d (λi=>if i=0 then some w.heap.size else h.bl t i) (lost h [t])) hF (λ_ hb=>hb) λb hb=>hg.block b (hr.ok.b_lt t (i+1) b hb).2.1 (by simp);simpa[GH.put]using hk
  ·cases hm
 ·cases hm
def Zb3(c:Ctx)(B:Nat)(s:St)(a:Act)(w:World)(h:GH)(g:Gam)(p:Nat)(ty:TypeId)(e:E)(v:Value):Option Nat->Prop
 |none=>a.tmps[p]?=some v
 |some j=>∃cs,memOf g p=some cs/\cs[j]?=some (.own ty,e)/\∃b vs T,h.bl p 0=some b/\a.tmps[p]?=some (.pointer (some ⟨b,0,none⟩))/\w.heap[b]?=some (.cells vs T (0,0))/\RelCs c.P B s w h p cs vs/\vs.getD j undef=v
theorem Z65(hr:RelG c B G s a w h g){x:Operand}{p:Nat}{i:Option Nat}{ty:TypeId}{e:E}(hm:ZaG g x=some (p,i,ty,e)):
  ∃X,eval s e=some X/\OwnV c.P B w h (h.bl p (plI i)) ty X (a.eval x)/\Zb3 c B s a w h g p ty e (a.eval x) i:=by
 unfold ZaG at hm;split at hm
 ·rename_i t ty' e' hk;split at hm
  ·simp only[Zh6,Zhf]at hm;obtain⟨rfl,rfl,rfl,rfl⟩:=hm;obtain⟨v,hv,⟨X,hX,hown⟩,_⟩:=hr.look (Zc s c) (show look g [] t=_ from hk) rfl;rw[Act.eval_tmp a t v hv];exact⟨X,hX,hown,hv⟩
  ·cases hm
 ·rename_i x _ _ q hk;simp only[Zha]at hm;obtain⟨⟨ty',e'⟩,ho,hm⟩:=hm;simp only[Zhf]at hm;obtain⟨rfl,rfl,rfl,rfl⟩:=hm;obtain⟨v,hv,X,hX,hown⟩:=hr.ownOf ho;have hrel:a.tmps[q]?=some (a.eval x):=ZR hr (Zc s c) hk rfl 0;rw[hv]at hrel;simp only[Zh6]at hrel;rw[<-hrel];exact⟨X,hX,hown,hv⟩
 ·rename_i x _ _ q j hk;simp only[Zh7]at hm;obtain⟨cs,hmem,hm⟩:=hm;split at hm
  ·rename_i ty' e' hc;simp only[Zh6,Zhf]at hm;obtain⟨rfl,rfl,rfl,rfl⟩:=hm;obtain⟨b,vs,T,h1,h2,h3,h4⟩:=hr.memOf hmem;obtain⟨X,hX,hown⟩:=h4.2 j _ hc;obtain⟨b',h1',hcell⟩:∃b,h.bl q 0=some b/\w.cell? ⟨b,j,none⟩=some (a.eval x):=ZR hr (Zc s c) hk rfl 0;rw[h1]at h1';cases h1';rw[Zhs w b j vs T (0,0) h3]at hcell;have hget:vs.getD j undef=a.eval x:=by simp[Zhc,hcell]
   rw[hget]at hown;exact⟨X,hX,hown,cs,hmem,hc,b,vs,T,h1,h2,h3,h4,hget⟩
  ·cases hm
 ·cases hm
theorem qN(hr:RelG c B G s a w h g)(ha:a'.tmps=a.tmps){T:TypeId}{x:Operand}{f:E->E}{m:MS}(hm:Z8m g T x f=some m)(hes:∀e∈m.es,∃z,eval s e=some z)
  (hform:∀e z,eval s (f e)=some z->∃X,eval s e=some X/\∃id ks xs,X=.mp id ks xs):
  ∃e id ks xs b es clk,eval s e=some (.mp id ks xs)/\(∃z,eval s (f e)=some z)/\a.eval x=.map (some b)/\w.heap[b]?=some (.map es clk)/\ks.length=es.size/\xs.length=es.size/\
   (∀(i:Nat) (c:V),ks[i]?=some c->Rd w h.F c (es.getD i default).key)/\(∀(i:Nat) (c:V),xs[i]?=some c->Rd w h.F c (es.getD i default).val)/\
   ∀ks' xs' es' clk',eval s (f e)=some (.mp id ks' xs')->ks'.length=es'.size->xs'.length=es'.size->(∀(i:Nat) (c:V),ks'[i]?=some c->Rd w h.F c (es'.getD i default).key)->(∀(i:Nat) (c:V),xs'[i]?=some c->Rd w h.F c (es'.getD i default).val)->
    MPost c B G s a' w (setB w b (.map es' clk')) h h m:=by
 unfold Z8m at hm;simp only[Zh7]at hm;obtain⟨⟨p,i,ty,e⟩,hat,hm⟩:=hm;split at hm
 ·rename_i hty;simp only at hty;subst hty;simp only[Zha]at hm;obtain⟨k,hput,rfl⟩:=hm;obtain⟨X,hX,hown,hplace⟩:=Z65 hr hat;obtain⟨z,hz⟩:=hes _ (List.Mem.head _);obtain⟨X',hX',id,ks,xs,rfl⟩:=hform e z hz;rw[hX]at hX';cases hX';obtain⟨l,_,hl,_⟩|⟨id',ks',xs',b,es,clk,hX2,hv,hbl,hB,hid,hh,h1,h2,h3,h4⟩:=hown
  ·cases hl
  cases hX2;refine⟨e,id,ks,xs,b,es,clk,hX,⟨z,hz⟩,hv,hh,h1,h2,h3,h4,λks' xs' es' clk' he h1' h2' h3' h4'=> ?_⟩;obtain⟨hBb,hlt,hnF⟩:=hr.ok.b_lt p (plI i) b hbl;have hF:Same h.F w (setB w b (.map es' clk')):=λy hy=>WU w b y _ λe=>hnF (e▸hy)
  have hown':OwnV c.P B (setB w b (.map es' clk')) h (h.bl p (plI i)) ty (.mp id ks' xs') (a.eval x):=
   .inr ⟨id,ks',xs',b,es',clk',rfl,hv,hbl,hB,hid,Zbg _ hlt,h1',h2',λi c hi=>(h3' i c hi).keep hF λ_ hb=>hb,λi c hi=>(h4' i c hi).keep hF λ_ hb=>hb⟩
  refine⟨⟨Z35 w _ hB,λy hy hn=>WU w b y _ λe=>hn p (by simp) (plI i) (e▸hbl),λ_ hb=>hb,λ_ _ _=>rfl,λ_ _=>rfl,λ_ _ _ _ hm=>(by simp at hm),rfl⟩,
   ⟨by grind [So],λy hy=>by rw[So];exact hr.ok.f_lt y hy,hr.ok.f_or,hr.ok.g_F,λt j y hy=>by rw[So];exact hr.ok.b_lt t j y hy,hr.ok.inj,λy hy=>by rw[So];exact hr.ok.k_lt y hy,hr.ok.k_bl,hr.ok.k_F⟩,?_⟩
  cases i with
  |none=>
   simp only[Z9I,Zh6]at hput;subst hput;exact Ya (ts:=[]) ⟨_,by rw[ha];exact hplace,_,he,hown'⟩
  |some j=>
   obtain⟨cs,hmem,hc,b0,vs,T',e1,e2,e3,e4,e5⟩:=hplace;obtain⟨cs',hmem',hle,rfl⟩:=U8 hput;rw[hmem]at hmem';cases hmem'
   have hbn:b0≠b:=λe=>by
    simp_all
   obtain⟨hsl,hget⟩:=Wp hle;refine Ya (ts:=[]) ⟨_,by simp_all,b0,vs,T',e1,rfl,by simp_all[WU],by rw[e4.1,hsl],λq ck hi=> ?_⟩;obtain⟨q1,q2,q3⟩|⟨q1,q3⟩:=hget q ck hi
   ·have hiq:q=j:=by simp only[Zip]at q2;omega
    subst hiq;simp at q3;subst q3;exact⟨_,he,by rw[e5];exact hown'⟩
   ·refine(e4.2 q ck q3).keep hF (λ_ hb=>hb) λy hy=>WU w b y _ λe=> ?_;subst e;have:=(hr.ok.inj p (q+1) p (j+1) y hy hbl).2
    grind
 ·cases hm
theorem Z0R(hr:RelG c B G s a w h g)(ha:a'.tmps=a.tmps){T ty:TypeId}{x:Operand}{m:MS}(hm:Z0Q c g T x=some m)(hes:∀e∈m.es,∃z,eval s e=some z):
  ∃v w' h',(Builtin.clear_ #[T] ty #[a.eval x]).run c.P w=.ok v w'/\MPost c B G s a' w w' h h' m:=by
 unfold Z0Q at hm;split at hm
 ·rename_i hT;unfold Z5O at hT;split at hT
  ·rename_i kt el hT'
   obtain⟨e,id,ks,xs,b,es,clk,h1,_,h3,h4,h5,h6,h7,h8,h9⟩:=qN hr ha hm hes λe z hz=>by
    simp only[eval,Zh7]at hz;obtain⟨X,hX,hz⟩:=hz;refine⟨X,hX,?_⟩;cases X<;>simp[Z67]at hz
    simp
   refine⟨.tuple #[],setB w b (.map #[] clk),h,?_,h9 [] [] #[] clk (by simp[eval,h1,Z67]) rfl rfl (λi c hi=>by simp at hi) (λi c hi=>by simp at hi)⟩;rw[h3];simp[Builtin.clear_,ZhK hT',ZiI h4,ZjY _ h4,Result.andThen,setB]
  ·cases hT
 ·cases hm
theorem Jm(hr:RelG c B G s a w h g)(ha:a'.tmps=a.tmps){T:TypeId}{x k v:Operand}{m:MS}(hm:Tj c g T x k v=some m)(hes:∀e∈m.es,∃z,eval s e=some z):
  ∃w' h',(Instr.mapUpdate T (a.eval x) (a.eval k) (a.eval v)).run c.P w=.ok () w'/\MPost c B G s a' w w' h h' m:=by
 unfold Tj at hm;split at hm
 ·rename_i kt el hT;simp only[Zh7]at hm;obtain⟨kc,hkc,ek,hk,ev,hv,hm⟩:=hm;split at hm
  ·cases hm
  ·rename_i hemp;have hsh:ev.2=[]:=by simpa using hemp
   obtain⟨kv,hkv,hkr⟩:=Xh hr (Zc s c) hk;obtain⟨vv,hvv,hvr⟩:=Xh hr (Zc s c) hv;rw[hsh]at hvr;have hvr:=hvr.F
   obtain⟨e,id,ks,xs,b,es,clk,h1,⟨z,hz⟩,h3,h4,h5,h6,h7,h8,h9⟩:=qN hr ha hm hes λe z hz=>by
    simp only[eval,hkv,hvv,Zhh,Zh7]at hz;obtain⟨X,hX,hz⟩:=hz;obtain⟨_,_,_,_,_,rfl,_⟩:=Lh hz;exact⟨_,hX,_,_,_,rfl⟩
   have hz0:=hz;simp only[eval,h1,hkv,hvv,Zhh]at hz;unfold Jn at hz;split at hz
   ·cases hz
   rename_i hik;have hik:isK kc kv=true:=by simpa using hik
   have hkd:=qx hkc;have hkey:=Jf hik hkr;have hkF:Rd w h.F kv (a.eval k):=hkr.flat (by cases kc<;>cases kv<;>simp[isK,V.flatc]at hik⊢);have hck:=Zkr (w:=w) hkd hkey;have hks:=run_keyThatStays (P:=c.P) (w:=w) hkey;simp only at hz;rw[h3];split at hz
   ·rename_i j hf;obtain⟨en,e1,e2,e3⟩:=WG (w2:=w) (G'':=h.F) hik hkr hf (l:=es.toList) (by simpa using h5) (λi c hi=>by simpa[Zhc]using h7 i c hi) 0;simp only[Zh6]at hz;subst hz;have hj:es[j]?=some en:=by simpa using e1
    have hjl:j<es.size:=(Zhd.1 hj).1;have hfk:=Zkf (w:=w) hkd e3;refine⟨setB w b (.map (es.modify j λe=> {e with key:=a.eval k,val:=a.eval v}) clk),h,?_,h9 _ _ _ _ hz0 (by simpa using h5) (by simpa using h6) (λi c hi=> ?_) (λi c hi=> ?_)⟩
    ·have:es[j]=en:=by rw[Zhu hjl]at hj;simpa using hj
     simp[Instr.mapUpdate,ZhK hT,ZiI h4,hck,hfk,hj,this,e2,hks,ZjY _ h4,Result.andThen,setB]
    ·have:=h7 i c hi;rw[Zhc,ZiL];rw[Zhc]at this;by_cases hij:j=i
     ·subst hij;rw[hj]at this;simp only[ZhR,hj,Zhp,ZhL];simp only[ZhL,e2]at this;exact this
     ·rw[if_neg hij];exact this
    ·rw[Zhc,ZiL];by_cases hij:j=i
     ·subst hij;simp only[ZhR,hj,Zhp,ZhL];rw[ZkP (by omega)]at hi;cases hi;exact hvr
     ·rw[if_neg hij];rw[List.getElem?_set_ne hij]at hi;have:=h8 i c hi;rw[Zhc]at this;exact this
   ·rename_i hf;have e3:=WG (w2:=w) (G'':=h.F) hik hkr hf (l:=es.toList) (by simpa using h5) (λi c hi=>by simpa[Zhc]using h7 i c hi) 0;simp only[Zh6]at hz;subst hz;have hfk:=Zkf (w:=w) hkd e3;refine⟨setB w b (.map (es.push {key:=a.eval k,val:=a.eval v,born:=clk}) (clk+1)),h,?_,h9 _ _ _ _ hz0 (by simp[h5]) (by simp[h6]) (λi c hi=> ?_) (λi c hi=> ?_)⟩
    ·simp[Instr.mapUpdate,ZhK hT,ZiI h4,hck,hfk,ZjY _ h4,Result.andThen,setB]
    ·rw[Zhc,Ziv];by_cases hlt:i<ks.length
     ·rw[Zi0 hlt]at hi;rw[if_neg (by omega)];have:=h7 i c hi;rw[Zhc]at this;exact this
     ·rw[ZhH (by omega)]at hi
      have hi0:i=ks.length:=by
       have:=(Zh9.1 hi).1;simp at this;omega
      subst hi0;simp at hi;subst hi;rw[if_pos h5];exact hkF
    ·rw[Zhc,Ziv];by_cases hlt:i<xs.length
     ·rw[Zi0 hlt]at hi;rw[if_neg (by omega)];have:=h8 i c hi;rw[Zhc]at this;exact this
     ·rw[ZhH (by omega)]at hi
      have hi0:i=xs.length:=by
       have:=(Zh9.1 hi).1;simp at this;omega
      subst hi0;simp at hi;subst hi;rw[if_pos h6];exact hvr
   ·cases hz
 ·cases hm
end
end Vm
namespace Vm
open Go
open Go.RowKit (Below)
theorem WW:∀ {cs:List (CK×E)} {ts:List Nat} {i t:Nat},ZU cs ts i=some t->t∈ts
 | [],_,_,_,h=>by simp[ZU]at h
 | (k,e)::cs,ts,i,t,h=>by
   cases k with
   |own ty=>
    cases ts with
    |nil=>simp[ZU]at h
    |cons u ts=>
     cases i with
     |zero=>simp[ZU]at h;simp[h]
     |succ i=>exact ZhB _ (WW (by simpa[ZU]using h))
   |_=>
    cases i with
    |zero=>simp[ZU]at h
    |succ i=>exact WW (by simpa[ZU]using h)
theorem Rf:∀ {cs:List (CK×E)} {ts:List Nat} {i j t:Nat},ts.Nodup->ZU cs ts i=some t->ZU cs ts j=some t->i=j
 | [],_,_,_,_,_,h,_=>by simp[ZU]at h
 | (k,e)::cs,ts,i,j,t,hn,h,h'=>by
   cases k with
   |own ty=>
    cases ts with
    |nil=>simp[ZU]at h
    |cons u ts=>
     obtain⟨h1,h2⟩:=ZiZ.1 hn;cases i with
     |zero=>
      cases j with
      |zero=>rfl
      |succ j=>
       grind [ZU,absurd,WW]
     |succ i=>
      cases j with
      |zero=>
       grind [ZU,absurd,WW]
      |succ j=>exact Ziu (· +1) (Rf h2 (by simpa[ZU]using h) (by simp_all[ZU]))
   |_=>
    cases i with
    |zero=>simp[ZU]at h
    |succ i=>
     cases j with
     |zero=>simp[ZU]at h'
     |succ j=>exact Ziu (· +1) (Rf hn (by simpa[ZU]using h) (by simp_all[ZU]))
section
variable {c:Ctx}{B:Nat}{G:Nat->Prop}{s:St}{a a':Act}{w w':World}{h h':GH}{g:Gam}{C:Zj}{fz ps rb:List Nat}
theorem Z0P(hr:RelG c B G s a w h g){T:TypeId}{parts:Array (Nat×Operand)}{d:Nat}(hd:d<a.tmps.size){m:MS}(hm:Z0O c g d T parts.toList=some m)(hes:∀e∈m.es,∃z,eval s e=some z):
  ∃v h',(Instr.build T (parts.map λ(i,x)=>(i,a.eval x))).run c.P w=.ok v w/\MPost c B G s (a.put (some d) v) w w h h' m:=by
 unfold Z0O at hm
 ·simp only[Zh7]at hm;obtain⟨fs,hT,zs,hz,b,hb,hm⟩:=hm;split at hm
  ·cases hm
  ·rename_i hcond;simp only[Zhn,Zi5,not_or,ZiG,not_exists,not_and,ZjB]at hcond;obtain⟨hts,hnd⟩:=hcond;have hnd:=Tk hnd
   have hts:∀t∈b.2.2,t∉b.2.1/\t≠d:=by
    intro t ht;have:=hts t ht;simp only[Ziz,Zhw,ZhG]at this;exact⟨this.1.1,this.1.2⟩
   simp only[Zh6]at hm;subst hm;obtain⟨z,hz1⟩:=hes _ (List.Mem.head _);have hz1':=hz1;simp only[eval,Zha]at hz1';obtain⟨xs,hxs,hxz⟩:=hz1';obtain⟨hl,hx⟩:=Yy hxs
   obtain⟨vs,hrun,hsz,howns,hcell⟩:=Lw hr (Zc s c) hT hz hb (λck hck=>by
    obtain⟨i,hi⟩:=Zhy hck;obtain⟨x,_,he⟩:=hx i ck.2 (by simp_all);simp_all)
   obtain⟨hok1,_⟩:=Uk hr.ok b.2.1
   let f:Nat->Option Nat:=λi=>match i with|0=>none|i+1=>(ZU b.1 b.2.2 i).bind λt=>(h.thaw b.2.1).bl t 1
   have hf:∀i x,f i=some x->∃i' t,i=i'+1/\ZU b.1 b.2.2 i'=some t/\(h.thaw b.2.1).bl t 1=some x:=by
    intro i x hi;cases i with
    |zero=>cases hi
    |succ i=>
     simp only[f,Zh7]at hi;simp_all
   refine⟨.agg vs,(h.thaw b.2.1).put d f (lost (h.thaw b.2.1) b.2.2),hrun,Step.after (XG (Zi3 _ _) (λ_ _ _=>rfl) (by simp) (λu hu=>⟨by simp[hu],by simp[hu]⟩) (λhn=>by simp at hn)),
    hok1.put (Zhe _) (λu i b _ hb=>(ZS hb).1) (λi x hx=> ?_) (λi j x hi hj=> ?_) (λi x u j hu hi hj=> ?_),Ya ⟨.agg vs,Wm hd _,vs,rfl,hsz,λi ck hi=> ?_⟩⟩
   ·grind
   ·obtain⟨i',t,rfl,ht,h1⟩:=hf i x hi;obtain⟨j',t',rfl,ht',h1'⟩:=hf j x hj;have:=(hok1.inj t 1 t' 1 x h1 h1').1
    grind [Rf]
   ·obtain⟨i',t,rfl,ht,h1⟩:=hf i x hi;obtain⟨k1,k2⟩:=ZS hj;exact k2 ((hok1.inj u j t 1 x k1 h1).1▸WW ht)
   ·have hbl:((h.thaw b.2.1).put d f (lost (h.thaw b.2.1) b.2.2)).bl d (i+1)=(ZU b.1 b.2.2 i).bind λt=>(h.thaw b.2.1).bl t 1:=by simp[GH.put,f]
    rw[hbl];have hc:=hcell i ck hi;unfold BRel at hc;obtain⟨kk,e⟩:=ck;cases kk with
    |own ty=>
     obtain⟨t,h1,h2,h3,y,hy,hown⟩:=hc;refine⟨y,hy,hown.mono (λ_ hb=>.inl hb) ?_⟩;simp_all[GH.thaw]
    |nil=>exact hc
    |fz=>
     obtain⟨y,h1,h2,h3⟩:=hc;exact⟨y,h1,h2,h3.mono (y9 λp hp=>hp)⟩
    |dead=>grind
theorem UX(hok:Ok B G w h){o:Option Nat}(ho:∀b,o=some b->∃t i,h.bl t i=some b){el T ty:TypeId}{x z:V}{v y:Value}(hv:OwnV c.P B w h o el x v)(hT:c.P.underlying T=some (.slice el))(hel:elOk c.P el=true)
  {l2:List V} {Gy:Nat->Prop} (hy:Rd w Gy (.sl l2) y) (hback:∀(i:Nat) (ck:V) (u:Value),(flat l2)[i]?=some ck->Rd w Gy ck u->Rd w h.F ck u) (hz:appV (c.P.cellsOf el) x (.sl l2)=some z):
  ∃v' w',(Builtin.append_ #[T,T] ty #[v,y]).run c.P w=.ok v' w'/\Below B w w'/\(∀b,b<w.heap.size->o≠some b->w'.heap[b]?=w.heap[b]?)/\
   (v'.ownBlock=o\/∀b,v'.ownBlock=some b->w.heap.size<=b/\b<w'.heap.size)/\∀h':GH,h'.F=h.F->OwnV c.P B w' h' v'.ownBlock el z v':=by
 obtain⟨l,xs,rfl,h0,hfit,hown,hb,hrd⟩|⟨_,_,_,_,_,_,rfl,_⟩:=hv
 case inr=>grind [WB]
 obtain⟨l1,r,hl1,hr1,hlim,hsz,rfl⟩:=WB hz;cases hl1;cases hr1;obtain⟨v',w',news,hrun,hown',hg,hor,hfit2,hnews⟩:=JO (ty:=ty) hT hel hown hok.base hy hsz hlim;have hsame:∀b,b<w.heap.size->o≠some b->w'.heap[b]?=w.heap[b]? :=λb hb hn=>hg.block b hb (by grind)
 have hFs:Same h.F w w':=λb hb=>hsame b (hok.f_lt b hb) λe=>by
  obtain⟨t,i,hi⟩:=ho b e;exact(hok.b_lt t i b hi).2.2 hb
 refine⟨v',w',hrun,(Zi3 B w).grown hg hok.base λk hk=> ?_,hsame,?_,λh' hF=>.inl ⟨l++l2,xs++news,rfl,h0,λx hx=> ?_,by simp_all,rfl,λi ck hi=> ?_⟩⟩
 ·rw[‹v.ownBlock=o›]at hk;obtain⟨t,i,hi⟩:=ho k hk;exact(hok.b_lt t i k hi).1
 ·obtain h1|⟨h1,h2⟩:=hor
  ·simp_all
  ·exact .inr λb hb=>h2.lt b hb
 ·obtain hx|hx:=Zhx.1 hx
  ·simp_all
  ·exact hfit2 x hx
 ·have hfl:=Yk hfit;rw[Tc]at hi;by_cases hlt:i< (flat l).length
  ·rw[Zi0 hlt]at hi;obtain⟨u,hu,hr⟩:=hrd i ck hi;exact⟨u,by grind,hr.keep hFs λb hb=>by simp_all⟩
  ·rw[ZhH (by omega)]at hi;obtain⟨u,hu,hr⟩:=hnews _ ck hi;have hxl:xs.length=(flat l).length:=by rw[hown.1,hfl]
   exact⟨u,by grind,(hback _ ck u hi hr).keep hFs λb hb=>by simp_all⟩
theorem LI{e1 e2:E}{k:Nat}{z:V}(hz:eval s (.app e1 e2 k)=some z):∃x y,eval s e1=some x/\eval s e2=some y/\appV k x y=some z:=by
 simp_all[eval,Zh7]
theorem KE(hok:Ok B G w h){t0 i0 d:Nat}{ts:List Nat}{o:Option Nat}(ho:∀b,o=some b->∃t∈ts,h.bl t 1=some b)(hdt:d∉ts){v':Value}(hb:Below B w w')(hsame:∀b,b<w.heap.size->o≠some b->w'.heap[b]?=w.heap[b]?)
  (hor:v'.ownBlock=o\/∀b,v'.ownBlock=some b->w.heap.size<=b/\b<w'.heap.size):
  Ok B G w' (h.put d (λi=>if i=1 then v'.ownBlock else none) (lost h ts))/\Step B (d::ts) (d::ts) [] w w' h (h.put d (λi=>if i=1 then v'.ownBlock else none) (lost h ts)):=by
 have hf:∀i b,(if i=1 then v'.ownBlock else none)=some b->i=1/\((w.heap.size<=b/\b<w'.heap.size)\/∃t∈ts,h.bl t 1=some b):=by
  intro i b hi;split at hi
  ·grind
  ·cases hi
 refine⟨hok.put hb.size (λu i b _ hb=>(ZS hb).1) (λi b hi=> ?_) (λi j b hi hj=>by grind) (λi b u j hu hi hj=> ?_),
  XG hb (λb hb hn=>hsame b hb λe=> ?_) (by simp) (λt ht=>⟨by simp[ht],by simp[ht]⟩) (λhn=>by simp at hn)⟩
 ·grind
 ·obtain⟨k1,k2⟩:=ZS hj;rcases(hf i b hi).2 with h1|⟨t,ht,h1⟩
  ·have:=(hok.b_lt u j b k1).2.1;omega
  ·exact k2 ((hok.inj u j t 1 b k1 h1).1▸ht)
 grind
theorem qM(hr:RelG c B G s a w h g){T U ty:TypeId}{x y:Operand}{d:Nat}(hd:d<a.tmps.size){m:MS}(hm:zu c g d T U x y=some m)(hes:∀e∈m.es,∃z,eval s e=some z):
  ∃v w' h',(Builtin.append_ #[T,U] ty #[a.eval x,a.eval y]).run c.P w=.ok v w'/\MPost c B G s (a.put (some d) v) w w' h h' m:=by
 unfold zu at hm;split at hm
 ·rename_i el hT;have hT':=Z4u hT;split at hm
  ·rename_i hcond;obtain⟨rfl,hel⟩:=hcond;simp only[Zh7]at hm;obtain⟨b0,hb0,hm⟩:=hm;generalize hbe:Rs (Xw c.P el) b0=be at hm;have hr1:=hr.frz be.2
   have elems:∀ {yy:V} {l2:List V},eval s be.1=some yy->yy=.sl l2->∃Gy,Rd w Gy (.sl l2) (a.eval y)/\∀(i:Nat) (ck:V) (u:Value),(flat l2)[i]?=some ck->Rd w Gy ck u->Rd w (h.thaw be.2).F ck u:=by
    rintro yy l2 hyy rfl;obtain⟨Gy,h1,h2⟩:=Z1S hr (Zc s c) hb0 (fl:=Xw c.P el) (by rw[hbe];exact hyy);rw[hbe]at h2;exact⟨Gy,h1,λi ck u hi hu=>(h2 _ rfl i ck u hi hu).mono (y9 λp hp=>hp)⟩
   have slot:∀ {t:Nat} {e:E} {v:Value},t≠d->(∃y,eval s e=some y/\OwnV c.P B w (h.thaw be.2) ((h.thaw be.2).bl t 1) el y v)->m= {d:=[(d,[],.own el (.app e be.1 (c.P.cellsOf el))),(t,[],.no)],ps:=[d,t],rb:=[d,t],fz:=be.2,es:=[.app e be.1 (c.P.cellsOf el)]}->
     ∃v2 w' h',(Builtin.append_ #[T,T] ty #[v,a.eval y]).run c.P w=.ok v2 w'/\MPost c B G s (a.put (some d) v2) w w' h h' m:=by
    rintro t e v htd ⟨yv,hyv,hown⟩ rfl;obtain⟨z,hz⟩:=hes _ (List.Mem.head _);obtain⟨xx,yy,hxx,hyy,happ⟩:=LI hz;rw[hyv]at hxx;cases hxx;obtain⟨_,l2,_,rfl,_⟩:=WB happ;obtain⟨Gy,e1,e2⟩:=elems hyy rfl;obtain⟨v2,w',k1,k2,k3,k4,k5⟩:=UX (ty:=ty) hr1.ok (λb hb=>⟨t,1,hb⟩) hown hT' hel e1 e2 happ;obtain⟨q1,q2⟩:=KE (d:=d) (ts:=[t]) (t0:=0) (i0:=0) hr1.ok (λb hb=>⟨t,by simp,hb⟩) (by grind) k2 k3 k4;exact⟨v2,w',_,k1,q2.after,q1,Ya (ts:=[t]) ⟨v2,Wm hd v2,z,hz,(k5 (h.thaw be.2) rfl).mono (λ_ hb=>hb) (by simp[GH.put])⟩⟩
   split at hm
   ·rename_i hk;simp only[Zh6]at hm;subst hm;have hv:=R4 hr1 (Zc s c) hk;rw[hv];obtain⟨z,hz⟩:=hes _ (List.Mem.head _);obtain⟨xx,yy,hxx,hyy,happ⟩:=LI hz;simp only[eval,Zh6]at hxx;subst hxx;obtain⟨_,l2,_,rfl,_⟩:=WB happ;obtain⟨Gy,e1,e2⟩:=elems hyy rfl;obtain⟨i,zz,hi,hz1,hzs,h0,hby,hcs⟩:=VU hel;have hown:OwnV c.P B w (h.thaw be.2) none el (.sl []) (.slice none 0 0):=.inl ⟨[],[],rfl,by omega,λx hx=>by simp at hx,ZiW w B el _,rfl,λi ck hi=>by simp[flat]at hi⟩;obtain⟨v2,w',k1,k2,k3,k4,k5⟩:=UX (ty:=ty) hr1.ok (λb hb=>by cases hb) hown hT' hel e1 e2 happ;obtain⟨q1,q2⟩:=KE (d:=d) (ts:=[]) (t0:=0) (i0:=0) hr1.ok (λb hb=>by cases hb) (by simp) k2 k3 k4;exact⟨v2,w',_,k1,q2.after,q1,Ya (ts:=[]) ⟨v2,Wm hd v2,z,hz,(k5 (h.thaw be.2) rfl).mono (λ_ hb=>hb) (by simp[GH.put])⟩⟩
   ·rename_i t ty' e hk;split at hm
    ·rename_i hcond;obtain⟨rfl,htd,_⟩:=hcond;simp only[Zh6]at hm;obtain⟨v,hv,hrel,_⟩:=hr1.look (Zc s c) (show look _ [] t=_ from hk) rfl;rw[Act.eval_tmp a t v hv];exact slot htd hrel hm.symm
    ·cases hm
   ·rename_i p hk;simp only[Zh7]at hm;obtain⟨⟨ty',e⟩,ho,hm⟩:=hm;split at hm
    ·rename_i hcond;obtain⟨hty,hpd⟩:=hcond;simp only at hty;subst hty;simp only[Zh6]at hm;obtain⟨u,hu,hrel⟩:=hr1.ownOf ho;have hv:=ZR hr1 (Zc s c) hk rfl 0;have huv:=hu.symm.trans hv;simp only[Zh6]at huv;rw[<-huv];exact slot hpd hrel hm.symm
    ·cases hm
   ·rename_i p i hk;simp only[Zh7]at hm;obtain⟨cs,hmem,hm⟩:=hm;split at hm
    ·rename_i ty' e hc;split at hm
     ·rename_i hcond;obtain⟨rfl,hpd⟩:=hcond;simp only[Zha]at hm;obtain⟨k,hput,rfl⟩:=hm;obtain⟨cs',hmem',hle,rfl⟩:=U8 hput;rw[hmem]at hmem';cases hmem';obtain⟨b,vs,tyb,hb,htm,hh,hcs⟩:=hr1.memOf hmem;have hv:=ZR hr1 (Zc s c) hk rfl 0;obtain⟨b',hb',hcell⟩:=hv;rw[hb]at hb';cases hb';rw[Zhs w b i vs tyb (0,0) hh]at hcell;have hget:∀v,vs[i]?=some v->vs.getD i undef=v:=λv hv=>by simp_all
      obtain⟨yv,hyv,hown⟩:=hcs.2 i _ hc;rw[hget _ hcell]at hown;simp only at hown hyv;obtain⟨z,hz⟩:=hes _ (List.Mem.head _);obtain⟨xx,yy,hxx,hyy,happ⟩:=LI hz;rw[hyv]at hxx;cases hxx;obtain⟨_,l2,_,rfl,_⟩:=WB happ;obtain⟨Gy,e1,e2⟩:=elems hyy rfl;obtain⟨v2,w',k1,k2,k3,k4,k5⟩:=UX (ty:=ty) hr1.ok (λb hb=>⟨p,i+1,hb⟩) hown hT' hel e1 e2 happ;have hF:Same (h.thaw be.2).F w w':=λx hx=>k3 x (hr1.ok.f_lt x hx) λe=>(hr1.ok.b_lt p (i+1) x e).2.2 hx
      have hbw:w'.heap[b]?=w.heap[b]? :=k3 b (hr1.ok.b_lt p 0 b hb).2.1 λe=>by
       have:=(hr1.ok.inj p 0 p (i+1) b hb e).2;omega
      obtain⟨hsl,hgetc⟩:=Wp hle
      have hf:∀j x,(if j=1 then v2.ownBlock else none)=some x->j=1/\((w.heap.size<=x/\x<w'.heap.size)\/(h.thaw be.2).bl p (i+1)=some x):=by
       intro j x hj;split at hj
       ·grind
       ·cases hj
      have hrr:∀u j x,(if u=p/\j=i+1 then none else(h.thaw be.2).bl u j)=some x->(h.thaw be.2).bl u j=some x/\¬(u=p/\j=i+1):=by
       intro u j x hj;split at hj
       ·cases hj
       ·grind
      refine⟨v2,w',(h.thaw be.2).put d (λj=>if j=1 then v2.ownBlock else none) (λu j=>if u=p/\j=i+1 then none else(h.thaw be.2).bl u j),k1,Step.after ⟨k2,λx hx hn=>k3 x hx λe=>hn p (by simp) (i+1) e,λ_ hb=>hb,λt ht _=> ?_,λt ht=> ?_,λ_ _ _ _ hm=>(by simp at hm),rfl⟩,
       hr1.ok.put k2.size (λu j x _ hx=>(hrr u j x hx).1) (λj x hx=> ?_) (λj j' x hj hj'=>by grind) (λj x u j' hu hj hj'=> ?_),λt ht=> ?_⟩
      ·grind [GH.put]
      ·have h1:t≠d:=by grind
       simp[GH.put,h1]
      ·grind
      ·obtain⟨q1,q2⟩:=hrr u j' x hj';rcases(hf j x hj).2 with h1|h1
       ·have:=(hr1.ok.b_lt u j' x q1).2.1;omega
       ·exact q2 (hr1.ok.inj u j' p (i+1) x q1 h1)
      ·simp only[ZB,ZhA,Zja,Zho,Zil,ZjD]at ht;by_cases htd:t=d
       ·subst htd;simp only[Gam.at,ZhR];exact⟨trivial,λ_=>⟨v2,Wm hd v2,z,hz,(k5 (h.thaw be.2) rfl).mono (λ_ hb=>hb) (by simp[GH.put])⟩⟩
       ·have htp:t=p:=ht.resolve_left htd;subst htp;simp only[Gam.at,if_neg (Zjd htd),ZhR];refine⟨trivial,λ_=>⟨_,by grind [JE],b,vs,tyb,by simpa[GH.put,htd]using hb,rfl,by grind,by rw[hcs.1,hsl],λj ck hj=> ?_⟩⟩;obtain⟨h1,h2,h3⟩|⟨h1,h3⟩:=hgetc j ck hj
        ·have hjq:j=i:=by simp only[Zip]at h2;omega
         subst hjq;simp at h3;subst h3;exact(hcs.2 j _ hc).cell
        ·have hji:j≠i:=by simp only[Zip]at h1;omega
         have hbl:((h.thaw be.2).put d (λj=>if j=1 then v2.ownBlock else none) (λu j=>if u=t/\j=i+1 then none else(h.thaw be.2).bl u j)).bl t (j+1)=(h.thaw be.2).bl t (j+1):=by simp[GH.put,htd,hji]
         rw[hbl]
         exact(hcs.2 j ck h3).keep hF (λ_ hb=>hb) λx hx=>k3 x (hr1.ok.b_lt t (j+1) x hx).2.1 λe=>by
          have:=(hr1.ok.inj t (j+1) t (i+1) x hx e).2;omega
     ·cases hm
    ·cases hm
   ·cases hm
  ·cases hm
 ·cases hm
def MRun(c:Ctx)(B:Nat)(G:Nat->Prop)(s:St)(a:Act)(w:World)(h:GH)(o:Oper)(m:MS):Prop:=
 ∃n u w' h',(execOp a.eval o).run c.P w=.ok n w'/\(n=.value u\/n=.skip/\u=undef)/\MPost c B G s (a.put o.dst u) w w' h h' m
theorem Zde(hr:RelG c B G s a w h g){o:Oper}(hd:∀d,o.dst=some d->d<a.tmps.size){m:MS}(hm:mk c g o=some m)(hes:∀e∈m.es,∃z,eval s e=some z):MRun c B G s a w h o m:=by
 obtain⟨dst,op,type,pos,after,guard⟩:=o;unfold mk at hm;simp only at hm hd;split at hm
 ·rename_i x d;obtain⟨h',hp⟩:=RH hr (hd _ rfl) hm hes;exact⟨_,_,w,h',rfl,.inl rfl,hp⟩
 ·rename_i x d;obtain⟨h',hp⟩:=RH hr (hd _ rfl) hm hes;exact⟨_,_,w,h',rfl,.inl rfl,hp⟩
 ·rename_i T ad x;unfold Z6b at hm;split at hm
  ·cases hm
  ·rename_i hcond;simp only[Zhn,Zi5,not_or,ZjB,Bool.or_eq_false_iff,not_and,ZhG]at hcond;obtain⟨hT,hT1⟩:=hcond
   have hT1:Zr c.P T=true\/c.P.cellsOf T=1:=by
    cases hag:Zr c.P T with
    |true=>simp
    |false=>simp_all
   have fin:∀ {va:Value},a.eval ad=va->(∃w' h',(Instr.storeAt T va (a.eval x)).run c.P w=.ok () w'/\MPost c B G s a w w' h h' m)->MRun c B G s a w h {dst:=none,op:=.store T ad x,type,pos,after,guard} m:=by
    rintro va rfl ⟨w',h',h1,h2⟩;refine⟨.skip,undef,w',h',?_,.inr ⟨rfl,rfl⟩,h2⟩;simp[execOp,h1]
   split at hm
   ·rename_i cs hk;obtain⟨t,rfl,⟨v,hv,hev,⟨b,vs,ty,h1,rfl,_⟩⟩,_⟩:=(Ut hr (Zc s c) hk rfl).resolve_left (by simp);exact fin hev (RI hr hT hT1 hm hes h1)
   ·rename_i p o hk;obtain⟨b,h1,h2⟩:=ZR hr (Zc s c) hk rfl 0
    grind [RI]
   ·rename_i p i j o k hk;obtain⟨n,q,h1,⟨ki,h2⟩,h3⟩:=ZR hr (Zc s c) hk rfl 0
    grind [qP]
   ·rename_i p o j n k hk;obtain⟨b,q,h1,⟨ki,h2⟩,h3,h4⟩:=ZR hr (Zc s c) hk rfl 0
    grind [qO]
   ·cases hm
 ·rename_i T parts d;obtain⟨v,h',h1,h2⟩:=Z0P hr (hd _ rfl) hm hes;exact⟨.value v,v,w,h',by simp[execOp,h1],.inl rfl,h2⟩
 ·rename_i T x d;obtain⟨v,w',h',h1,h2⟩:=Z6a hr (hd _ rfl) hm;exact⟨.value v,v,w',h',by simp[execOp,h1],.inl rfl,h2⟩
 ·rename_i T m' k v;obtain⟨w',h',h1,h2⟩:=Jm (a':=a) hr rfl hm hes;exact⟨.skip,undef,w',h',by simp[execOp,h1],.inr ⟨rfl,rfl⟩,h2⟩
 ·rename_i args argTypes;split at hm
  ·rename_i x T hx hT;have hargs:args=#[x]:=Zii.1 (by omega);have htys:argTypes=#[T]:=Zii.1 (by omega);subst hargs htys;obtain⟨v,w',h',h1,h2⟩:=Z0R (a':=a) (ty:=type) hr rfl hm hes;exact⟨.value v,v,w',h',by simp[execOp,resolve,invoke,builtin,h1],.inl rfl,h2⟩
  ·cases hm
 ·rename_i args argTypes d;split at hm
  ·rename_i x y T U hx hT;have hargs:args=#[x,y]:=Zii.1 (by omega);have htys:argTypes=#[T,U]:=Zii.1 (by omega);subst hargs htys;obtain⟨v,w',h',h1,h2⟩:=qM (ty:=type) hr (hd _ rfl) hm hes;exact⟨.value v,v,w',h',by simp[execOp,resolve,invoke,builtin,h1],.inl rfl,h2⟩
  ·cases hm
 ·cases hm
end
end Vm
namespace Vm
open Go
def Z4v(calls:FuncId->Array Value->World->(Ending->World->Prop)->Prop)(o:Oper)(a:Act)(K:Act->World->Prop):Result Next->Prop
 |.ok (.value v) w'=>K (a.put o.dst v) w'
 |.ok .skip w'=>K (a.put o.dst undef) w'
 |.ok (.enter f args) w'=>calls f args w' λe w''=>∃v,e=.returned v/\K (a.put o.dst v) w''
 |_=>False
section
variable (calls:FuncId->Array Value->World->(Ending->World->Prop)->Prop)(o:Oper)(a:Act)(K:Act->World->Prop)(w:World)
theorem K5(v:Value):Z4v calls o a K (.ok (.value v) w)=K (a.put o.dst v) w:=rfl
theorem Z4w:Z4v calls o a K (.ok .skip w)=K (a.put o.dst undef) w:=rfl
theorem K4(f:FuncId)(args:Array Value):Z4v calls o a K (.ok (.enter f args) w)=calls f args w λe w''=>∃v,e=.returned v/\K (a.put o.dst v) w'':=rfl
end
def Zff(sim:World->World->Prop)(P:Program)(fn:Func)(R:Ending->World->Prop):Exit->Act->World->Prop
 |.normal,a,w|.ret,a,w=>a.defers=[]/\∀w1,sim w w1->∃v,(results fn a.tmps).run P w1=.ok v w1/\R (.returned v) w1
 |_,_,_=>False
class Lg (P:Program) where
 wp:Code->(Exit->Act->World->Prop)->Act->World->Prop
 calls:FuncId->Array Value->World->(Ending->World->Prop)->Prop
 todo:Array Oper->(Exit->Act->World->Prop)->List Nat->Act->World->Prop
 sim:World->World->Prop
 fit:Oper->Prop
 sim_eq:∀ {w w1},sim w w1->w1= {w with drawn:=w1.drawn}
 calls_mono:∀ {f args w} {R R':Ending->World->Prop},calls f args w R->(∀e w',R e w'->R' e w')->calls f args w R'
 wp_mono:∀ {c a w} {Q Q':Exit->Act->World->Prop},wp c Q a w->(∀e a w,Q e a w->Q' e a w)->wp c Q' a w
 wp_skip:∀ {Q a w},Q .normal a w->wp .skip Q a w
 wp_label:∀ {l Q a w},Q .normal a w->wp (.label l) Q a w
 wp_exit:∀ {id Q a w},Q (.exit id) a w->wp (.exit id) Q a w
 wp_ret:∀ {Q a w},Q .ret a w->wp .ret Q a w
 wp_seq:∀ {x y Q a w},wp x (Exit.then (wp y Q) Q) a w->wp (.seq x y) Q a w
 wp_scope:∀ {x} {Q:Exit->Act->World->Prop} {a w},wp x (Exit.noGoto Q) a w->wp (.scope x) Q a w
 wp_cond_true:∀ {c x y Q} {a:Act} {w},a.eval c=.bool true->wp x Q a w->wp (.cond c x y) Q a w
 wp_cond_false:∀ {c x y Q} {a:Act} {w},a.eval c=.bool false->wp y Q a w->wp (.cond c x y) Q a w
 wp_block:∀ {id x Q a w},wp x (Exit.inBlock id Q) a w->wp (.block id x) Q a w
 wp_loop:∀ {x Q a w} (I:Act->World->Prop) (μ:Act->World->Nat),I a w->(∀a w,I a w->wp x (Exit.then (λa' w'=>I a' w'/\μ a' w'<μ a w) Q) a w)->wp (.loop x) Q a w
 wp_region:∀ {id ops Q a w},(∀o∈ops,fit o)->todo ops Q (List.range ops.size) a w->wp (.region id ops false) Q a w
 wp_draw:∀ {id ops Q a} {w:World},(∀o∈ops,fit o)->(∀w1,sim w w1->∀t,todo ops Q (Region.schedule (P.follows .mixedOrders) ops t) a {w1 with drawn:=w1.drawn+1})->wp (.region id ops true) Q a w
 todo_nil:∀ {ops Q a w},Q .normal a w->todo ops Q [] a w
 todo_cons:∀ {ops Q i rest a w},(∀o∈ops,fit o)->(∀w1,sim w w1->match ops[i]? with
   |none=>todo ops Q rest a w1
   |some o=>if Region.wanted o (yielded ops a.tmps)=true then Z4v calls o a (todo ops Q rest) ((execOp a.eval o).run P w1)else todo ops Q rest (a.put o.dst undef) w1)->todo ops Q (i::rest) a w
 calls_of_wp:∀ {f fn c args w R},P.funcs[f]?=some fn->fn.body=some c->wp c (Zff sim P fn R) {tmps:=args++Array.replicate (fn.ntmps-args.size) undef,defers:=[]} w->calls f args w R
instance (priority:=low) loneQ (P:Program):Lg P where
 wp c Q a w:=c.wp P Q a w
 calls f args w R:=Calls P f args w R
 todo ops Q l a w:=wpOps P ops Q l a w
 sim w w1:=w1=w
 fit _:=True
 sim_eq h:=by subst h;rfl
 calls_mono h k:=ZkD h k
 wp_mono h k:=Go.wp_mono h k
 wp_skip h:=Go.wp_skip h
 wp_label h:=Go.wp_label h
 wp_exit h:=Go.wp_exit h
 wp_ret h:=Go.wp_ret h
 wp_seq h:=Go.wp_seq h
 wp_scope h:=Go.wp_scope_straight h
 wp_cond_true:=Go.wp_cond_true
 wp_cond_false:=Go.wp_cond_false
 wp_block h:=Go.wp_block h
 wp_loop I μ h k:=Go.wp_loop I μ h k
 wp_region _ h:=Go.wp_region h
 wp_draw _ h:=Go.wp_region_draw λt=>h _ rfl t
 todo_nil h:=h
 todo_cons {ops Q i rest a w} _ h:=by
  have h:=h w rfl;rw[wpOps_cons];unfold wpOp
  revert h
  cases hi:ops[i]? with
  |none=>exact id
  |some o=>
   dsimp only;split
   ·intro h;left;unfold Oper.wp
    revert h
    cases(execOp a.eval o).run P w with
    |halt x w'=>exact False.elim
    |ok n w'=>
     cases n<;>first|exact id|exact False.elim|skip
     exactλh=>ZkD h λe w'' he=>by
      obtain⟨v,rfl,hk⟩:=he;exact hk
   ·exact id
 calls_of_wp {f fn c args w R} hf hb h:=Go.calls_of_wp hf hb (Go.wp_mono h λe a w he=>by
  cases e with
  |normal=>obtain⟨h1,h2⟩:=he;obtain⟨v,h3,h4⟩:=h2 w rfl;exact⟨h1,v,h3,h4⟩
  |ret=>obtain⟨h1,h2⟩:=he;obtain⟨v,h3,h4⟩:=h2 w rfl;exact⟨h1,v,h3,h4⟩
  |_=>exact he.elim)
def opG(P:Program) [Lg P](ops:Array Oper)(i:Nat)(K:Act->World->Prop)(a:Act)(w:World):Prop:=
 match ops[i]? with
 |none=>K a w
 |some o=>if Region.wanted o (yielded ops a.tmps)=true then Z4v (Lg.calls P) o a K ((execOp a.eval o).run P w)else K (a.put o.dst undef) w
theorem Z8w{P:Program} [Lg P]{ops:Array Oper}{i:Nat}{K K':Act->World->Prop}{a:Act}{w:World}(h:∀a w,K a w->K' a w)(hh:opG P ops i K a w):opG P ops i K' a w:=by
 unfold opG at*;split
 ·exact h _ _ (by simpa[*]using hh)
 ·rename_i o ho;simp only[ho]at hh;split
  ·rename_i hw;rw[if_pos hw]at hh
   revert hh
   cases(execOp a.eval o).run P w with
   |halt x w'=>exact id
   |ok n w'=>
    cases n<;>first|exact id|exact h _ _|skip
    exactλh2=>Lg.calls_mono h2 λe w'' ⟨v,h3,h4⟩=>⟨v,h3,h _ _ h4⟩
  ·rename_i hw;rw[if_neg hw]at hh;exact h _ _ hh
def anyG(P:Program) [Lg P](ops:Array Oper)(Q:Exit->Act->World->Prop):Nat->Array Bool->Act->World->Prop
 |0,listed,a,w=>Region.ready .any ops listed=[]/\Q .normal a w
 |n+1,listed,a,w=>(Region.ready .any ops listed=[]->Q .normal a w)/\∀i∈Region.ready .any ops listed,∀w1,Lg.sim P w w1->opG P ops i (anyG P ops Q n (listed.setIfInBounds i true)) a w1
theorem Z31{P:Program} [Lg P]{ops:Array Oper}{Q:Exit->Act->World->Prop}(hf:∀o∈ops,Lg.fit P o):∀(fuel t:Nat) (listed:Array Bool) (a:Act) (w:World),anyG P ops Q fuel listed a w->
  Lg.todo P ops Q (Region.linearise.go .any ops fuel t listed []) a w:=by
 intro fuel
 induction fuel with
 |zero=>intro t listed a w h;exact Lg.todo_nil h.2
 |succ fuel ih=>
  intro t listed a w h;obtain⟨h₀,h₁⟩:=h;simp only[Region.linearise.go]
  change Lg.todo P ops Q (match(Region.ready .any ops listed)[t% (Region.ready .any ops listed).length]? with
   |some i=>Region.linearise.go .any ops fuel (t / (Region.ready .any ops listed).length) (listed.setIfInBounds i true) [i]
   |none=>[].reverse) a w
  cases hi:(Region.ready .any ops listed)[t% (Region.ready .any ops listed).length]? with
  |none=>
   have hnil:Region.ready .any ops listed=[]:=by
    cases hr:Region.ready .any ops listed with
    |nil=>rfl
    |cons x xs=>
     rw[hr]at hi;have hlt:t% (x::xs).length< (x::xs).length:=Zkc _ (by simp);simp at hi;simp at hlt;omega
   exact Lg.todo_nil (h₀ hnil)
  |some i=>
   simp only[];rw[linearise_go_acc,ZkQ,Zk6];exact Lg.todo_cons hf λw1 hw=>Z8w (λa w=>ih _ _ a w) (h₁ i (Zhg hi) w1 hw)
theorem Z1i{P:Program} [Lg P]{ops:Array Oper}{Q:Exit->Act->World->Prop}{id:Nat}{a:Act}{w:World}(hf:∀o∈ops,Lg.fit P o)(hm:P.follows .mixedOrders=true)
  (h:∀w1,Lg.sim P w w1->anyG P ops Q ops.size (Array.replicate ops.size false) a {w1 with drawn:=w1.drawn+1}):Lg.wp P (.region id ops true) Q a w:=
 Lg.wp_draw hf λw1 hw t=>by
  simp only[Region.schedule,hm,Zj5,ZhR];exact Z31 hf ops.size t _ a _ (h w1 hw)
def TA(p:Oper->Prop):Code->Prop
 |.region _ ops _=>∀o∈ops,p o
 |.seq x y=>TA p x/\TA p y
 |.cond _ x y=>TA p x/\TA p y
 |.block _ x|.loop x|.scope x=>TA p x
 |_=>True
class FitF (P:Program) [Lg P] (f:FuncId):Prop where
 all:∀fn c,P.funcs[f]?=some fn->fn.body=some c->TA (Lg.fit P) c
theorem Qz{p:Oper->Prop}(h:∀o,p o):∀c:Code,TA p c:=by
 intro c
 induction c with
 |region id ops d=>exactλo _=>h o
 |seq x y hx hy=>exact⟨hx,hy⟩
 |cond c x y hx hy=>exact⟨hx,hy⟩
 |block id x hx=>exact hx
 |loop x hx=>exact hx
 |scope x hx=>exact hx
 |_=>trivial
instance (priority:=low) fit_lone (P:Program) (f:FuncId): @FitF P (loneQ P) f:=⟨λ_ c _ _=>Qz (λ_=>trivial) c⟩
end Vm
namespace Vm
open Go
open Go.RowKit (Below)
def YB(P:Program)(f:FuncId):Bool:=
 match P.funcs[f]? with
 |some fn=> !(fn.name== "runtime.NumGoroutine")&&fn.body.isSome
 |none=>false
def VC(P:Program) [Lg P](f:FuncId)(fr:Bool)(args:List V)(r:V):Prop:=
 YB P f=true/\∀(w:World) (G:Nat->Prop) (vs:Array Value),(∀b,G b->b<w.heap.size)->vs.size=args.length->(∀(i:Nat) (x:V),args[i]?=some x->Rd w G x (vs.getD i undef))->
  Lg.calls P f vs w λe w'=>∃v,e=.returned v/\Below w.heap.size w w'/\Rd w' (λb=>(fr=false/\G b)\/(w.heap.size<=b/\b<w'.heap.size)) r v
def argK(k:OT)(x:V):Option TK:=
 match k,x with
 |.fz,x=>some (.val (.c x) [])
 |.own ty,x=>some (.own ty (.c x))
 |.mem l,.agg cs=>if cs.length=l.length then some (.mem ((l.zip cs).map λy=>(y.1,.c y.2)))else none
 |_,_=>none
def RelA(P:Program)(B:Nat)(w:World)(h:GH)(ks:List OT)(xs:List V)(vs:Array Value):Prop:=
 xs.length=ks.length/\vs.size=ks.length/\∀(i:Nat) (k:OT) (x:V),ks[i]?=some k->xs[i]?=some x->∃tk,argK k x=some tk/\RelK P B [] w h (λ_=>none) i (vs.getD i undef) tk
def RelB(P:Program)(B:Nat)(w:World)(h:GH)(ks:List OT)(ys:List V)(vs:Array Value):Prop:=
 ys.length=ks.length/\∀(i:Nat) (k:OT) (y:V),ks[i]?=some k->k≠.fz->ys[i]?=some y->∃tk,argK k y=some tk/\RelK P B [] w h (λ_=>none) i (vs.getD i undef) tk
def Xu:List OT->List V->List V
 |.fz::ks,_::ys=>Xu ks ys
 |_::ks,y::ys=>y::Xu ks ys
 |_,_=>[]
def Z3V(r:V)(os:List V):V:=
 match os with
 | []=>r
 |os=>.tup (r::os)
def VCM(P:Program) [Lg P](f:FuncId)(ks:List OT)(xs:List V)(R:V):Prop:=
 YB P f=true/\∀(B:Nat) (w:World) (h:GH) (vs:Array Value),Ok B h.F w h->RelA P B w h ks xs vs->
  Lg.calls P f vs w λe w'=>∃v r ys h',e=.returned v/\Below B w w'/\Same h.K w w'/\Ok B h.F w' h'/\h'.K=h.K/\Rd w' h'.F r v/\RelB P B w' h' ks ys vs/\R=Z3V r (Xu ks ys)
def fnOf(s:St):FN->Option FuncId
 |.id f=>some f
 | .e x=>match eval s x with
   |some (.fn f)=>some f
   |_=>none
def cloV:V->Option (FuncId×List V)
 |.fn f=>some (f,[])
 |.clo f cs=>some (f,cs)
 |_=>none
def fnV(s:St):FN->Option (FuncId×List V)
 |.id f=>some (f,[])
 |.e x=>(eval s x).bind cloV
def oldV(s:St):List OT->List E->Option (List V)
 |.fz::ks,_::es=>oldV s ks es
 |_::ks,e::es=>(eval s e).bind λx=>(oldV s ks es).map (x:: ·)
 |_,_=>some []
def EFok(P:Program) [Lg P](s:St):EF->Prop
 |.lt i C e=>holds s C->∃x,eval s e=some x/\get s i=.v x
 |.call i C f fr fl aq_=>holds s C->∃xs n r,Yb s aq_=some xs/\fnV s f=some n/\VC P n.1 fr (xs++n.2) r/\(fl=true->flV r=some r)/\get s i=.v r
 | .callm i C f ks aq_=>(holds s C->∃xs n R,Yb s aq_=some xs/\fnOf s f=some n/\VCM P n ks xs R/\get s i=.v R)/\
   (¬holds s C->∃os,oldV s ks aq_=some os/\(os≠[]->get s i=.v (.tup (.bool false::os))))
section
variable {c:Ctx}{B:Nat}{G:Nat->Prop}{s:St}{a a':Act}{w w':World}{h h':GH}{g:Gam}{C:Zj}{fz ps rb:List Nat}{ops:Array Oper}
def UW:List (E×Option Nat)->Nat->Option Nat
 | [],_=>none
 |x::l,u=>if x.2=some u then some 0 else(UW l u).map (· +1)
theorem Wc:∀ {l:List (E×Option Nat)} {u i:Nat},UW l u=some i->∃e,l[i]?=some (e,some u)
 | [],u,i,hi=>by cases hi
 | (e,o)::l,u,i,hi=>by
   simp only[UW]at hi;split at hi
   ·rename_i ho;have ho:o=some u:=ho;simp only[Zh6]at hi;subst hi ho;exact⟨e,rfl⟩
   ·simp only[Zha]at hi;obtain⟨j,hj,rfl⟩:=hi;obtain⟨e',he⟩:=Wc hj;exact⟨e',by simpa using he⟩
theorem Tw:∀ {l:List (E×Option Nat)} {u:Nat},UW l u=none->u∉l.filterMap (·.2)
 | [],u,_,hm=>by simp at hm
 | (e,o)::l,u,hi,hm=>by
   simp only[UW]at hi;split at hi
   ·cases hi
   ·rename_i ho;have ho:¬o=some u:=ho;simp only[ZkR]at hi;have:=Tw hi;simp_all
theorem UH{l:List (E×Option Nat)}{e:E}{u i:Nat}(hi:l[i]?=some (e,some u)):u∈l.filterMap (·.2):=
 ZjW.2 ⟨_,Zhg hi,rfl⟩
theorem Li:∀ {l:List Nat},S7 l=true↔l.Nodup
 | []=>by simp[S7]
 |x::l=>by
  simp_all[S7,Zhb,Zi5,Ziz,ZjX,ZiZ,Li]
theorem Qs:∀ {l:List (E×Option Nat)} {e e':E} {u i j:Nat},(l.filterMap (·.2)).Nodup->l[i]?=some (e,some u)->l[j]?=some (e',some u)->i=j
 | [],e,e',u,i,j,_,hi,_=>by simp at hi
 | (e0,o)::l,e,e',u,i,j,hn,hi,hj=>by
   have hn':(l.filterMap (·.2)).Nodup:=by
    cases o with
    |none=>simpa using hn
    |some p=>simp only[ZiJ,ZiZ]at hn;exact hn.2
   cases i with
   |zero=>
    simp at hi;cases j with
    |zero=>rfl
    |succ j=>
     exfalso;have h1:=UH (l:=l) (i:=j) (by simpa using hj);rw[hi.2]at hn;simp only[ZiJ,ZiZ]at hn;exact hn.1 h1
   |succ i=>
    cases j with
    |zero=>
     exfalso;simp at hj;have h1:=UH (l:=l) (i:=i) (by simpa using hi);rw[hj.2]at hn;simp only[ZiJ,ZiZ]at hn;exact hn.1 h1
    |succ j=>
     have:=Qs (i:=i) (j:=j) hn' (by simpa using hi) (by simpa using hj);rw[this]
theorem Z7a{l:List (E×Option Nat)}(hn:(l.filterMap (·.2)).Nodup){e:E}{u i:Nat}(hi:l[i]?=some (e,some u)):UW l u=some i:=by
 cases hx:UW l u with
 |none=>exact absurd (UH hi) (Tw hx)
 |some j=>
  grind [Wc,Qs]
def XN(g:Gam)(h:GH)(ks:List OT)(aq_:List (E×Option Nat))(i j:Nat):Option Nat:=
 match(aq_[i]?).bind (·.2),ks[i]? with
 |some p,some (.mem _)=>match j with
  |0=>h.bl p 0
  |j+1=>match(memOf g p).bind λcs=>cs[j]? with
   |some (.own _,_)=>h.bl p (j+1)
   |_=>none
 |some p,some (.own _)=>if j=1 then h.bl p 1 else none
 |_,_=>none
theorem YP{ks:List OT}{aq_:List (E×Option Nat)}{i j b:Nat}(hb:XN g h ks aq_ i j=some b):∃p e k,aq_[i]?=some (e,some p)/\ks[i]?=some k/\k≠.fz/\h.bl p j=some b/\(∀ty,k=.own ty->j=1):=by
 unfold XN at hb
 grind
def XO(g:Gam)(h:GH)(w:World)(ks:List OT)(aq_:List (E×Option Nat)):GH:=
 {F:=h.F,bl:=XN g h ks aq_,K:=λb=>b<w.heap.size/\∀i j,XN g h ks aq_ i j≠some b}
theorem yw(hok:Ok B G w h){ks:List OT}{aq_:List (E×Option Nat)}(hn:(aq_.filterMap (·.2)).Nodup):Ok B h.F w (XO g h w ks aq_):=by
 refine⟨hok.base,hok.f_lt,λb hb=>.inl hb,λb hb=>hb,λt i b hb=> ?_,λt i u j b hb hb'=> ?_,λb hb=>hb.1,λt i b hb hK=>hK.2 t i hb,λb hb=>.inl hb⟩
 ·obtain⟨p,_,_,_,_,_,h1,_⟩:=YP hb;exact hok.b_lt p i b h1
 ·obtain⟨p,e,_,h1,_,_,h2,_⟩:=YP hb;obtain⟨q,e',_,h3,_,_,h4,_⟩:=YP hb';obtain⟨rfl,rfl⟩:=hok.inj p i q j b h2 h4;exact⟨Qs hn h1 h3,rfl⟩
def apV(a:Act)(h:GH)(x:AP)(v:Value):Prop:=
 match x with
 |.op x _=>v=a.eval x
 |.cap p=>∃b,h.bl p 0=some b/\v=.pointer (some ⟨b,0,none⟩)
theorem Lk:∀ {a b:List CK},Lj c.P a b=true->a.length=b.length/\∀(i:Nat) (x y:CK),a[i]?=some x->b[i]?=some y->x=y\/x=.nil/\(y=.fz\/∃ty,y=.own ty/\0<c.P.cellsOf ty)
 | [],[],_=>⟨rfl,λi x y hx=>by simp at hx⟩
 | [],_::_,h=>by simp[Lj]at h
 |_::_,[],h=>by simp[Lj]at h
 |x::a,y::b,h=>by
  simp only[Lj,Zhb,Zhn,ZhG]at h;obtain⟨h1,h2⟩:=h;obtain⟨h3,h4⟩:=Lk h2;refine⟨by simp[h3],λi x' y' hx hy=> ?_⟩;cases i with
  |zero=>
   simp at hx hy;subst hx hy;obtain h1|h1:=h1
   ·exact .inl h1
   ·split at h1
    ·simp only[Zhw]at h1;exact .inr ⟨rfl,.inr ⟨_,rfl,h1⟩⟩
    ·exact .inr ⟨rfl,.inl rfl⟩
    ·cases h1
  |succ i=>exact h4 i x' y' (by simpa using hx) (by simpa using hy)
theorem RelC.const{P:Program}{o:Option Nat}{k:CK}{e:E}{v:Value}{x:V}(hr:RelC P B s w h o k e v)(hx:eval s e=some x){h2:GH}(hF:h2.F=h.F):RelC P B [] w h2 o k (.c x) v:=by
 cases k with
 |fz=>obtain⟨y,h0,h1,h3⟩:=hr;rw[hx]at h0;cases h0;exact⟨x,rfl,h1,h3.mono λb hb=>by simp_all⟩
 |own ty=>obtain⟨y,h0,h1⟩:=hr;rw[hx]at h0;cases h0;exact⟨x,rfl,h1.mono (λb hb=>by simp_all) rfl⟩
 |nil=>obtain⟨h0,h1⟩:=hr;rw[hx]at h1;cases h1;exact⟨h0,rfl⟩
 |dead=>exact hr
theorem Z7b(hr:RelG c B G s a w h g)(hC:holds s (ixC c C)){x:AP}{p:Nat}{v:Value}(hs:Zbk g C x=some p)(hv:apV a h x v):∃b,h.bl p 0=some b/\v=.pointer (some ⟨b,0,none⟩):=by
 unfold Zbk at hs;split at hs
 ·simp only[Zh6]at hs;subst hs;exact hv
 ·rename_i t ty;have hv:v=a.eval (.tmp t):=hv;subst hv;split at hs
  ·rename_i cs hk;simp only[Zh6]at hs;subst hs;obtain⟨v,hv,⟨b,vs,T,h1,h2,_⟩,_⟩:=hr.look hC (show look g C t=_ from hk) rfl;simp_all[Act.eval_tmp]
  ·rename_i q hk;simp only[Zh6]at hs;subst hs;exact ZR hr hC hk rfl 0
  ·cases hs
 ·cases hs
theorem Qo(hr:RelG c B G s a w h g){k:OT}{x:AP}{e:E}{p:Nat}(hp:U3 c g C k x=some (e,some p)){X:V}(hX:eval s e=some X){ks:List OT}{aq_:List (E×Option Nat)}{i:Nat}(hk:ks[i]?=some k)(hi:aq_[i]?=some (e,some p)):
  ∃v,a.tmps[p]?=some v/\(∃tk,argK k X=some tk/\RelK c.P B [] w (XO g h w ks aq_) (λ_=>none) i v tk)/\((∃l b,k=.mem l/\h.bl p 0=some b/\v=.pointer (some ⟨b,0,none⟩))\/∃ty,k=.own ty):=by
 unfold U3 at hp;split at hp
 ·split at hp
  ·simp only[Zh7]at hp;obtain⟨_,_,hp⟩:=hp;split at hp
   ·simp at hp
   ·cases hp
  ·cases hp
 ·
  rename_i l;simp only[Zh7]at hp;obtain⟨p,hs,cs,hmem,hp⟩:=hp;split at hp
  ·rename_i hcond;simp only[Zhb,Zi5]at hcond;obtain⟨hdead,hpass⟩:=hcond;simp only[Zh6,Zhf]at hp;obtain⟨rfl,rfl⟩:=hp;obtain⟨b,vs,T,h1,h2,h3,h4⟩:=hr.memOf hmem;obtain⟨hlen,hget⟩:=Lk hpass;simp only[Zi1]at hlen;have hX0:=hX;simp only[eval,Zha]at hX0;obtain⟨xs,hxs,hag⟩:=hX0;obtain⟨hxl,hxat⟩:=Yy hxs;have hxl':xs.length=cs.length:=by simpa using hxl
   have hone:∀x∈xs,x.one=true:=λx hx=>by
    obtain⟨j,hj⟩:=Zhy hx;have hlt:j<cs.length:=by have:=(Zh9.1 hj).1;omega
    obtain⟨x',hx1,hx2⟩:=hxat j (cs[j]).2 (by rw[Zhr,Zh8 hlt];rfl);rw[hj]at hx1;cases hx1;have hc:=h4.2 j cs[j] (Zh8 hlt)
    obtain⟨z,hz,hz1,_⟩:=hc.rd (G':=λ_=>True) (λhd=>by
     have:Y8 cs=true:=ZiG.2 ⟨cs[j],Zhi hlt,by simp[hd]⟩;rw[hdead]at this;cases this) (λ_ _=>trivial) λ_ _ _ _=>trivial
    rw[hx2]at hz;cases hz;exact hz1
   have hXe:X=.agg xs:=by rw[<-hag];simp only[agV,YC hone]
   subst hXe;have hlx:xs.length=l.length:=by omega
   have hbl0:XN g h ks aq_ i 0=h.bl p 0:=by simp[XN,hi,hk]
   refine⟨_,h2,⟨.mem ((l.zip xs).map λy=>(y.1,.c y.2)),by simp only[argK,hlx,ZhR],b,vs,T,by show XN g h ks aq_ i 0=_;rw[hbl0];exact h1,rfl,h3,by rw[h4.1];simp;omega,λj ck hj=> ?_⟩,.inl ⟨l,b,rfl,h1,rfl⟩⟩;simp only[Zhr,Zha]at hj;obtain⟨⟨ck1,x1⟩,hj,rfl⟩:=hj;rw[ZkB]at hj;obtain⟨hj1,hj2⟩:=hj;have hlt:j<cs.length:=by have:=(Zh9.1 hj2).1;omega
   obtain⟨x',hx1,hx2⟩:=hxat j (cs[j]).2 (by rw[Zhr,Zh8 hlt];rfl);simp only at hj2 hj1;rw[hj2]at hx1;cases hx1;have hc:=h4.2 j cs[j] (Zh8 hlt)
   have hcb:XN g h ks aq_ i (j+1)=match cs[j]with|(.own _,_)=>h.bl p (j+1)|_=>none:=by
    simp only[XN,hi,hk,hmem,Zhh,Zh8 hlt];rcases cs[j]with ⟨kk,e⟩;cases kk<;>rfl
   obtain he|⟨he,rfl|⟨ty,rfl,h0⟩⟩:=hget j (cs[j]).1 ck1 (by rw[Zhr,Zh8 hlt];rfl) hj1
   ·rw[<-he];show RelC c.P B [] w (XO g h w ks aq_) (XN g h ks aq_ i (j+1)) (cs[j]).1 (.c x1) (vs.getD j undef);rw[hcb];have hcc:=hc.const hx2 (h2:=XO g h w ks aq_) rfl;generalize cs[j]=q at hcc;obtain⟨kk,e⟩:=q;cases kk with
    |own ty=>exact hcc
    |fz=>exact hcc
    |nil=>exact hcc
    |dead=>exact hcc
   ·show RelC c.P B [] w (XO g h w ks aq_) (XN g h ks aq_ i (j+1)) .fz (.c x1) (vs.getD j undef);generalize cs[j]=q at he hc hx2;obtain⟨kk,e⟩:=q;simp only at he;subst he;obtain⟨e1,e2⟩:=hc;simp only at hx2 e2;rw[e2]at hx2;cases hx2;rw[e1];exact⟨_,rfl,rfl,.nil _ _ (Zim _)⟩
   ·show RelC c.P B [] w (XO g h w ks aq_) (XN g h ks aq_ i (j+1)) (.own ty) (.c x1) (vs.getD j undef);rw[hcb];generalize cs[j]=q at he hc hx2;obtain⟨kk,e⟩:=q;simp only at he;subst he;obtain⟨e1,e2⟩:=hc;simp only at hx2 e2;rw[e2]at hx2;cases hx2;rw[e1];exact⟨_,rfl,.inl ⟨[],[],rfl,h0,λx hx=>by simp at hx,ZiW w B ty _,rfl,λi ck hi=>by simp[flat]at hi⟩⟩
  ·cases hp
 ·
  rename_i ty;simp only[Zh7]at hp;obtain⟨p,hs,⟨ty',e'⟩,ho,hp⟩:=hp;split at hp
  ·rename_i hty;simp only at hty;subst hty;simp only[Zh6,Zhf]at hp;obtain⟨rfl,rfl⟩:=hp;obtain⟨u,hu,X',hX',hown⟩:=hr.ownOf ho;rw[hX]at hX';cases hX';have hcb:XN g h ks aq_ i 1=h.bl p 1:=by simp[XN,hi,hk]
   refine⟨u,hu,⟨_,rfl,X,rfl,?_⟩,.inr ⟨_,rfl⟩⟩;show OwnV c.P B w (XO g h w ks aq_) (XN g h ks aq_ i 1) ty' X u;rw[hcb];exact hown.mono (λ_ hb=>hb) rfl
  ·cases hp
 ·cases hp
theorem Z2q(hr:RelG c B G s a w h g)(hC:holds s (ixC c C)){k:OT}{x:AP}{y:E×Option Nat}(hp:U3 c g C k x=some y){X:V}(hX:eval s y.1=some X){v:Value}(hv:apV a h x v){ks:List OT}{aq_:List (E×Option Nat)}{i:Nat}(hk:ks[i]?=some k)(hi:aq_[i]?=some y):
  (∃tk,argK k X=some tk/\RelK c.P B [] w (XO g h w ks aq_) (λ_=>none) i v tk)/\∀p,y.2=some p->a.tmps[p]?=some v:=by
 obtain⟨e,o⟩:=y;cases o with
 |none=>
  refine⟨?_,λp hp=>by cases hp⟩;unfold U3 at hp;split at hp
  ·split at hp
   ·rename_i x ty;simp only[Zh7]at hp;obtain⟨a0,ha0,hp⟩:=hp;split at hp
    ·rename_i hemp;simp only[Zh6,Zhf,and_true]at hp;subst hp;obtain⟨z,hz,hzr⟩:=UN hr hC ha0;obtain⟨z',hz',hzr'⟩:=J2 (fl:=Xw c.P ty) (b:=a0) hz hzr ⟨X,hX⟩;simp only at hX;rw[hX]at hz';cases hz';have hv:v=a.eval x:=hv;subst hv;rw[ZjH.1 hemp]at hzr';exact⟨_,rfl,X,rfl,hzr'.F.mono λb hb=>GH.ext_F hb⟩
    ·cases hp
   ·cases hp
  ·simp only[Zh7]at hp;obtain⟨_,_,_,_,hp⟩:=hp;split at hp
   grind
   ·cases hp
  ·simp only[Zh7]at hp;obtain⟨_,_,_,_,hp⟩:=hp;split at hp
   grind
   ·cases hp
  ·cases hp
 |some p=>
  obtain⟨u,hu,hrel,hcase⟩:=Qo hr hp hX hk hi
  have huv:u=v:=by
   unfold U3 at hp;split at hp
   ·split at hp
    ·simp only[Zh7]at hp;obtain⟨_,_,hp⟩:=hp;split at hp
     grind
     ·cases hp
    ·cases hp
   ·simp only[Zh7]at hp;obtain⟨p',hs,cs,hmem,hp⟩:=hp;split at hp
    ·simp only[Zh6,Zhf]at hp;obtain⟨_,rfl⟩:=hp;obtain⟨b,q1,rfl⟩:=Z7b hr hC hs hv;simp_all
    ·cases hp
   ·simp only[Zh7]at hp;obtain⟨p',hs,⟨ty',e'⟩,ho,hp⟩:=hp;split at hp
    ·simp only[Zh6,Zhf]at hp;obtain⟨_,rfl⟩:=hp;unfold Zea at hs;split at hs
     ·rename_i t tt;have hv:v=a.eval (.tmp t):=hv;subst hv;split at hs
      ·simp_all[Zh6,Act.eval_tmp]
      ·rename_i q hk2;simp only[Zh6]at hs;subst hs;have hrel:a.tmps[q]?=some (a.eval (.tmp t)):=ZR hr hC hk2 rfl 0;simp_all
      ·cases hs
     ·cases hs
    ·cases hp
   ·cases hp
  simp_all
end
end Vm
namespace Vm
open Go
open Go.RowKit (Below)
section
variable {c:Ctx}{B:Nat}{G:Nat->Prop}{s:St}{a a':Act}{w w':World}{h h' hx:GH}{g:Gam}{C:Zj}{fz ps rb:List Nat}{ops:Array Oper}{ks:List OT}{aq_:List (E×Option Nat)}
structure OPost (c:Ctx) (B:Nat) (G:Nat->Prop) (s:St) (a a':Act) (w w':World) (h h':GH) (os:OS):Prop where
 step:Step B os.ps os.rb os.fz w w' h h'
 ok:Ok B G w' h'
 size:a'.tmps.size=a.tmps.size
 defers:a'.defers=a.defers
 tm:∀t,t∉os.ps->a'.tmps[t]?=a.tmps[t]?
 ent:∀t∈ZB os.d,(holds s (ixC c (os.d.at t).1)->(os.d.at t).2.isNo=false->∃v,a'.tmps[t]?=some v/\RelK c.P B s w' h' (λp=>a'.tmps[p]?) t v (os.d.at t).2)/\(¬holds s (ixC c (os.d.at t).1)->a'.tmps.getD t undef=undef)
theorem Qp(a:Act)(d:Option Nat)(v:Value):(a.put d v).tmps.size=a.tmps.size:=by
 cases d<;>simp[Act.put]
theorem Uv(a:Act)(d:Option Nat)(v:Value):(a.put d v).defers=a.defers:=by
 cases d<;>rfl
theorem Z9J{d:Nat}(v:Value){t:Nat}(ht:t∉ [d]):(a.put (some d) v).tmps[t]?=a.tmps[t]? :=JE (by grind) v
def Wh(h hx:GH)(aq_:List (E×Option Nat)):GH:=
 {F:=λb=>h.F b\/hx.F b,K:=h.K,
  bl:=λu j=>match UW aq_ u with
   |some i=>if j=0 then h.bl u 0 else hx.bl i j
   |none=>h.bl u j}
theorem Za6(hok:Ok B G w h)(hn:(aq_.filterMap (·.2)).Nodup)(hokx:Ok B h.F w' hx)(hK:hx.K=(XO g h w ks aq_).K)(hsz:w.heap.size<=w'.heap.size)
  (hks:∀(i:Nat) (e:E) (p:Nat),aq_[i]?=some (e,some p)->(∃l,ks[i]?=some (.mem l)/\hx.bl i 0=h.bl p 0)\/∃ty,ks[i]?=some (.own ty)):Ok B G w' (Wh h hx aq_):=by
 have hKlt:∀b,h.K b->(XO g h w ks aq_).K b:=λb hb=>⟨hok.k_lt b hb,λi j hbl=>by
  obtain⟨p,_,_,_,_,_,h1,_⟩:=YP hbl;exact hok.k_bl p j b h1 hb⟩
 have isK:∀ {t j b:Nat},h.bl t j=some b->UW aq_ t=none->hx.K b:=by
  intro t j b hb ht;rw[hK];refine⟨(hok.b_lt t j b hb).2.1,λi q hbl=> ?_⟩;obtain⟨p,e,_,h1,_,_,h3,_⟩:=YP hbl;obtain⟨rfl,_⟩:=hok.inj t j p q b hb h3;exact Tw ht (UH h1)
 have isK0:∀ {t i:Nat} {e:E} {b:Nat},aq_[i]?=some (e,some t)->(∃ty,ks[i]?=some (OT.own ty))->h.bl t 0=some b->hx.K b:=by
  intro t i e b hi hk hb;rw[hK];refine⟨(hok.b_lt t 0 b hb).2.1,λi' q hbl=> ?_⟩;obtain⟨p,e',k,h1,h2,_,h3,h4⟩:=YP hbl;obtain⟨rfl,rfl⟩:=hok.inj t 0 p q b hb h3;have:=Qs hn hi h1;subst this;obtain⟨ty,hk⟩:=hk;rw[hk]at h2;cases h2;have:=h4 ty rfl;omega
 have notF:∀ {t j b:Nat},h.bl t j=some b->hx.K b->¬(h.F b\/hx.F b):=by
  intro t j b hb hkb hF;obtain hF|hF:=hF
  ·exact(hok.b_lt t j b hb).2.2 hF
  ·obtain h1|h1:=hokx.k_F b hF
   ·exact(hok.b_lt t j b hb).2.2 h1
   simp_all
 refine⟨hokx.base,λb hb=> ?_,λb hb=> ?_,λb hb=>.inl (hok.g_F b hb),λt j b hb=> ?_,λt j u q b hb hb'=> ?_,λb hb=>Zhj (hok.k_lt b hb) hsz,λt j b hb hkb=> ?_,λb hb=> ?_⟩
 ·obtain hb|hb:=hb
  ·exact Zhj (hok.f_lt b hb) hsz
  ·exact hokx.f_lt b hb
 ·obtain hb|hb:=hb
  ·exact hok.f_or b hb
  ·obtain h1|h1:=hokx.f_or b hb
   ·exact hok.f_or b h1
   omega
 ·simp only[Wh]at hb⊢;split at hb
  ·rename_i i hix;obtain⟨e,hi⟩:=Wc hix;split at hb
   ·rename_i hj;subst hj;obtain⟨l,hk,h0⟩|hk:=hks i e t hi
    ·rw[<-h0]at hb;obtain⟨q1,q2,q3⟩:=hokx.b_lt i 0 b hb;refine⟨q1,q2,λhF=> ?_⟩;obtain hF|hF:=hF
     ·exact q3 (hokx.g_F b hF)
     grind
    ·obtain⟨q1,q2,_⟩:=hok.b_lt t 0 b hb
     grind
   ·obtain⟨q1,q2,q3⟩:=hokx.b_lt i j b hb;refine⟨q1,q2,λhF=> ?_⟩;obtain hF|hF:=hF
    ·exact q3 (hokx.g_F b hF)
    grind
  ·rename_i hix;obtain⟨q1,q2,_⟩:=hok.b_lt t j b hb
   grind
 ·
  have place:∀ {t j:Nat},(Wh h hx aq_).bl t j=some b->(∃i e,aq_[i]?=some (e,some t)/\hx.bl i j=some b)\/(h.bl t j=some b/\hx.K b):=by
   intro t j hb;simp only[Wh]at hb;split at hb
   ·grind [Wc]
   ·grind
  obtain⟨i,e,hi,h1⟩|⟨h1,h2⟩:=place hb<;>obtain⟨i',e',hi',h1'⟩|⟨h1',h2'⟩:=place hb'
  ·obtain⟨rfl,rfl⟩:=hokx.inj i j i' q b h1 h1';simp_all
  ·exact absurd h2' (hokx.k_bl i j b h1)
  ·exact absurd h2 (hokx.k_bl i' q b h1')
  ·exact hok.inj t j u q b h1 h1'
 ·have hkx:=hKlt b hkb;rw[<-hK]at hkx;simp only[Wh]at hb;split at hb
  ·rename_i i hix;split at hb
   ·exact hok.k_bl t 0 b (by assumption) hkb
   ·exact hokx.k_bl i j b hb hkx
  ·exact hok.k_bl t j b hb hkb
 ·obtain hb|hb:=hb
  ·exact hok.k_F b hb
  ·obtain h1|h1:=hokx.k_F b hb
   ·exact hok.k_F b h1
   ·exact .inr λhkb=>h1 (by rw[hK];exact hKlt b hkb)
theorem Z4P(hok:Ok B G w h){d:Nat}(hbel:Below B w w')(hsame:Same (XO g h w ks aq_).K w w'):Step B (d::aq_.filterMap (·.2)) [d] [] w w' h (Wh h hx aq_):=by
 refine⟨hbel,λb hlt hn=>hsame b ⟨hlt,λi j hb=> ?_⟩,λb hb=>.inl hb,λt ht _=> ?_,λt ht=> ?_,λ_ _ _ _ hm=>(by simp at hm),rfl⟩
 ·grind [YP,UH]
 ·grind [UW,Wc,absurd,List.mem_cons_of_mem,UH,Wh]
 grind [Wh]
theorem Qn{i0:Nat}:∀ {q:Nat} {ks:List OT} {aq_:List (E×Option Nat)} {ys:List V},aq_.length=ks.length->ys.length=ks.length->(∀(j:Nat) (k:OT) (y:E×Option Nat),ks[j]?=some k->aq_[j]?=some y->(y.2=none↔k=OT.fz))->∀(t:Nat),t∈ZB (Xx i0 q ks aq_)->
  ∃(j:Nat) (k:OT) (e:E) (y:V) (r:Nat),ks[j]?=some k/\aq_[j]?=some (e,some t)/\ys[j]?=some y/\(Xx i0 q ks aq_).at t=([],newK i0 (q+r) k)/\(Xu ks ys)[r]?=some y
 |q,[],aq_,ys,_,_,_,t,ht=>by
  have:Xx i0 q [] aq_=[]:=by unfold Xx;rfl
  rw[this]at ht;simp[ZB]at ht
 |q,k::ks,[],ys,h1,_,_,t,ht=>by simp at h1
 |q,k::ks,(e,o)::aq_,[],_,h2,_,t,ht=>by simp at h2
 |q,k::ks,(e,o)::aq_,y::ys,h1,h2,h3,t,ht=>by
  have hk:=h3 0 k (e,o) rfl rfl;have h3':∀(j:Nat) (k:OT) (y:E×Option Nat),ks[j]?=some k->aq_[j]?=some y->(y.2=none↔k=.fz):=λj k y h4 h5=>h3 (j+1) k y (by simpa using h4) (by simpa using h5);cases o with
  |none=>
   have hkz:k=.fz:=hk.1 rfl;subst hkz;have e1:Xx i0 q (.fz::ks) ((e,none)::aq_)=Xx i0 q ks aq_:=by simp only[Xx]
   have e2:Xu (.fz::ks) (y::ys)=Xu ks ys:=by simp only[Xu]
   rw[e1]at ht⊢;obtain⟨j,k',e',y',r,q1,q2,q3,q4,q5⟩:=Qn (ys:=ys) (by simpa using h1) (by simpa using h2) h3' t ht;exact⟨j+1,k',e',y',r,by simpa using q1,by simpa using q2,by simpa using q3,q4,by rw[e2];exact q5⟩
  |some p=>
   have hkz:k≠.fz:=λe=>by have:=hk.2 e;cases this
   have e1:Xx i0 q (k::ks) ((e,some p)::aq_)=(p,[],newK i0 q k)::Xx i0 (q+1) ks aq_:=by simp only[Xx]
   have e2:Xu (k::ks) (y::ys)=y::Xu ks ys:=by cases k<;>first|exact absurd rfl hkz|simp only[Xu]
   rw[e1]at ht⊢;by_cases hpt:p=t
   ·subst hpt;exact⟨0,k,e,y,0,rfl,rfl,rfl,by simp[Gam.at],by rw[e2];rfl⟩
   ·have ht':t∈ZB (Xx i0 (q+1) ks aq_):=by
     simp only[ZB,ZhA,Zho]at ht;exact ht.resolve_left λe=>hpt e.symm
    obtain⟨j,k',e',y',r,q1,q2,q3,q4,q5⟩:=Qn (ys:=ys) (by simpa using h1) (by simpa using h2) h3' t ht';exact⟨j+1,k',e',y',r+1,by simpa using q1,by simpa using q2,by simpa using q3,by simp only[Gam.at,if_neg hpt];rw[q4,ZiU,Zl2 1 r],by rw[e2];simpa using q5⟩
theorem Jw{i0:Nat}:∀ {q:Nat} {ks:List OT} {aq_:List (E×Option Nat)},aq_.length=ks.length->ZB (Xx i0 q ks aq_)=aq_.filterMap (·.2)
 |q,[],[],_=>by simp[Xx,ZB]
 |q,[],_::_,h=>by simp at h
 |q,k::ks,[],h=>by simp at h
 |q,k::ks,(e,o)::aq_,h=>by
  cases o with
  |none=>
   have e1:Xx i0 q (k::ks) ((e,none)::aq_)=Xx i0 q ks aq_:=by simp only[Xx]
   rw[e1,Jw (by simpa using h)];simp
  |some p=>
   have e1:Xx i0 q (k::ks) ((e,some p)::aq_)=(p,[],newK i0 q k)::Xx i0 (q+1) ks aq_:=by simp only[Xx]
   rw[e1];have:=Jw (i0:=i0) (q:=q+1) (ks:=ks) (aq_:=aq_) (by simpa using h);simp only[ZB,ZhA]at this⊢;rw[this];simp
theorem Z8p{P:Program}{i0 q j p:Nat}{k:OT}{y:V}{L:List V}{v:Value}(hk:k≠.fz)(hst:get s i0=.v (.tup L))(hq:L[q]?=some y){hx h':GH}(hrel:∃tk,argK k y=some tk/\RelK P B [] w' hx (λ_=>none) j v tk)
  (hF:∀b,hx.F b->h'.F b) (h0:(∃l,k=.mem l)->h'.bl p 0=hx.bl j 0) (hbl:∀i,h'.bl p (i+1)=hx.bl j (i+1)) (tm:Nat->Option Value):RelK P B s w' h' tm p v (newK i0 q k):=by
 obtain⟨tk,harg,hrel⟩:=hrel;have hext:eval s (.ext (.s i0) q)=some y:=by simp only[eval,hst,Zhh,extV,hq]
 cases k with
 |fz=>simp_all
 |own ty=>
  simp only[argK,Zh6]at harg;subst harg;obtain⟨x,hx1,hown⟩:=hrel;simp only[eval,Zh6]at hx1;subst hx1;exact⟨y,hext,hown.mono hF (hbl 0).symm⟩
 |mem l=>
  cases y<;>simp only[argK]at harg<;>first|(cases harg;done)|skip
  rename_i cs;split at harg
  ·rename_i hlen;simp only[Zh6]at harg;subst harg;obtain⟨b,vs,T,e1,e2,e3,e4,e5⟩:=hrel;refine⟨b,vs,T,by simp_all,e2,e3,by simp_all,λi ck hi=> ?_⟩;simp only[Zhr,Zha]at hi;obtain⟨⟨kk,i'⟩,hi,rfl⟩:=hi;rw[Zje,Zha]at hi;obtain⟨kk',hi,hki⟩:=hi;simp only[Zhf,Zi2]at hki;obtain⟨rfl,rfl⟩:=hki;have hlt:i<cs.length:=by rw[hlen];exact(Zh9.1 hi).1
   have hc:=e5 i (kk',.c cs[i]) (by grind);show RelC P B s w' h' (h'.bl p (i+1)) kk' (.fld (.ext (.s i0) q) i) (vs.getD i undef);rw[hbl]
   have hfld:cs[i].one=true->eval s (.fld (.ext (.s i0) q) i)=some cs[i]:=λh1=>by
    simp only[eval,hst,Zhh,extV,hq,fldV,V.pc,Zh8 hlt,oneV,h1,ZhR]
   cases kk' with
   |fz=>
    obtain⟨x,q1,q2,q3⟩:=hc;simp only[eval,Zh6]at q1;subst q1;exact⟨_,hfld q2,q2,q3.mono hF⟩
   |own ty=>
    obtain⟨x,q1,q2⟩:=hc;simp only[eval,Zh6]at q1;subst q1;exact⟨_,hfld q2.one,q2.mono hF rfl⟩
   |nil=>
    obtain⟨q1,q2⟩:=hc;simp only[eval,Zh6]at q2;exact⟨q1,by rw[hfld (by rw[q2];rfl),q2]⟩
   |dead=>exact hc
  grind
 |nil=>grind [argK]
 |clo f l=>grind [argK]
theorem Xo:∀ {ks:List OT} {aps:List AP} {aq_:List (E×Option Nat)},W4 c g C ks aps=some aq_->aps.length=ks.length/\aq_.length=ks.length/\∀(i:Nat) (k:OT) (x:AP) (y:E×Option Nat),ks[i]?=some k->aps[i]?=some x->aq_[i]?=some y->U3 c g C k x=some y
 | [],[],aq_,h=>by
   simp only[W4,Zh6]at h;subst h;exact⟨rfl,rfl,λi k x y hk=>by simp at hk⟩
 | [],_::_,aq_,h=>by simp[W4]at h
 |_::_,[],aq_,h=>by simp[W4]at h
 |k::ks,x::l,aq_,h=>by
  simp only[W4,Zh7,Zha]at h;obtain⟨y,hy,ys,hys,rfl⟩:=h;obtain⟨h1,h2,h3⟩:=Xo hys;refine⟨by simp[h1],by simp[h2],λi k' x' y' q1 q2 q3=> ?_⟩;cases i with
  |zero=>simp at q1 q2 q3;subst q1 q2 q3;exact hy
  |succ i=>exact h3 i k' x' y' (by grind) (by grind) (by grind)
theorem Z7I(hr:RelG c B G s a w h g)(hC:holds s (ixC c C)){aps:List AP}(hp:W4 c g C ks aps=some aq_){xs:List V}(hxs:Yb s (aq_.map (·.1))=some xs){vs:Array Value}(hvl:vs.size=aps.length)(hvs:∀(i:Nat) (x:AP),aps[i]?=some x->apV a h x (vs.getD i undef)):
  RelA c.P B w (XO g h w ks aq_) ks xs vs:=by
 obtain⟨h1,h2,h3⟩:=Xo hp;obtain⟨h4,h5⟩:=Yy hxs;refine⟨by rw[h4];simpa using h2,by omega,λi k x hk hx=> ?_⟩;have hlt:i<ks.length:=(Zh9.1 hk).1;have ha:aps[i]?=some aps[i]:=Zh8 (by omega);have hs:aq_[i]?=some aq_[i]:=Zh8 (by omega);obtain⟨x',hx1,hx2⟩:=h5 i (aq_[i]).1 (by rw[Zhr,hs];rfl);rw[hx]at hx1;cases hx1;exact(Z2q hr hC (h3 i k _ _ hk ha hs) hx2 (hvs i _ ha) hk hs).1
theorem KK(hr:RelG c B G s a w h g){aps:List AP}(hp:W4 c g C ks aps=some aq_)(hn:(aq_.filterMap (·.2)).Nodup){d:Nat}(hd:d<a.tmps.size)(hdp:d∉aq_.filterMap (·.2)){all:Gam}{efs:List EF}{chks:List (Zj×E)}{kd:TK}
  {vs:Array Value} (hslot:∀(i:Nat) (e:E) (p:Nat),aq_[i]?=some (e,some p)->a.tmps[p]?=some (vs.getD i undef)/\((∃l b,ks[i]?=some (.mem l)/\h.bl p 0=some b/\vs.getD i undef=.pointer (some ⟨b,0,none⟩))\/∃ty,ks[i]?=some (.own ty)))
  (hz:∀(j:Nat) (k:OT) (y:E×Option Nat),ks[j]?=some k->aq_[j]?=some y->(y.2=none↔k=OT.fz))
  (hokx:Ok B h.F w' hx) (hK:hx.K=(XO g h w ks aq_).K) (hbel:Below B w w') (hsame:Same (XO g h w ks aq_).K w w') {ys:List V} (hB:RelB c.P B w' hx ks ys vs) {r0:V} (hget:Xu ks ys≠[]->get s (c.ix d)=.v (.tup (r0::Xu ks ys)))
  {u:Value} (hu:holds s (ixC c C)->RelK c.P B s w' (Wh h hx aq_) (λp=>(a.put (some d) u).tmps[p]?) d u kd) (hu':¬holds s (ixC c C)->u=undef):
  OPost c B G s a (a.put (some d) u) w w' h (Wh h hx aq_) {d:=(d,C,kd)::Xx (c.ix d) 1 ks aq_++Wf (d::aq_.filterMap (·.2)) [d] [] all,ps:=d::aq_.filterMap (·.2),rb:=[d],fz:=[],efs,chks}:=by
 obtain⟨h1,h2,h3⟩:=Xo hp
 have hks:∀(i:Nat) (e:E) (p:Nat),aq_[i]?=some (e,some p)->(∃l,ks[i]?=some (.mem l)/\hx.bl i 0=h.bl p 0)\/∃ty,ks[i]?=some (.own ty):=by
  intro i e p hi;obtain⟨_,hcase⟩:=hslot i e p hi;obtain⟨l,b,hk,hb,hv⟩|hk:=hcase
  ·refine .inl ⟨l,hk,?_⟩;have hlt:i<ys.length:=by rw[hB.1];exact(Zh9.1 hk).1
   obtain⟨tk,harg,hrel⟩:=hB.2 i _ ys[i] hk (by simp) (Zh8 hlt);generalize ys[i]=y at harg;cases y<;>simp only[argK]at harg<;>first|(cases harg;done)|skip
   split at harg
   ·simp only[Zh6]at harg;subst harg;obtain⟨b',vs',T,e1,e2,_⟩:=hrel;simp_all
   grind
  ·grind
 have hok':=Za6 hr.ok hn hokx hK hbel.size hks;have hst:=Z4P (hx:=hx) (d:=d) hr.ok hbel hsame;refine⟨hst,hok',Qp _ _ _,Uv _ _ _,λt ht=>JE (λe=>ht (by simp[e])) u,λt ht=> ?_⟩;simp only[Zij,Gam.at];by_cases hdt:d=t
 ·simp_all[ZhR,Wm,Zhc,ZhL]
 ·rw[if_neg hdt,Y4];by_cases hto:t∈ZB (Xx (c.ix d) 1 ks aq_)
  ·rw[if_pos hto];obtain⟨j,k,e,y,r,q1,q2,q3,q4,q5⟩:=Qn (i0:=c.ix d) (q:=1) (ys:=ys) h2 hB.1 hz t hto;rw[q4];refine⟨λ_ _=>⟨vs.getD j undef,by rw[JE (Zjd hdt)];grind,?_⟩,λhh=>absurd (Zc s c) hh⟩;have hkz:k≠.fz:=λe'=>by grind
   have hix:=Z7a hn q2;refine Z8p (h':=Wh h hx aq_) hkz (hget λe'=>by simp_all) (by grind) (hB.2 j k y q1 hkz q3) (λb hb=>.inr hb) (λhm=> ?_) (λi=>by simp[Wh,hix]) _;obtain⟨l,_,h0⟩|⟨ty,hty⟩:=hks j e t q2
   ·grind [Wh]
   grind
  ·rw[if_neg hto]
   have htk:t∈ZB (Wf (d::aq_.filterMap (·.2)) [d] [] all):=by
    simp only[ZB,ZhA,Zic,Zij,Zho,Zhx]at ht hto⊢;obtain ht|ht|ht:=ht
    ·omega
    ·simp_all
    ·exact ht
   simp_all[Qg,TK.isNo,absurd,Zc]
end
end Vm
namespace Vm
open Go
open Go.RowKit (Below)
section
variable {c:Ctx}{B:Nat}{G:Nat->Prop}{s:St}{a a':Act}{w w':World}{h h':GH}{g:Gam}{C:Zj}{fz ps rb:List Nat}{ops:Array Oper}
theorem GH.exb_of{h:GH}{big:Bool}{sh:List Nat}{b:Nat}(hb:h.ext sh b):h.exb big sh b:=by
 obtain hb|⟨p,hp,i,hi⟩:=hb
 ·exact .inl hb
 ·exact .inr ⟨p,hp,i+1,.inr (by omega),hi⟩
theorem GH.exb_ext{h:GH}{sh:List Nat}{b:Nat}(hb:h.exb false sh b):h.ext sh b:=by
 obtain hb|⟨p,hp,i,hi0,hi⟩:=hb
 ·exact .inl hb
 ·obtain hi0|hi0:=hi0
  ·cases hi0
  ·cases i with
   |zero=>omega
   |succ i=>exact .inr ⟨p,hp,i,hi⟩
theorem GH.exb_mono{h:GH}{big big':Bool}{sh sh':List Nat}(hb:big=true->big'=true)(hs:∀p∈sh,p∈sh'):∀b,h.exb big sh b->h.exb big' sh' b:=by
 intro b hx;obtain hx|⟨p,hp,i,hi0,hi⟩:=hx
 ·exact .inl hx
 ·refine .inr ⟨p,hs p hp,i,?_,hi⟩
  grind
theorem GH.exb_lt(hok:Ok B G w h){big:Bool}{sh:List Nat}:∀b,h.exb big sh b->b<w.heap.size:=by
 intro b hb;obtain hb|⟨p,_,i,_,hi⟩:=hb
 ·exact hok.f_lt b hb
 ·exact(hok.b_lt p i b hi).2.1
theorem Z1M(hr:RelG c B G s a w h g){G':Nat->Prop}(hF:∀b,h.F b->G' b):∀ {caps:List Nat} {es:List E} {xs:List V},(∀p∈caps,∀i b,h.bl p i=some b->G' b)->Z51 g caps=some es->Yb s es=some xs->
  xs.length=caps.length/\∀(i p b:Nat) (x:V),caps[i]?=some p->xs[i]?=some x->h.bl p 0=some b->Rd w G' x (.pointer (some ⟨b,0,none⟩))
 | [],es,xs,_,he,hx=>by
   simp only[Z51,Zh6]at he;subst he;simp only[Yb,Zh6]at hx;subst hx;exact⟨rfl,λi p b x hi=>by simp at hi⟩
 |q::l,es,xs,hG,he,hx=>by
  simp only[Z51,Zh7]at he;obtain⟨cs,hm,he⟩:=he;split at he
  ·cases he
  rename_i hd;simp only[Zha]at he;obtain⟨es',he',rfl⟩:=he;simp only[Yb,Zh7,Zha]at hx;obtain⟨z,hz,xs',hxs',rfl⟩:=hx;obtain⟨h1,h2⟩:=Z1M hr hF (λp hp=>hG p (by simp[hp])) he' hxs';refine⟨by simp[h1],λi p b x hi hxi hb=> ?_⟩;cases i with
  |zero=>
   simp at hi hxi;subst hi hxi;obtain⟨b',vs,T,q0,_,q2,q3⟩:=hr.memOf hm;rw[hb]at q0;cases q0;exact Jl hb q2 q3 (by grind) hz hF (hG q (by simp))
  |succ i=>exact h2 i p b x (by grind) (by simpa using hxi) hb
theorem Zaa(hr:RelG c B G s a w h g)(hC:holds s (ixC c C)){x:Operand}{e:E}{sh:List Nat}(he:bigE g (opK g C x) (j6 x)=some (e,sh)){z:V}(hz:eval s e=some z):Rd w (h.exb true sh) z (a.eval x):=by
 have hF:∀b,h.F b->h.exb true sh b:=λb hb=>.inl hb;have hG:∀p∈sh,∀i b,h.bl p i=some b->h.exb true sh b:=λp hp i b hi=>.inr ⟨p,hp,i,.inl rfl,hi⟩;cases x with
 |tmp t=>
  simp only[opK,j6]at he;cases hk:look g C t with
  |mem cs=>
   rw[hk]at he;simp only[bigE]at he;split at he
   ·cases he
   rename_i hd;simp only[Zh6,Zhf]at he;obtain⟨rfl,rfl⟩:=he;obtain⟨v,hv,⟨b,vs,T,q0,rfl,q2,q3⟩,_⟩:=hr.look hC hk rfl;rw[Act.eval_tmp a t _ hv];exact Jl q0 q2 q3 (by grind) hz hF (hG t (by simp))
  |pm p o=>
   rw[hk]at he;cases o with
   |succ o=>simp[bigE]at he
   |zero=>
    simp only[bigE,Zh7]at he;obtain⟨cs,hm,he⟩:=he;split at he
    ·cases he
    rename_i hd;simp only[Zh6,Zhf]at he;obtain⟨rfl,rfl⟩:=he;obtain⟨v,hv,⟨b,q0,rfl⟩,_⟩:=hr.look hC hk rfl;obtain⟨b',vs,T,q1,_,q2,q3⟩:=hr.memOf hm;rw[q0]at q1;cases q1;rw[Act.eval_tmp a t _ hv];exact Jl q0 q2 q3 (by grind) hz hF (hG p (by simp))
  |clo f caps=>
   rw[hk]at he;simp only[bigE,Zha,Zhf]at he;obtain⟨es,hes,rfl,rfl⟩:=he;obtain⟨v,hv,⟨vs,rfl,q1,q2⟩,_⟩:=hr.look hC hk rfl;rw[Act.eval_tmp a t _ hv];simp only[eval,Zh7]at hz;obtain⟨xs,hxs,hz⟩:=hz;simp only[ptV,Zh6]at hz;subst hz;obtain⟨h1,h2⟩:=Z1M hr hF hG hes hxs;refine .clo f xs vs (by omega) λi x hi=> ?_;have hlt:i<caps.length:=by have:=(Zh9.1 hi).1;omega
   obtain⟨b,q3,q4⟩:=q2 i caps[i] (by simp[hlt]);have:vs.getD i undef=.pointer (some ⟨b,0,none⟩):=by simp[Zhc,q4]
   grind
  |big e' sh'=>
   rw[hk]at he;simp only[bigE,Zh6,Zhf]at he;obtain⟨rfl,rfl⟩:=he;obtain⟨v,hv,⟨x,hx,hrd⟩,_⟩:=hr.look hC hk rfl;simp_all[Act.eval_tmp]
  |_=>rw[hk]at he;simp[bigE]at he
 |const v=>
  have:∀k,bigE g k 0=some (e,sh)->(∃cs,k=.mem cs)\/(∃p o,k=.pm p o)\/(∃f l,k=.clo f l)\/∃e l,k=.big e l:=by
   intro k hk;cases k<;>first|(simp[bigE]at hk;done)|exact .inl ⟨_,rfl⟩|exact .inr (.inl ⟨_,_,rfl⟩)|exact .inr (.inr (.inl ⟨_,_,rfl⟩))|simp
  have h1:=this _ he
  grind [opK]
 |func f=>grind [opK,bigE]
 |global q=>grind [opK,bigE]
theorem Z9Z(hr:RelG c B G s a w h g)(hC:holds s (ixC c C)){fl:Bool}{x:Operand}{r:E×List Nat×Bool}(he:argE g C fl x=some r){z:V}(hz:eval s r.1=some z):Rd w (h.exb r.2.2 r.2.1) z (a.eval x):=by
 unfold argE at he;split at he
 ·rename_i a0 ha;simp only[Zh6]at he;subst he;obtain⟨y,hy,hyr⟩:=UN hr hC ha;obtain⟨z',hz',hzr⟩:=J2 (b:=a0) hy hyr ⟨z,hz⟩;rw[hz]at hz';cases hz';exact hzr.mono λb hb=>GH.exb_of hb
 ·simp only[Zha]at he;obtain⟨a1,ha,rfl⟩:=he
  grind [Zaa]
theorem Z1G(hr:RelG c B G s a w h g)(hC:holds s (ixC c C)):∀ {l:List Operand} {ts:List TypeId} {es:List E×List Nat×Bool},Z4M c.P g C l ts=some es->∀ {xs:List V},Yb s es.1=some xs->
  xs.length=l.length/\∀(i:Nat) (x:Operand),l[i]?=some x->∃z,xs[i]?=some z/\Rd w (h.exb es.2.2 es.2.1) z (a.eval x)
 | [],ts,es,he,xs,hx=>by
   simp only[Z4M,Zh6]at he;subst he;simp only[Yb,Zh6]at hx;subst hx;exact⟨rfl,λi x hi=>by simp at hi⟩
 |x::l,ts,es,he,xs,hx=>by
  simp only[Z4M,Zh7,Zha]at he;obtain⟨a0,ha,b,hb,rfl⟩:=he;simp only[Yb,Zh7,Zha]at hx;obtain⟨z,hz1,xs',hx2,rfl⟩:=hx;obtain⟨h1,h2⟩:=Z1G hr hC hb hx2;have hzr:=Z9Z hr hC ha hz1;refine⟨by simp[h1],λi y hi=> ?_⟩;cases i with
  |zero=>simp at hi;subst hi;exact⟨z,by simp,hzr.mono (GH.exb_mono (λe=>by simp[e]) λp hp=>by simp[hp])⟩
  |succ i=>
   obtain⟨z',e1,e2⟩:=h2 i y (by grind);exact⟨z',by grind,e2.mono (GH.exb_mono (λe=>by simp[e]) λp hp=>by simp[hp])⟩
theorem Z37(hr:RelG c B G s a w h g)(hC:holds s (ixC c C)){o:Oper}{fn:FN}{sh:List Nat}{args:List Operand}{ts:List TypeId}(hcall:Z4U g C o=some (fn,sh,args,ts)){n:FuncId×List V}(hf:fnV s fn=some n)(hcb:YB c.P n.1=true):
  ∃caps:Array Value,(execOp a.eval o).run c.P w=.ok (.enter n.1 ((args.map a.eval).toArray++caps)) w/\caps.size=n.2.length/\∀(i:Nat) (x:V),n.2[i]?=some x->Rd w (h.ext sh) x (caps.getD i undef):=by
 have hent:∀ {f:FuncId} {args:Array Operand} {tys:Array TypeId} {cv:Operand} {caps:Array Value},YB c.P f=true->o.op=.call {callee:=.value cv,args:=args,argTypes:=tys}->a.eval cv=.func (.func f) #[] caps->
   (execOp a.eval o).run c.P w=.ok (.enter f ((args.toList.map a.eval).toArray++caps)) w:=by
  intro f args tys cv caps hcb hop hev;unfold YB at hcb;split at hcb
  ·rename_i fn hfn;simp only[Zhb,Zi5,Zkn,ne_eq]at hcb;obtain⟨h1,h2⟩:=hcb;obtain⟨code,h3⟩:=Zid.1 h2;have:(args.toList.map a.eval).toArray=args.map a.eval:=by rw[<-Zie,Array.toArray_toList]
   rw[this];simp[execOp,hop,resolve,hev,Deferred.ofValue,invoke,callFunc,hfn,h1,h3]
  ·cases hcb
 unfold Z4U at hcall;split at hcall
 ·rename_i f' args' tys hop;simp only[Zh6,Zhf]at hcall;obtain⟨rfl,rfl,rfl,rfl⟩:=hcall;simp only[fnV,Zh6]at hf;subst hf;exact⟨#[],hent hcb hop rfl,rfl,λi x hi=>by simp at hi⟩
 ·rename_i t args' tys hop;split at hcall
  ·rename_i e sh' hk;simp only[Zh6,Zhf]at hcall;obtain⟨rfl,rfl,rfl,rfl⟩:=hcall;obtain⟨v,hv,⟨x,hx,hxr⟩,_⟩:=hr.look hC (show look g C t=_ from hk) rfl;simp only[fnV,hx,Zhh]at hf;unfold cloV at hf;split at hf
   ·simp only[Zh6]at hf;subst hf;cases hxr;exact⟨#[],hent hcb hop (Act.eval_tmp a t _ hv),rfl,λi x hi=>by simp at hi⟩
   ·simp only[Zh6]at hf;subst hf;cases hxr with
    |clo _ _ vs h1 h2=>grind [Act.eval_tmp]
   ·cases hf
  grind
 grind
theorem Z41(hr:RelG c B G s a w h g)(hC:holds s (ixC c C)){o:Oper}{x y z:Operand}(ho:o.op=.pick x y z){k:TK}{es:List E}(hp:Z6F c g C x y z=some (k,es))(hes:∀e∈es,∃z,eval s e=some z)(d:Nat):PRun c B G s a w h o d k:=by
 unfold Z6F at hp;split at hp
 ·rename_i t u hk;split at hp
  ·cases hp
  ·rename_i hu;have hu:u=c.ix t:=by simpa using hu
   subst hu;simp only[Zh7,Zha,Zhf]at hp;obtain⟨ey,hey,ez,hez,rfl,rfl⟩:=hp;obtain⟨v,hv,⟨xb,hxb,hxr⟩,_⟩:=hr.look hC (show look g C t=_ from hk) rfl;obtain⟨q,hq⟩:=hes _ (List.Mem.head _);have hq0:=hq;simp only[eval]at hq hxb;rw[hxb,Zhh]at hq
   have hst:get s (c.ix t)=.v xb:=by
    cases hg:get s (c.ix t)<;>rw[hg]at hxb<;>simp at hxb
    rw[hxb]
   have hex:∀b,xb=.bool b->(execOp a.eval o).run c.P w=.ok (.value (if b=true then a.eval y else a.eval z)) w:=by
    intro b hb;subst hb;have hvb:v=.bool b:=by cases hxr;rfl
    subst hvb;unfold execOp;simp only[ho,Act.eval_tmp a t _ hv];cases b<;>simp[asBool]
   unfold iteV at hq;split at hq
   ·have hC2:holds s (ixC c (C++[(t,true)])):=by
     have:ixC c (C++[(t,true)])=ixC c C++[(c.ix t,true)]:=by simp[ixC]
     rw[this,VX];refine⟨hC,λx hx=> ?_⟩;simp at hx;subst hx;exact hst
    obtain⟨r,hr1,hr2⟩:=UN hr hC2 hey;rw[hr1]at hq;cases hq;exact⟨_,w,hex true rfl,PRes.here hr.ok ⟨_,hq0,hr2.mono λb hb=>GH.ext_left hb⟩⟩
   ·have hC2:holds s (ixC c (C++[(t,false)])):=by
     have:ixC c (C++[(t,false)])=ixC c C++[(c.ix t,false)]:=by simp[ixC]
     rw[this,VX];refine⟨hC,λx hx=> ?_⟩;simp at hx;subst hx;exact hst
    obtain⟨r,hr1,hr2⟩:=UN hr hC2 hez;rw[hr1]at hq;cases hq;exact⟨_,w,hex false rfl,PRes.here hr.ok ⟨_,hq0,hr2.mono λb hb=>GH.ext_right hb⟩⟩
   ·cases hq
 ·cases hp
theorem Z8B(hr:RelG c B G s a w h g)(hC:holds s (ixC c C)){o:Oper}{k:TK}{es:List E}(hp:pkOf c g C o=some (k,es))(hes:∀e∈es,∃z,eval s e=some z)(d:Nat)(hd:o.dst=some d):PRun c B G s a w h o d k:=by
 grind [pkOf,Z41,ZdJ]
theorem yR(hr:RelG c B G s a w h g){o:Oper}(hc:z5 c ops g o=some C):(holds s (ixC c C)->Region.wanted o (yielded ops a.tmps)=true)/\(¬holds s (ixC c C)->Region.wanted o (yielded ops a.tmps)=false):=by
 unfold z5 at hc;unfold Region.wanted;split at hc
 ·simp_all[Zh6,trivial,absurd,Zc]
 ·rename_i j want hg;simp only[Zh7]at hc;obtain⟨t,ht,hc⟩:=hc;simp only[hg]
  have hy:yielded ops a.tmps j=match a.tmps[t]? with|some (.bool b)=>some b|_=>none:=by
   unfold yielded;rw[show(ops[j]?).bind (·.dst)=some t from by grind,Zhh];generalize a.tmps[t]?=q;cases q with
   |none=>rfl
   |some v=>rfl
  split at hc
  ·rename_i Ct u hat;split at hc
   ·rename_i hu;subst hu;simp only[Zh6]at hc;subst hc;have e1:ixC c (Ct++[(t,want)])=ixC c Ct++[(c.ix t,want)]:=by simp[ixC]
    have e2:holds s (ixC c (Ct++[(t,want)]))↔holds s (ixC c Ct)/\get s (c.ix t)=.v (.bool want):=by
     rw[e1,VX];simp[holds]
    by_cases hCt:holds s (ixC c Ct)
    ·obtain⟨v,hv,hrel⟩:=hr.at_ t (by simp_all) (by rw[hat];rfl);rw[hat]at hrel;obtain⟨x,hx,hxr⟩:=hrel
     have hst:get s (c.ix t)=.v x:=by
      simp only[eval]at hx;cases hg:get s (c.ix t)<;>rw[hg]at hx<;>simp at hx
      rw[hx]
     rw[hy,hv];constructor
     ·intro hh;have:=(e2.1 hh).2;rw[hst]at this;simp only[SV.v.injEq]at this;subst this;have hvb:v=.bool want:=by cases hxr;rfl
      simp_all
     ·intro hh;have hne:x≠.bool want:=λe=>hh (e2.2 ⟨hCt,by rw[hst,e]⟩)
      cases hxr<;>first
       |rfl
       |simp_all
    ·have hs:=hr.skip t (by simp_all)
     have hnone:(match a.tmps[t]? with|some (.bool b)=>some b|_=>none)=(none:Option Bool):=by
      cases hh:a.tmps[t]? with
      |none=>rfl
      |some v=>
       simp only[Zhc,hh,ZhL]at hs;subst hs;rfl
     simp_all
   ·cases hc
  ·cases hc
theorem Z2s{d:Nat}{k:TK}{v:Value}{efs:List EF}{chks:List (Zj×E)}(hd:d<a.tmps.size)(hs:Step B [d] [d] [] w w' h h')(hok:Ok B G w' h')(hC:holds s (ixC c C))(hk:RelK c.P B s w' h' (λp=>(a.put (some d) v).tmps[p]?) d v k):
  OPost c B G s a (a.put (some d) v) w w' h h' {d:=[(d,C,k)],ps:=[d],rb:=[d],fz:=[],efs,chks}:=
 ⟨hs,hok,Qp _ _ _,Uv _ _ _,λt ht=>Z9J v ht,λt ht=>by
  simp_all[ZB,Gam.at,ZhR,Wm,absurd]⟩
theorem ji{d:Nat}{k:TK}{efs:List EF}{chks:List (Zj×E)}(hd:d<a.tmps.size)(hok:Ok B G w h)(hC:¬holds s (ixC c C)):
  OPost c B G s a (a.put (some d) undef) w w h h {d:=[(d,C,k)],ps:=[d],rb:=[d],fz:=[],efs,chks}:=
 ⟨Step.refl _ _ _ _,hok,Qp _ _ _,Uv _ _ _,λt ht=>Z9J _ ht,λt ht=>by
  simp_all[ZB,Gam.at,ZhR,absurd,Zhc,Wm,ZhL]⟩
theorem RelK.other{d t:Nat}{v u:Value}{k:TK}(hk:RelK c.P B s w h (λp=>a.tmps[p]?) t v k)(ht:XB d k=false):RelK c.P B s w h (λp=>(a.put (some d) u).tmps[p]?) t v k:=by
 cases k with
 |ref p=>
  have:p≠d:=λe=>by simp_all[XB]
  show(a.put (some d) u).tmps[p]?=some v;rw[JE this];exact hk
 |_=>exact hk
theorem zE:∀ {R:List Nat} {g:Gam} {t:Nat},(only g R).at t=if t∈R then g.at t else([],.no)
 | [],g,t=>rfl
 |u::R,g,t=>by
  simp only[only,ZhA,Gam.at];by_cases hu:u=t
  ·grind
  ·rw[if_neg hu];have:=zE (R:=R) (g:=g) (t:=t);simp_all[only,Zjd]
theorem Z2J(hr:RelG c B G s a w h g){ks:List OT}{aps:List AP}{aq_:List (E×Option Nat)}(hp:W4 c g C ks aps=some aq_)(hX:∀(i:Nat) (e:E) (p:Nat),aq_[i]?=some (e,some p)->∃X,eval s e=some X){vs:Array Value}
  (hvs:∀(i:Nat) (e:E) (p:Nat),aq_[i]?=some (e,some p)->a.tmps[p]?=some (vs.getD i undef)):
  (∀(i:Nat) (e:E) (p:Nat),aq_[i]?=some (e,some p)->a.tmps[p]?=some (vs.getD i undef)/\((∃l b,ks[i]?=some (.mem l)/\h.bl p 0=some b/\vs.getD i undef=.pointer (some ⟨b,0,none⟩))\/∃ty,ks[i]?=some (.own ty))):=by
 obtain⟨h1,h2,h3⟩:=Xo hp;intro i e p hi;have hlt:i<ks.length:=by rw[<-h2];exact(Zh9.1 hi).1
 have hk:ks[i]?=some ks[i]:=Zh8 hlt;have ha:aps[i]?=some aps[i]:=Zh8 (by omega)
 grind [Qo,Option.some.injEq]
theorem ZdF{ks:List OT}{aps:List AP}{aq_:List (E×Option Nat)}(hp:W4 c g C ks aps=some aq_):∀(j:Nat) (k:OT) (y:E×Option Nat),ks[j]?=some k->aq_[j]?=some y->(y.2=none↔k=OT.fz):=by
 obtain⟨h1,h2,h3⟩:=Xo hp;intro j k y hk hy;have hlt:j<ks.length:=(Zh9.1 hk).1;have hpo:=h3 j k _ y hk (Zh8 (by omega:j<aps.length)) hy;unfold U3 at hpo
 grind [Option.bind_eq_some_iff,Option.some.injEq]
theorem WC:∀ {l:List Operand} {ts:List TypeId},(UY l ts).length=l.length/\∀(i:Nat) (x:AP),(UY l ts)[i]?=some x->∃y t,l[i]?=some y/\x=.op y t
 | [],ts=>by simp[UY]
 |x::l,[]=>by
  obtain⟨h1,h2⟩:=WC (l:=l) (ts:=[]);refine⟨by simp[UY,h1],λi y hi=> ?_⟩;cases i with
  |zero=>simp[UY]at hi;exact⟨x,0,rfl,hi.symm⟩
  |succ i=>simpa using h2 i y (by simpa[UY]using hi)
 |x::l,t::ts=>by
  obtain⟨h1,h2⟩:=WC (l:=l) (ts:=ts);refine⟨by simp[UY,h1],λi y hi=> ?_⟩;cases i with
  |zero=>simp[UY]at hi;exact⟨x,t,rfl,hi.symm⟩
  |succ i=>simpa using h2 i y (by simpa[UY]using hi)
theorem Z01(hr:RelG c B G s a w h g)(hC:holds s (ixC c C)){o:Oper}{fn:FN}{ks:List OT}{aps:List AP}(hcall:Z00 c g C o=some (fn,ks,aps)){f:FuncId}(hf:fnOf s fn=some f)(hcb:YB c.P f=true):
  ∃vs:Array Value,(execOp a.eval o).run c.P w=.ok (.enter f vs) w/\vs.size=aps.length/\∀(i:Nat) (x:AP),aps[i]?=some x->apV a h x (vs.getD i undef):=by
 have hent:∀ {args:Array Operand} {tys:Array TypeId} {cv:Operand} {caps:Array Value},o.op=.call {callee:=.value cv,args:=args,argTypes:=tys}->a.eval cv=.func (.func f) #[] caps->
   (execOp a.eval o).run c.P w=.ok (.enter f (args.map a.eval++caps)) w:=by
  intro args tys cv caps hop hev;unfold YB at hcb;split at hcb
  ·rename_i fn hfn;simp only[Zhb,Zi5,Zkn,ne_eq]at hcb;obtain⟨h1,h2⟩:=hcb;obtain⟨code,h3⟩:=Zid.1 h2;simp[execOp,hop,resolve,hev,Deferred.ofValue,invoke,callFunc,hfn,h1,h3]
  ·cases hcb
 have plain:∀ {args:Array Operand} {tys:Array TypeId} {i:Nat} {x:AP},(UY args.toList tys.toList)[i]?=some x->apV a h x ((args.map a.eval).getD i undef):=by
  intro args tys i x hi;obtain⟨y,t,hy,rfl⟩:=(WC (l:=args.toList) (ts:=tys.toList)).2 i x hi;rw[Zio]at hy;have hlt:i<args.size:=(Zhd.1 hy).1;show(args.map a.eval).getD i undef=a.eval y;simp[Zhc,hy]
 unfold Z00 at hcall;split at hcall
 ·rename_i f' args tys hop;simp only[Zha,Zhf]at hcall;obtain⟨ks',_,rfl,rfl,rfl⟩:=hcall;simp only[fnOf,Zh6]at hf;subst hf;refine⟨args.map a.eval++ #[],hent hop rfl,by simp_all[WC],λi x hi=> ?_⟩
  grind
 ·rename_i t args tys hop;split at hcall
  ·rename_i f' caps hk;simp only[Zha,Zhf]at hcall;obtain⟨ks',_,rfl,rfl,rfl⟩:=hcall;simp only[fnOf,Zh6]at hf;subst hf;obtain⟨v,hv,⟨vs,rfl,h2,h3⟩,_⟩:=hr.look hC (show look g C t=_ from hk) rfl;have hal:=(WC (l:=args.toList) (ts:=tys.toList)).1;simp only[Zjh]at hal;refine⟨args.map a.eval++vs,hent hop (Act.eval_tmp a t _ hv),by grind,λi x hi=> ?_⟩;by_cases hlt:i<args.size
   ·rw[Zi0 (by omega)]at hi;have:=plain hi;simp_all[Zhc,Zj0]
   ·rw[ZhH (by omega),Zhr,Zha]at hi;obtain⟨p,hp,rfl⟩:=hi;rw[hal]at hp;obtain⟨b,q1,q2⟩:=h3 _ p hp;refine⟨b,q1,?_⟩;simp_all[Zhc,Zke]
  ·rename_i e sh hk;simp only[Zha,Zhf]at hcall;obtain⟨ks',_,rfl,rfl,rfl⟩:=hcall;obtain⟨v,hv,⟨x,hx,hxr⟩,_⟩:=hr.look hC (show look g C t=_ from hk) rfl;simp only[fnOf,hx]at hf;split at hf
   ·rename_i f' hx';simp only[Zh6]at hx' hf;subst hx' hf;have hvf:v=.func (.func f') #[] #[]:=by cases hxr;rfl
    subst hvf;refine⟨args.map a.eval++ #[],hent hop (Act.eval_tmp a t _ hv),by simp_all[WC],λi x hi=> ?_⟩;rw[ZhY];exact plain hi
   ·cases hf
  grind
 grind
theorem Jr:∀ {ks:List OT} {aq_:List (E×Option Nat)} {os:List V},aq_.length=ks.length->oldV s ks (aq_.map (·.1))=some os->∃ys,ys.length=ks.length/\Xu ks ys=os/\∀(i:Nat) (k:OT) (y:E×Option Nat) (x:V),ks[i]?=some k->k≠.fz->aq_[i]?=some y->ys[i]?=some x->eval s y.1=some x
 | [],[],os,_,ho=>by
   simp only[Zja,oldV,Zh6]at ho;subst ho;exact⟨[],rfl,rfl,λi k y x hk=>by simp at hk⟩
 | [],_::_,os,hl,_=>by simp at hl
 |_::_,[],os,hl,_=>by simp at hl
 |k::ks,(e,o)::aq_,os,hl,ho=>by
  by_cases hk:k=.fz
  ·subst hk;simp only[ZhA,oldV]at ho;obtain⟨ys,h1,h2,h3⟩:=Jr (ks:=ks) (aq_:=aq_) (by simpa using hl) ho;refine⟨.bool false::ys,by simp[h1],by simpa only[Xu]using h2,λi k y x q1 q2 q3 q4=> ?_⟩;cases i with
   |zero=>simp at q1;exact absurd q1.symm q2
   |succ i=>exact h3 i k y x (by simpa using q1) q2 (by simpa using q3) (by simpa using q4)
  ·have e1:oldV s (k::ks) (e::aq_.map (·.1))=(eval s e).bind λx=>(oldV s ks (aq_.map (·.1))).map (x:: ·):=by cases k<;>first|exact absurd rfl hk|simp only[oldV]
   rw[ZhA,e1]at ho;simp only[Zh7,Zha]at ho;obtain⟨x,hx,os',hos,rfl⟩:=ho;obtain⟨ys,h1,h2,h3⟩:=Jr (ks:=ks) (aq_:=aq_) (by simpa using hl) hos;have e2:Xu (k::ks) (x::ys)=x::Xu ks ys:=by cases k<;>first|exact absurd rfl hk|simp only[Xu]
   refine⟨x::ys,by simp[h1],by rw[e2,h2],λi k y z q1 q2 q3 q4=> ?_⟩;cases i with
   |zero=>simp at q3 q4;subst q3 q4;exact hx
   |succ i=>exact h3 i k y z (by simpa using q1) q2 (by simpa using q3) (by simpa using q4)
def okOS(P:Program) [Lg P](s:St)(os:OS):Prop:=(∀ef∈os.efs,EFok P s ef)/\∀x∈os.chks,holds s x.1->∃z,eval s x.2=some z
theorem Z4s [Lg c.P]{lets R:List Nat}{all:Gam}{o:Oper}{os:OS}{i:Nat}(hi:ops[i]?=some o)(hR:R=Jj ops all o)(hr:RelG c B G s a w h (only all R))(hst:K0 c lets ops all o=some os)(hok:okOS c.P s os)(hn:c.n<=a.tmps.size)
  {K:Act->World->Prop} (hK:∀a' w' h',OPost c B G s a a' w w' h h' os->(∃u,a'=a.put o.dst u)->K a' w'):opG c.P ops i K a w:=by
 subst hR;unfold opG;simp only[hi];unfold K0 at hst;simp only at hst;split at hst
 ·cases hst
 ·rename_i hdn
  have hdst:∀d,o.dst=some d->d<a.tmps.size:=by
   intro d hd;obtain hlt|hge:=Zl4 d c.n
   ·exact Zhj hlt hn
   ·simp[Z9m,hd,Zl5.2 hge]at hdn
  simp only[Zh7]at hst;obtain⟨C,hC,hst⟩:=hst;obtain⟨hw1,hw2⟩:=yR (ops:=ops) hr hC;split at hst
  ·
   rename_i fn ks aps d hcall hd;unfold JZ at hst;split at hst
   ·cases hst
   ·simp only[Zh7]at hst;obtain⟨aq_,has,hst⟩:=hst;split at hst
    ·cases hst
    ·rename_i hnd;simp only[Zhn,Zi5,not_or,ZjB,Ziz,Zhw]at hnd;obtain⟨hn,hdp⟩:=hnd;have hn:=Li.1 hn;simp only[Zh6]at hst;subst hst;have hef:=hok.1 _ (List.Mem.head _);obtain⟨hl1,hl2,hget⟩:=Xo has;have hz:=ZdF has;rw[hd];by_cases hh:holds s (ixC c C)
     ·rw[if_pos (hw1 hh)];obtain⟨xs,f,R,hxs,hf,⟨hcb,hvc⟩,hR⟩:=hef.1 hh;obtain⟨vs,hent,hvl,hvs⟩:=Z01 hr hh hcall hf hcb;have hrel:=Z7I hr hh has hxs hvl hvs;obtain⟨_,hxat⟩:=Yy hxs
      have hX:∀(i:Nat) (e:E) (p:Nat),aq_[i]?=some (e,some p)->∃X,eval s e=some X:=λi e p hi=>by
       obtain⟨X,_,hX⟩:=hxat i e (by rw[Zhr,hi];rfl);exact⟨X,hX⟩
      have hslot:=Z2J hr has hX (vs:=vs) λi e p hi=>by
       have hlt:i<ks.length:=by rw[<-hl2];exact(Zh9.1 hi).1
       have hk:ks[i]?=some ks[i]:=Zh8 hlt;have ha:aps[i]?=some aps[i]:=Zh8 (by omega);obtain⟨X,hx⟩:=hX i e p hi;exact(Z2q (ks:=ks) (aq_:=aq_) hr hh (hget i _ _ _ hk ha hi) hx (hvs i _ ha) hk hi).2 p rfl
      rw[hent,K4];refine Lg.calls_mono (hvc B w (XO _ h w ks aq_) vs (yw hr.ok hn) hrel) λe w' he=> ?_;obtain⟨v,r,ys,hx,rfl,hbel,hsame,hokx,hK',hrd,hB,hpack⟩:=he;refine⟨v,rfl,?_⟩;rw[hd];refine hK _ _ _ (KK hr has hn (hdst d hd) hdp hslot hz hokx hK' hbel hsame hB (r0:=r) (λhne=> ?_) (λ_=> ?_) λhh'=>absurd hh hh') ⟨_,by rw[hd]⟩
      ·rw[hR,hpack];cases hos:Xu ks ys with
       |nil=>exact absurd hos hne
       |cons x l=>rfl
      ·have hFx:∀b,hx.F b->(Wh h hx aq_).F b:=λb hb=>.inr hb;cases hos:Xu ks ys with
       |nil=>
        have hps:(aq_.filterMap (·.2)).isEmpty=true:=by
         cases hpe:aq_.filterMap (·.2)with
         |nil=>rfl
         |cons p l=>
          exfalso;have hpm:p∈ZB (Xx (c.ix d) 1 ks aq_):=by rw[Jw hl2,hpe];simp
          obtain⟨_,_,_,_,_,_,_,_,_,q5⟩:=Qn (i0:=c.ix d) (q:=1) (ys:=ys) hl2 hB.1 hz p hpm;rw[hos]at q5;simp at q5
        rw[if_pos hps];refine⟨r,?_,hrd.mono λb hb=>GH.ext_F (hFx b hb)⟩;simp only[eval,hR,hpack,hos,Z3V]
       |cons x l=>
        have hps:¬(aq_.filterMap (·.2)).isEmpty=true:=by
         intro he;have hnil:=ZjH.1 he
         have:∀ {ks:List OT} {aq_:List (E×Option Nat)} {ys:List V},aq_.length=ks.length->(∀(j:Nat) (k:OT) (y:E×Option Nat),ks[j]?=some k->aq_[j]?=some y->(y.2=none↔k=OT.fz))->aq_.filterMap (·.2)=[]->Xu ks ys=[]:=by
          intro ks
          induction ks with
          |nil=>intro aq_ ys _ _ _;simp[Xu]
          |cons k ks ih=>
           intro aq_ ys h1 h2 h3;cases aq_ with
           |nil=>simp at h1
           |cons y aq_=>
            have hy:y.2=none:=by
             cases hy:y.2 with
             |none=>rfl
             |some p=>simp[ZiJ,hy]at h3
            have hk:=(h2 0 k y rfl rfl).1 hy;subst hk;cases ys with
            |nil=>simp[Xu]
            |cons z ys=>
             simp only[Xu];exact ih (by simpa using h1) (λj k y q1 q2=>h2 (j+1) k y (by simpa using q1) (by simpa using q2)) (by simpa[ZiJ,hy]using h3)
         have:=this (ys:=ys) hl2 hz hnil;rw[hos]at this;cases this
        rw[if_neg hps];refine⟨r,?_,hrd.mono λb hb=>GH.ext_F (hFx b hb)⟩;simp only[eval,hR,hpack,hos,Z3V,Zhh,extV,ZiT]
     ·rw[if_neg (by rw[hw2 hh];simp)];obtain⟨os,hos,hgo⟩:=hef.2 hh;obtain⟨ys,hy1,hy2,hy3⟩:=Jr hl2 hos
      let vs:Array Value:=(aq_.map λy=>match y.2 with|some p=>a.tmps.getD p undef|none=>undef).toArray
      have hX:∀(i:Nat) (e:E) (p:Nat),aq_[i]?=some (e,some p)->∃X,ys[i]?=some X/\eval s e=some X:=λi e p hi=>by
       have hlt:i<ks.length:=by rw[<-hl2];exact(Zh9.1 hi).1
       have hk:ks[i]?=some ks[i]:=Zh8 hlt;have hyi:ys[i]?=some ys[i]:=Zh8 (by omega);have hkz:ks[i]≠.fz:=λe'=>by have:=(hz i _ _ hk hi).2 e';cases this
       exact⟨_,hyi,hy3 i _ _ _ hk hkz hi hyi⟩
      have hval:∀(i:Nat) (e:E) (p:Nat),aq_[i]?=some (e,some p)->a.tmps[p]?=some (vs.getD i undef):=λi e p hi=>by
       have hlt:i<ks.length:=by rw[<-hl2];exact(Zh9.1 hi).1
       have hk:ks[i]?=some ks[i]:=Zh8 hlt;have ha:aps[i]?=some aps[i]:=Zh8 (by omega);obtain⟨X,_,hx⟩:=hX i e p hi;obtain⟨v,q1,_⟩:=Qo (ks:=ks) (aq_:=aq_) hr (hget i _ _ _ hk ha hi) hx hk hi;have:vs.getD i undef=v:=by simp[vs,Zhc,hi,q1]
       rw[this];exact q1
      have hslot:=Z2J hr has (λi e p hi=>by obtain⟨X,_,hX⟩:=hX i e p hi;exact⟨X,hX⟩) hval;refine hK _ _ _ (KK hr has hn (hdst d hd) hdp hslot hz (yw hr.ok hn) rfl (.refl _ _) (.refl _ _) (ys:=ys) ⟨hy1,λi k y hk hkz hy=> ?_⟩ (r0:=.bool false) (λhne=>by rw[hy2];exact hgo (by rw[<-hy2];exact hne)) (λhh'=>absurd hh' hh) λ_=>rfl) ⟨_,by rw[hd]⟩;have hlt:i<ks.length:=(Zh9.1 hk).1;have ha:aps[i]?=some aps[i]:=Zh8 (by omega);have hs:aq_[i]?=some aq_[i]:=Zh8 (by omega);generalize aq_[i]=y0 at hs;obtain⟨e,o⟩:=y0;cases o with
      |none=>exact absurd ((hz i k _ hk hs).1 rfl) hkz
      |some p=>
       obtain⟨X,hX1,hX2⟩:=hX i e p hs;rw[hy]at hX1;cases hX1;obtain⟨v,q1,q2,_⟩:=Qo (ks:=ks) (aq_:=aq_) hr (hget i _ _ _ hk ha hs) hX2 hk hs;have:=hval i e p hs;rw[q1]at this;simp only[Zh6]at this;rw[<-this];exact q2
  ·cases hst
  split at hst
  ·
   rename_i f shf args ts d hcall hd;unfold y7 at hst;split at hst
   ·cases hst
   ·simp only[Zha]at hst;obtain⟨aq_,has,rfl⟩:=hst;by_cases hh:holds s (ixC c C)
    ·rw[if_pos (hw1 hh)];obtain⟨xs,n,r,hxs,hfn,hvc,hfl,hget⟩:=hok.1 _ (List.Mem.head _) hh;obtain⟨hl,hx⟩:=Z1G hr hh has hxs;obtain⟨hcb,hvc⟩:=hvc;obtain⟨caps,henter,hcsz,hcrd⟩:=Z37 hr hh hcall hfn hcb
     ·rw[henter,K4];refine Lg.calls_mono (hvc w (h.exb aq_.2.2 (aq_.2.1++shf)) ((args.map a.eval).toArray++caps) (GH.exb_lt hr.ok) (by simp[hl,hcsz]) λj x hj=> ?_) λe w' he=> ?_
      ·by_cases hlt:j<args.length
       ·rw[Zi0 (by omega)]at hj;obtain⟨z,hz,hzr⟩:=hx j args[j] (by simp[hlt]);rw[hj]at hz;cases hz
        have:((args.map a.eval).toArray++caps).getD j undef=a.eval args[j]:=by
         rw[Zhc,Zj0 (by simpa using hlt)];simp[hlt]
        rw[this];exact hzr.mono (GH.exb_mono (λe=>e) λp hp=>by simp[hp])
       ·rw[ZhH (by omega)]at hj;have:=hcrd _ x hj
        have e:((args.map a.eval).toArray++caps).getD j undef=caps.getD (j-xs.length) undef:=by
         rw[Zhc,Zhc,Zke (by simp;omega)];simp[hl]
        rw[e];exact this.mono λb hb=>GH.exb_mono (λe=>by cases e) (λp hp=>by simp[hp]) b (GH.exb_of (big:=false) hb)
      ·obtain⟨v,rfl,hbel,hrd⟩:=he;refine⟨v,rfl,?_⟩;have hsz:=hbel.size
       let h':GH:= {F:=λb=>h.F b\/(w.heap.size<=b/\b<w'.heap.size),bl:=h.bl,K:=h.K}
       have hok':Ok B G w' h':=by
        refine⟨Zht hr.ok.base hsz,λb hb=> ?_,λb hb=> ?_,λb hb=>.inl (hr.ok.g_F b hb),λt j b hb=> ?_,hr.ok.inj,λb hb=>Zhj (hr.ok.k_lt b hb) hsz,hr.ok.k_bl,λb hb=> ?_⟩
        ·obtain hb|hb:=hb
         ·exact Zhj (hr.ok.f_lt b hb) hsz
         ·exact hb.2
        ·obtain hb|hb:=hb
         ·exact hr.ok.f_or b hb
         ·exact .inr (Zht hr.ok.base hb.1)
        ·obtain⟨h1,h2,h3⟩:=hr.ok.b_lt t j b hb;refine⟨h1,Zhj h2 hsz,λhF=> ?_⟩;obtain hF|hF:=hF
         ·exact h3 hF
         ·omega
        ·obtain hb|hb:=hb
         ·exact hr.ok.k_F b hb
         ·exact .inr λhkb=>by have:=hr.ok.k_lt b hkb;omega
       have hstep:Step B [d] [d] [] w w' h h':=⟨hbel.mono hr.ok.base,λb hb _=>hbel.block b hb,λb hb=>.inl hb,λ_ _ _=>rfl,λ_ _=>rfl,λ_ _ _ _ hm=>(by simp at hm),rfl⟩;rw[hd]
       have hexb:∀b,h.exb aq_.2.2 (aq_.2.1++shf) b->h'.exb aq_.2.2 (aq_.2.1++shf) b:=λb hb=>by
        obtain hb|hb:=hb
        ·exact .inl (.inl hb)
        ·exact .inr hb
       refine hK _ _ h' (Z2s (hdst d hd) hstep hok' hh ?_) ⟨_,by rw[hd]⟩;split
       ·
        rename_i hbig;simp only[Zhb]at hbig;refine⟨r,by simp only[eval,hget],hrd.mono λb hb=> ?_⟩;obtain⟨_,hb⟩|hb:=hb
        ·rw[hbig.1]at hexb hb;exact hexb b hb
        ·exact .inl (.inr hb)
       ·rename_i hbig;refine⟨r,by simp only[eval,hget],?_⟩;split
        ·rename_i hor;simp only[Zhn]at hor;obtain hflat|hfresh:=hor
         ·have hfr:=hfl hflat;unfold flV at hfr;split at hfr
          ·cases hfr
          ·rename_i hnt;split at hfr
           ·rename_i hall;exact hrd.flatAll (λy hy=>Zhm.1 hall y hy) λl hl=>hnt l hl
           ·cases hfr
         ·refine hrd.mono λb hb=> ?_;obtain⟨hb,_⟩|hb:=hb
          ·rw[hfresh]at hb;cases hb
          ·exact .inl (.inr hb)
        ·rename_i hnor;refine hrd.mono λb hb=> ?_;obtain⟨_,hb⟩|hb:=hb
         ·have hbf:aq_.2.2=false:=by
           cases hb2:aq_.2.2
           ·rfl
           ·exfalso;apply hbig;rw[hb2]at hnor⊢;simp only[Zk9];cases hz:((!(aq_.2.1++shf).isEmpty||true)&& !KZ c f&&Xw c.P o.type||KZ c f)
            ·rfl
            ·exact(hnor hz).elim
          have:=hexb b hb;rw[hbf]at this;exact GH.exb_ext this
         ·exact .inl (.inr hb)
    ·rw[if_neg (by rw[hw2 hh];simp)];rw[hd];exact hK _ _ h (ji (hdst d hd) hr.ok hh) ⟨_,by rw[hd]⟩
  ·cases hst
  ·split at hst
   ·
    rename_i k es d hpk hd
    have hres:∃k' efs chks,os= {d:=[(d,C,k')],ps:=[d],rb:=[d],fz:=[],efs,chks}/\(holds s (ixC c C)->(∀e∈es,∃z,eval s e=some z)/\∀ {v w' h'},RelK c.P B s w' h' (λp=>a.tmps[p]?) d v k->RelK c.P B s w' h' (λp=>(a.put (some d) v).tmps[p]?) d v k'):=by
     unfold Z7g at hst;split at hst
     ·split at hst
      ·rename_i e;split at hst
       ·cases hst
       ·simp only[Zh6]at hst;subst hst;refine⟨_,_,_,rfl,λhh=>⟨λe he=>hok.2 (ixC c C,e) (Zhq.2 ⟨e,he,rfl⟩) hh,λhk=> ?_⟩⟩;obtain⟨x,hx,hget⟩:=hok.1 _ (List.Mem.head _) hh;obtain⟨y,hy,hyr⟩:=hk;rw[hx]at hy;cases hy;exact⟨x,by simp only[eval,hget],hyr⟩
      ·cases hst
     ·split at hst
      ·cases hst
      ·rename_i ht;simp only[Zhn,not_or,Zji]at ht;simp only[Zh6]at hst;subst hst;refine⟨_,_,_,rfl,λhh=>⟨λe he=>hok.2 (ixC c C,e) (Zhq.2 ⟨e,he,rfl⟩) hh,λhk=>hk.other ht.1⟩⟩
    obtain⟨k',efs,chks,rfl,hrel⟩:=hres;by_cases hh:holds s (ixC c C)
    ·rw[if_pos (hw1 hh)];obtain⟨hes,hrel⟩:=hrel hh;obtain⟨v,w',hrun,h',hs',hok',hk'⟩:=Z8B hr hh hpk hes d hd;rw[hrun,K5,hd];exact hK _ _ h' (Z2s (hdst d hd) hs' hok' hh (hrel hk')) ⟨_,by rw[hd]⟩
    ·rw[if_neg (by rw[hw2 hh];simp),hd];exact hK _ _ h (ji (hdst d hd) hr.ok hh) ⟨_,by rw[hd]⟩
   ·
    split at hst
    ·cases hst
    ·rename_i hguard;have hgn:o.guard=none:=by cases hg:o.guard<;>simp_all
     have hCn:C=[]:=by
      unfold z5 at hC;rw[hgn]at hC;simpa using hC.symm
     subst hCn;rw[if_pos (hw1 (Zc s c))];simp only[Zh7]at hst;obtain⟨m,hm,hst⟩:=hst;split at hst
     ·rename_i hsub;simp only[Zhb,Zhm,Ziz,Zhw]at hsub;obtain⟨⟨hps,hrb⟩,hdin⟩:=hsub;simp only[Zh6]at hst;subst hst;obtain⟨n,u,w',h',hrun,hn',hpost⟩:=Zde hr hdst hm λe he=>hok.2 ([],e) (Zhq.2 ⟨e,he,rfl⟩) (Y5 s)
      have htm:∀t,t∉m.ps->(a.put o.dst u).tmps[t]?=a.tmps[t]? :=by
       intro t ht;cases hd:o.dst with
       |none=>rfl
       |some d=>
        refine JE (λe=>ht ?_) u;rw[e];simpa[ZbX,hd]using hdin
      have hfin:OPost c B G s a (a.put o.dst u) w w' h h' (Zbm (only all (Jj ops all o)) all m):=by
       refine⟨hpost.step,hpost.ok,Qp _ _ _,Uv _ _ _,htm,λt ht=> ?_⟩;simp only[Zbm,ZB,Zic,Zhx]at ht⊢;rw[Y4,Y4];simp only[ZB,Zic,Zhx];by_cases h1:t∈ZB m.d
       ·have h1':t∈List.map (·.1) m.d:=h1;simp only[h1',true_or,ZhR];obtain⟨e1,e2⟩:=hpost.ent t h1;exact⟨λ_ hno=>e2 hno,λhn=>absurd (by rw[e1];exact Zc s c) hn⟩
       ·have h1':t∉List.map (·.1) m.d:=h1;by_cases h2:t∈ZB (Wf m.ps m.rb m.fz all)
        ·have h2':t∈List.map (·.1) (Wf m.ps m.rb m.fz all):=h2;simp only[h1',h2',false_or,ZhR,ZhT,Qg h2];exact⟨λ_ hno=>by simp[TK.isNo]at hno,λhn=>absurd (Zc s c) hn⟩
        ·have h2':t∉List.map (·.1) (Wf m.ps m.rb m.fz all):=h2
         have h3:t∈m.fz:=by
          obtain(ht|ht)|ht:=ht
          ·exact absurd ht h1'
          ·exact absurd ht h2'
          ·have:=Vd (fz:=m.fz) (g:=only all (Jj ops all o));unfold ZB at this;rw[this]at ht;exact ht
         have htp:t∉m.ps:=λhp=>h1 (hps t hp)
         have hcalm:calm m.ps m.rb m.fz ((only all (Jj ops all o)).at t).2=true:=by
          rw[zE];split
          ·exact La h2
          ·exact Z0a _ _ _
         simp only[h1',h2',false_or,ZhT,Up h3];refine⟨λhCt hno=> ?_,λhn=> ?_⟩
         ·have hno':((only all (Jj ops all o)).at t).2.isNo=false:=by
           cases hk:((only all (Jj ops all o)).at t).2<;>first|rfl|(rw[hk]at hno;simp[Td,TK.isNo]at hno)
          obtain⟨v,hv,hk⟩:=hr.at_ t hCt hno';exact⟨v,by rw[htm t htp];exact hv,hk.freeze hpost.step hr.ok hrb htp h3 hcalm htm⟩
         ·have:=hr.skip t hn;simp only[Zhc,htm t htp]at this⊢;exact this
      rw[hrun];obtain rfl|⟨rfl,rfl⟩:=hn'
      ·rw[K5];exact hK _ _ h' hfin ⟨_,rfl⟩
      ·rw[Z4w];exact hK _ _ h' hfin ⟨_,rfl⟩
     ·cases hst
end
end Vm
end
