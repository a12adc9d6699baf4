import Derived.Laws.StructEq
import Derived.Scope
import Derived.Test.YtffknkhabklijaaSViewLive2
set_option linter.unusedSimpArgs false
set_option linter.unusedVariables false
set_option linter.defProp false
def ZkE:=@_root_.Nat.div_lt_iff_lt_mul
def ZjH:=@_root_.Nat.mod_lt
def Zjh:=@_root_.List.isEmpty_iff
def ZiL:=@_root_.List.map_nil
def ZkL:=@_root_.Nat.mul_le_mul
def ZkB:=@_root_.List.length_replicate
def ZhQ:=@_root_.Go.RowKit.Below.heap_alloc
def ZhM:=@_root_.List.nil_append
def Ziv:=@_root_.Go.World.ownsRow_nil
def ZhW:=@_root_.Array.toList_inj
def ZjL:=@_root_.Go.MapKept.sameNow_of_keys
def ZjZ:=@_root_.Go.MapKept.run_checkKey
def ZjK:=@_root_.Go.MapKept.run_findKey
def Zik:=@_root_.Go.MapKept.run_getObj_map
def Zjq:=@_root_.List.mem_filterMap
def Zj5:=@_root_.List.map_map
def ZjI:=@_root_.bne_iff_ne
def Zj3:=@_root_.Go.setRow_other
def Zid:=@_root_.List.length_singleton
def Zi1:=@_root_.List.getElem?_eq_none
def Zjg:=@_root_.List.mem_or_eq_of_mem_set
def Zkp:=@_root_.List.getElem?_set_self
def Zj9:=@_root_.Bool.not_eq_false
def ZjU:=@_root_.beq_eq_false_iff_ne
def Zjt:=@_root_.Go.MapKept.run_setObj_map
def Zii:=@_root_.List.any_eq_true
def Zkb:=@_root_.Go.Calls.mono
def Zkq:=@_root_.List.reverse_singleton
def ZjB:=@_root_.List.singleton_append
def ZiH:=@_root_.Bool.true_or
def Zkr:=@_root_.Option.map_eq_none_iff
def Zim:=@_root_.List.filterMap_cons
def Zk9:=@_root_.List.getElem?_zip_eq_some
def ZiP:=@_root_.List.getElem?_zipIdx
def ZiB:=@_root_.Array.getElem?_append_left
def ZjJ:=@_root_.Array.getElem?_append_right
def Zis:=@_root_.List.getElem?_cons_zero
def Zkg:=@_root_.Bool.true_and
section
namespace Vm
open Go
open Go.RowKit (Below)
theorem SE{k:Nat}{l:List V}(hfit:∀x∈l,x.fits k)(hk:0<k){i:Nat}{c:V}(hi:(flat l)[i]?=some c):∃q j z,l[q]?=some z/\j<k/\i=q*k+j/\z.cells[j]?=some c:=by
 have hlt:i<l.length*k:=by rw[<-Yl hfit];exact(ZgL.1 hi).1
 have hq:i / k<l.length:=by rw[ZkE hk];exact hlt
 have hj:=ZjH i hk;have hdm:=Nat.div_add_mod i k;refine⟨i / k,i%k,l[i / k],ZgJ hq,hj,by grind,?_⟩;rw[<-X2 hfit (ZgJ hq) (i%k) hj,show i / k*k+i%k=i from by grind];exact hi
section
variable {c:Ctx}{B:Nat}{G:Nat->Prop}{s:St}{a:Act}{w w':World}{h:GH}{g:Gam}{C:Zi}
theorem VN{P:Program}{el:TypeId}(he:elOk P el=true):∃i z,P.info? el=some i/\i.zero=some z/\z.cells.size=i.size/\0<i.size/\i.bytes<=32768/\P.cellsOf el=i.size:=by
 unfold elOk at he;split at he
 ·rename_i i hi;split at he
  ·simp_all[ZgM,Zhq,Zh1,Program.cellsOf]
  grind
 grind
theorem VW{B B':Nat}{e:TypeId}{k n:Nat}{v:Value}{xs:List Value}(hr:w.ownsRow B' e k v n xs)(hb:B<=B'):w.ownsRow B e k v n xs:=by
 refine⟨hr.1,?_⟩;rcases hr.2 with hn|⟨g,cap,cur,rfl,h1,r⟩
 ·grind
 ·exact .inr ⟨g,cap,cur,rfl,Zhc hb h1,r⟩
theorem Z0Q(hok:Ok B G w h)(hg:w.grownBy w' none){el:TypeId}{e:E}{sh:List Nat}{l:List V}{v:Value}{xs:List Value}(he:eval s e=some (.sl l))(hk:0<c.P.cellsOf el)(hfit:∀x∈l,x.fits (c.P.cellsOf el))
  (hown:w'.ownsRow w.heap.size el (c.P.cellsOf el) v l.length xs) (hrd:∀(i:Nat) (ck:V),(flat l)[i]?=some ck->∃u,xs[i]?=some u/\Rd w (h.ext sh) ck u)
  {dst:Option Nat} {k:TK} {es:List E} (ho:Kw c dst el e sh=some (k,es)) (tm:Nat->Option Value) (d:Nat) (hd:dst=some d):PRes c B G s w h tm d k v w':=by
 subst hd;unfold Kw at ho;have hown':=VW hown hok.base;have hext:=ZbB hok sh;simp only at ho;split at ho
 ·rename_i hcond;simp only[ZgM,Zjh]at hcond;obtain⟨_,rfl⟩:=hcond;simp only[ZgH,ZgR]at ho;obtain⟨rfl,rfl⟩:=ho
  have hrd':∀ {h':GH},(∀b,h.F b->h'.F b)->∀(i:Nat) (ck:V),(flat l)[i]?=some ck->∃u,xs[i]?=some u/\Rd w' h'.F ck u:=by
   intro h' hF i ck hi;obtain⟨u,hu,hr⟩:=hrd i ck hi;exact⟨u,hu,hr.F.keep (R8 hok hg hok.f_lt) hF⟩
  cases hv:v.ownBlock with
  |none=>
   refine⟨{F:=h.F,bl:=λt j=>if t=d then none else h.bl t j,K:=h.K},⟨Xi hok hg,λb hb _=>hg.block b hb (by simp),λ_ hb=>hb,λt ht _=> ?_,λt ht=> ?_,λ_ _ _ _ hm=>(by simp at hm),rfl⟩,
    ⟨Zhc hok.base hg.size,λb hb=>ZgV (hok.f_lt b hb) hg.size,hok.f_or,hok.g_F,λt j b hb=> ?_,λt j u q b hb hb'=> ?_,λb hb=>ZgV (hok.k_lt b hb) hg.size,λt j b hb=> ?_,hok.k_F⟩,.sl l,he,.inl ⟨l,xs,rfl,hk,hfit,hown',by grind,hrd' λ_ hb=>hb⟩⟩
   ·simp_all
   ·simp_all
   ·simp only at hb;split at hb
    ·cases hb
    ·obtain⟨h1,h2,h3⟩:=hok.b_lt t j b hb;exact⟨h1,ZgV h2 hg.size,h3⟩
   ·simp only at hb hb';split at hb<;>split at hb'<;>first|(cases hb;done)|(cases hb';done)|exact hok.inj t j u q b hb hb'
   ·simp only at hb;split at hb
    ·cases hb
    ·exact hok.k_bl t j b hb
  |some n=>
   obtain⟨h1,h2⟩:=hown.lt n hv;obtain⟨hok',hst⟩:=Sl hok hg d 1 h1 h2;exact⟨_,hst,hok',.sl l,he,.inl ⟨l,xs,rfl,hk,hfit,hown',by grind [GH.give],hrd' λ_ hb=>hb⟩⟩
 ·simp only[ZgH,ZgR]at ho;obtain⟨rfl,rfl⟩:=ho;rcases hown.2 with ⟨rfl,hn⟩|⟨n,cap,cur,rfl,h1,hh,hle,hcap,hsz,htk⟩
  ·have hl:l=[]:=Zhz hn;subst hl
   refine⟨h,⟨Xi hok hg,λb hb _=>hg.block b hb (by simp),λ_ hb=>hb,λ_ _ _=>rfl,λ_ _=>rfl,λ_ _ _ _ hm=>(by simp at hm),rfl⟩,
    ⟨Zhc hok.base hg.size,λb hb=>ZgV (hok.f_lt b hb) hg.size,hok.f_or,hok.g_F,λt j b hb=> ?_,hok.inj,λb hb=>ZgV (hok.k_lt b hb) hg.size,hok.k_bl,hok.k_F⟩,.sl [],he,.nil _ _ (ZhO _)⟩
   obtain⟨h1,h2,h3⟩:=hok.b_lt t j b hb;exact⟨h1,ZgV h2 hg.size,h3⟩
  ·have h2:n<w'.heap.size:=(ZgO.1 hh).1;obtain⟨hok',hst⟩:=Z6S hok hg [d] [d] h1 h2;refine⟨_,hst,hok',.sl l,he,.sl l n 0 cap (c.P.cellsOf el) (λi=>cur.getD i undef) hle hcap (.inl (.inr rfl)) hfit (λi hi=> ?_) λi ck hi=> ?_⟩
   ·rw[Zhy,Zh3 w' n i cur el (0,0) hh];have:i<cur.size:=by rw[hsz];exact ZgV hi (Zhh _ hle)
    simp_all
   ·obtain⟨u,hu,hr⟩:=hrd i ck hi
    have hu':cur.getD i undef=u:=by
     rw[<-htk,Zhm]at hu;split at hu
     ·simp_all
     ·simp at hu
    rw[hu'];refine hr.keep (R8 hok hg hext) λb hb=> ?_;rcases hb with hb|⟨p,hp,i,hi⟩
    ·exact .inl (.inl hb)
    ·exact .inr ⟨p,hp,i,hi⟩
theorem Z69(hr:RelG c B G s a w h g)(hC:holds s (ixC c C)){fl ag:Bool}{n:Nat}(hn:n≠0):∀ {l:List Operand} {es:List E×List Nat},opsF g C fl l=some es->∀ {zs:List V},Yc s (es.1.map (tyE ag n))=some zs->
  zs.length=l.length/\∀(i:Nat) (x:Operand),l[i]?=some x->∃z,zs[i]?=some z/\(∀l,z≠.tup l)/\(ag=true->z.cells.length=n)/\(ag=false->z.one=true)/\Rd w (h.ext es.2) z (a.eval x)
 | [],es,he,zs,hz=>by
   simp only[opsF,ZgH]at he;subst he;simp only[ZiL,Yc,ZgH]at hz;subst hz;exact⟨rfl,λi x hi=>by simp at hi⟩
 |x::l,es,he,zs,hz=>by
  simp only[opsF,ZgI,ZgK]at he;obtain⟨a0,ha,b,hb,rfl⟩:=he;simp only[Zha,Yc,ZgI,ZgK]at hz;obtain⟨z,hz1,zs',hz2,rfl⟩:=hz;obtain⟨h1,h2⟩:=Z69 hr hC hn hb hz2;obtain⟨k1,k2,k3,k4⟩:=SP hr hC ha hn hz1;refine⟨by simp[h1],λi y hi=> ?_⟩;cases i with
  |zero=>
   simp at hi;subst hi;exact⟨z,by simp,k1,k2,k3,k4.mono λb hb=>GH.ext_left hb⟩
  |succ i=>
   obtain⟨z',e1,e2,e3,e4,e5⟩:=h2 i y (by grind);exact⟨z',by grind,e2,e3,e4,e5.mono λb hb=>GH.ext_right hb⟩
theorem Q2(hr:RelG c B G s a w h g)(hC:holds s (ixC c C)){T:TypeId}{n:Nat}{parts:Array (Nat×Operand)}{dst:Option Nat}{k:TK}{es:List E}(hp:VZ c g C dst T n parts.toList=some (k,es))(hes:∀e∈es,∃z,eval s e=some z)(tm:Nat->Option Value)(d:Nat)(hd:dst=some d):
  ∃v w',(Instr.buildSlice T n (parts.map λ(i,x)=>(i,a.eval x))).run c.P w=.ok v w'/\PRes c B G s w h tm d k v w':=by
 unfold VZ at hp;split at hp
 ·rename_i el hT;have hT':=Z4e hT;simp only[ZgI]at hp;obtain⟨ops,hops,hp⟩:=hp;split at hp
  ·rename_i hcond;obtain⟨hidx,hn,hcl,hel,hag⟩:=hcond;obtain⟨i,z,hi,hz0,hzs,h0,hby,hcs⟩:=VN hel
   have he:∃zz,eval s (.lit (ops.1.map (tyE (Zq c.P el) (c.P.cellsOf el))))=some zz:=by
    unfold Kw at hp;subst hd;simp only at hp;split at hp<;>(simp only[ZgH,ZgR]at hp;obtain⟨_,rfl⟩:=hp;exact hes _ (List.Mem.head _))
   obtain⟨zz,hzz⟩:=he;have hzz0:=hzz;simp only[eval,ZgK]at hzz;obtain⟨zs,hzs',rfl⟩:=hzz;obtain⟨hl,hx⟩:=Z69 hr hC (by omega) hops hzs'
   have hlen:parts.toList.length=n:=by
    have:=ZhV List.length hidx;simpa using this
   have hln:zs.length=n:=by rw[hl,Zhu,hlen]
   have hpi:∀(q:Nat) (p:Nat×Operand),parts.toList[q]?=some p->p.1=q:=by
    intro q p hq;have h1:(parts.toList.map (·.1))[q]?=some p.1:=by grind
    rw[hidx,List.getElem?_range]at h1
    ·simp_all
    ·grind
   have hfit1:∀z,(∀l,z≠V.tup l)->(Zq c.P el=true->z.cells.length=c.P.cellsOf el)->(Zq c.P el=false->z.one=true)->z.cells.length=c.P.cellsOf el:=by
    intro z h1 h2 h3;rcases hag with hag|hag
    ·grind
    ·grind [Zq,YN]
   have hpart:∀(q:Nat) (p:Nat×Operand),parts.toList[q]?=some p->∃z,zs[q]?=some z/\z.fits (c.P.cellsOf el)/\(a.eval p.2).cells.size=c.P.cellsOf el/\∀(j:Nat) (ck:V),z.cells[j]?=some ck->Rd w (h.ext ops.2) ck ((a.eval p.2).cells.getD j undef):=by
    intro q p hq;obtain⟨z,e1,e2,e3,e4,e5⟩:=hx q p.2 (by grind);obtain⟨s1,s2,s3⟩:=e5.cells e2;have hc:=hfit1 z e2 e3 e4;exact⟨z,e1,⟨hc,s2⟩,by rw[s1,hc],s3⟩
   have hfit:∀x∈zs,x.fits (c.P.cellsOf el):=by
    intro x hxm;obtain⟨q,hq⟩:=Zh8 hxm;have hlt:q<parts.toList.length:=by grind
    obtain⟨z,e1,e2,_⟩:=hpart q _ (ZgJ hlt);rw[hq]at e1;cases e1;exact e2
   have hbase:((Array.range (n*i.size)).map (λx=>z.cells[x%z.cells.size]!)).size=n*i.size:=by simp
   obtain⟨R,hR,hRs,_,hRin⟩:=J1 (λq=>some (q*i.size,i.size)) (parts.toList.map λp=>(p.1,a.eval p.2)) ((Array.range (n*i.size)).map (λx=>z.cells[x%z.cells.size]!)) (by
    intro p hp;obtain⟨p',hp',rfl⟩:=ZgX.1 hp;obtain⟨q,hq⟩:=Zh8 hp';obtain⟨_,_,_,e3,_⟩:=hpart q p' hq;have hqi:=hpi q p' hq;have hlt:q<n:=by grind
    refine⟨p'.1*i.size,by grind,?_⟩;simp only;rw[e3,hcs,hqi,hbase,<-Zi2];exact Zhh _ hlt)
   rw[hbase]at hRs
   have hpow:¬(n*i.size>2 ^ 24):=by
    have:n*i.size<=256*256:=ZkL (by omega) (by omega);omega
   have hnk:n*i.size=0\/n*i.size≠0:=by omega
   have hrun:(Instr.buildSlice T n (parts.map λ(i,x)=>(i,a.eval x))).run c.P w=.ok (.slice (some ⟨w.heap.size,0,none⟩) n n) (w.alloc (.cells R el)):=by
    have hpow':¬(16777216<n*i.size):=by omega
    rcases hnk with hnk|hnk
    ·have hn0:n=0:=by
      rcases Nat.mul_eq_zero.1 hnk with hh|hh
      ·exact hh
      ·omega
     subst hn0
     have hpe:parts=#[]:=by
      have:parts.size=0:=by simpa using hlen
      exact ZhI this
     subst hpe
     have hRe:R=#[]:=by
      have:R.size=0:=by simpa using hRs
      exact ZhI this
     simp_all[Instr.buildSlice,Zhk,YI,Instr.fill,newRow,Array.range_zero']
    ·simp[Instr.buildSlice,Zhk hT',YI hi,hpow',hnk,Vt hi hz0,hR,newRow]
   refine⟨_,_,hrun,?_⟩;have hg:=Zi5 w (.cells R el) none;have hown:=World.ownsRow_lit (base:=w.heap.size) (e:=el) (size:=c.P.cellsOf el) w R n (ZgP _) (by grind [maxLen]) (by grind);rw[<-hln]at hown⊢;refine Z0Q hr.ok hg hzz0 (by omega) hfit hown (λj ck hj=> ?_) hp tm d hd;obtain⟨q,r,y,hq,hrk,rfl,hyc⟩:=SE hfit (by omega) hj;have hlt:q<parts.toList.length:=by grind
   obtain⟨y',e1,e2,e3,e4⟩:=hpart q _ (ZgJ hlt);rw[hq]at e1;cases e1;have hqi:=hpi q _ (ZgJ hlt);obtain⟨pre,suf,hps⟩:∃pre suf,parts.toList=pre++parts.toList[q]::suf:=List.append_of_mem (ZgZ hlt);have hsz3:(a.eval parts.toList[q].2).cells.size=i.size:=by rw[e3,hcs]
   have hin:=hRin ((parts.toList.take q).map λp=>(p.1,a.eval p.2)) (parts.toList[q].1,a.eval parts.toList[q].2) ((parts.toList.drop (q+1)).map λp=>(p.1,a.eval p.2)) (by
    grind [List.drop_eq_getElem_cons,List.take_append_drop]) (q*i.size) (by grind) (by
    intro p hp o n' ho;obtain⟨p',hp',rfl⟩:=ZgX.1 hp;obtain⟨m,hm⟩:=Zh8 hp';rw[Zht]at hm;have:=hpi _ _ hm;simp only[ZgH,ZgR]at ho;obtain⟨rfl,rfl⟩:=ho;left;simp only;rw[hsz3,this,<-Zi2]
    grind) r (by grind)
   refine⟨(a.eval parts.toList[q].2).cells.getD r undef,?_,e4 r ck hyc⟩;rw[Zi0,hcs,hin];have hlt2:r< (a.eval parts.toList[q].2).cells.size:=by omega
   simp only[ZgN]
   grind
  grind
 grind
theorem Q4(z:Array Value)(n:Nat)(h0:0<z.size)(j:Nat)(hj:j<n):(madeCells z n).toList[j]?=z[j%z.size]? :=by
 simp_all[ZjH,madeCells]
theorem Z3Y(hr:RelG c B G s a w h g){n m:Operand}(hs:Z6G n m=true){k:IntKind}{q:Int}(hn:a.eval n=.int k q):∃k',a.eval m=.int k' q:=by
 unfold Z6G at hs;split at hs
 ·simp_all
 ·simp_all[Zhq,Act.eval,Value.int.injEq]
 ·cases hs
theorem Z3K(hr:RelG c B G s a w h g)(hC:holds s (ixC c C)){T:TypeId}{n m:Operand}{dst:Option Nat}{k:TK}{es:List E}(hp:Z6i c g C dst T n m=some (k,es))(hes:∀e∈es,∃z,eval s e=some z)(tm:Nat->Option Value)(d:Nat)(hd:dst=some d):
  ∃v w',(Instr.makeSlice T (a.eval n) (a.eval m)).run c.P w=.ok v w'/\PRes c B G s w h tm d k v w':=by
 unfold Z6i at hp;split at hp
 ·rename_i el hT;have hT':=Z4e hT;simp only[ZgI]at hp;obtain⟨zs,hz,⟨e,sh⟩,he,hp⟩:=hp;split at hp
  ·rename_i hcond;simp only[ZgM,ZgW,Zhq]at hcond;obtain⟨⟨hso,hel⟩,hag⟩:=hcond;obtain⟨i,z,hi,hz0,hzs,h0,hby,hcs⟩:=VN hel;obtain⟨i',z',hi',hz0',hzs',hcells⟩:=WB hz;rw[hi]at hi';cases hi';rw[hz0]at hz0';cases hz0'
   have hev:∃zz,eval s (.mk (if Zq c.P el then .agg zs else zs.headD (.agg [])) e)=some zz:=by
    unfold Kw at hp;subst hd;simp only at hp;split at hp<;>(simp only[ZgH,ZgR]at hp;obtain⟨_,rfl⟩:=hp;exact hes _ (List.Mem.head _))
   obtain⟨zz,hzz⟩:=hev;have hzz0:=hzz;obtain⟨y,hy,hyr⟩:=Xg hr hC he;simp only[eval,hy,ZgS]at hzz;generalize hzv:(if Zq c.P el then V.agg zs else zs.headD (.agg []))=zv at*;unfold mkV at hzz;split at hzz
   ·rename_i ki q;split at hzz
    ·rename_i hq;obtain⟨hq0,hq1⟩:=hq;obtain⟨q,rfl⟩:=Zh4 hq0;simp only[ZgH,Zhl]at hzz;subst hzz;have hlim:q<=4294967296:=by simp only[lim]at hq1;omega
     have hn:=hyr.int_eq;obtain⟨k',hm⟩:=Z3Y hr hso hn;rw[hn,hm]
     have hb:i.bytes*q<=281474976710656:=by
      have:i.bytes*q<=32768*4294967296:=ZkL hby hlim;omega
     obtain⟨w',hrun,hown,hg⟩:=run_make_full (P:=c.P) w w.heap.size T el i z i.size hT' hi hz0 rfl ki k' q hb (by grind [maxLen]) (ZgP _);refine⟨_,_,hrun,?_⟩
     have hzc:zv.cells=zs:=by
      rw[<-hzv];rcases hag with hag|hag
      ·rw[if_pos hag];rfl
      ·split
       ·rfl
       ·have h1:zs.length=1:=hag
        match zs,h1,hcells,hzs' with
        | [x],_,hcells,hzs'=>
          simp only[List.headD_cons];obtain⟨x',hx',hc⟩:=hcells 0 (z.cells[0]'(by omega)) (Zh5 _)
          grind [YN,QW]
     have hcell:∀(j:Nat) (ck:V),zs[j]?=some ck->∃u,z.cells[j]?=some u/\UE u=some ck:=by
      intro j ck hj;have hlt:j<z.cells.size:=by rw[hzs'];exact(ZgL.1 hj).1
      obtain⟨x',hx',hc⟩:=hcells j _ (Zh5 hlt);rw[hj]at hx';cases hx';exact⟨_,Zh5 hlt,hc⟩
     have hzfit:zv.fits (c.P.cellsOf el):=by
      refine⟨by simp_all,λck hck=> ?_⟩;rw[hzc]at hck;obtain⟨j,hj⟩:=Zh8 hck;obtain⟨u,_,hc⟩:=hcell j ck hj;exact QW hc
     have hfit:∀x∈List.replicate q zv,x.fits (c.P.cellsOf el):=λx hx=>by simp_all
     rw[<-hcs]at hown;have hown2:w'.ownsRow w.heap.size el (c.P.cellsOf el) (.slice (some ⟨w.heap.size,0,none⟩) q q) (List.replicate q zv).length (madeCells z.cells (q*c.P.cellsOf el)).toList:=by rw[ZkB];exact hown
     refine Z0Q hr.ok hg hzz0 (by omega) hfit hown2 (λj ck hj=> ?_) hp tm d hd;obtain⟨p,r,y',hp',hrk,rfl,hyc⟩:=SE hfit (by omega) hj;have hpq:p<q:=by simpa using(ZgL.1 hp').1
     have hy':y'=zv:=List.eq_of_mem_replicate (ZgQ hp');subst hy';rw[hzc]at hyc;obtain⟨u,hu,hc⟩:=hcell r ck hyc;refine⟨u,?_,Q7 hc _ _⟩;have hle:p*c.P.cellsOf el+c.P.cellsOf el<=q*c.P.cellsOf el:=by rw[<-Zi2];exact Zhh _ hpq
     grind [Q4,Nat.mul_comm,Nat.mul_add_mod,Nat.mod_eq_of_lt]
    grind
   grind
  grind
 grind
end
end Vm
namespace Vm
open Go
open Go.RowKit (Below)
open Go.MapKept (IsKey bytes_beq sameNow_of_keys run_checkKey run_findKey run_keyThatStays)
section
variable {c:Ctx}{B:Nat}{G:Nat->Prop}{s:St}{a:Act}{w w':World}{h:GH}{g:Gam}{C:Zi}
theorem JT{P:Program}{t ty e:TypeId}{i:TypeInfo}(ht:P.underlying t=some (.slice e))(hi:P.info? e=some i){size:Nat}{v:Value}{n:Nat}{xs:List Value}(hown:w.ownsRow B e size v n xs)(cp:Nat):
  (Builtin.append_ #[t,t] ty #[v,.slice none 0 cp]).run P w=.ok v w:=by
 rcases hown.2 with ⟨rfl,rfl⟩|⟨g,cap,cur,rfl,_,_,hnc,_⟩
 ·simp[Builtin.append_,Zhk ht,Go.sizeOf,typeInfo,hi,Builtin.lenOf,Builtin.firstCells]
 ·simp[Builtin.append_,Zhk ht,Go.sizeOf,typeInfo,hi,Builtin.lenOf,Builtin.firstCells,hnc,storeCells]
theorem JS{P:Program}{t ty e:TypeId}(ht:P.underlying t=some (.slice e))(hel:elOk P e=true){v:Value}{n:Nat}{xs:List Value}(hown:w.ownsRow B e (P.cellsOf e) v n xs)(hB:B<=w.heap.size)
  {Gy:Nat->Prop} {l:List V} {y:Value} (hy:Rd w Gy (.sl l) y) (hk:Yr (P.cellsOf e) l=true) (hlim:n+l.length<=lim):
  ∃v' w' news,(Builtin.append_ #[t,t] ty #[v,y]).run P w=.ok v' w'/\w'.ownsRow B e (P.cellsOf e) v' (n+l.length) (xs++news)/\w.grownBy w' v.ownBlock/\
   (v'.ownBlock=v.ownBlock\/(w.grownBy w' none/\w'.ownsRow w.heap.size e (P.cellsOf e) v' (n+l.length) (xs++news)))/\
   (∀x∈l,x.fits (P.cellsOf e))/\∀(i:Nat) (ck:V),(flat l)[i]?=some ck->∃u,news[i]?=some u/\Rd w Gy ck u:=by
 obtain⟨i,z,hi,hz,hzs,h0,hby,hcs⟩:=VN hel;have hsl:=JZ hk
 have hnew:(∃cp,y=.slice none 0 cp/\l=[])\/∃ad cp,∃news:List Value,y=.slice (some ad) l.length cp/\news.length=l.length*P.cellsOf e/\(∀j u,news[j]?=some u->w.cell? (ad.add j)=some u)/\(∀u∈news,u.oneCell'=true)/\
   (∀x∈l,x.fits (P.cellsOf e))/\∀(i:Nat) (ck:V),(flat l)[i]?=some ck->∃u,news[i]?=some u/\Rd w Gy ck u:=by
  cases hy with
  |nil ad cp hc=>
   cases ad with
   |none=>simp
   |some ad=>exact .inr ⟨ad,cp,[],rfl,by simp,λj u hj=>by simp at hj,λu hu=>by simp at hu,λx hx=>by simp at hx,λi ck hi=>by simp[flat]at hi⟩
  |sl _ b o cap kk vs h1 h2 h3 h4 h5 h6=>
   refine .inr ⟨⟨b,o,none⟩,cap,(List.range (l.length*P.cellsOf e)).map vs,rfl,by simp,?_⟩;by_cases hl:l=[]
   ·simp_all[flat]
   ·obtain⟨x,hx⟩:=List.exists_mem_of_ne_nil l hl;have hkk:kk=P.cellsOf e:=by rw[<-(h4 x hx).1,hsl x hx]
    subst hkk;have hlenf:=Yl h4;refine⟨λj u hj=> ?_,λu hu=> ?_,h4,λi ck hi=> ?_⟩
    ·grind [List.getElem?_eq_some_iff,Addr.add_lit]
    ·obtain⟨j,hj,rfl⟩:=ZgX.1 hu;have hlt:=ZiN.1 hj;have hf:(flat l)[j]?=some ((flat l)[j]'(by omega)):=ZgJ _;have hr:=h6 j _ hf;rw[hr.one_eq];obtain⟨x,hx,hcx⟩:=z9 hf;exact(h4 x hx).2 _ hcx
    grind
 rcases hnew with ⟨cp,rfl,rfl⟩|⟨ad,cp,news,rfl,hl,hnews,h1,hfit,hrd⟩
 ·refine⟨v,w,[],JT ht hi hown cp,by simp_all,⟨rfl,rfl,rfl,ZgP _,λ_ _ _=>rfl⟩,.inl rfl,λx hx=>by simp at hx,λi ck hi=>by simp[flat]at hi⟩
 ·simp only[lim]at hlim;have h63:n+l.length<=maxLen:=by grind [maxLen]
  have hbytes:(n+l.length)*i.bytes<=140737488355328:=by
   have:(n+l.length)*i.bytes<=4294967296*32768:=ZkL hlim hby;omega
  have hlen:(xs++news).length=(n+l.length)*P.cellsOf e:=by rw[ZhZ,hown.1,hl,Nat.add_mul]
  have grown:∀(old:Nat),old<n+l.length->∀(row:Option Nat) (cs:Array Value),cs=xs.toArray++news.toArray->
    (w.drew.alloc (.cells (cs++Builtin.zeroCells z.cells (grownCap w (n+l.length) old e- (n+l.length))) e)).ownsRow w.heap.size e (P.cellsOf e)
     (.slice (some ⟨w.heap.size,0,none⟩) (n+l.length) (grownCap w (n+l.length) old e)) (n+l.length) (xs++news)/\
    w.grownBy (w.drew.alloc (.cells (cs++Builtin.zeroCells z.cells (grownCap w (n+l.length) old e- (n+l.length))) e)) row:=by
   rintro old ho row cs rfl;have hge:=grownCap_ge w (n+l.length) old e;have hcm:grownCap w (n+l.length) old e<=maxLen:=grownCap_le_maxLen w (n+l.length) old e h63;refine⟨⟨hlen,.inr ⟨w.heap.size,_,_,rfl,ZgP _,Zhv w.drew _,hge,hcm,?_,?_⟩⟩,⟨rfl,rfl,rfl,by simp,λk hk _=>ZhQ w.drew _ k hk⟩⟩
   ·simp only[Array.size_append,Zie,size_zeroCells,hzs,hown.1,hl,hcs,<-Nat.add_mul];simp_all
   ·grind
  rcases hown.2 with ⟨rfl,rfl⟩|⟨g,cap,cur,rfl,hbg,hg,hnc,hcm,hcsz,htake⟩
  ·have hx:xs=[]:=Zhz (by simp_all);subst hx;by_cases hm:l.length=0
   ·have hn:news=[]:=Zhz (by simp_all);subst hn;refine⟨.slice none 0 0,w,[],?_,by simp_all,⟨rfl,rfl,rfl,ZgP _,λ_ _ _=>rfl⟩,.inl rfl,hfit,hrd⟩;simp[Builtin.append_,Zhk ht,Go.sizeOf,typeInfo,hi,Builtin.lenOf,hm,Builtin.firstCells,loadCells,loadCellsFrom]
   ·have hr:=run_append_nil (P:=P) w t ty e i z ht hi hz ad l.length cp news (by grind) hnews (by omega) (by omega) (by grind);have hgr:=grown 0 (by omega);simp only[Zhy,ZhM]at hgr⊢;obtain⟨g1,g2⟩:=hgr none news.toArray (by simp)
    grind [VW]
  ·by_cases hroom:n+l.length<=cap
   ·obtain⟨w',hr,ho,hgr⟩:=run_append_fits (P:=P) w B t ty e i (P.cellsOf e) ht hi hcs.symm g n cap xs hown ad l.length cp news hl hnews h1 hroom;exact⟨_,_,news,hr,ho,hgr,.inl rfl,hfit,hrd⟩
   ·have holds:∀j u,xs[j]?=some u->w.cell? ((⟨g,0,none⟩:Addr).add j)=some u:=hown.cells (g:=g) rfl;have hr:=run_append_grow (P:=P) w t ty e i z ht hi hz ⟨g,0,none⟩ n cap xs (by grind) holds ad l.length cp news (by grind) hnews (by omega) (by omega) (growslice_fits (by omega) hbytes);have hgr:=grown cap (by omega);obtain⟨g1,g2⟩:=hgr none _ rfl;exact⟨_,_,news,hr,VW g1 hB,(hgr _ _ rfl).2,.inr ⟨g2,g1⟩,hfit,hrd⟩
theorem WD{k:Nat}{x y z:V}(hz:appV k x y=some z):∃l r,x=.sl l/\y=.sl r/\l.length+r.length<=lim/\Yr k r=true/\z=.sl (l++r):=by
 unfold appV at hz;split at hz
 ·simp_all
 grind
theorem Z51{x z:V}(hz:flsV x=some z):x=z/\∃l,z=.sl l/\∀y∈Vm.flat l,y.flatc=true:=by
 unfold flsV at hz;split at hz
 ·rename_i l;split at hz
  ·rename_i hall;simp only[ZgH]at hz;exact⟨hz,l,hz.symm,λy hy=>ZgT.1 hall y hy⟩
  grind
 grind
theorem Z1O(hr:RelG c B G s a w h g)(hC:holds s (ixC c C)){x:Operand}{b0:E×List Nat}(hx:opE g C x=some b0){fl:Bool}{z:V}(hz:eval s (Rq fl b0).1=some z):
  ∃G',Rd w G' z (a.eval x)/\∀l,z=.sl l->∀(i:Nat) (ck:V) (u:Value),(flat l)[i]?=some ck->Rd w G' ck u->Rd w (h.ext (Rq fl b0).2) ck u:=by
 obtain⟨y,hy,hyr⟩:=Xg hr hC (show opE g C x=some (b0.1,b0.2)from hx);unfold Rq at hz⊢;split
 ·grind
 ·rename_i hb;rw[if_neg hb]at hz;split
  ·rename_i hfl;rw[if_pos hfl]at hz;simp only[eval,hy,ZgS]at hz;obtain⟨rfl,l,rfl,hall⟩:=Z51 hz;refine⟨_,hyr,λl' hl' i ck u hi hu=> ?_⟩;cases hl';exact hu.flat (hall ck (ZgQ hi))
  grind
theorem Zau{dst:Option Nat}{d:Nat}(hd:dst=some d){el:TypeId}{e:E}{sh:List Nat}{k:TK}{es:List E}(ho:Kw c dst el e sh=some (k,es))(hes:∀e∈es,∃z,eval s e=some z):∃z,eval s e=some z:=by
 unfold Kw at ho;subst hd;simp only at ho;split at ho<;>(simp only[ZgH,ZgR]at ho;obtain⟨_,rfl⟩:=ho;exact hes _ (List.Mem.head _))
theorem j5(hr:RelG c B G s a w h g)(hC:holds s (ixC c C)){T U ty:TypeId}{x y:Operand}{dst:Option Nat}{k:TK}{es:List E}(hp:zH c g C dst T U x y=some (k,es))(hes:∀e∈es,∃z,eval s e=some z)(tm:Nat->Option Value)(d:Nat)(hd:dst=some d):
  ∃v w',(Builtin.append_ #[T,U] ty #[a.eval x,a.eval y]).run c.P w=.ok v w'/\PRes c B G s w h tm d k v w':=by
 unfold zH at hp;split at hp
 ·rename_i el hT;have hT':=Z4e hT;split at hp
  ·rename_i hcond;obtain⟨rfl,hel⟩:=hcond;split at hp
   ·rename_i hk;simp only[ZgI]at hp;obtain⟨b0,hb,hp⟩:=hp;rw[SZ hr hC hk]
    have hp':Kw c dst el (.app (.c (.sl [])) (Rq (Xx c.P el) b0).1 (c.P.cellsOf el)) (Rq (Xx c.P el) b0).2=some (k,es):=by
     subst hd;simp only at hp;split at hp
     grind
     ·exact hp
    obtain⟨z,hz⟩:=Zau hd hp' hes;have hz0:=hz;simp only[eval,ZgS,ZgI]at hz;obtain⟨yy,hyy,hz⟩:=hz;obtain⟨l0,r,hl0,rfl,hlim,hsz,rfl⟩:=WD hz;cases hl0;obtain⟨G',hrd,hback⟩:=Z1O hr hC hb hyy;obtain⟨i,zz,hi,hz1,hzs,h0,hby,hcs⟩:=VN hel;obtain⟨v',w',news,hrun,hown,hg,hor,hfit,hnews⟩:=JS (ty:=ty) hT' hel (Ziv w w.heap.size el (c.P.cellsOf el)) (ZgP _) hrd hsz (by omega);refine⟨v',w',hrun,?_⟩;simp only[Zhy,ZhM]at hown
    exact Z0Q hr.ok hg (by simp_all) (by omega) hfit hown (λi ck hi=>by
     grind) hp' tm d hd
   grind
  grind
 grind
theorem UF(hr:RelG c B G s a w h g)(hC:holds s (ixC c C)){x:Operand}{b:E×List Nat}(he:opE g C x=some b):∃y,eval s b.1=some y/\Rd w (h.ext b.2) y (a.eval x):=Xg hr hC (show opE g C x=some (b.1,b.2)from he)
def PRun(c:Ctx)(B:Nat)(G:Nat->Prop)(s:St)(a:Act)(w:World)(h:GH)(o:Oper)(d:Nat)(k:TK):Prop:=
 ∃v w',(execOp a.eval o).run c.P w=.ok (.value v) w'/\PRes c B G s w h (λp=>a.tmps[p]?) d k v w'
theorem PRun.of{o:Oper}{d:Nat}{k:TK}{m:Sem Value}(he:execOp a.eval o=(do pure (.value (<-m))))(hm:∃v w',m.run c.P w=.ok v w'/\PRes c B G s w h (λp=>a.tmps[p]?) d k v w'):PRun c B G s a w h o d k:=by
 obtain⟨v,w',hrun,hres⟩:=hm;exact⟨v,w',by simp_all,hres⟩
theorem Has.pr(hok:Ok B G w h){o:Oper}{d:Nat}{k:TK}{m:Sem Value}(he:execOp a.eval o=(do pure (.value (<-m))))(hm:Has c B s w h (λp=>a.tmps[p]?) d k m):PRun c B G s a w h o d k:=by
 obtain⟨v,hrun,hk⟩:=hm
 grind [PRun.of,PRes.here]
theorem Q8{s:St}{e:E}{aq_:List V}{o:Nat}{z:V}(h:eval s e=some (.agg aq_))(hz:eval s (.fld e o)=some z):aq_[o]?=some z:=by
 simp_all[eval,ZgS,fldV,V.pc,ZgI,oneV]
def X6(P:Program)(T:TypeId)(vs:Array Value)(o:Nat):Value:=if Zq P T then .agg (vs.extract o (o+P.cellsOf T))else vs.getD o undef
theorem yU{vs:Array Value}{o n i:Nat}(hi:i<n)(h:o+n<=vs.size):(vs.extract o (o+n)).getD i undef=vs.getD (o+i) undef:=by
 simp only[ZgN,Zkn];simp_all
theorem Ln{P:Program}{T:TypeId}{vs:Array Value}{o n q:Nat}(h:o+n<=vs.size)(hq:q+P.cellsOf T<=n)(h0:P.cellsOf T≠0):X6 P T (vs.extract o (o+n)) q=X6 P T vs (o+q):=by
 grind [X6,Array.extract_extract,yU]
theorem Z4T{P:Program}{a b e:E}:∀(d:Nat) (T:TypeId) (o:Nat),eqD P a b d T o=some e->P.cellsOf T≠0/\(P.underlying T).isSome=true
 |0,_,_,h=>by simp[eqD]at h
 |d+1,T,o,h=>by
  grind [eqD]
theorem Z6D{P:Program}{s:St}{ea eb:E}{aq_ bs:List V}{xs ys:Array Value}{G' G'':Nat->Prop}(ha:eval s ea=some (.agg aq_))(hb:eval s eb=some (.agg bs))(hxs:xs.size=aq_.length)(hys:ys.size=bs.length)
  (hx:∀i c,aq_[i]?=some c->Rd w G' c (xs.getD i undef)) (hy:∀i c,bs[i]?=some c->Rd w G'' c (ys.getD i undef)):∀(d D:Nat) (T:TypeId) (o:Nat) (e:E) (z:V),d<=D->o+P.cellsOf T<=xs.size->o+P.cellsOf T<=ys.size->eqD P ea eb d T o=some e->eval s e=some z->
  ∃r:Bool,(Op.equalIn (D+1) T (X6 P T xs o) (X6 P T ys o)).run P w=.ok r w/\z=.bool r
 |0,D,T,o,e,z,_,_,_,he,hz=>by simp[eqD]at he
 |d+1,D,T,o,e,z,hD,hbx,hby,he,hz=>by
  simp only[eqD]at he;split at he
  ·rename_i hT;split at he
   case isFalse=>cases he
   simp only[ZgH]at he;subst he;simp only[eval,ZgI]at hz;obtain⟨u,hu,v,hv,hzx⟩:=hz;have hu':=Q8 ha (z:=u) (o:=o) (by simp_all[eval,ZgI]);have hv':=Q8 hb (z:=v) (o:=o) (by simp_all[eval,ZgI]);have h1:=hx o u hu';have h2:=hy o v hv';have hag:Zq P T=false:=by simp[Zq,hT]
   simp only[X6,hag,ZgU,Zhr];generalize xs.getD o undef=vx at*;generalize ys.getD o undef=vy at*;cases h1<;>cases h2<;>simp only[eqV]at hzx<;>(try (simp at hzx;done))
   simp_all[ZgH,run_equalIn_bool]
  ·rename_i q hT;split at he
   case isFalse=>cases he
   simp only[ZgH]at he;subst he;simp only[eval,ZgI]at hz;obtain⟨u,hu,v,hv,hzx⟩:=hz;have hu':=Q8 ha (z:=u) (o:=o) (by simp_all[eval,ZgI]);have hv':=Q8 hb (z:=v) (o:=o) (by simp_all[eval,ZgI]);have h1:=hx o u hu';have h2:=hy o v hv';have hag:Zq P T=false:=by simp[Zq,hT]
   simp only[X6,hag,ZgU,Zhr];generalize xs.getD o undef=vx at*;generalize ys.getD o undef=vy at*;cases h1<;>cases h2<;>simp only[binV]at hzx<;>(try (simp at hzx;done))
   simp_all[ZgH,run_equalIn_int]
  ·rename_i fs hT;split at he
   case isFalse=>cases he
   rename_i hcond;obtain⟨hne,h0,hst⟩:=hcond;have hag:Zq P T=true:=by simp[Zq,hT]
   have hfo:P.fieldsOf T=fs:=by unfold Program.fieldsOf;rw[hT]
   simp only[X6,hag,Zhp];obtain⟨D',rfl⟩:∃D',D=D'+1:=⟨D-1,by omega⟩
   have key:∀(l:List Field) (e:E) (z:V),binS P (eqD P ea eb d) (P.cellsOf T) o l=some e->eval s e=some z->
     ∃r:Bool,(Op.eqFields (D'+1) (xs.extract o (o+P.cellsOf T)) (ys.extract o (o+P.cellsOf T)) l).run P w=.ok r w/\z=.bool r:=by
    intro l
    induction l with
    |nil=>
     intro e z he hz;simp only[binS,ZgH]at he;subst he;simp_all[eval,ZgH,Op.eqFields]
    |cons f l ih=>
     intro e z he hz;simp only[binS]at he;split at he
     case isFalse=>cases he
     rename_i hc;obtain⟨hn,ho⟩:=hc;simp only[ZgI,ZgK]at he;obtain⟨x,hcx,y,hy2,rfl⟩:=he;simp only[eval,ZgI]at hz;obtain⟨zx,hzx,hz⟩:=hz;obtain⟨c0,cu⟩:=Z4T d f.type _ hcx;obtain⟨t,ht,rfl⟩:=Z6D ha hb hxs hys hx hy d D' f.type (o+f.offset) x zx (by omega) (by omega) (by omega) hcx hzx
     have p1:(part f.type (xs.extract o (o+P.cellsOf T)) f.offset).run P w=.ok (X6 P f.type xs (o+f.offset)) w:=by
      rw[<-Ln hbx ho c0];exact zR (w:=w) (P:=P) cu c0 (by simp_all)
     have p2:(part f.type (ys.extract o (o+P.cellsOf T)) f.offset).run P w=.ok (X6 P f.type ys (o+f.offset)) w:=by
      rw[<-Ln hby ho c0];exact zR (w:=w) (P:=P) cu c0 (by simp_all)
     simp only[Op.eqFields,hn,ne_eq,not_false_eq_true,Zhp,Zhf,p1,p2,ht,Zhd];cases t
     ·simp_all[iteV,eval,ZgH]
     simp_all[iteV]
   obtain⟨r,hr,rfl⟩:=key _ e z he hz;refine⟨r,?_,rfl⟩;have:=run_equalIn_struct w (D'+1) T (xs.extract o (o+P.cellsOf T)) (ys.extract o (o+P.cellsOf T)) (by rw[hfo];exact hT) hst;rw[hfo]at this;exact this.trans hr
  ·cases he
theorem Z1R{P:Program}{s:St}{ea eb:E}:∀(d:Nat) (T:TypeId) (o:Nat) (e:E) (z:V),eqD P ea eb d T o=some e->eval s e=some z->∃q t t',eval s (.fld ea q)=some t/\eval s (.fld eb q)=some t'
 |0,_,_,_,_,h,_=>by simp[eqD]at h
 |d+1,T,o,e,z,h,hz=>by
  simp only[eqD]at h;split at h
  ·split at h
   case isFalse=>cases h
   simp only[ZgH]at h;subst h;simp only[eval,ZgI]at hz;obtain⟨a,h1,b,h2,_⟩:=hz;exact⟨o,a,b,by simpa only[eval,ZgI]using h1,by simpa only[eval,ZgI]using h2⟩
  ·split at h
   case isFalse=>cases h
   simp only[ZgH]at h;subst h;simp only[eval,ZgI]at hz;obtain⟨a,h1,b,h2,_⟩:=hz;exact⟨o,a,b,by simpa only[eval,ZgI]using h1,by simpa only[eval,ZgI]using h2⟩
  ·rename_i fs hT;split at h
   case isFalse=>cases h
   rename_i hc;cases hfs:fs.toList with
   |nil=>exact absurd hfs hc.1
   |cons f l=>
    rw[hfs]at h;simp only[binS]at h;split at h
    case isFalse=>cases h
    simp only[ZgI,ZgK]at h;obtain⟨x,hcx,y,_,rfl⟩:=h;simp only[eval,ZgI]at hz;obtain⟨zx,hzx,_⟩:=hz;exact Z1R d _ _ _ _ hcx hzx
  ·cases h
theorem Z2y{P:Program}{s:St}{ea eb e:E}{u v z:V}{uv vv:Value}{T:TypeId}{G' G'':Nat->Prop}(hq:eqSt P T ea eb=some e)(hu:eval s ea=some u)(hv:eval s eb=some v)(hur:Rd w G' u uv)(hvr:Rd w G'' v vv)(hz:eval s e=some z):
  ∃(r:Bool) (xs ys:Array Value),uv=.agg xs/\vv=.agg ys/\(Op.equal T uv vv).run P w=.ok r w/\z=.bool r/\P.eqGuardType P.depth T=false:=by
 unfold eqSt at hq;split at hq
 case isFalse=>cases hq
 rename_i hcond;obtain⟨hag,hgd⟩:=hcond;obtain⟨q,t,t',h1,h2⟩:=Z1R 4 T 0 e z hq hz
 have ga:∀ {ex:E} {x:V} {y:V},eval s ex=some x->eval s (.fld (.sz (.isag ex) (P.cellsOf T)) q)=some y->∃aq_,x=.agg aq_/\aq_.length=P.cellsOf T/\eval s (.sz (.isag ex) (P.cellsOf T))=some (.agg aq_):=λ{ex x y} hx hy=>by
  simp only[eval,hx,ZgS]at hy⊢;cases x<;>simp only[Z0C,Option.bind_none,ZgS]at hy⊢ <;>(try (cases hy;done))
  rename_i aq_;unfold szV at hy⊢;by_cases hl:(V.agg aq_).cells.length=P.cellsOf T
  ·exact⟨aq_,rfl,hl,by grind⟩
  simp_all
 obtain⟨aq_,rfl,hla,hea⟩:=ga hu h1;obtain⟨bs,rfl,hlb,heb⟩:=ga hv h2;cases hur with
 |agg _ xs h1 h2 h3=>
  cases hvr with
  |agg _ ys k1 k2 k3=>
   obtain⟨r,hr,rfl⟩:=Z6D (P:=P) hea heb h1 k1 h3 k3 4 9999 T 0 e z (by omega) (by omega) (by omega) hq hz;refine⟨r,xs,ys,rfl,rfl,?_,rfl,hgd⟩
   have e1:X6 P T xs 0=.agg xs:=by
    unfold X6;rw[if_pos hag,Zhy,show P.cellsOf T=xs.size by omega];simp
   have e2:X6 P T ys 0=.agg ys:=by
    unfold X6;rw[if_pos hag,Zhy,show P.cellsOf T=ys.size by omega];simp
   rw[e1,e2]at hr;exact hr
theorem Z6d(hr:RelG c B G s a w h g)(hC:holds s (ixC c C)){op:BinOp}{T:TypeId}{x y:Operand}{k:TK}{es:List E}(hp:Zav c g C op T x y=some (k,es))(hes:∀e∈es,∃z,eval s e=some z)(d:Nat):
  Has c B s w h (λp=>a.tmps[p]?) d k (do eqGuard op T x y (a.eval x) (a.eval y);binOp op T (a.eval x) (a.eval y)):=by
 unfold Zav at hp;simp only[ZgI,ZgK,ZgR]at hp;obtain⟨ea,ha,eb,hb,rfl,rfl⟩:=hp;obtain⟨u,hu,hur⟩:=UF hr hC ha;obtain⟨v,hv,hvr⟩:=UF hr hC hb;obtain⟨z,hz⟩:=hes _ (List.Mem.head _);have hz0:=hz
 have fin:∀ {m:Sem Value},(∃r,m.run c.P w=.ok r w/\Rd w h.F z r)->Has c B s w h (λp=>a.tmps[p]?) d (.val (binE c.P T op ea.1 eb.1) []) m:=by
  rintro m ⟨r,hr1,hr2⟩;exact⟨r,hr1,z,hz0,hr2.mono λb hb=>GH.ext_F hb⟩
 have plain:eval s (.bin op ea.1 eb.1)=some z->Has c B s w h (λp=>a.tmps[p]?) d (.val (binE c.P T op ea.1 eb.1) []) (do eqGuard op T x y (a.eval x) (a.eval y);binOp op T (a.eval x) (a.eval y)):=by
  intro hz;simp only[eval,hu,hv,ZgS]at hz;exact fin (Z8r hz hur hvr T x y)
 unfold binE at hz;split at hz
 ·rename_i hT;split at hz
  ·simp only[eval,hu,hv,ZgS]at hz;exact fin (Z6E (neg:=false) hz hur hvr hT x y)
  ·simp only[eval,hu,hv,ZgS]at hz;exact fin (Z6E (neg:=true) hz hur hvr hT x y)
  simp_all
 ·split at hz
  ·cases hq:eqSt c.P T ea.1 eb.1 with
   |none=>simp_all
   |some e=>
    rw[hq]at hz;obtain⟨r,xs,ys,hxs,hys,h1,rfl,h2⟩:=Z2y hq hu hv hur hvr hz;refine fin ⟨.bool r,?_,.bool _⟩;simp_all[eqGuard,binOp,Ziw]
  ·cases hq:eqSt c.P T ea.1 eb.1 with
   |none=>simp_all
   |some e=>
    rw[hq]at hz;simp only[ZgY,Zhe,eval,ZgI]at hz;obtain⟨y',hy',hz⟩:=hz;obtain⟨r,xs,ys,hxs,hys,h1,rfl,h2⟩:=Z2y hq hu hv hur hvr hy';simp only[unV,ZgH]at hz;subst hz;refine fin ⟨.bool (!r),?_,.bool _⟩;simp_all[eqGuard,binOp,Ziw]
  simp_all
theorem Z3M{x z:V}{e:E}{d:Nat}{sh:List Nat}{m:Sem Value}(hz:eval s e=some z)(hm:∃r,m.run c.P w=.ok r w/\Rd w (h.ext sh) z r)(tm:Nat->Option Value):Has c B s w h tm d (.val e sh) m:=by
 obtain⟨r,h1,h2⟩:=hm;exact⟨r,h1,z,hz,h2⟩
theorem R4{m:Sem Value}{z:V}(hm:∃r,m.run c.P w=.ok r w/\Rd w h.F z r)(sh:List Nat):∃r,m.run c.P w=.ok r w/\Rd w (h.ext sh) z r:=by
 obtain⟨r,h1,h2⟩:=hm;exact⟨r,h1,h2.mono λb hb=>GH.ext_F hb⟩
theorem KS(hr:RelG c B G s a w h g)(hC:holds s (ixC c C)):∀ {l:List Operand} {ts:List Nat},yE g C l=some ts->ts.length=l.length/\∀(i p:Nat),ts[i]?=some p->∃x b,l[i]?=some x/\h.bl p 0=some b/\a.eval x=.pointer (some ⟨b,0,none⟩)
 | [],ts,hc=>by
   simp only[yE,ZgH]at hc;subst hc;exact⟨rfl,λi p hi=>by simp at hi⟩
 |x::l,ts,hc=>by
  simp only[yE]at hc;split at hc
  ·rename_i t cs hk;simp only[ZgK]at hc;obtain⟨us,hus,rfl⟩:=hc;obtain⟨h1,h2⟩:=KS hr hC hus;obtain⟨v,hv,⟨b,vs,T,e1,e2,_⟩,_⟩:=hr.look hC (show look g C t=_ from hk) rfl;refine⟨by simp[h1],λi p hi=> ?_⟩;cases i with
   |zero=>simp at hi;subst hi;exact⟨_,b,rfl,e1,by rw[Act.eval_tmp a t v hv];exact e2⟩
   |succ i=>simpa using h2 i p (by simpa using hi)
  ·cases hc
theorem Ky(hr:RelG c B G s a w h g)(hC:holds s (ixC c C)){f:Go.Fn}{first captured:Array Operand}{k:TK}{es:List E}(hp:R1 g C f first.toList captured.toList=some (k,es))(d:Nat):
  Has c B s w h (λp=>a.tmps[p]?) d k (Instr.makeFunc f (first.map a.eval) (captured.map a.eval)):=by
 unfold R1 at hp;split at hp
 ·rename_i f' h1 h2;simp only[ZgH,ZgR]at hp;obtain⟨rfl,rfl⟩:=hp;have e1:first=#[]:=ZhW.1 (by omega);have e2:captured=#[]:=ZhW.1 (by omega);subst e1 e2;exact⟨.func (.func f') #[] #[],by simp[Instr.makeFunc],.fn f',rfl,.fn f'⟩
 ·rename_i f' h1 _;simp only[ZgK,ZgR]at hp;obtain⟨ts,hts,rfl,rfl⟩:=hp;have e1:first=#[]:=ZhW.1 (by omega);subst e1;obtain⟨hl,hall⟩:=KS hr hC hts;refine⟨.func (.func f') #[] (captured.map a.eval),by simp[Instr.makeFunc],captured.map a.eval,rfl,by simp_all,λi p hi=> ?_⟩
  grind
 ·cases hp
theorem zL(hok:Ok B G w h){T:TypeId}{k:TK}{es:List E}(hp:JF c T=some (k,es))(tm:Nat->Option Value)(d:Nat):
  ∃v w',(Instr.makeMap T none).run c.P w=.ok v w'/\PRes c B G s w h tm d k v w':=by
 unfold JF at hp;split at hp
 ·simp only[ZgH,ZgR]at hp;obtain⟨rfl,rfl⟩:=hp;have hg:=Zi5 w (.map #[] 0) none;obtain⟨hok',hst⟩:=Sl hok hg d 1 (n:=w.heap.size) (ZgP _) (by simp);refine⟨.map (some w.heap.size),w.alloc (.map #[] 0),?_,_,hst,hok',.mp 0 [] [],rfl,.inr ⟨0,[],[],w.heap.size, #[],0,rfl,rfl,by simp[GH.give],hok.base,.inl rfl,Zhv w _,rfl,rfl,λi c hi=>by simp at hi,λi c hi=>by simp at hi⟩⟩;rfl
 ·cases hp
theorem Z8O{P:Program}{T:TypeId}{x:V}(hz:Zb1 P T=some x):∃z,(∀w:World,(zeroValue T).run P w=.ok z w)/\∀(w:World) (G:Nat->Prop),Rd w G x z:=by
 unfold Zb1 at hz;simp only[ZgI]at hz;obtain⟨z,⟨i,hi,hz0⟩,hm⟩:=hz;refine⟨z,λw=>Vt hi hz0 w,λw G=> ?_⟩;split at hm
 ·rename_i cs;simp only[ZgK]at hm;obtain⟨xs,hxs,rfl⟩:=hm;obtain⟨h1,h2⟩:=Jp hxs
  have key:∀(i:Nat) (c:V),xs[i]?=some c->UE (cs.getD i undef)=some c:=by
   intro i c hi;have hlt:i<cs.size:=by have:=(ZgL.1 hi).1;rw[h1]at this;simpa using this
   obtain⟨y,hy,hc⟩:=h2 i cs[i] (by simp[hlt]);rw[hi]at hy;cases hy;simpa[ZgN,hlt]using hc
  refine .agg xs cs (by simp_all) (λc hc=> ?_) λi c hi=>Q7 (key i c hi) w G
  grind [List.getElem?_of_mem,QW]
 grind [Q7]
def kcD:KC->TypeDesc
 |.b=>.bool
 |.i k=>.int k
 |.s=>.string
theorem qn{P:Program}{t:TypeId}{kc:KC}(hk:kcOf P t=some kc):P.underlying t=some (kcD kc):=by
 unfold kcOf at hk;split at hk<;>first|(simp only[ZgH]at hk;subst hk;assumption)|cases hk
theorem Jm{kc:KC}{k:V}(hk:isK kc k=true){w:World}{G':Nat->Prop}{v:Value}(hv:Rd w G' k v):IsKey (kcD kc) v:=by
 cases kc<;>cases hv<;>simp_all [isK,IsKey,kcD]
theorem Lc{kc:KC}{k y:V}{r:Bool}(hk:isK kc k=true)(he:Z5w k y=some r){w w2:World}{G' G'':Nat->Prop}{v u:Value}(hv:Rd w G' k v)(hu:Rd w2 G'' y u):IsKey (kcD kc) u/\(r=true↔v=u):=by
 cases kc<;>cases hv<;>simp[isK]at hk<;>cases hu<;>simp[Z5w]at he
 ·grind [IsKey,kcD]
 ·obtain⟨rfl,rfl⟩:=he;simp[IsKey,kcD,hk]
 grind [IsKey,kcD,bytes_beq]
theorem WI{kc:KC}{k:V}(hk:isK kc k=true){w w2:World}{G' G'':Nat->Prop}{v:Value}(hv:Rd w G' k v):∀ {ks:List V} {l:List MapEntry} {r:Option Nat},Kn k ks=some r->ks.length=l.length->
  (∀(i:Nat) (c:V),ks[i]?=some c->Rd w2 G'' c (l.getD i default).key)->∀n,match r with
   |none=>Instr.findNow (kcD kc) v l n=some none
   |some j=>∃e,l[j]?=some e/\e.key=v/\Instr.findNow (kcD kc) v l n=some (some (n+j,e.val))
 | [],l,r,hf,hl,_,n=>by
   simp only[Kn,ZgH]at hf;subst hf;have:l=[]:=Zhz hl.symm;subst this;rfl
 |y::ks,[],r,_,hl,_,n=>by simp at hl
 |y::ks,e::l,r,hf,hl,hrd,n=>by
  simp only[Kn]at hf;have hy:Rd w2 G'' y e.key:=by simpa using hrd 0 y rfl
  split at hf
  ·rename_i he;obtain⟨h1,h2⟩:=Lc hk he hv hy;simp only[ZgH]at hf;subst hf;have hve:=h2.1 rfl;obtain⟨q,hq,hiff⟩:=ZjL (Jm hk hv) h1;have hq1:q=true:=hiff.2 hve;subst hq1;exact⟨e,rfl,hve.symm,by simp[Instr.findNow,hq]⟩
  ·rename_i he;obtain⟨h1,h2⟩:=Lc hk he hv hy;obtain⟨q,hq,hiff⟩:=ZjL (Jm hk hv) h1
   have hq1:q=false:=by
    cases q with
    |false=>rfl
    |true=>have:=h2.2 (hiff.1 rfl);cases this
   subst hq1;simp only[ZgK]at hf;obtain⟨r',hr',rfl⟩:=hf;have ih:=WI hk hv hr' (by simpa using hl) (λi c hi=>by simpa using hrd (i+1) c (by simpa using hi)) (n+1);cases r' with
   |none=>simpa[Instr.findNow,hq]using ih
   |some j=>
    obtain⟨e',e1,e2,e3⟩:=ih;exact⟨e',by simpa using e1,e2,by simp[Instr.findNow,hq,e3];omega⟩
  ·cases hf
theorem Lh{kc:KC}{k z y:V}{ks vs:List V}{id:Nat}{ok:Bool}(hy:lkV kc (.mp id ks vs) k z ok=some y){l:List MapEntry}{w2:World}{G' G'':Nat->Prop}{kv zv:Value}(hk:Rd w G' k kv)(hz:∀(w:World) (G:Nat->Prop),Rd w G z zv)(h1:ks.length=l.length)(h2:vs.length=l.length)
  (h3:∀(i:Nat) (c:V),ks[i]?=some c->Rd w2 G'' c (l.getD i default).key) (h4:∀(i:Nat) (c:V),vs[i]?=some c->Rd w2 G'' c (l.getD i default).val):
  isK kc k=true/\∃r,Instr.findNow (kcD kc) kv l 0=some r/\Rd w2 G'' y (if ok then .tuple #[(match r with|some (_,v)=>(v,true)|none=>(zv,false)).1,.bool (match r with|some (_,v)=>(v,true)|none=>(zv,false)).2]else(match r with|some (_,v)=>(v,true)|none=>(zv,false)).1):=by
 have tup:∀ {x:V} {v:Value} {b:Bool},Rd w2 G'' x v->Rd w2 G'' (if ok then .tup [x,.bool b]else x) (if ok then .tuple #[v,.bool b]else v):=by
  intro x v b hx;cases ok
  ·exact hx
  ·refine .tup _ _ rfl λi c hi=> ?_
   match i,hi with
   |0,hi=>simp_all
   |1,hi=>simp at hi;subst hi;simpa using Rd.bool b
   |i+2,hi=>simp at hi
 unfold lkV at hy;split at hy
 ·cases hy
 rename_i hik;have hik:isK kc k=true:=by simpa using hik
 refine⟨hik,?_⟩;simp only at hy;split at hy
 ·rename_i j hf;obtain⟨e,e1,e2,e3⟩:=WI hik hk hf h1 h3 0
  grind
 ·rename_i hf;have:=WI hik hk hf h1 h3 0
  grind
 ·cases hy
theorem zK(hr:RelG c B G s a w h g)(hC:holds s (ixC c C)){T:TypeId}{x k:Operand}{ok:Bool}{kk:TK}{es:List E}(hp:U0 c g C T x k ok=some (kk,es))(hes:∀e∈es,∃z,eval s e=some z)(d:Nat):
  Has c B s w h (λp=>a.tmps[p]?) d kk (Instr.lookup T (a.eval x) (a.eval k) ok):=by
 unfold U0 at hp;split at hp
 ·rename_i kt el hT;simp only[ZgI,ZgK,ZgR]at hp;obtain⟨kc,hkc,z,hz,ea,ha,eb,hb,rfl,rfl⟩:=hp;obtain⟨u,hu,hur⟩:=Xg hr hC ha;obtain⟨v,hv,hvr⟩:=Xg hr hC hb;obtain⟨y,hy⟩:=hes _ (List.Mem.head _);have hy0:=hy;simp only[eval,hu,hv,ZgS]at hy;obtain⟨zv,hzr,hzrd⟩:=Z8O hz;have hkd:=qn hkc;generalize hav:a.eval x=av at hur;cases hur with
  |nomp=>
   obtain⟨hik,r,hf,hres⟩:=Lh (w2:=w) (G'':=h.ext ea.2) hy hvr hzrd (l:=[]) rfl rfl (λi c hi=>by simp at hi) (λi c hi=>by simp at hi);refine⟨_,?_,y,hy0,hres⟩;have hck:=ZjZ (w:=w) hkd (Jm hik hvr);have hfk:=ZjK (w:=w) hkd hf;cases r with
   |none=>simp_all[Instr.lookup,Zhk,Result.andThen]
   |some p=>simp_all[Instr.lookup,Zhk,Result.andThen]
  |mp id ks xs b clk es h0 h1 h2 h3 h4 h5 h6=>
   obtain⟨hik,r,hf,hres⟩:=Lh (w2:=w) (G'':=h.ext ea.2) hy hvr hzrd (l:=es.toList) (by omega) (by omega) (λi c hi=>by simp_all) (λi c hi=>by simp_all);refine⟨_,?_,y,hy0,hres⟩;have hck:=ZjZ (w:=w) hkd (Jm hik hvr);have hfk:=ZjK (w:=w) hkd hf;cases r with
   |none=>simp[Instr.lookup,Zhk hT,Zik h2,hck,hfk,hzr,Result.andThen]
   |some p=>simp[Instr.lookup,Zhk hT,Zik h2,hck,hfk,hzr,Result.andThen]
  |_=>simp[lkV]at hy
 ·cases hp
theorem j7{T:TypeId}{x k:Operand}{ok:Bool}{e:E}{sh:List Nat}{es:List E}(hp:U0 c g C T x k ok=some (.val e sh,es)):es=[e]:=by
 unfold U0 at hp;split at hp
 ·simp only[ZgI,ZgK,ZgR,TK.val.injEq]at hp
  grind
 ·cases hp
theorem j8(hr:RelG c B G s a w h g)(hC:holds s (ixC c C)){T:TypeId}{x k:Operand}{ok:Bool}{kk:TK}{es:List E}(hp:zJ c g C T x k ok=some (kk,es))(hes:∀e∈es,∃z,eval s e=some z)(d:Nat):
  Has c B s w h (λp=>a.tmps[p]?) d kk (Instr.lookup T (a.eval x) (a.eval k) ok):=by
 simp only[zJ,ZgI]at hp;obtain⟨⟨k0,es0⟩,hp0,hp⟩:=hp;simp only at hp;split at hp
 ·rename_i e sh;simp only[ZgH,ZgR]at hp;obtain⟨rfl,rfl⟩:=hp;have h0:=j7 hp0;subst h0;have hy:=hes _ (List.Mem.head _)
  have hye:∃z,eval s e=some z:=by
   obtain⟨z,hz⟩:=hy;unfold flE at hz;split at hz
   ·simp_all
   ·split at hz
    ·simp only[eval,ZgI]at hz;obtain⟨u,hu,_⟩:=hz;exact⟨u,hu⟩
    ·simp_all
  obtain⟨v,hv,x0,hx0,hrd⟩:=zK hr hC hp0 (by simp_all) d;obtain⟨z,hz,hzr⟩:=J5 (b:=(e,sh)) (fl:=(!ok&&Z8Z c.P T)) hx0 hrd hy;exact⟨v,hv,z,hz,hzr⟩
 ·cases hp
theorem Z6F{x z:V}(hz:qH x=some z){G':Nat->Prop}{v:Value}(hv:Rd w G' x v){T ty k e:TypeId}(hT:c.P.underlying T=some (.map k e)):
  ∃r,(Builtin.len_ #[T] ty #[v]).run c.P w=.ok r w/\Rd w h.F z r:=by
 cases hv with
 |nomp=>
  simp only[qH,ZgH]at hz;subst hz;exact⟨.int .i64 0,by simp[Builtin.len_,Zhk hT,goInt],.int _ _⟩
 |mp id ks xs b clk es h0 h1 h2 h3 h4 h5 h6=>
  simp only[qH,ZgH]at hz;subst hz;exact⟨.int .i64 es.size,by simp[Builtin.len_,Zhk hT,Zik h2,goInt,Result.andThen],by rw[h3];exact .int _ _⟩
 |_=>simp[qH]at hz
theorem Zdi(hr:RelG c B G s a w h g)(hC:holds s (ixC c C)){o:Oper}{k:TK}{es:List E}(hp:pk c g C o=some (k,es))(hes:∀e∈es,∃z,eval s e=some z)(d:Nat)(hd:o.dst=some d):PRun c B G s a w h o d k:=by
 have hok:=hr.ok;obtain⟨dst,op,type,pos,after,guard⟩:=o;simp only at hd;unfold pk at hp;simp only at hp;split at hp
 ·exact⟨_,w,rfl,PRes.here hok (Z3L hr hC hp d)⟩
 ·rename_i x;obtain⟨v,h1,h2⟩:=Kz hr hC hp hes {dst,op:=.nilCheck x,type,pos,after,guard} rfl d;exact⟨v,w,h1,PRes.here hok h2⟩
 ·exact⟨_,w,rfl,PRes.here hok (j6 hr hC hp hes d)⟩
 ·exact PRun.of rfl (Z0Z hok hp _ d)
 ·exact PRun.of rfl (Z6e hr hC hp hes _ d)
 ·exact Has.pr hok rfl (Z6d hr hC hp hes d)
 ·simp only[pkUn,ZgK,ZgR]at hp;obtain⟨ea,ha,rfl,rfl⟩:=hp;obtain⟨u,hu,hur⟩:=UF hr hC ha;obtain⟨z,hz⟩:=hes _ (List.Mem.head _);have hz0:=hz;simp only[eval,hu,ZgS]at hz;exact Has.pr hok rfl (Z3M (x:=u) hz0 (R4 (ZaJ hz hur) []) _)
 ·rename_i src dst' x;unfold Z9h at hp;split at hp
  grind
  ·rename_i hsrc;split at hp
   ·rename_i kk hdst;simp only[ZgK,ZgR]at hp;obtain⟨ea,ha,rfl,rfl⟩:=hp;obtain⟨u,hu,hur⟩:=UF hr hC ha;obtain⟨z,hz⟩:=hes _ (List.Mem.head _);have hz0:=hz;simp only[eval,hu,ZgS]at hz;exact Has.pr hok rfl (Z3M (x:=u) hz0 (R4 (Z6C hz hur (by cases hh:c.P.underlying src<;>simp_all) hdst) []) _)
   grind
 ·rename_i x i;simp only[Zdg,ZgK,ZgR]at hp;obtain⟨ea,ha,rfl,rfl⟩:=hp;obtain⟨u,hu,hur⟩:=UF hr hC ha;obtain⟨z,hz⟩:=hes _ (List.Mem.head _)
  have he:∃q,eval s (.ext ea.1 i)=some q:=by
   unfold flE at hz;split at hz
   ·simp_all
   ·split at hz
    ·simp only[eval,hu,ZgS]at hz⊢;cases hq:extV u i with
     |none=>simp_all
     |some q=>simp
    ·simp_all
  obtain⟨q,hq⟩:=he;have hq0:=hq;simp only[eval,hu,ZgS]at hq;obtain⟨r,hr1,hr2⟩:=Z8s (c:=c) (w:=w) hq hur;obtain⟨z',hz',hrz⟩:=J5 (h:=h) (fl:=Xx c.P type) (b:=(.ext ea.1 i,ea.2)) hq0 hr2 ⟨z,hz⟩;exact Has.pr hok rfl ⟨r,hr1,z',hz',hrz⟩
 ·exact Has.pr hok rfl (Z3J hr hC hp hes d)
 ·exact Has.pr hok rfl (Z11 hr hC hp hes d)
 ·exact Has.pr hok rfl (JE hr hC hp hes d)
 ·exact Has.pr hok rfl (Z6g hr hC hp hes d)
 ·exact Has.pr hok rfl (Z13 hr hC hp hes d)
 ·exact Has.pr hok rfl (Z15 hr hC hp hes d)
 ·
  rename_i T parts;unfold Z6f at hp
  ·simp only[ZgI]at hp;obtain⟨fs,hT,zs,hz,b,hb,hp⟩:=hp;split at hp
   ·rename_i hempty;have hts:b.2.2=[]:=by simpa using hempty
    have hev:∃z,eval s (.ag (b.1.map (·.2)))=some z:=by
     split at hp<;>(simp only[ZgH,ZgR]at hp;obtain⟨_,rfl⟩:=hp;exact hes _ (List.Mem.head _))
    obtain⟨z,hz1⟩:=hev;have hz1':=hz1;simp only[eval,ZgK]at hz1';obtain⟨xs,hxs,hxz⟩:=hz1';obtain⟨hl,hx⟩:=Yy hxs;have hl':xs.length=b.1.length:=by grind
    obtain⟨vs,hrun,hsz,howns,hcell⟩:=Lr hr hC hT hz hb (λck hck=>by
     obtain⟨i,hi⟩:=Zh8 hck;obtain⟨x,_,he⟩:=hx i ck.2 (by simp_all);simp_all)
    rw[hts]at howns hcell;refine Has.pr hok rfl ⟨.agg vs,hrun,?_⟩
    have hx2:∀(i:Nat) (x:V),xs[i]?=some x->x.one=true/\Rd w (h.ext b.2.1) x (vs.getD i undef):=by
     intro i x hi;have hlt:i<b.1.length:=by have:=(ZgL.1 hi).1;omega
     obtain⟨y,hy,hye⟩:=hx i (b.1[i]).2 (by simp_all);rw[hi]at hy;cases hy;have hc:=hcell i b.1[i] (ZgJ hlt);unfold BRel at hc;split at hc
     ·simp_all
     ·obtain⟨e1,e2⟩:=hc;rw[hye]at e2;cases e2;rw[e1];exact⟨rfl,.nil _ _ (ZhO _)⟩
     ·simp_all
     ·grind
    have hone:∀x∈xs,x.one=true:=λx hxm=>by
     grind [List.getElem?_of_mem]
    have hzx:z=.agg xs:=by rw[<-hxz];simp only[agV,YG hone]
    split at hp
    ·rename_i hfz;simp only[ZgM,Zjh]at hfz;simp only[ZgH,ZgR]at hp;obtain⟨rfl,rfl⟩:=hp;refine⟨vs,rfl,hsz,λi ck hi=> ?_⟩;have hc:=hcell i ck hi;unfold BRel at hc;obtain⟨kk,e⟩:=ck;cases kk with
     |own ty=>simp_all
     |nil=>exact hc
     |fz=>
      obtain⟨x,e1,e2,e3⟩:=hc;rw[hfz.1]at e3;exact⟨x,e1,e2,e3.F⟩
     |dead=>grind
    ·simp only[ZgH,ZgR]at hp;obtain⟨rfl,rfl⟩:=hp;refine⟨z,hz1,?_⟩;rw[hzx];exact .agg xs vs (by omega) hone λi x hi=>(hx2 i x hi).2
   grind
 ·exact PRun.of rfl (Q2 hr hC hp hes _ d hd)
 ·exact PRun.of rfl (Z3K hr hC hp hes _ d hd)
 ·exact Has.pr hok rfl (Ky hr hC hp d)
 ·exact PRun.of rfl (zL hok hp _ d)
 ·exact Has.pr hok rfl (j8 hr hC hp hes d)
 ·
  rename_i args argTypes;split at hp
  ·rename_i x T hx hT;have hargs:args=#[x]:=ZhW.1 (by omega);have htys:argTypes=#[T]:=ZhW.1 (by omega);subst hargs htys
   have hex:execOp a.eval {dst,op:=.call {callee:=.builtin .len,args:=#[x],argTypes:=#[T]},type,pos,after,guard}=(do pure (.value (<-Builtin.len_ #[T] type #[a.eval x]))):=by
    simp[execOp,resolve,invoke,builtin]
   unfold Zdh at hp;split at hp
   ·rename_i e hT';simp only[ZgK,ZgR]at hp;obtain⟨ea,ha,rfl,rfl⟩:=hp;obtain⟨u,hu,hur⟩:=UF hr hC ha;obtain⟨z,hz⟩:=hes _ (List.Mem.head _);have hz0:=hz;simp only[eval,hu,ZgS]at hz;exact Has.pr hok hex (Z3M (x:=u) hz0 (R4 (Z8t hz hur hT') []) _)
   ·rename_i n e hT';simp only[ZgH,ZgR]at hp;obtain⟨rfl,rfl⟩:=hp;refine Has.pr hok hex ⟨.int .i64 n,?_,_,rfl,.int _ _⟩;simp[Builtin.len_,Zhk hT',goInt]
   ·rename_i k e hT';simp only[ZgK,ZgR]at hp;obtain⟨ea,ha,rfl,rfl⟩:=hp;obtain⟨u,hu,hur⟩:=UF hr hC ha;obtain⟨z,hz⟩:=hes _ (List.Mem.head _);have hz0:=hz;simp only[eval,hu,ZgS]at hz;exact Has.pr hok hex (Z3M (x:=u) hz0 (R4 (Z6F hz hur hT') []) _)
   grind
  grind
 ·rename_i args _;split at hp
  ·rename_i x y hx;have hargs:args=#[x,y]:=ZhW.1 (by omega);subst hargs;simp only[pkMM,ZgU,Zhr,ZgI,ZgK,ZgR]at hp;obtain⟨ea,ha,eb,hb,rfl,rfl⟩:=hp;obtain⟨u,hu,hur⟩:=UF hr hC ha;obtain⟨v,hv,hvr⟩:=UF hr hC hb;obtain⟨z,hz⟩:=hes _ (List.Mem.head _);have hz0:=hz;simp only[eval,hu,hv,ZgS]at hz;exact Has.pr hok (by simp[execOp,resolve,invoke,builtin];rfl) (Z3M (x:=u) hz0 (R4 (Z8v hz hur hvr _ type) []) _)
  grind
 ·rename_i args _;split at hp
  ·rename_i x y hx;have hargs:args=#[x,y]:=ZhW.1 (by omega);subst hargs;simp only[pkMM,Zhp,ZgI,ZgK,ZgR]at hp;obtain⟨ea,ha,eb,hb,rfl,rfl⟩:=hp;obtain⟨u,hu,hur⟩:=UF hr hC ha;obtain⟨v,hv,hvr⟩:=UF hr hC hb;obtain⟨z,hz⟩:=hes _ (List.Mem.head _);have hz0:=hz;simp only[eval,hu,hv,ZgS]at hz;exact Has.pr hok (by simp[execOp,resolve,invoke,builtin];rfl) (Z3M (x:=u) hz0 (R4 (Z8u hz hur hvr _ type) []) _)
  grind
 ·rename_i args argTypes;split at hp
  ·rename_i x y T U hx hT;have hargs:args=#[x,y]:=ZhW.1 (by omega);have htys:argTypes=#[T,U]:=ZhW.1 (by omega);subst hargs htys;exact PRun.of (by simp[execOp,resolve,invoke,builtin]) (j5 (ty:=type) hr hC hp hes _ d hd)
  grind
 grind
end
end Vm
namespace Vm
open Go
open Go.RowKit (Below)
theorem Su:∀ {g:Gam} {t:Nat},t∉Zz g->g.at t=([],.no)
 | [],t,_=>rfl
 | (u,x)::g,t,ht=>by
   simp only[Zz,Zha,Zh0,not_or]at ht;simp only[Gam.at];rw[if_neg (λe=>ht.1 e.symm)];exact Su ht.2
theorem Z1E:∀ {g:Gam} {t:Nat},t∈Zz g->(t,g.at t)∈g
 | [],t,ht=>by simp[Zz]at ht
 | (u,x)::g,t,ht=>by
   simp only[Gam.at];by_cases hu:u=t
   ·subst hu;simp
   ·rw[if_neg hu]
    have:t∈Zz g:=by
     simp only[Zz,Zha,Zh0]at ht;exact ht.resolve_left λe=>hu e.symm
    exact Zhb _ (Z1E this)
theorem Y3:∀(a b:Gam) (t:Nat),(a++b).at t=if t∈Zz a then a.at t else b.at t
 | [],b,t=>by rfl
 | (u,x)::a,b,t=>by
   simp only[ZhX,Gam.at];by_cases hu:u=t
   ·grind [Zz]
   ·rw[if_neg hu,if_neg hu,Y3 a b t]
    grind [Zz,List.map]
theorem Qf{ps rb fz:List Nat}{g:Gam}{t:Nat}(ht:t∈Zz (Wh ps rb fz g)):(Wh ps rb fz g).at t=([],.no):=by
 grind [Z1E,Wh,Option.some.injEq,Prod.mk.injEq]
theorem Z5x{ps rb fz:List Nat}{g:Gam}{t:Nat}(ht:t∉Zz (Wh ps rb fz g)){x:Zi×TK}(hx:(t,x)∈g):calm ps rb fz x.2=true:=by
 by_cases hc:calm ps rb fz x.2=true
 ·exact hc
 ·exfalso;apply ht;simp only[Zz,Wh,ZgX,Zjq];exact⟨(t,[],.no),⟨(t,x),hx,by simp[hc]⟩,rfl⟩
theorem Z04(ps rb fz:List Nat):calm ps rb fz .no=true:=by simp[calm,XC,leads,SN]
theorem Ld{ps rb fz:List Nat}{g:Gam}{t:Nat}(ht:t∉Zz (Wh ps rb fz g)):calm ps rb fz (g.at t).2=true:=by
 grind [Zz,Z5x,Z1E,Su,Z04]
theorem Vc{fz:List Nat}{g:Gam}:Zz (Xk fz g)=fz:=by
 simp only[Zz,Xk,Zj5]
 conv=>rhs;rw[<-List.map_id fz]
 rfl
theorem Ui:∀ {fz:List Nat} {g:Gam} {t:Nat},t∈fz->(Xk fz g).at t=((g.at t).1,T6 (g.at t).2)
 | [],g,t,ht=>by simp at ht
 |p::fz,g,t,ht=>by
  simp only[Xk,Zha,Gam.at];by_cases hp:p=t
  ·grind
  ·rw[if_neg hp];exact Ui ((Zh0.1 ht).resolve_left λe=>hp e.symm)
def GH.thaw(h:GH)(fz:List Nat):GH:= {F:=λb=>h.F b\/∃p∈fz,∃i,h.bl p (i+1)=some b,bl:=λp i=>if p∈fz/\i≠0 then none else h.bl p i,K:=h.K}
section
variable {c:Ctx}{B:Nat}{G:Nat->Prop}{s:St}{a:Act}{w w':World}{h h':GH}{g:Gam}{C:Zi}{fz:List Nat}
theorem Ud(hok:Ok B G w h)(fz:List Nat):Ok B G w (h.thaw fz)/\Step B [] [] fz w w h (h.thaw fz):=by
 refine⟨⟨hok.base,λb hb=> ?_,λb hb=> ?_,λb hb=>.inl (hok.g_F b hb),λt i b hb=> ?_,λt i u j b hb hb'=> ?_,hok.k_lt,λt i b hb=> ?_,λb hb=> ?_⟩,
  ZhA _ _,λb hb _=>rfl,λb hb=>.inl hb,λt _ ht=> ?_,λt _=> ?_,λt i b _ ht hb=>.inr ⟨t,ht,i,hb⟩,rfl⟩
 ·rcases hb with hb|⟨p,_,i,hi⟩
  ·exact hok.f_lt b hb
  ·exact(hok.b_lt p (i+1) b hi).2.1
 ·rcases hb with hb|⟨p,_,i,hi⟩
  ·exact hok.f_or b hb
  ·exact .inr (hok.b_lt p (i+1) b hi).1
 ·simp only[GH.thaw]at hb;split at hb
  ·cases hb
  ·rename_i hn;obtain⟨h1,h2,h3⟩:=hok.b_lt t i b hb;refine⟨h1,h2,λhF=> ?_⟩;rcases hF with hF|⟨p,hp,j,hj⟩
   ·exact h3 hF
   ·obtain⟨rfl,rfl⟩:=hok.inj t i p (j+1) b hb hj;simp_all
 ·simp only[GH.thaw]at hb hb';split at hb<;>split at hb'<;>first|(cases hb;done)|(cases hb';done)|exact hok.inj t i u j b hb hb'
 ·simp only[GH.thaw]at hb;split at hb
  ·cases hb
  ·exact hok.k_bl t i b hb
 ·rcases hb with hb|⟨p,_,i,hi⟩
  ·exact hok.k_F b hb
  ·exact .inr (hok.k_bl p (i+1) b hi)
 ·simp_all[GH.thaw]
 ·simp[GH.thaw]
theorem zX{sh:List Nat}(hsub:∀p∈sh,p∈fz):∀b,h.ext sh b->(h.thaw fz).F b:=by
 intro b hb;rcases hb with hb|⟨p,hp,i,hi⟩
 ·exact .inl hb
 ·exact .inr ⟨p,hsub p hp,i,hi⟩
theorem OwnV.one{P:Program}{o:Option Nat}{ty:TypeId}{x:V}{v:Value}(hv:OwnV P B w h o ty x v):x.one=true:=by
 rcases hv with ⟨l,xs,rfl,_⟩|⟨_,_,_,_,_,_,rfl,_⟩<;>rfl
theorem RelC.freeze{P:Program}{o:Option Nat}{k:CK}{e:E}{v:Value}(hr:RelC P B s w h o k e v)(hF:Same h.F w w')(hFF:∀b,h.F b->h'.F b)(ho:∀b,o=some b->w'.heap[b]?=w.heap[b]?)(hoF:∀b,o=some b->h'.F b)(o':Option Nat):
  RelC P B s w' h' o' (Zcy k) e v:=by
 cases k with
 |fz=>obtain⟨x,h0,h1,h2⟩:=hr;exact⟨x,h0,h1,h2.keep hF hFF⟩
 |own ty=>
  obtain⟨x,h0,h1⟩:=hr;have h2:=h1.keep (h':=h') hF hFF ho;exact⟨x,h0,h2.one,h2.rd (λb hb=>hb) hoF⟩
 |nil=>exact hr
 |dead=>exact hr
theorem RelK.freeze{tm tm':Nat->Option Value}{t:Nat}{v:Value}{k:TK}{ps rb:List Nat}(hk:RelK c.P B s w h tm t v k)(hs:Step B ps rb fz w w' h h')(hok:Ok B G w h)(hrb:∀t∈rb,t∈ps)
  (ht:t∉ps) (htf:t∈fz) (hcalm:calm ps rb fz k=true) (htm:∀p,p∉ps->tm' p=tm p):RelK c.P B s w' h' tm' t v (T6 k):=by
 have hF:Same h.F w w':=λb hb=>hs.F_same hok hb;cases hkk:k.owning with
 |false=>
  have:=hk.keep hs hok hrb ht (λ_=>hkk) hcalm htm;cases k<;>first|exact this|simp[TK.owning]at hkk
 |true=>
  cases k<;>first|(simp[TK.owning]at hkk;done)|skip
  ·rename_i ty e;obtain⟨x,h0,h1⟩:=hk;have h2:=h1.keep (h':=h') hF hs.F λb hb=>hs.bl_same hok ht hb;exact⟨x,h0,h2.rd (λb hb=>GH.ext_F hb) λb hb=>GH.ext_F (hs.fzF t 0 b ht htf hb)⟩
  ·rename_i cs;obtain⟨b,vs,T,h1,h2,h3,h4,h5⟩:=hk;refine⟨b,vs,T,by rw[hs.fz0 t (λhr=>ht (hrb t hr))];exact h1,h2,by rw[hs.bl_same hok ht h1];exact h3,by simpa using h4,λi ck hi=> ?_⟩;simp only[Zh2,ZgK]at hi;obtain⟨ck',hi',rfl⟩:=hi;exact(h5 i ck' hi').freeze hF hs.F (λb hb=>hs.bl_same hok ht hb) (λb hb=>hs.fzF t i b ht htf hb) _
  ·rename_i cs;obtain⟨vs,rfl,h4⟩:=hk;simp only[T6];split
   ·trivial
   ·rename_i hd;obtain⟨x,hx,_,hrd⟩:=h4.rd (G':=λb=>h.F b\/∃i,h.bl t (i+1)=some b) (by simpa using hd) (λb hb=>.inl hb) (λ_ i b hb=>.inr ⟨i,hb⟩);refine⟨_,hx,hrd.keep (λb hb=> ?_) λb hb=> ?_⟩
    ·rcases hb with hb|⟨i,hi⟩
     ·exact hF b hb
     ·exact hs.bl_same hok ht hi
    ·rcases hb with hb|⟨i,hi⟩
     ·exact GH.ext_F (hs.F b hb)
     ·exact GH.ext_F (hs.fzF t i b ht htf hi)
theorem RelG.step{a':Act}{ps rb:List Nat}{d:Gam}(hr:RelG c B G s a w h g)(hs:Step B ps rb fz w w' h h')(hok':Ok B G w' h')(hrb:∀t∈rb,t∈ps)(htm:∀p,p∉ps->a'.tmps[p]?=a.tmps[p]?)
  (hps:∀t∈ps,t∈Zz d)
  (hd:∀t∈Zz d,(holds s (ixC c (d.at t).1)->(d.at t).2.isNo=false->∃v,a'.tmps[t]?=some v/\RelK c.P B s w' h' (λp=>a'.tmps[p]?) t v (d.at t).2)/\(¬holds s (ixC c (d.at t).1)->a'.tmps.getD t undef=undef)):
  RelG c B G s a' w' h' (d++Wh ps rb fz g++Xk fz g++g):=by
 have key:∀t,(holds s (ixC c ((d++Wh ps rb fz g++Xk fz g++g).at t).1)->((d++Wh ps rb fz g++Xk fz g++g).at t).2.isNo=false->∃v,a'.tmps[t]?=some v/\RelK c.P B s w' h' (λp=>a'.tmps[p]?) t v ((d++Wh ps rb fz g++Xk fz g++g).at t).2)/\
   (¬holds s (ixC c ((d++Wh ps rb fz g++Xk fz g++g).at t).1)->a'.tmps.getD t undef=undef):=by
  intro t;rw[Y3,Y3,Y3];simp only[Zz,ZhU,Zh9];by_cases h1:t∈Zz d
  ·have h1':t∈List.map (·.1) d:=h1;simp_all
  ·have h1':t∉List.map (·.1) d:=h1;by_cases h2:t∈Zz (Wh ps rb fz g)
   ·have h2':t∈List.map (·.1) (Wh ps rb fz g):=h2;simp only[h1',h2',false_or,true_or,Zhp,Zhr,Qf h2];simp_all[TK.isNo,absurd,Y4,ixC]
   ·have h2':t∉List.map (·.1) (Wh ps rb fz g):=h2;have hc:=Ld h2;have htp:t∉ps:=λhp=>h1 (hps t hp);by_cases h3:t∈fz
    ·have h3':t∈List.map (·.1) (Xk fz g):=by have:=Vc (fz:=fz) (g:=g);unfold Zz at this;rw[this];exact h3
     simp only[h1',h2',h3',false_or,Zhp,Zhr,Ui h3];refine⟨λhC hn=> ?_,λhn=> ?_⟩
     ·have hn':(g.at t).2.isNo=false:=by
       cases hk:(g.at t).2<;>first|rfl|simp_all[T6,TK.isNo]
      obtain⟨v,hv,hk⟩:=hr.at_ t hC hn';exact⟨v,by simp_all,hk.freeze hs hr.ok hrb htp h3 hc htm⟩
     ·have:=hr.skip t hn;simp_all
    ·have h3':t∉List.map (·.1) (Xk fz g):=by have:=Vc (fz:=fz) (g:=g);unfold Zz at this;rw[this];exact h3
     simp only[h1',h2',h3',false_or,Zhr];refine⟨λhC hn=> ?_,λhn=> ?_⟩
     ·obtain⟨v,hv,hk⟩:=hr.at_ t hC hn;exact⟨v,by simp_all,hk.keep hs hr.ok hrb htp (λhf=>absurd hf h3) hc htm⟩
     ·have:=hr.skip t hn;simp_all
 exact⟨hok',λt=>(key t).1,λt=>(key t).2⟩
theorem RelG.frz(hr:RelG c B G s a w h g)(fz:List Nat):RelG c B G s a w (h.thaw fz) (Vm.frz fz g):=by
 obtain⟨hok,hst⟩:=Ud hr.ok fz;have:=hr.step (d:=[]) (a':=a) hst hok (λ_ h=>h) (λ_ _=>rfl) (λt ht=>by simp at ht) (λt ht=>by simp[Zz]at ht);simpa[Vm.frz]using this
end
end Vm
namespace Vm
open Go
open Go.RowKit (Below)
def GH.put(h:GH)(d:Nat)(f:Nat->Option Nat)(r:Nat->Nat->Option Nat):GH:= {F:=h.F,bl:=λu=>if u=d then f else r u,K:=h.K}
def lost(h:GH)(ts:List Nat)(u:Nat)(i:Nat):Option Nat:=if u∈ts then none else h.bl u i
section
variable {c:Ctx}{B:Nat}{G:Nat->Prop}{s:St}{a a':Act}{w w':World}{h h':GH}{g:Gam}{C:Zi}{fz ps rb:List Nat}
theorem Ok.put(hok:Ok B G w h)(hsz:w.heap.size<=w'.heap.size){d:Nat}{f:Nat->Option Nat}{r:Nat->Nat->Option Nat}
  (hr:∀u i b,u≠d->r u i=some b->h.bl u i=some b) (hf:∀i b,f i=some b->(w.heap.size<=b/\b<w'.heap.size)\/∃t j,h.bl t j=some b)
  (hinj:∀i j b,f i=some b->f j=some b->i=j) (hdis:∀i b u j,u≠d->f i=some b->r u j=some b->False):Ok B G w' (h.put d f r):=by
 refine⟨Zhc hok.base hsz,λb hb=>ZgV (hok.f_lt b hb) hsz,hok.f_or,hok.g_F,λt i b hb=> ?_,λt i u j b hb hb'=> ?_,λb hb=>ZgV (hok.k_lt b hb) hsz,λt i b hb hK=> ?_,hok.k_F⟩
 ·simp only[GH.put]at hb
  have old:∀t j,h.bl t j=some b->B<=b/\b<w'.heap.size/\¬h.F b:=λt j hj=>by
   obtain⟨h1,h2,h3⟩:=hok.b_lt t j b hj
   grind
  split at hb
  ·rcases hf i b hb with ⟨h1,h2⟩|⟨t,j,hj⟩
   ·exact⟨Zhc hok.base h1,h2,λhF=>by have:=hok.f_lt _ hF;omega⟩
   ·exact old t j hj
  ·rename_i hne;exact old t i (hr t i b hne hb)
 ·simp only[GH.put]at hb hb';split at hb<;>split at hb'
  ·grind
  ·grind
  ·grind
  ·rename_i e1 e2;exact hok.inj t i u j b (hr t i b e1 hb) (hr u j b e2 hb')
 ·simp only[GH.put]at hb;split at hb
  ·rcases hf i b hb with ⟨h1,h2⟩|⟨t,j,hj⟩
   ·have:=hok.k_lt _ hK;omega
   ·exact hok.k_bl t j b hj hK
  ·rename_i hne;exact hok.k_bl t i b (hr t i b hne hb) hK
theorem ZR{ts:List Nat}{u i b:Nat}(hl:lost h ts u i=some b):h.bl u i=some b/\u∉ts:=by
 simp_all[lost]
theorem Z2b{ts:List Nat}{u:Nat}(hu:u∉ts):lost h ts u=h.bl u:=by
 grind [lost]
theorem XH(hb:Below B w w')(hsame:∀b,b<w.heap.size->(∀p∈ps,∀i,h.bl p i≠some b)->w'.heap[b]?=w.heap[b]?){d:Nat}{f:Nat->Option Nat}{ts:List Nat}
  (hd:d∈ps) (hts:∀t∈ts,t∈ps/\t∈rb) (h0:d∉rb->f 0=h.bl d 0):Step B ps rb [] w w' h (h.put d f (lost h ts)):=by
 refine⟨hb,hsame,λ_ hb=>hb,λt ht _=> ?_,λt ht=> ?_,λ_ _ _ _ hm=>(by simp at hm),rfl⟩
 ·have h1:t≠d:=λe=>ht (e▸hd);simp only[GH.put,if_neg h1]
  grind [Z2b]
 ·simp only[GH.put];split
  ·simp_all
  ·rw[Z2b λe=>ht (hts t e).2]
theorem Step.after(h2:Step B ps rb [] w w' (h.thaw fz) h'):Step B ps rb fz w w' h h':=by
 have hbl:∀p i b,(h.thaw fz).bl p i=some b->h.bl p i=some b:=by
  intro p i b hb;simp only[GH.thaw]at hb;split at hb
  ·cases hb
  ·exact hb
 refine⟨h2.below,λb hb hn=>h2.same b hb λp hp i hi=>hn p hp i (hbl p i b hi),λb hb=>h2.F b (.inl hb),λt ht htf=> ?_,λt ht=> ?_,λt i b _ htf hb=>h2.F b (.inr ⟨t,htf,i,hb⟩),h2.K⟩
 ·rw[h2.bl t ht (by simp)]
  grind [GH.thaw]
 ·rw[h2.fz0 t ht];simp[GH.thaw]
structure MPost (c:Ctx) (B:Nat) (G:Nat->Prop) (s:St) (a':Act) (w w':World) (h h':GH) (m:MS):Prop where
 step:Step B m.ps m.rb m.fz w w' h h'
 ok:Ok B G w' h'
 ent:∀t∈Zz m.d,(m.d.at t).1=[]/\((m.d.at t).2.isNo=false->∃u,a'.tmps[t]?=some u/\RelK c.P B s w' h' (λp=>a'.tmps[p]?) t u (m.d.at t).2)
theorem Yb{d:Nat}{k:TK}{ts:List Nat}(hd:∃u,a'.tmps[d]?=some u/\RelK c.P B s w' h' (λp=>a'.tmps[p]?) d u k):
  ∀t∈Zz ((d,[],k)::ts.map λt=>(t,([]:Zi),TK.no)),(Gam.at ((d,[],k)::ts.map λt=>(t,([]:Zi),TK.no)) t).1=[]/\
   ((Gam.at ((d,[],k)::ts.map λt=>(t,([]:Zi),TK.no)) t).2.isNo=false->∃u,a'.tmps[t]?=some u/\RelK c.P B s w' h' (λp=>a'.tmps[p]?) t u (Gam.at ((d,[],k)::ts.map λt=>(t,([]:Zi),TK.no)) t).2):=by
 intro t ht;simp only[Gam.at];by_cases hdt:d=t
 ·simp_all
 ·rw[if_neg hdt]
  have:∀(ts:List Nat),Gam.at (ts.map λt=>(t,([]:Zi),TK.no)) t=([],.no):=by
   intro ts
   induction ts with
   |nil=>rfl
   |cons u ts ih=>simp_all[Zha,Gam.at,ite_self]
  rw[this];exact⟨rfl,λhn=>by simp[TK.isNo]at hn⟩
theorem Wp{d:Nat}(hd:d<a.tmps.size)(v:Value):(a.put (some d) v).tmps[d]?=some v:=by
 simp[Act.put,hd]
theorem JI{d t:Nat}(hd:t≠d)(v:Value):(a.put (some d) v).tmps[t]?=a.tmps[t]? :=by
 simp[Act.put,ZhC (ZiO hd)]
theorem Zb(s:St)(c:Ctx):holds s (ixC c []):=Y4 s
theorem Za6(hr:RelG c B G s a w h g){fl:Bool}{x:Operand}{b:E×List Nat}(hk:qo g fl x=some b){z:V}(hz:eval s b.1=some z):Rd w (h.thaw b.2).F z (a.eval x):=by
 simp only[qo,ZgK]at hk;obtain⟨a0,ha,rfl⟩:=hk;obtain⟨y,hy,hyr⟩:=UF hr (Zb s c) ha;obtain⟨z',hz',hzr⟩:=J5 (fl:=fl) (b:=a0) hy hyr ⟨z,hz⟩;rw[hz]at hz';cases hz';exact hzr.mono (zX λp hp=>hp)
theorem Za7(hr:RelG c B G s a w h g){fl ag:Bool}{n:Nat}{x:Operand}{b:E×List Nat}(hk:qo g fl x=some b){z:V}(hz:eval s (tyE ag n b.1)=some z):
  (∀l,z≠.tup l)/\(ag=true->z.cells.length=n)/\(ag=false->z.one=true)/\Rd w (h.thaw b.2).F z (a.eval x):=by
 grind [Qu,Za6]
theorem OwnV.mono{P:Program}{o o':Option Nat}{ty:TypeId}{x:V}{v:Value}(hv:OwnV P B w h o ty x v)(hF:∀b,h.F b->h'.F b)(ho:o=o'):OwnV P B w h' o' ty x v:=by
 subst ho;exact hv.keep (.refl _ _) hF λ_ _=>rfl
theorem Z22(hr:RelG c B G s a w h g){ty:TypeId}{d t:Nat}{e:E}{v:Value}(hd:d<a.tmps.size)(htd:t≠d){y:V}(hy:eval s e=some y)(hown:OwnV c.P B w h (h.bl t 1) ty y v):
  ∃h',MPost c B G s (a.put (some d) v) w w h h' {d:=[(d,[],.own ty e),(t,[],.no)],ps:=[d,t],rb:=[d,t],fz:=[],es:=[]}:=by
 refine⟨h.put d (λi=>if i=1 then h.bl t 1 else none) (lost h [t]),XH (ZhA _ _) (λ_ _ _=>rfl) (by simp) (λu hu=>by simp at hu;grind) (λhn=>by simp at hn),
  hr.ok.put (ZgP _) (λu i b _ hb=>(ZR hb).1) (λi b hb=> ?_) (λi j b hi hj=> ?_) (λi b u j hu hi hj=> ?_),Yb (ts:=[t]) ⟨v,Wp hd v,y,hy,?_⟩⟩
 ·grind
 ·simp_all
 ·split at hi
  ·obtain⟨h1,h2⟩:=ZR hj;exact h2 (by simp[(hr.ok.inj t 1 u j b hi h1).1])
  ·cases hi
 ·exact hown.mono (λ_ hb=>hb) (by simp[GH.put])
theorem Z7X(hr:RelG c B G s a w h g){d t:Nat}{cs:List (CK×E)}{v:Value}(hd:d<a.tmps.size)(htd:t≠d)(hk:RelK c.P B s w h (λp=>a.tmps[p]?) t v (.mem cs)):
  ∃h',MPost c B G s (a.put (some d) v) w w h h' {d:=[(d,[],.mem cs),(t,[],.no)],ps:=[d,t],rb:=[d,t],fz:=[],es:=[]}:=by
 obtain⟨b,vs,T,h1,rfl,h2,h3,h4⟩:=hk
 refine⟨h.put d (λi=>h.bl t i) (lost h [t]),XH (ZhA _ _) (λ_ _ _=>rfl) (by simp) (λu hu=>by simp at hu;grind) (λhn=>by simp at hn),
  hr.ok.put (ZgP _) (λu i b _ hb=>(ZR hb).1) (λi b hb=>.inr ⟨t,i,hb⟩) (λi j b hi hj=>(hr.ok.inj t i t j b hi hj).2) (λi b u j hu hi hj=> ?_),Yb (ts:=[t]) ⟨_,Wp hd _,b,vs,T,by simp[GH.put,h1],rfl,h2,h3,λi ck hi=> ?_⟩⟩
 ·obtain⟨h5,h6⟩:=ZR hj;exact h6 (by simp[(hr.ok.inj t i u j b hi h5).1])
 ·have:=(h4 i ck hi).keep (h':=h.put d (λi=>h.bl t i) (lost h [t])) (w':=w) (.refl _ _) (λ_ hb=>hb) λ_ _=>rfl;simp_all[GH.put]
def GH.yield(h:GH)(d p:Nat):GH:= {F:=λb=>h.F b\/∃i,h.bl p i=some b,bl:=λu i=>if u=p\/u=d then none else h.bl u i,K:=h.K}
theorem Z7B(hr:RelG c B G s a w h g){d p:Nat}{cs:List (CK×E)}(hd:d<a.tmps.size)(hpd:p≠d)(hm:memOf g p=some cs)(hdd:Y9 cs=false){z:V}(hz:eval s (.pt none (cs.map (·.2)))=some z){v:Value}(hv:∃b,h.bl p 0=some b/\v=.pointer (some ⟨b,0,none⟩)):
  ∃h',MPost c B G s (a.put (some d) v) w w h h' {d:=[(d,[],.val (.pt none (cs.map (·.2))) []),(p,[],.no)],ps:=[d,p],rb:=[d,p],fz:=[],es:=[.pt none (cs.map (·.2))]}:=by
 obtain⟨b,vs,T,h1,_,h2,h3⟩:=hr.memOf hm;obtain⟨b',h1',rfl⟩:=hv;rw[h1]at h1';cases h1';have hok:=hr.ok
 have hbl:∀u i x,(h.yield d p).bl u i=some x->h.bl u i=some x/\u≠p:=by
  intro u i x hx;simp only[GH.yield]at hx;split at hx
  ·cases hx
  ·simp_all
 refine⟨h.yield d p,⟨ZhA _ _,λ_ _ _=>rfl,λb hb=>.inl hb,λt ht _=> ?_,λt ht=> ?_,λ_ _ _ _ hm=>(by simp at hm),rfl⟩,⟨hok.base,λb hb=> ?_,λb hb=> ?_,λb hb=>.inl (hok.g_F b hb),λt i b hb=> ?_,λt i u j b hb hb'=>hok.inj t i u j b (hbl _ _ _ hb).1 (hbl _ _ _ hb').1,hok.k_lt,λt i b hb=>hok.k_bl t i b (hbl _ _ _ hb).1,λb hb=> ?_⟩,
  Yb (ts:=[p]) ⟨_,Wp hd _,z,hz,Jq h1 h2 h3 hdd hz (λb hb=>.inl (.inl hb)) λi b hb=>.inl (.inr ⟨i,hb⟩)⟩⟩
 ·simp_all[Zh0,Zia,Zjx,not_or,GH.yield]
 ·simp_all[Zh0,Zia,Zjx,not_or,GH.yield]
 ·rcases hb with hb|⟨i,hi⟩
  ·exact hok.f_lt b hb
  ·exact(hok.b_lt p i b hi).2.1
 ·rcases hb with hb|⟨i,hi⟩
  ·exact hok.f_or b hb
  ·exact .inr (hok.b_lt p i b hi).1
 ·obtain⟨hb1,hne⟩:=hbl _ _ _ hb;obtain⟨q1,q2,q3⟩:=hok.b_lt t i b hb1;refine⟨q1,q2,λhF=> ?_⟩;rcases hF with hF|⟨j,hj⟩
  grind
  ·exact hne (hok.inj t i p j b hb1 hj).1
 ·rcases hb with hb|⟨i,hi⟩
  ·exact hok.k_F b hb
  ·exact .inr (hok.k_bl p i b hi)
theorem RF(hr:RelG c B G s a w h g){ty:TypeId}{d:Nat}{x:Operand}{m:MS}(hd:d<a.tmps.size)(hm:Qg c g ty d x=some m)(hes:∀e∈m.es,∃z,eval s e=some z):
  ∃h',MPost c B G s (a.put (some d) (a.eval x)) w w h h' m:=by
 unfold Qg at hm;split at hm
 ·rename_i t ty' e hk;split at hm
  ·cases hm
  ·rename_i hne;have htd:t≠d:=λe=>hne (.inl e);simp only[ZgH]at hm;subst hm;obtain⟨v,hv,⟨y,hy,hown⟩,_⟩:=hr.look (Zb s c) (show look g [] t=_ from hk) rfl
   grind [Act.eval_tmp,Z22]
 ·rename_i t cs hk;split at hm
  ·cases hm
  ·rename_i hne;have htd:t≠d:=λe=>hne (.inl e);simp only[ZgH]at hm;subst hm;obtain⟨v,hv,hrel,_⟩:=hr.look (Zb s c) (show look g [] t=_ from hk) rfl
   grind [Act.eval_tmp,Z7X]
 ·rename_i t p hk;split at hm
  ·rename_i hcond;simp only[ZgM,ZjI,ne_eq]at hcond;simp only[ZgI]at hm;obtain⟨cs,hm1,hm⟩:=hm;split at hm
   ·cases hm
   ·rename_i hdd;simp only[ZgH]at hm;subst hm;obtain⟨z,hz⟩:=hes _ (List.Mem.head _);obtain⟨v,hv,hrel,_⟩:=hr.look (Zb s c) (show look g [] t=_ from hk) rfl;rw[Act.eval_tmp a t v hv];exact Z7B hr hd hcond.2 hm1 (by simp_all) hz hrel
  ·cases hm
 ·rename_i hk;simp only[ZgH]at hm;subst hm;rw[SZ hr (Zb s c) hk]
  exact⟨h.put d (λ_=>none) (lost h []),XH (ZhA _ _) (λ_ _ _=>rfl) (by simp) (λu hu=>by simp at hu) (λhn=>by simp at hn),
   hr.ok.put (ZgP _) (λu i b _ hb=>(ZR hb).1) (λi b hb=>by cases hb) (λi j b hi hj=>by cases hi) (λi b u j hu hi hj=>by cases hi),Yb (ts:=[]) ⟨_,Wp hd _,rfl⟩⟩
 ·split at hm
  ·rename_i p ty' e hho;simp only[ZgH]at hm;subst hm;unfold Z21 at hho;split at hho
   ·rename_i p' hk;split at hho
    ·rename_i hcond;simp only[ZgM,ZjI,ne_eq]at hcond;simp only[ZgK,ZgR]at hho;obtain⟨⟨q1,q2⟩,hho,rfl,rfl,rfl⟩:=hho;obtain⟨v,hv,y,hy,hown⟩:=hr.ownOf hho;have hrel:a.tmps[p']?=some (a.eval _):=ZQ hr (Zb s c) hk rfl 0
     grind [Option.some.injEq,Z22]
    grind
   grind
  ·simp only[ZgK]at hm;obtain⟨b,hb,rfl⟩:=hm;obtain⟨z,hz⟩:=hes b.1 (by simp);have hrd:=Za6 hr hb hz;obtain⟨hok1,_⟩:=Ud hr.ok b.2
   exact⟨(h.thaw b.2).put d (λ_=>none) (lost (h.thaw b.2) []),Step.after (XH (ZhA _ _) (λ_ _ _=>rfl) (by simp) (λu hu=>by simp at hu) (λhn=>by simp at hn)),
    hok1.put (ZgP _) (λu i b _ hb=>(ZR hb).1) (λi b hb=>by cases hb) (λi j b hi hj=>by cases hi) (λi b u j hu hi hj=>by cases hi),Yb (ts:=[]) ⟨_,Wp hd _,z,hz,hrd.mono λb hb=>GH.ext_F hb⟩⟩
def Xh(cur:Array Value)(o:Nat)(new:Array Value):Array Value:=(cur.toList.take o++new.toList++cur.toList.drop (o+new.size)).toArray
theorem Tj{cur new:Array Value}{o:Nat}(hle:o+new.size<=cur.size):(Xh cur o new).size=cur.size:=by
 grind [Xh]
theorem JR{cur new:Array Value}{o:Nat}(hle:o+new.size<=cur.size){i:Nat}(hi:i<new.size):(Xh cur o new).getD (o+i) undef=new.getD i undef:=by
 simp only[Xh,ZgN,ZiK]
 grind
theorem Ut{cur new:Array Value}{o:Nat}(hle:o+new.size<=cur.size){i:Nat}(hi:i<o\/o+new.size<=i):(Xh cur o new).getD i undef=cur.getD i undef:=by
 simp only[Xh,ZgN,ZiK]
 grind
theorem U9{P:Program}{T:TypeId}(hT:okT P T=true){b o:Nat}{cur:Array Value}{ty:TypeId}(hh:w.heap[b]?=some (.cells cur ty (0,0))){v:Value}(hn:v.cells.size=P.cellsOf T)(hone:∀(i:Nat),i<v.cells.size->(v.cells.getD i undef).oneCell'=true)(hle:o+v.cells.size<=cur.size):
  (Instr.storeAt T (.pointer (some ⟨b,o,none⟩)) v).run P w=.ok () (w.setRow b (Xh cur o v.cells)):=by
 obtain⟨d,i,hd,hi,hs,_⟩:=WP hT
 have hst:=run_storeCells_at (P:=P) b o ty v.cells.toList 0 cur w hh (by omega) (λu hu=>by
  obtain⟨j,hj⟩:=Zh8 hu;have hlt:j<v.cells.size:=by simpa using(ZgL.1 hj).1
  have:=hone j hlt
  have hget:v.cells.getD j undef=u:=by
   simp only[ZgN];rw[Zi0]at hj;rw[hj];rfl
  simp_all)
 simp_all[ZiQ,ZiR,Instr.storeAt,Instr.sureAddr,storeVar,YI,Xh]
theorem VF(w:World){b:Nat}(hb:B<=b)(cs:Array Value):Below B w (w.setRow b cs):=
 ⟨rfl,rfl,rfl,by simp,λk hk=>Zj3 w b k cs (by omega)⟩
theorem Tk(hok:Ok B G w h){b:Nat}(cs:Array Value){G':Nat->Prop}(hn:∀x,G' x->x≠b):Same G' w (w.setRow b cs):=λx hx=>Zj3 w b x cs (hn x hx)
theorem Wq{cs new:List (CK×E)}{o:Nat}(hle:o+new.length<=cs.length):(Uw cs o new).length=cs.length/\∀(i:Nat) (ck:CK×E),(Uw cs o new)[i]?=some ck->(o<=i/\i<o+new.length/\new[i-o]?=some ck)\/((i<o\/o+new.length<=i)/\cs[i]?=some ck):=by
 unfold Uw;refine⟨by simp;omega,λi ck hi=> ?_⟩;by_cases h1:i<o
 ·grind
 ·by_cases h2:i<o+new.length
  ·grind
  ·right;rw[Zh6 (by simp;omega),Zht]at hi
   grind
theorem K6(hok:Ok B G w h){p o b:Nat}{cs new:List (CK×E)}{cur row:Array Value}{ty:TypeId}(hbl:h.bl p 0=some b)(hh:w.heap[b]?=some (.cells cur ty (0,0)))(hcs:RelCs c.P B s w h p cs cur)
  (hsz:row.size=cur.size) (hle:o+new.length<=cs.length) (hrow:∀i,i<o\/o+new.length<=i->row.getD i undef=cur.getD i undef) {ts:List Nat} {f:Nat->Option Nat} (hpt:p∉ts)
  (hf0:f 0=h.bl p 0) (hfout:∀i,i<o\/o+new.length<=i->f (i+1)=h.bl p (i+1)) (hfin:∀i x,i<new.length->f (o+i+1)=some x->h.bl p (o+i+1)=some x\/∃t∈ts,∃j,h.bl t j=some x)
  (hinj:∀i j x,f i=some x->f j=some x->i=j)
  (hnew:∀(i:Nat) (ck:CK×E),new[i]?=some ck->RelC c.P B s w h (f (o+i+1)) ck.1 ck.2 (row.getD (o+i) undef)) (tm:Nat->Option Value):
  ∃h',Ok B G (w.setRow b row) h'/\Step B (p::ts) ts [] w (w.setRow b row) h h'/\
   RelK c.P B s (w.setRow b row) h' tm p (.pointer (some ⟨b,0,none⟩)) (.mem (Uw cs o new)):=by
 obtain⟨hbB,hblt,hbF⟩:=hok.b_lt p 0 b hbl;obtain⟨hsl,hget⟩:=Wq hle;have hFs:Same h.F w (w.setRow b row):=Tk hok _ λx hx e=>hbF (e▸hx)
 have hfb:∀i x,f (i+1)=some x->x≠b/\((h.bl p (i+1)=some x)\/∃t∈ts,∃j,h.bl t j=some x):=by
  intro i x hx
  have h2:h.bl p (i+1)=some x\/∃t∈ts,∃j,h.bl t j=some x:=by
   by_cases hin:o<=i/\i<o+new.length
   ·have:=hfin (i-o) x (by omega)
    grind
   ·grind
  refine⟨λe=> ?_,h2⟩;subst e;rcases h2 with h2|⟨t,ht,j,hj⟩
  ·grind
  ·grind
 refine⟨h.put p f (lost h ts),hok.put (by simp) (λu i x _ hx=>(ZR hx).1) (λi x hx=>.inr ?_) hinj (λi x u j hu hi hj=> ?_),
  XH (VF w hbB _) (λx hx hn=>Zj3 w b x _ λe=>hn p (by simp) 0 (e▸hbl)) (by simp) (λt ht=>⟨by simp[ht],ht⟩) (λ_=>hf0),b,row,ty,by grind [GH.put],rfl,setRow_heap w b cur _ ty (0,0) hh,by rw[hsz,hcs.1,hsl],λi ck hi=> ?_⟩
 ·cases i with
  |zero=>grind
  |succ i=>
   grind
 ·obtain⟨k1,k2⟩:=ZR hj;cases i with
  |zero=>rw[hf0]at hi;exact hu (hok.inj u j p 0 x k1 hi).1
  |succ i=>
   rcases(hfb i x hi).2 with h2|⟨t,ht,j',hj'⟩
   ·exact hu (hok.inj u j p (i+1) x k1 h2).1
   ·exact k2 ((hok.inj u j t j' x k1 hj').1▸ht)
 ·have hbl':(h.put p f (lost h ts)).bl p (i+1)=f (i+1):=by simp[GH.put]
  rw[hbl'];have hkeep:∀x,f (i+1)=some x->(w.setRow b row).heap[x]?=w.heap[x]? :=λx hx=>Zj3 w b x _ (hfb i x hx).1;rcases hget i ck hi with ⟨h1,h2,h3⟩|⟨h1,h3⟩
  ·have:=hnew (i-o) ck h3;rw[show o+(i-o)=i from by omega]at this;exact this.keep hFs (λ_ hb=>hb) hkeep
  ·have:=hcs.2 i ck h3;rw[hrow i h1,hfout i h1];rw[hfout i h1]at hkeep;exact this.keep hFs (λ_ hb=>hb) hkeep
theorem U3{p o:Nat}{new:List (CK×E)}{k:TK}(hp:putM g p o new=some k):∃cs,memOf g p=some cs/\o+new.length<=cs.length/\k=.mem (Uw cs o new):=by
 grind [putM,Option.bind_eq_some_iff,Option.some.injEq]
theorem WX(hr:RelG c B G s a w h g){T:TypeId}(hT:okT c.P T=true){p o b:Nat}{new:List (CK×E)}{k:TK}(hp:putM g p o new=some k)(hbl:h.bl p 0=some b){v:Value}(hn:v.cells.size=c.P.cellsOf T)(hlen:new.length=c.P.cellsOf T)
  {ts:List Nat} {f:Nat->Option Nat} (hpt:p∉ts) (hf0:f 0=h.bl p 0) (hfout:∀i,i<o\/o+new.length<=i->f (i+1)=h.bl p (i+1)) (hfin:∀i x,i<new.length->f (o+i+1)=some x->h.bl p (o+i+1)=some x\/∃t∈ts,∃j,h.bl t j=some x)
  (hinj:∀i j x,f i=some x->f j=some x->i=j)
  (hnew:∀(i:Nat) (ck:CK×E),new[i]?=some ck->RelC c.P B s w h (f (o+i+1)) ck.1 ck.2 (v.cells.getD i undef)):
  ∃w' h',(Instr.storeAt T (.pointer (some ⟨b,o,none⟩)) v).run c.P w=.ok () w'/\Ok B G w' h'/\Step B (p::ts) ts [] w w' h h'/\∃u,a.tmps[p]?=some u/\RelK c.P B s w' h' (λp=>a.tmps[p]?) p u k:=by
 obtain⟨cs,hm,hle,rfl⟩:=U3 hp;obtain⟨b',cur,ty,h1,htm,hh,hcs⟩:=hr.memOf hm;rw[hbl]at h1;cases h1;have hle':o+v.cells.size<=cur.size:=by rw[hcs.1,hn,<-hlen];exact hle
 have hvn:v.cells.size=new.length:=by rw[hn,hlen]
 obtain⟨h',k1,k2,k3⟩:=K6 (row:=Xh cur o v.cells) hr.ok hbl hh hcs (Tj hle') hle (λi hi=>Ut hle' (by omega)) hpt hf0 hfout hfin hinj (λi ck hi=>by
  grind [JR,List.getElem?_eq_some_iff]) (λp=>a.tmps[p]?)
 refine⟨_,h',U9 hT hh hn (λi hi=> ?_) hle',k1,k2,_,htm,k3⟩;exact(hnew i new[i] (ZgJ (by omega))).cell
theorem Z8I{n:Nat}{e:E}{z:V}{v:Value}(hz:eval s e=some z)(ht:∀l,z≠.tup l)(hrd:Rd w h.F z v)(o:Option Nat){i:Nat}{ck:CK×E}(hlt:i<z.cells.length)(hi:ck=(CK.fz,E.fld e i)):RelC c.P B s w h o ck.1 ck.2 (v.cells.getD i undef):=by
 subst hi;obtain⟨hs1,hs2,hs3⟩:=hrd.cells ht;have hget:z.cells[i]?=some z.cells[i]:=ZgJ hlt;refine⟨z.cells[i],?_,hs2 _ (ZgZ _),hs3 i _ hget⟩;simp_all[eval,ZgS,fldV,Zdf,oneV,if_pos,ZgZ]
theorem S8{β:Type}{n i:Nat}{f:Nat->β}{y:β}(hi:((List.range n).map f)[i]?=some y):i<n/\y=f i:=by
 grind
theorem RG(hr:RelG c B G s a w h g){T:TypeId}(hT:okT c.P T=true)(hT1:Zq c.P T=true\/c.P.cellsOf T=1){p o:Nat}{x:Operand}{m:MS}(hm:Qh c g T p o x=some m)(hes:∀e∈m.es,∃z,eval s e=some z){b:Nat}(hbl:h.bl p 0=some b):
  ∃w' h',(Instr.storeAt T (.pointer (some ⟨b,o,none⟩)) (a.eval x)).run c.P w=.ok () w'/\MPost c B G s a w w' h h' m:=by
 have hthaw:∀fz,(h.thaw fz).bl p 0=some b:=λfz=>by simp[GH.thaw,hbl]
 unfold Qh at hm;simp only at hm;split at hm
 ·rename_i hag;split at hm
  ·rename_i t cs hk;split at hm
   ·rename_i hcond;obtain⟨hl,htp,_⟩:=hcond;simp only[ZgK]at hm;obtain⟨k,hput,rfl⟩:=hm;obtain⟨v,hv,⟨vs,rfl,hcs⟩,_⟩:=hr.look (Zb s c) (show look g [] t=_ from hk) rfl;rw[Act.eval_tmp a t _ hv]
    obtain⟨w',h',e1,e2,e3,e4⟩:=WX hr hT hput hbl (v:=.agg vs) (by show vs.size=_;rw[hcs.1,hl]) hl (ts:=[t]) (f:=λi=>if o+1<=i/\i<o+1+cs.length then h.bl t (i-o)else h.bl p i) (by simpa using ZiO htp)
     (if_neg (by omega)) (λi hi=>if_neg (by omega)) (λi x hi hx=>.inr ⟨t,by simp,_,by rw[if_pos (by omega)]at hx;exact hx⟩) (λi j x hi hj=>by
      split at hi<;>split at hj
      ·have:=(hr.ok.inj t _ t _ x hi hj).2;omega
      ·exact absurd (hr.ok.inj t _ p _ x hi hj).1 htp
      ·exact absurd (hr.ok.inj t _ p _ x hj hi).1 htp
      ·exact(hr.ok.inj p _ p _ x hi hj).2)
     (λi ck hi=>by
      have hlt:=(ZgL.1 hi).1;rw[if_pos (by omega),show o+i+1-o=i+1 from by omega];exact hcs.2 i ck hi)
    exact⟨w',h',e1,e3,e2,Yb (ts:=[t]) e4⟩
   ·cases hm
  ·simp only[ZgI,ZgK]at hm;obtain⟨b0,hb0,k,hput,rfl⟩:=hm;obtain⟨z,hz⟩:=hes _ (List.Mem.head _);obtain⟨k1,k2,k3,k4⟩:=Za7 hr hb0 hz;obtain⟨hs1,hs2,hs3⟩:=k4.cells k1
   obtain⟨w',h',e1,e2,e3,e4⟩:=WX (hr.frz b0.2) hT hput (hthaw _) (hs1.trans (k2 rfl)) (by simp) (ts:=[]) (f:=(h.thaw b0.2).bl p) (by simp) rfl (λ_ _=>rfl) (λi x _ hx=>.inl hx)
    (λi j x hi hj=>((Ud hr.ok b0.2).1.inj p i p j x hi hj).2) (λi ck hi=>by
     obtain⟨hlt,rfl⟩:=S8 hi;exact Z8I (n:=0) hz k1 k4 _ (by rw[k2 rfl];exact hlt) rfl)
   exact⟨w',h',e1,e3.after,e2,Yb (ts:=[]) e4⟩
 ·rename_i hag;have h1:c.P.cellsOf T=1:=hT1.resolve_left hag;split at hm
  ·rename_i t ty e hk;split at hm
   ·rename_i hcond;obtain⟨htp,_⟩:=hcond;simp only[ZgK]at hm;obtain⟨k,hput,rfl⟩:=hm;obtain⟨v,hv,⟨y,hy,hown⟩,_⟩:=hr.look (Zb s c) (show look g [] t=_ from hk) rfl;rw[Act.eval_tmp a t _ hv]
    have hvc:v.cells=#[v]:=by
     rcases hown with ⟨l,xs,_,_,_,⟨_,hc⟩,_⟩|⟨_,_,_,_,_,_,_,rfl,_⟩
     ·rcases hc with ⟨rfl,_⟩|⟨_,_,_,rfl,_⟩<;>rfl
     ·rfl
    obtain⟨w',h',e1,e2,e3,e4⟩:=WX hr hT hput hbl (v:=v) (by rw[hvc,h1];rfl) (by rw[h1];rfl) (ts:=[t]) (f:=λi=>if i=o+1 then h.bl t 1 else h.bl p i) (by simpa using ZiO htp)
     (if_neg (by omega)) (λi hi=>if_neg (by simp only[Zid]at hi;omega)) (λi x hi hx=>.inr ⟨t,by simp,1,by simp only[Zid]at hi;rw[if_pos (by omega)]at hx;exact hx⟩) (λi j x hi hj=>by
      split at hi<;>split at hj
      ·omega
      ·exact absurd (hr.ok.inj t _ p _ x hi hj).1 htp
      ·exact absurd (hr.ok.inj t _ p _ x hj hi).1 htp
      ·exact(hr.ok.inj p _ p _ x hi hj).2)
     (λi ck hi=>by
      cases i with
      |zero=>simp at hi;subst hi;rw[if_pos (by omega),hvc];exact⟨y,hy,hown⟩
      |succ i=>simp at hi)
    exact⟨w',h',e1,e3,e2,Yb (ts:=[t]) e4⟩
   ·cases hm
  ·rename_i hk;simp only[ZgK]at hm;obtain⟨k,hput,rfl⟩:=hm;rw[SZ hr (Zb s c) hk]
   obtain⟨w',h',e1,e2,e3,e4⟩:=WX hr hT hput hbl (v:=.slice none 0 0) (by rw[h1];rfl) (by rw[h1];rfl) (ts:=[]) (f:=h.bl p) (by simp) rfl (λ_ _=>rfl) (λi x _ hx=>.inl hx)
    (λi j x hi hj=>(hr.ok.inj p i p j x hi hj).2) (λi ck hi=>by
     cases i with
     |zero=>simp at hi;subst hi;exact⟨rfl,rfl⟩
     |succ i=>simp at hi)
   exact⟨w',h',e1,e3,e2,Yb (ts:=[]) e4⟩
  ·simp only[ZgI,ZgK]at hm;obtain⟨b0,hb0,k,hput,rfl⟩:=hm;obtain⟨z,hz⟩:=hes _ (List.Mem.head _);obtain⟨hz1,hzo⟩:=qV hz;have k4:=Za6 hr hb0 hz1;obtain⟨hs1,hs2,hs3⟩:=k4.cells (Jw hzo);rw[YN hzo]at hs1 hs3
   obtain⟨w',h',e1,e2,e3,e4⟩:=WX (hr.frz b0.2) hT hput (hthaw _) (hs1.trans (by rw[h1];rfl)) (by rw[h1];rfl) (ts:=[]) (f:=(h.thaw b0.2).bl p) (by simp) rfl (λ_ _=>rfl) (λi x _ hx=>.inl hx)
    (λi j x hi hj=>((Ud hr.ok b0.2).1.inj p i p j x hi hj).2) (λi ck hi=>by
     cases i with
     |zero=>simp at hi;subst hi;exact⟨z,hz,hzo,hs3 0 z rfl⟩
     |succ i=>simp at hi)
   exact⟨w',h',e1,e3.after,e2,Yb (ts:=[]) e4⟩
end
end Vm
namespace Vm
open Go
open Go.RowKit (Below)
theorem RP{cs b:List V}{o:Nat}(hle:o+b.length<=cs.length):(ZA cs o b).length=cs.length/\(∀i,i<b.length->(ZA cs o b)[o+i]?=b[i]?)/\∀i,i<o\/o+b.length<=i->(ZA cs o b)[i]?=cs[i]? :=by
 unfold ZA;refine⟨by simp;omega,λi hi=> ?_,λi hi=> ?_⟩
 ·grind
 ·rcases hi with hi|hi
  ·grind
  ·rw[Zh6 (by simp;omega),Zht]
   grind
theorem js{cs b:List V}{o:Nat}{x:V}(hx:x∈ZA cs o b):x∈cs\/x∈b:=by
 grind [ZA,List.mem_of_mem_take,List.mem_of_mem_drop]
theorem Z8j{y:V}{k o:Nat}{b:List V}(hy:y.fits k)(hb:∀x∈b,x.one=true)(hne:b≠[])(hle:o+b.length<=y.cells.length):
  (y.put o b).fits k/\(∀i,i<b.length->(y.put o b).cells[o+i]?=b[i]?)/\∀i,i<o\/o+b.length<=i->(y.put o b).cells[i]?=y.cells[i]? :=by
 have other:y.cells=[y]->y.put o b=b.headD y->(y.put o b).fits k/\(∀i,i<b.length->(y.put o b).cells[o+i]?=b[i]?)/\∀i,i<o\/o+b.length<=i->(y.put o b).cells[i]?=y.cells[i]? :=by
  intro hyc hput;have hlen:y.cells.length=1:=by rw[hyc];rfl
  match b,hne,hle with
  | [z],_,hle=>
    simp only[Zid]at hle;have ho:o=0:=by omega
    subst ho;have hz:=hb z (by simp);have hpz:y.put 0 [z]=z:=by rw[hput];rfl
    rw[hpz];refine⟨⟨by rw[YN hz,<-hy.1,hlen];rfl,λc hc=>by simp_all[YN]⟩,λi hi=> ?_,λi hi=> ?_⟩
    ·have:i=0:=by grind
     subst this;rw[YN hz]
    simp_all[YN,Zi1]
  |z::z'::r,_,hle=>grind
 cases y with
 |agg cs=>
  have hle':o+b.length<=cs.length:=hle;obtain⟨h1,h2,h3⟩:=RP hle';refine⟨⟨by show(ZA cs o b).length=k;rw[h1];exact hy.1,λc hc=> ?_⟩,h2,h3⟩;rcases js (show c∈ZA cs o b from hc)with hc|hc
  ·exact hy.2 c hc
  simp_all
 |tup l=>exact other rfl rfl
 |int k n=>exact other rfl rfl
 |bool v=>exact other rfl rfl
 |str v=>exact other rfl rfl
 |sl l=>exact other rfl rfl
 |ptr l=>exact other rfl rfl
 |fn f=>exact other rfl rfl
 |clo f cs=>exact other rfl rfl
 |nul k=>exact other rfl rfl
 |mp id ks xs=>exact other rfl rfl
theorem jD{x i z u:V}{o:Nat}(hz:updV x i o z=some u):∃l ki q y,x=.sl l/\i=.int ki (q:Nat)/\l[q]?=some y/\o+z.cells.length<=y.cells.length/\z.cells≠[]/\u=.sl (l.set q (y.put o z.cells)):=by
 unfold updV at hz;split at hz
 ·rename_i l ki i;split at hz
  ·rename_i h0;obtain⟨q,rfl⟩:=Zh4 h0;rw[Zhl,ZgI]at hz;obtain⟨y,hy,hz⟩:=hz;split at hz
   ·rename_i hc;simp only[ZgH]at hz;exact⟨l,ki,q,y,rfl,rfl,hy,hc.1,hc.2,hz.symm⟩
   grind
  grind
 grind
section
variable {c:Ctx}{B:Nat}{G:Nat->Prop}{s:St}{a a':Act}{w w':World}{h h':GH}{g:Gam}{C:Zi}{fz ps rb:List Nat}
theorem OwnV.store(hok:Ok B G w h){p i n:Nat}{ty:TypeId}{x u:V}{v:Value}(hv:OwnV c.P B w h (h.bl p i) ty x v)(hbl:h.bl p i=some n){ki:IntKind}{q off:Nat}{z:V}(hu:updV x (.int ki (q:Nat)) off z=some u)
  {T:TypeId} (hT:okT c.P T=true) {vz:Value} (hzt:∀l,z≠.tup l) (hzr:Rd w h.F z vz) (hzn:z.cells.length=c.P.cellsOf T):
  ∃row,(Instr.storeAt T (.pointer (some ⟨n,q*c.P.cellsOf ty+off,none⟩)) vz).run c.P w=.ok () (w.setRow n row)/\OwnV c.P B (w.setRow n row) h (h.bl p i) ty u v:=by
 rcases hv with ⟨l,xs,rfl,h0,hfit,hown,hb,hrd⟩|⟨_,_,_,_,_,_,rfl,_⟩
 case inr=>grind [jD]
 obtain⟨l',ki',q',y,hl',hq',hy,hle,hne,rfl⟩:=jD hu;cases hl';simp only[V.int.injEq]at hq';have hqq:q'=q:=by omega
 subst hqq;obtain⟨hnB,hnlt,hnF⟩:=hok.b_lt p i n hbl;obtain⟨hs1,hs2,hs3⟩:=hzr.cells hzt;have hyf:=hfit y (ZgQ hy);obtain⟨f1,f2,f3⟩:=Z8j hyf (λx hx=>hs2 x hx) hne hle;have hq:q'<l.length:=(ZgL.1 hy).1;have hqk:q'*c.P.cellsOf ty+c.P.cellsOf ty<=l.length*c.P.cellsOf ty:=by rw[<-Zi2];exact Zhh _ hq
 rw[hyf.1]at hle;rcases hown.2 with ⟨rfl,hn⟩|⟨n',cap,cur,rfl,hB,hh,hlc,hcap,hsz,htk⟩
 ·omega
 ·have hnn:n'=n:=by
   have:Value.ownBlock (.slice (some ⟨n',0,none⟩) l.length cap)=some n':=rfl;rw[this,hbl]at hb;cases hb;rfl
  subst hnn;have hcl:l.length*c.P.cellsOf ty<=cur.size:=by rw[hsz];exact Zhh _ hlc
  have hle':(q'*c.P.cellsOf ty+off)+vz.cells.size<=cur.size:=by rw[hs1];omega
  refine⟨Xh cur (q'*c.P.cellsOf ty+off) vz.cells,U9 hT hh (by omega) (λj hj=> ?_) hle',?_⟩
  ·have hj':j<z.cells.length:=by rw[<-hs1];exact hj
   have:=hs3 j z.cells[j] (ZgJ hj');rw[this.one_eq];simp_all
  ·have hfit':∀x∈l.set q' (y.put off z.cells),x.fits (c.P.cellsOf ty):=by
    intro x hx;rcases Zjg hx with hx|rfl
    ·simp_all
    ·exact f1
   have hFs:Same h.F w (w.setRow n' (Xh cur (q'*c.P.cellsOf ty+off) vz.cells)):=Tk hok _ λx hx e=>hnF (e▸hx);have hrs:=Tj hle';refine .inl ⟨l.set q' (y.put off z.cells),(Xh cur (q'*c.P.cellsOf ty+off) vz.cells).toList.take (l.length*c.P.cellsOf ty),rfl,h0,hfit',⟨by simp_all,.inr ⟨n',cap,_,by simp,hB,setRow_heap w n' cur _ ty (0,0) hh,by simp_all,hcap,by omega,by simp⟩⟩,hb,λj ck hj=> ?_⟩;obtain⟨q2,r,y2,hq2,hr,rfl,hyc⟩:=SE hfit' h0 hj;have hq2l:q2<l.length:=by simpa using(ZgL.1 hq2).1
   have hq2k:q2*c.P.cellsOf ty+c.P.cellsOf ty<=l.length*c.P.cellsOf ty:=by rw[<-Zi2];exact Zhh _ hq2l
   have hlt:q2*c.P.cellsOf ty+r< (Xh cur (q'*c.P.cellsOf ty+off) vz.cells).size:=by rw[hrs];omega
   refine⟨(Xh cur (q'*c.P.cellsOf ty+off) vz.cells).getD (q2*c.P.cellsOf ty+r) undef,?_,?_⟩
   ·rw[Zhm,if_pos (by omega),Zi0];simp_all
   ·
    have old:∀y0,l[q2]?=some y0->y0.cells[r]?=some ck->(q2*c.P.cellsOf ty+r<q'*c.P.cellsOf ty+off\/q'*c.P.cellsOf ty+off+vz.cells.size<=q2*c.P.cellsOf ty+r)->
      Rd (w.setRow n' (Xh cur (q'*c.P.cellsOf ty+off) vz.cells)) h.F ck ((Xh cur (q'*c.P.cellsOf ty+off) vz.cells).getD (q2*c.P.cellsOf ty+r) undef):=by
     intro y0 hy0 hyr hout;obtain⟨u0,hu0,hru⟩:=hrd (q2*c.P.cellsOf ty+r) ck (by simp_all[X2]);rw[Ut hle' hout]
     have:cur.getD (q2*c.P.cellsOf ty+r) undef=u0:=by
      rw[<-htk,Zhm,if_pos (by omega)]at hu0;have hu':cur[q2*c.P.cellsOf ty+r]?=some u0:=by simpa using hu0
      simp[ZgN,hu']
     rw[this];exact hru.keep hFs λ_ hb=>hb
    by_cases hqe:q2=q'
    ·subst hqe;rw[Zkp hq]at hq2;cases hq2;by_cases hin:off<=r/\r<off+z.cells.length
     ·have h2:=f2 (r-off) (by omega);rw[show off+(r-off)=r from by omega,hyc]at h2;have h3:=JR hle' (i:=r-off) (by omega);rw[show q2*c.P.cellsOf ty+off+(r-off)=q2*c.P.cellsOf ty+r from by omega]at h3;rw[h3];exact(hs3 (r-off) ck h2.symm).keep hFs λ_ hb=>hb
     grind
    ·rw[List.getElem?_set_ne (ZiO hqe)]at hq2
     have hsep:q2*c.P.cellsOf ty+c.P.cellsOf ty<=q'*c.P.cellsOf ty\/q'*c.P.cellsOf ty+c.P.cellsOf ty<=q2*c.P.cellsOf ty:=by
      rcases Zk5 hqe with hlt'|hlt'
      ·left;rw[<-Zi2];exact Zhh _ hlt'
      ·right;rw[<-Zi2];exact Zhh _ hlt'
     grind
theorem qG(hr:RelG c B G s a w h g){T:TypeId}(hT:okT c.P T=true)(hT1:Zq c.P T=true\/c.P.cellsOf T=1){p off kk:Nat}{i:Option Nat}{j:E}{x:Operand}{m:MS}(hm:zw c g T p i j off kk x=some m)(hes:∀e∈m.es,∃z,eval s e=some z)
  {n q:Nat} (hbl:h.bl p (plI i)=some n) {ki:IntKind} (hj:eval s j=some (.int ki (q:Nat))):
  ∃w' h',(Instr.storeAt T (.pointer (some ⟨n,q*kk+off,none⟩)) (a.eval x)).run c.P w=.ok () w'/\MPost c B G s a w w' h h' m:=by
 unfold zw at hm;simp only[ZgI]at hm;obtain⟨b0,hb0,hm⟩:=hm;split at hm
 ·cases hm
 ·rename_i hpf;have hpf':p∉b0.2:=by simpa using hpf
  have hbl1:∀i,(h.thaw b0.2).bl p i=h.bl p i:=λi=>by simp[GH.thaw,hpf']
  have hr1:=hr.frz b0.2
  have upd_e:∀ {e1 e2:E} {u:V},eval s (.upd e1 j off e2)=some u->∃y z,eval s e1=some y/\eval s e2=some z/\updV y (.int ki (q:Nat)) off z=some u:=by
   intro e1 e2 u hu;simp only[eval,hj,ZgS,ZgI]at hu;obtain⟨y,hy,z,hz,hu⟩:=hu;exact⟨y,z,hy,hz,hu⟩
  have zs:∀ {z:V},eval s (tyE (Zq c.P T) (c.P.cellsOf T) b0.1)=some z->(∀l,z≠.tup l)/\Rd w (h.thaw b0.2).F z (a.eval x)/\z.cells.length=c.P.cellsOf T:=by
   intro z hz;obtain⟨k1,k2,k3,k4⟩:=Za7 hr hb0 hz;refine⟨k1,k4,?_⟩;cases hag:Zq c.P T with
   |true=>grind
   |false=>
    simp_all[YN]
  split at hm
  ·simp only[ZgI]at hm;obtain⟨⟨ty,e⟩,ho,hm⟩:=hm;split at hm
   ·rename_i hkk;simp only[ZgH]at hm;subst hm;simp only at hkk;subst hkk;obtain⟨v,hv,y,hy,hown⟩:=hr1.ownOf ho;obtain⟨u,hu⟩:=hes _ (List.Mem.head _);obtain⟨y',z,hy',hz,hupd⟩:=upd_e hu;rw[hy]at hy';cases hy';obtain⟨k1,k2,k3⟩:=zs hz;have hbl':(h.thaw b0.2).bl p 1=some n:=by rw[hbl1];exact hbl
    obtain⟨row,hrun,hres⟩:=hown.store hr1.ok hbl' hupd hT k1 k2 k3;obtain⟨hnB,hnlt,_⟩:=hr1.ok.b_lt p 1 n hbl'
    refine⟨_,h.thaw b0.2,hrun,Step.after ⟨VF w hnB _,λx hx hn=>Zj3 w n x _ λe=>hn p (by simp) 1 (e▸hbl'),λ_ hb=>hb,λ_ _ _=>rfl,λ_ _=>rfl,λ_ _ _ _ hm=>(by simp at hm),rfl⟩,
     ⟨by simp;exact hr1.ok.base,λb hb=>(by simp;exact hr1.ok.f_lt b hb),hr1.ok.f_or,hr1.ok.g_F,λt i b hb=>(by simp;exact hr1.ok.b_lt t i b hb),hr1.ok.inj,λb hb=>(by simp;exact hr1.ok.k_lt b hb),hr1.ok.k_bl,hr1.ok.k_F⟩,Yb (ts:=[]) ⟨v,hv,u,hu,hres⟩⟩
   ·cases hm
  ·rename_i q0;simp only[ZgI]at hm;obtain⟨cs,hmem,hm⟩:=hm;split at hm
   ·rename_i ty e0 hc;split at hm
    ·rename_i hkk;subst hkk;simp only[ZgK]at hm;obtain⟨k,hput,rfl⟩:=hm;obtain⟨cs',hmem',hle,rfl⟩:=U3 hput;rw[hmem]at hmem';cases hmem';obtain⟨b,vs,ty',hb0',htm,hh,hcs⟩:=hr1.memOf hmem;obtain⟨y,hy,hown⟩:=hcs.2 q0 _ hc;obtain⟨u,hu⟩:=hes _ (List.Mem.head _);obtain⟨y',z,hy',hz,hupd⟩:=upd_e hu;rw[hy]at hy';cases hy';obtain⟨k1,k2,k3⟩:=zs hz;have hbl':(h.thaw b0.2).bl p (q0+1)=some n:=by rw[hbl1];exact hbl
     obtain⟨row,hrun,hres⟩:=hown.store hr1.ok hbl' hupd hT k1 k2 k3;obtain⟨hnB,hnlt,hnF⟩:=hr1.ok.b_lt p (q0+1) n hbl'
     have hbn:b≠n:=λe=>by
      subst e;have:=(hr1.ok.inj p 0 p (q0+1) b hb0' hbl').2;omega
     obtain⟨hsl,hget⟩:=Wq hle
     refine⟨_,h.thaw b0.2,hrun,Step.after ⟨VF w hnB _,λx hx hn=>Zj3 w n x _ λe=>hn p (by simp) (q0+1) (e▸hbl'),λ_ hb=>hb,λ_ _ _=>rfl,λ_ _=>rfl,λ_ _ _ _ hm=>(by simp at hm),rfl⟩,
      ⟨by simp;exact hr1.ok.base,λb hb=>(by simp;exact hr1.ok.f_lt b hb),hr1.ok.f_or,hr1.ok.g_F,λt i b hb=>(by simp;exact hr1.ok.b_lt t i b hb),hr1.ok.inj,λb hb=>(by simp;exact hr1.ok.k_lt b hb),hr1.ok.k_bl,hr1.ok.k_F⟩,
      Yb (ts:=[]) ⟨_,htm,b,vs,ty',hb0',rfl,by simp_all[Zj3],by rw[hcs.1,hsl],λi ck hi=> ?_⟩⟩
     rcases hget i ck hi with ⟨h1,h2,h3⟩|⟨h1,h3⟩
     ·have hiq:i=q0:=by simp only[Zid]at h2;omega
      subst hiq;simp at h3;subst h3;exact⟨u,hu,hres⟩
     ·refine(hcs.2 i ck h3).keep (Tk hr1.ok _ λx hx e=>hnF (e▸hx)) (λ_ hb=>hb) λx hx=>Zj3 w n x _ λe=> ?_;subst e;have:=(hr1.ok.inj p (i+1) p (q0+1) x hx hbl').2
      grind
    ·cases hm
   ·cases hm
theorem Z2W{x i u z:V}{n k:Nat}(hz:QJ x i n k z=some u):∃cs ki j,x=.agg cs/\i=.int ki (j:Nat)/\j<n/\cs.length=n*k/\z.cells.length=k/\u=.agg (ZA cs (j*k) z.cells):=by
 unfold QJ at hz;split at hz
 ·rename_i cs ki i;split at hz
  ·rename_i hc;obtain⟨h0,h1,h2,h3⟩:=hc;obtain⟨j,rfl⟩:=Zh4 h0;simp only[Zhl,ZgH]at hz;exact⟨cs,ki,j,rfl,rfl,by omega,h2,h3,hz.symm⟩
  grind
 grind
theorem qF(hr:RelG c B G s a w h g){T:TypeId}(hT:okT c.P T=true){p o n kk:Nat}{j:E}{x:Operand}{m:MS}(hm:zu c g T p o j n kk x=some m)(hes:∀e∈m.es,∃z,eval s e=some z)
  {b q:Nat} (hbl:h.bl p 0=some b) {ki:IntKind} (hj:eval s j=some (.int ki (q:Nat))) (hq:q<n):
  ∃w' h',(Instr.storeAt T (.pointer (some ⟨b,o+q*kk,none⟩)) (a.eval x)).run c.P w=.ok () w'/\MPost c B G s a w w' h h' m:=by
 unfold zu at hm;simp only[ZgI]at hm;obtain⟨b0,hb0,hm⟩:=hm;split at hm
 ·cases hm
 ·rename_i hcond;simp only[ZgW,ZhD,Zh1,not_or,Decidable.not_not,Zj9,Zjh]at hcond;obtain⟨hsh,hk⟩:=hcond;simp only[ZgI]at hm;obtain⟨cs,hmem,hm⟩:=hm;split at hm
  ·rename_i hpart;obtain⟨hpl,hpf⟩:=hpart;simp only[ZgK]at hm;obtain⟨k,hput,rfl⟩:=hm;obtain⟨cs',hmem',hle,rfl⟩:=U3 hput;rw[hmem]at hmem';cases hmem';obtain⟨b',cur,ty,h1,htm,hh,hcs⟩:=hr.memOf hmem;rw[hbl]at h1;cases h1;obtain⟨u,hu⟩:=hes _ (List.Mem.head _);have hu0:=hu;simp only[eval,hj,ZgS,ZgI]at hu;obtain⟨y,hy,z,hz,hu⟩:=hu;obtain⟨cs0,ki',q',rfl,hq',hqn,hcl,hzl,rfl⟩:=Z2W hu;have hqq:q'=q:=by simp only[V.int.injEq]at hq';omega
   subst hqq;obtain⟨k1,k2,k3,k4⟩:=Za7 hr hb0 hz
   have hF:∀b,(h.thaw b0.2).F b->h.F b:=by
    intro b hb;rcases hb with hb|⟨t,ht,_⟩
    ·exact hb
    ·simp_all
   have k4:=k4.mono hF;obtain⟨hs1,hs2,hs3⟩:=k4.cells k1
   have hnd:Y9 ((cs.drop o).take (n*kk))=false:=by
    simp only[Y9,Zju,ZiS,ZjU,ne_eq];intro ck hck hd;have:=ZgT.1 hpf ck hck;rw[hd]at this;simp at this
   have hno:VE ((cs.drop o).take (n*kk))=false:=by
    simp only[VE,Zju,ZiS];intro ck hck;have:=ZgT.1 hpf ck hck;simp only[Zhq]at this;rw[this]
   obtain⟨xs,hxe,hxl,hxo,hxr,hxv⟩:=hcs.part_rd hpl hnd (G':=h.F) (λ_ hb=>hb) (λho=>by simp_all);have hle1:q'*kk+kk<=n*kk:=by rw[<-Zi2];exact Zhh _ hqn
   have hkpos:0<n*kk\/n*kk=0:=by omega
   have hcx:cs0=xs:=by
    rcases hkpos with hpos|hzero
    ·grind [eval,X7,LZ,Option.some.injEq,V.agg.injEq]
    ·simp_all
   subst hcx;have hvn:(a.eval x).cells.size=kk:=by rw[hs1,hzl]
   have hnl:o+n*kk<=cur.size:=by
    have:=hcs.1;simp only[ZhY,ZiE]at hpl;omega
   have hle2:(o+q'*kk)+(a.eval x).cells.size<=cur.size:=by omega
   have hxcell:∀i (y:V),cs0[i]?=some y->y.one=true/\Rd w h.F y (cur.getD (o+i) undef):=by
    intro i y hi;have hlt:i<n*kk:=by rw[<-hcl];exact(ZgL.1 hi).1
    cases hxr with
    |agg _ _ e1 e2 e3=>
     have:=e3 i y hi
     have hg:((cur.toList.drop o).take (n*kk)).toArray.getD i undef=cur.getD (o+i) undef:=by
      simp only[ZgN,ZiK,Zhm,if_pos hlt,Zht,Zi0]
     grind
   obtain⟨g1,g2,g3⟩:=RP (cs:=cs0) (b:=z.cells) (o:=q'*kk) (by omega)
   obtain⟨h',e1,e2,e3⟩:=K6 (row:=Xh cur (o+q'*kk) (a.eval x).cells) (new:=(List.range (n*kk)).map λi=>(CK.fz,E.fld (E.aput (if X7 (c.ix p) o ((cs.drop o).take (n*kk))=true then E.mm (c.ix p) o (n*kk)else .ag (((cs.drop o).take (n*kk)).map (·.2))) j n kk (tyE (Zq c.P T) (c.P.cellsOf T) b0.1)) i)) hr.ok hbl hh hcs (Tj hle2) hle (λi hi=>Ut hle2 (by grind)) (ts:=[]) (f:=h.bl p) (by simp) rfl (λ_ _=>rfl) (λi x _ hx=>.inl hx)
    (λi j x hi hj=>(hr.ok.inj p i p j x hi hj).2) (λi ck hi=>by
     obtain⟨hlt,rfl⟩:=S8 hi;have hgl:i< (ZA cs0 (q'*kk) z.cells).length:=by rw[g1,hcl];exact hlt
     have key:((ZA cs0 (q'*kk) z.cells)[i]).one=true/\Rd w h.F (ZA cs0 (q'*kk) z.cells)[i] ((Xh cur (o+q'*kk) (a.eval x).cells).getD (o+i) undef):=by
      have hsome:(ZA cs0 (q'*kk) z.cells)[i]?=some (ZA cs0 (q'*kk) z.cells)[i]:=ZgJ hgl;by_cases hin:q'*kk<=i/\i<q'*kk+kk
      ·have h2:=g2 (i-q'*kk) (by omega);rw[show q'*kk+(i-q'*kk)=i from by omega,hsome]at h2;have h3:=JR hle2 (i:=i-q'*kk) (by omega);rw[show o+q'*kk+(i-q'*kk)=o+i from by omega]at h3
       grind
      ·have h2:=g3 i (by omega);rw[hsome]at h2;rw[Ut hle2 (by omega)];exact hxcell i _ h2.symm
     refine⟨_,?_,key.1,key.2⟩;refine Eq.trans (b:=(some (V.agg (ZA cs0 (q'*kk) z.cells))).bind λy=>fldV y i) (ZhV (λy=>Option.bind y λy=>fldV y i) hu0) ?_;show((ZA cs0 (q'*kk) z.cells)[i]?).bind oneV=_;rw[ZgJ hgl,ZgS];unfold oneV
     grind) (λp=>a.tmps[p]?)
   exact⟨_,h',U9 hT hh (by omega) (λi hi=>by
    have hi':i<z.cells.length:=by rw[<-hs1];exact hi
    rw[(hs3 i _ (ZgJ hi')).one_eq];simp_all) hle2,e2,e1,Yb (ts:=[]) ⟨_,htm,e3⟩⟩
  ·cases hm
end
end Vm
namespace Vm
open Go
open Go.RowKit (Below)
open Go.MapKept (IsKey bytes_beq sameNow_of_keys run_checkKey run_findKey run_keyThatStays)
def setB(w:World)(b:Nat)(o:Obj):World:= {w with heap:=w.heap.setIfInBounds b o}
theorem Sh(w:World)(b:Nat)(o:Obj):(setB w b o).heap.size=w.heap.size:=by simp[setB]
theorem WU(w:World)(b x:Nat)(o:Obj)(h:x≠b):(setB w b o).heap[x]?=w.heap[x]? :=by
 simp[setB,ZhC (ZiO h)]
theorem ZaL{w:World}{b:Nat}(o:Obj)(h:b<w.heap.size):(setB w b o).heap[b]?=some o:=by
 simp[setB,h]
theorem Z2Y{B:Nat}(w:World){b:Nat}(o:Obj)(h:B<=b):Below B w (setB w b o):=
 ⟨rfl,rfl,rfl,by simp[setB],λx hx=>WU w b x o (by omega)⟩
section
variable {c:Ctx}{B:Nat}{G:Nat->Prop}{s:St}{a a':Act}{w w':World}{h h':GH}{g:Gam}{C:Zi}{fz ps rb:List Nat}
theorem Z5S(hr:RelG c B G s a w h g){d:Nat}{T:TypeId}{x:Operand}{m:MS}(hd:d<a.tmps.size)(hm:Zaf c g d T x=some m):
  ∃v w' h',(Instr.box T (a.eval x)).run c.P w=.ok v w'/\MPost c B G s (a.put (some d) v) w w' h h' m:=by
 unfold Zaf at hm;split at hm
 ·rename_i t ty e hk;split at hm
  ·rename_i hcond;obtain⟨htd,_⟩:=hcond;simp only[ZgH]at hm;subst hm;obtain⟨v,hv,⟨y,hy,hown⟩,_⟩:=hr.look (Zb s c) (show look g [] t=_ from hk) rfl;rw[Act.eval_tmp a t v hv]
   have hvc:v.cells=#[v]:=by
    rcases hown with ⟨l,xs,_,_,_,⟨_,hc⟩,_⟩|⟨_,_,_,_,_,_,_,rfl,_⟩
    ·rcases hc with ⟨rfl,_⟩|⟨_,_,_,rfl,_⟩<;>rfl
    ·rfl
   have hg:=Zi5 w (.cells v.cells T) none;have hsz:(w.alloc (.cells v.cells T)).heap.size=w.heap.size+1:=by simp
   have hF:Same h.F w (w.alloc (.cells v.cells T)):=λb hb=>hg.block b (hr.ok.f_lt b hb) (by simp)
   refine⟨.pointer (some ⟨w.heap.size,0,none⟩),_,h.put d (λi=>if i=0 then some w.heap.size else if i=1 then h.bl t 1 else none) (lost h [t]),by simp[Instr.box,R7],
    XH (Xi hr.ok hg) (λb hb _=>hg.block b hb (by simp)) (by simp) (λu hu=>by simp at hu;subst hu;simp) (λhn=>by simp at hn),
    hr.ok.put (by omega) (λu i b _ hb=>(ZR hb).1) (λi b hb=> ?_) (λi j b hi hj=> ?_) (λi b u j hu hi hj=> ?_),Yb (ts:=[t]) ⟨_,Wp hd _,w.heap.size,v.cells,T,by simp[GH.put],rfl,Zhv w _,by rw[hvc];rfl,λi ck hi=> ?_⟩⟩
   ·split at hb
    ·simp only[ZgH]at hb;subst hb;exact .inl ⟨ZgP _,by omega⟩
    ·split at hb
     ·exact .inr ⟨t,1,hb⟩
     ·cases hb
   ·have old:∀ {b},h.bl t 1=some b->b<w.heap.size:=λhb=>(hr.ok.b_lt t 1 _ hb).2.1;split at hi<;>split at hj<;>(try split at hi)<;>(try split at hj)<;>first|(cases hi;done)|(cases hj;done)|omega|skip
    ·simp only[ZgH]at hi;subst hi;have:=old hj;omega
    ·simp only[ZgH]at hj;subst hj;have:=old hi;omega
   ·obtain⟨h1,h2⟩:=ZR hj;split at hi
    ·simp only[ZgH]at hi;subst hi;have:=(hr.ok.b_lt u j _ h1).2.1;omega
    ·split at hi
     ·exact h2 (by simp[(hr.ok.inj t 1 u j b hi h1).1])
     ·cases hi
   ·cases i with
    |zero=>
     simp at hi;subst hi;refine⟨y,hy,?_⟩;have hget:v.cells.getD 0 undef=v:=by rw[hvc];rfl
     rw[hget];have hk:=hown.keep (h':=h.put d (λi=>if i=0 then some w.heap.size else if i=1 then h.bl t 1 else none) (lost h [t])) hF (λ_ hb=>hb) λb hb=>hg.block b (hr.ok.b_lt t 1 b hb).2.1 (by simp);simpa[GH.put]using hk
    |succ i=>simp at hi
  ·cases hm
 ·rename_i t cs hk;split at hm
  ·rename_i hcond;obtain⟨htd,_⟩:=hcond;simp only[ZgH]at hm;subst hm;obtain⟨v,hv,⟨vs,rfl,hcs⟩,_⟩:=hr.look (Zb s c) (show look g [] t=_ from hk) rfl;rw[Act.eval_tmp a t _ hv];have hg:=Zi5 w (.cells (Value.agg vs).cells T) none;have hsz:(w.alloc (.cells (Value.agg vs).cells T)).heap.size=w.heap.size+1:=by simp
   have hF:Same h.F w (w.alloc (.cells (Value.agg vs).cells T)):=λb hb=>hg.block b (hr.ok.f_lt b hb) (by simp);have old:∀ {i b},h.bl t i=some b->b<w.heap.size:=λhb=>(hr.ok.b_lt t _ _ hb).2.1
   refine⟨.pointer (some ⟨w.heap.size,0,none⟩),_,h.put d (λi=>if i=0 then some w.heap.size else h.bl t i) (lost h [t]),by simp[Instr.box,R7],
    XH (Xi hr.ok hg) (λb hb _=>hg.block b hb (by simp)) (by simp) (λu hu=>by simp at hu;subst hu;simp) (λhn=>by simp at hn),
    hr.ok.put (by omega) (λu i b _ hb=>(ZR hb).1) (λi b hb=> ?_) (λi j b hi hj=> ?_) (λi b u j hu hi hj=> ?_),Yb (ts:=[t]) ⟨_,Wp hd _,w.heap.size,vs,T,by simp[GH.put],rfl,Zhv w _,hcs.1,λi ck hi=> ?_⟩⟩
   ·split at hb
    ·simp only[ZgH]at hb;subst hb;exact .inl ⟨ZgP _,by omega⟩
    ·exact .inr ⟨t,i,hb⟩
   ·split at hi<;>split at hj
    ·omega
    ·simp only[ZgH]at hi;subst hi;have:=old hj;omega
    ·simp only[ZgH]at hj;subst hj;have:=old hi;omega
    ·exact(hr.ok.inj t i t j b hi hj).2
   ·obtain⟨h1,h2⟩:=ZR hj;split at hi
    ·simp only[ZgH]at hi;subst hi;have:=(hr.ok.b_lt u j _ h1).2.1;omega
    ·exact h2 (by simp[(hr.ok.inj t i u j b hi h1).1])
   ·have hk:=(hcs.2 i ck hi).keep (h':=h.put d (λi=>if i=0 then some w.heap.size else h.bl t i) (lost h [t])) hF (λ_ hb=>hb) λb hb=>hg.block b (hr.ok.b_lt t (i+1) b hb).2.1 (by simp);simpa[GH.put]using hk
  ·cases hm
 ·cases hm
def Zay(c:Ctx)(B:Nat)(s:St)(a:Act)(w:World)(h:GH)(g:Gam)(p:Nat)(ty:TypeId)(e:E)(v:Value):Option Nat->Prop
 |none=>a.tmps[p]?=some v
 |some j=>∃cs,memOf g p=some cs/\cs[j]?=some (.own ty,e)/\∃b vs T,h.bl p 0=some b/\a.tmps[p]?=some (.pointer (some ⟨b,0,none⟩))/\w.heap[b]?=some (.cells vs T (0,0))/\RelCs c.P B s w h p cs vs/\vs.getD j undef=v
theorem Z5N(hr:RelG c B G s a w h g){x:Operand}{p:Nat}{i:Option Nat}{ty:TypeId}{e:E}(hm:Zad g x=some (p,i,ty,e)):
  ∃X,eval s e=some X/\OwnV c.P B w h (h.bl p (plI i)) ty X (a.eval x)/\Zay c B s a w h g p ty e (a.eval x) i:=by
 unfold Zad at hm;split at hm
 ·rename_i t ty' e' hk;split at hm
  ·simp only[ZgH,ZgR]at hm;obtain⟨rfl,rfl,rfl,rfl⟩:=hm;obtain⟨v,hv,⟨X,hX,hown⟩,_⟩:=hr.look (Zb s c) (show look g [] t=_ from hk) rfl;rw[Act.eval_tmp a t v hv];exact⟨X,hX,hown,hv⟩
  ·cases hm
 ·rename_i x _ _ q hk;simp only[ZgK]at hm;obtain⟨⟨ty',e'⟩,ho,hm⟩:=hm;simp only[ZgR]at hm;obtain⟨rfl,rfl,rfl,rfl⟩:=hm;obtain⟨v,hv,X,hX,hown⟩:=hr.ownOf ho;have hrel:a.tmps[q]?=some (a.eval x):=ZQ hr (Zb s c) hk rfl 0;rw[hv]at hrel;simp only[ZgH]at hrel;rw[<-hrel];exact⟨X,hX,hown,hv⟩
 ·rename_i x _ _ q j hk;simp only[ZgI]at hm;obtain⟨cs,hmem,hm⟩:=hm;split at hm
  ·rename_i ty' e' hc;simp only[ZgH,ZgR]at hm;obtain⟨rfl,rfl,rfl,rfl⟩:=hm;obtain⟨b,vs,T,h1,h2,h3,h4⟩:=hr.memOf hmem;obtain⟨X,hX,hown⟩:=h4.2 j _ hc;obtain⟨b',h1',hcell⟩:∃b,h.bl q 0=some b/\w.cell? ⟨b,j,none⟩=some (a.eval x):=ZQ hr (Zb s c) hk rfl 0;rw[h1]at h1';cases h1';rw[Zh3 w b j vs T (0,0) h3]at hcell;have hget:vs.getD j undef=a.eval x:=by simp[ZgN,hcell]
   rw[hget]at hown;exact⟨X,hX,hown,cs,hmem,hc,b,vs,T,h1,h2,h3,h4,hget⟩
  ·cases hm
 ·cases hm
theorem qE(hr:RelG c B G s a w h g)(ha:a'.tmps=a.tmps){T:TypeId}{x:Operand}{f:E->E}{m:MS}(hm:Z7W g T x f=some m)(hes:∀e∈m.es,∃z,eval s e=some z)
  (hform:∀e z,eval s (f e)=some z->∃X,eval s e=some X/\∃id ks xs,X=.mp id ks xs):
  ∃e id ks xs b es clk,eval s e=some (.mp id ks xs)/\(∃z,eval s (f e)=some z)/\a.eval x=.map (some b)/\w.heap[b]?=some (.map es clk)/\ks.length=es.size/\xs.length=es.size/\
   (∀(i:Nat) (c:V),ks[i]?=some c->Rd w h.F c (es.getD i default).key)/\(∀(i:Nat) (c:V),xs[i]?=some c->Rd w h.F c (es.getD i default).val)/\
   ∀ks' xs' es' clk',eval s (f e)=some (.mp id ks' xs')->ks'.length=es'.size->xs'.length=es'.size->(∀(i:Nat) (c:V),ks'[i]?=some c->Rd w h.F c (es'.getD i default).key)->(∀(i:Nat) (c:V),xs'[i]?=some c->Rd w h.F c (es'.getD i default).val)->
    MPost c B G s a' w (setB w b (.map es' clk')) h h m:=by
 unfold Z7W at hm;simp only[ZgI]at hm;obtain⟨⟨p,i,ty,e⟩,hat,hm⟩:=hm;split at hm
 ·rename_i hty;simp only at hty;subst hty;simp only[ZgK]at hm;obtain⟨k,hput,rfl⟩:=hm;obtain⟨X,hX,hown,hplace⟩:=Z5N hr hat;obtain⟨z,hz⟩:=hes _ (List.Mem.head _);obtain⟨X',hX',id,ks,xs,rfl⟩:=hform e z hz;rw[hX]at hX';cases hX';rcases hown with ⟨l,_,hl,_⟩|⟨id',ks',xs',b,es,clk,hX2,hv,hbl,hB,hid,hh,h1,h2,h3,h4⟩
  ·cases hl
  cases hX2;refine⟨e,id,ks,xs,b,es,clk,hX,⟨z,hz⟩,hv,hh,h1,h2,h3,h4,λks' xs' es' clk' he h1' h2' h3' h4'=> ?_⟩;obtain⟨hBb,hlt,hnF⟩:=hr.ok.b_lt p (plI i) b hbl;have hF:Same h.F w (setB w b (.map es' clk')):=λy hy=>WU w b y _ λe=>hnF (e▸hy)
  have hown':OwnV c.P B (setB w b (.map es' clk')) h (h.bl p (plI i)) ty (.mp id ks' xs') (a.eval x):=
   .inr ⟨id,ks',xs',b,es',clk',rfl,hv,hbl,hB,hid,ZaL _ hlt,h1',h2',λi c hi=>(h3' i c hi).keep hF λ_ hb=>hb,λi c hi=>(h4' i c hi).keep hF λ_ hb=>hb⟩
  refine⟨⟨Z2Y w _ hB,λy hy hn=>WU w b y _ λe=>hn p (by simp) (plI i) (e▸hbl),λ_ hb=>hb,λ_ _ _=>rfl,λ_ _=>rfl,λ_ _ _ _ hm=>(by simp at hm),rfl⟩,
   ⟨by grind [Sh],λy hy=>by rw[Sh];exact hr.ok.f_lt y hy,hr.ok.f_or,hr.ok.g_F,λt j y hy=>by rw[Sh];exact hr.ok.b_lt t j y hy,hr.ok.inj,λy hy=>by rw[Sh];exact hr.ok.k_lt y hy,hr.ok.k_bl,hr.ok.k_F⟩,?_⟩
  cases i with
  |none=>
   simp only[Z9j,ZgH]at hput;subst hput;exact Yb (ts:=[]) ⟨_,by rw[ha];exact hplace,_,he,hown'⟩
  |some j=>
   obtain⟨cs,hmem,hc,b0,vs,T',e1,e2,e3,e4,e5⟩:=hplace;obtain⟨cs',hmem',hle,rfl⟩:=U3 hput;rw[hmem]at hmem';cases hmem'
   have hbn:b0≠b:=λe=>by
    simp_all
   obtain⟨hsl,hget⟩:=Wq hle;refine Yb (ts:=[]) ⟨_,by simp_all,b0,vs,T',e1,rfl,by simp_all[WU],by rw[e4.1,hsl],λq ck hi=> ?_⟩;rcases hget q ck hi with ⟨q1,q2,q3⟩|⟨q1,q3⟩
   ·have hiq:q=j:=by simp only[Zid]at q2;omega
    subst hiq;simp at q3;subst q3;exact⟨_,he,by rw[e5];exact hown'⟩
   ·refine(e4.2 q ck q3).keep hF (λ_ hb=>hb) λy hy=>WU w b y _ λe=> ?_;subst e;have:=(hr.ok.inj p (q+1) p (j+1) y hy hbl).2
    grind
 ·cases hm
theorem Z0P(hr:RelG c B G s a w h g)(ha:a'.tmps=a.tmps){T ty:TypeId}{x:Operand}{m:MS}(hm:Z0O c g T x=some m)(hes:∀e∈m.es,∃z,eval s e=some z):
  ∃v w' h',(Builtin.clear_ #[T] ty #[a.eval x]).run c.P w=.ok v w'/\MPost c B G s a' w w' h h' m:=by
 unfold Z0O at hm;split at hm
 ·rename_i hT;unfold Z5v at hT;split at hT
  ·rename_i kt el hT'
   obtain⟨e,id,ks,xs,b,es,clk,h1,_,h3,h4,h5,h6,h7,h8,h9⟩:=qE hr ha hm hes λe z hz=>by
    simp only[eval,ZgI]at hz;obtain⟨X,hX,hz⟩:=hz;refine⟨X,hX,?_⟩;cases X<;>simp[Z5P]at hz
    simp
   refine⟨.tuple #[],setB w b (.map #[] clk),h,?_,h9 [] [] #[] clk (by simp[eval,h1,Z5P]) rfl rfl (λi c hi=>by simp at hi) (λi c hi=>by simp at hi)⟩;rw[h3];simp[Builtin.clear_,Zhk hT',Zik h4,Zjt _ h4,Result.andThen,setB]
  ·cases hT
 ·cases hm
theorem Jr(hr:RelG c B G s a w h g)(ha:a'.tmps=a.tmps){T:TypeId}{x k v:Operand}{m:MS}(hm:Td c g T x k v=some m)(hes:∀e∈m.es,∃z,eval s e=some z):
  ∃w' h',(Instr.mapUpdate T (a.eval x) (a.eval k) (a.eval v)).run c.P w=.ok () w'/\MPost c B G s a' w w' h h' m:=by
 unfold Td at hm;split at hm
 ·rename_i kt el hT;simp only[ZgI]at hm;obtain⟨kc,hkc,ek,hk,ev,hv,hm⟩:=hm;split at hm
  ·cases hm
  ·rename_i hemp;have hsh:ev.2=[]:=by simpa using hemp
   obtain⟨kv,hkv,hkr⟩:=Xg hr (Zb s c) hk;obtain⟨vv,hvv,hvr⟩:=Xg hr (Zb s c) hv;rw[hsh]at hvr;have hvr:=hvr.F
   obtain⟨e,id,ks,xs,b,es,clk,h1,⟨z,hz⟩,h3,h4,h5,h6,h7,h8,h9⟩:=qE hr ha hm hes λe z hz=>by
    simp only[eval,hkv,hvv,ZgS,ZgI]at hz;obtain⟨X,hX,hz⟩:=hz;obtain⟨_,_,_,_,_,rfl,_⟩:=Lj hz;exact⟨_,hX,_,_,_,rfl⟩
   have hz0:=hz;simp only[eval,h1,hkv,hvv,ZgS]at hz;unfold Js at hz;split at hz
   ·cases hz
   rename_i hik;have hik:isK kc kv=true:=by simpa using hik
   have hkd:=qn hkc;have hkey:=Jm hik hkr;have hkF:Rd w h.F kv (a.eval k):=hkr.flat (by cases kc<;>cases kv<;>simp[isK,V.flatc]at hik⊢);have hck:=ZjZ (w:=w) hkd hkey;have hks:=run_keyThatStays (P:=c.P) (w:=w) hkey;simp only at hz;rw[h3];split at hz
   ·rename_i j hf;obtain⟨en,e1,e2,e3⟩:=WI (w2:=w) (G'':=h.F) hik hkr hf (l:=es.toList) (by simpa using h5) (λi c hi=>by simpa[ZgN]using h7 i c hi) 0;simp only[ZgH]at hz;subst hz;have hj:es[j]?=some en:=by simpa using e1
    have hjl:j<es.size:=(ZgO.1 hj).1;have hfk:=ZjK (w:=w) hkd e3;refine⟨setB w b (.map (es.modify j λe=> {e with key:=a.eval k,val:=a.eval v}) clk),h,?_,h9 _ _ _ _ hz0 (by simpa using h5) (by simpa using h6) (λi c hi=> ?_) (λi c hi=> ?_)⟩
    ·have:es[j]=en:=by rw[Zh5 hjl]at hj;simpa using hj
     simp[Instr.mapUpdate,Zhk hT,Zik h4,hck,hfk,hj,this,e2,hks,Zjt _ h4,Result.andThen,setB]
    ·have:=h7 i c hi;rw[ZgN,Zin];rw[ZgN]at this;by_cases hij:j=i
     ·subst hij;rw[hj]at this;simp only[Zhp,hj,ZgY,Zhe];simp only[Zhe,e2]at this;exact this
     ·rw[if_neg hij];exact this
    ·rw[ZgN,Zin];by_cases hij:j=i
     ·subst hij;simp only[Zhp,hj,ZgY,Zhe];rw[Zkp (by omega)]at hi;cases hi;exact hvr
     ·rw[if_neg hij];rw[List.getElem?_set_ne hij]at hi;have:=h8 i c hi;rw[ZgN]at this;exact this
   ·rename_i hf;have e3:=WI (w2:=w) (G'':=h.F) hik hkr hf (l:=es.toList) (by simpa using h5) (λi c hi=>by simpa[ZgN]using h7 i c hi) 0;simp only[ZgH]at hz;subst hz;have hfk:=ZjK (w:=w) hkd e3;refine⟨setB w b (.map (es.push {key:=a.eval k,val:=a.eval v,born:=clk}) (clk+1)),h,?_,h9 _ _ _ _ hz0 (by simp[h5]) (by simp[h6]) (λi c hi=> ?_) (λi c hi=> ?_)⟩
    ·simp[Instr.mapUpdate,Zhk hT,Zik h4,hck,hfk,Zjt _ h4,Result.andThen,setB]
    ·rw[ZgN,Zi4];by_cases hlt:i<ks.length
     ·rw[Zhn hlt]at hi;rw[if_neg (by omega)];have:=h7 i c hi;rw[ZgN]at this;exact this
     ·rw[Zh6 (by omega)]at hi
      have hi0:i=ks.length:=by
       have:=(ZgL.1 hi).1;simp at this;omega
      subst hi0;simp at hi;subst hi;rw[if_pos h5];exact hkF
    ·rw[ZgN,Zi4];by_cases hlt:i<xs.length
     ·rw[Zhn hlt]at hi;rw[if_neg (by omega)];have:=h8 i c hi;rw[ZgN]at this;exact this
     ·rw[Zh6 (by omega)]at hi
      have hi0:i=xs.length:=by
       have:=(ZgL.1 hi).1;simp at this;omega
      subst hi0;simp at hi;subst hi;rw[if_pos h6];exact hvr
   ·cases hz
 ·cases hm
end
end Vm
namespace Vm
open Go
open Go.RowKit (Below)
theorem WW:∀ {cs:List (CK×E)} {ts:List Nat} {i t:Nat},ZS cs ts i=some t->t∈ts
 | [],_,_,_,h=>by simp[ZS]at h
 | (k,e)::cs,ts,i,t,h=>by
   cases k with
   |own ty=>
    cases ts with
    |nil=>simp[ZS]at h
    |cons u ts=>
     cases i with
     |zero=>simp[ZS]at h;simp[h]
     |succ i=>exact Zhb _ (WW (by simpa[ZS]using h))
   |_=>
    cases i with
    |zero=>simp[ZS]at h
    |succ i=>exact WW (by simpa[ZS]using h)
theorem Rb:∀ {cs:List (CK×E)} {ts:List Nat} {i j t:Nat},ts.Nodup->ZS cs ts i=some t->ZS cs ts j=some t->i=j
 | [],_,_,_,_,_,h,_=>by simp[ZS]at h
 | (k,e)::cs,ts,i,j,t,hn,h,h'=>by
   cases k with
   |own ty=>
    cases ts with
    |nil=>simp[ZS]at h
    |cons u ts=>
     obtain⟨h1,h2⟩:=Ziz.1 hn;cases i with
     |zero=>
      cases j with
      |zero=>rfl
      |succ j=>
       grind [ZS,absurd,WW]
     |succ i=>
      cases j with
      |zero=>
       grind [ZS,absurd,WW]
      |succ j=>exact ZhV (· +1) (Rb h2 (by simpa[ZS]using h) (by simp_all[ZS]))
   |_=>
    cases i with
    |zero=>simp[ZS]at h
    |succ i=>
     cases j with
     |zero=>simp[ZS]at h'
     |succ j=>exact ZhV (· +1) (Rb hn (by simpa[ZS]using h) (by simp_all[ZS]))
section
variable {c:Ctx}{B:Nat}{G:Nat->Prop}{s:St}{a a':Act}{w w':World}{h h':GH}{g:Gam}{C:Zi}{fz ps rb:List Nat}
theorem Z0N(hr:RelG c B G s a w h g){T:TypeId}{parts:Array (Nat×Operand)}{d:Nat}(hd:d<a.tmps.size){m:MS}(hm:Z0M c g d T parts.toList=some m)(hes:∀e∈m.es,∃z,eval s e=some z):
  ∃v h',(Instr.build T (parts.map λ(i,x)=>(i,a.eval x))).run c.P w=.ok v w/\MPost c B G s (a.put (some d) v) w w h h' m:=by
 unfold Z0M at hm
 ·simp only[ZgI]at hm;obtain⟨fs,hT,zs,hz,b,hb,hm⟩:=hm;split at hm
  ·cases hm
  ·rename_i hcond;simp only[ZgW,ZhD,not_or,Zii,not_exists,not_and,Zj9]at hcond;obtain⟨hts,hnd⟩:=hcond;have hnd:=Te hnd
   have hts:∀t∈b.2.2,t∉b.2.1/\t≠d:=by
    intro t ht;have:=hts t ht;simp only[Zi6,Zh1,Zhq]at this;exact⟨this.1.1,this.1.2⟩
   simp only[ZgH]at hm;subst hm;obtain⟨z,hz1⟩:=hes _ (List.Mem.head _);have hz1':=hz1;simp only[eval,ZgK]at hz1';obtain⟨xs,hxs,hxz⟩:=hz1';obtain⟨hl,hx⟩:=Yy hxs
   obtain⟨vs,hrun,hsz,howns,hcell⟩:=Lr hr (Zb s c) hT hz hb (λck hck=>by
    obtain⟨i,hi⟩:=Zh8 hck;obtain⟨x,_,he⟩:=hx i ck.2 (by simp_all);simp_all)
   obtain⟨hok1,_⟩:=Ud hr.ok b.2.1
   let f:Nat->Option Nat:=λi=>match i with|0=>none|i+1=>(ZS b.1 b.2.2 i).bind λt=>(h.thaw b.2.1).bl t 1
   have hf:∀i x,f i=some x->∃i' t,i=i'+1/\ZS b.1 b.2.2 i'=some t/\(h.thaw b.2.1).bl t 1=some x:=by
    intro i x hi;cases i with
    |zero=>cases hi
    |succ i=>
     simp only[f,ZgI]at hi;simp_all
   refine⟨.agg vs,(h.thaw b.2.1).put d f (lost (h.thaw b.2.1) b.2.2),hrun,Step.after (XH (ZhA _ _) (λ_ _ _=>rfl) (by simp) (λu hu=>⟨by simp[hu],by simp[hu]⟩) (λhn=>by simp at hn)),
    hok1.put (ZgP _) (λu i b _ hb=>(ZR hb).1) (λi x hx=> ?_) (λi j x hi hj=> ?_) (λi x u j hu hi hj=> ?_),Yb ⟨.agg vs,Wp hd _,vs,rfl,hsz,λi ck hi=> ?_⟩⟩
   ·grind
   ·obtain⟨i',t,rfl,ht,h1⟩:=hf i x hi;obtain⟨j',t',rfl,ht',h1'⟩:=hf j x hj;have:=(hok1.inj t 1 t' 1 x h1 h1').1
    grind [Rb]
   ·obtain⟨i',t,rfl,ht,h1⟩:=hf i x hi;obtain⟨k1,k2⟩:=ZR hj;exact k2 ((hok1.inj u j t 1 x k1 h1).1▸WW ht)
   ·have hbl:((h.thaw b.2.1).put d f (lost (h.thaw b.2.1) b.2.2)).bl d (i+1)=(ZS b.1 b.2.2 i).bind λt=>(h.thaw b.2.1).bl t 1:=by simp[GH.put,f]
    rw[hbl];have hc:=hcell i ck hi;unfold BRel at hc;obtain⟨kk,e⟩:=ck;cases kk with
    |own ty=>
     obtain⟨t,h1,h2,h3,y,hy,hown⟩:=hc;refine⟨y,hy,hown.mono (λ_ hb=>.inl hb) ?_⟩;simp_all[GH.thaw]
    |nil=>exact hc
    |fz=>
     obtain⟨y,h1,h2,h3⟩:=hc;exact⟨y,h1,h2,h3.mono (zX λp hp=>hp)⟩
    |dead=>grind
theorem UQ(hok:Ok B G w h){o:Option Nat}(ho:∀b,o=some b->∃t i,h.bl t i=some b){el T ty:TypeId}{x z:V}{v y:Value}(hv:OwnV c.P B w h o el x v)(hT:c.P.underlying T=some (.slice el))(hel:elOk c.P el=true)
  {l2:List V} {Gy:Nat->Prop} (hy:Rd w Gy (.sl l2) y) (hback:∀(i:Nat) (ck:V) (u:Value),(flat l2)[i]?=some ck->Rd w Gy ck u->Rd w h.F ck u) (hz:appV (c.P.cellsOf el) x (.sl l2)=some z):
  ∃v' w',(Builtin.append_ #[T,T] ty #[v,y]).run c.P w=.ok v' w'/\Below B w w'/\(∀b,b<w.heap.size->o≠some b->w'.heap[b]?=w.heap[b]?)/\
   (v'.ownBlock=o\/∀b,v'.ownBlock=some b->w.heap.size<=b/\b<w'.heap.size)/\∀h':GH,h'.F=h.F->OwnV c.P B w' h' v'.ownBlock el z v':=by
 rcases hv with ⟨l,xs,rfl,h0,hfit,hown,hb,hrd⟩|⟨_,_,_,_,_,_,rfl,_⟩
 case inr=>grind [WD]
 obtain⟨l1,r,hl1,hr1,hlim,hsz,rfl⟩:=WD hz;cases hl1;cases hr1;obtain⟨v',w',news,hrun,hown',hg,hor,hfit2,hnews⟩:=JS (ty:=ty) hT hel hown hok.base hy hsz hlim;have hsame:∀b,b<w.heap.size->o≠some b->w'.heap[b]?=w.heap[b]? :=λb hb hn=>hg.block b hb (by grind)
 have hFs:Same h.F w w':=λb hb=>hsame b (hok.f_lt b hb) λe=>by
  obtain⟨t,i,hi⟩:=ho b e;exact(hok.b_lt t i b hi).2.2 hb
 refine⟨v',w',hrun,(ZhA B w).grown hg hok.base λk hk=> ?_,hsame,?_,λh' hF=>.inl ⟨l++l2,xs++news,rfl,h0,λx hx=> ?_,by simp_all,rfl,λi ck hi=> ?_⟩⟩
 ·rw[‹v.ownBlock=o›]at hk;obtain⟨t,i,hi⟩:=ho k hk;exact(hok.b_lt t i k hi).1
 ·rcases hor with h1|⟨h1,h2⟩
  ·simp_all
  ·exact .inr λb hb=>h2.lt b hb
 ·rcases Zh9.1 hx with hx|hx
  ·simp_all
  ·exact hfit2 x hx
 ·have hfl:=Yl hfit;rw[T4]at hi;by_cases hlt:i< (flat l).length
  ·rw[Zhn hlt]at hi;obtain⟨u,hu,hr⟩:=hrd i ck hi;exact⟨u,by grind,hr.keep hFs λb hb=>by simp_all⟩
  ·rw[Zh6 (by omega)]at hi;obtain⟨u,hu,hr⟩:=hnews _ ck hi;have hxl:xs.length=(flat l).length:=by rw[hown.1,hfl]
   exact⟨u,by grind,(hback _ ck u hi hr).keep hFs λb hb=>by simp_all⟩
theorem LD{e1 e2:E}{k:Nat}{z:V}(hz:eval s (.app e1 e2 k)=some z):∃x y,eval s e1=some x/\eval s e2=some y/\appV k x y=some z:=by
 simp_all[eval,ZgI]
theorem KG(hok:Ok B G w h){t0 i0 d:Nat}{ts:List Nat}{o:Option Nat}(ho:∀b,o=some b->∃t∈ts,h.bl t 1=some b)(hdt:d∉ts){v':Value}(hb:Below B w w')(hsame:∀b,b<w.heap.size->o≠some b->w'.heap[b]?=w.heap[b]?)
  (hor:v'.ownBlock=o\/∀b,v'.ownBlock=some b->w.heap.size<=b/\b<w'.heap.size):
  Ok B G w' (h.put d (λi=>if i=1 then v'.ownBlock else none) (lost h ts))/\Step B (d::ts) (d::ts) [] w w' h (h.put d (λi=>if i=1 then v'.ownBlock else none) (lost h ts)):=by
 have hf:∀i b,(if i=1 then v'.ownBlock else none)=some b->i=1/\((w.heap.size<=b/\b<w'.heap.size)\/∃t∈ts,h.bl t 1=some b):=by
  intro i b hi;split at hi
  ·grind
  ·cases hi
 refine⟨hok.put hb.size (λu i b _ hb=>(ZR hb).1) (λi b hi=> ?_) (λi j b hi hj=>by grind) (λi b u j hu hi hj=> ?_),
  XH hb (λb hb hn=>hsame b hb λe=> ?_) (by simp) (λt ht=>⟨by simp[ht],by simp[ht]⟩) (λhn=>by simp at hn)⟩
 ·grind
 ·obtain⟨k1,k2⟩:=ZR hj;rcases(hf i b hi).2 with h1|⟨t,ht,h1⟩
  ·have:=(hok.b_lt u j b k1).2.1;omega
  ·exact k2 ((hok.inj u j t 1 b k1 h1).1▸ht)
 grind
theorem qD(hr:RelG c B G s a w h g){T U ty:TypeId}{x y:Operand}{d:Nat}(hd:d<a.tmps.size){m:MS}(hm:zt c g d T U x y=some m)(hes:∀e∈m.es,∃z,eval s e=some z):
  ∃v w' h',(Builtin.append_ #[T,U] ty #[a.eval x,a.eval y]).run c.P w=.ok v w'/\MPost c B G s (a.put (some d) v) w w' h h' m:=by
 unfold zt at hm;split at hm
 ·rename_i el hT;have hT':=Z4e hT;split at hm
  ·rename_i hcond;obtain⟨rfl,hel⟩:=hcond;simp only[ZgI]at hm;obtain⟨b0,hb0,hm⟩:=hm;generalize hbe:Rq (Xx c.P el) b0=be at hm;have hr1:=hr.frz be.2
   have elems:∀ {yy:V} {l2:List V},eval s be.1=some yy->yy=.sl l2->∃Gy,Rd w Gy (.sl l2) (a.eval y)/\∀(i:Nat) (ck:V) (u:Value),(flat l2)[i]?=some ck->Rd w Gy ck u->Rd w (h.thaw be.2).F ck u:=by
    rintro yy l2 hyy rfl;obtain⟨Gy,h1,h2⟩:=Z1O hr (Zb s c) hb0 (fl:=Xx c.P el) (by rw[hbe];exact hyy);rw[hbe]at h2;exact⟨Gy,h1,λi ck u hi hu=>(h2 _ rfl i ck u hi hu).mono (zX λp hp=>hp)⟩
   have slot:∀ {t:Nat} {e:E} {v:Value},t≠d->(∃y,eval s e=some y/\OwnV c.P B w (h.thaw be.2) ((h.thaw be.2).bl t 1) el y v)->m= {d:=[(d,[],.own el (.app e be.1 (c.P.cellsOf el))),(t,[],.no)],ps:=[d,t],rb:=[d,t],fz:=be.2,es:=[.app e be.1 (c.P.cellsOf el)]}->
     ∃v2 w' h',(Builtin.append_ #[T,T] ty #[v,a.eval y]).run c.P w=.ok v2 w'/\MPost c B G s (a.put (some d) v2) w w' h h' m:=by
    rintro t e v htd ⟨yv,hyv,hown⟩ rfl;obtain⟨z,hz⟩:=hes _ (List.Mem.head _);obtain⟨xx,yy,hxx,hyy,happ⟩:=LD hz;rw[hyv]at hxx;cases hxx;obtain⟨_,l2,_,rfl,_⟩:=WD happ;obtain⟨Gy,e1,e2⟩:=elems hyy rfl;obtain⟨v2,w',k1,k2,k3,k4,k5⟩:=UQ (ty:=ty) hr1.ok (λb hb=>⟨t,1,hb⟩) hown hT' hel e1 e2 happ;obtain⟨q1,q2⟩:=KG (d:=d) (ts:=[t]) (t0:=0) (i0:=0) hr1.ok (λb hb=>⟨t,by simp,hb⟩) (by grind) k2 k3 k4;exact⟨v2,w',_,k1,q2.after,q1,Yb (ts:=[t]) ⟨v2,Wp hd v2,z,hz,(k5 (h.thaw be.2) rfl).mono (λ_ hb=>hb) (by simp[GH.put])⟩⟩
   split at hm
   ·rename_i hk;simp only[ZgH]at hm;subst hm;have hv:=SZ hr1 (Zb s c) hk;rw[hv];obtain⟨z,hz⟩:=hes _ (List.Mem.head _);obtain⟨xx,yy,hxx,hyy,happ⟩:=LD hz;simp only[eval,ZgH]at hxx;subst hxx;obtain⟨_,l2,_,rfl,_⟩:=WD happ;obtain⟨Gy,e1,e2⟩:=elems hyy rfl;obtain⟨i,zz,hi,hz1,hzs,h0,hby,hcs⟩:=VN hel;have hown:OwnV c.P B w (h.thaw be.2) none el (.sl []) (.slice none 0 0):=.inl ⟨[],[],rfl,by omega,λx hx=>by simp at hx,Ziv w B el _,rfl,λi ck hi=>by simp[flat]at hi⟩;obtain⟨v2,w',k1,k2,k3,k4,k5⟩:=UQ (ty:=ty) hr1.ok (λb hb=>by cases hb) hown hT' hel e1 e2 happ;obtain⟨q1,q2⟩:=KG (d:=d) (ts:=[]) (t0:=0) (i0:=0) hr1.ok (λb hb=>by cases hb) (by simp) k2 k3 k4;exact⟨v2,w',_,k1,q2.after,q1,Yb (ts:=[]) ⟨v2,Wp hd v2,z,hz,(k5 (h.thaw be.2) rfl).mono (λ_ hb=>hb) (by simp[GH.put])⟩⟩
   ·rename_i t ty' e hk;split at hm
    ·rename_i hcond;obtain⟨rfl,htd,_⟩:=hcond;simp only[ZgH]at hm;obtain⟨v,hv,hrel,_⟩:=hr1.look (Zb s c) (show look _ [] t=_ from hk) rfl;rw[Act.eval_tmp a t v hv];exact slot htd hrel hm.symm
    ·cases hm
   ·rename_i p hk;simp only[ZgI]at hm;obtain⟨⟨ty',e⟩,ho,hm⟩:=hm;split at hm
    ·rename_i hcond;obtain⟨hty,hpd⟩:=hcond;simp only at hty;subst hty;simp only[ZgH]at hm;obtain⟨u,hu,hrel⟩:=hr1.ownOf ho;have hv:=ZQ hr1 (Zb s c) hk rfl 0;have huv:=hu.symm.trans hv;simp only[ZgH]at huv;rw[<-huv];exact slot hpd hrel hm.symm
    ·cases hm
   ·rename_i p i hk;simp only[ZgI]at hm;obtain⟨cs,hmem,hm⟩:=hm;split at hm
    ·rename_i ty' e hc;split at hm
     ·rename_i hcond;obtain⟨rfl,hpd⟩:=hcond;simp only[ZgK]at hm;obtain⟨k,hput,rfl⟩:=hm;obtain⟨cs',hmem',hle,rfl⟩:=U3 hput;rw[hmem]at hmem';cases hmem';obtain⟨b,vs,tyb,hb,htm,hh,hcs⟩:=hr1.memOf hmem;have hv:=ZQ hr1 (Zb s c) hk rfl 0;obtain⟨b',hb',hcell⟩:=hv;rw[hb]at hb';cases hb';rw[Zh3 w b i vs tyb (0,0) hh]at hcell;have hget:∀v,vs[i]?=some v->vs.getD i undef=v:=λv hv=>by simp_all
      obtain⟨yv,hyv,hown⟩:=hcs.2 i _ hc;rw[hget _ hcell]at hown;simp only at hown hyv;obtain⟨z,hz⟩:=hes _ (List.Mem.head _);obtain⟨xx,yy,hxx,hyy,happ⟩:=LD hz;rw[hyv]at hxx;cases hxx;obtain⟨_,l2,_,rfl,_⟩:=WD happ;obtain⟨Gy,e1,e2⟩:=elems hyy rfl;obtain⟨v2,w',k1,k2,k3,k4,k5⟩:=UQ (ty:=ty) hr1.ok (λb hb=>⟨p,i+1,hb⟩) hown hT' hel e1 e2 happ;have hF:Same (h.thaw be.2).F w w':=λx hx=>k3 x (hr1.ok.f_lt x hx) λe=>(hr1.ok.b_lt p (i+1) x e).2.2 hx
      have hbw:w'.heap[b]?=w.heap[b]? :=k3 b (hr1.ok.b_lt p 0 b hb).2.1 λe=>by
       have:=(hr1.ok.inj p 0 p (i+1) b hb e).2;omega
      obtain⟨hsl,hgetc⟩:=Wq hle
      have hf:∀j x,(if j=1 then v2.ownBlock else none)=some x->j=1/\((w.heap.size<=x/\x<w'.heap.size)\/(h.thaw be.2).bl p (i+1)=some x):=by
       intro j x hj;split at hj
       ·grind
       ·cases hj
      have hrr:∀u j x,(if u=p/\j=i+1 then none else(h.thaw be.2).bl u j)=some x->(h.thaw be.2).bl u j=some x/\¬(u=p/\j=i+1):=by
       intro u j x hj;split at hj
       ·cases hj
       ·grind
      refine⟨v2,w',(h.thaw be.2).put d (λj=>if j=1 then v2.ownBlock else none) (λu j=>if u=p/\j=i+1 then none else(h.thaw be.2).bl u j),k1,Step.after ⟨k2,λx hx hn=>k3 x hx λe=>hn p (by simp) (i+1) e,λ_ hb=>hb,λt ht _=> ?_,λt ht=> ?_,λ_ _ _ _ hm=>(by simp at hm),rfl⟩,
       hr1.ok.put k2.size (λu j x _ hx=>(hrr u j x hx).1) (λj x hx=> ?_) (λj j' x hj hj'=>by grind) (λj x u j' hu hj hj'=> ?_),λt ht=> ?_⟩
      ·grind [GH.put]
      ·have h1:t≠d:=by grind
       simp[GH.put,h1]
      ·grind
      ·obtain⟨q1,q2⟩:=hrr u j' x hj';rcases(hf j x hj).2 with h1|h1
       ·have:=(hr1.ok.b_lt u j' x q1).2.1;omega
       ·exact q2 (hr1.ok.inj u j' p (i+1) x q1 h1)
      ·simp only[Zz,Zha,ZiL,Zh0,Zia,Zjx]at ht;by_cases htd:t=d
       ·subst htd;simp only[Gam.at,Zhp];exact⟨trivial,λ_=>⟨v2,Wp hd v2,z,hz,(k5 (h.thaw be.2) rfl).mono (λ_ hb=>hb) (by simp[GH.put])⟩⟩
       ·have htp:t=p:=ht.resolve_left htd;subst htp;simp only[Gam.at,if_neg (ZiO htd),Zhp];refine⟨trivial,λ_=>⟨_,by grind [JI],b,vs,tyb,by simpa[GH.put,htd]using hb,rfl,by grind,by rw[hcs.1,hsl],λj ck hj=> ?_⟩⟩;rcases hgetc j ck hj with ⟨h1,h2,h3⟩|⟨h1,h3⟩
        ·have hjq:j=i:=by simp only[Zid]at h2;omega
         subst hjq;simp at h3;subst h3;exact(hcs.2 j _ hc).cell
        ·have hji:j≠i:=by simp only[Zid]at h1;omega
         have hbl:((h.thaw be.2).put d (λj=>if j=1 then v2.ownBlock else none) (λu j=>if u=t/\j=i+1 then none else(h.thaw be.2).bl u j)).bl t (j+1)=(h.thaw be.2).bl t (j+1):=by simp[GH.put,htd,hji]
         rw[hbl]
         exact(hcs.2 j ck h3).keep hF (λ_ hb=>hb) λx hx=>k3 x (hr1.ok.b_lt t (j+1) x hx).2.1 λe=>by
          have:=(hr1.ok.inj t (j+1) t (i+1) x hx e).2;omega
     ·cases hm
    ·cases hm
   ·cases hm
  ·cases hm
 ·cases hm
def MRun(c:Ctx)(B:Nat)(G:Nat->Prop)(s:St)(a:Act)(w:World)(h:GH)(o:Oper)(m:MS):Prop:=
 ∃n u w' h',(execOp a.eval o).run c.P w=.ok n w'/\(n=.value u\/n=.skip/\u=undef)/\MPost c B G s (a.put o.dst u) w w' h h' m
theorem ZcL(hr:RelG c B G s a w h g){o:Oper}(hd:∀d,o.dst=some d->d<a.tmps.size){m:MS}(hm:mk c g o=some m)(hes:∀e∈m.es,∃z,eval s e=some z):MRun c B G s a w h o m:=by
 obtain⟨dst,op,type,pos,after,guard⟩:=o;unfold mk at hm;simp only at hm hd;split at hm
 ·rename_i x d;obtain⟨h',hp⟩:=RF hr (hd _ rfl) hm hes;exact⟨_,_,w,h',rfl,.inl rfl,hp⟩
 ·rename_i x d;obtain⟨h',hp⟩:=RF hr (hd _ rfl) hm hes;exact⟨_,_,w,h',rfl,.inl rfl,hp⟩
 ·rename_i T ad x;unfold Z5U at hm;split at hm
  ·cases hm
  ·rename_i hcond;simp only[ZgW,ZhD,not_or,Zj9,Bool.or_eq_false_iff,not_and,Zhq]at hcond;obtain⟨hT,hT1⟩:=hcond
   have hT1:Zq c.P T=true\/c.P.cellsOf T=1:=by
    cases hag:Zq c.P T with
    |true=>simp
    |false=>simp_all
   have fin:∀ {va:Value},a.eval ad=va->(∃w' h',(Instr.storeAt T va (a.eval x)).run c.P w=.ok () w'/\MPost c B G s a w w' h h' m)->MRun c B G s a w h {dst:=none,op:=.store T ad x,type,pos,after,guard} m:=by
    rintro va rfl ⟨w',h',h1,h2⟩;refine⟨.skip,undef,w',h',?_,.inr ⟨rfl,rfl⟩,h2⟩;simp[execOp,h1]
   split at hm
   ·rename_i cs hk;obtain⟨t,rfl,⟨v,hv,hev,⟨b,vs,ty,h1,rfl,_⟩⟩,_⟩:=(Un hr (Zb s c) hk rfl).resolve_left (by simp);exact fin hev (RG hr hT hT1 hm hes h1)
   ·rename_i p o hk;obtain⟨b,h1,h2⟩:=ZQ hr (Zb s c) hk rfl 0
    grind [RG]
   ·rename_i p i j o k hk;obtain⟨n,q,h1,⟨ki,h2⟩,h3⟩:=ZQ hr (Zb s c) hk rfl 0
    grind [qG]
   ·rename_i p o j n k hk;obtain⟨b,q,h1,⟨ki,h2⟩,h3,h4⟩:=ZQ hr (Zb s c) hk rfl 0
    grind [qF]
   ·cases hm
 ·rename_i T parts d;obtain⟨v,h',h1,h2⟩:=Z0N hr (hd _ rfl) hm hes;exact⟨.value v,v,w,h',by simp[execOp,h1],.inl rfl,h2⟩
 ·rename_i T x d;obtain⟨v,w',h',h1,h2⟩:=Z5S hr (hd _ rfl) hm;exact⟨.value v,v,w',h',by simp[execOp,h1],.inl rfl,h2⟩
 ·rename_i T m' k v;obtain⟨w',h',h1,h2⟩:=Jr (a':=a) hr rfl hm hes;exact⟨.skip,undef,w',h',by simp[execOp,h1],.inr ⟨rfl,rfl⟩,h2⟩
 ·rename_i args argTypes;split at hm
  ·rename_i x T hx hT;have hargs:args=#[x]:=ZhW.1 (by omega);have htys:argTypes=#[T]:=ZhW.1 (by omega);subst hargs htys;obtain⟨v,w',h',h1,h2⟩:=Z0P (a':=a) (ty:=type) hr rfl hm hes;exact⟨.value v,v,w',h',by simp[execOp,resolve,invoke,builtin,h1],.inl rfl,h2⟩
  ·cases hm
 ·rename_i args argTypes d;split at hm
  ·rename_i x y T U hx hT;have hargs:args=#[x,y]:=ZhW.1 (by omega);have htys:argTypes=#[T,U]:=ZhW.1 (by omega);subst hargs htys;obtain⟨v,w',h',h1,h2⟩:=qD (ty:=type) hr (hd _ rfl) hm hes;exact⟨.value v,v,w',h',by simp[execOp,resolve,invoke,builtin,h1],.inl rfl,h2⟩
  ·cases hm
 ·cases hm
end
end Vm
namespace Vm
open Go
def Z4f(calls:FuncId->Array Value->World->(Ending->World->Prop)->Prop)(o:Oper)(a:Act)(K:Act->World->Prop):Result Next->Prop
 |.ok (.value v) w'=>K (a.put o.dst v) w'
 |.ok .skip w'=>K (a.put o.dst undef) w'
 |.ok (.enter f args) w'=>calls f args w' λe w''=>∃v,e=.returned v/\K (a.put o.dst v) w''
 |_=>False
section
variable (calls:FuncId->Array Value->World->(Ending->World->Prop)->Prop)(o:Oper)(a:Act)(K:Act->World->Prop)(w:World)
theorem K8(v:Value):Z4f calls o a K (.ok (.value v) w)=K (a.put o.dst v) w:=rfl
theorem Z4g:Z4f calls o a K (.ok .skip w)=K (a.put o.dst undef) w:=rfl
theorem K7(f:FuncId)(args:Array Value):Z4f calls o a K (.ok (.enter f args) w)=calls f args w λe w''=>∃v,e=.returned v/\K (a.put o.dst v) w'':=rfl
end
def ZeP(sim:World->World->Prop)(P:Program)(fn:Func)(R:Ending->World->Prop):Exit->Act->World->Prop
 |.normal,a,w|.ret,a,w=>a.defers=[]/\∀w1,sim w w1->∃v,(results fn a.tmps).run P w1=.ok v w1/\R (.returned v) w1
 |_,_,_=>False
class Lg (P:Program) where
 wp:Code->(Exit->Act->World->Prop)->Act->World->Prop
 calls:FuncId->Array Value->World->(Ending->World->Prop)->Prop
 todo:Array Oper->(Exit->Act->World->Prop)->List Nat->Act->World->Prop
 sim:World->World->Prop
 fit:Oper->Prop
 sim_eq:∀ {w w1},sim w w1->w1= {w with drawn:=w1.drawn}
 calls_mono:∀ {f args w} {R R':Ending->World->Prop},calls f args w R->(∀e w',R e w'->R' e w')->calls f args w R'
 wp_mono:∀ {c a w} {Q Q':Exit->Act->World->Prop},wp c Q a w->(∀e a w,Q e a w->Q' e a w)->wp c Q' a w
 wp_skip:∀ {Q a w},Q .normal a w->wp .skip Q a w
 wp_label:∀ {l Q a w},Q .normal a w->wp (.label l) Q a w
 wp_exit:∀ {id Q a w},Q (.exit id) a w->wp (.exit id) Q a w
 wp_ret:∀ {Q a w},Q .ret a w->wp .ret Q a w
 wp_seq:∀ {x y Q a w},wp x (Exit.then (wp y Q) Q) a w->wp (.seq x y) Q a w
 wp_scope:∀ {x} {Q:Exit->Act->World->Prop} {a w},wp x (Exit.noGoto Q) a w->wp (.scope x) Q a w
 wp_cond_true:∀ {c x y Q} {a:Act} {w},a.eval c=.bool true->wp x Q a w->wp (.cond c x y) Q a w
 wp_cond_false:∀ {c x y Q} {a:Act} {w},a.eval c=.bool false->wp y Q a w->wp (.cond c x y) Q a w
 wp_block:∀ {id x Q a w},wp x (Exit.inBlock id Q) a w->wp (.block id x) Q a w
 wp_loop:∀ {x Q a w} (I:Act->World->Prop) (μ:Act->World->Nat),I a w->(∀a w,I a w->wp x (Exit.then (λa' w'=>I a' w'/\μ a' w'<μ a w) Q) a w)->wp (.loop x) Q a w
 wp_region:∀ {id ops Q a w},(∀o∈ops,fit o)->todo ops Q (List.range ops.size) a w->wp (.region id ops false) Q a w
 wp_draw:∀ {id ops Q a} {w:World},(∀o∈ops,fit o)->(∀w1,sim w w1->∀t,todo ops Q (Region.schedule (P.follows .mixedOrders) ops t) a {w1 with drawn:=w1.drawn+1})->wp (.region id ops true) Q a w
 todo_nil:∀ {ops Q a w},Q .normal a w->todo ops Q [] a w
 todo_cons:∀ {ops Q i rest a w},(∀o∈ops,fit o)->(∀w1,sim w w1->match ops[i]? with
   |none=>todo ops Q rest a w1
   |some o=>if Region.wanted o (yielded ops a.tmps)=true then Z4f calls o a (todo ops Q rest) ((execOp a.eval o).run P w1)else todo ops Q rest (a.put o.dst undef) w1)->todo ops Q (i::rest) a w
 calls_of_wp:∀ {f fn c args w R},P.funcs[f]?=some fn->fn.body=some c->wp c (ZeP sim P fn R) {tmps:=args++Array.replicate (fn.ntmps-args.size) undef,defers:=[]} w->calls f args w R
instance (priority:=low) loneQ (P:Program):Lg P where
 wp c Q a w:=c.wp P Q a w
 calls f args w R:=Calls P f args w R
 todo ops Q l a w:=wpOps P ops Q l a w
 sim w w1:=w1=w
 fit _:=True
 sim_eq h:=by subst h;rfl
 calls_mono h k:=Zkb h k
 wp_mono h k:=Go.wp_mono h k
 wp_skip h:=Go.wp_skip h
 wp_label h:=Go.wp_label h
 wp_exit h:=Go.wp_exit h
 wp_ret h:=Go.wp_ret h
 wp_seq h:=Go.wp_seq h
 wp_scope h:=Go.wp_scope_straight h
 wp_cond_true:=Go.wp_cond_true
 wp_cond_false:=Go.wp_cond_false
 wp_block h:=Go.wp_block h
 wp_loop I μ h k:=Go.wp_loop I μ h k
 wp_region _ h:=Go.wp_region h
 wp_draw _ h:=Go.wp_region_draw λt=>h _ rfl t
 todo_nil h:=h
 todo_cons {ops Q i rest a w} _ h:=by
  have h:=h w rfl;rw[wpOps_cons];unfold wpOp
  revert h
  cases hi:ops[i]? with
  |none=>exact id
  |some o=>
   dsimp only;split
   ·intro h;left;unfold Oper.wp
    revert h
    cases(execOp a.eval o).run P w with
    |halt x w'=>exact False.elim
    |ok n w'=>
     cases n<;>first|exact id|exact False.elim|skip
     exactλh=>Zkb h λe w'' he=>by
      obtain⟨v,rfl,hk⟩:=he;exact hk
   ·exact id
 calls_of_wp {f fn c args w R} hf hb h:=Go.calls_of_wp hf hb (Go.wp_mono h λe a w he=>by
  cases e with
  |normal=>obtain⟨h1,h2⟩:=he;obtain⟨v,h3,h4⟩:=h2 w rfl;exact⟨h1,v,h3,h4⟩
  |ret=>obtain⟨h1,h2⟩:=he;obtain⟨v,h3,h4⟩:=h2 w rfl;exact⟨h1,v,h3,h4⟩
  |_=>exact he.elim)
def opG(P:Program) [Lg P](ops:Array Oper)(i:Nat)(K:Act->World->Prop)(a:Act)(w:World):Prop:=
 match ops[i]? with
 |none=>K a w
 |some o=>if Region.wanted o (yielded ops a.tmps)=true then Z4f (Lg.calls P) o a K ((execOp a.eval o).run P w)else K (a.put o.dst undef) w
theorem Z88{P:Program} [Lg P]{ops:Array Oper}{i:Nat}{K K':Act->World->Prop}{a:Act}{w:World}(h:∀a w,K a w->K' a w)(hh:opG P ops i K a w):opG P ops i K' a w:=by
 unfold opG at*;split
 ·exact h _ _ (by simpa[*]using hh)
 ·rename_i o ho;simp only[ho]at hh;split
  ·rename_i hw;rw[if_pos hw]at hh
   revert hh
   cases(execOp a.eval o).run P w with
   |halt x w'=>exact id
   |ok n w'=>
    cases n<;>first|exact id|exact h _ _|skip
    exactλh2=>Lg.calls_mono h2 λe w'' ⟨v,h3,h4⟩=>⟨v,h3,h _ _ h4⟩
  ·rename_i hw;rw[if_neg hw]at hh;exact h _ _ hh
def anyG(P:Program) [Lg P](ops:Array Oper)(Q:Exit->Act->World->Prop):Nat->Array Bool->Act->World->Prop
 |0,listed,a,w=>Region.ready .any ops listed=[]/\Q .normal a w
 |n+1,listed,a,w=>(Region.ready .any ops listed=[]->Q .normal a w)/\∀i∈Region.ready .any ops listed,∀w1,Lg.sim P w w1->opG P ops i (anyG P ops Q n (listed.setIfInBounds i true)) a w1
theorem Z2V{P:Program} [Lg P]{ops:Array Oper}{Q:Exit->Act->World->Prop}(hf:∀o∈ops,Lg.fit P o):∀(fuel t:Nat) (listed:Array Bool) (a:Act) (w:World),anyG P ops Q fuel listed a w->
  Lg.todo P ops Q (Region.linearise.go .any ops fuel t listed []) a w:=by
 intro fuel
 induction fuel with
 |zero=>intro t listed a w h;exact Lg.todo_nil h.2
 |succ fuel ih=>
  intro t listed a w h;obtain⟨h₀,h₁⟩:=h;simp only[Region.linearise.go]
  change Lg.todo P ops Q (match(Region.ready .any ops listed)[t% (Region.ready .any ops listed).length]? with
   |some i=>Region.linearise.go .any ops fuel (t / (Region.ready .any ops listed).length) (listed.setIfInBounds i true) [i]
   |none=>[].reverse) a w
  cases hi:(Region.ready .any ops listed)[t% (Region.ready .any ops listed).length]? with
  |none=>
   have hnil:Region.ready .any ops listed=[]:=by
    cases hr:Region.ready .any ops listed with
    |nil=>rfl
    |cons x xs=>
     rw[hr]at hi;have hlt:t% (x::xs).length< (x::xs).length:=ZjH _ (by simp);simp at hi;simp at hlt;omega
   exact Lg.todo_nil (h₀ hnil)
  |some i=>
   simp only[];rw[linearise_go_acc,Zkq,ZjB];exact Lg.todo_cons hf λw1 hw=>Z88 (λa w=>ih _ _ a w) (h₁ i (ZgQ hi) w1 hw)
theorem Z1d{P:Program} [Lg P]{ops:Array Oper}{Q:Exit->Act->World->Prop}{id:Nat}{a:Act}{w:World}(hf:∀o∈ops,Lg.fit P o)(hm:P.follows .mixedOrders=true)
  (h:∀w1,Lg.sim P w w1->anyG P ops Q ops.size (Array.replicate ops.size false) a {w1 with drawn:=w1.drawn+1}):Lg.wp P (.region id ops true) Q a w:=
 Lg.wp_draw hf λw1 hw t=>by
  simp only[Region.schedule,hm,ZiH,Zhp];exact Z2V hf ops.size t _ a _ (h w1 hw)
def Tt(p:Oper->Prop):Code->Prop
 |.region _ ops _=>∀o∈ops,p o
 |.seq x y=>Tt p x/\Tt p y
 |.cond _ x y=>Tt p x/\Tt p y
 |.block _ x|.loop x|.scope x=>Tt p x
 |_=>True
class FitF (P:Program) [Lg P] (f:FuncId):Prop where
 all:∀fn c,P.funcs[f]?=some fn->fn.body=some c->Tt (Lg.fit P) c
theorem QB{p:Oper->Prop}(h:∀o,p o):∀c:Code,Tt p c:=by
 intro c
 induction c with
 |region id ops d=>exactλo _=>h o
 |seq x y hx hy=>exact⟨hx,hy⟩
 |cond c x y hx hy=>exact⟨hx,hy⟩
 |block id x hx=>exact hx
 |loop x hx=>exact hx
 |scope x hx=>exact hx
 |_=>trivial
instance (priority:=low) fit_lone (P:Program) (f:FuncId): @FitF P (loneQ P) f:=⟨λ_ c _ _=>QB (λ_=>trivial) c⟩
end Vm
namespace Vm
open Go
open Go.RowKit (Below)
def YE(P:Program)(f:FuncId):Bool:=
 match P.funcs[f]? with
 |some fn=> !(fn.name== "runtime.NumGoroutine")&&fn.body.isSome
 |none=>false
def VC(P:Program) [Lg P](f:FuncId)(fr:Bool)(args:List V)(r:V):Prop:=
 YE P f=true/\∀(w:World) (G:Nat->Prop) (vs:Array Value),(∀b,G b->b<w.heap.size)->vs.size=args.length->(∀(i:Nat) (x:V),args[i]?=some x->Rd w G x (vs.getD i undef))->
  Lg.calls P f vs w λe w'=>∃v,e=.returned v/\Below w.heap.size w w'/\Rd w' (λb=>(fr=false/\G b)\/(w.heap.size<=b/\b<w'.heap.size)) r v
def argK(k:OT)(x:V):Option TK:=
 match k,x with
 |.fz,x=>some (.val (.c x) [])
 |.own ty,x=>some (.own ty (.c x))
 |.mem l,.agg cs=>if cs.length=l.length then some (.mem ((l.zip cs).map λy=>(y.1,.c y.2)))else none
 |_,_=>none
def RelA(P:Program)(B:Nat)(w:World)(h:GH)(ks:List OT)(xs:List V)(vs:Array Value):Prop:=
 xs.length=ks.length/\vs.size=ks.length/\∀(i:Nat) (k:OT) (x:V),ks[i]?=some k->xs[i]?=some x->∃tk,argK k x=some tk/\RelK P B [] w h (λ_=>none) i (vs.getD i undef) tk
def RelB(P:Program)(B:Nat)(w:World)(h:GH)(ks:List OT)(ys:List V)(vs:Array Value):Prop:=
 ys.length=ks.length/\∀(i:Nat) (k:OT) (y:V),ks[i]?=some k->k≠.fz->ys[i]?=some y->∃tk,argK k y=some tk/\RelK P B [] w h (λ_=>none) i (vs.getD i undef) tk
def Xu:List OT->List V->List V
 |.fz::ks,_::ys=>Xu ks ys
 |_::ks,y::ys=>y::Xu ks ys
 |_,_=>[]
def Z3H(r:V)(os:List V):V:=
 match os with
 | []=>r
 |os=>.tup (r::os)
def VCM(P:Program) [Lg P](f:FuncId)(ks:List OT)(xs:List V)(R:V):Prop:=
 YE P f=true/\∀(B:Nat) (w:World) (h:GH) (vs:Array Value),Ok B h.F w h->RelA P B w h ks xs vs->
  Lg.calls P f vs w λe w'=>∃v r ys h',e=.returned v/\Below B w w'/\Same h.K w w'/\Ok B h.F w' h'/\h'.K=h.K/\Rd w' h'.F r v/\RelB P B w' h' ks ys vs/\R=Z3H r (Xu ks ys)
def fnOf(s:St):FN->Option FuncId
 |.id f=>some f
 | .e x=>match eval s x with
   |some (.fn f)=>some f
   |_=>none
def cloV:V->Option (FuncId×List V)
 |.fn f=>some (f,[])
 |.clo f cs=>some (f,cs)
 |_=>none
def fnV(s:St):FN->Option (FuncId×List V)
 |.id f=>some (f,[])
 |.e x=>(eval s x).bind cloV
def oldV(s:St):List OT->List E->Option (List V)
 |.fz::ks,_::es=>oldV s ks es
 |_::ks,e::es=>(eval s e).bind λx=>(oldV s ks es).map (x:: ·)
 |_,_=>some []
def EFok(P:Program) [Lg P](s:St):EF->Prop
 |.lt i C e=>holds s C->∃x,eval s e=some x/\get s i=.v x
 |.call i C f fr fl aq_=>holds s C->∃xs n r,Yc s aq_=some xs/\fnV s f=some n/\VC P n.1 fr (xs++n.2) r/\(fl=true->flV r=some r)/\get s i=.v r
 | .callm i C f ks aq_=>(holds s C->∃xs n R,Yc s aq_=some xs/\fnOf s f=some n/\VCM P n ks xs R/\get s i=.v R)/\
   (¬holds s C->∃os,oldV s ks aq_=some os/\(os≠[]->get s i=.v (.tup (.bool false::os))))
section
variable {c:Ctx}{B:Nat}{G:Nat->Prop}{s:St}{a a':Act}{w w':World}{h h':GH}{g:Gam}{C:Zi}{fz ps rb:List Nat}{ops:Array Oper}
def UP:List (E×Option Nat)->Nat->Option Nat
 | [],_=>none
 |x::l,u=>if x.2=some u then some 0 else(UP l u).map (· +1)
theorem Wf:∀ {l:List (E×Option Nat)} {u i:Nat},UP l u=some i->∃e,l[i]?=some (e,some u)
 | [],u,i,hi=>by cases hi
 | (e,o)::l,u,i,hi=>by
   simp only[UP]at hi;split at hi
   ·rename_i ho;have ho:o=some u:=ho;simp only[ZgH]at hi;subst hi ho;exact⟨e,rfl⟩
   ·simp only[ZgK]at hi;obtain⟨j,hj,rfl⟩:=hi;obtain⟨e',he⟩:=Wf hj;exact⟨e',by simpa using he⟩
theorem To:∀ {l:List (E×Option Nat)} {u:Nat},UP l u=none->u∉l.filterMap (·.2)
 | [],u,_,hm=>by simp at hm
 | (e,o)::l,u,hi,hm=>by
   simp only[UP]at hi;split at hi
   ·cases hi
   ·rename_i ho;have ho:¬o=some u:=ho;simp only[Zkr]at hi;have:=To hi;simp_all
theorem UA{l:List (E×Option Nat)}{e:E}{u i:Nat}(hi:l[i]?=some (e,some u)):u∈l.filterMap (·.2):=
 Zjq.2 ⟨_,ZgQ hi,rfl⟩
theorem Lk:∀ {l:List Nat},TZ l=true↔l.Nodup
 | []=>by simp[TZ]
 |x::l=>by
  simp_all[TZ,ZgM,ZhD,Zi6,Zjs,Ziz,Lk]
theorem Qt:∀ {l:List (E×Option Nat)} {e e':E} {u i j:Nat},(l.filterMap (·.2)).Nodup->l[i]?=some (e,some u)->l[j]?=some (e',some u)->i=j
 | [],e,e',u,i,j,_,hi,_=>by simp at hi
 | (e0,o)::l,e,e',u,i,j,hn,hi,hj=>by
   have hn':(l.filterMap (·.2)).Nodup:=by
    cases o with
    |none=>simpa using hn
    |some p=>simp only[Zim,Ziz]at hn;exact hn.2
   cases i with
   |zero=>
    simp at hi;cases j with
    |zero=>rfl
    |succ j=>
     exfalso;have h1:=UA (l:=l) (i:=j) (by simpa using hj);rw[hi.2]at hn;simp only[Zim,Ziz]at hn;exact hn.1 h1
   |succ i=>
    cases j with
    |zero=>
     exfalso;simp at hj;have h1:=UA (l:=l) (i:=i) (by simpa using hi);rw[hj.2]at hn;simp only[Zim,Ziz]at hn;exact hn.1 h1
    |succ j=>
     have:=Qt (i:=i) (j:=j) hn' (by simpa using hi) (by simpa using hj);rw[this]
theorem Z6L{l:List (E×Option Nat)}(hn:(l.filterMap (·.2)).Nodup){e:E}{u i:Nat}(hi:l[i]?=some (e,some u)):UP l u=some i:=by
 cases hx:UP l u with
 |none=>exact absurd (UA hi) (To hx)
 |some j=>
  grind [Wf,Qt]
def XR(g:Gam)(h:GH)(ks:List OT)(aq_:List (E×Option Nat))(i j:Nat):Option Nat:=
 match(aq_[i]?).bind (·.2),ks[i]? with
 |some p,some (.mem _)=>match j with
  |0=>h.bl p 0
  |j+1=>match(memOf g p).bind λcs=>cs[j]? with
   |some (.own _,_)=>h.bl p (j+1)
   |_=>none
 |some p,some (.own _)=>if j=1 then h.bl p 1 else none
 |_,_=>none
theorem YR{ks:List OT}{aq_:List (E×Option Nat)}{i j b:Nat}(hb:XR g h ks aq_ i j=some b):∃p e k,aq_[i]?=some (e,some p)/\ks[i]?=some k/\k≠.fz/\h.bl p j=some b/\(∀ty,k=.own ty->j=1):=by
 unfold XR at hb
 grind
def XT(g:Gam)(h:GH)(w:World)(ks:List OT)(aq_:List (E×Option Nat)):GH:=
 {F:=h.F,bl:=XR g h ks aq_,K:=λb=>b<w.heap.size/\∀i j,XR g h ks aq_ i j≠some b}
theorem yi(hok:Ok B G w h){ks:List OT}{aq_:List (E×Option Nat)}(hn:(aq_.filterMap (·.2)).Nodup):Ok B h.F w (XT g h w ks aq_):=by
 refine⟨hok.base,hok.f_lt,λb hb=>.inl hb,λb hb=>hb,λt i b hb=> ?_,λt i u j b hb hb'=> ?_,λb hb=>hb.1,λt i b hb hK=>hK.2 t i hb,λb hb=>.inl hb⟩
 ·obtain⟨p,_,_,_,_,_,h1,_⟩:=YR hb;exact hok.b_lt p i b h1
 ·obtain⟨p,e,_,h1,_,_,h2,_⟩:=YR hb;obtain⟨q,e',_,h3,_,_,h4,_⟩:=YR hb';obtain⟨rfl,rfl⟩:=hok.inj p i q j b h2 h4;exact⟨Qt hn h1 h3,rfl⟩
def apV(a:Act)(h:GH)(x:AP)(v:Value):Prop:=
 match x with
 |.op x _=>v=a.eval x
 |.cap p=>∃b,h.bl p 0=some b/\v=.pointer (some ⟨b,0,none⟩)
theorem Lm:∀ {a b:List CK},Ll c.P a b=true->a.length=b.length/\∀(i:Nat) (x y:CK),a[i]?=some x->b[i]?=some y->x=y\/x=.nil/\(y=.fz\/∃ty,y=.own ty/\0<c.P.cellsOf ty)
 | [],[],_=>⟨rfl,λi x y hx=>by simp at hx⟩
 | [],_::_,h=>by simp[Ll]at h
 |_::_,[],h=>by simp[Ll]at h
 |x::a,y::b,h=>by
  simp only[Ll,ZgM,ZgW,Zhq]at h;obtain⟨h1,h2⟩:=h;obtain⟨h3,h4⟩:=Lm h2;refine⟨by simp[h3],λi x' y' hx hy=> ?_⟩;cases i with
  |zero=>
   simp at hx hy;subst hx hy;rcases h1 with h1|h1
   ·exact .inl h1
   ·split at h1
    ·simp only[Zh1]at h1;exact .inr ⟨rfl,.inr ⟨_,rfl,h1⟩⟩
    ·exact .inr ⟨rfl,.inl rfl⟩
    ·cases h1
  |succ i=>exact h4 i x' y' (by simpa using hx) (by simpa using hy)
theorem RelC.const{P:Program}{o:Option Nat}{k:CK}{e:E}{v:Value}{x:V}(hr:RelC P B s w h o k e v)(hx:eval s e=some x){h2:GH}(hF:h2.F=h.F):RelC P B [] w h2 o k (.c x) v:=by
 cases k with
 |fz=>obtain⟨y,h0,h1,h3⟩:=hr;rw[hx]at h0;cases h0;exact⟨x,rfl,h1,h3.mono λb hb=>by simp_all⟩
 |own ty=>obtain⟨y,h0,h1⟩:=hr;rw[hx]at h0;cases h0;exact⟨x,rfl,h1.mono (λb hb=>by simp_all) rfl⟩
 |nil=>obtain⟨h0,h1⟩:=hr;rw[hx]at h1;cases h1;exact⟨h0,rfl⟩
 |dead=>exact hr
theorem Z6M(hr:RelG c B G s a w h g)(hC:holds s (ixC c C)){x:AP}{p:Nat}{v:Value}(hs:ZaP g C x=some p)(hv:apV a h x v):∃b,h.bl p 0=some b/\v=.pointer (some ⟨b,0,none⟩):=by
 unfold ZaP at hs;split at hs
 ·simp only[ZgH]at hs;subst hs;exact hv
 ·rename_i t ty;have hv:v=a.eval (.tmp t):=hv;subst hv;split at hs
  ·rename_i cs hk;simp only[ZgH]at hs;subst hs;obtain⟨v,hv,⟨b,vs,T,h1,h2,_⟩,_⟩:=hr.look hC (show look g C t=_ from hk) rfl;simp_all[Act.eval_tmp]
  ·rename_i q hk;simp only[ZgH]at hs;subst hs;exact ZQ hr hC hk rfl 0
  ·cases hs
 ·cases hs
theorem Qo(hr:RelG c B G s a w h g){k:OT}{x:AP}{e:E}{p:Nat}(hp:VX c g C k x=some (e,some p)){X:V}(hX:eval s e=some X){ks:List OT}{aq_:List (E×Option Nat)}{i:Nat}(hk:ks[i]?=some k)(hi:aq_[i]?=some (e,some p)):
  ∃v,a.tmps[p]?=some v/\(∃tk,argK k X=some tk/\RelK c.P B [] w (XT g h w ks aq_) (λ_=>none) i v tk)/\((∃l b,k=.mem l/\h.bl p 0=some b/\v=.pointer (some ⟨b,0,none⟩))\/∃ty,k=.own ty):=by
 unfold VX at hp;split at hp
 ·split at hp
  ·simp only[ZgI]at hp;obtain⟨_,_,hp⟩:=hp;split at hp
   ·simp at hp
   ·cases hp
  ·cases hp
 ·
  rename_i l;simp only[ZgI]at hp;obtain⟨p,hs,cs,hmem,hp⟩:=hp;split at hp
  ·rename_i hcond;simp only[ZgM,ZhD]at hcond;obtain⟨hdead,hpass⟩:=hcond;simp only[ZgH,ZgR]at hp;obtain⟨rfl,rfl⟩:=hp;obtain⟨b,vs,T,h1,h2,h3,h4⟩:=hr.memOf hmem;obtain⟨hlen,hget⟩:=Lm hpass;simp only[Zhu]at hlen;have hX0:=hX;simp only[eval,ZgK]at hX0;obtain⟨xs,hxs,hag⟩:=hX0;obtain⟨hxl,hxat⟩:=Yy hxs;have hxl':xs.length=cs.length:=by simpa using hxl
   have hone:∀x∈xs,x.one=true:=λx hx=>by
    obtain⟨j,hj⟩:=Zh8 hx;have hlt:j<cs.length:=by have:=(ZgL.1 hj).1;omega
    obtain⟨x',hx1,hx2⟩:=hxat j (cs[j]).2 (by rw[Zh2,ZgJ hlt];rfl);rw[hj]at hx1;cases hx1;have hc:=h4.2 j cs[j] (ZgJ hlt)
    obtain⟨z,hz,hz1,_⟩:=hc.rd (G':=λ_=>True) (λhd=>by
     have:Y9 cs=true:=Zii.2 ⟨cs[j],ZgZ hlt,by simp[hd]⟩;rw[hdead]at this;cases this) (λ_ _=>trivial) λ_ _ _ _=>trivial
    rw[hx2]at hz;cases hz;exact hz1
   have hXe:X=.agg xs:=by rw[<-hag];simp only[agV,YG hone]
   subst hXe;have hlx:xs.length=l.length:=by omega
   have hbl0:XR g h ks aq_ i 0=h.bl p 0:=by simp[XR,hi,hk]
   refine⟨_,h2,⟨.mem ((l.zip xs).map λy=>(y.1,.c y.2)),by simp only[argK,hlx,Zhp],b,vs,T,by show XR g h ks aq_ i 0=_;rw[hbl0];exact h1,rfl,h3,by rw[h4.1];simp;omega,λj ck hj=> ?_⟩,.inl ⟨l,b,rfl,h1,rfl⟩⟩;simp only[Zh2,ZgK]at hj;obtain⟨⟨ck1,x1⟩,hj,rfl⟩:=hj;rw[Zk9]at hj;obtain⟨hj1,hj2⟩:=hj;have hlt:j<cs.length:=by have:=(ZgL.1 hj2).1;omega
   obtain⟨x',hx1,hx2⟩:=hxat j (cs[j]).2 (by rw[Zh2,ZgJ hlt];rfl);simp only at hj2 hj1;rw[hj2]at hx1;cases hx1;have hc:=h4.2 j cs[j] (ZgJ hlt)
   have hcb:XR g h ks aq_ i (j+1)=match cs[j]with|(.own _,_)=>h.bl p (j+1)|_=>none:=by
    simp only[XR,hi,hk,hmem,ZgS,ZgJ hlt];rcases cs[j]with ⟨kk,e⟩;cases kk<;>rfl
   rcases hget j (cs[j]).1 ck1 (by rw[Zh2,ZgJ hlt];rfl) hj1 with he|⟨he,rfl|⟨ty,rfl,h0⟩⟩
   ·rw[<-he];show RelC c.P B [] w (XT g h w ks aq_) (XR g h ks aq_ i (j+1)) (cs[j]).1 (.c x1) (vs.getD j undef);rw[hcb];have hcc:=hc.const hx2 (h2:=XT g h w ks aq_) rfl;generalize cs[j]=q at hcc;obtain⟨kk,e⟩:=q;cases kk with
    |own ty=>exact hcc
    |fz=>exact hcc
    |nil=>exact hcc
    |dead=>exact hcc
   ·show RelC c.P B [] w (XT g h w ks aq_) (XR g h ks aq_ i (j+1)) .fz (.c x1) (vs.getD j undef);generalize cs[j]=q at he hc hx2;obtain⟨kk,e⟩:=q;simp only at he;subst he;obtain⟨e1,e2⟩:=hc;simp only at hx2 e2;rw[e2]at hx2;cases hx2;rw[e1];exact⟨_,rfl,rfl,.nil _ _ (ZhO _)⟩
   ·show RelC c.P B [] w (XT g h w ks aq_) (XR g h ks aq_ i (j+1)) (.own ty) (.c x1) (vs.getD j undef);rw[hcb];generalize cs[j]=q at he hc hx2;obtain⟨kk,e⟩:=q;simp only at he;subst he;obtain⟨e1,e2⟩:=hc;simp only at hx2 e2;rw[e2]at hx2;cases hx2;rw[e1];exact⟨_,rfl,.inl ⟨[],[],rfl,h0,λx hx=>by simp at hx,Ziv w B ty _,rfl,λi ck hi=>by simp[flat]at hi⟩⟩
  ·cases hp
 ·
  rename_i ty;simp only[ZgI]at hp;obtain⟨p,hs,⟨ty',e'⟩,ho,hp⟩:=hp;split at hp
  ·rename_i hty;simp only at hty;subst hty;simp only[ZgH,ZgR]at hp;obtain⟨rfl,rfl⟩:=hp;obtain⟨u,hu,X',hX',hown⟩:=hr.ownOf ho;rw[hX]at hX';cases hX';have hcb:XR g h ks aq_ i 1=h.bl p 1:=by simp[XR,hi,hk]
   refine⟨u,hu,⟨_,rfl,X,rfl,?_⟩,.inr ⟨_,rfl⟩⟩;show OwnV c.P B w (XT g h w ks aq_) (XR g h ks aq_ i 1) ty' X u;rw[hcb];exact hown.mono (λ_ hb=>hb) rfl
  ·cases hp
 ·cases hp
theorem Z2o(hr:RelG c B G s a w h g)(hC:holds s (ixC c C)){k:OT}{x:AP}{y:E×Option Nat}(hp:VX c g C k x=some y){X:V}(hX:eval s y.1=some X){v:Value}(hv:apV a h x v){ks:List OT}{aq_:List (E×Option Nat)}{i:Nat}(hk:ks[i]?=some k)(hi:aq_[i]?=some y):
  (∃tk,argK k X=some tk/\RelK c.P B [] w (XT g h w ks aq_) (λ_=>none) i v tk)/\∀p,y.2=some p->a.tmps[p]?=some v:=by
 obtain⟨e,o⟩:=y;cases o with
 |none=>
  refine⟨?_,λp hp=>by cases hp⟩;unfold VX at hp;split at hp
  ·split at hp
   ·rename_i x ty;simp only[ZgI]at hp;obtain⟨a0,ha0,hp⟩:=hp;split at hp
    ·rename_i hemp;simp only[ZgH,ZgR,and_true]at hp;subst hp;obtain⟨z,hz,hzr⟩:=UF hr hC ha0;obtain⟨z',hz',hzr'⟩:=J5 (fl:=Xx c.P ty) (b:=a0) hz hzr ⟨X,hX⟩;simp only at hX;rw[hX]at hz';cases hz';have hv:v=a.eval x:=hv;subst hv;rw[Zjh.1 hemp]at hzr';exact⟨_,rfl,X,rfl,hzr'.F.mono λb hb=>GH.ext_F hb⟩
    ·cases hp
   ·cases hp
  ·simp only[ZgI]at hp;obtain⟨_,_,_,_,hp⟩:=hp;split at hp
   grind
   ·cases hp
  ·simp only[ZgI]at hp;obtain⟨_,_,_,_,hp⟩:=hp;split at hp
   grind
   ·cases hp
  ·cases hp
 |some p=>
  obtain⟨u,hu,hrel,hcase⟩:=Qo hr hp hX hk hi
  have huv:u=v:=by
   unfold VX at hp;split at hp
   ·split at hp
    ·simp only[ZgI]at hp;obtain⟨_,_,hp⟩:=hp;split at hp
     grind
     ·cases hp
    ·cases hp
   ·simp only[ZgI]at hp;obtain⟨p',hs,cs,hmem,hp⟩:=hp;split at hp
    ·simp only[ZgH,ZgR]at hp;obtain⟨_,rfl⟩:=hp;obtain⟨b,q1,rfl⟩:=Z6M hr hC hs hv;simp_all
    ·cases hp
   ·simp only[ZgI]at hp;obtain⟨p',hs,⟨ty',e'⟩,ho,hp⟩:=hp;split at hp
    ·simp only[ZgH,ZgR]at hp;obtain⟨_,rfl⟩:=hp;unfold ZdH at hs;split at hs
     ·rename_i t tt;have hv:v=a.eval (.tmp t):=hv;subst hv;split at hs
      ·simp_all[ZgH,Act.eval_tmp]
      ·rename_i q hk2;simp only[ZgH]at hs;subst hs;have hrel:a.tmps[q]?=some (a.eval (.tmp t)):=ZQ hr hC hk2 rfl 0;simp_all
      ·cases hs
     ·cases hs
    ·cases hp
   ·cases hp
  simp_all
end
end Vm
namespace Vm
open Go
open Go.RowKit (Below)
section
variable {c:Ctx}{B:Nat}{G:Nat->Prop}{s:St}{a a':Act}{w w':World}{h h' hx:GH}{g:Gam}{C:Zi}{fz ps rb:List Nat}{ops:Array Oper}{ks:List OT}{aq_:List (E×Option Nat)}
structure OPost (c:Ctx) (B:Nat) (G:Nat->Prop) (s:St) (a a':Act) (w w':World) (h h':GH) (os:OS):Prop where
 step:Step B os.ps os.rb os.fz w w' h h'
 ok:Ok B G w' h'
 size:a'.tmps.size=a.tmps.size
 defers:a'.defers=a.defers
 tm:∀t,t∉os.ps->a'.tmps[t]?=a.tmps[t]?
 ent:∀t∈Zz os.d,(holds s (ixC c (os.d.at t).1)->(os.d.at t).2.isNo=false->∃v,a'.tmps[t]?=some v/\RelK c.P B s w' h' (λp=>a'.tmps[p]?) t v (os.d.at t).2)/\(¬holds s (ixC c (os.d.at t).1)->a'.tmps.getD t undef=undef)
theorem Qp(a:Act)(d:Option Nat)(v:Value):(a.put d v).tmps.size=a.tmps.size:=by
 cases d<;>simp[Act.put]
theorem Uo(a:Act)(d:Option Nat)(v:Value):(a.put d v).defers=a.defers:=by
 cases d<;>rfl
theorem Z9k{d:Nat}(v:Value){t:Nat}(ht:t∉ [d]):(a.put (some d) v).tmps[t]?=a.tmps[t]? :=JI (by grind) v
def Wi(h hx:GH)(aq_:List (E×Option Nat)):GH:=
 {F:=λb=>h.F b\/hx.F b,K:=h.K,
  bl:=λu j=>match UP aq_ u with
   |some i=>if j=0 then h.bl u 0 else hx.bl i j
   |none=>h.bl u j}
theorem Z9E(hok:Ok B G w h)(hn:(aq_.filterMap (·.2)).Nodup)(hokx:Ok B h.F w' hx)(hK:hx.K=(XT g h w ks aq_).K)(hsz:w.heap.size<=w'.heap.size)
  (hks:∀(i:Nat) (e:E) (p:Nat),aq_[i]?=some (e,some p)->(∃l,ks[i]?=some (.mem l)/\hx.bl i 0=h.bl p 0)\/∃ty,ks[i]?=some (.own ty)):Ok B G w' (Wi h hx aq_):=by
 have hKlt:∀b,h.K b->(XT g h w ks aq_).K b:=λb hb=>⟨hok.k_lt b hb,λi j hbl=>by
  obtain⟨p,_,_,_,_,_,h1,_⟩:=YR hbl;exact hok.k_bl p j b h1 hb⟩
 have isK:∀ {t j b:Nat},h.bl t j=some b->UP aq_ t=none->hx.K b:=by
  intro t j b hb ht;rw[hK];refine⟨(hok.b_lt t j b hb).2.1,λi q hbl=> ?_⟩;obtain⟨p,e,_,h1,_,_,h3,_⟩:=YR hbl;obtain⟨rfl,_⟩:=hok.inj t j p q b hb h3;exact To ht (UA h1)
 have isK0:∀ {t i:Nat} {e:E} {b:Nat},aq_[i]?=some (e,some t)->(∃ty,ks[i]?=some (OT.own ty))->h.bl t 0=some b->hx.K b:=by
  intro t i e b hi hk hb;rw[hK];refine⟨(hok.b_lt t 0 b hb).2.1,λi' q hbl=> ?_⟩;obtain⟨p,e',k,h1,h2,_,h3,h4⟩:=YR hbl;obtain⟨rfl,rfl⟩:=hok.inj t 0 p q b hb h3;have:=Qt hn hi h1;subst this;obtain⟨ty,hk⟩:=hk;rw[hk]at h2;cases h2;have:=h4 ty rfl;omega
 have notF:∀ {t j b:Nat},h.bl t j=some b->hx.K b->¬(h.F b\/hx.F b):=by
  intro t j b hb hkb hF;rcases hF with hF|hF
  ·exact(hok.b_lt t j b hb).2.2 hF
  ·rcases hokx.k_F b hF with h1|h1
   ·exact(hok.b_lt t j b hb).2.2 h1
   simp_all
 refine⟨hokx.base,λb hb=> ?_,λb hb=> ?_,λb hb=>.inl (hok.g_F b hb),λt j b hb=> ?_,λt j u q b hb hb'=> ?_,λb hb=>ZgV (hok.k_lt b hb) hsz,λt j b hb hkb=> ?_,λb hb=> ?_⟩
 ·rcases hb with hb|hb
  ·exact ZgV (hok.f_lt b hb) hsz
  ·exact hokx.f_lt b hb
 ·rcases hb with hb|hb
  ·exact hok.f_or b hb
  ·rcases hokx.f_or b hb with h1|h1
   ·exact hok.f_or b h1
   omega
 ·simp only[Wi]at hb⊢;split at hb
  ·rename_i i hix;obtain⟨e,hi⟩:=Wf hix;split at hb
   ·rename_i hj;subst hj;rcases hks i e t hi with ⟨l,hk,h0⟩|hk
    ·rw[<-h0]at hb;obtain⟨q1,q2,q3⟩:=hokx.b_lt i 0 b hb;refine⟨q1,q2,λhF=> ?_⟩;rcases hF with hF|hF
     ·exact q3 (hokx.g_F b hF)
     grind
    ·obtain⟨q1,q2,_⟩:=hok.b_lt t 0 b hb
     grind
   ·obtain⟨q1,q2,q3⟩:=hokx.b_lt i j b hb;refine⟨q1,q2,λhF=> ?_⟩;rcases hF with hF|hF
    ·exact q3 (hokx.g_F b hF)
    grind
  ·rename_i hix;obtain⟨q1,q2,_⟩:=hok.b_lt t j b hb
   grind
 ·
  have place:∀ {t j:Nat},(Wi h hx aq_).bl t j=some b->(∃i e,aq_[i]?=some (e,some t)/\hx.bl i j=some b)\/(h.bl t j=some b/\hx.K b):=by
   intro t j hb;simp only[Wi]at hb;split at hb
   ·grind [Wf]
   ·grind
  rcases place hb with ⟨i,e,hi,h1⟩|⟨h1,h2⟩<;>rcases place hb' with ⟨i',e',hi',h1'⟩|⟨h1',h2'⟩
  ·obtain⟨rfl,rfl⟩:=hokx.inj i j i' q b h1 h1';simp_all
  ·exact absurd h2' (hokx.k_bl i j b h1)
  ·exact absurd h2 (hokx.k_bl i' q b h1')
  ·exact hok.inj t j u q b h1 h1'
 ·have hkx:=hKlt b hkb;rw[<-hK]at hkx;simp only[Wi]at hb;split at hb
  ·rename_i i hix;split at hb
   ·exact hok.k_bl t 0 b (by assumption) hkb
   ·exact hokx.k_bl i j b hb hkx
  ·exact hok.k_bl t j b hb hkb
 ·rcases hb with hb|hb
  ·exact hok.k_F b hb
  ·rcases hokx.k_F b hb with h1|h1
   ·exact hok.k_F b h1
   ·exact .inr λhkb=>h1 (by rw[hK];exact hKlt b hkb)
theorem Z4y(hok:Ok B G w h){d:Nat}(hbel:Below B w w')(hsame:Same (XT g h w ks aq_).K w w'):Step B (d::aq_.filterMap (·.2)) [d] [] w w' h (Wi h hx aq_):=by
 refine⟨hbel,λb hlt hn=>hsame b ⟨hlt,λi j hb=> ?_⟩,λb hb=>.inl hb,λt ht _=> ?_,λt ht=> ?_,λ_ _ _ _ hm=>(by simp at hm),rfl⟩
 ·grind [YR,UA]
 ·grind [UP,Wf,absurd,List.mem_cons_of_mem,UA,Wi]
 grind [Wi]
theorem Qm{i0:Nat}:∀ {q:Nat} {ks:List OT} {aq_:List (E×Option Nat)} {ys:List V},aq_.length=ks.length->ys.length=ks.length->(∀(j:Nat) (k:OT) (y:E×Option Nat),ks[j]?=some k->aq_[j]?=some y->(y.2=none↔k=OT.fz))->∀(t:Nat),t∈Zz (Xy i0 q ks aq_)->
  ∃(j:Nat) (k:OT) (e:E) (y:V) (r:Nat),ks[j]?=some k/\aq_[j]?=some (e,some t)/\ys[j]?=some y/\(Xy i0 q ks aq_).at t=([],newK i0 (q+r) k)/\(Xu ks ys)[r]?=some y
 |q,[],aq_,ys,_,_,_,t,ht=>by
  have:Xy i0 q [] aq_=[]:=by unfold Xy;rfl
  rw[this]at ht;simp[Zz]at ht
 |q,k::ks,[],ys,h1,_,_,t,ht=>by simp at h1
 |q,k::ks,(e,o)::aq_,[],_,h2,_,t,ht=>by simp at h2
 |q,k::ks,(e,o)::aq_,y::ys,h1,h2,h3,t,ht=>by
  have hk:=h3 0 k (e,o) rfl rfl;have h3':∀(j:Nat) (k:OT) (y:E×Option Nat),ks[j]?=some k->aq_[j]?=some y->(y.2=none↔k=.fz):=λj k y h4 h5=>h3 (j+1) k y (by simpa using h4) (by simpa using h5);cases o with
  |none=>
   have hkz:k=.fz:=hk.1 rfl;subst hkz;have e1:Xy i0 q (.fz::ks) ((e,none)::aq_)=Xy i0 q ks aq_:=by simp only[Xy]
   have e2:Xu (.fz::ks) (y::ys)=Xu ks ys:=by simp only[Xu]
   rw[e1]at ht⊢;obtain⟨j,k',e',y',r,q1,q2,q3,q4,q5⟩:=Qm (ys:=ys) (by simpa using h1) (by simpa using h2) h3' t ht;exact⟨j+1,k',e',y',r,by simpa using q1,by simpa using q2,by simpa using q3,q4,by rw[e2];exact q5⟩
  |some p=>
   have hkz:k≠.fz:=λe=>by have:=hk.2 e;cases this
   have e1:Xy i0 q (k::ks) ((e,some p)::aq_)=(p,[],newK i0 q k)::Xy i0 (q+1) ks aq_:=by simp only[Xy]
   have e2:Xu (k::ks) (y::ys)=y::Xu ks ys:=by cases k<;>first|exact absurd rfl hkz|simp only[Xu]
   rw[e1]at ht⊢;by_cases hpt:p=t
   ·subst hpt;exact⟨0,k,e,y,0,rfl,rfl,rfl,by simp[Gam.at],by rw[e2];rfl⟩
   ·have ht':t∈Zz (Xy i0 (q+1) ks aq_):=by
     simp only[Zz,Zha,Zh0]at ht;exact ht.resolve_left λe=>hpt e.symm
    obtain⟨j,k',e',y',r,q1,q2,q3,q4,q5⟩:=Qm (ys:=ys) (by simpa using h1) (by simpa using h2) h3' t ht';exact⟨j+1,k',e',y',r+1,by simpa using q1,by simpa using q2,by simpa using q3,by simp only[Gam.at,if_neg hpt];rw[q4,Zif,ZjC 1 r],by rw[e2];simpa using q5⟩
theorem JA{i0:Nat}:∀ {q:Nat} {ks:List OT} {aq_:List (E×Option Nat)},aq_.length=ks.length->Zz (Xy i0 q ks aq_)=aq_.filterMap (·.2)
 |q,[],[],_=>by simp[Xy,Zz]
 |q,[],_::_,h=>by simp at h
 |q,k::ks,[],h=>by simp at h
 |q,k::ks,(e,o)::aq_,h=>by
  cases o with
  |none=>
   have e1:Xy i0 q (k::ks) ((e,none)::aq_)=Xy i0 q ks aq_:=by simp only[Xy]
   rw[e1,JA (by simpa using h)];simp
  |some p=>
   have e1:Xy i0 q (k::ks) ((e,some p)::aq_)=(p,[],newK i0 q k)::Xy i0 (q+1) ks aq_:=by simp only[Xy]
   rw[e1];have:=JA (i0:=i0) (q:=q+1) (ks:=ks) (aq_:=aq_) (by simpa using h);simp only[Zz,Zha]at this⊢;rw[this];simp
theorem Z7Z{P:Program}{i0 q j p:Nat}{k:OT}{y:V}{L:List V}{v:Value}(hk:k≠.fz)(hst:get s i0=.v (.tup L))(hq:L[q]?=some y){hx h':GH}(hrel:∃tk,argK k y=some tk/\RelK P B [] w' hx (λ_=>none) j v tk)
  (hF:∀b,hx.F b->h'.F b) (h0:(∃l,k=.mem l)->h'.bl p 0=hx.bl j 0) (hbl:∀i,h'.bl p (i+1)=hx.bl j (i+1)) (tm:Nat->Option Value):RelK P B s w' h' tm p v (newK i0 q k):=by
 obtain⟨tk,harg,hrel⟩:=hrel;have hext:eval s (.ext (.s i0) q)=some y:=by simp only[eval,hst,ZgS,extV,hq]
 cases k with
 |fz=>simp_all
 |own ty=>
  simp only[argK,ZgH]at harg;subst harg;obtain⟨x,hx1,hown⟩:=hrel;simp only[eval,ZgH]at hx1;subst hx1;exact⟨y,hext,hown.mono hF (hbl 0).symm⟩
 |mem l=>
  cases y<;>simp only[argK]at harg<;>first|(cases harg;done)|skip
  rename_i cs;split at harg
  ·rename_i hlen;simp only[ZgH]at harg;subst harg;obtain⟨b,vs,T,e1,e2,e3,e4,e5⟩:=hrel;refine⟨b,vs,T,by simp_all,e2,e3,by simp_all,λi ck hi=> ?_⟩;simp only[Zh2,ZgK]at hi;obtain⟨⟨kk,i'⟩,hi,rfl⟩:=hi;rw[ZiP,ZgK]at hi;obtain⟨kk',hi,hki⟩:=hi;simp only[ZgR,Zhy]at hki;obtain⟨rfl,rfl⟩:=hki;have hlt:i<cs.length:=by rw[hlen];exact(ZgL.1 hi).1
   have hc:=e5 i (kk',.c cs[i]) (by grind);show RelC P B s w' h' (h'.bl p (i+1)) kk' (.fld (.ext (.s i0) q) i) (vs.getD i undef);rw[hbl]
   have hfld:cs[i].one=true->eval s (.fld (.ext (.s i0) q) i)=some cs[i]:=λh1=>by
    simp only[eval,hst,ZgS,extV,hq,fldV,V.pc,ZgJ hlt,oneV,h1,Zhp]
   cases kk' with
   |fz=>
    obtain⟨x,q1,q2,q3⟩:=hc;simp only[eval,ZgH]at q1;subst q1;exact⟨_,hfld q2,q2,q3.mono hF⟩
   |own ty=>
    obtain⟨x,q1,q2⟩:=hc;simp only[eval,ZgH]at q1;subst q1;exact⟨_,hfld q2.one,q2.mono hF rfl⟩
   |nil=>
    obtain⟨q1,q2⟩:=hc;simp only[eval,ZgH]at q2;exact⟨q1,by rw[hfld (by rw[q2];rfl),q2]⟩
   |dead=>exact hc
  grind
 |nil=>grind [argK]
 |clo f l=>grind [argK]
theorem Xo:∀ {ks:List OT} {aps:List AP} {aq_:List (E×Option Nat)},Wc c g C ks aps=some aq_->aps.length=ks.length/\aq_.length=ks.length/\∀(i:Nat) (k:OT) (x:AP) (y:E×Option Nat),ks[i]?=some k->aps[i]?=some x->aq_[i]?=some y->VX c g C k x=some y
 | [],[],aq_,h=>by
   simp only[Wc,ZgH]at h;subst h;exact⟨rfl,rfl,λi k x y hk=>by simp at hk⟩
 | [],_::_,aq_,h=>by simp[Wc]at h
 |_::_,[],aq_,h=>by simp[Wc]at h
 |k::ks,x::l,aq_,h=>by
  simp only[Wc,ZgI,ZgK]at h;obtain⟨y,hy,ys,hys,rfl⟩:=h;obtain⟨h1,h2,h3⟩:=Xo hys;refine⟨by simp[h1],by simp[h2],λi k' x' y' q1 q2 q3=> ?_⟩;cases i with
  |zero=>simp at q1 q2 q3;subst q1 q2 q3;exact hy
  |succ i=>exact h3 i k' x' y' (by grind) (by grind) (by grind)
theorem Z7j(hr:RelG c B G s a w h g)(hC:holds s (ixC c C)){aps:List AP}(hp:Wc c g C ks aps=some aq_){xs:List V}(hxs:Yc s (aq_.map (·.1))=some xs){vs:Array Value}(hvl:vs.size=aps.length)(hvs:∀(i:Nat) (x:AP),aps[i]?=some x->apV a h x (vs.getD i undef)):
  RelA c.P B w (XT g h w ks aq_) ks xs vs:=by
 obtain⟨h1,h2,h3⟩:=Xo hp;obtain⟨h4,h5⟩:=Yy hxs;refine⟨by rw[h4];simpa using h2,by omega,λi k x hk hx=> ?_⟩;have hlt:i<ks.length:=(ZgL.1 hk).1;have ha:aps[i]?=some aps[i]:=ZgJ (by omega);have hs:aq_[i]?=some aq_[i]:=ZgJ (by omega);obtain⟨x',hx1,hx2⟩:=h5 i (aq_[i]).1 (by rw[Zh2,hs];rfl);rw[hx]at hx1;cases hx1;exact(Z2o hr hC (h3 i k _ _ hk ha hs) hx2 (hvs i _ ha) hk hs).1
theorem KN(hr:RelG c B G s a w h g){aps:List AP}(hp:Wc c g C ks aps=some aq_)(hn:(aq_.filterMap (·.2)).Nodup){d:Nat}(hd:d<a.tmps.size)(hdp:d∉aq_.filterMap (·.2)){all:Gam}{efs:List EF}{chks:List (Zi×E)}{kd:TK}
  {vs:Array Value} (hslot:∀(i:Nat) (e:E) (p:Nat),aq_[i]?=some (e,some p)->a.tmps[p]?=some (vs.getD i undef)/\((∃l b,ks[i]?=some (.mem l)/\h.bl p 0=some b/\vs.getD i undef=.pointer (some ⟨b,0,none⟩))\/∃ty,ks[i]?=some (.own ty)))
  (hz:∀(j:Nat) (k:OT) (y:E×Option Nat),ks[j]?=some k->aq_[j]?=some y->(y.2=none↔k=OT.fz))
  (hokx:Ok B h.F w' hx) (hK:hx.K=(XT g h w ks aq_).K) (hbel:Below B w w') (hsame:Same (XT g h w ks aq_).K w w') {ys:List V} (hB:RelB c.P B w' hx ks ys vs) {r0:V} (hget:Xu ks ys≠[]->get s (c.ix d)=.v (.tup (r0::Xu ks ys)))
  {u:Value} (hu:holds s (ixC c C)->RelK c.P B s w' (Wi h hx aq_) (λp=>(a.put (some d) u).tmps[p]?) d u kd) (hu':¬holds s (ixC c C)->u=undef):
  OPost c B G s a (a.put (some d) u) w w' h (Wi h hx aq_) {d:=(d,C,kd)::Xy (c.ix d) 1 ks aq_++Wh (d::aq_.filterMap (·.2)) [d] [] all,ps:=d::aq_.filterMap (·.2),rb:=[d],fz:=[],efs,chks}:=by
 obtain⟨h1,h2,h3⟩:=Xo hp
 have hks:∀(i:Nat) (e:E) (p:Nat),aq_[i]?=some (e,some p)->(∃l,ks[i]?=some (.mem l)/\hx.bl i 0=h.bl p 0)\/∃ty,ks[i]?=some (.own ty):=by
  intro i e p hi;obtain⟨_,hcase⟩:=hslot i e p hi;rcases hcase with ⟨l,b,hk,hb,hv⟩|hk
  ·refine .inl ⟨l,hk,?_⟩;have hlt:i<ys.length:=by rw[hB.1];exact(ZgL.1 hk).1
   obtain⟨tk,harg,hrel⟩:=hB.2 i _ ys[i] hk (by simp) (ZgJ hlt);generalize ys[i]=y at harg;cases y<;>simp only[argK]at harg<;>first|(cases harg;done)|skip
   split at harg
   ·simp only[ZgH]at harg;subst harg;obtain⟨b',vs',T,e1,e2,_⟩:=hrel;simp_all
   grind
  ·grind
 have hok':=Z9E hr.ok hn hokx hK hbel.size hks;have hst:=Z4y (hx:=hx) (d:=d) hr.ok hbel hsame;refine⟨hst,hok',Qp _ _ _,Uo _ _ _,λt ht=>JI (λe=>ht (by simp[e])) u,λt ht=> ?_⟩;simp only[ZhX,Gam.at];by_cases hdt:d=t
 ·simp_all[Zhp,Wp,ZgN,Zhe]
 ·rw[if_neg hdt,Y3];by_cases hto:t∈Zz (Xy (c.ix d) 1 ks aq_)
  ·rw[if_pos hto];obtain⟨j,k,e,y,r,q1,q2,q3,q4,q5⟩:=Qm (i0:=c.ix d) (q:=1) (ys:=ys) h2 hB.1 hz t hto;rw[q4];refine⟨λ_ _=>⟨vs.getD j undef,by rw[JI (ZiO hdt)];grind,?_⟩,λhh=>absurd (Zb s c) hh⟩;have hkz:k≠.fz:=λe'=>by grind
   have hix:=Z6L hn q2;refine Z7Z (h':=Wi h hx aq_) hkz (hget λe'=>by simp_all) (by grind) (hB.2 j k y q1 hkz q3) (λb hb=>.inr hb) (λhm=> ?_) (λi=>by simp[Wi,hix]) _;rcases hks j e t q2 with ⟨l,_,h0⟩|⟨ty,hty⟩
   ·grind [Wi]
   grind
  ·rw[if_neg hto]
   have htk:t∈Zz (Wh (d::aq_.filterMap (·.2)) [d] [] all):=by
    simp only[Zz,Zha,ZhU,ZhX,Zh0,Zh9]at ht hto⊢;rcases ht with ht|ht|ht
    ·omega
    ·simp_all
    ·exact ht
   simp_all[Qf,TK.isNo,absurd,Zb]
end
end Vm
namespace Vm
open Go
open Go.RowKit (Below)
section
variable {c:Ctx}{B:Nat}{G:Nat->Prop}{s:St}{a a':Act}{w w':World}{h h':GH}{g:Gam}{C:Zi}{fz ps rb:List Nat}{ops:Array Oper}
theorem GH.exb_of{h:GH}{big:Bool}{sh:List Nat}{b:Nat}(hb:h.ext sh b):h.exb big sh b:=by
 rcases hb with hb|⟨p,hp,i,hi⟩
 ·exact .inl hb
 ·exact .inr ⟨p,hp,i+1,.inr (by omega),hi⟩
theorem GH.exb_ext{h:GH}{sh:List Nat}{b:Nat}(hb:h.exb false sh b):h.ext sh b:=by
 rcases hb with hb|⟨p,hp,i,hi0,hi⟩
 ·exact .inl hb
 ·rcases hi0 with hi0|hi0
  ·cases hi0
  ·cases i with
   |zero=>omega
   |succ i=>exact .inr ⟨p,hp,i,hi⟩
theorem GH.exb_mono{h:GH}{big big':Bool}{sh sh':List Nat}(hb:big=true->big'=true)(hs:∀p∈sh,p∈sh'):∀b,h.exb big sh b->h.exb big' sh' b:=by
 intro b hx;rcases hx with hx|⟨p,hp,i,hi0,hi⟩
 ·exact .inl hx
 ·refine .inr ⟨p,hs p hp,i,?_,hi⟩
  grind
theorem GH.exb_lt(hok:Ok B G w h){big:Bool}{sh:List Nat}:∀b,h.exb big sh b->b<w.heap.size:=by
 intro b hb;rcases hb with hb|⟨p,_,i,_,hi⟩
 ·exact hok.f_lt b hb
 ·exact(hok.b_lt p i b hi).2.1
theorem Z1J(hr:RelG c B G s a w h g){G':Nat->Prop}(hF:∀b,h.F b->G' b):∀ {caps:List Nat} {es:List E} {xs:List V},(∀p∈caps,∀i b,h.bl p i=some b->G' b)->Z4K g caps=some es->Yc s es=some xs->
  xs.length=caps.length/\∀(i p b:Nat) (x:V),caps[i]?=some p->xs[i]?=some x->h.bl p 0=some b->Rd w G' x (.pointer (some ⟨b,0,none⟩))
 | [],es,xs,_,he,hx=>by
   simp only[Z4K,ZgH]at he;subst he;simp only[Yc,ZgH]at hx;subst hx;exact⟨rfl,λi p b x hi=>by simp at hi⟩
 |q::l,es,xs,hG,he,hx=>by
  simp only[Z4K,ZgI]at he;obtain⟨cs,hm,he⟩:=he;split at he
  ·cases he
  rename_i hd;simp only[ZgK]at he;obtain⟨es',he',rfl⟩:=he;simp only[Yc,ZgI,ZgK]at hx;obtain⟨z,hz,xs',hxs',rfl⟩:=hx;obtain⟨h1,h2⟩:=Z1J hr hF (λp hp=>hG p (by simp[hp])) he' hxs';refine⟨by simp[h1],λi p b x hi hxi hb=> ?_⟩;cases i with
  |zero=>
   simp at hi hxi;subst hi hxi;obtain⟨b',vs,T,q0,_,q2,q3⟩:=hr.memOf hm;rw[hb]at q0;cases q0;exact Jq hb q2 q3 (by grind) hz hF (hG q (by simp))
  |succ i=>exact h2 i p b x (by grind) (by simpa using hxi) hb
theorem Z9I(hr:RelG c B G s a w h g)(hC:holds s (ixC c C)){x:Operand}{e:E}{sh:List Nat}(he:bigE g (opK g C x) (qW x)=some (e,sh)){z:V}(hz:eval s e=some z):Rd w (h.exb true sh) z (a.eval x):=by
 have hF:∀b,h.F b->h.exb true sh b:=λb hb=>.inl hb;have hG:∀p∈sh,∀i b,h.bl p i=some b->h.exb true sh b:=λp hp i b hi=>.inr ⟨p,hp,i,.inl rfl,hi⟩;cases x with
 |tmp t=>
  simp only[opK,qW]at he;cases hk:look g C t with
  |mem cs=>
   rw[hk]at he;simp only[bigE]at he;split at he
   ·cases he
   rename_i hd;simp only[ZgH,ZgR]at he;obtain⟨rfl,rfl⟩:=he;obtain⟨v,hv,⟨b,vs,T,q0,rfl,q2,q3⟩,_⟩:=hr.look hC hk rfl;rw[Act.eval_tmp a t _ hv];exact Jq q0 q2 q3 (by grind) hz hF (hG t (by simp))
  |pm p o=>
   rw[hk]at he;cases o with
   |succ o=>simp[bigE]at he
   |zero=>
    simp only[bigE,ZgI]at he;obtain⟨cs,hm,he⟩:=he;split at he
    ·cases he
    rename_i hd;simp only[ZgH,ZgR]at he;obtain⟨rfl,rfl⟩:=he;obtain⟨v,hv,⟨b,q0,rfl⟩,_⟩:=hr.look hC hk rfl;obtain⟨b',vs,T,q1,_,q2,q3⟩:=hr.memOf hm;rw[q0]at q1;cases q1;rw[Act.eval_tmp a t _ hv];exact Jq q0 q2 q3 (by grind) hz hF (hG p (by simp))
  |clo f caps=>
   rw[hk]at he;simp only[bigE,ZgK,ZgR]at he;obtain⟨es,hes,rfl,rfl⟩:=he;obtain⟨v,hv,⟨vs,rfl,q1,q2⟩,_⟩:=hr.look hC hk rfl;rw[Act.eval_tmp a t _ hv];simp only[eval,ZgI]at hz;obtain⟨xs,hxs,hz⟩:=hz;simp only[ptV,ZgH]at hz;subst hz;obtain⟨h1,h2⟩:=Z1J hr hF hG hes hxs;refine .clo f xs vs (by omega) λi x hi=> ?_;have hlt:i<caps.length:=by have:=(ZgL.1 hi).1;omega
   obtain⟨b,q3,q4⟩:=q2 i caps[i] (by simp[hlt]);have:vs.getD i undef=.pointer (some ⟨b,0,none⟩):=by simp[ZgN,q4]
   grind
  |big e' sh'=>
   rw[hk]at he;simp only[bigE,ZgH,ZgR]at he;obtain⟨rfl,rfl⟩:=he;obtain⟨v,hv,⟨x,hx,hrd⟩,_⟩:=hr.look hC hk rfl;simp_all[Act.eval_tmp]
  |_=>rw[hk]at he;simp[bigE]at he
 |const v=>
  have:∀k,bigE g k 0=some (e,sh)->(∃cs,k=.mem cs)\/(∃p o,k=.pm p o)\/(∃f l,k=.clo f l)\/∃e l,k=.big e l:=by
   intro k hk;cases k<;>first|(simp[bigE]at hk;done)|exact .inl ⟨_,rfl⟩|exact .inr (.inl ⟨_,_,rfl⟩)|exact .inr (.inr (.inl ⟨_,_,rfl⟩))|simp
  have h1:=this _ he
  grind [opK]
 |func f=>grind [opK,bigE]
 |global q=>grind [opK,bigE]
theorem Z9z(hr:RelG c B G s a w h g)(hC:holds s (ixC c C)){fl:Bool}{x:Operand}{r:E×List Nat×Bool}(he:argE g C fl x=some r){z:V}(hz:eval s r.1=some z):Rd w (h.exb r.2.2 r.2.1) z (a.eval x):=by
 unfold argE at he;split at he
 ·rename_i a0 ha;simp only[ZgH]at he;subst he;obtain⟨y,hy,hyr⟩:=UF hr hC ha;obtain⟨z',hz',hzr⟩:=J5 (b:=a0) hy hyr ⟨z,hz⟩;rw[hz]at hz';cases hz';exact hzr.mono λb hb=>GH.exb_of hb
 ·simp only[ZgK]at he;obtain⟨a1,ha,rfl⟩:=he
  grind [Z9I]
theorem Z1D(hr:RelG c B G s a w h g)(hC:holds s (ixC c C)):∀ {l:List Operand} {ts:List TypeId} {es:List E×List Nat×Bool},Z4w c.P g C l ts=some es->∀ {xs:List V},Yc s es.1=some xs->
  xs.length=l.length/\∀(i:Nat) (x:Operand),l[i]?=some x->∃z,xs[i]?=some z/\Rd w (h.exb es.2.2 es.2.1) z (a.eval x)
 | [],ts,es,he,xs,hx=>by
   simp only[Z4w,ZgH]at he;subst he;simp only[Yc,ZgH]at hx;subst hx;exact⟨rfl,λi x hi=>by simp at hi⟩
 |x::l,ts,es,he,xs,hx=>by
  simp only[Z4w,ZgI,ZgK]at he;obtain⟨a0,ha,b,hb,rfl⟩:=he;simp only[Yc,ZgI,ZgK]at hx;obtain⟨z,hz1,xs',hx2,rfl⟩:=hx;obtain⟨h1,h2⟩:=Z1D hr hC hb hx2;have hzr:=Z9z hr hC ha hz1;refine⟨by simp[h1],λi y hi=> ?_⟩;cases i with
  |zero=>simp at hi;subst hi;exact⟨z,by simp,hzr.mono (GH.exb_mono (λe=>by simp[e]) λp hp=>by simp[hp])⟩
  |succ i=>
   obtain⟨z',e1,e2⟩:=h2 i y (by grind);exact⟨z',by grind,e2.mono (GH.exb_mono (λe=>by simp[e]) λp hp=>by simp[hp])⟩
theorem Z30(hr:RelG c B G s a w h g)(hC:holds s (ixC c C)){o:Oper}{fn:FN}{sh:List Nat}{args:List Operand}{ts:List TypeId}(hcall:Z4D g C o=some (fn,sh,args,ts)){n:FuncId×List V}(hf:fnV s fn=some n)(hcb:YE c.P n.1=true):
  ∃caps:Array Value,(execOp a.eval o).run c.P w=.ok (.enter n.1 ((args.map a.eval).toArray++caps)) w/\caps.size=n.2.length/\∀(i:Nat) (x:V),n.2[i]?=some x->Rd w (h.ext sh) x (caps.getD i undef):=by
 have hent:∀ {f:FuncId} {args:Array Operand} {tys:Array TypeId} {cv:Operand} {caps:Array Value},YE c.P f=true->o.op=.call {callee:=.value cv,args:=args,argTypes:=tys}->a.eval cv=.func (.func f) #[] caps->
   (execOp a.eval o).run c.P w=.ok (.enter f ((args.toList.map a.eval).toArray++caps)) w:=by
  intro f args tys cv caps hcb hop hev;unfold YE at hcb;split at hcb
  ·rename_i fn hfn;simp only[ZgM,ZhD,ZjU,ne_eq]at hcb;obtain⟨h1,h2⟩:=hcb;obtain⟨code,h3⟩:=ZhN.1 h2;have:(args.toList.map a.eval).toArray=args.map a.eval:=by rw[<-ZhP,Array.toArray_toList]
   rw[this];simp[execOp,hop,resolve,hev,Deferred.ofValue,invoke,callFunc,hfn,h1,h3]
  ·cases hcb
 unfold Z4D at hcall;split at hcall
 ·rename_i f' args' tys hop;simp only[ZgH,ZgR]at hcall;obtain⟨rfl,rfl,rfl,rfl⟩:=hcall;simp only[fnV,ZgH]at hf;subst hf;exact⟨#[],hent hcb hop rfl,rfl,λi x hi=>by simp at hi⟩
 ·rename_i t args' tys hop;split at hcall
  ·rename_i e sh' hk;simp only[ZgH,ZgR]at hcall;obtain⟨rfl,rfl,rfl,rfl⟩:=hcall;obtain⟨v,hv,⟨x,hx,hxr⟩,_⟩:=hr.look hC (show look g C t=_ from hk) rfl;simp only[fnV,hx,ZgS]at hf;unfold cloV at hf;split at hf
   ·simp only[ZgH]at hf;subst hf;cases hxr;exact⟨#[],hent hcb hop (Act.eval_tmp a t _ hv),rfl,λi x hi=>by simp at hi⟩
   ·simp only[ZgH]at hf;subst hf;cases hxr with
    |clo _ _ vs h1 h2=>grind [Act.eval_tmp]
   ·cases hf
  grind
 grind
theorem Z3N(hr:RelG c B G s a w h g)(hC:holds s (ixC c C)){o:Oper}{x y z:Operand}(ho:o.op=.pick x y z){k:TK}{es:List E}(hp:Z6k c g C x y z=some (k,es))(hes:∀e∈es,∃z,eval s e=some z)(d:Nat):PRun c B G s a w h o d k:=by
 unfold Z6k at hp;split at hp
 ·rename_i t u hk;split at hp
  ·cases hp
  ·rename_i hu;have hu:u=c.ix t:=by simpa using hu
   subst hu;simp only[ZgI,ZgK,ZgR]at hp;obtain⟨ey,hey,ez,hez,rfl,rfl⟩:=hp;obtain⟨v,hv,⟨xb,hxb,hxr⟩,_⟩:=hr.look hC (show look g C t=_ from hk) rfl;obtain⟨q,hq⟩:=hes _ (List.Mem.head _);have hq0:=hq;simp only[eval]at hq hxb;rw[hxb,ZgS]at hq
   have hst:get s (c.ix t)=.v xb:=by
    cases hg:get s (c.ix t)<;>rw[hg]at hxb<;>simp at hxb
    rw[hxb]
   have hex:∀b,xb=.bool b->(execOp a.eval o).run c.P w=.ok (.value (if b=true then a.eval y else a.eval z)) w:=by
    intro b hb;subst hb;have hvb:v=.bool b:=by cases hxr;rfl
    subst hvb;unfold execOp;simp only[ho,Act.eval_tmp a t _ hv];cases b<;>simp[asBool]
   unfold iteV at hq;split at hq
   ·have hC2:holds s (ixC c (C++[(t,true)])):=by
     have:ixC c (C++[(t,true)])=ixC c C++[(c.ix t,true)]:=by simp[ixC]
     rw[this,VQ];refine⟨hC,λx hx=> ?_⟩;simp at hx;subst hx;exact hst
    obtain⟨r,hr1,hr2⟩:=UF hr hC2 hey;rw[hr1]at hq;cases hq;exact⟨_,w,hex true rfl,PRes.here hr.ok ⟨_,hq0,hr2.mono λb hb=>GH.ext_left hb⟩⟩
   ·have hC2:holds s (ixC c (C++[(t,false)])):=by
     have:ixC c (C++[(t,false)])=ixC c C++[(c.ix t,false)]:=by simp[ixC]
     rw[this,VQ];refine⟨hC,λx hx=> ?_⟩;simp at hx;subst hx;exact hst
    obtain⟨r,hr1,hr2⟩:=UF hr hC2 hez;rw[hr1]at hq;cases hq;exact⟨_,w,hex false rfl,PRes.here hr.ok ⟨_,hq0,hr2.mono λb hb=>GH.ext_right hb⟩⟩
   ·cases hq
 ·cases hp
theorem Z8c(hr:RelG c B G s a w h g)(hC:holds s (ixC c C)){o:Oper}{k:TK}{es:List E}(hp:pkOf c g C o=some (k,es))(hes:∀e∈es,∃z,eval s e=some z)(d:Nat)(hd:o.dst=some d):PRun c B G s a w h o d k:=by
 grind [pkOf,Z3N,Zdi]
theorem yI(hr:RelG c B G s a w h g){o:Oper}(hc:LW c ops g o=some C):(holds s (ixC c C)->Region.wanted o (yielded ops a.tmps)=true)/\(¬holds s (ixC c C)->Region.wanted o (yielded ops a.tmps)=false):=by
 unfold LW at hc;unfold Region.wanted;split at hc
 ·simp_all[ZgH,trivial,absurd,Zb]
 ·rename_i j want hg;simp only[ZgI]at hc;obtain⟨t,ht,hc⟩:=hc;simp only[hg]
  have hy:yielded ops a.tmps j=match a.tmps[t]? with|some (.bool b)=>some b|_=>none:=by
   unfold yielded;rw[show(ops[j]?).bind (·.dst)=some t from by grind,ZgS];generalize a.tmps[t]?=q;cases q with
   |none=>rfl
   |some v=>rfl
  split at hc
  ·rename_i Ct u hat;split at hc
   ·rename_i hu;subst hu;simp only[ZgH]at hc;subst hc;have e1:ixC c (Ct++[(t,want)])=ixC c Ct++[(c.ix t,want)]:=by simp[ixC]
    have e2:holds s (ixC c (Ct++[(t,want)]))↔holds s (ixC c Ct)/\get s (c.ix t)=.v (.bool want):=by
     rw[e1,VQ];simp[holds]
    by_cases hCt:holds s (ixC c Ct)
    ·obtain⟨v,hv,hrel⟩:=hr.at_ t (by simp_all) (by rw[hat];rfl);rw[hat]at hrel;obtain⟨x,hx,hxr⟩:=hrel
     have hst:get s (c.ix t)=.v x:=by
      simp only[eval]at hx;cases hg:get s (c.ix t)<;>rw[hg]at hx<;>simp at hx
      rw[hx]
     rw[hy,hv];constructor
     ·intro hh;have:=(e2.1 hh).2;rw[hst]at this;simp only[SV.v.injEq]at this;subst this;have hvb:v=.bool want:=by cases hxr;rfl
      simp_all
     ·intro hh;have hne:x≠.bool want:=λe=>hh (e2.2 ⟨hCt,by rw[hst,e]⟩)
      cases hxr<;>first
       |rfl
       |simp_all
    ·have hs:=hr.skip t (by simp_all)
     have hnone:(match a.tmps[t]? with|some (.bool b)=>some b|_=>none)=(none:Option Bool):=by
      cases hh:a.tmps[t]? with
      |none=>rfl
      |some v=>
       simp only[ZgN,hh,Zhe]at hs;subst hs;rfl
     simp_all
   ·cases hc
  ·cases hc
theorem Z2p{d:Nat}{k:TK}{v:Value}{efs:List EF}{chks:List (Zi×E)}(hd:d<a.tmps.size)(hs:Step B [d] [d] [] w w' h h')(hok:Ok B G w' h')(hC:holds s (ixC c C))(hk:RelK c.P B s w' h' (λp=>(a.put (some d) v).tmps[p]?) d v k):
  OPost c B G s a (a.put (some d) v) w w' h h' {d:=[(d,C,k)],ps:=[d],rb:=[d],fz:=[],efs,chks}:=
 ⟨hs,hok,Qp _ _ _,Uo _ _ _,λt ht=>Z9k v ht,λt ht=>by
  simp_all[Zz,Gam.at,Zhp,Wp,absurd]⟩
theorem j9{d:Nat}{k:TK}{efs:List EF}{chks:List (Zi×E)}(hd:d<a.tmps.size)(hok:Ok B G w h)(hC:¬holds s (ixC c C)):
  OPost c B G s a (a.put (some d) undef) w w h h {d:=[(d,C,k)],ps:=[d],rb:=[d],fz:=[],efs,chks}:=
 ⟨Step.refl _ _ _ _,hok,Qp _ _ _,Uo _ _ _,λt ht=>Z9k _ ht,λt ht=>by
  simp_all[Zz,Gam.at,Zhp,absurd,ZgN,Wp,Zhe]⟩
theorem RelK.other{d t:Nat}{v u:Value}{k:TK}(hk:RelK c.P B s w h (λp=>a.tmps[p]?) t v k)(ht:XC d k=false):RelK c.P B s w h (λp=>(a.put (some d) u).tmps[p]?) t v k:=by
 cases k with
 |ref p=>
  have:p≠d:=λe=>by simp_all[XC]
  show(a.put (some d) u).tmps[p]?=some v;rw[JI this];exact hk
 |_=>exact hk
theorem zD:∀ {R:List Nat} {g:Gam} {t:Nat},(only g R).at t=if t∈R then g.at t else([],.no)
 | [],g,t=>rfl
 |u::R,g,t=>by
  simp only[only,Zha,Gam.at];by_cases hu:u=t
  ·grind
  ·rw[if_neg hu];have:=zD (R:=R) (g:=g) (t:=t);simp_all[only,ZiO]
theorem Z2E(hr:RelG c B G s a w h g){ks:List OT}{aps:List AP}{aq_:List (E×Option Nat)}(hp:Wc c g C ks aps=some aq_)(hX:∀(i:Nat) (e:E) (p:Nat),aq_[i]?=some (e,some p)->∃X,eval s e=some X){vs:Array Value}
  (hvs:∀(i:Nat) (e:E) (p:Nat),aq_[i]?=some (e,some p)->a.tmps[p]?=some (vs.getD i undef)):
  (∀(i:Nat) (e:E) (p:Nat),aq_[i]?=some (e,some p)->a.tmps[p]?=some (vs.getD i undef)/\((∃l b,ks[i]?=some (.mem l)/\h.bl p 0=some b/\vs.getD i undef=.pointer (some ⟨b,0,none⟩))\/∃ty,ks[i]?=some (.own ty))):=by
 obtain⟨h1,h2,h3⟩:=Xo hp;intro i e p hi;have hlt:i<ks.length:=by rw[<-h2];exact(ZgL.1 hi).1
 have hk:ks[i]?=some ks[i]:=ZgJ hlt;have ha:aps[i]?=some aps[i]:=ZgJ (by omega)
 grind [Qo,Option.some.injEq]
theorem Zde{ks:List OT}{aps:List AP}{aq_:List (E×Option Nat)}(hp:Wc c g C ks aps=some aq_):∀(j:Nat) (k:OT) (y:E×Option Nat),ks[j]?=some k->aq_[j]?=some y->(y.2=none↔k=OT.fz):=by
 obtain⟨h1,h2,h3⟩:=Xo hp;intro j k y hk hy;have hlt:j<ks.length:=(ZgL.1 hk).1;have hpo:=h3 j k _ y hk (ZgJ (by omega:j<aps.length)) hy;unfold VX at hpo
 grind [Option.bind_eq_some_iff,Option.some.injEq]
theorem WE:∀ {l:List Operand} {ts:List TypeId},(UR l ts).length=l.length/\∀(i:Nat) (x:AP),(UR l ts)[i]?=some x->∃y t,l[i]?=some y/\x=.op y t
 | [],ts=>by simp[UR]
 |x::l,[]=>by
  obtain⟨h1,h2⟩:=WE (l:=l) (ts:=[]);refine⟨by simp[UR,h1],λi y hi=> ?_⟩;cases i with
  |zero=>simp[UR]at hi;exact⟨x,0,rfl,hi.symm⟩
  |succ i=>simpa using h2 i y (by simpa[UR]using hi)
 |x::l,t::ts=>by
  obtain⟨h1,h2⟩:=WE (l:=l) (ts:=ts);refine⟨by simp[UR,h1],λi y hi=> ?_⟩;cases i with
  |zero=>simp[UR]at hi;exact⟨x,t,rfl,hi.symm⟩
  |succ i=>simpa using h2 i y (by simpa[UR]using hi)
theorem jW(hr:RelG c B G s a w h g)(hC:holds s (ixC c C)){o:Oper}{fn:FN}{ks:List OT}{aps:List AP}(hcall:jV c g C o=some (fn,ks,aps)){f:FuncId}(hf:fnOf s fn=some f)(hcb:YE c.P f=true):
  ∃vs:Array Value,(execOp a.eval o).run c.P w=.ok (.enter f vs) w/\vs.size=aps.length/\∀(i:Nat) (x:AP),aps[i]?=some x->apV a h x (vs.getD i undef):=by
 have hent:∀ {args:Array Operand} {tys:Array TypeId} {cv:Operand} {caps:Array Value},o.op=.call {callee:=.value cv,args:=args,argTypes:=tys}->a.eval cv=.func (.func f) #[] caps->
   (execOp a.eval o).run c.P w=.ok (.enter f (args.map a.eval++caps)) w:=by
  intro args tys cv caps hop hev;unfold YE at hcb;split at hcb
  ·rename_i fn hfn;simp only[ZgM,ZhD,ZjU,ne_eq]at hcb;obtain⟨h1,h2⟩:=hcb;obtain⟨code,h3⟩:=ZhN.1 h2;simp[execOp,hop,resolve,hev,Deferred.ofValue,invoke,callFunc,hfn,h1,h3]
  ·cases hcb
 have plain:∀ {args:Array Operand} {tys:Array TypeId} {i:Nat} {x:AP},(UR args.toList tys.toList)[i]?=some x->apV a h x ((args.map a.eval).getD i undef):=by
  intro args tys i x hi;obtain⟨y,t,hy,rfl⟩:=(WE (l:=args.toList) (ts:=tys.toList)).2 i x hi;rw[Zi0]at hy;have hlt:i<args.size:=(ZgO.1 hy).1;show(args.map a.eval).getD i undef=a.eval y;simp[ZgN,hy]
 unfold jV at hcall;split at hcall
 ·rename_i f' args tys hop;simp only[ZgK,ZgR]at hcall;obtain⟨ks',_,rfl,rfl,rfl⟩:=hcall;simp only[fnOf,ZgH]at hf;subst hf;refine⟨args.map a.eval++ #[],hent hop rfl,by simp_all[WE],λi x hi=> ?_⟩
  grind
 ·rename_i t args tys hop;split at hcall
  ·rename_i f' caps hk;simp only[ZgK,ZgR]at hcall;obtain⟨ks',_,rfl,rfl,rfl⟩:=hcall;simp only[fnOf,ZgH]at hf;subst hf;obtain⟨v,hv,⟨vs,rfl,h2,h3⟩,_⟩:=hr.look hC (show look g C t=_ from hk) rfl;have hal:=(WE (l:=args.toList) (ts:=tys.toList)).1;simp only[ZiR]at hal;refine⟨args.map a.eval++vs,hent hop (Act.eval_tmp a t _ hv),by grind,λi x hi=> ?_⟩;by_cases hlt:i<args.size
   ·rw[Zhn (by omega)]at hi;have:=plain hi;simp_all[ZgN,ZiB]
   ·rw[Zh6 (by omega),Zh2,ZgK]at hi;obtain⟨p,hp,rfl⟩:=hi;rw[hal]at hp;obtain⟨b,q1,q2⟩:=h3 _ p hp;refine⟨b,q1,?_⟩;simp_all[ZgN,ZjJ]
  ·rename_i e sh hk;simp only[ZgK,ZgR]at hcall;obtain⟨ks',_,rfl,rfl,rfl⟩:=hcall;obtain⟨v,hv,⟨x,hx,hxr⟩,_⟩:=hr.look hC (show look g C t=_ from hk) rfl;simp only[fnOf,hx]at hf;split at hf
   ·rename_i f' hx';simp only[ZgH]at hx' hf;subst hx' hf;have hvf:v=.func (.func f') #[] #[]:=by cases hxr;rfl
    subst hvf;refine⟨args.map a.eval++ #[],hent hop (Act.eval_tmp a t _ hv),by simp_all[WE],λi x hi=> ?_⟩;rw[Zhw];exact plain hi
   ·cases hf
  grind
 grind
theorem Jv:∀ {ks:List OT} {aq_:List (E×Option Nat)} {os:List V},aq_.length=ks.length->oldV s ks (aq_.map (·.1))=some os->∃ys,ys.length=ks.length/\Xu ks ys=os/\∀(i:Nat) (k:OT) (y:E×Option Nat) (x:V),ks[i]?=some k->k≠.fz->aq_[i]?=some y->ys[i]?=some x->eval s y.1=some x
 | [],[],os,_,ho=>by
   simp only[ZiL,oldV,ZgH]at ho;subst ho;exact⟨[],rfl,rfl,λi k y x hk=>by simp at hk⟩
 | [],_::_,os,hl,_=>by simp at hl
 |_::_,[],os,hl,_=>by simp at hl
 |k::ks,(e,o)::aq_,os,hl,ho=>by
  by_cases hk:k=.fz
  ·subst hk;simp only[Zha,oldV]at ho;obtain⟨ys,h1,h2,h3⟩:=Jv (ks:=ks) (aq_:=aq_) (by simpa using hl) ho;refine⟨.bool false::ys,by simp[h1],by simpa only[Xu]using h2,λi k y x q1 q2 q3 q4=> ?_⟩;cases i with
   |zero=>simp at q1;exact absurd q1.symm q2
   |succ i=>exact h3 i k y x (by simpa using q1) q2 (by simpa using q3) (by simpa using q4)
  ·have e1:oldV s (k::ks) (e::aq_.map (·.1))=(eval s e).bind λx=>(oldV s ks (aq_.map (·.1))).map (x:: ·):=by cases k<;>first|exact absurd rfl hk|simp only[oldV]
   rw[Zha,e1]at ho;simp only[ZgI,ZgK]at ho;obtain⟨x,hx,os',hos,rfl⟩:=ho;obtain⟨ys,h1,h2,h3⟩:=Jv (ks:=ks) (aq_:=aq_) (by simpa using hl) hos;have e2:Xu (k::ks) (x::ys)=x::Xu ks ys:=by cases k<;>first|exact absurd rfl hk|simp only[Xu]
   refine⟨x::ys,by simp[h1],by rw[e2,h2],λi k y z q1 q2 q3 q4=> ?_⟩;cases i with
   |zero=>simp at q3 q4;subst q3 q4;exact hx
   |succ i=>exact h3 i k y z (by simpa using q1) q2 (by simpa using q3) (by simpa using q4)
def okOS(P:Program) [Lg P](s:St)(os:OS):Prop:=(∀ef∈os.efs,EFok P s ef)/\∀x∈os.chks,holds s x.1->∃z,eval s x.2=some z
theorem Z4d [Lg c.P]{lets R:List Nat}{all:Gam}{o:Oper}{os:OS}{i:Nat}(hi:ops[i]?=some o)(hR:R=Jo ops all o)(hr:RelG c B G s a w h (only all R))(hst:K5 c lets ops all o=some os)(hok:okOS c.P s os)(hn:c.n<=a.tmps.size)
  {K:Act->World->Prop} (hK:∀a' w' h',OPost c B G s a a' w w' h h' os->(∃u,a'=a.put o.dst u)->K a' w'):opG c.P ops i K a w:=by
 subst hR;unfold opG;simp only[hi];unfold K5 at hst;simp only at hst;split at hst
 ·cases hst
 ·rename_i hdn
  have hdst:∀d,o.dst=some d->d<a.tmps.size:=by
   intro d hd;rcases ZkF d c.n with hlt|hge
   ·exact ZgV hlt hn
   ·simp[Z8Y,hd,ZkG.2 hge]at hdn
  simp only[ZgI]at hst;obtain⟨C,hC,hst⟩:=hst;obtain⟨hw1,hw2⟩:=yI (ops:=ops) hr hC;split at hst
  ·
   rename_i fn ks aps d hcall hd;unfold K4 at hst;split at hst
   ·cases hst
   ·simp only[ZgI]at hst;obtain⟨aq_,has,hst⟩:=hst;split at hst
    ·cases hst
    ·rename_i hnd;simp only[ZgW,ZhD,not_or,Zj9,Zi6,Zh1]at hnd;obtain⟨hn,hdp⟩:=hnd;have hn:=Lk.1 hn;simp only[ZgH]at hst;subst hst;have hef:=hok.1 _ (List.Mem.head _);obtain⟨hl1,hl2,hget⟩:=Xo has;have hz:=Zde has;rw[hd];by_cases hh:holds s (ixC c C)
     ·rw[if_pos (hw1 hh)];obtain⟨xs,f,R,hxs,hf,⟨hcb,hvc⟩,hR⟩:=hef.1 hh;obtain⟨vs,hent,hvl,hvs⟩:=jW hr hh hcall hf hcb;have hrel:=Z7j hr hh has hxs hvl hvs;obtain⟨_,hxat⟩:=Yy hxs
      have hX:∀(i:Nat) (e:E) (p:Nat),aq_[i]?=some (e,some p)->∃X,eval s e=some X:=λi e p hi=>by
       obtain⟨X,_,hX⟩:=hxat i e (by rw[Zh2,hi];rfl);exact⟨X,hX⟩
      have hslot:=Z2E hr has hX (vs:=vs) λi e p hi=>by
       have hlt:i<ks.length:=by rw[<-hl2];exact(ZgL.1 hi).1
       have hk:ks[i]?=some ks[i]:=ZgJ hlt;have ha:aps[i]?=some aps[i]:=ZgJ (by omega);obtain⟨X,hx⟩:=hX i e p hi;exact(Z2o (ks:=ks) (aq_:=aq_) hr hh (hget i _ _ _ hk ha hi) hx (hvs i _ ha) hk hi).2 p rfl
      rw[hent,K7];refine Lg.calls_mono (hvc B w (XT _ h w ks aq_) vs (yi hr.ok hn) hrel) λe w' he=> ?_;obtain⟨v,r,ys,hx,rfl,hbel,hsame,hokx,hK',hrd,hB,hpack⟩:=he;refine⟨v,rfl,?_⟩;rw[hd];refine hK _ _ _ (KN hr has hn (hdst d hd) hdp hslot hz hokx hK' hbel hsame hB (r0:=r) (λhne=> ?_) (λ_=> ?_) λhh'=>absurd hh hh') ⟨_,by rw[hd]⟩
      ·rw[hR,hpack];cases hos:Xu ks ys with
       |nil=>exact absurd hos hne
       |cons x l=>rfl
      ·have hFx:∀b,hx.F b->(Wi h hx aq_).F b:=λb hb=>.inr hb;cases hos:Xu ks ys with
       |nil=>
        have hps:(aq_.filterMap (·.2)).isEmpty=true:=by
         cases hpe:aq_.filterMap (·.2)with
         |nil=>rfl
         |cons p l=>
          exfalso;have hpm:p∈Zz (Xy (c.ix d) 1 ks aq_):=by rw[JA hl2,hpe];simp
          obtain⟨_,_,_,_,_,_,_,_,_,q5⟩:=Qm (i0:=c.ix d) (q:=1) (ys:=ys) hl2 hB.1 hz p hpm;rw[hos]at q5;simp at q5
        rw[if_pos hps];refine⟨r,?_,hrd.mono λb hb=>GH.ext_F (hFx b hb)⟩;simp only[eval,hR,hpack,hos,Z3H]
       |cons x l=>
        have hps:¬(aq_.filterMap (·.2)).isEmpty=true:=by
         intro he;have hnil:=Zjh.1 he
         have:∀ {ks:List OT} {aq_:List (E×Option Nat)} {ys:List V},aq_.length=ks.length->(∀(j:Nat) (k:OT) (y:E×Option Nat),ks[j]?=some k->aq_[j]?=some y->(y.2=none↔k=OT.fz))->aq_.filterMap (·.2)=[]->Xu ks ys=[]:=by
          intro ks
          induction ks with
          |nil=>intro aq_ ys _ _ _;simp[Xu]
          |cons k ks ih=>
           intro aq_ ys h1 h2 h3;cases aq_ with
           |nil=>simp at h1
           |cons y aq_=>
            have hy:y.2=none:=by
             cases hy:y.2 with
             |none=>rfl
             |some p=>simp[Zim,hy]at h3
            have hk:=(h2 0 k y rfl rfl).1 hy;subst hk;cases ys with
            |nil=>simp[Xu]
            |cons z ys=>
             simp only[Xu];exact ih (by simpa using h1) (λj k y q1 q2=>h2 (j+1) k y (by simpa using q1) (by simpa using q2)) (by simpa[Zim,hy]using h3)
         have:=this (ys:=ys) hl2 hz hnil;rw[hos]at this;cases this
        rw[if_neg hps];refine⟨r,?_,hrd.mono λb hb=>GH.ext_F (hFx b hb)⟩;simp only[eval,hR,hpack,hos,Z3H,ZgS,extV,Zis]
     ·rw[if_neg (by rw[hw2 hh];simp)];obtain⟨os,hos,hgo⟩:=hef.2 hh;obtain⟨ys,hy1,hy2,hy3⟩:=Jv hl2 hos
      let vs:Array Value:=(aq_.map λy=>match y.2 with|some p=>a.tmps.getD p undef|none=>undef).toArray
      have hX:∀(i:Nat) (e:E) (p:Nat),aq_[i]?=some (e,some p)->∃X,ys[i]?=some X/\eval s e=some X:=λi e p hi=>by
       have hlt:i<ks.length:=by rw[<-hl2];exact(ZgL.1 hi).1
       have hk:ks[i]?=some ks[i]:=ZgJ hlt;have hyi:ys[i]?=some ys[i]:=ZgJ (by omega);have hkz:ks[i]≠.fz:=λe'=>by have:=(hz i _ _ hk hi).2 e';cases this
       exact⟨_,hyi,hy3 i _ _ _ hk hkz hi hyi⟩
      have hval:∀(i:Nat) (e:E) (p:Nat),aq_[i]?=some (e,some p)->a.tmps[p]?=some (vs.getD i undef):=λi e p hi=>by
       have hlt:i<ks.length:=by rw[<-hl2];exact(ZgL.1 hi).1
       have hk:ks[i]?=some ks[i]:=ZgJ hlt;have ha:aps[i]?=some aps[i]:=ZgJ (by omega);obtain⟨X,_,hx⟩:=hX i e p hi;obtain⟨v,q1,_⟩:=Qo (ks:=ks) (aq_:=aq_) hr (hget i _ _ _ hk ha hi) hx hk hi;have:vs.getD i undef=v:=by simp[vs,ZgN,hi,q1]
       rw[this];exact q1
      have hslot:=Z2E hr has (λi e p hi=>by obtain⟨X,_,hX⟩:=hX i e p hi;exact⟨X,hX⟩) hval;refine hK _ _ _ (KN hr has hn (hdst d hd) hdp hslot hz (yi hr.ok hn) rfl (.refl _ _) (.refl _ _) (ys:=ys) ⟨hy1,λi k y hk hkz hy=> ?_⟩ (r0:=.bool false) (λhne=>by rw[hy2];exact hgo (by rw[<-hy2];exact hne)) (λhh'=>absurd hh' hh) λ_=>rfl) ⟨_,by rw[hd]⟩;have hlt:i<ks.length:=(ZgL.1 hk).1;have ha:aps[i]?=some aps[i]:=ZgJ (by omega);have hs:aq_[i]?=some aq_[i]:=ZgJ (by omega);generalize aq_[i]=y0 at hs;obtain⟨e,o⟩:=y0;cases o with
      |none=>exact absurd ((hz i k _ hk hs).1 rfl) hkz
      |some p=>
       obtain⟨X,hX1,hX2⟩:=hX i e p hs;rw[hy]at hX1;cases hX1;obtain⟨v,q1,q2,_⟩:=Qo (ks:=ks) (aq_:=aq_) hr (hget i _ _ _ hk ha hs) hX2 hk hs;have:=hval i e p hs;rw[q1]at this;simp only[ZgH]at this;rw[<-this];exact q2
  ·cases hst
  split at hst
  ·
   rename_i f shf args ts d hcall hd;unfold zV at hst;split at hst
   ·cases hst
   ·simp only[ZgK]at hst;obtain⟨aq_,has,rfl⟩:=hst;by_cases hh:holds s (ixC c C)
    ·rw[if_pos (hw1 hh)];obtain⟨xs,n,r,hxs,hfn,hvc,hfl,hget⟩:=hok.1 _ (List.Mem.head _) hh;obtain⟨hl,hx⟩:=Z1D hr hh has hxs;obtain⟨hcb,hvc⟩:=hvc;obtain⟨caps,henter,hcsz,hcrd⟩:=Z30 hr hh hcall hfn hcb
     ·rw[henter,K7];refine Lg.calls_mono (hvc w (h.exb aq_.2.2 (aq_.2.1++shf)) ((args.map a.eval).toArray++caps) (GH.exb_lt hr.ok) (by simp[hl,hcsz]) λj x hj=> ?_) λe w' he=> ?_
      ·by_cases hlt:j<args.length
       ·rw[Zhn (by omega)]at hj;obtain⟨z,hz,hzr⟩:=hx j args[j] (by simp[hlt]);rw[hj]at hz;cases hz
        have:((args.map a.eval).toArray++caps).getD j undef=a.eval args[j]:=by
         rw[ZgN,ZiB (by simpa using hlt)];simp[hlt]
        rw[this];exact hzr.mono (GH.exb_mono (λe=>e) λp hp=>by simp[hp])
       ·rw[Zh6 (by omega)]at hj;have:=hcrd _ x hj
        have e:((args.map a.eval).toArray++caps).getD j undef=caps.getD (j-xs.length) undef:=by
         rw[ZgN,ZgN,ZjJ (by simp;omega)];simp[hl]
        rw[e];exact this.mono λb hb=>GH.exb_mono (λe=>by cases e) (λp hp=>by simp[hp]) b (GH.exb_of (big:=false) hb)
      ·obtain⟨v,rfl,hbel,hrd⟩:=he;refine⟨v,rfl,?_⟩;have hsz:=hbel.size
       let h':GH:= {F:=λb=>h.F b\/(w.heap.size<=b/\b<w'.heap.size),bl:=h.bl,K:=h.K}
       have hok':Ok B G w' h':=by
        refine⟨Zhc hr.ok.base hsz,λb hb=> ?_,λb hb=> ?_,λb hb=>.inl (hr.ok.g_F b hb),λt j b hb=> ?_,hr.ok.inj,λb hb=>ZgV (hr.ok.k_lt b hb) hsz,hr.ok.k_bl,λb hb=> ?_⟩
        ·rcases hb with hb|hb
         ·exact ZgV (hr.ok.f_lt b hb) hsz
         ·exact hb.2
        ·rcases hb with hb|hb
         ·exact hr.ok.f_or b hb
         ·exact .inr (Zhc hr.ok.base hb.1)
        ·obtain⟨h1,h2,h3⟩:=hr.ok.b_lt t j b hb;refine⟨h1,ZgV h2 hsz,λhF=> ?_⟩;rcases hF with hF|hF
         ·exact h3 hF
         ·omega
        ·rcases hb with hb|hb
         ·exact hr.ok.k_F b hb
         ·exact .inr λhkb=>by have:=hr.ok.k_lt b hkb;omega
       have hstep:Step B [d] [d] [] w w' h h':=⟨hbel.mono hr.ok.base,λb hb _=>hbel.block b hb,λb hb=>.inl hb,λ_ _ _=>rfl,λ_ _=>rfl,λ_ _ _ _ hm=>(by simp at hm),rfl⟩;rw[hd]
       have hexb:∀b,h.exb aq_.2.2 (aq_.2.1++shf) b->h'.exb aq_.2.2 (aq_.2.1++shf) b:=λb hb=>by
        rcases hb with hb|hb
        ·exact .inl (.inl hb)
        ·exact .inr hb
       refine hK _ _ h' (Z2p (hdst d hd) hstep hok' hh ?_) ⟨_,by rw[hd]⟩;split
       ·
        rename_i hbig;simp only[ZgM]at hbig;refine⟨r,by simp only[eval,hget],hrd.mono λb hb=> ?_⟩;rcases hb with ⟨_,hb⟩|hb
        ·rw[hbig.1]at hexb hb;exact hexb b hb
        ·exact .inl (.inr hb)
       ·rename_i hbig;refine⟨r,by simp only[eval,hget],?_⟩;split
        ·rename_i hor;simp only[ZgW]at hor;rcases hor with hflat|hfresh
         ·have hfr:=hfl hflat;unfold flV at hfr;split at hfr
          ·cases hfr
          ·rename_i hnt;split at hfr
           ·rename_i hall;exact hrd.flatAll (λy hy=>ZgT.1 hall y hy) λl hl=>hnt l hl
           ·cases hfr
         ·refine hrd.mono λb hb=> ?_;rcases hb with ⟨hb,_⟩|hb
          ·rw[hfresh]at hb;cases hb
          ·exact .inl (.inr hb)
        ·rename_i hnor;refine hrd.mono λb hb=> ?_;rcases hb with ⟨_,hb⟩|hb
         ·have hbf:aq_.2.2=false:=by
           cases hb2:aq_.2.2
           ·rfl
           ·exfalso;apply hbig;rw[hb2]at hnor⊢;simp only[Zkg];cases hz:((!(aq_.2.1++shf).isEmpty||true)&& !L1 c f&&Xx c.P o.type||L1 c f)
            ·rfl
            ·exact(hnor hz).elim
          have:=hexb b hb;rw[hbf]at this;exact GH.exb_ext this
         ·exact .inl (.inr hb)
    ·rw[if_neg (by rw[hw2 hh];simp)];rw[hd];exact hK _ _ h (j9 (hdst d hd) hr.ok hh) ⟨_,by rw[hd]⟩
  ·cases hst
  ·split at hst
   ·
    rename_i k es d hpk hd
    have hres:∃k' efs chks,os= {d:=[(d,C,k')],ps:=[d],rb:=[d],fz:=[],efs,chks}/\(holds s (ixC c C)->(∀e∈es,∃z,eval s e=some z)/\∀ {v w' h'},RelK c.P B s w' h' (λp=>a.tmps[p]?) d v k->RelK c.P B s w' h' (λp=>(a.put (some d) v).tmps[p]?) d v k'):=by
     unfold Z6R at hst;split at hst
     ·split at hst
      ·rename_i e;split at hst
       ·cases hst
       ·simp only[ZgH]at hst;subst hst;refine⟨_,_,_,rfl,λhh=>⟨λe he=>hok.2 (ixC c C,e) (ZgX.2 ⟨e,he,rfl⟩) hh,λhk=> ?_⟩⟩;obtain⟨x,hx,hget⟩:=hok.1 _ (List.Mem.head _) hh;obtain⟨y,hy,hyr⟩:=hk;rw[hx]at hy;cases hy;exact⟨x,by simp only[eval,hget],hyr⟩
      ·cases hst
     ·split at hst
      ·cases hst
      ·rename_i ht;simp only[ZgW,not_or,ZiS]at ht;simp only[ZgH]at hst;subst hst;refine⟨_,_,_,rfl,λhh=>⟨λe he=>hok.2 (ixC c C,e) (ZgX.2 ⟨e,he,rfl⟩) hh,λhk=>hk.other ht.1⟩⟩
    obtain⟨k',efs,chks,rfl,hrel⟩:=hres;by_cases hh:holds s (ixC c C)
    ·rw[if_pos (hw1 hh)];obtain⟨hes,hrel⟩:=hrel hh;obtain⟨v,w',hrun,h',hs',hok',hk'⟩:=Z8c hr hh hpk hes d hd;rw[hrun,K8,hd];exact hK _ _ h' (Z2p (hdst d hd) hs' hok' hh (hrel hk')) ⟨_,by rw[hd]⟩
    ·rw[if_neg (by rw[hw2 hh];simp),hd];exact hK _ _ h (j9 (hdst d hd) hr.ok hh) ⟨_,by rw[hd]⟩
   ·
    split at hst
    ·cases hst
    ·rename_i hguard;have hgn:o.guard=none:=by cases hg:o.guard<;>simp_all
     have hCn:C=[]:=by
      unfold LW at hC;rw[hgn]at hC;simpa using hC.symm
     subst hCn;rw[if_pos (hw1 (Zb s c))];simp only[ZgI]at hst;obtain⟨m,hm,hst⟩:=hst;split at hst
     ·rename_i hsub;simp only[ZgM,ZgT,Zi6,Zh1]at hsub;obtain⟨⟨hps,hrb⟩,hdin⟩:=hsub;simp only[ZgH]at hst;subst hst;obtain⟨n,u,w',h',hrun,hn',hpost⟩:=ZcL hr hdst hm λe he=>hok.2 ([],e) (ZgX.2 ⟨e,he,rfl⟩) (Y4 s)
      have htm:∀t,t∉m.ps->(a.put o.dst u).tmps[t]?=a.tmps[t]? :=by
       intro t ht;cases hd:o.dst with
       |none=>rfl
       |some d=>
        refine JI (λe=>ht ?_) u;rw[e];simpa[Zbz,hd]using hdin
      have hfin:OPost c B G s a (a.put o.dst u) w w' h h' (ZaS (only all (Jo ops all o)) all m):=by
       refine⟨hpost.step,hpost.ok,Qp _ _ _,Uo _ _ _,htm,λt ht=> ?_⟩;simp only[ZaS,Zz,ZhU,Zh9]at ht⊢;rw[Y3,Y3];simp only[Zz,ZhU,Zh9];by_cases h1:t∈Zz m.d
       ·have h1':t∈List.map (·.1) m.d:=h1;simp only[h1',true_or,Zhp];obtain⟨e1,e2⟩:=hpost.ent t h1;exact⟨λ_ hno=>e2 hno,λhn=>absurd (by rw[e1];exact Zb s c) hn⟩
       ·have h1':t∉List.map (·.1) m.d:=h1;by_cases h2:t∈Zz (Wh m.ps m.rb m.fz all)
        ·have h2':t∈List.map (·.1) (Wh m.ps m.rb m.fz all):=h2;simp only[h1',h2',false_or,Zhp,Zhr,Qf h2];exact⟨λ_ hno=>by simp[TK.isNo]at hno,λhn=>absurd (Zb s c) hn⟩
        ·have h2':t∉List.map (·.1) (Wh m.ps m.rb m.fz all):=h2
         have h3:t∈m.fz:=by
          rcases ht with (ht|ht)|ht
          ·exact absurd ht h1'
          ·exact absurd ht h2'
          ·have:=Vc (fz:=m.fz) (g:=only all (Jo ops all o));unfold Zz at this;rw[this]at ht;exact ht
         have htp:t∉m.ps:=λhp=>h1 (hps t hp)
         have hcalm:calm m.ps m.rb m.fz ((only all (Jo ops all o)).at t).2=true:=by
          rw[zD];split
          ·exact Ld h2
          ·exact Z04 _ _ _
         simp only[h1',h2',false_or,Zhr,Ui h3];refine⟨λhCt hno=> ?_,λhn=> ?_⟩
         ·have hno':((only all (Jo ops all o)).at t).2.isNo=false:=by
           cases hk:((only all (Jo ops all o)).at t).2<;>first|rfl|(rw[hk]at hno;simp[T6,TK.isNo]at hno)
          obtain⟨v,hv,hk⟩:=hr.at_ t hCt hno';exact⟨v,by rw[htm t htp];exact hv,hk.freeze hpost.step hr.ok hrb htp h3 hcalm htm⟩
         ·have:=hr.skip t hn;simp only[ZgN,htm t htp]at this⊢;exact this
      rw[hrun];rcases hn' with rfl|⟨rfl,rfl⟩
      ·rw[K8];exact hK _ _ h' hfin ⟨_,rfl⟩
      ·rw[Z4g];exact hK _ _ h' hfin ⟨_,rfl⟩
     ·cases hst
end
end Vm
end
