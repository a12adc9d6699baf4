import Derived.Laws.StructEq
import Derived.Test.YtjkmonbmpoegjaaSMutatorBarrier1
set_option linter.unusedSimpArgs false
set_option linter.unusedVariables false
set_option linter.defProp false
def ZbX:=@_root_.Nat.div_lt_iff_lt_mul
def Zca:=@_root_.Nat.mod_lt
def ZbY:=@_root_.Nat.mul_comm
def ZaW:=@_root_.List.isEmpty_iff
def Z8Z:=@_root_.Array.getElem?_eq_some_iff
def Z9I:=@_root_.List.map_nil
def Z9U:=@_root_.congrArg
def Zbp:=@_root_.List.getElem?_range
def ZbG:=@_root_.Nat.mul_le_mul
def Z9q:=@_root_.List.drop_eq_getElem_cons
def Z8J:=@_root_.Bool.or_eq_true
def Zb0:=@_root_.List.eq_of_mem_replicate
def ZbZ:=@_root_.List.length_replicate
def ZbH:=@_root_.List.exists_mem_of_ne_nil
def Z8t:=@_root_.Go.RowKit.Below.heap_alloc
def Z92:=@_root_.List.append_assoc
def Z9G:=@_root_.Go.World.ownsRow_nil
def Zcc:=@_root_.Go.growslice_fits
def Zai:=@_root_.Go.Result.andThen_ok
def Z9D:=@_root_.Array.toList_inj
def Zbq:=@_root_.Go.MapKept.sameNow_of_keys
def Zbu:=@_root_.List.getD_eq_getElem?_getD
def Zby:=@_root_.Go.MapKept.run_checkKey
def Zbr:=@_root_.Go.MapKept.run_findKey
def Za4:=@_root_.Go.MapKept.run_getObj_map
def Z9h:=@_root_.List.mem_cons_of_mem
def Zaa:=@_root_.List.mem_filterMap
def Zbz:=@_root_.false_or
def Zab:=@_root_.Ne.symm
def ZaX:=@_root_.List.not_mem_nil
def Zcj:=@_root_.or_false
def Zbl:=@_root_.bne_iff_ne
def Zah:=@_root_.Go.setRow_other
def Zcg:=@_root_.Go.setRow_heap
def Z9J:=@_root_.List.length_singleton
def Z9r:=@_root_.List.mem_or_eq_of_mem_set
def Z9y:=@_root_.List.length_set
def Z9u:=@_root_.List.getElem?_set_self
def Z96:=@_root_.List.getElem?_set_ne
def ZaQ:=@_root_.Bool.not_eq_false
def Zal:=@_root_.beq_eq_false_iff_ne
def Zb8:=@_root_.Go.MapKept.run_setObj_map
def Z8R:=@_root_.Array.getElem?_modify
def ZbV:=@_root_.Option.map_eq_none_iff
def Z9R:=@_root_.List.filterMap_cons
def Zau:=@_root_.List.getElem?_zip_eq_some
def Zcb:=@_root_.and_true
def Zac:=@_root_.List.getElem?_zipIdx
def Zao:=@_root_.Array.getElem?_append_left
def Zbs:=@_root_.Array.getElem?_append_right
def Zap:=@_root_.Go.Calls.mono
def Z9V:=@_root_.List.getElem?_cons_zero
def Zaz:=@_root_.Bool.true_and
section
namespace Vm
open Go
open Go.RowKit (Below)
theorem UT{k:Nat}{l:List V}(hfit: ∀x∈l,x.fits k)(hk:0<k){i:Nat}{c:V}(hi:(flat l)[i]? =some c): ∃q j z,l[q]? =some z∧j<k∧i=q*k+j∧z.cells[j]? =some c:=by
 have hlt:i<l.length*k:=by rw[←Y9 hfit];exact(Z8o.1 hi).1
 have hq:i / k<l.length:=by rw[ZbX hk];exact hlt
 have hj:=Zca i hk;have hdm:=Nat.div_add_mod i k;refine⟨i / k,i%k,l[i / k],Z8n hq,hj,by rw[ZbY];omega,?_⟩;rw[←WA hfit (Z8n hq) (i%k) hj,show i / k*k+i%k=i from by rw[ZbY];omega];exact hi
section
variable {c:Ctx} {B:Nat} {G:Nat→Prop} {s:St} {a:Act} {w w':World} {h:GH} {g:Gam} {C:Zg}
theorem Xz{P:Program}{el:TypeId}(he:elOk P el=true): ∃i z,P.info? el=some i∧i.zero=some z∧z.cells.size=i.size∧0<i.size∧i.bytes≤32768∧P.cellsOf el=i.size:=by
 unfold elOk at he;split at he
 ·rename_i i hi;split at he
  ·rename_i z hz;simp only[Z8u,Z99,Z8L]at he;exact⟨i,z,hi,hz,he.1.1,he.1.2,he.2,by simp[Program.cellsOf,hi]⟩
  ·simp at he
 ·simp at he
theorem WZ{B B':Nat}{e:TypeId}{k n:Nat}{v:Value}{xs:List Value}(hr:w.ownsRow B' e k v n xs)(hb:B≤B'):w.ownsRow B e k v n xs:=by
 refine⟨hr.1,?_⟩;rcases hr.2 with hn| ⟨g,cap,cur,rfl,h1,r⟩
 ·exact .inl hn
 ·exact .inr ⟨g,cap,cur,rfl,Z8Y hb h1,r⟩
theorem Lt(hok:Ok B G w h)(hg:w.grownBy w' none){el:TypeId}{e:E}{sh:List Nat}{l:List V}{v:Value}{xs:List Value}(he:eval s e=some (.sl l))(hk:0<c.P.cellsOf el)(hfit: ∀x∈l,x.fits (c.P.cellsOf el))
  (hown:w'.ownsRow w.heap.size el (c.P.cellsOf el) v l.length xs) (hrd: ∀(i:Nat) (ck:V),(flat l)[i]? =some ck→ ∃u,xs[i]? =some u∧Rd w (h.ext sh) ck u)
  {dst:Option Nat} {k:TK} {es:List E} (ho:Rk c dst el e sh=some (k,es)) (tm:Nat→Option Value) (d:Nat) (hd:dst=some d):PRes c B G s w h tm d k v w':=by
 subst hd;unfold Rk at ho;have hown':=WZ hown hok.base;have hext:=Z4W hok sh;simp only at ho;split at ho
 ·rename_i hcond;simp only[Z8u,ZaW]at hcond;obtain⟨_,rfl⟩:=hcond;simp only[Z8l,Z8w]at ho;obtain⟨rfl,rfl⟩:=ho
  have hrd': ∀ {h':GH},(∀b,h.F b→h'.F b)→ ∀(i:Nat) (ck:V),(flat l)[i]? =some ck→ ∃u,xs[i]? =some u∧Rd w' h'.F ck u:=by
   intro h' hF i ck hi;obtain⟨u,hu,hr⟩:=hrd i ck hi;exact⟨u,hu,hr.F.keep (T3 hok hg hok.f_lt) hF⟩
  cases hv:v.ownBlock with
  |none=>
   refine⟨{F:=h.F,bl:=fun t j=>if t=d then none else h.bl t j,K:=h.K},⟨YT hok hg,fun b hb _=>hg.block b hb (by simp),fun _ hb=>hb,fun t ht _=> ?_,fun t ht=> ?_,fun _ _ _ _ hm=>(by simp at hm),rfl⟩,
    ⟨Z8Y hok.base hg.size,fun b hb=>Z8z (hok.f_lt b hb) hg.size,hok.f_or,hok.g_F,fun t j b hb=> ?_,fun t j u q b hb hb'=> ?_,fun b hb=>Z8z (hok.k_lt b hb) hg.size,fun t j b hb=> ?_,hok.k_F⟩,.sl l,he,.inl ⟨l,xs,rfl,hk,hfit,hown',by rw[hv];simp,hrd' fun _ hb=>hb⟩⟩
   ·have:t≠d:=by simpa using ht
    funext j;simp[this]
   ·have:t≠d:=by simpa using ht
    simp[this]
   ·simp only at hb;split at hb
    ·cases hb
    ·obtain⟨h1,h2,h3⟩:=hok.b_lt t j b hb;exact⟨h1,Z8z h2 hg.size,h3⟩
   ·simp only at hb hb';split at hb<;>split at hb'<;>first| (cases hb;done) | (cases hb';done) |exact hok.inj t j u q b hb hb'
   ·simp only at hb;split at hb
    ·cases hb
    ·exact hok.k_bl t j b hb
  |some n=>
   obtain⟨h1,h2⟩:=hown.lt n hv;obtain⟨hok',hst⟩:=Un hok hg d 1 h1 h2;exact⟨_,hst,hok',.sl l,he,.inl ⟨l,xs,rfl,hk,hfit,hown',by rw[hv];simp[GH.give],hrd' fun _ hb=>hb⟩⟩
 ·simp only[Z8l,Z8w]at ho;obtain⟨rfl,rfl⟩:=ho;rcases hown.2 with ⟨rfl,hn⟩ | ⟨n,cap,cur,rfl,h1,hh,hle,hcap,hsz,htk⟩
  ·have hl:l= []:=Z95 hn;subst hl
   refine⟨h,⟨YT hok hg,fun b hb _=>hg.block b hb (by simp),fun _ hb=>hb,fun _ _ _=>rfl,fun _ _=>rfl,fun _ _ _ _ hm=>(by simp at hm),rfl⟩,
    ⟨Z8Y hok.base hg.size,fun b hb=>Z8z (hok.f_lt b hb) hg.size,hok.f_or,hok.g_F,fun t j b hb=> ?_,hok.inj,fun b hb=>Z8z (hok.k_lt b hb) hg.size,hok.k_bl,hok.k_F⟩,.sl [],he,.nil _ _ (Z9n _)⟩
   obtain⟨h1,h2,h3⟩:=hok.b_lt t j b hb;exact⟨h1,Z8z h2 hg.size,h3⟩
  ·have h2:n<w'.heap.size:=(Z8Z.1 hh).1;obtain⟨hok',hst⟩:=j4 hok hg [d] [d] h1 h2;refine⟨_,hst,hok',.sl l,he,.sl l n 0 cap (c.P.cellsOf el) (fun i=>cur.getD i undef) hle hcap (.inl (.inr rfl)) hfit (fun i hi=> ?_) fun i ck hi=> ?_⟩
   ·rw[Z97,Z8s w' n i cur el (0,0) hh];have:i<cur.size:=by rw[hsz];exact Z8z hi (Z93 _ hle)
    simp[Z8q,this]
   ·obtain⟨u,hu,hr⟩:=hrd i ck hi
    have hu':cur.getD i undef=u:=by
     rw[←htk,Z8T]at hu;split at hu
     ·simp only[Z8q];have:cur[i]? =some u:=by simpa using hu
      rw[this];rfl
     ·simp at hu
    rw[hu'];refine hr.keep (T3 hok hg hext) fun b hb=> ?_;rcases hb with hb| ⟨p,hp,i,hi⟩
    ·exact .inl (.inl hb)
    ·exact .inr ⟨p,hp,i,hi⟩
theorem jX(hr:RelG c B G s a w h g)(hC:holds s (ixC c C)){fl ag:Bool}{n:Nat}(hn:n≠0): ∀ {l:List Operand} {es:List E×List Nat},opsF g C fl l=some es→ ∀ {zs:List V},Y0 s (es.1.map (tyE ag n))=some zs→
  zs.length=l.length∧ ∀(i:Nat) (x:Operand),l[i]? =some x→ ∃z,zs[i]? =some z∧(∀l,z≠ .tup l)∧(ag=true→z.cells.length=n)∧(ag=false→z.one=true)∧Rd w (h.ext es.2) z (a.eval x)
 | [],es,he,zs,hz=>by
   simp only[opsF,Z8l]at he;subst he;simp only[Z9I,Y0,Z8l]at hz;subst hz;exact⟨rfl,fun i x hi=>by simp at hi⟩
 |x::l,es,he,zs,hz=>by
  simp only[opsF,Z8m,Z8p]at he;obtain⟨a0,ha,b,hb,rfl⟩:=he;simp only[Z8Q,Y0,Z8m,Z8p]at hz;obtain⟨z,hz1,zs',hz2,rfl⟩:=hz;obtain⟨h1,h2⟩:=jX hr hC hn hb hz2;obtain⟨k1,k2,k3,k4⟩:=T4 hr hC ha hn hz1;refine⟨by simp[h1],fun i y hi=> ?_⟩;cases i with
  |zero=>
   simp at hi;subst hi;exact⟨z,by simp,k1,k2,k3,k4.mono fun b hb=>GH.ext_left hb⟩
  |succ i=>
   obtain⟨z',e1,e2,e3,e4,e5⟩:=h2 i y (by simpa using hi);exact⟨z',by simpa using e1,e2,e3,e4,e5.mono fun b hb=>GH.ext_right hb⟩
theorem Tx(hr:RelG c B G s a w h g)(hC:holds s (ixC c C)){T:TypeId}{n:Nat}{parts:Array (Nat×Operand)}{dst:Option Nat}{k:TK}{es:List E}(hp:Vf c g C dst T n parts.toList=some (k,es))(hes: ∀e∈es,∃z,eval s e=some z)(tm:Nat→Option Value)(d:Nat)(hd:dst=some d):
  ∃v w',(Instr.buildSlice T n (parts.map fun(i,x)=>(i,a.eval x))).run c.P w= .ok v w'∧PRes c B G s w h tm d k v w':=by
 unfold Vf at hp;split at hp
 ·rename_i el hT;have hT':=qH hT;simp only[Z8m]at hp;obtain⟨ops,hops,hp⟩:=hp;split at hp
  ·rename_i hcond;obtain⟨hidx,hn,hcl,hel,hag⟩:=hcond;obtain⟨i,z,hi,hz0,hzs,h0,hby,hcs⟩:=Xz hel
   have he: ∃zz,eval s (.lit (ops.1.map (tyE (Zn c.P el) (c.P.cellsOf el))))=some zz:=by
    unfold Rk at hp;subst hd;simp only at hp;split at hp<;>(simp only[Z8l,Z8w]at hp;obtain⟨_,rfl⟩:=hp;exact hes _ (List.Mem.head _))
   obtain⟨zz,hzz⟩:=he;have hzz0:=hzz;simp only[eval,Z8p]at hzz;obtain⟨zs,hzs',rfl⟩:=hzz;obtain⟨hl,hx⟩:=jX hr hC (by omega) hops hzs'
   have hlen:parts.toList.length=n:=by
    have:=Z9U List.length hidx;simpa using this
   have hln:zs.length=n:=by rw[hl,Z8P,hlen]
   have hpi: ∀(q:Nat) (p:Nat×Operand),parts.toList[q]? =some p→p.1=q:=by
    intro q p hq;have h1:(parts.toList.map (·.1))[q]? =some p.1:=by rw[Z8D,hq];rfl
    rw[hidx,Zbp]at h1
    ·simpa using h1.symm
    ·have:=(Z8o.1 hq).1;omega
   have hfit1: ∀z,(∀l,z≠V.tup l)→(Zn c.P el=true→z.cells.length=c.P.cellsOf el)→(Zn c.P el=false→z.one=true)→z.cells.length=c.P.cellsOf el:=by
    intro z h1 h2 h3;rcases hag with hag|hag
    ·exact h2 hag
    ·cases hh:Zn c.P el with
     |true=>exact h2 hh
     |false=>rw[Yv (h3 hh),hag];rfl
   have hpart: ∀(q:Nat) (p:Nat×Operand),parts.toList[q]? =some p→ ∃z,zs[q]? =some z∧z.fits (c.P.cellsOf el)∧(a.eval p.2).cells.size=c.P.cellsOf el∧ ∀(j:Nat) (ck:V),z.cells[j]? =some ck→Rd w (h.ext ops.2) ck ((a.eval p.2).cells.getD j undef):=by
    intro q p hq;obtain⟨z,e1,e2,e3,e4,e5⟩:=hx q p.2 (by rw[Z8D,hq];rfl);obtain⟨s1,s2,s3⟩:=e5.cells e2;have hc:=hfit1 z e2 e3 e4;exact⟨z,e1,⟨hc,s2⟩,by rw[s1,hc],s3⟩
   have hfit: ∀x∈zs,x.fits (c.P.cellsOf el):=by
    intro x hxm;obtain⟨q,hq⟩:=Z8O hxm;have hlt:q<parts.toList.length:=by have:=(Z8o.1 hq).1;omega
    obtain⟨z,e1,e2,_⟩:=hpart q _ (Z8n hlt);rw[hq]at e1;cases e1;exact e2
   have hbase:((Array.range (n*i.size)).map (fun x=>z.cells[x%z.cells.size]!)).size=n*i.size:=by simp
   obtain⟨R,hR,hRs,_,hRin⟩:=SH (fun q=>some (q*i.size,i.size)) (parts.toList.map fun p=>(p.1,a.eval p.2)) ((Array.range (n*i.size)).map (fun x=>z.cells[x%z.cells.size]!)) (by
    intro p hp;obtain⟨p',hp',rfl⟩:=Z8S.1 hp;obtain⟨q,hq⟩:=Z8O hp';obtain⟨_,_,_,e3,_⟩:=hpart q p' hq;have hqi:=hpi q p' hq;have hlt:q<n:=by have:=(Z8o.1 hq).1;omega
    refine⟨p'.1*i.size,by simp only;rw[e3,hcs],?_⟩;simp only;rw[e3,hcs,hqi,hbase,←Z9M];exact Z93 _ hlt)
   rw[hbase]at hRs
   have hpow: ¬(n*i.size>2 ^ 24):=by
    have:n*i.size≤256*256:=ZbG (by omega) (by omega);omega
   have hnk:n*i.size=0∨n*i.size≠0:=by omega
   have hrun:(Instr.buildSlice T n (parts.map fun(i,x)=>(i,a.eval x))).run c.P w= .ok (.slice (some ⟨w.heap.size,0,none⟩) n n) (w.alloc (.cells R el)):=by
    have hpow': ¬(16777216<n*i.size):=by omega
    rcases hnk with hnk|hnk
    ·have hn0:n=0:=by
      rcases Nat.mul_eq_zero.1 hnk with hh|hh
      ·exact hh
      ·omega
     subst hn0
     have hpe:parts= #[]:=by
      have:parts.size=0:=by simpa using hlen
      exact Z9k this
     subst hpe
     have hRe:R= #[]:=by
      have:R.size=0:=by simpa using hRs
      exact Z9k this
     subst hRe;simp[Instr.buildSlice,Z8X hT',Yr hi,Instr.fill,newRow,Array.range_zero']
    ·simp[Instr.buildSlice,Z8X hT',Yr hi,hpow',hnk,Xl hi hz0,hR,newRow]
   refine⟨_,_,hrun,?_⟩;have hg:=Z9K w (.cells R el) none;have hown:=World.ownsRow_lit (base:=w.heap.size) (e:=el) (size:=c.P.cellsOf el) w R n (Z8v _) (by simp only[maxLen];omega) (by rw[hRs,hcs]);rw[←hln]at hown⊢;refine Lt hr.ok hg hzz0 (by omega) hfit hown (fun j ck hj=> ?_) hp tm d hd;obtain⟨q,r,y,hq,hrk,rfl,hyc⟩:=UT hfit (by omega) hj;have hlt:q<parts.toList.length:=by have:=(Z8o.1 hq).1;omega
   obtain⟨y',e1,e2,e3,e4⟩:=hpart q _ (Z8n hlt);rw[hq]at e1;cases e1;have hqi:=hpi q _ (Z8n hlt);obtain⟨pre,suf,hps⟩: ∃pre suf,parts.toList=pre++parts.toList[q]::suf:=List.append_of_mem (Z8M hlt);have hsz3:(a.eval parts.toList[q].2).cells.size=i.size:=by rw[e3,hcs]
   have hin:=hRin ((parts.toList.take q).map fun p=>(p.1,a.eval p.2)) (parts.toList[q].1,a.eval parts.toList[q].2) ((parts.toList.drop (q+1)).map fun p=>(p.1,a.eval p.2)) (by
    rw[←Z8Q (f:=fun(p:Nat×Operand)=>(p.1,a.eval p.2)),←Z9Q];congr 1;rw[←Z9q hlt,Zaq]) (q*i.size) (by simp only;rw[hqi,hsz3]) (by
    intro p hp o n' ho;obtain⟨p',hp',rfl⟩:=Z8S.1 hp;obtain⟨m,hm⟩:=Z8O hp';rw[Z8N]at hm;have:=hpi _ _ hm;simp only[Z8l,Z8w]at ho;obtain⟨rfl,rfl⟩:=ho;left;simp only;rw[hsz3,this,←Z9M];exact Z93 _ (by omega)) r (by simp only;rw[hsz3];omega)
   refine⟨(a.eval parts.toList[q].2).cells.getD r undef,?_,e4 r ck hyc⟩;rw[Z9p,hcs,hin];have hlt2:r< (a.eval parts.toList[q].2).cells.size:=by omega
   simp only[Z8q];rw[Z98 hlt2];rfl
  ·simp at hp
 ·simp at hp
theorem Tu(z:Array Value)(n:Nat)(h0:0<z.size)(j:Nat)(hj:j<n):(madeCells z n).toList[j]? =z[j%z.size]? :=by
 have:j%z.size<z.size:=Zca _ h0;simp[madeCells,hj,this]
theorem yZ(hr:RelG c B G s a w h g){n m:Operand}(hs:jJ n m=true){k:IntKind}{q:Int}(hn:a.eval n= .int k q): ∃k',a.eval m= .int k' q:=by
 unfold jJ at hs;split at hs
 ·simp only[Z99]at hs;subst hs;exact⟨k,hn⟩
 ·rename_i k1 x k2 y;simp only[Z99]at hs;subst hs;simp only[Act.eval,Value.int.injEq]at hn;exact⟨k2,by simp[Act.eval,hn.2]⟩
 ·cases hs
theorem yO(hr:RelG c B G s a w h g)(hC:holds s (ixC c C)){T:TypeId}{n m:Operand}{dst:Option Nat}{k:TK}{es:List E}(hp:Z02 c g C dst T n m=some (k,es))(hes: ∀e∈es,∃z,eval s e=some z)(tm:Nat→Option Value)(d:Nat)(hd:dst=some d):
  ∃v w',(Instr.makeSlice T (a.eval n) (a.eval m)).run c.P w= .ok v w'∧PRes c B G s w h tm d k v w':=by
 unfold Z02 at hp;split at hp
 ·rename_i el hT;have hT':=qH hT;simp only[Z8m]at hp;obtain⟨zs,hz,⟨e,sh⟩,he,hp⟩:=hp;split at hp
  ·rename_i hcond;simp only[Z8u,Z8J,Z99]at hcond;obtain⟨⟨hso,hel⟩,hag⟩:=hcond;obtain⟨i,z,hi,hz0,hzs,h0,hby,hcs⟩:=Xz hel;obtain⟨i',z',hi',hz0',hzs',hcells⟩:=Wf hz;rw[hi]at hi';cases hi';rw[hz0]at hz0';cases hz0'
   have hev: ∃zz,eval s (.mk (if Zn c.P el then .agg zs else zs.headD (.agg [])) e)=some zz:=by
    unfold Rk at hp;subst hd;simp only at hp;split at hp<;>(simp only[Z8l,Z8w]at hp;obtain⟨_,rfl⟩:=hp;exact hes _ (List.Mem.head _))
   obtain⟨zz,hzz⟩:=hev;have hzz0:=hzz;obtain⟨y,hy,hyr⟩:=YR hr hC he;simp only[eval,hy,Z8y]at hzz;generalize hzv:(if Zn c.P el then V.agg zs else zs.headD (.agg []))=zv at*;unfold mkV at hzz;split at hzz
   ·rename_i ki q;split at hzz
    ·rename_i hq;obtain⟨hq0,hq1⟩:=hq;obtain⟨q,rfl⟩:=Z8H hq0;simp only[Z8l,Z8B]at hzz;subst hzz;have hlim:q≤4294967296:=by simp only[lim]at hq1;omega
     have hn:=hyr.int_eq;obtain⟨k',hm⟩:=yZ hr hso hn;rw[hn,hm]
     have hb:i.bytes*q≤281474976710656:=by
      have:i.bytes*q≤32768*4294967296:=ZbG hby hlim;omega
     obtain⟨w',hrun,hown,hg⟩:=run_make_full (P:=c.P) w w.heap.size T el i z i.size hT' hi hz0 rfl ki k' q hb (by simp only[maxLen];omega) (Z8v _);refine⟨_,_,hrun,?_⟩
     have hzc:zv.cells=zs:=by
      rw[←hzv];rcases hag with hag|hag
      ·rw[if_pos hag];rfl
      ·split
       ·rfl
       ·have h1:zs.length=1:=hag
        match zs,h1,hcells,hzs' with
        | [x],_,hcells,hzs'=>
          simp only[List.headD_cons];obtain⟨x',hx',hc⟩:=hcells 0 (z.cells[0]'(by rw[hzs'];simp)) (Z98 _);simp at hx';subst hx';exact Yv (Sn hc)
     have hcell: ∀(j:Nat) (ck:V),zs[j]? =some ck→ ∃u,z.cells[j]? =some u∧VG u=some ck:=by
      intro j ck hj;have hlt:j<z.cells.size:=by rw[hzs'];exact(Z8o.1 hj).1
      obtain⟨x',hx',hc⟩:=hcells j _ (Z98 hlt);rw[hj]at hx';cases hx';exact⟨_,Z98 hlt,hc⟩
     have hzfit:zv.fits (c.P.cellsOf el):=by
      refine⟨by rw[hzc,←hzs',hzs,hcs],fun ck hck=> ?_⟩;rw[hzc]at hck;obtain⟨j,hj⟩:=Z8O hck;obtain⟨u,_,hc⟩:=hcell j ck hj;exact Sn hc
     have hfit: ∀x∈List.replicate q zv,x.fits (c.P.cellsOf el):=fun x hx=>by rw[Zb0 hx];exact hzfit
     rw[←hcs]at hown;have hown2:w'.ownsRow w.heap.size el (c.P.cellsOf el) (.slice (some ⟨w.heap.size,0,none⟩) q q) (List.replicate q zv).length (madeCells z.cells (q*c.P.cellsOf el)).toList:=by rw[ZbZ];exact hown
     refine Lt hr.ok hg hzz0 (by omega) hfit hown2 (fun j ck hj=> ?_) hp tm d hd;obtain⟨p,r,y',hp',hrk,rfl,hyc⟩:=UT hfit (by omega) hj;have hpq:p<q:=by simpa using(Z8o.1 hp').1
     have hy':y'=zv:=Zb0 (Z8x hp');subst hy';rw[hzc]at hyc;obtain⟨u,hu,hc⟩:=hcell r ck hyc;refine⟨u,?_,TI hc _ _⟩;have hle:p*c.P.cellsOf el+c.P.cellsOf el≤q*c.P.cellsOf el:=by rw[←Z9M];exact Z93 _ hpq
     rw[Tu _ _ (by omega) _ (by omega),hzs,←hcs,ZbY p,Nat.mul_add_mod,Nat.mod_eq_of_lt hrk];exact hu
    ·simp at hzz
   ·simp at hzz
  ·simp at hp
 ·simp at hp
end
end Vm
namespace Vm
open Go
open Go.RowKit (Below)
open Go.MapKept (IsKey bytes_beq sameNow_of_keys run_checkKey run_findKey run_keyThatStays)
section
variable {c:Ctx} {B:Nat} {G:Nat→Prop} {s:St} {a:Act} {w w':World} {h:GH} {g:Gam} {C:Zg}
theorem Ss{P:Program}{t ty e:TypeId}{i:TypeInfo}(ht:P.underlying t=some (.slice e))(hi:P.info? e=some i){size:Nat}{v:Value}{n:Nat}{xs:List Value}(hown:w.ownsRow B e size v n xs)(cp:Nat):
  (Builtin.append_ #[t,t] ty #[v,.slice none 0 cp]).run P w= .ok v w:=by
 rcases hown.2 with ⟨rfl,rfl⟩ | ⟨g,cap,cur,rfl,_,_,hnc,_⟩
 ·simp[Builtin.append_,Z8X ht,Go.sizeOf,typeInfo,hi,Builtin.lenOf,Builtin.firstCells]
 ·simp[Builtin.append_,Z8X ht,Go.sizeOf,typeInfo,hi,Builtin.lenOf,Builtin.firstCells,hnc,storeCells]
theorem Xv{P:Program}{t ty e:TypeId}(ht:P.underlying t=some (.slice e))(hel:elOk P e=true){v:Value}{n:Nat}{xs:List Value}(hown:w.ownsRow B e (P.cellsOf e) v n xs)(hB:B≤w.heap.size)
  {Gy:Nat→Prop} {l:List V} {y:Value} (hy:Rd w Gy (.sl l) y) (hk:Y7 (P.cellsOf e) l=true) (hlim:n+l.length≤lim):
  ∃v' w' news,(Builtin.append_ #[t,t] ty #[v,y]).run P w= .ok v' w'∧w'.ownsRow B e (P.cellsOf e) v' (n+l.length) (xs++news)∧w.grownBy w' v.ownBlock∧
   (v'.ownBlock=v.ownBlock∨(w.grownBy w' none∧w'.ownsRow w.heap.size e (P.cellsOf e) v' (n+l.length) (xs++news)))∧
   (∀x∈l,x.fits (P.cellsOf e))∧ ∀(i:Nat) (ck:V),(flat l)[i]? =some ck→ ∃u,news[i]? =some u∧Rd w Gy ck u:=by
 obtain⟨i,z,hi,hz,hzs,h0,hby,hcs⟩:=Xz hel;have hsl:=Sl hk
 have hnew:(∃cp,y= .slice none 0 cp∧l= [])∨ ∃ad cp,∃news:List Value,y= .slice (some ad) l.length cp∧news.length=l.length*P.cellsOf e∧(∀j u,news[j]? =some u→w.cell? (ad.add j)=some u)∧(∀u∈news,u.oneCell'=true)∧
   (∀x∈l,x.fits (P.cellsOf e))∧ ∀(i:Nat) (ck:V),(flat l)[i]? =some ck→ ∃u,news[i]? =some u∧Rd w Gy ck u:=by
  cases hy with
  |nil ad cp hc=>
   cases ad with
   |none=>exact .inl ⟨cp,rfl,rfl⟩
   |some ad=>exact .inr ⟨ad,cp,[],rfl,by simp,fun j u hj=>by simp at hj,fun u hu=>by simp at hu,fun x hx=>by simp at hx,fun i ck hi=>by simp[flat]at hi⟩
  |sl _ b o cap kk vs h1 h2 h3 h4 h5 h6=>
   refine .inr ⟨⟨b,o,none⟩,cap,(List.range (l.length*P.cellsOf e)).map vs,rfl,by simp,?_⟩;by_cases hl:l= []
   ·subst hl;exact⟨fun j u hj=>by simp at hj,fun u hu=>by simp at hu,fun x hx=>by simp at hx,fun i ck hi=>by simp[flat]at hi⟩
   ·obtain⟨x,hx⟩:=ZbH l hl;have hkk:kk=P.cellsOf e:=by rw[←(h4 x hx).1,hsl x hx]
    subst hkk;have hlenf:=Y9 h4;refine⟨fun j u hj=> ?_,fun u hu=> ?_,h4,fun i ck hi=> ?_⟩
    ·have hlt:j<l.length*P.cellsOf e:=by simpa using(Z8o.1 hj).1
     have:vs j=u:=by simpa[hlt]using hj
     rw[Za0,←this];exact h5 j hlt
    ·obtain⟨j,hj,rfl⟩:=Z8S.1 hu;have hlt:=Z9T.1 hj;have hf:(flat l)[j]? =some ((flat l)[j]'(by omega)):=Z8n _;have hr:=h6 j _ hf;rw[hr.one_eq];obtain⟨x,hx,hcx⟩:=Qj hf;exact(h4 x hx).2 _ hcx
    ·have hlt:i<l.length*P.cellsOf e:=by rw[←hlenf];exact(Z8o.1 hi).1
     exact⟨vs i,by simp[hlt],h6 i ck hi⟩
 rcases hnew with ⟨cp,rfl,rfl⟩ | ⟨ad,cp,news,rfl,hl,hnews,h1,hfit,hrd⟩
 ·refine⟨v,w,[],Ss ht hi hown cp,by simpa using hown,⟨rfl,rfl,rfl,Z8v _,fun _ _ _=>rfl⟩,.inl rfl,fun x hx=>by simp at hx,fun i ck hi=>by simp[flat]at hi⟩
 ·simp only[lim]at hlim;have h63:n+l.length≤maxLen:=by simp only[maxLen];omega
  have hbytes:(n+l.length)*i.bytes≤140737488355328:=by
   have:(n+l.length)*i.bytes≤4294967296*32768:=ZbG hlim hby;omega
  have hlen:(xs++news).length=(n+l.length)*P.cellsOf e:=by rw[Z8W,hown.1,hl,Nat.add_mul]
  have grown: ∀(old:Nat),old<n+l.length→ ∀(row:Option Nat) (cs:Array Value),cs=xs.toArray++news.toArray→
    (w.drew.alloc (.cells (cs++Builtin.zeroCells z.cells (grownCap w (n+l.length) old e- (n+l.length))) e)).ownsRow w.heap.size e (P.cellsOf e)
     (.slice (some ⟨w.heap.size,0,none⟩) (n+l.length) (grownCap w (n+l.length) old e)) (n+l.length) (xs++news)∧
    w.grownBy (w.drew.alloc (.cells (cs++Builtin.zeroCells z.cells (grownCap w (n+l.length) old e- (n+l.length))) e)) row:=by
   rintro old ho row cs rfl;have hge:=grownCap_ge w (n+l.length) old e;have hcm:grownCap w (n+l.length) old e≤maxLen:=grownCap_le_maxLen w (n+l.length) old e h63;refine⟨⟨hlen,.inr ⟨w.heap.size,_,_,rfl,Z8v _,Z8C w.drew _,hge,hcm,?_,?_⟩⟩,⟨rfl,rfl,rfl,by simp,fun k hk _=>Z8t w.drew _ k hk⟩⟩
   ·simp only[Array.size_append,Z9F,size_zeroCells,hzs,hown.1,hl,hcs,←Nat.add_mul];congr 1;omega
   ·simp only[Array.toList_append,Z92];rw[←Z92,←hlen];exact ZaS
  rcases hown.2 with ⟨rfl,rfl⟩ | ⟨g,cap,cur,rfl,hbg,hg,hnc,hcm,hcsz,htake⟩
  ·have hx:xs= []:=Z95 (by simpa using hown.1);subst hx;by_cases hm:l.length=0
   ·have hn:news= []:=Z95 (by rw[hl,hm,Nat.zero_mul]);subst hn;refine⟨.slice none 0 0,w,[],?_,by rw[hm];exact Z9G w B e _,⟨rfl,rfl,rfl,Z8v _,fun _ _ _=>rfl⟩,.inl rfl,hfit,hrd⟩;simp[Builtin.append_,Z8X ht,Go.sizeOf,typeInfo,hi,Builtin.lenOf,hm,Builtin.firstCells,loadCells,loadCellsFrom]
   ·have hr:=run_append_nil (P:=P) w t ty e i z ht hi hz ad l.length cp news (by rw[hl,hcs]) hnews (by omega) (by omega) (by simp only[Z97]at hbytes;omega);have hgr:=grown 0 (by omega);simp only[Z97,Z9d]at hgr⊢;obtain⟨g1,g2⟩:=hgr none news.toArray (by simp);exact⟨_,_,news,hr,WZ g1 hB,(hgr _ news.toArray (by simp)).2,.inr ⟨g2,g1⟩,hfit,hrd⟩
  ·by_cases hroom:n+l.length≤cap
   ·obtain⟨w',hr,ho,hgr⟩:=run_append_fits (P:=P) w B t ty e i (P.cellsOf e) ht hi hcs.symm g n cap xs hown ad l.length cp news hl hnews h1 hroom;exact⟨_,_,news,hr,ho,hgr,.inl rfl,hfit,hrd⟩
   ·have holds: ∀j u,xs[j]? =some u→w.cell? ((⟨g,0,none⟩:Addr).add j)=some u:=hown.cells (g:=g) rfl;have hr:=run_append_grow (P:=P) w t ty e i z ht hi hz ⟨g,0,none⟩ n cap xs (by rw[hown.1,hcs]) holds ad l.length cp news (by rw[hl,hcs]) hnews (by omega) (by omega) (Zcc (by omega) hbytes);have hgr:=grown cap (by omega);obtain⟨g1,g2⟩:=hgr none _ rfl;exact⟨_,_,news,hr,WZ g1 hB,(hgr _ _ rfl).2,.inr ⟨g2,g1⟩,hfit,hrd⟩
theorem Wt{k:Nat}{x y z:V}(hz:appV k x y=some z): ∃l r,x= .sl l∧y= .sl r∧l.length+r.length≤lim∧Y7 k r=true∧z= .sl (l++r):=by
 unfold appV at hz;split at hz
 ·split at hz
  ·rename_i hc;simp only[Z8l]at hz;exact⟨_,_,rfl,rfl,hc.1,hc.2,hz.symm⟩
  ·simp at hz
 ·simp at hz
theorem Z04{x z:V}(hz:flsV x=some z):x=z∧ ∃l,z= .sl l∧ ∀y∈Vm.flat l,y.flatc=true:=by
 unfold flsV at hz;split at hz
 ·rename_i l;split at hz
  ·rename_i hall;simp only[Z8l]at hz;exact⟨hz,l,hz.symm,fun y hy=>Z8A.1 hall y hy⟩
  ·simp at hz
 ·simp at hz
theorem zK(hr:RelG c B G s a w h g)(hC:holds s (ixC c C)){x:Operand}{b0:E×List Nat}(hx:opE g C x=some b0){fl:Bool}{z:V}(hz:eval s (Tc fl b0).1=some z):
  ∃G',Rd w G' z (a.eval x)∧ ∀l,z= .sl l→ ∀(i:Nat) (ck:V) (u:Value),(flat l)[i]? =some ck→Rd w G' ck u→Rd w (h.ext (Tc fl b0).2) ck u:=by
 obtain⟨y,hy,hyr⟩:=YR hr hC (show opE g C x=some (b0.1,b0.2)from hx);unfold Tc at hz⊢;split
 ·rename_i hb;rw[if_pos hb,hy]at hz;cases hz;exact⟨_,hyr,fun l hl i ck u _ hu=>hu⟩
 ·rename_i hb;rw[if_neg hb]at hz;split
  ·rename_i hfl;rw[if_pos hfl]at hz;simp only[eval,hy,Z8y]at hz;obtain⟨rfl,l,rfl,hall⟩:=Z04 hz;refine⟨_,hyr,fun l' hl' i ck u hi hu=> ?_⟩;cases hl';exact hu.flat (hall ck (Z8x hi))
  ·rename_i hfl;rw[if_neg hfl,hy]at hz;cases hz;exact⟨_,hyr,fun l hl i ck u _ hu=>hu⟩
theorem Z3f{dst:Option Nat}{d:Nat}(hd:dst=some d){el:TypeId}{e:E}{sh:List Nat}{k:TK}{es:List E}(ho:Rk c dst el e sh=some (k,es))(hes: ∀e∈es,∃z,eval s e=some z): ∃z,eval s e=some z:=by
 unfold Rk at ho;subst hd;simp only at ho;split at ho<;>(simp only[Z8l,Z8w]at ho;obtain⟨_,rfl⟩:=ho;exact hes _ (List.Mem.head _))
theorem JO(hr:RelG c B G s a w h g)(hC:holds s (ixC c C)){T U ty:TypeId}{x y:Operand}{dst:Option Nat}{k:TK}{es:List E}(hp:J0 c g C dst T U x y=some (k,es))(hes: ∀e∈es,∃z,eval s e=some z)(tm:Nat→Option Value)(d:Nat)(hd:dst=some d):
  ∃v w',(Builtin.append_ #[T,U] ty #[a.eval x,a.eval y]).run c.P w= .ok v w'∧PRes c B G s w h tm d k v w':=by
 unfold J0 at hp;split at hp
 ·rename_i el hT;have hT':=qH hT;split at hp
  ·rename_i hcond;obtain⟨rfl,hel⟩:=hcond;split at hp
   ·rename_i hk;simp only[Z8m]at hp;obtain⟨b0,hb,hp⟩:=hp;rw[UZ hr hC hk]
    have hp':Rk c dst el (.app (.c (.sl [])) (Tc (Xh c.P el) b0).1 (c.P.cellsOf el)) (Tc (Xh c.P el) b0).2=some (k,es):=by
     subst hd;simp only at hp;split at hp
     ·simp at hp
     ·exact hp
    obtain⟨z,hz⟩:=Z3f hd hp' hes;have hz0:=hz;simp only[eval,Z8y,Z8m]at hz;obtain⟨yy,hyy,hz⟩:=hz;obtain⟨l0,r,hl0,rfl,hlim,hsz,rfl⟩:=Wt hz;cases hl0;obtain⟨G',hrd,hback⟩:=zK hr hC hb hyy;obtain⟨i,zz,hi,hz1,hzs,h0,hby,hcs⟩:=Xz hel;obtain⟨v',w',news,hrun,hown,hg,hor,hfit,hnews⟩:=Xv (ty:=ty) hT' hel (Z9G w w.heap.size el (c.P.cellsOf el)) (Z8v _) hrd hsz (by simpa using hlim);refine⟨v',w',hrun,?_⟩;simp only[Z97,Z9d]at hown
    exact Lt hr.ok hg (by simpa using hz0) (by omega) hfit hown (fun i ck hi=>by
     obtain⟨u,hu,hru⟩:=hnews i ck hi;exact⟨u,hu,hback _ rfl i ck u hi hru⟩) hp' tm d hd
   ·simp at hp
  ·simp at hp
 ·simp at hp
theorem VF(hr:RelG c B G s a w h g)(hC:holds s (ixC c C)){x:Operand}{b:E×List Nat}(he:opE g C x=some b): ∃y,eval s b.1=some y∧Rd w (h.ext b.2) y (a.eval x):=YR hr hC (show opE g C x=some (b.1,b.2)from he)
def PRun(c:Ctx)(B:Nat)(G:Nat→Prop)(s:St)(a:Act)(w:World)(h:GH)(o:Oper)(d:Nat)(k:TK):Prop:=
 ∃v w',(execOp a.eval o).run c.P w= .ok (.value v) w'∧PRes c B G s w h (fun p=>a.tmps[p]?) d k v w'
theorem PRun.of{o:Oper}{d:Nat}{k:TK}{m:Sem Value}(he:execOp a.eval o=(do pure (.value (←m))))(hm: ∃v w',m.run c.P w= .ok v w'∧PRes c B G s w h (fun p=>a.tmps[p]?) d k v w'):PRun c B G s a w h o d k:=by
 obtain⟨v,w',hrun,hres⟩:=hm;exact⟨v,w',by rw[he];simp[hrun],hres⟩
theorem Has.pr(hok:Ok B G w h){o:Oper}{d:Nat}{k:TK}{m:Sem Value}(he:execOp a.eval o=(do pure (.value (←m))))(hm:Has c B s w h (fun p=>a.tmps[p]?) d k m):PRun c B G s a w h o d k:=by
 obtain⟨v,hrun,hk⟩:=hm;exact PRun.of he ⟨v,w,hrun,PRes.here hok hk⟩
theorem TT{s:St}{e:E}{as:List V}{o:Nat}{z:V}(h:eval s e=some (.agg as))(hz:eval s (.fld e o)=some z):as[o]? =some z:=by
 simp only[eval,h,Z8y,fldV,V.pc,Z8m]at hz;obtain⟨y,hy,hz⟩:=hz;unfold oneV at hz;split at hz
 ·cases hz;exact hy
 ·cases hz
def YH(P:Program)(T:TypeId)(vs:Array Value)(o:Nat):Value:=if Zn P T then .agg (vs.extract o (o+P.cellsOf T))else vs.getD o undef
theorem J3{vs:Array Value}{o n i:Nat}(hi:i<n)(h:o+n≤vs.size):(vs.extract o (o+n)).getD i undef=vs.getD (o+i) undef:=by
 simp only[Z8q,ZbU];rw[if_pos (by omega)]
theorem Rp{P:Program}{T:TypeId}{vs:Array Value}{o n q:Nat}(h:o+n≤vs.size)(hq:q+P.cellsOf T≤n)(h0:P.cellsOf T≠0):YH P T (vs.extract o (o+n)) q=YH P T vs (o+q):=by
 unfold YH;split
 ·congr 1;rw[Array.extract_extract];congr 1<;>omega
 ·exact J3 (by omega) h
theorem j6{P:Program}{a b e:E}: ∀(d:Nat) (T:TypeId) (o:Nat),eqD P a b d T o=some e→P.cellsOf T≠0∧(P.underlying T).isSome=true
 |0,_,_,h=>by simp[eqD]at h
 |d+1,T,o,h=>by
  simp only[eqD]at h;split at h
  ·rename_i hT;split at h;exact⟨by omega,by rw[hT];rfl⟩;cases h
  ·rename_i hT;split at h;exact⟨by omega,by rw[hT];rfl⟩;cases h
  ·rename_i hT;split at h;rename_i hc;exact⟨hc.2.1,by rw[hT];rfl⟩;cases h
  ·cases h
theorem jh{P:Program}{s:St}{ea eb:E}{as bs:List V}{xs ys:Array Value}{G' G'':Nat→Prop}(ha:eval s ea=some (.agg as))(hb:eval s eb=some (.agg bs))(hxs:xs.size=as.length)(hys:ys.size=bs.length)
  (hx: ∀i c,as[i]? =some c→Rd w G' c (xs.getD i undef)) (hy: ∀i c,bs[i]? =some c→Rd w G'' c (ys.getD i undef)): ∀(d D:Nat) (T:TypeId) (o:Nat) (e:E) (z:V),d≤D→o+P.cellsOf T≤xs.size→o+P.cellsOf T≤ys.size→eqD P ea eb d T o=some e→eval s e=some z→
  ∃r:Bool,(Op.equalIn (D+1) T (YH P T xs o) (YH P T ys o)).run P w= .ok r w∧z= .bool r
 |0,D,T,o,e,z,_,_,_,he,hz=>by simp[eqD]at he
 |d+1,D,T,o,e,z,hD,hbx,hby,he,hz=>by
  simp only[eqD]at he;split at he
  ·rename_i hT;split at he
   case isFalse=>cases he
   simp only[Z8l]at he;subst he;simp only[eval,Z8m]at hz;obtain⟨u,hu,v,hv,hzx⟩:=hz;have hu':=TT ha (z:=u) (o:=o) (by simpa only[eval,Z8m]using hu);have hv':=TT hb (z:=v) (o:=o) (by simpa only[eval,Z8m]using hv);have h1:=hx o u hu';have h2:=hy o v hv';have hag:Zn P T=false:=by simp[Zn,hT]
   simp only[YH,hag,Z8U,Z9f];generalize xs.getD o undef=vx at*;generalize ys.getD o undef=vy at*;cases h1<;>cases h2<;>simp only[eqV]at hzx<;>(try (simp at hzx;done))
   rename_i a b;simp only[Z8l]at hzx;exact⟨a==b,run_equalIn_bool w D T a b hT,by rw[←hzx];simp⟩
  ·rename_i q hT;split at he
   case isFalse=>cases he
   simp only[Z8l]at he;subst he;simp only[eval,Z8m]at hz;obtain⟨u,hu,v,hv,hzx⟩:=hz;have hu':=TT ha (z:=u) (o:=o) (by simpa only[eval,Z8m]using hu);have hv':=TT hb (z:=v) (o:=o) (by simpa only[eval,Z8m]using hv);have h1:=hx o u hu';have h2:=hy o v hv';have hag:Zn P T=false:=by simp[Zn,hT]
   simp only[YH,hag,Z8U,Z9f];generalize xs.getD o undef=vx at*;generalize ys.getD o undef=vy at*;cases h1<;>cases h2<;>simp only[binV]at hzx<;>(try (simp at hzx;done))
   rename_i k n k' m;split at hzx
   case isFalse=>cases hzx
   rename_i hk;subst hk;simp only[Z8l]at hzx;exact⟨n==m,run_equalIn_int w D T k q n m hT,hzx.symm⟩
  ·rename_i fs hT;split at he
   case isFalse=>cases he
   rename_i hcond;obtain⟨hne,h0,hst⟩:=hcond;have hag:Zn P T=true:=by simp[Zn,hT]
   have hfo:P.fieldsOf T=fs:=by unfold Program.fieldsOf;rw[hT]
   simp only[YH,hag,Z9c];obtain⟨D',rfl⟩: ∃D',D=D'+1:=⟨D-1,by omega⟩
   have key: ∀(l:List Field) (e:E) (z:V),binS P (eqD P ea eb d) (P.cellsOf T) o l=some e→eval s e=some z→
     ∃r:Bool,(Op.eqFields (D'+1) (xs.extract o (o+P.cellsOf T)) (ys.extract o (o+P.cellsOf T)) l).run P w= .ok r w∧z= .bool r:=by
    intro l
    induction l with
    |nil=>
     intro e z he hz;simp only[binS,Z8l]at he;subst he;simp only[eval,Z8l]at hz;exact⟨true,by simp[Op.eqFields],hz.symm⟩
    |cons f l ih=>
     intro e z he hz;simp only[binS]at he;split at he
     case isFalse=>cases he
     rename_i hc;obtain⟨hn,ho⟩:=hc;simp only[Z8m,Z8p]at he;obtain⟨x,hcx,y,hy2,rfl⟩:=he;simp only[eval,Z8m]at hz;obtain⟨zx,hzx,hz⟩:=hz;obtain⟨c0,cu⟩:=j6 d f.type _ hcx;obtain⟨t,ht,rfl⟩:=jh ha hb hxs hys hx hy d D' f.type (o+f.offset) x zx (by omega) (by omega) (by omega) hcx hzx
     have p1:(part f.type (xs.extract o (o+P.cellsOf T)) f.offset).run P w= .ok (YH P f.type xs (o+f.offset)) w:=by
      rw[←Rp hbx ho c0];exact QA (w:=w) (P:=P) cu c0 (by rw[Array.size_extract];omega)
     have p2:(part f.type (ys.extract o (o+P.cellsOf T)) f.offset).run P w= .ok (YH P f.type ys (o+f.offset)) w:=by
      rw[←Rp hby ho c0];exact QA (w:=w) (P:=P) cu c0 (by rw[Array.size_extract];omega)
     simp only[Op.eqFields,hn,ne_eq,not_false_eq_true,Z9c,Zag,p1,p2,ht,Zai];cases t
     ·simp only[iteV,eval,Z8l]at hz;exact⟨false,by simp,hz.symm⟩
     ·simp only[iteV]at hz;simpa using ih y z hy2 hz
   obtain⟨r,hr,rfl⟩:=key _ e z he hz;refine⟨r,?_,rfl⟩;have:=run_equalIn_struct w (D'+1) T (xs.extract o (o+P.cellsOf T)) (ys.extract o (o+P.cellsOf T)) (by rw[hfo];exact hT) hst;rw[hfo]at this;exact this.trans hr
  ·cases he
theorem zQ{P:Program}{s:St}{ea eb:E}: ∀(d:Nat) (T:TypeId) (o:Nat) (e:E) (z:V),eqD P ea eb d T o=some e→eval s e=some z→ ∃q t t',eval s (.fld ea q)=some t∧eval s (.fld eb q)=some t'
 |0,_,_,_,_,h,_=>by simp[eqD]at h
 |d+1,T,o,e,z,h,hz=>by
  simp only[eqD]at h;split at h
  ·split at h
   case isFalse=>cases h
   simp only[Z8l]at h;subst h;simp only[eval,Z8m]at hz;obtain⟨a,h1,b,h2,_⟩:=hz;exact⟨o,a,b,by simpa only[eval,Z8m]using h1,by simpa only[eval,Z8m]using h2⟩
  ·split at h
   case isFalse=>cases h
   simp only[Z8l]at h;subst h;simp only[eval,Z8m]at hz;obtain⟨a,h1,b,h2,_⟩:=hz;exact⟨o,a,b,by simpa only[eval,Z8m]using h1,by simpa only[eval,Z8m]using h2⟩
  ·rename_i fs hT;split at h
   case isFalse=>cases h
   rename_i hc;cases hfs:fs.toList with
   |nil=>exact absurd hfs hc.1
   |cons f l=>
    rw[hfs]at h;simp only[binS]at h;split at h
    case isFalse=>cases h
    simp only[Z8m,Z8p]at h;obtain⟨x,hcx,y,_,rfl⟩:=h;simp only[eval,Z8m]at hz;obtain⟨zx,hzx,_⟩:=hz;exact zQ d _ _ _ _ hcx hzx
  ·cases h
theorem yl{P:Program}{s:St}{ea eb e:E}{u v z:V}{uv vv:Value}{T:TypeId}{G' G'':Nat→Prop}(hq:eqSt P T ea eb=some e)(hu:eval s ea=some u)(hv:eval s eb=some v)(hur:Rd w G' u uv)(hvr:Rd w G'' v vv)(hz:eval s e=some z):
  ∃(r:Bool) (xs ys:Array Value),uv= .agg xs∧vv= .agg ys∧(Op.equal T uv vv).run P w= .ok r w∧z= .bool r∧P.eqGuardType P.depth T=false:=by
 unfold eqSt at hq;split at hq
 case isFalse=>cases hq
 rename_i hcond;obtain⟨hag,hgd⟩:=hcond;obtain⟨q,t,t',h1,h2⟩:=zQ 4 T 0 e z hq hz
 have ga: ∀ {ex:E} {x:V} {y:V},eval s ex=some x→eval s (.fld (.sz (.isag ex) (P.cellsOf T)) q)=some y→ ∃as,x= .agg as∧as.length=P.cellsOf T∧eval s (.sz (.isag ex) (P.cellsOf T))=some (.agg as):=fun {ex x y} hx hy=>by
  simp only[eval,hx,Z8y]at hy⊢;cases x<;>simp only[KP,Option.bind_none,Z8y]at hy⊢ <;>(try (cases hy;done))
  rename_i as;unfold szV at hy⊢;by_cases hl:(V.agg as).cells.length=P.cellsOf T
  ·exact⟨as,rfl,hl,by rw[if_pos hl]⟩
  ·rw[if_neg hl]at hy;cases hy
 obtain⟨as,rfl,hla,hea⟩:=ga hu h1;obtain⟨bs,rfl,hlb,heb⟩:=ga hv h2;cases hur with
 |agg _ xs h1 h2 h3=>
  cases hvr with
  |agg _ ys k1 k2 k3=>
   obtain⟨r,hr,rfl⟩:=jh (P:=P) hea heb h1 k1 h3 k3 4 9999 T 0 e z (by omega) (by omega) (by omega) hq hz;refine⟨r,xs,ys,rfl,rfl,?_,rfl,hgd⟩
   have e1:YH P T xs 0= .agg xs:=by
    unfold YH;rw[if_pos hag,Z97,show P.cellsOf T=xs.size by omega];simp
   have e2:YH P T ys 0= .agg ys:=by
    unfold YH;rw[if_pos hag,Z97,show P.cellsOf T=ys.size by omega];simp
   rw[e1,e2]at hr;exact hr
theorem Z0m(hr:RelG c B G s a w h g)(hC:holds s (ixC c C)){op:BinOp}{T:TypeId}{x y:Operand}{k:TK}{es:List E}(hp:Z38 c g C op T x y=some (k,es))(hes: ∀e∈es,∃z,eval s e=some z)(d:Nat):
  Has c B s w h (fun p=>a.tmps[p]?) d k (do eqGuard op T x y (a.eval x) (a.eval y);binOp op T (a.eval x) (a.eval y)):=by
 unfold Z38 at hp;simp only[Z8m,Z8p,Z8w]at hp;obtain⟨ea,ha,eb,hb,rfl,rfl⟩:=hp;obtain⟨u,hu,hur⟩:=VF hr hC ha;obtain⟨v,hv,hvr⟩:=VF hr hC hb;obtain⟨z,hz⟩:=hes _ (List.Mem.head _);have hz0:=hz
 have fin: ∀ {m:Sem Value},(∃r,m.run c.P w= .ok r w∧Rd w h.F z r)→Has c B s w h (fun p=>a.tmps[p]?) d (.val (binE c.P T op ea.1 eb.1) []) m:=by
  rintro m ⟨r,hr1,hr2⟩;exact⟨r,hr1,z,hz0,hr2.mono fun b hb=>GH.ext_F hb⟩
 have plain:eval s (.bin op ea.1 eb.1)=some z→Has c B s w h (fun p=>a.tmps[p]?) d (.val (binE c.P T op ea.1 eb.1) []) (do eqGuard op T x y (a.eval x) (a.eval y);binOp op T (a.eval x) (a.eval y)):=by
  intro hz;simp only[eval,hu,hv,Z8y]at hz;exact fin (Z1W hz hur hvr T x y)
 unfold binE at hz;split at hz
 ·rename_i hT;split at hz
  ·simp only[eval,hu,hv,Z8y]at hz;exact fin (Z0h (neg:=false) hz hur hvr hT x y)
  ·simp only[eval,hu,hv,Z8y]at hz;exact fin (Z0h (neg:=true) hz hur hvr hT x y)
  ·exact plain hz
 ·split at hz
  ·cases hq:eqSt c.P T ea.1 eb.1 with
   |none=>rw[hq]at hz;exact plain hz
   |some e=>
    rw[hq]at hz;obtain⟨r,xs,ys,hxs,hys,h1,rfl,h2⟩:=yl hq hu hv hur hvr hz;refine fin ⟨.bool r,?_,.bool _⟩;rw[hxs,hys]at h1⊢;simp[eqGuard,binOp,h1,h2,run_program]
  ·cases hq:eqSt c.P T ea.1 eb.1 with
   |none=>rw[hq]at hz;exact plain hz
   |some e=>
    rw[hq]at hz;simp only[Z9w,Z91,eval,Z8m]at hz;obtain⟨y',hy',hz⟩:=hz;obtain⟨r,xs,ys,hxs,hys,h1,rfl,h2⟩:=yl hq hu hv hur hvr hy';simp only[unV,Z8l]at hz;subst hz;refine fin ⟨.bool (!r),?_,.bool _⟩;rw[hxs,hys]at h1⊢;simp[eqGuard,binOp,h1,h2,run_program]
  ·exact plain hz
theorem qi{x z:V}{e:E}{d:Nat}{sh:List Nat}{m:Sem Value}(hz:eval s e=some z)(hm: ∃r,m.run c.P w= .ok r w∧Rd w (h.ext sh) z r)(tm:Nat→Option Value):Has c B s w h tm d (.val e sh) m:=by
 obtain⟨r,h1,h2⟩:=hm;exact⟨r,h1,z,hz,h2⟩
theorem T7{m:Sem Value}{z:V}(hm: ∃r,m.run c.P w= .ok r w∧Rd w h.F z r)(sh:List Nat): ∃r,m.run c.P w= .ok r w∧Rd w (h.ext sh) z r:=by
 obtain⟨r,h1,h2⟩:=hm;exact⟨r,h1,h2.mono fun b hb=>GH.ext_F hb⟩
theorem Rs(hr:RelG c B G s a w h g)(hC:holds s (ixC c C)): ∀ {l:List Operand} {ts:List Nat},K3 g C l=some ts→ts.length=l.length∧ ∀(i p:Nat),ts[i]? =some p→ ∃x b,l[i]? =some x∧h.bl p 0=some b∧a.eval x= .pointer (some ⟨b,0,none⟩)
 | [],ts,hc=>by
   simp only[K3,Z8l]at hc;subst hc;exact⟨rfl,fun i p hi=>by simp at hi⟩
 |x::l,ts,hc=>by
  simp only[K3]at hc;split at hc
  ·rename_i t cs hk;simp only[Z8p]at hc;obtain⟨us,hus,rfl⟩:=hc;obtain⟨h1,h2⟩:=Rs hr hC hus;obtain⟨v,hv,⟨b,vs,T,e1,e2,_⟩,_⟩:=hr.look hC (show look g C t=_ from hk) rfl;refine⟨by simp[h1],fun i p hi=> ?_⟩;cases i with
   |zero=>simp at hi;subst hi;exact⟨_,b,rfl,e1,by rw[Act.eval_tmp a t v hv];exact e2⟩
   |succ i=>simpa using h2 i p (by simpa using hi)
  ·cases hc
theorem Rj(hr:RelG c B G s a w h g)(hC:holds s (ixC c C)){f:Go.Fn}{first captured:Array Operand}{k:TK}{es:List E}(hp:T5 g C f first.toList captured.toList=some (k,es))(d:Nat):
  Has c B s w h (fun p=>a.tmps[p]?) d k (Instr.makeFunc f (first.map a.eval) (captured.map a.eval)):=by
 unfold T5 at hp;split at hp
 ·rename_i f' h1 h2;simp only[Z8l,Z8w]at hp;obtain⟨rfl,rfl⟩:=hp;have e1:first= #[]:=Z9D.1 (by simpa using h1);have e2:captured= #[]:=Z9D.1 (by simpa using h2);subst e1 e2;exact⟨.func (.func f') #[] #[],by simp[Instr.makeFunc],.fn f',rfl,.fn f'⟩
 ·rename_i f' h1 _;simp only[Z8p,Z8w]at hp;obtain⟨ts,hts,rfl,rfl⟩:=hp;have e1:first= #[]:=Z9D.1 (by simpa using h1);subst e1;obtain⟨hl,hall⟩:=Rs hr hC hts;refine⟨.func (.func f') #[] (captured.map a.eval),by simp[Instr.makeFunc],captured.map a.eval,rfl,by simpa using hl.symm,fun i p hi=> ?_⟩;obtain⟨x,b,hx,hb,hev⟩:=hall i p hi;exact⟨b,hb,by rw[Array.getElem?_map];rw[Z9p]at hx;rw[hx,Z9w,hev]⟩
 ·cases hp
theorem QD(hok:Ok B G w h){T:TypeId}{k:TK}{es:List E}(hp:Sp c T=some (k,es))(tm:Nat→Option Value)(d:Nat):
  ∃v w',(Instr.makeMap T none).run c.P w= .ok v w'∧PRes c B G s w h tm d k v w':=by
 unfold Sp at hp;split at hp
 ·simp only[Z8l,Z8w]at hp;obtain⟨rfl,rfl⟩:=hp;have hg:=Z9K w (.map #[] 0) none;obtain⟨hok',hst⟩:=Un hok hg d 1 (n:=w.heap.size) (Z8v _) (by simp);refine⟨.map (some w.heap.size),w.alloc (.map #[] 0),?_,_,hst,hok',.mp 0 [] [],rfl,.inr ⟨0,[],[],w.heap.size, #[],0,rfl,rfl,by simp[GH.give],hok.base,.inl rfl,Z8C w _,rfl,rfl,fun i c hi=>by simp at hi,fun i c hi=>by simp at hi⟩⟩;rfl
 ·cases hp
theorem Z1A{P:Program}{T:TypeId}{x:V}(hz:Z3z P T=some x): ∃z,(∀w:World,(zeroValue T).run P w= .ok z w)∧ ∀(w:World) (G:Nat→Prop),Rd w G x z:=by
 unfold Z3z at hz;simp only[Z8m]at hz;obtain⟨z,⟨i,hi,hz0⟩,hm⟩:=hz;refine⟨z,fun w=>Xl hi hz0 w,fun w G=> ?_⟩;split at hm
 ·rename_i cs;simp only[Z8p]at hm;obtain⟨xs,hxs,rfl⟩:=hm;obtain⟨h1,h2⟩:=SP hxs
  have key: ∀(i:Nat) (c:V),xs[i]? =some c→VG (cs.getD i undef)=some c:=by
   intro i c hi;have hlt:i<cs.size:=by have:=(Z8o.1 hi).1;rw[h1]at this;simpa using this
   obtain⟨y,hy,hc⟩:=h2 i cs[i] (by simp[hlt]);rw[hi]at hy;cases hy;simpa[Z8q,hlt]using hc
  refine .agg xs cs (by simpa using h1.symm) (fun c hc=> ?_) fun i c hi=>TI (key i c hi) w G;obtain⟨i,hi⟩:=Z8O hc;exact Sn (key i c hi)
 ·exact TI hm w G
def kcD:KC→TypeDesc
 | .b=> .bool
 | .i k=> .int k
 | .s=> .string
theorem Ki{P:Program}{t:TypeId}{kc:KC}(hk:kcOf P t=some kc):P.underlying t=some (kcD kc):=by
 unfold kcOf at hk;split at hk<;>first| (simp only[Z8l]at hk;subst hk;assumption) |cases hk
theorem Rg{kc:KC}{k:V}(hk:isK kc k=true){w:World}{G':Nat→Prop}{v:Value}(hv:Rd w G' k v):IsKey (kcD kc) v:=by
 cases kc<;>cases hv<;>simp_all [isK,IsKey,kcD]
theorem RD{kc:KC}{k y:V}{r:Bool}(hk:isK kc k=true)(he:Z22 k y=some r){w w2:World}{G' G'':Nat→Prop}{v u:Value}(hv:Rd w G' k v)(hu:Rd w2 G'' y u):IsKey (kcD kc) u∧(r=true↔v=u):=by
 cases kc<;>cases hv<;>simp[isK]at hk<;>cases hu<;>simp[Z22]at he
 ·subst he;simp[IsKey,kcD]
 ·obtain⟨rfl,rfl⟩:=he;simp[IsKey,kcD,hk]
 ·subst he;simp[IsKey,kcD,bytes_beq]
theorem Wv{kc:KC}{k:V}(hk:isK kc k=true){w w2:World}{G' G'':Nat→Prop}{v:Value}(hv:Rd w G' k v): ∀ {ks:List V} {l:List MapEntry} {r:Option Nat},KE k ks=some r→ks.length=l.length→
  (∀(i:Nat) (c:V),ks[i]? =some c→Rd w2 G'' c (l.getD i default).key)→ ∀n,match r with
   |none=>Instr.findNow (kcD kc) v l n=some none
   |some j=> ∃e,l[j]? =some e∧e.key=v∧Instr.findNow (kcD kc) v l n=some (some (n+j,e.val))
 | [],l,r,hf,hl,_,n=>by
   simp only[KE,Z8l]at hf;subst hf;have:l= []:=Z95 hl.symm;subst this;rfl
 |y::ks,[],r,_,hl,_,n=>by simp at hl
 |y::ks,e::l,r,hf,hl,hrd,n=>by
  simp only[KE]at hf;have hy:Rd w2 G'' y e.key:=by simpa using hrd 0 y rfl
  split at hf
  ·rename_i he;obtain⟨h1,h2⟩:=RD hk he hv hy;simp only[Z8l]at hf;subst hf;have hve:=h2.1 rfl;obtain⟨q,hq,hiff⟩:=Zbq (Rg hk hv) h1;have hq1:q=true:=hiff.2 hve;subst hq1;exact⟨e,rfl,hve.symm,by simp[Instr.findNow,hq]⟩
  ·rename_i he;obtain⟨h1,h2⟩:=RD hk he hv hy;obtain⟨q,hq,hiff⟩:=Zbq (Rg hk hv) h1
   have hq1:q=false:=by
    cases q with
    |false=>rfl
    |true=>have:=h2.2 (hiff.1 rfl);cases this
   subst hq1;simp only[Z8p]at hf;obtain⟨r',hr',rfl⟩:=hf;have ih:=Wv hk hv hr' (by simpa using hl) (fun i c hi=>by simpa using hrd (i+1) c (by simpa using hi)) (n+1);cases r' with
   |none=>simpa[Instr.findNow,hq]using ih
   |some j=>
    obtain⟨e',e1,e2,e3⟩:=ih;exact⟨e',by simpa using e1,e2,by simp[Instr.findNow,hq,e3];omega⟩
  ·cases hf
theorem RI{kc:KC}{k z y:V}{ks vs:List V}{id:Nat}{ok:Bool}(hy:lkV kc (.mp id ks vs) k z ok=some y){l:List MapEntry}{w2:World}{G' G'':Nat→Prop}{kv zv:Value}(hk:Rd w G' k kv)(hz: ∀(w:World) (G:Nat→Prop),Rd w G z zv)(h1:ks.length=l.length)(h2:vs.length=l.length)
  (h3: ∀(i:Nat) (c:V),ks[i]? =some c→Rd w2 G'' c (l.getD i default).key) (h4: ∀(i:Nat) (c:V),vs[i]? =some c→Rd w2 G'' c (l.getD i default).val):
  isK kc k=true∧ ∃r,Instr.findNow (kcD kc) kv l 0=some r∧Rd w2 G'' y (if ok then .tuple #[(match r with|some (_,v)=>(v,true) |none=>(zv,false)).1,.bool (match r with|some (_,v)=>(v,true) |none=>(zv,false)).2]else(match r with|some (_,v)=>(v,true) |none=>(zv,false)).1):=by
 have tup: ∀ {x:V} {v:Value} {b:Bool},Rd w2 G'' x v→Rd w2 G'' (if ok then .tup [x,.bool b]else x) (if ok then .tuple #[v,.bool b]else v):=by
  intro x v b hx;cases ok
  ·exact hx
  ·refine .tup _ _ rfl fun i c hi=> ?_
   match i,hi with
   |0,hi=>simp at hi;subst hi;simpa using hx
   |1,hi=>simp at hi;subst hi;simpa using Rd.bool b
   |i+2,hi=>simp at hi
 unfold lkV at hy;split at hy
 ·cases hy
 rename_i hik;have hik:isK kc k=true:=by simpa using hik
 refine⟨hik,?_⟩;simp only at hy;split at hy
 ·rename_i j hf;obtain⟨e,e1,e2,e3⟩:=Wv hik hk hf h1 h3 0;simp only[Z8p]at hy;obtain⟨x,hx,rfl⟩:=hy;refine⟨_,e3,?_⟩;have:=h4 j x hx;rw[Zbu,e1]at this;exact tup this
 ·rename_i hf;have:=Wv hik hk hf h1 h3 0;simp only[Z8l]at hy;subst hy;exact⟨_,this,tup (hz _ _)⟩
 ·cases hy
theorem Qg(hr:RelG c B G s a w h g)(hC:holds s (ixC c C)){T:TypeId}{x k:Operand}{ok:Bool}{kk:TK}{es:List E}(hp:Vg c g C T x k ok=some (kk,es))(hes: ∀e∈es,∃z,eval s e=some z)(d:Nat):
  Has c B s w h (fun p=>a.tmps[p]?) d kk (Instr.lookup T (a.eval x) (a.eval k) ok):=by
 unfold Vg at hp;split at hp
 ·rename_i kt el hT;simp only[Z8m,Z8p,Z8w]at hp;obtain⟨kc,hkc,z,hz,ea,ha,eb,hb,rfl,rfl⟩:=hp;obtain⟨u,hu,hur⟩:=YR hr hC ha;obtain⟨v,hv,hvr⟩:=YR hr hC hb;obtain⟨y,hy⟩:=hes _ (List.Mem.head _);have hy0:=hy;simp only[eval,hu,hv,Z8y]at hy;obtain⟨zv,hzr,hzrd⟩:=Z1A hz;have hkd:=Ki hkc;generalize hav:a.eval x=av at hur;cases hur with
  |nomp=>
   obtain⟨hik,r,hf,hres⟩:=RI (w2:=w) (G'':=h.ext ea.2) hy hvr hzrd (l:= []) rfl rfl (fun i c hi=>by simp at hi) (fun i c hi=>by simp at hi);refine⟨_,?_,y,hy0,hres⟩;have hck:=Zby (w:=w) hkd (Rg hik hvr);have hfk:=Zbr (w:=w) hkd hf;cases r with
   |none=>simp[Instr.lookup,Z8X hT,hck,hfk,hzr,Result.andThen]
   |some p=>simp[Instr.lookup,Z8X hT,hck,hfk,hzr,Result.andThen]
  |mp id ks xs b clk es h0 h1 h2 h3 h4 h5 h6=>
   obtain⟨hik,r,hf,hres⟩:=RI (w2:=w) (G'':=h.ext ea.2) hy hvr hzrd (l:=es.toList) (by simpa using h3) (by simpa using h4) (fun i c hi=>by simpa[Z8q]using h5 i c hi) (fun i c hi=>by simpa[Z8q]using h6 i c hi);refine⟨_,?_,y,hy0,hres⟩;have hck:=Zby (w:=w) hkd (Rg hik hvr);have hfk:=Zbr (w:=w) hkd hf;cases r with
   |none=>simp[Instr.lookup,Z8X hT,Za4 h2,hck,hfk,hzr,Result.andThen]
   |some p=>simp[Instr.lookup,Z8X hT,Za4 h2,hck,hfk,hzr,Result.andThen]
  |_=>simp[lkV]at hy
 ·cases hp
theorem JU{T:TypeId}{x k:Operand}{ok:Bool}{e:E}{sh:List Nat}{es:List E}(hp:Vg c g C T x k ok=some (.val e sh,es)):es= [e]:=by
 unfold Vg at hp;split at hp
 ·simp only[Z8m,Z8p,Z8w,TK.val.injEq]at hp;obtain⟨_,_,_,_,_,_,_,_,⟨rfl,_⟩,rfl⟩:=hp;rfl
 ·cases hp
theorem Jw(hr:RelG c B G s a w h g)(hC:holds s (ixC c C)){T:TypeId}{x k:Operand}{ok:Bool}{kk:TK}{es:List E}(hp:Ql c g C T x k ok=some (kk,es))(hes: ∀e∈es,∃z,eval s e=some z)(d:Nat):
  Has c B s w h (fun p=>a.tmps[p]?) d kk (Instr.lookup T (a.eval x) (a.eval k) ok):=by
 simp only[Ql,Z8m]at hp;obtain⟨⟨k0,es0⟩,hp0,hp⟩:=hp;simp only at hp;split at hp
 ·rename_i e sh;simp only[Z8l,Z8w]at hp;obtain⟨rfl,rfl⟩:=hp;have h0:=JU hp0;subst h0;have hy:=hes _ (List.Mem.head _)
  have hye: ∃z,eval s e=some z:=by
   obtain⟨z,hz⟩:=hy;unfold flE at hz;split at hz
   ·exact⟨z,hz⟩
   ·split at hz
    ·simp only[eval,Z8m]at hz;obtain⟨u,hu,_⟩:=hz;exact⟨u,hu⟩
    ·exact⟨z,hz⟩
  obtain⟨v,hv,x0,hx0,hrd⟩:=Qg hr hC hp0 (by simpa using hye) d;obtain⟨z,hz,hzr⟩:=SW (b:=(e,sh)) (fl:=(!ok&&Z2H c.P T)) hx0 hrd hy;exact⟨v,hv,z,hz,hzr⟩
 ·cases hp
theorem j8{x z:V}(hz:Jz x=some z){G':Nat→Prop}{v:Value}(hv:Rd w G' x v){T ty k e:TypeId}(hT:c.P.underlying T=some (.map k e)):
  ∃r,(Builtin.len_ #[T] ty #[v]).run c.P w= .ok r w∧Rd w h.F z r:=by
 cases hv with
 |nomp=>
  simp only[Jz,Z8l]at hz;subst hz;exact⟨.int .i64 0,by simp[Builtin.len_,Z8X hT,goInt],.int _ _⟩
 |mp id ks xs b clk es h0 h1 h2 h3 h4 h5 h6=>
  simp only[Jz,Z8l]at hz;subst hz;exact⟨.int .i64 es.size,by simp[Builtin.len_,Z8X hT,Za4 h2,goInt,Result.andThen],by rw[h3];exact .int _ _⟩
 |_=>simp[Jz]at hz
theorem Z0Q(hr:RelG c B G s a w h g)(hC:holds s (ixC c C)){o:Oper}{k:TK}{es:List E}(hp:pk c g C o=some (k,es))(hes: ∀e∈es,∃z,eval s e=some z)(d:Nat)(hd:o.dst=some d):PRun c B G s a w h o d k:=by
 have hok:=hr.ok;obtain⟨dst,op,type,pos,after,guard⟩:=o;simp only at hd;unfold pk at hp;simp only at hp;split at hp
 ·exact⟨_,w,rfl,PRes.here hok (qA hr hC hp d)⟩
 ·rename_i x;obtain⟨v,h1,h2⟩:=Rl hr hC hp hes {dst,op:= .nilCheck x,type,pos,after,guard} rfl d;exact⟨v,w,h1,PRes.here hok h2⟩
 ·exact⟨_,w,rfl,PRes.here hok (JX hr hC hp hes d)⟩
 ·exact PRun.of rfl (LC hok hp _ d)
 ·exact PRun.of rfl (jf hr hC hp hes _ d)
 ·exact Has.pr hok rfl (Z0m hr hC hp hes d)
 ·simp only[pkUn,Z8p,Z8w]at hp;obtain⟨ea,ha,rfl,rfl⟩:=hp;obtain⟨u,hu,hur⟩:=VF hr hC ha;obtain⟨z,hz⟩:=hes _ (List.Mem.head _);have hz0:=hz;simp only[eval,hu,Z8y]at hz;exact Has.pr hok rfl (qi (x:=u) hz0 (T7 (Z3t hz hur) []) _)
 ·rename_i src dst' x;unfold Z2z at hp;split at hp
  ·simp at hp
  ·rename_i hsrc;split at hp
   ·rename_i kk hdst;simp only[Z8p,Z8w]at hp;obtain⟨ea,ha,rfl,rfl⟩:=hp;obtain⟨u,hu,hur⟩:=VF hr hC ha;obtain⟨z,hz⟩:=hes _ (List.Mem.head _);have hz0:=hz;simp only[eval,hu,Z8y]at hz;exact Has.pr hok rfl (qi (x:=u) hz0 (T7 (j9 hz hur (by cases hh:c.P.underlying src<;>simp_all) hdst) []) _)
   ·simp at hp
 ·rename_i x i;simp only[Z4x,Z8p,Z8w]at hp;obtain⟨ea,ha,rfl,rfl⟩:=hp;obtain⟨u,hu,hur⟩:=VF hr hC ha;obtain⟨z,hz⟩:=hes _ (List.Mem.head _)
  have he: ∃q,eval s (.ext ea.1 i)=some q:=by
   unfold flE at hz;split at hz
   ·exact⟨z,hz⟩
   ·split at hz
    ·simp only[eval,hu,Z8y]at hz⊢;cases hq:extV u i with
     |none=>rw[hq]at hz;simp at hz
     |some q=>exact⟨q,rfl⟩
    ·exact⟨z,hz⟩
  obtain⟨q,hq⟩:=he;have hq0:=hq;simp only[eval,hu,Z8y]at hq;obtain⟨r,hr1,hr2⟩:=Z29 (c:=c) (w:=w) hq hur;obtain⟨z',hz',hrz⟩:=SW (h:=h) (fl:=Xh c.P type) (b:=(.ext ea.1 i,ea.2)) hq0 hr2 ⟨z,hz⟩;exact Has.pr hok rfl ⟨r,hr1,z',hz',hrz⟩
 ·exact Has.pr hok rfl (yX hr hC hp hes d)
 ·exact Has.pr hok rfl (Lm hr hC hp hes d)
 ·exact Has.pr hok rfl (SL hr hC hp hes d)
 ·exact Has.pr hok rfl (js hr hC hp hes d)
 ·exact Has.pr hok rfl (La hr hC hp hes d)
 ·exact Has.pr hok rfl (KO hr hC hp hes d)
 ·
  rename_i T parts;unfold Z0z at hp
  ·simp only[Z8m]at hp;obtain⟨fs,hT,zs,hz,b,hb,hp⟩:=hp;split at hp
   ·rename_i hempty;have hts:b.2.2= []:=by simpa using hempty
    have hev: ∃z,eval s (.ag (b.1.map (·.2)))=some z:=by
     split at hp<;>(simp only[Z8l,Z8w]at hp;obtain⟨_,rfl⟩:=hp;exact hes _ (List.Mem.head _))
    obtain⟨z,hz1⟩:=hev;have hz1':=hz1;simp only[eval,Z8p]at hz1';obtain⟨xs,hxs,hxz⟩:=hz1';obtain⟨hl,hx⟩:=Yj hxs;have hl':xs.length=b.1.length:=by simpa using hl
    obtain⟨vs,hrun,hsz,howns,hcell⟩:=Q8 hr hC hT hz hb (fun ck hck=>by
     obtain⟨i,hi⟩:=Z8O hck;obtain⟨x,_,he⟩:=hx i ck.2 (by rw[Z8D,hi];rfl);exact⟨x,he⟩)
    rw[hts]at howns hcell;refine Has.pr hok rfl ⟨.agg vs,hrun,?_⟩
    have hx2: ∀(i:Nat) (x:V),xs[i]? =some x→x.one=true∧Rd w (h.ext b.2.1) x (vs.getD i undef):=by
     intro i x hi;have hlt:i<b.1.length:=by have:=(Z8o.1 hi).1;omega
     obtain⟨y,hy,hye⟩:=hx i (b.1[i]).2 (by rw[Z8D,Z8n hlt];rfl);rw[hi]at hy;cases hy;have hc:=hcell i b.1[i] (Z8n hlt);unfold BRel at hc;split at hc
     ·obtain⟨t,_,ht,_⟩:=hc;simp at ht
     ·obtain⟨e1,e2⟩:=hc;rw[hye]at e2;cases e2;rw[e1];exact⟨rfl,.nil _ _ (Z9n _)⟩
     ·obtain⟨x',e1,e2,e3⟩:=hc;rw[hye]at e1;cases e1;exact⟨e2,e3⟩
     ·exact hc.elim
    have hone: ∀x∈xs,x.one=true:=fun x hxm=>by
     obtain⟨i,hi⟩:=Z8O hxm;exact(hx2 i x hi).1
    have hzx:z= .agg xs:=by rw[←hxz];simp only[agV,WL hone]
    split at hp
    ·rename_i hfz;simp only[Z8u,ZaW]at hfz;simp only[Z8l,Z8w]at hp;obtain⟨rfl,rfl⟩:=hp;refine⟨vs,rfl,hsz,fun i ck hi=> ?_⟩;have hc:=hcell i ck hi;unfold BRel at hc;obtain⟨kk,e⟩:=ck;cases kk with
     |own ty=>obtain⟨t,_,ht,_⟩:=hc;simp at ht
     |nil=>exact hc
     |fz=>
      obtain⟨x,e1,e2,e3⟩:=hc;rw[hfz.1]at e3;exact⟨x,e1,e2,e3.F⟩
     |dead=>exact hc.elim
    ·simp only[Z8l,Z8w]at hp;obtain⟨rfl,rfl⟩:=hp;refine⟨z,hz1,?_⟩;rw[hzx];exact .agg xs vs (by rw[hsz,hl']) hone fun i x hi=>(hx2 i x hi).2
   ·simp at hp
 ·exact PRun.of rfl (Tx hr hC hp hes _ d hd)
 ·exact PRun.of rfl (yO hr hC hp hes _ d hd)
 ·exact Has.pr hok rfl (Rj hr hC hp d)
 ·exact PRun.of rfl (QD hok hp _ d)
 ·exact Has.pr hok rfl (Jw hr hC hp hes d)
 ·
  rename_i args argTypes;split at hp
  ·rename_i x T hx hT;have hargs:args= #[x]:=Z9D.1 (by simpa using hx);have htys:argTypes= #[T]:=Z9D.1 (by simpa using hT);subst hargs htys
   have hex:execOp a.eval {dst,op:= .call {callee:= .builtin .len,args:= #[x],argTypes:= #[T]},type,pos,after,guard}=(do pure (.value (←Builtin.len_ #[T] type #[a.eval x]))):=by
    simp[execOp,resolve,invoke,builtin]
   unfold Z59 at hp;split at hp
   ·rename_i e hT';simp only[Z8p,Z8w]at hp;obtain⟨ea,ha,rfl,rfl⟩:=hp;obtain⟨u,hu,hur⟩:=VF hr hC ha;obtain⟨z,hz⟩:=hes _ (List.Mem.head _);have hz0:=hz;simp only[eval,hu,Z8y]at hz;exact Has.pr hok hex (qi (x:=u) hz0 (T7 (Z2a hz hur hT') []) _)
   ·rename_i n e hT';simp only[Z8l,Z8w]at hp;obtain⟨rfl,rfl⟩:=hp;refine Has.pr hok hex ⟨.int .i64 n,?_,_,rfl,.int _ _⟩;simp[Builtin.len_,Z8X hT',goInt]
   ·rename_i k e hT';simp only[Z8p,Z8w]at hp;obtain⟨ea,ha,rfl,rfl⟩:=hp;obtain⟨u,hu,hur⟩:=VF hr hC ha;obtain⟨z,hz⟩:=hes _ (List.Mem.head _);have hz0:=hz;simp only[eval,hu,Z8y]at hz;exact Has.pr hok hex (qi (x:=u) hz0 (T7 (j8 hz hur hT') []) _)
   ·simp at hp
  ·simp at hp
 ·rename_i args _;split at hp
  ·rename_i x y hx;have hargs:args= #[x,y]:=Z9D.1 (by simpa using hx);subst hargs;simp only[pkMM,Z8U,Z9f,Z8m,Z8p,Z8w]at hp;obtain⟨ea,ha,eb,hb,rfl,rfl⟩:=hp;obtain⟨u,hu,hur⟩:=VF hr hC ha;obtain⟨v,hv,hvr⟩:=VF hr hC hb;obtain⟨z,hz⟩:=hes _ (List.Mem.head _);have hz0:=hz;simp only[eval,hu,hv,Z8y]at hz;exact Has.pr hok (by simp[execOp,resolve,invoke,builtin];rfl) (qi (x:=u) hz0 (T7 (Z1X hz hur hvr _ type) []) _)
  ·simp at hp
 ·rename_i args _;split at hp
  ·rename_i x y hx;have hargs:args= #[x,y]:=Z9D.1 (by simpa using hx);subst hargs;simp only[pkMM,Z9c,Z8m,Z8p,Z8w]at hp;obtain⟨ea,ha,eb,hb,rfl,rfl⟩:=hp;obtain⟨u,hu,hur⟩:=VF hr hC ha;obtain⟨v,hv,hvr⟩:=VF hr hC hb;obtain⟨z,hz⟩:=hes _ (List.Mem.head _);have hz0:=hz;simp only[eval,hu,hv,Z8y]at hz;exact Has.pr hok (by simp[execOp,resolve,invoke,builtin];rfl) (qi (x:=u) hz0 (T7 (Z1p hz hur hvr _ type) []) _)
  ·simp at hp
 ·rename_i args argTypes;split at hp
  ·rename_i x y T U hx hT;have hargs:args= #[x,y]:=Z9D.1 (by simpa using hx);have htys:argTypes= #[T,U]:=Z9D.1 (by simpa using hT);subst hargs htys;exact PRun.of (by simp[execOp,resolve,invoke,builtin]) (JO (ty:=type) hr hC hp hes _ d hd)
  ·simp at hp
 ·simp at hp
end
end Vm
namespace Vm
open Go
open Go.RowKit (Below)
theorem UO: ∀ {g:Gam} {t:Nat},t∉Zu g→g.at t=([],.no)
 | [],t,_=>rfl
 | (u,x)::g,t,ht=>by
   simp only[Zu,Z8Q,Z8V,not_or]at ht;simp only[Gam.at];rw[if_neg (fun e=>ht.1 e.symm)];exact UO ht.2
theorem zP: ∀ {g:Gam} {t:Nat},t∈Zu g→(t,g.at t)∈g
 | [],t,ht=>by simp[Zu]at ht
 | (u,x)::g,t,ht=>by
   simp only[Gam.at];by_cases hu:u=t
   ·subst hu;simp
   ·rw[if_neg hu]
    have:t∈Zu g:=by
     simp only[Zu,Z8Q,Z8V]at ht;exact ht.resolve_left fun e=>hu e.symm
    exact Z9h _ (zP this)
theorem ZR: ∀(a b:Gam) (t:Nat),(a++b).at t=if t∈Zu a then a.at t else b.at t
 | [],b,t=>by simp[Zu]
 | (u,x)::a,b,t=>by
   simp only[Z9s,Gam.at];by_cases hu:u=t
   ·subst hu;simp[Zu]
   ·rw[if_neg hu,if_neg hu,ZR a b t];simp only[Zu,Z8Q,Z8V];by_cases ht:t∈List.map (·.1) a
    ·simp[ht]
    ·have: ¬(t=u):=fun e=>hu e.symm;simp[ht,this]
theorem TR{ps rb fz:List Nat}{g:Gam}{t:Nat}(ht:t∈Zu (XK ps rb fz g)):(XK ps rb fz g).at t=([],.no):=by
 have:=zP ht;generalize (XK ps rb fz g).at t=x at this;simp only[XK,Zaa]at this;obtain⟨y,_,hy⟩:=this;split at hy
 ·simp at hy
 ·simp only[Z8l,Z8w]at hy;exact hy.2.symm
theorem Z0p{ps rb fz:List Nat}{g:Gam}{t:Nat}(ht:t∉Zu (XK ps rb fz g)){x:Zg×TK}(hx:(t,x)∈g):calm ps rb fz x.2=true:=by
 by_cases hc:calm ps rb fz x.2=true
 ·exact hc
 ·exfalso;apply ht;simp only[Zu,XK,Z8S,Zaa];exact⟨(t,[],.no),⟨(t,x),hx,by simp[hc]⟩,rfl⟩
theorem Lu(ps rb fz:List Nat):calm ps rb fz .no=true:=by simp[calm,Xf,leads,US]
theorem RC{ps rb fz:List Nat}{g:Gam}{t:Nat}(ht:t∉Zu (XK ps rb fz g)):calm ps rb fz (g.at t).2=true:=by
 by_cases hm:t∈Zu g
 ·exact Z0p ht (zP hm)
 ·rw[UO hm];exact Lu _ _ _
theorem WE{fz:List Nat}{g:Gam}:Zu (YU fz g)=fz:=by
 simp only[Zu,YU,List.map_map]
 conv=>rhs;rw[←List.map_id fz]
 rfl
theorem Vn: ∀ {fz:List Nat} {g:Gam} {t:Nat},t∈fz→(YU fz g).at t=((g.at t).1,VM (g.at t).2)
 | [],g,t,ht=>by simp at ht
 |p::fz,g,t,ht=>by
  simp only[YU,Z8Q,Gam.at];by_cases hp:p=t
  ·subst hp;simp
  ·rw[if_neg hp];exact Vn ((Z8V.1 ht).resolve_left fun e=>hp e.symm)
def GH.thaw(h:GH)(fz:List Nat):GH:= {F:=fun b=>h.F b∨ ∃p∈fz,∃i,h.bl p (i+1)=some b,bl:=fun p i=>if p∈fz∧i≠0 then none else h.bl p i,K:=h.K}
section
variable {c:Ctx} {B:Nat} {G:Nat→Prop} {s:St} {a:Act} {w w':World} {h h':GH} {g:Gam} {C:Zg} {fz:List Nat}
theorem V5(hok:Ok B G w h)(fz:List Nat):Ok B G w (h.thaw fz)∧Step B [] [] fz w w h (h.thaw fz):=by
 refine⟨⟨hok.base,fun b hb=> ?_,fun b hb=> ?_,fun b hb=> .inl (hok.g_F b hb),fun t i b hb=> ?_,fun t i u j b hb hb'=> ?_,hok.k_lt,fun t i b hb=> ?_,fun b hb=> ?_⟩,
  Z8E _ _,fun b hb _=>rfl,fun b hb=> .inl hb,fun t _ ht=> ?_,fun t _=> ?_,fun t i b _ ht hb=> .inr ⟨t,ht,i,hb⟩,rfl⟩
 ·rcases hb with hb| ⟨p,_,i,hi⟩
  ·exact hok.f_lt b hb
  ·exact(hok.b_lt p (i+1) b hi).2.1
 ·rcases hb with hb| ⟨p,_,i,hi⟩
  ·exact hok.f_or b hb
  ·exact .inr (hok.b_lt p (i+1) b hi).1
 ·simp only[GH.thaw]at hb;split at hb
  ·cases hb
  ·rename_i hn;obtain⟨h1,h2,h3⟩:=hok.b_lt t i b hb;refine⟨h1,h2,fun hF=> ?_⟩;rcases hF with hF| ⟨p,hp,j,hj⟩
   ·exact h3 hF
   ·obtain⟨rfl,rfl⟩:=hok.inj t i p (j+1) b hb hj;exact hn ⟨hp,by omega⟩
 ·simp only[GH.thaw]at hb hb';split at hb<;>split at hb'<;>first| (cases hb;done) | (cases hb';done) |exact hok.inj t i u j b hb hb'
 ·simp only[GH.thaw]at hb;split at hb
  ·cases hb
  ·exact hok.k_bl t i b hb
 ·rcases hb with hb| ⟨p,_,i,hi⟩
  ·exact hok.k_F b hb
  ·exact .inr (hok.k_bl p (i+1) b hi)
 ·funext i;simp[GH.thaw,ht]
 ·simp[GH.thaw]
theorem Qv{sh:List Nat}(hsub: ∀p∈sh,p∈fz): ∀b,h.ext sh b→(h.thaw fz).F b:=by
 intro b hb;rcases hb with hb| ⟨p,hp,i,hi⟩
 ·exact .inl hb
 ·exact .inr ⟨p,hsub p hp,i,hi⟩
theorem OwnV.one{P:Program}{o:Option Nat}{ty:TypeId}{x:V}{v:Value}(hv:OwnV P B w h o ty x v):x.one=true:=by
 rcases hv with ⟨l,xs,rfl,_⟩ | ⟨_,_,_,_,_,_,rfl,_⟩<;>rfl
theorem RelC.freeze{P:Program}{o:Option Nat}{k:CK}{e:E}{v:Value}(hr:RelC P B s w h o k e v)(hF:Same h.F w w')(hFF: ∀b,h.F b→h'.F b)(ho: ∀b,o=some b→w'.heap[b]? =w.heap[b]?)(hoF: ∀b,o=some b→h'.F b)(o':Option Nat):
  RelC P B s w' h' o' (Z41 k) e v:=by
 cases k with
 |fz=>obtain⟨x,h0,h1,h2⟩:=hr;exact⟨x,h0,h1,h2.keep hF hFF⟩
 |own ty=>
  obtain⟨x,h0,h1⟩:=hr;have h2:=h1.keep (h':=h') hF hFF ho;exact⟨x,h0,h2.one,h2.rd (fun b hb=>hb) hoF⟩
 |nil=>exact hr
 |dead=>exact hr
theorem RelK.freeze{tm tm':Nat→Option Value}{t:Nat}{v:Value}{k:TK}{ps rb:List Nat}(hk:RelK c.P B s w h tm t v k)(hs:Step B ps rb fz w w' h h')(hok:Ok B G w h)(hrb: ∀t∈rb,t∈ps)
  (ht:t∉ps) (htf:t∈fz) (hcalm:calm ps rb fz k=true) (htm: ∀p,p∉ps→tm' p=tm p):RelK c.P B s w' h' tm' t v (VM k):=by
 have hF:Same h.F w w':=fun b hb=>hs.F_same hok hb;cases hkk:k.owning with
 |false=>
  have:=hk.keep hs hok hrb ht (fun _=>hkk) hcalm htm;cases k<;>first|exact this|simp[TK.owning]at hkk
 |true=>
  cases k<;>first| (simp[TK.owning]at hkk;done) |skip
  ·rename_i ty e;obtain⟨x,h0,h1⟩:=hk;have h2:=h1.keep (h':=h') hF hs.F fun b hb=>hs.bl_same hok ht hb;exact⟨x,h0,h2.rd (fun b hb=>GH.ext_F hb) fun b hb=>GH.ext_F (hs.fzF t 0 b ht htf hb)⟩
  ·rename_i cs;obtain⟨b,vs,T,h1,h2,h3,h4,h5⟩:=hk;refine⟨b,vs,T,by rw[hs.fz0 t (fun hr=>ht (hrb t hr))];exact h1,h2,by rw[hs.bl_same hok ht h1];exact h3,by simpa using h4,fun i ck hi=> ?_⟩;simp only[Z8D,Z8p]at hi;obtain⟨ck',hi',rfl⟩:=hi;exact(h5 i ck' hi').freeze hF hs.F (fun b hb=>hs.bl_same hok ht hb) (fun b hb=>hs.fzF t i b ht htf hb) _
  ·rename_i cs;obtain⟨vs,rfl,h4⟩:=hk;simp only[VM];split
   ·trivial
   ·rename_i hd;obtain⟨x,hx,_,hrd⟩:=h4.rd (G':=fun b=>h.F b∨ ∃i,h.bl t (i+1)=some b) (by simpa using hd) (fun b hb=> .inl hb) (fun _ i b hb=> .inr ⟨i,hb⟩);refine⟨_,hx,hrd.keep (fun b hb=> ?_) fun b hb=> ?_⟩
    ·rcases hb with hb| ⟨i,hi⟩
     ·exact hF b hb
     ·exact hs.bl_same hok ht hi
    ·rcases hb with hb| ⟨i,hi⟩
     ·exact GH.ext_F (hs.F b hb)
     ·exact GH.ext_F (hs.fzF t i b ht htf hi)
theorem RelG.step{a':Act}{ps rb:List Nat}{d:Gam}(hr:RelG c B G s a w h g)(hs:Step B ps rb fz w w' h h')(hok':Ok B G w' h')(hrb: ∀t∈rb,t∈ps)(htm: ∀p,p∉ps→a'.tmps[p]? =a.tmps[p]?)
  (hps: ∀t∈ps,t∈Zu d)
  (hd: ∀t∈Zu d,(holds s (ixC c (d.at t).1)→(d.at t).2.isNo=false→ ∃v,a'.tmps[t]? =some v∧RelK c.P B s w' h' (fun p=>a'.tmps[p]?) t v (d.at t).2)∧(¬holds s (ixC c (d.at t).1)→a'.tmps.getD t undef=undef)):
  RelG c B G s a' w' h' (d++XK ps rb fz g++YU fz g++g):=by
 have key: ∀t,(holds s (ixC c ((d++XK ps rb fz g++YU fz g++g).at t).1)→((d++XK ps rb fz g++YU fz g++g).at t).2.isNo=false→ ∃v,a'.tmps[t]? =some v∧RelK c.P B s w' h' (fun p=>a'.tmps[p]?) t v ((d++XK ps rb fz g++YU fz g++g).at t).2)∧
   (¬holds s (ixC c ((d++XK ps rb fz g++YU fz g++g).at t).1)→a'.tmps.getD t undef=undef):=by
  intro t;rw[ZR,ZR,ZR];simp only[Zu,Z9Q,Z90];by_cases h1:t∈Zu d
  ·have h1':t∈List.map (·.1) d:=h1;simp only[h1',true_or,Z9c];exact hd t h1
  ·have h1':t∉List.map (·.1) d:=h1;by_cases h2:t∈Zu (XK ps rb fz g)
   ·have h2':t∈List.map (·.1) (XK ps rb fz g):=h2;simp only[h1',h2',Zbz,true_or,Z9c,Z9f,TR h2];exact⟨fun _ hn=>by simp[TK.isNo]at hn,fun hn=>absurd (Ws s) (by simpa[ixC]using hn)⟩
   ·have h2':t∉List.map (·.1) (XK ps rb fz g):=h2;have hc:=RC h2;have htp:t∉ps:=fun hp=>h1 (hps t hp);by_cases h3:t∈fz
    ·have h3':t∈List.map (·.1) (YU fz g):=by have:=WE (fz:=fz) (g:=g);unfold Zu at this;rw[this];exact h3
     simp only[h1',h2',h3',Zbz,Z9c,Z9f,Vn h3];refine⟨fun hC hn=> ?_,fun hn=> ?_⟩
     ·have hn':(g.at t).2.isNo=false:=by
       cases hk:(g.at t).2<;>first|rfl| (rw[hk]at hn;simp[VM,TK.isNo]at hn)
      obtain⟨v,hv,hk⟩:=hr.at_ t hC hn';exact⟨v,by rw[htm t htp];exact hv,hk.freeze hs hr.ok hrb htp h3 hc htm⟩
     ·have:=hr.skip t hn;simp only[Z8q,htm t htp]at this⊢;exact this
    ·have h3':t∉List.map (·.1) (YU fz g):=by have:=WE (fz:=fz) (g:=g);unfold Zu at this;rw[this];exact h3
     simp only[h1',h2',h3',Zbz,Z9f];refine⟨fun hC hn=> ?_,fun hn=> ?_⟩
     ·obtain⟨v,hv,hk⟩:=hr.at_ t hC hn;exact⟨v,by rw[htm t htp];exact hv,hk.keep hs hr.ok hrb htp (fun hf=>absurd hf h3) hc htm⟩
     ·have:=hr.skip t hn;simp only[Z8q,htm t htp]at this⊢;exact this
 exact⟨hok',fun t=>(key t).1,fun t=>(key t).2⟩
theorem RelG.frz(hr:RelG c B G s a w h g)(fz:List Nat):RelG c B G s a w (h.thaw fz) (Vm.frz fz g):=by
 obtain⟨hok,hst⟩:=V5 hr.ok fz;have:=hr.step (d:= []) (a':=a) hst hok (fun _ h=>h) (fun _ _=>rfl) (fun t ht=>by simp at ht) (fun t ht=>by simp[Zu]at ht);simpa[Vm.frz]using this
end
end Vm
namespace Vm
open Go
open Go.RowKit (Below)
def GH.put(h:GH)(d:Nat)(f:Nat→Option Nat)(r:Nat→Nat→Option Nat):GH:= {F:=h.F,bl:=fun u=>if u=d then f else r u,K:=h.K}
def lost(h:GH)(ts:List Nat)(u:Nat)(i:Nat):Option Nat:=if u∈ts then none else h.bl u i
section
variable {c:Ctx} {B:Nat} {G:Nat→Prop} {s:St} {a a':Act} {w w':World} {h h':GH} {g:Gam} {C:Zg} {fz ps rb:List Nat}
theorem Ok.put(hok:Ok B G w h)(hsz:w.heap.size≤w'.heap.size){d:Nat}{f:Nat→Option Nat}{r:Nat→Nat→Option Nat}
  (hr: ∀u i b,u≠d→r u i=some b→h.bl u i=some b) (hf: ∀i b,f i=some b→(w.heap.size≤b∧b<w'.heap.size)∨ ∃t j,h.bl t j=some b)
  (hinj: ∀i j b,f i=some b→f j=some b→i=j) (hdis: ∀i b u j,u≠d→f i=some b→r u j=some b→False):Ok B G w' (h.put d f r):=by
 refine⟨Z8Y hok.base hsz,fun b hb=>Z8z (hok.f_lt b hb) hsz,hok.f_or,hok.g_F,fun t i b hb=> ?_,fun t i u j b hb hb'=> ?_,fun b hb=>Z8z (hok.k_lt b hb) hsz,fun t i b hb hK=> ?_,hok.k_F⟩
 ·simp only[GH.put]at hb
  have old: ∀t j,h.bl t j=some b→B≤b∧b<w'.heap.size∧ ¬h.F b:=fun t j hj=>by
   obtain⟨h1,h2,h3⟩:=hok.b_lt t j b hj;exact⟨h1,Z8z h2 hsz,h3⟩
  split at hb
  ·rcases hf i b hb with ⟨h1,h2⟩ | ⟨t,j,hj⟩
   ·exact⟨Z8Y hok.base h1,h2,fun hF=>by have:=hok.f_lt _ hF;omega⟩
   ·exact old t j hj
  ·rename_i hne;exact old t i (hr t i b hne hb)
 ·simp only[GH.put]at hb hb';split at hb<;>split at hb'
  ·rename_i e1 e2;exact⟨e1.trans e2.symm,hinj i j b hb hb'⟩
  ·rename_i e1 e2;exact(hdis i b u j e2 hb hb').elim
  ·rename_i e1 e2;exact(hdis j b t i e1 hb' hb).elim
  ·rename_i e1 e2;exact hok.inj t i u j b (hr t i b e1 hb) (hr u j b e2 hb')
 ·simp only[GH.put]at hb;split at hb
  ·rcases hf i b hb with ⟨h1,h2⟩ | ⟨t,j,hj⟩
   ·have:=hok.k_lt _ hK;omega
   ·exact hok.k_bl t j b hj hK
  ·rename_i hne;exact hok.k_bl t i b (hr t i b hne hb) hK
theorem ZO{ts:List Nat}{u i b:Nat}(hl:lost h ts u i=some b):h.bl u i=some b∧u∉ts:=by
 unfold lost at hl;split at hl
 ·cases hl
 ·exact⟨hl,by assumption⟩
theorem LT{ts:List Nat}{u:Nat}(hu:u∉ts):lost h ts u=h.bl u:=by
 funext i;simp[lost,hu]
theorem Xo(hb:Below B w w')(hsame: ∀b,b<w.heap.size→(∀p∈ps,∀i,h.bl p i≠some b)→w'.heap[b]? =w.heap[b]?){d:Nat}{f:Nat→Option Nat}{ts:List Nat}
  (hd:d∈ps) (hts: ∀t∈ts,t∈ps∧t∈rb) (h0:d∉rb→f 0=h.bl d 0):Step B ps rb [] w w' h (h.put d f (lost h ts)):=by
 refine⟨hb,hsame,fun _ hb=>hb,fun t ht _=> ?_,fun t ht=> ?_,fun _ _ _ _ hm=>(by simp at hm),rfl⟩
 ·have h1:t≠d:=fun e=>ht (e▸hd);simp only[GH.put,if_neg h1];exact LT fun e=>ht (hts t e).1
 ·simp only[GH.put];split
  ·rename_i e;subst e;exact h0 ht
  ·rw[LT fun e=>ht (hts t e).2]
theorem Step.after(h2:Step B ps rb [] w w' (h.thaw fz) h'):Step B ps rb fz w w' h h':=by
 have hbl: ∀p i b,(h.thaw fz).bl p i=some b→h.bl p i=some b:=by
  intro p i b hb;simp only[GH.thaw]at hb;split at hb
  ·cases hb
  ·exact hb
 refine⟨h2.below,fun b hb hn=>h2.same b hb fun p hp i hi=>hn p hp i (hbl p i b hi),fun b hb=>h2.F b (.inl hb),fun t ht htf=> ?_,fun t ht=> ?_,fun t i b _ htf hb=>h2.F b (.inr ⟨t,htf,i,hb⟩),h2.K⟩
 ·rw[h2.bl t ht (by simp)];funext i;simp[GH.thaw,htf]
 ·rw[h2.fz0 t ht];simp[GH.thaw]
structure MPost (c:Ctx) (B:Nat) (G:Nat→Prop) (s:St) (a':Act) (w w':World) (h h':GH) (m:MS):Prop where
 step:Step B m.ps m.rb m.fz w w' h h'
 ok:Ok B G w' h'
 ent: ∀t∈Zu m.d,(m.d.at t).1= []∧((m.d.at t).2.isNo=false→ ∃u,a'.tmps[t]? =some u∧RelK c.P B s w' h' (fun p=>a'.tmps[p]?) t u (m.d.at t).2)
theorem Y4{d:Nat}{k:TK}{ts:List Nat}(hd: ∃u,a'.tmps[d]? =some u∧RelK c.P B s w' h' (fun p=>a'.tmps[p]?) d u k):
  ∀t∈Zu ((d,[],k)::ts.map fun t=>(t,([]:Zg),TK.no)),(Gam.at ((d,[],k)::ts.map fun t=>(t,([]:Zg),TK.no)) t).1= []∧
   ((Gam.at ((d,[],k)::ts.map fun t=>(t,([]:Zg),TK.no)) t).2.isNo=false→ ∃u,a'.tmps[t]? =some u∧RelK c.P B s w' h' (fun p=>a'.tmps[p]?) t u (Gam.at ((d,[],k)::ts.map fun t=>(t,([]:Zg),TK.no)) t).2):=by
 intro t ht;simp only[Gam.at];by_cases hdt:d=t
 ·subst hdt;rw[if_pos rfl];exact⟨rfl,fun _=>hd⟩
 ·rw[if_neg hdt]
  have: ∀(ts:List Nat),Gam.at (ts.map fun t=>(t,([]:Zg),TK.no)) t=([],.no):=by
   intro ts
   induction ts with
   |nil=>rfl
   |cons u ts ih=>simp only[Z8Q,Gam.at,ih,ite_self]
  rw[this];exact⟨rfl,fun hn=>by simp[TK.isNo]at hn⟩
theorem Xy{d:Nat}(hd:d<a.tmps.size)(v:Value):(a.put (some d) v).tmps[d]? =some v:=by
 simp[Act.put,hd]
theorem Su{d t:Nat}(hd:t≠d)(v:Value):(a.put (some d) v).tmps[t]? =a.tmps[t]? :=by
 simp[Act.put,Zax (Zab hd)]
theorem Zb(s:St)(c:Ctx):holds s (ixC c []):=Ws s
theorem Z2Z(hr:RelG c B G s a w h g){fl:Bool}{x:Operand}{b:E×List Nat}(hk:Jv g fl x=some b){z:V}(hz:eval s b.1=some z):Rd w (h.thaw b.2).F z (a.eval x):=by
 simp only[Jv,Z8p]at hk;obtain⟨a0,ha,rfl⟩:=hk;obtain⟨y,hy,hyr⟩:=VF hr (Zb s c) ha;obtain⟨z',hz',hzr⟩:=SW (fl:=fl) (b:=a0) hy hyr ⟨z,hz⟩;rw[hz]at hz';cases hz';exact hzr.mono (Qv fun p hp=>hp)
theorem Z3l(hr:RelG c B G s a w h g){fl ag:Bool}{n:Nat}{x:Operand}{b:E×List Nat}(hk:Jv g fl x=some b){z:V}(hz:eval s (tyE ag n b.1)=some z):
  (∀l,z≠ .tup l)∧(ag=true→z.cells.length=n)∧(ag=false→z.one=true)∧Rd w (h.thaw b.2).F z (a.eval x):=by
 obtain⟨h1,h2,h3,h4⟩:=TJ hz;exact⟨h2,h3,h4,Z2Z hr hk h1⟩
theorem OwnV.mono{P:Program}{o o':Option Nat}{ty:TypeId}{x:V}{v:Value}(hv:OwnV P B w h o ty x v)(hF: ∀b,h.F b→h'.F b)(ho:o=o'):OwnV P B w h' o' ty x v:=by
 subst ho;exact hv.keep (.refl _ _) hF fun _ _=>rfl
theorem zt(hr:RelG c B G s a w h g){ty:TypeId}{d t:Nat}{e:E}{v:Value}(hd:d<a.tmps.size)(htd:t≠d){y:V}(hy:eval s e=some y)(hown:OwnV c.P B w h (h.bl t 1) ty y v):
  ∃h',MPost c B G s (a.put (some d) v) w w h h' {d:= [(d,[],.own ty e),(t,[],.no)],ps:= [d,t],rb:= [d,t],fz:= [],es:= []}:=by
 refine⟨h.put d (fun i=>if i=1 then h.bl t 1 else none) (lost h [t]),Xo (Z8E _ _) (fun _ _ _=>rfl) (by simp) (fun u hu=>by simp at hu;subst hu;simp) (fun hn=>by simp at hn),
  hr.ok.put (Z8v _) (fun u i b _ hb=>(ZO hb).1) (fun i b hb=> ?_) (fun i j b hi hj=> ?_) (fun i b u j hu hi hj=> ?_),Y4 (ts:= [t]) ⟨v,Xy hd v,y,hy,?_⟩⟩
 ·split at hb
  ·exact .inr ⟨t,1,hb⟩
  ·cases hb
 ·split at hi<;>split at hj<;>first| (cases hi;done) | (cases hj;done) |omega
 ·split at hi
  ·obtain⟨h1,h2⟩:=ZO hj;exact h2 (by simp[(hr.ok.inj t 1 u j b hi h1).1])
  ·cases hi
 ·exact hown.mono (fun _ hb=>hb) (by simp[GH.put])
theorem Z1i(hr:RelG c B G s a w h g){d t:Nat}{cs:List (CK×E)}{v:Value}(hd:d<a.tmps.size)(htd:t≠d)(hk:RelK c.P B s w h (fun p=>a.tmps[p]?) t v (.mem cs)):
  ∃h',MPost c B G s (a.put (some d) v) w w h h' {d:= [(d,[],.mem cs),(t,[],.no)],ps:= [d,t],rb:= [d,t],fz:= [],es:= []}:=by
 obtain⟨b,vs,T,h1,rfl,h2,h3,h4⟩:=hk
 refine⟨h.put d (fun i=>h.bl t i) (lost h [t]),Xo (Z8E _ _) (fun _ _ _=>rfl) (by simp) (fun u hu=>by simp at hu;subst hu;simp) (fun hn=>by simp at hn),
  hr.ok.put (Z8v _) (fun u i b _ hb=>(ZO hb).1) (fun i b hb=> .inr ⟨t,i,hb⟩) (fun i j b hi hj=>(hr.ok.inj t i t j b hi hj).2) (fun i b u j hu hi hj=> ?_),Y4 (ts:= [t]) ⟨_,Xy hd _,b,vs,T,by simp[GH.put,h1],rfl,h2,h3,fun i ck hi=> ?_⟩⟩
 ·obtain⟨h5,h6⟩:=ZO hj;exact h6 (by simp[(hr.ok.inj t i u j b hi h5).1])
 ·have:=(h4 i ck hi).keep (h':=h.put d (fun i=>h.bl t i) (lost h [t])) (w':=w) (.refl _ _) (fun _ hb=>hb) fun _ _=>rfl;simpa[GH.put]using this
def GH.yield(h:GH)(d p:Nat):GH:= {F:=fun b=>h.F b∨ ∃i,h.bl p i=some b,bl:=fun u i=>if u=p∨u=d then none else h.bl u i,K:=h.K}
theorem Z0X(hr:RelG c B G s a w h g){d p:Nat}{cs:List (CK×E)}(hd:d<a.tmps.size)(hpd:p≠d)(hm:memOf g p=some cs)(hdd:ZV cs=false){z:V}(hz:eval s (.pt none (cs.map (·.2)))=some z){v:Value}(hv: ∃b,h.bl p 0=some b∧v= .pointer (some ⟨b,0,none⟩)):
  ∃h',MPost c B G s (a.put (some d) v) w w h h' {d:= [(d,[],.val (.pt none (cs.map (·.2))) []),(p,[],.no)],ps:= [d,p],rb:= [d,p],fz:= [],es:= [.pt none (cs.map (·.2))]}:=by
 obtain⟨b,vs,T,h1,_,h2,h3⟩:=hr.memOf hm;obtain⟨b',h1',rfl⟩:=hv;rw[h1]at h1';cases h1';have hok:=hr.ok
 have hbl: ∀u i x,(h.yield d p).bl u i=some x→h.bl u i=some x∧u≠p:=by
  intro u i x hx;simp only[GH.yield]at hx;split at hx
  ·cases hx
  ·rename_i hn;exact⟨hx,fun e=>hn (.inl e)⟩
 refine⟨h.yield d p,⟨Z8E _ _,fun _ _ _=>rfl,fun b hb=> .inl hb,fun t ht _=> ?_,fun t ht=> ?_,fun _ _ _ _ hm=>(by simp at hm),rfl⟩,⟨hok.base,fun b hb=> ?_,fun b hb=> ?_,fun b hb=> .inl (hok.g_F b hb),fun t i b hb=> ?_,fun t i u j b hb hb'=>hok.inj t i u j b (hbl _ _ _ hb).1 (hbl _ _ _ hb').1,hok.k_lt,fun t i b hb=>hok.k_bl t i b (hbl _ _ _ hb).1,fun b hb=> ?_⟩,
  Y4 (ts:= [p]) ⟨_,Xy hd _,z,hz,SY h1 h2 h3 hdd hz (fun b hb=> .inl (.inl hb)) fun i b hb=> .inl (.inr ⟨i,hb⟩)⟩⟩
 ·simp only[Z8V,ZaX,Zcj,not_or]at ht;funext i;simp[GH.yield,ht.1,ht.2]
 ·simp only[Z8V,ZaX,Zcj,not_or]at ht;simp[GH.yield,ht.1,ht.2]
 ·rcases hb with hb| ⟨i,hi⟩
  ·exact hok.f_lt b hb
  ·exact(hok.b_lt p i b hi).2.1
 ·rcases hb with hb| ⟨i,hi⟩
  ·exact hok.f_or b hb
  ·exact .inr (hok.b_lt p i b hi).1
 ·obtain⟨hb1,hne⟩:=hbl _ _ _ hb;obtain⟨q1,q2,q3⟩:=hok.b_lt t i b hb1;refine⟨q1,q2,fun hF=> ?_⟩;rcases hF with hF| ⟨j,hj⟩
  ·exact q3 hF
  ·exact hne (hok.inj t i p j b hb1 hj).1
 ·rcases hb with hb| ⟨i,hi⟩
  ·exact hok.k_F b hb
  ·exact .inr (hok.k_bl p i b hi)
theorem Tj(hr:RelG c B G s a w h g){ty:TypeId}{d:Nat}{x:Operand}{m:MS}(hd:d<a.tmps.size)(hm:TN c g ty d x=some m)(hes: ∀e∈m.es,∃z,eval s e=some z):
  ∃h',MPost c B G s (a.put (some d) (a.eval x)) w w h h' m:=by
 unfold TN at hm;split at hm
 ·rename_i t ty' e hk;split at hm
  ·cases hm
  ·rename_i hne;have htd:t≠d:=fun e=>hne (.inl e);simp only[Z8l]at hm;subst hm;obtain⟨v,hv,⟨y,hy,hown⟩,_⟩:=hr.look (Zb s c) (show look g [] t=_ from hk) rfl;rw[Act.eval_tmp a t v hv];exact zt hr hd htd hy hown
 ·rename_i t cs hk;split at hm
  ·cases hm
  ·rename_i hne;have htd:t≠d:=fun e=>hne (.inl e);simp only[Z8l]at hm;subst hm;obtain⟨v,hv,hrel,_⟩:=hr.look (Zb s c) (show look g [] t=_ from hk) rfl;rw[Act.eval_tmp a t v hv];exact Z1i hr hd htd hrel
 ·rename_i t p hk;split at hm
  ·rename_i hcond;simp only[Z8u,Zbl,ne_eq]at hcond;simp only[Z8m]at hm;obtain⟨cs,hm1,hm⟩:=hm;split at hm
   ·cases hm
   ·rename_i hdd;simp only[Z8l]at hm;subst hm;obtain⟨z,hz⟩:=hes _ (List.Mem.head _);obtain⟨v,hv,hrel,_⟩:=hr.look (Zb s c) (show look g [] t=_ from hk) rfl;rw[Act.eval_tmp a t v hv];exact Z0X hr hd hcond.2 hm1 (by simpa using hdd) hz hrel
  ·cases hm
 ·rename_i hk;simp only[Z8l]at hm;subst hm;rw[UZ hr (Zb s c) hk]
  exact⟨h.put d (fun _=>none) (lost h []),Xo (Z8E _ _) (fun _ _ _=>rfl) (by simp) (fun u hu=>by simp at hu) (fun hn=>by simp at hn),
   hr.ok.put (Z8v _) (fun u i b _ hb=>(ZO hb).1) (fun i b hb=>by cases hb) (fun i j b hi hj=>by cases hi) (fun i b u j hu hi hj=>by cases hi),Y4 (ts:= []) ⟨_,Xy hd _,rfl⟩⟩
 ·split at hm
  ·rename_i p ty' e hho;simp only[Z8l]at hm;subst hm;unfold LX at hho;split at hho
   ·rename_i p' hk;split at hho
    ·rename_i hcond;simp only[Z8u,Zbl,ne_eq]at hcond;simp only[Z8p,Z8w]at hho;obtain⟨⟨q1,q2⟩,hho,rfl,rfl,rfl⟩:=hho;obtain⟨v,hv,y,hy,hown⟩:=hr.ownOf hho;have hrel:a.tmps[p']? =some (a.eval _):=ZK hr (Zb s c) hk rfl 0;rw[hv]at hrel;simp only[Z8l]at hrel;rw[←hrel];exact zt hr hd hcond.2 hy hown
    ·cases hho
   ·cases hho
  ·simp only[Z8p]at hm;obtain⟨b,hb,rfl⟩:=hm;obtain⟨z,hz⟩:=hes b.1 (by simp);have hrd:=Z2Z hr hb hz;obtain⟨hok1,_⟩:=V5 hr.ok b.2
   exact⟨(h.thaw b.2).put d (fun _=>none) (lost (h.thaw b.2) []),Step.after (Xo (Z8E _ _) (fun _ _ _=>rfl) (by simp) (fun u hu=>by simp at hu) (fun hn=>by simp at hn)),
    hok1.put (Z8v _) (fun u i b _ hb=>(ZO hb).1) (fun i b hb=>by cases hb) (fun i j b hi hj=>by cases hi) (fun i b u j hu hi hj=>by cases hi),Y4 (ts:= []) ⟨_,Xy hd _,z,hz,hrd.mono fun b hb=>GH.ext_F hb⟩⟩
def YS(cur:Array Value)(o:Nat)(new:Array Value):Array Value:=(cur.toList.take o++new.toList++cur.toList.drop (o+new.size)).toArray
theorem VT{cur new:Array Value}{o:Nat}(hle:o+new.size≤cur.size):(YS cur o new).size=cur.size:=by
 simp[YS];omega
theorem Sm{cur new:Array Value}{o:Nat}(hle:o+new.size≤cur.size){i:Nat}(hi:i<new.size):(YS cur o new).getD (o+i) undef=new.getD i undef:=by
 simp only[YS,Z8q,Z9S];rw[Z8G (by simp;omega),Z8F (by simp;omega)];congr 1;simp;congr 1;omega
theorem VD{cur new:Array Value}{o:Nat}(hle:o+new.size≤cur.size){i:Nat}(hi:i<o∨o+new.size≤i):(YS cur o new).getD i undef=cur.getD i undef:=by
 simp only[YS,Z8q,Z9S];rcases hi with hi|hi
 ·rw[Z8G (by simp;omega),Z8G (by simp;omega),Z8T,if_pos hi];simp
 ·rw[Z8F (by simp;omega),Z8N];congr 1;simp;congr 1;omega
theorem WW{P:Program}{T:TypeId}(hT:okT P T=true){b o:Nat}{cur:Array Value}{ty:TypeId}(hh:w.heap[b]? =some (.cells cur ty (0,0))){v:Value}(hn:v.cells.size=P.cellsOf T)(hone: ∀(i:Nat),i<v.cells.size→(v.cells.getD i undef).oneCell'=true)(hle:o+v.cells.size≤cur.size):
  (Instr.storeAt T (.pointer (some ⟨b,o,none⟩)) v).run P w= .ok () (w.setRow b (YS cur o v.cells)):=by
 obtain⟨d,i,hd,hi,hs,_⟩:=Wy hT
 have hst:=run_storeCells_at (P:=P) b o ty v.cells.toList 0 cur w hh (by simpa using hle) (fun u hu=>by
  obtain⟨j,hj⟩:=Z8O hu;have hlt:j<v.cells.size:=by simpa using(Z8o.1 hj).1
  have:=hone j hlt
  have hget:v.cells.getD j undef=u:=by
   simp only[Z8q];rw[Z9p]at hj;rw[hj];rfl
  rw[hget]at this;exact this)
 simp only[Za6,Zaj]at hst;simp[Instr.storeAt,Instr.sureAddr,storeVar,Yr hi,hn,hs,hst,YS]
theorem below_setRow(w:World){b:Nat}(hb:B≤b)(cs:Array Value):Below B w (w.setRow b cs):=
 ⟨rfl,rfl,rfl,by simp[World.setRow],fun k hk=>Zah w b k cs (by omega)⟩
theorem VZ(hok:Ok B G w h){b:Nat}(cs:Array Value){G':Nat→Prop}(hn: ∀x,G' x→x≠b):Same G' w (w.setRow b cs):=fun x hx=>Zah w b x cs (hn x hx)
theorem XR{cs new:List (CK×E)}{o:Nat}(hle:o+new.length≤cs.length):(Vy cs o new).length=cs.length∧ ∀(i:Nat) (ck:CK×E),(Vy cs o new)[i]? =some ck→(o≤i∧i<o+new.length∧new[i-o]? =some ck)∨((i<o∨o+new.length≤i)∧cs[i]? =some ck):=by
 unfold Vy;refine⟨by simp;omega,fun i ck hi=> ?_⟩;by_cases h1:i<o
 ·right;rw[Z8G (by simp;omega),Z8G (by simp;omega),Z8T,if_pos h1]at hi;exact⟨.inl h1,hi⟩
 ·by_cases h2:i<o+new.length
  ·left;rw[Z8G (by simp;omega),Z8F (by simp;omega)]at hi;refine⟨by omega,h2,?_⟩;have:(List.take o cs).length=o:=by simp;omega
   rw[this]at hi;exact hi
  ·right;rw[Z8F (by simp;omega),Z8N]at hi;refine⟨.inr (by omega),?_⟩;have:(List.take o cs++new).length=o+new.length:=by simp;omega
   rw[this,show o+new.length+(i- (o+new.length))=i from by omega]at hi;exact hi
theorem Sw(hok:Ok B G w h){p o b:Nat}{cs new:List (CK×E)}{cur row:Array Value}{ty:TypeId}(hbl:h.bl p 0=some b)(hh:w.heap[b]? =some (.cells cur ty (0,0)))(hcs:RelCs c.P B s w h p cs cur)
  (hsz:row.size=cur.size) (hle:o+new.length≤cs.length) (hrow: ∀i,i<o∨o+new.length≤i→row.getD i undef=cur.getD i undef) {ts:List Nat} {f:Nat→Option Nat} (hpt:p∉ts)
  (hf0:f 0=h.bl p 0) (hfout: ∀i,i<o∨o+new.length≤i→f (i+1)=h.bl p (i+1)) (hfin: ∀i x,i<new.length→f (o+i+1)=some x→h.bl p (o+i+1)=some x∨ ∃t∈ts,∃j,h.bl t j=some x)
  (hinj: ∀i j x,f i=some x→f j=some x→i=j)
  (hnew: ∀(i:Nat) (ck:CK×E),new[i]? =some ck→RelC c.P B s w h (f (o+i+1)) ck.1 ck.2 (row.getD (o+i) undef)) (tm:Nat→Option Value):
  ∃h',Ok B G (w.setRow b row) h'∧Step B (p::ts) ts [] w (w.setRow b row) h h'∧
   RelK c.P B s (w.setRow b row) h' tm p (.pointer (some ⟨b,0,none⟩)) (.mem (Vy cs o new)):=by
 obtain⟨hbB,hblt,hbF⟩:=hok.b_lt p 0 b hbl;obtain⟨hsl,hget⟩:=XR hle;have hFs:Same h.F w (w.setRow b row):=VZ hok _ fun x hx e=>hbF (e▸hx)
 have hfb: ∀i x,f (i+1)=some x→x≠b∧((h.bl p (i+1)=some x)∨ ∃t∈ts,∃j,h.bl t j=some x):=by
  intro i x hx
  have h2:h.bl p (i+1)=some x∨ ∃t∈ts,∃j,h.bl t j=some x:=by
   by_cases hin:o≤i∧i<o+new.length
   ·have:=hfin (i-o) x (by omega);rw[show o+(i-o)+1=i+1 from by omega]at this;exact this hx
   ·rw[hfout i (by omega)]at hx;exact .inl hx
  refine⟨fun e=> ?_,h2⟩;subst e;rcases h2 with h2| ⟨t,ht,j,hj⟩
  ·have:=(hok.inj p 0 p (i+1) x hbl h2).2;omega
  ·exact hpt ((hok.inj p 0 t j x hbl hj).1▸ht)
 refine⟨h.put p f (lost h ts),hok.put (by simp[World.setRow]) (fun u i x _ hx=>(ZO hx).1) (fun i x hx=> .inr ?_) hinj (fun i x u j hu hi hj=> ?_),
  Xo (below_setRow w hbB _) (fun x hx hn=>Zah w b x _ fun e=>hn p (by simp) 0 (e▸hbl)) (by simp) (fun t ht=>⟨by simp[ht],ht⟩) (fun _=>hf0),b,row,ty,by simp[GH.put,hf0,hbl],rfl,Zcg w b cur _ ty (0,0) hh,by rw[hsz,hcs.1,hsl],fun i ck hi=> ?_⟩
 ·cases i with
  |zero=>rw[hf0]at hx;exact⟨p,0,hx⟩
  |succ i=>
   rcases(hfb i x hx).2 with h2| ⟨t,_,j,hj⟩
   ·exact⟨p,i+1,h2⟩
   ·exact⟨t,j,hj⟩
 ·obtain⟨k1,k2⟩:=ZO hj;cases i with
  |zero=>rw[hf0]at hi;exact hu (hok.inj u j p 0 x k1 hi).1
  |succ i=>
   rcases(hfb i x hi).2 with h2| ⟨t,ht,j',hj'⟩
   ·exact hu (hok.inj u j p (i+1) x k1 h2).1
   ·exact k2 ((hok.inj u j t j' x k1 hj').1▸ht)
 ·have hbl':(h.put p f (lost h ts)).bl p (i+1)=f (i+1):=by simp[GH.put]
  rw[hbl'];have hkeep: ∀x,f (i+1)=some x→(w.setRow b row).heap[x]? =w.heap[x]? :=fun x hx=>Zah w b x _ (hfb i x hx).1;rcases hget i ck hi with ⟨h1,h2,h3⟩ | ⟨h1,h3⟩
  ·have:=hnew (i-o) ck h3;rw[show o+(i-o)=i from by omega]at this;exact this.keep hFs (fun _ hb=>hb) hkeep
  ·have:=hcs.2 i ck h3;rw[hrow i h1,hfout i h1];rw[hfout i h1]at hkeep;exact this.keep hFs (fun _ hb=>hb) hkeep
theorem WU{p o:Nat}{new:List (CK×E)}{k:TK}(hp:putM g p o new=some k): ∃cs,memOf g p=some cs∧o+new.length≤cs.length∧k= .mem (Vy cs o new):=by
 unfold putM at hp;simp only[Z8m]at hp;obtain⟨cs,hm,hp⟩:=hp;split at hp
 ·simp only[Z8l]at hp;exact⟨cs,hm,by assumption,hp.symm⟩
 ·cases hp
theorem Wr(hr:RelG c B G s a w h g){T:TypeId}(hT:okT c.P T=true){p o b:Nat}{new:List (CK×E)}{k:TK}(hp:putM g p o new=some k)(hbl:h.bl p 0=some b){v:Value}(hn:v.cells.size=c.P.cellsOf T)(hlen:new.length=c.P.cellsOf T)
  {ts:List Nat} {f:Nat→Option Nat} (hpt:p∉ts) (hf0:f 0=h.bl p 0) (hfout: ∀i,i<o∨o+new.length≤i→f (i+1)=h.bl p (i+1)) (hfin: ∀i x,i<new.length→f (o+i+1)=some x→h.bl p (o+i+1)=some x∨ ∃t∈ts,∃j,h.bl t j=some x)
  (hinj: ∀i j x,f i=some x→f j=some x→i=j)
  (hnew: ∀(i:Nat) (ck:CK×E),new[i]? =some ck→RelC c.P B s w h (f (o+i+1)) ck.1 ck.2 (v.cells.getD i undef)):
  ∃w' h',(Instr.storeAt T (.pointer (some ⟨b,o,none⟩)) v).run c.P w= .ok () w'∧Ok B G w' h'∧Step B (p::ts) ts [] w w' h h'∧ ∃u,a.tmps[p]? =some u∧RelK c.P B s w' h' (fun p=>a.tmps[p]?) p u k:=by
 obtain⟨cs,hm,hle,rfl⟩:=WU hp;obtain⟨b',cur,ty,h1,htm,hh,hcs⟩:=hr.memOf hm;rw[hbl]at h1;cases h1;have hle':o+v.cells.size≤cur.size:=by rw[hcs.1,hn,←hlen];exact hle
 have hvn:v.cells.size=new.length:=by rw[hn,hlen]
 obtain⟨h',k1,k2,k3⟩:=Sw (row:=YS cur o v.cells) hr.ok hbl hh hcs (VT hle') hle (fun i hi=>VD hle' (by omega)) hpt hf0 hfout hfin hinj (fun i ck hi=>by
  rw[Sm hle' (by rw[hvn];exact(Z8o.1 hi).1)];exact hnew i ck hi) (fun p=>a.tmps[p]?)
 refine⟨_,h',WW hT hh hn (fun i hi=> ?_) hle',k1,k2,_,htm,k3⟩;exact(hnew i new[i] (Z8n (by omega))).cell
theorem Z2m{n:Nat}{e:E}{z:V}{v:Value}(hz:eval s e=some z)(ht: ∀l,z≠ .tup l)(hrd:Rd w h.F z v)(o:Option Nat){i:Nat}{ck:CK×E}(hlt:i<z.cells.length)(hi:ck=(CK.fz,E.fld e i)):RelC c.P B s w h o ck.1 ck.2 (v.cells.getD i undef):=by
 subst hi;obtain⟨hs1,hs2,hs3⟩:=hrd.cells ht;have hget:z.cells[i]? =some z.cells[i]:=Z8n hlt;refine⟨z.cells[i],?_,hs2 _ (Z8M _),hs3 i _ hget⟩;simp only[eval,hz,Z8y,fldV,Z4o ht,hget];unfold oneV;rw[if_pos (hs2 _ (Z8M _))]
theorem UA{β:Type}{n i:Nat}{f:Nat→β}{y:β}(hi:((List.range n).map f)[i]? =some y):i<n∧y=f i:=by
 simp only[Z8D,Z8p]at hi;obtain⟨j,hj,rfl⟩:=hi;have hlt:i<n:=by simpa using(Z8o.1 hj).1
 have:j=i:=by simpa[hlt]using hj.symm
 exact⟨hlt,by rw[this]⟩
theorem To(hr:RelG c B G s a w h g){T:TypeId}(hT:okT c.P T=true)(hT1:Zn c.P T=true∨c.P.cellsOf T=1){p o:Nat}{x:Operand}{m:MS}(hm:TP c g T p o x=some m)(hes: ∀e∈m.es,∃z,eval s e=some z){b:Nat}(hbl:h.bl p 0=some b):
  ∃w' h',(Instr.storeAt T (.pointer (some ⟨b,o,none⟩)) (a.eval x)).run c.P w= .ok () w'∧MPost c B G s a w w' h h' m:=by
 have hthaw: ∀fz,(h.thaw fz).bl p 0=some b:=fun fz=>by simp[GH.thaw,hbl]
 unfold TP at hm;simp only at hm;split at hm
 ·rename_i hag;split at hm
  ·rename_i t cs hk;split at hm
   ·rename_i hcond;obtain⟨hl,htp,_⟩:=hcond;simp only[Z8p]at hm;obtain⟨k,hput,rfl⟩:=hm;obtain⟨v,hv,⟨vs,rfl,hcs⟩,_⟩:=hr.look (Zb s c) (show look g [] t=_ from hk) rfl;rw[Act.eval_tmp a t _ hv]
    obtain⟨w',h',e1,e2,e3,e4⟩:=Wr hr hT hput hbl (v:= .agg vs) (by show vs.size=_;rw[hcs.1,hl]) hl (ts:= [t]) (f:=fun i=>if o+1≤i∧i<o+1+cs.length then h.bl t (i-o)else h.bl p i) (by simpa using Zab htp)
     (if_neg (by omega)) (fun i hi=>if_neg (by omega)) (fun i x hi hx=> .inr ⟨t,by simp,_,by rw[if_pos (by omega)]at hx;exact hx⟩) (fun i j x hi hj=>by
      split at hi<;>split at hj
      ·have:=(hr.ok.inj t _ t _ x hi hj).2;omega
      ·exact absurd (hr.ok.inj t _ p _ x hi hj).1 htp
      ·exact absurd (hr.ok.inj t _ p _ x hj hi).1 htp
      ·exact(hr.ok.inj p _ p _ x hi hj).2)
     (fun i ck hi=>by
      have hlt:=(Z8o.1 hi).1;rw[if_pos (by omega),show o+i+1-o=i+1 from by omega];exact hcs.2 i ck hi)
    exact⟨w',h',e1,e3,e2,Y4 (ts:= [t]) e4⟩
   ·cases hm
  ·simp only[Z8m,Z8p]at hm;obtain⟨b0,hb0,k,hput,rfl⟩:=hm;obtain⟨z,hz⟩:=hes _ (List.Mem.head _);obtain⟨k1,k2,k3,k4⟩:=Z3l hr hb0 hz;obtain⟨hs1,hs2,hs3⟩:=k4.cells k1
   obtain⟨w',h',e1,e2,e3,e4⟩:=Wr (hr.frz b0.2) hT hput (hthaw _) (hs1.trans (k2 rfl)) (by simp) (ts:= []) (f:=(h.thaw b0.2).bl p) (by simp) rfl (fun _ _=>rfl) (fun i x _ hx=> .inl hx)
    (fun i j x hi hj=>((V5 hr.ok b0.2).1.inj p i p j x hi hj).2) (fun i ck hi=>by
     obtain⟨hlt,rfl⟩:=UA hi;exact Z2m (n:=0) hz k1 k4 _ (by rw[k2 rfl];exact hlt) rfl)
   exact⟨w',h',e1,e3.after,e2,Y4 (ts:= []) e4⟩
 ·rename_i hag;have h1:c.P.cellsOf T=1:=hT1.resolve_left hag;split at hm
  ·rename_i t ty e hk;split at hm
   ·rename_i hcond;obtain⟨htp,_⟩:=hcond;simp only[Z8p]at hm;obtain⟨k,hput,rfl⟩:=hm;obtain⟨v,hv,⟨y,hy,hown⟩,_⟩:=hr.look (Zb s c) (show look g [] t=_ from hk) rfl;rw[Act.eval_tmp a t _ hv]
    have hvc:v.cells= #[v]:=by
     rcases hown with ⟨l,xs,_,_,_,⟨_,hc⟩,_⟩ | ⟨_,_,_,_,_,_,_,rfl,_⟩
     ·rcases hc with ⟨rfl,_⟩ | ⟨_,_,_,rfl,_⟩<;>rfl
     ·rfl
    obtain⟨w',h',e1,e2,e3,e4⟩:=Wr hr hT hput hbl (v:=v) (by rw[hvc,h1];rfl) (by rw[h1];rfl) (ts:= [t]) (f:=fun i=>if i=o+1 then h.bl t 1 else h.bl p i) (by simpa using Zab htp)
     (if_neg (by omega)) (fun i hi=>if_neg (by simp only[Z9J]at hi;omega)) (fun i x hi hx=> .inr ⟨t,by simp,1,by simp only[Z9J]at hi;rw[if_pos (by omega)]at hx;exact hx⟩) (fun i j x hi hj=>by
      split at hi<;>split at hj
      ·omega
      ·exact absurd (hr.ok.inj t _ p _ x hi hj).1 htp
      ·exact absurd (hr.ok.inj t _ p _ x hj hi).1 htp
      ·exact(hr.ok.inj p _ p _ x hi hj).2)
     (fun i ck hi=>by
      cases i with
      |zero=>simp at hi;subst hi;rw[if_pos (by omega),hvc];exact⟨y,hy,hown⟩
      |succ i=>simp at hi)
    exact⟨w',h',e1,e3,e2,Y4 (ts:= [t]) e4⟩
   ·cases hm
  ·rename_i hk;simp only[Z8p]at hm;obtain⟨k,hput,rfl⟩:=hm;rw[UZ hr (Zb s c) hk]
   obtain⟨w',h',e1,e2,e3,e4⟩:=Wr hr hT hput hbl (v:= .slice none 0 0) (by rw[h1];rfl) (by rw[h1];rfl) (ts:= []) (f:=h.bl p) (by simp) rfl (fun _ _=>rfl) (fun i x _ hx=> .inl hx)
    (fun i j x hi hj=>(hr.ok.inj p i p j x hi hj).2) (fun i ck hi=>by
     cases i with
     |zero=>simp at hi;subst hi;exact⟨rfl,rfl⟩
     |succ i=>simp at hi)
   exact⟨w',h',e1,e3,e2,Y4 (ts:= []) e4⟩
  ·simp only[Z8m,Z8p]at hm;obtain⟨b0,hb0,k,hput,rfl⟩:=hm;obtain⟨z,hz⟩:=hes _ (List.Mem.head _);obtain⟨hz1,hzo⟩:=JK hz;have k4:=Z2Z hr hb0 hz1;obtain⟨hs1,hs2,hs3⟩:=k4.cells (Rb hzo);rw[Yv hzo]at hs1 hs3
   obtain⟨w',h',e1,e2,e3,e4⟩:=Wr (hr.frz b0.2) hT hput (hthaw _) (hs1.trans (by rw[h1];rfl)) (by rw[h1];rfl) (ts:= []) (f:=(h.thaw b0.2).bl p) (by simp) rfl (fun _ _=>rfl) (fun i x _ hx=> .inl hx)
    (fun i j x hi hj=>((V5 hr.ok b0.2).1.inj p i p j x hi hj).2) (fun i ck hi=>by
     cases i with
     |zero=>simp at hi;subst hi;exact⟨z,hz,hzo,hs3 0 z rfl⟩
     |succ i=>simp at hi)
   exact⟨w',h',e1,e3.after,e2,Y4 (ts:= []) e4⟩
end
end Vm
namespace Vm
open Go
open Go.RowKit (Below)
theorem Te{cs b:List V}{o:Nat}(hle:o+b.length≤cs.length):(setCells cs o b).length=cs.length∧(∀i,i<b.length→(setCells cs o b)[o+i]? =b[i]?)∧ ∀i,i<o∨o+b.length≤i→(setCells cs o b)[i]? =cs[i]? :=by
 unfold setCells;refine⟨by simp;omega,fun i hi=> ?_,fun i hi=> ?_⟩
 ·rw[Z8G (by simp;omega),Z8F (by simp;omega)];congr 1;simp;omega
 ·rcases hi with hi|hi
  ·rw[Z8G (by simp;omega),Z8G (by simp;omega),Z8T,if_pos hi]
  ·rw[Z8F (by simp;omega),Z8N];congr 1;simp;omega
theorem J9{cs b:List V}{o:Nat}{x:V}(hx:x∈setCells cs o b):x∈cs∨x∈b:=by
 unfold setCells at hx;simp only[Z90]at hx;rcases hx with (hx|hx) |hx
 ·exact .inl (Z9g hx)
 ·exact .inr hx
 ·exact .inl (Z9Y hx)
theorem Z1N{y:V}{k o:Nat}{b:List V}(hy:y.fits k)(hb: ∀x∈b,x.one=true)(hne:b≠ [])(hle:o+b.length≤y.cells.length):
  (y.put o b).fits k∧(∀i,i<b.length→(y.put o b).cells[o+i]? =b[i]?)∧ ∀i,i<o∨o+b.length≤i→(y.put o b).cells[i]? =y.cells[i]? :=by
 have other:y.cells= [y]→y.put o b=b.headD y→(y.put o b).fits k∧(∀i,i<b.length→(y.put o b).cells[o+i]? =b[i]?)∧ ∀i,i<o∨o+b.length≤i→(y.put o b).cells[i]? =y.cells[i]? :=by
  intro hyc hput;have hlen:y.cells.length=1:=by rw[hyc];rfl
  match b,hne,hle with
  | [z],_,hle=>
    simp only[Z9J]at hle;have ho:o=0:=by omega
    subst ho;have hz:=hb z (by simp);have hpz:y.put 0 [z]=z:=by rw[hput];rfl
    rw[hpz];refine⟨⟨by rw[Yv hz,←hy.1,hlen];rfl,fun c hc=>by rw[Yv hz]at hc;simp at hc;subst hc;exact hz⟩,fun i hi=> ?_,fun i hi=> ?_⟩
    ·have:i=0:=by simpa using hi
     subst this;rw[Yv hz]
    ·have h1:1≤i:=by simp at hi;omega
     rw[Yv hz,hyc];simp[Z9x,h1]
  |z::z'::r,_,hle=>simp only[Z9o]at hle;omega
 cases y with
 |agg cs=>
  have hle':o+b.length≤cs.length:=hle;obtain⟨h1,h2,h3⟩:=Te hle';refine⟨⟨by show(setCells cs o b).length=k;rw[h1];exact hy.1,fun c hc=> ?_⟩,h2,h3⟩;rcases J9 (show c∈setCells cs o b from hc)with hc|hc
  ·exact hy.2 c hc
  ·exact hb c hc
 |tup l=>exact other rfl rfl
 |int k n=>exact other rfl rfl
 |bool v=>exact other rfl rfl
 |str v=>exact other rfl rfl
 |sl l=>exact other rfl rfl
 |ptr l=>exact other rfl rfl
 |fn f=>exact other rfl rfl
 |clo f cs=>exact other rfl rfl
 |nul k=>exact other rfl rfl
 |mp id ks xs=>exact other rfl rfl
theorem Jh{x i z u:V}{o:Nat}(hz:updV x i o z=some u): ∃l ki q y,x= .sl l∧i= .int ki (q:Nat)∧l[q]? =some y∧o+z.cells.length≤y.cells.length∧z.cells≠ []∧u= .sl (l.set q (y.put o z.cells)):=by
 unfold updV at hz;split at hz
 ·rename_i l ki i;split at hz
  ·rename_i h0;obtain⟨q,rfl⟩:=Z8H h0;rw[Z8B,Z8m]at hz;obtain⟨y,hy,hz⟩:=hz;split at hz
   ·rename_i hc;simp only[Z8l]at hz;exact⟨l,ki,q,y,rfl,rfl,hy,hc.1,hc.2,hz.symm⟩
   ·simp at hz
  ·simp at hz
 ·simp at hz
section
variable {c:Ctx} {B:Nat} {G:Nat→Prop} {s:St} {a a':Act} {w w':World} {h h':GH} {g:Gam} {C:Zg} {fz ps rb:List Nat}
theorem OwnV.store(hok:Ok B G w h){p i n:Nat}{ty:TypeId}{x u:V}{v:Value}(hv:OwnV c.P B w h (h.bl p i) ty x v)(hbl:h.bl p i=some n){ki:IntKind}{q off:Nat}{z:V}(hu:updV x (.int ki (q:Nat)) off z=some u)
  {T:TypeId} (hT:okT c.P T=true) {vz:Value} (hzt: ∀l,z≠ .tup l) (hzr:Rd w h.F z vz) (hzn:z.cells.length=c.P.cellsOf T):
  ∃row,(Instr.storeAt T (.pointer (some ⟨n,q*c.P.cellsOf ty+off,none⟩)) vz).run c.P w= .ok () (w.setRow n row)∧OwnV c.P B (w.setRow n row) h (h.bl p i) ty u v:=by
 rcases hv with ⟨l,xs,rfl,h0,hfit,hown,hb,hrd⟩ | ⟨_,_,_,_,_,_,rfl,_⟩
 case inr=>obtain⟨_,_,_,_,hl',_⟩:=Jh hu;cases hl'
 obtain⟨l',ki',q',y,hl',hq',hy,hle,hne,rfl⟩:=Jh hu;cases hl';simp only[V.int.injEq]at hq';have hqq:q'=q:=by omega
 subst hqq;obtain⟨hnB,hnlt,hnF⟩:=hok.b_lt p i n hbl;obtain⟨hs1,hs2,hs3⟩:=hzr.cells hzt;have hyf:=hfit y (Z8x hy);obtain⟨f1,f2,f3⟩:=Z1N hyf (fun x hx=>hs2 x hx) hne hle;have hq:q'<l.length:=(Z8o.1 hy).1;have hqk:q'*c.P.cellsOf ty+c.P.cellsOf ty≤l.length*c.P.cellsOf ty:=by rw[←Z9M];exact Z93 _ hq
 rw[hyf.1]at hle;rcases hown.2 with ⟨rfl,hn⟩ | ⟨n',cap,cur,rfl,hB,hh,hlc,hcap,hsz,htk⟩
 ·omega
 ·have hnn:n'=n:=by
   have:Value.ownBlock (.slice (some ⟨n',0,none⟩) l.length cap)=some n':=rfl;rw[this,hbl]at hb;cases hb;rfl
  subst hnn;have hcl:l.length*c.P.cellsOf ty≤cur.size:=by rw[hsz];exact Z93 _ hlc
  have hle':(q'*c.P.cellsOf ty+off)+vz.cells.size≤cur.size:=by rw[hs1];omega
  refine⟨YS cur (q'*c.P.cellsOf ty+off) vz.cells,WW hT hh (by rw[hs1,hzn]) (fun j hj=> ?_) hle',?_⟩
  ·have hj':j<z.cells.length:=by rw[←hs1];exact hj
   have:=hs3 j z.cells[j] (Z8n hj');rw[this.one_eq];exact hs2 _ (Z8M _)
  ·have hfit': ∀x∈l.set q' (y.put off z.cells),x.fits (c.P.cellsOf ty):=by
    intro x hx;rcases Z9r hx with hx|rfl
    ·exact hfit x hx
    ·exact f1
   have hFs:Same h.F w (w.setRow n' (YS cur (q'*c.P.cellsOf ty+off) vz.cells)):=VZ hok _ fun x hx e=>hnF (e▸hx);have hrs:=VT hle';refine .inl ⟨l.set q' (y.put off z.cells),(YS cur (q'*c.P.cellsOf ty+off) vz.cells).toList.take (l.length*c.P.cellsOf ty),rfl,h0,hfit',⟨by simp[hrs];omega,.inr ⟨n',cap,_,by rw[Z9y],hB,Zcg w n' cur _ ty (0,0) hh,by simpa using hlc,hcap,by rw[hrs];exact hsz,by rw[Z9y]⟩⟩,hb,fun j ck hj=> ?_⟩;obtain⟨q2,r,y2,hq2,hr,rfl,hyc⟩:=UT hfit' h0 hj;have hq2l:q2<l.length:=by simpa using(Z8o.1 hq2).1
   have hq2k:q2*c.P.cellsOf ty+c.P.cellsOf ty≤l.length*c.P.cellsOf ty:=by rw[←Z9M];exact Z93 _ hq2l
   have hlt:q2*c.P.cellsOf ty+r< (YS cur (q'*c.P.cellsOf ty+off) vz.cells).size:=by rw[hrs];omega
   refine⟨(YS cur (q'*c.P.cellsOf ty+off) vz.cells).getD (q2*c.P.cellsOf ty+r) undef,?_,?_⟩
   ·rw[Z8T,if_pos (by omega),Z9p];simp[Z8q,hlt]
   ·
    have old: ∀y0,l[q2]? =some y0→y0.cells[r]? =some ck→(q2*c.P.cellsOf ty+r<q'*c.P.cellsOf ty+off∨q'*c.P.cellsOf ty+off+vz.cells.size≤q2*c.P.cellsOf ty+r)→
      Rd (w.setRow n' (YS cur (q'*c.P.cellsOf ty+off) vz.cells)) h.F ck ((YS cur (q'*c.P.cellsOf ty+off) vz.cells).getD (q2*c.P.cellsOf ty+r) undef):=by
     intro y0 hy0 hyr hout;obtain⟨u0,hu0,hru⟩:=hrd (q2*c.P.cellsOf ty+r) ck (by rw[WA hfit hy0 r hr];exact hyr);rw[VD hle' hout]
     have:cur.getD (q2*c.P.cellsOf ty+r) undef=u0:=by
      rw[←htk,Z8T,if_pos (by omega)]at hu0;have hu':cur[q2*c.P.cellsOf ty+r]? =some u0:=by simpa using hu0
      simp[Z8q,hu']
     rw[this];exact hru.keep hFs fun _ hb=>hb
    by_cases hqe:q2=q'
    ·subst hqe;rw[Z9u hq]at hq2;cases hq2;by_cases hin:off≤r∧r<off+z.cells.length
     ·have h2:=f2 (r-off) (by omega);rw[show off+(r-off)=r from by omega,hyc]at h2;have h3:=Sm hle' (i:=r-off) (by omega);rw[show q2*c.P.cellsOf ty+off+(r-off)=q2*c.P.cellsOf ty+r from by omega]at h3;rw[h3];exact(hs3 (r-off) ck h2.symm).keep hFs fun _ hb=>hb
     ·have h3:=f3 r (by omega);rw[hyc]at h3;exact old y hy h3.symm (by omega)
    ·rw[Z96 (Zab hqe)]at hq2
     have hsep:q2*c.P.cellsOf ty+c.P.cellsOf ty≤q'*c.P.cellsOf ty∨q'*c.P.cellsOf ty+c.P.cellsOf ty≤q2*c.P.cellsOf ty:=by
      rcases ZaK hqe with hlt'|hlt'
      ·left;rw[←Z9M];exact Z93 _ hlt'
      ·right;rw[←Z9M];exact Z93 _ hlt'
     exact old y2 hq2 hyc (by omega)
theorem JI(hr:RelG c B G s a w h g){T:TypeId}(hT:okT c.P T=true)(hT1:Zn c.P T=true∨c.P.cellsOf T=1){p off kk:Nat}{i:Option Nat}{j:E}{x:Operand}{m:MS}(hm:Qq c g T p i j off kk x=some m)(hes: ∀e∈m.es,∃z,eval s e=some z)
  {n q:Nat} (hbl:h.bl p (plI i)=some n) {ki:IntKind} (hj:eval s j=some (.int ki (q:Nat))):
  ∃w' h',(Instr.storeAt T (.pointer (some ⟨n,q*kk+off,none⟩)) (a.eval x)).run c.P w= .ok () w'∧MPost c B G s a w w' h h' m:=by
 unfold Qq at hm;simp only[Z8m]at hm;obtain⟨b0,hb0,hm⟩:=hm;split at hm
 ·cases hm
 ·rename_i hpf;have hpf':p∉b0.2:=by simpa using hpf
  have hbl1: ∀i,(h.thaw b0.2).bl p i=h.bl p i:=fun i=>by simp[GH.thaw,hpf']
  have hr1:=hr.frz b0.2
  have upd_e: ∀ {e1 e2:E} {u:V},eval s (.upd e1 j off e2)=some u→ ∃y z,eval s e1=some y∧eval s e2=some z∧updV y (.int ki (q:Nat)) off z=some u:=by
   intro e1 e2 u hu;simp only[eval,hj,Z8y,Z8m]at hu;obtain⟨y,hy,z,hz,hu⟩:=hu;exact⟨y,z,hy,hz,hu⟩
  have zs: ∀ {z:V},eval s (tyE (Zn c.P T) (c.P.cellsOf T) b0.1)=some z→(∀l,z≠ .tup l)∧Rd w (h.thaw b0.2).F z (a.eval x)∧z.cells.length=c.P.cellsOf T:=by
   intro z hz;obtain⟨k1,k2,k3,k4⟩:=Z3l hr hb0 hz;refine⟨k1,k4,?_⟩;cases hag:Zn c.P T with
   |true=>exact k2 hag
   |false=>
    have:c.P.cellsOf T=1:=hT1.resolve_left (by rw[hag];simp);rw[Yv (k3 hag),this];rfl
  split at hm
  ·simp only[Z8m]at hm;obtain⟨⟨ty,e⟩,ho,hm⟩:=hm;split at hm
   ·rename_i hkk;simp only[Z8l]at hm;subst hm;simp only at hkk;subst hkk;obtain⟨v,hv,y,hy,hown⟩:=hr1.ownOf ho;obtain⟨u,hu⟩:=hes _ (List.Mem.head _);obtain⟨y',z,hy',hz,hupd⟩:=upd_e hu;rw[hy]at hy';cases hy';obtain⟨k1,k2,k3⟩:=zs hz;have hbl':(h.thaw b0.2).bl p 1=some n:=by rw[hbl1];exact hbl
    obtain⟨row,hrun,hres⟩:=hown.store hr1.ok hbl' hupd hT k1 k2 k3;obtain⟨hnB,hnlt,_⟩:=hr1.ok.b_lt p 1 n hbl'
    refine⟨_,h.thaw b0.2,hrun,Step.after ⟨below_setRow w hnB _,fun x hx hn=>Zah w n x _ fun e=>hn p (by simp) 1 (e▸hbl'),fun _ hb=>hb,fun _ _ _=>rfl,fun _ _=>rfl,fun _ _ _ _ hm=>(by simp at hm),rfl⟩,
     ⟨by simp[World.setRow];exact hr1.ok.base,fun b hb=>(by simp[World.setRow];exact hr1.ok.f_lt b hb),hr1.ok.f_or,hr1.ok.g_F,fun t i b hb=>(by simp[World.setRow];exact hr1.ok.b_lt t i b hb),hr1.ok.inj,fun b hb=>(by simp[World.setRow];exact hr1.ok.k_lt b hb),hr1.ok.k_bl,hr1.ok.k_F⟩,Y4 (ts:= []) ⟨v,hv,u,hu,hres⟩⟩
   ·cases hm
  ·rename_i q0;simp only[Z8m]at hm;obtain⟨cs,hmem,hm⟩:=hm;split at hm
   ·rename_i ty e0 hc;split at hm
    ·rename_i hkk;subst hkk;simp only[Z8p]at hm;obtain⟨k,hput,rfl⟩:=hm;obtain⟨cs',hmem',hle,rfl⟩:=WU hput;rw[hmem]at hmem';cases hmem';obtain⟨b,vs,ty',hb0',htm,hh,hcs⟩:=hr1.memOf hmem;obtain⟨y,hy,hown⟩:=hcs.2 q0 _ hc;obtain⟨u,hu⟩:=hes _ (List.Mem.head _);obtain⟨y',z,hy',hz,hupd⟩:=upd_e hu;rw[hy]at hy';cases hy';obtain⟨k1,k2,k3⟩:=zs hz;have hbl':(h.thaw b0.2).bl p (q0+1)=some n:=by rw[hbl1];exact hbl
     obtain⟨row,hrun,hres⟩:=hown.store hr1.ok hbl' hupd hT k1 k2 k3;obtain⟨hnB,hnlt,hnF⟩:=hr1.ok.b_lt p (q0+1) n hbl'
     have hbn:b≠n:=fun e=>by
      subst e;have:=(hr1.ok.inj p 0 p (q0+1) b hb0' hbl').2;omega
     obtain⟨hsl,hget⟩:=XR hle
     refine⟨_,h.thaw b0.2,hrun,Step.after ⟨below_setRow w hnB _,fun x hx hn=>Zah w n x _ fun e=>hn p (by simp) (q0+1) (e▸hbl'),fun _ hb=>hb,fun _ _ _=>rfl,fun _ _=>rfl,fun _ _ _ _ hm=>(by simp at hm),rfl⟩,
      ⟨by simp[World.setRow];exact hr1.ok.base,fun b hb=>(by simp[World.setRow];exact hr1.ok.f_lt b hb),hr1.ok.f_or,hr1.ok.g_F,fun t i b hb=>(by simp[World.setRow];exact hr1.ok.b_lt t i b hb),hr1.ok.inj,fun b hb=>(by simp[World.setRow];exact hr1.ok.k_lt b hb),hr1.ok.k_bl,hr1.ok.k_F⟩,
      Y4 (ts:= []) ⟨_,htm,b,vs,ty',hb0',rfl,by rw[Zah w n b _ hbn];exact hh,by rw[hcs.1,hsl],fun i ck hi=> ?_⟩⟩
     rcases hget i ck hi with ⟨h1,h2,h3⟩ | ⟨h1,h3⟩
     ·have hiq:i=q0:=by simp only[Z9J]at h2;omega
      subst hiq;simp at h3;subst h3;exact⟨u,hu,hres⟩
     ·refine(hcs.2 i ck h3).keep (VZ hr1.ok _ fun x hx e=>hnF (e▸hx)) (fun _ hb=>hb) fun x hx=>Zah w n x _ fun e=> ?_;subst e;have:=(hr1.ok.inj p (i+1) p (q0+1) x hx hbl').2;simp only[Z9J]at h1;omega
    ·cases hm
   ·cases hm
theorem ql{x i u z:V}{n k:Nat}(hz:S8 x i n k z=some u): ∃cs ki j,x= .agg cs∧i= .int ki (j:Nat)∧j<n∧cs.length=n*k∧z.cells.length=k∧u= .agg (setCells cs (j*k) z.cells):=by
 unfold S8 at hz;split at hz
 ·rename_i cs ki i;split at hz
  ·rename_i hc;obtain⟨h0,h1,h2,h3⟩:=hc;obtain⟨j,rfl⟩:=Z8H h0;simp only[Z8B,Z8l]at hz;exact⟨cs,ki,j,rfl,rfl,by omega,h2,h3,hz.symm⟩
  ·simp at hz
 ·simp at hz
theorem JH(hr:RelG c B G s a w h g){T:TypeId}(hT:okT c.P T=true){p o n kk:Nat}{j:E}{x:Operand}{m:MS}(hm:QE c g T p o j n kk x=some m)(hes: ∀e∈m.es,∃z,eval s e=some z)
  {b q:Nat} (hbl:h.bl p 0=some b) {ki:IntKind} (hj:eval s j=some (.int ki (q:Nat))) (hq:q<n):
  ∃w' h',(Instr.storeAt T (.pointer (some ⟨b,o+q*kk,none⟩)) (a.eval x)).run c.P w= .ok () w'∧MPost c B G s a w w' h h' m:=by
 unfold QE at hm;simp only[Z8m]at hm;obtain⟨b0,hb0,hm⟩:=hm;split at hm
 ·cases hm
 ·rename_i hcond;simp only[Z8J,Z9l,Z8L,not_or,Decidable.not_not,ZaQ,ZaW]at hcond;obtain⟨hsh,hk⟩:=hcond;simp only[Z8m]at hm;obtain⟨cs,hmem,hm⟩:=hm;split at hm
  ·rename_i hpart;obtain⟨hpl,hpf⟩:=hpart;simp only[Z8p]at hm;obtain⟨k,hput,rfl⟩:=hm;obtain⟨cs',hmem',hle,rfl⟩:=WU hput;rw[hmem]at hmem';cases hmem';obtain⟨b',cur,ty,h1,htm,hh,hcs⟩:=hr.memOf hmem;rw[hbl]at h1;cases h1;obtain⟨u,hu⟩:=hes _ (List.Mem.head _);have hu0:=hu;simp only[eval,hj,Z8y,Z8m]at hu;obtain⟨y,hy,z,hz,hu⟩:=hu;obtain⟨cs0,ki',q',rfl,hq',hqn,hcl,hzl,rfl⟩:=ql hu;have hqq:q'=q:=by simp only[V.int.injEq]at hq';omega
   subst hqq;obtain⟨k1,k2,k3,k4⟩:=Z3l hr hb0 hz
   have hF: ∀b,(h.thaw b0.2).F b→h.F b:=by
    intro b hb;rcases hb with hb| ⟨t,ht,_⟩
    ·exact hb
    ·rw[hsh]at ht;simp at ht
   have k4:=k4.mono hF;obtain⟨hs1,hs2,hs3⟩:=k4.cells k1
   have hnd:ZV ((cs.drop o).take (n*kk))=false:=by
    simp only[ZV,Zba,ZaE,Zal,ne_eq];intro ck hck hd;have:=Z8A.1 hpf ck hck;rw[hd]at this;simp at this
   have hno:V6 ((cs.drop o).take (n*kk))=false:=by
    simp only[V6,Zba,ZaE];intro ck hck;have:=Z8A.1 hpf ck hck;simp only[Z99]at this;rw[this]
   obtain⟨xs,hxe,hxl,hxo,hxr,hxv⟩:=hcs.part_rd hpl hnd (G':=h.F) (fun _ hb=>hb) (fun ho=>by rw[hno]at ho;cases ho);have hle1:q'*kk+kk≤n*kk:=by rw[←Z9M];exact Z93 _ hqn
   have hkpos:0<n*kk∨n*kk=0:=by omega
   have hcx:cs0=xs:=by
    rcases hkpos with hpos|hzero
    ·have hev:eval s (if YL (c.ix p) o ((cs.drop o).take (n*kk))=true then E.mm (c.ix p) o (n*kk)else .ag (((cs.drop o).take (n*kk)).map (·.2)))=some (.agg xs):=by
      split
      ·rename_i hp;have:=Qd hp (by rw[hpl];exact hpos) hxe hxo;rw[hpl]at this;exact this
      ·exact hxe
     rw[hev]at hy;simp only[Z8l,V.agg.injEq]at hy;exact hy.symm
    ·have e1:cs0= []:=Z95 (by rw[hcl,hzero]);have e2:xs= []:=Z95 (by rw[hxl,hzero]);rw[e1,e2]
   subst hcx;have hvn:(a.eval x).cells.size=kk:=by rw[hs1,hzl]
   have hnl:o+n*kk≤cur.size:=by
    have:=hcs.1;simp only[Z9N,ZaV]at hpl;omega
   have hle2:(o+q'*kk)+(a.eval x).cells.size≤cur.size:=by rw[hvn];omega
   have hxcell: ∀i (y:V),cs0[i]? =some y→y.one=true∧Rd w h.F y (cur.getD (o+i) undef):=by
    intro i y hi;have hlt:i<n*kk:=by rw[←hcl];exact(Z8o.1 hi).1
    cases hxr with
    |agg _ _ e1 e2 e3=>
     have:=e3 i y hi
     have hg:((cur.toList.drop o).take (n*kk)).toArray.getD i undef=cur.getD (o+i) undef:=by
      simp only[Z8q,Z9S,Z8T,if_pos hlt,Z8N,Z9p]
     rw[hg]at this;exact⟨e2 y (Z8x hi),this⟩
   obtain⟨g1,g2,g3⟩:=Te (cs:=cs0) (b:=z.cells) (o:=q'*kk) (by rw[hzl,hcl];exact hle1)
   obtain⟨h',e1,e2,e3⟩:=Sw (row:=YS cur (o+q'*kk) (a.eval x).cells) (new:=(List.range (n*kk)).map fun i=>(CK.fz,E.fld (E.aput (if YL (c.ix p) o ((cs.drop o).take (n*kk))=true then E.mm (c.ix p) o (n*kk)else .ag (((cs.drop o).take (n*kk)).map (·.2))) j n kk (tyE (Zn c.P T) (c.P.cellsOf T) b0.1)) i)) hr.ok hbl hh hcs (VT hle2) hle (fun i hi=>VD hle2 (by simp only[Z8P,Zbb]at hi;omega)) (ts:= []) (f:=h.bl p) (by simp) rfl (fun _ _=>rfl) (fun i x _ hx=> .inl hx)
    (fun i j x hi hj=>(hr.ok.inj p i p j x hi hj).2) (fun i ck hi=>by
     obtain⟨hlt,rfl⟩:=UA hi;have hgl:i< (setCells cs0 (q'*kk) z.cells).length:=by rw[g1,hcl];exact hlt
     have key:((setCells cs0 (q'*kk) z.cells)[i]).one=true∧Rd w h.F (setCells cs0 (q'*kk) z.cells)[i] ((YS cur (o+q'*kk) (a.eval x).cells).getD (o+i) undef):=by
      have hsome:(setCells cs0 (q'*kk) z.cells)[i]? =some (setCells cs0 (q'*kk) z.cells)[i]:=Z8n hgl;by_cases hin:q'*kk≤i∧i<q'*kk+kk
      ·have h2:=g2 (i-q'*kk) (by rw[hzl];omega);rw[show q'*kk+(i-q'*kk)=i from by omega,hsome]at h2;have h3:=Sm hle2 (i:=i-q'*kk) (by rw[hvn];omega);rw[show o+q'*kk+(i-q'*kk)=o+i from by omega]at h3;rw[h3];exact⟨hs2 _ (Z8x h2.symm),hs3 _ _ h2.symm⟩
      ·have h2:=g3 i (by rw[hzl];omega);rw[hsome]at h2;rw[VD hle2 (by rw[hvn];omega)];exact hxcell i _ h2.symm
     refine⟨_,?_,key.1,key.2⟩;refine Eq.trans (b:=(some (V.agg (setCells cs0 (q'*kk) z.cells))).bind fun y=>fldV y i) (Z9U (fun y=>Option.bind y fun y=>fldV y i) hu0) ?_;show((setCells cs0 (q'*kk) z.cells)[i]?).bind oneV=_;rw[Z8n hgl,Z8y];unfold oneV;rw[if_pos key.1]) (fun p=>a.tmps[p]?)
   exact⟨_,h',WW hT hh (by rw[hvn,hk]) (fun i hi=>by
    have hi':i<z.cells.length:=by rw[←hs1];exact hi
    rw[(hs3 i _ (Z8n hi')).one_eq];exact hs2 _ (Z8M _)) hle2,e2,e1,Y4 (ts:= []) ⟨_,htm,e3⟩⟩
  ·cases hm
end
end Vm
namespace Vm
open Go
open Go.RowKit (Below)
open Go.MapKept (IsKey bytes_beq sameNow_of_keys run_checkKey run_findKey run_keyThatStays)
def setB(w:World)(b:Nat)(o:Obj):World:= {w with heap:=w.heap.setIfInBounds b o}
theorem Ud(w:World)(b:Nat)(o:Obj):(setB w b o).heap.size=w.heap.size:=by simp[setB]
theorem Wu(w:World)(b x:Nat)(o:Obj)(h:x≠b):(setB w b o).heap[x]? =w.heap[x]? :=by
 simp[setB,Zax (Zab h)]
theorem Z3F{w:World}{b:Nat}(o:Obj)(h:b<w.heap.size):(setB w b o).heap[b]? =some o:=by
 simp[setB,h]
theorem yD{B:Nat}(w:World){b:Nat}(o:Obj)(h:B≤b):Below B w (setB w b o):=
 ⟨rfl,rfl,rfl,by simp[setB],fun x hx=>Wu w b x o (by omega)⟩
section
variable {c:Ctx} {B:Nat} {G:Nat→Prop} {s:St} {a a':Act} {w w':World} {h h':GH} {g:Gam} {C:Zg} {fz ps rb:List Nat}
theorem Z06(hr:RelG c B G s a w h g){d:Nat}{T:TypeId}{x:Operand}{m:MS}(hd:d<a.tmps.size)(hm:Z3A c g d T x=some m):
  ∃v w' h',(Instr.box T (a.eval x)).run c.P w= .ok v w'∧MPost c B G s (a.put (some d) v) w w' h h' m:=by
 unfold Z3A at hm;split at hm
 ·rename_i t ty e hk;split at hm
  ·rename_i hcond;obtain⟨htd,_⟩:=hcond;simp only[Z8l]at hm;subst hm;obtain⟨v,hv,⟨y,hy,hown⟩,_⟩:=hr.look (Zb s c) (show look g [] t=_ from hk) rfl;rw[Act.eval_tmp a t v hv]
   have hvc:v.cells= #[v]:=by
    rcases hown with ⟨l,xs,_,_,_,⟨_,hc⟩,_⟩ | ⟨_,_,_,_,_,_,_,rfl,_⟩
    ·rcases hc with ⟨rfl,_⟩ | ⟨_,_,_,rfl,_⟩<;>rfl
    ·rfl
   have hg:=Z9K w (.cells v.cells T) none;have hsz:(w.alloc (.cells v.cells T)).heap.size=w.heap.size+1:=by simp
   have hF:Same h.F w (w.alloc (.cells v.cells T)):=fun b hb=>hg.block b (hr.ok.f_lt b hb) (by simp)
   refine⟨.pointer (some ⟨w.heap.size,0,none⟩),_,h.put d (fun i=>if i=0 then some w.heap.size else if i=1 then h.bl t 1 else none) (lost h [t]),by simp[Instr.box,Vo],
    Xo (YT hr.ok hg) (fun b hb _=>hg.block b hb (by simp)) (by simp) (fun u hu=>by simp at hu;subst hu;simp) (fun hn=>by simp at hn),
    hr.ok.put (by omega) (fun u i b _ hb=>(ZO hb).1) (fun i b hb=> ?_) (fun i j b hi hj=> ?_) (fun i b u j hu hi hj=> ?_),Y4 (ts:= [t]) ⟨_,Xy hd _,w.heap.size,v.cells,T,by simp[GH.put],rfl,Z8C w _,by rw[hvc];rfl,fun i ck hi=> ?_⟩⟩
   ·split at hb
    ·simp only[Z8l]at hb;subst hb;exact .inl ⟨Z8v _,by omega⟩
    ·split at hb
     ·exact .inr ⟨t,1,hb⟩
     ·cases hb
   ·have old: ∀ {b},h.bl t 1=some b→b<w.heap.size:=fun hb=>(hr.ok.b_lt t 1 _ hb).2.1;split at hi<;>split at hj<;>(try split at hi)<;>(try split at hj)<;>first| (cases hi;done) | (cases hj;done) |omega|skip
    ·simp only[Z8l]at hi;subst hi;have:=old hj;omega
    ·simp only[Z8l]at hj;subst hj;have:=old hi;omega
   ·obtain⟨h1,h2⟩:=ZO hj;split at hi
    ·simp only[Z8l]at hi;subst hi;have:=(hr.ok.b_lt u j _ h1).2.1;omega
    ·split at hi
     ·exact h2 (by simp[(hr.ok.inj t 1 u j b hi h1).1])
     ·cases hi
   ·cases i with
    |zero=>
     simp at hi;subst hi;refine⟨y,hy,?_⟩;have hget:v.cells.getD 0 undef=v:=by rw[hvc];rfl
     rw[hget];have hk:=hown.keep (h':=h.put d (fun i=>if i=0 then some w.heap.size else if i=1 then h.bl t 1 else none) (lost h [t])) hF (fun _ hb=>hb) fun b hb=>hg.block b (hr.ok.b_lt t 1 b hb).2.1 (by simp);simpa[GH.put]using hk
    |succ i=>simp at hi
  ·cases hm
 ·rename_i t cs hk;split at hm
  ·rename_i hcond;obtain⟨htd,_⟩:=hcond;simp only[Z8l]at hm;subst hm;obtain⟨v,hv,⟨vs,rfl,hcs⟩,_⟩:=hr.look (Zb s c) (show look g [] t=_ from hk) rfl;rw[Act.eval_tmp a t _ hv];have hg:=Z9K w (.cells (Value.agg vs).cells T) none;have hsz:(w.alloc (.cells (Value.agg vs).cells T)).heap.size=w.heap.size+1:=by simp
   have hF:Same h.F w (w.alloc (.cells (Value.agg vs).cells T)):=fun b hb=>hg.block b (hr.ok.f_lt b hb) (by simp);have old: ∀ {i b},h.bl t i=some b→b<w.heap.size:=fun hb=>(hr.ok.b_lt t _ _ hb).2.1
   refine⟨.pointer (some ⟨w.heap.size,0,none⟩),_,h.put d (fun i=>if i=0 then some w.heap.size else h.bl t i) (lost h [t]),by simp[Instr.box,Vo],
    Xo (YT hr.ok hg) (fun b hb _=>hg.block b hb (by simp)) (by simp) (fun u hu=>by simp at hu;subst hu;simp) (fun hn=>by simp at hn),
    hr.ok.put (by omega) (fun u i b _ hb=>(ZO hb).1) (fun i b hb=> ?_) (fun i j b hi hj=> ?_) (fun i b u j hu hi hj=> ?_),Y4 (ts:= [t]) ⟨_,Xy hd _,w.heap.size,vs,T,by simp[GH.put],rfl,Z8C w _,hcs.1,fun i ck hi=> ?_⟩⟩
   ·split at hb
    ·simp only[Z8l]at hb;subst hb;exact .inl ⟨Z8v _,by omega⟩
    ·exact .inr ⟨t,i,hb⟩
   ·split at hi<;>split at hj
    ·omega
    ·simp only[Z8l]at hi;subst hi;have:=old hj;omega
    ·simp only[Z8l]at hj;subst hj;have:=old hi;omega
    ·exact(hr.ok.inj t i t j b hi hj).2
   ·obtain⟨h1,h2⟩:=ZO hj;split at hi
    ·simp only[Z8l]at hi;subst hi;have:=(hr.ok.b_lt u j _ h1).2.1;omega
    ·exact h2 (by simp[(hr.ok.inj t i u j b hi h1).1])
   ·have hk:=(hcs.2 i ck hi).keep (h':=h.put d (fun i=>if i=0 then some w.heap.size else h.bl t i) (lost h [t])) hF (fun _ hb=>hb) fun b hb=>hg.block b (hr.ok.b_lt t (i+1) b hb).2.1 (by simp);simpa[GH.put]using hk
  ·cases hm
 ·cases hm
def Z3I(c:Ctx)(B:Nat)(s:St)(a:Act)(w:World)(h:GH)(g:Gam)(p:Nat)(ty:TypeId)(e:E)(v:Value):Option Nat→Prop
 |none=>a.tmps[p]? =some v
 |some j=> ∃cs,memOf g p=some cs∧cs[j]? =some (.own ty,e)∧ ∃b vs T,h.bl p 0=some b∧a.tmps[p]? =some (.pointer (some ⟨b,0,none⟩))∧w.heap[b]? =some (.cells vs T (0,0))∧RelCs c.P B s w h p cs vs∧vs.getD j undef=v
theorem jg(hr:RelG c B G s a w h g){x:Operand}{p:Nat}{i:Option Nat}{ty:TypeId}{e:E}(hm:Z2S g x=some (p,i,ty,e)):
  ∃X,eval s e=some X∧OwnV c.P B w h (h.bl p (plI i)) ty X (a.eval x)∧Z3I c B s a w h g p ty e (a.eval x) i:=by
 unfold Z2S at hm;split at hm
 ·rename_i t ty' e' hk;split at hm
  ·simp only[Z8l,Z8w]at hm;obtain⟨rfl,rfl,rfl,rfl⟩:=hm;obtain⟨v,hv,⟨X,hX,hown⟩,_⟩:=hr.look (Zb s c) (show look g [] t=_ from hk) rfl;rw[Act.eval_tmp a t v hv];exact⟨X,hX,hown,hv⟩
  ·cases hm
 ·rename_i x _ _ q hk;simp only[Z8p]at hm;obtain⟨⟨ty',e'⟩,ho,hm⟩:=hm;simp only[Z8w]at hm;obtain⟨rfl,rfl,rfl,rfl⟩:=hm;obtain⟨v,hv,X,hX,hown⟩:=hr.ownOf ho;have hrel:a.tmps[q]? =some (a.eval x):=ZK hr (Zb s c) hk rfl 0;rw[hv]at hrel;simp only[Z8l]at hrel;rw[←hrel];exact⟨X,hX,hown,hv⟩
 ·rename_i x _ _ q j hk;simp only[Z8m]at hm;obtain⟨cs,hmem,hm⟩:=hm;split at hm
  ·rename_i ty' e' hc;simp only[Z8l,Z8w]at hm;obtain⟨rfl,rfl,rfl,rfl⟩:=hm;obtain⟨b,vs,T,h1,h2,h3,h4⟩:=hr.memOf hmem;obtain⟨X,hX,hown⟩:=h4.2 j _ hc;obtain⟨b',h1',hcell⟩: ∃b,h.bl q 0=some b∧w.cell? ⟨b,j,none⟩=some (a.eval x):=ZK hr (Zb s c) hk rfl 0;rw[h1]at h1';cases h1';rw[Z8s w b j vs T (0,0) h3]at hcell;have hget:vs.getD j undef=a.eval x:=by simp[Z8q,hcell]
   rw[hget]at hown;exact⟨X,hX,hown,cs,hmem,hc,b,vs,T,h1,h2,h3,h4,hget⟩
  ·cases hm
 ·cases hm
theorem Kv(hr:RelG c B G s a w h g)(ha:a'.tmps=a.tmps){T:TypeId}{x:Operand}{f:E→E}{m:MS}(hm:Z13 g T x f=some m)(hes: ∀e∈m.es,∃z,eval s e=some z)
  (hform: ∀e z,eval s (f e)=some z→ ∃X,eval s e=some X∧ ∃id ks xs,X= .mp id ks xs):
  ∃e id ks xs b es clk,eval s e=some (.mp id ks xs)∧(∃z,eval s (f e)=some z)∧a.eval x= .map (some b)∧w.heap[b]? =some (.map es clk)∧ks.length=es.size∧xs.length=es.size∧
   (∀(i:Nat) (c:V),ks[i]? =some c→Rd w h.F c (es.getD i default).key)∧(∀(i:Nat) (c:V),xs[i]? =some c→Rd w h.F c (es.getD i default).val)∧
   ∀ks' xs' es' clk',eval s (f e)=some (.mp id ks' xs')→ks'.length=es'.size→xs'.length=es'.size→(∀(i:Nat) (c:V),ks'[i]? =some c→Rd w h.F c (es'.getD i default).key)→(∀(i:Nat) (c:V),xs'[i]? =some c→Rd w h.F c (es'.getD i default).val)→
    MPost c B G s a' w (setB w b (.map es' clk')) h h m:=by
 unfold Z13 at hm;simp only[Z8m]at hm;obtain⟨⟨p,i,ty,e⟩,hat,hm⟩:=hm;split at hm
 ·rename_i hty;simp only at hty;subst hty;simp only[Z8p]at hm;obtain⟨k,hput,rfl⟩:=hm;obtain⟨X,hX,hown,hplace⟩:=jg hr hat;obtain⟨z,hz⟩:=hes _ (List.Mem.head _);obtain⟨X',hX',id,ks,xs,rfl⟩:=hform e z hz;rw[hX]at hX';cases hX';rcases hown with ⟨l,_,hl,_⟩ | ⟨id',ks',xs',b,es,clk,hX2,hv,hbl,hB,hid,hh,h1,h2,h3,h4⟩
  ·cases hl
  cases hX2;refine⟨e,id,ks,xs,b,es,clk,hX,⟨z,hz⟩,hv,hh,h1,h2,h3,h4,fun ks' xs' es' clk' he h1' h2' h3' h4'=> ?_⟩;obtain⟨hBb,hlt,hnF⟩:=hr.ok.b_lt p (plI i) b hbl;have hF:Same h.F w (setB w b (.map es' clk')):=fun y hy=>Wu w b y _ fun e=>hnF (e▸hy)
  have hown':OwnV c.P B (setB w b (.map es' clk')) h (h.bl p (plI i)) ty (.mp id ks' xs') (a.eval x):=
   .inr ⟨id,ks',xs',b,es',clk',rfl,hv,hbl,hB,hid,Z3F _ hlt,h1',h2',fun i c hi=>(h3' i c hi).keep hF fun _ hb=>hb,fun i c hi=>(h4' i c hi).keep hF fun _ hb=>hb⟩
  refine⟨⟨yD w _ hB,fun y hy hn=>Wu w b y _ fun e=>hn p (by simp) (plI i) (e▸hbl),fun _ hb=>hb,fun _ _ _=>rfl,fun _ _=>rfl,fun _ _ _ _ hm=>(by simp at hm),rfl⟩,
   ⟨by rw[Ud];exact hr.ok.base,fun y hy=>by rw[Ud];exact hr.ok.f_lt y hy,hr.ok.f_or,hr.ok.g_F,fun t j y hy=>by rw[Ud];exact hr.ok.b_lt t j y hy,hr.ok.inj,fun y hy=>by rw[Ud];exact hr.ok.k_lt y hy,hr.ok.k_bl,hr.ok.k_F⟩,?_⟩
  cases i with
  |none=>
   simp only[Z2y,Z8l]at hput;subst hput;exact Y4 (ts:= []) ⟨_,by rw[ha];exact hplace,_,he,hown'⟩
  |some j=>
   obtain⟨cs,hmem,hc,b0,vs,T',e1,e2,e3,e4,e5⟩:=hplace;obtain⟨cs',hmem',hle,rfl⟩:=WU hput;rw[hmem]at hmem';cases hmem'
   have hbn:b0≠b:=fun e=>by
    subst e;have:=(hr.ok.inj p 0 p (j+1) b0 e1 hbl).2;omega
   obtain⟨hsl,hget⟩:=XR hle;refine Y4 (ts:= []) ⟨_,by rw[ha];exact e2,b0,vs,T',e1,rfl,by rw[Wu w b b0 _ hbn];exact e3,by rw[e4.1,hsl],fun q ck hi=> ?_⟩;rcases hget q ck hi with ⟨q1,q2,q3⟩ | ⟨q1,q3⟩
   ·have hiq:q=j:=by simp only[Z9J]at q2;omega
    subst hiq;simp at q3;subst q3;exact⟨_,he,by rw[e5];exact hown'⟩
   ·refine(e4.2 q ck q3).keep hF (fun _ hb=>hb) fun y hy=>Wu w b y _ fun e=> ?_;subst e;have:=(hr.ok.inj p (q+1) p (j+1) y hy hbl).2;simp only[Z9J]at q1;omega
 ·cases hm
theorem LQ(hr:RelG c B G s a w h g)(ha:a'.tmps=a.tmps){T ty:TypeId}{x:Operand}{m:MS}(hm:L7 c g T x=some m)(hes: ∀e∈m.es,∃z,eval s e=some z):
  ∃v w' h',(Builtin.clear_ #[T] ty #[a.eval x]).run c.P w= .ok v w'∧MPost c B G s a' w w' h h' m:=by
 unfold L7 at hm;split at hm
 ·rename_i hT;unfold Z0M at hT;split at hT
  ·rename_i kt el hT'
   obtain⟨e,id,ks,xs,b,es,clk,h1,_,h3,h4,h5,h6,h7,h8,h9⟩:=Kv hr ha hm hes fun e z hz=>by
    simp only[eval,Z8m]at hz;obtain⟨X,hX,hz⟩:=hz;refine⟨X,hX,?_⟩;cases X<;>simp[Z05]at hz
    exact⟨_,_,_,rfl⟩
   refine⟨.tuple #[],setB w b (.map #[] clk),h,?_,h9 [] [] #[] clk (by simp[eval,h1,Z05]) rfl rfl (fun i c hi=>by simp at hi) (fun i c hi=>by simp at hi)⟩;rw[h3];simp[Builtin.clear_,Z8X hT',Za4 h4,Zb8 _ h4,Result.andThen,setB]
  ·cases hT
 ·cases hm
theorem Sx(hr:RelG c B G s a w h g)(ha:a'.tmps=a.tmps){T:TypeId}{x k v:Operand}{m:MS}(hm:U9 c g T x k v=some m)(hes: ∀e∈m.es,∃z,eval s e=some z):
  ∃w' h',(Instr.mapUpdate T (a.eval x) (a.eval k) (a.eval v)).run c.P w= .ok () w'∧MPost c B G s a' w w' h h' m:=by
 unfold U9 at hm;split at hm
 ·rename_i kt el hT;simp only[Z8m]at hm;obtain⟨kc,hkc,ek,hk,ev,hv,hm⟩:=hm;split at hm
  ·cases hm
  ·rename_i hemp;have hsh:ev.2= []:=by simpa using hemp
   obtain⟨kv,hkv,hkr⟩:=YR hr (Zb s c) hk;obtain⟨vv,hvv,hvr⟩:=YR hr (Zb s c) hv;rw[hsh]at hvr;have hvr:=hvr.F
   obtain⟨e,id,ks,xs,b,es,clk,h1,⟨z,hz⟩,h3,h4,h5,h6,h7,h8,h9⟩:=Kv hr ha hm hes fun e z hz=>by
    simp only[eval,hkv,hvv,Z8y,Z8m]at hz;obtain⟨X,hX,hz⟩:=hz;obtain⟨_,_,_,_,_,rfl,_⟩:=RH hz;exact⟨_,hX,_,_,_,rfl⟩
   have hz0:=hz;simp only[eval,h1,hkv,hvv,Z8y]at hz;unfold QI at hz;split at hz
   ·cases hz
   rename_i hik;have hik:isK kc kv=true:=by simpa using hik
   have hkd:=Ki hkc;have hkey:=Rg hik hkr;have hkF:Rd w h.F kv (a.eval k):=hkr.flat (by cases kc<;>cases kv<;>simp[isK,V.flatc]at hik⊢);have hck:=Zby (w:=w) hkd hkey;have hks:=run_keyThatStays (P:=c.P) (w:=w) hkey;simp only at hz;rw[h3];split at hz
   ·rename_i j hf;obtain⟨en,e1,e2,e3⟩:=Wv (w2:=w) (G'':=h.F) hik hkr hf (l:=es.toList) (by simpa using h5) (fun i c hi=>by simpa[Z8q]using h7 i c hi) 0;simp only[Z8l]at hz;subst hz;have hj:es[j]? =some en:=by simpa using e1
    have hjl:j<es.size:=(Z8Z.1 hj).1;have hfk:=Zbr (w:=w) hkd e3;refine⟨setB w b (.map (es.modify j fun e=> {e with key:=a.eval k,val:=a.eval v}) clk),h,?_,h9 _ _ _ _ hz0 (by simpa using h5) (by simpa using h6) (fun i c hi=> ?_) (fun i c hi=> ?_)⟩
    ·have:es[j]=en:=by rw[Z98 hjl]at hj;simpa using hj
     simp[Instr.mapUpdate,Z8X hT,Za4 h4,hck,hfk,hj,this,e2,hks,Zb8 _ h4,Result.andThen,setB]
    ·have:=h7 i c hi;rw[Z8q,Z8R];rw[Z8q]at this;by_cases hij:j=i
     ·subst hij;rw[hj]at this;simp only[Z9c,hj,Z9w,Z91];simp only[Z91,e2]at this;exact this
     ·rw[if_neg hij];exact this
    ·rw[Z8q,Z8R];by_cases hij:j=i
     ·subst hij;simp only[Z9c,hj,Z9w,Z91];rw[Z9u (by omega)]at hi;cases hi;exact hvr
     ·rw[if_neg hij];rw[Z96 hij]at hi;have:=h8 i c hi;rw[Z8q]at this;exact this
   ·rename_i hf;have e3:=Wv (w2:=w) (G'':=h.F) hik hkr hf (l:=es.toList) (by simpa using h5) (fun i c hi=>by simpa[Z8q]using h7 i c hi) 0;simp only[Z8l]at hz;subst hz;have hfk:=Zbr (w:=w) hkd e3;refine⟨setB w b (.map (es.push {key:=a.eval k,val:=a.eval v,born:=clk}) (clk+1)),h,?_,h9 _ _ _ _ hz0 (by simp[h5]) (by simp[h6]) (fun i c hi=> ?_) (fun i c hi=> ?_)⟩
    ·simp[Instr.mapUpdate,Z8X hT,Za4 h4,hck,hfk,Zb8 _ h4,Result.andThen,setB]
    ·rw[Z8q,Array.getElem?_push];by_cases hlt:i<ks.length
     ·rw[Z8G hlt]at hi;rw[if_neg (by omega)];have:=h7 i c hi;rw[Z8q]at this;exact this
     ·rw[Z8F (by omega)]at hi
      have hi0:i=ks.length:=by
       have:=(Z8o.1 hi).1;simp at this;omega
      subst hi0;simp at hi;subst hi;rw[if_pos h5];exact hkF
    ·rw[Z8q,Array.getElem?_push];by_cases hlt:i<xs.length
     ·rw[Z8G hlt]at hi;rw[if_neg (by omega)];have:=h8 i c hi;rw[Z8q]at this;exact this
     ·rw[Z8F (by omega)]at hi
      have hi0:i=xs.length:=by
       have:=(Z8o.1 hi).1;simp at this;omega
      subst hi0;simp at hi;subst hi;rw[if_pos h6];exact hvr
   ·cases hz
 ·cases hm
end
end Vm
namespace Vm
open Go
open Go.RowKit (Below)
theorem Ww: ∀ {cs:List (CK×E)} {ts:List Nat} {i t:Nat},ZF cs ts i=some t→t∈ts
 | [],_,_,_,h=>by simp[ZF]at h
 | (k,e)::cs,ts,i,t,h=>by
   cases k with
   |own ty=>
    cases ts with
    |nil=>simp[ZF]at h
    |cons u ts=>
     cases i with
     |zero=>simp[ZF]at h;simp[h]
     |succ i=>exact Z9h _ (Ww (by simpa[ZF]using h))
   |_=>
    cases i with
    |zero=>simp[ZF]at h
    |succ i=>exact Ww (by simpa[ZF]using h)
theorem T6: ∀ {cs:List (CK×E)} {ts:List Nat} {i j t:Nat},ts.Nodup→ZF cs ts i=some t→ZF cs ts j=some t→i=j
 | [],_,_,_,_,_,h,_=>by simp[ZF]at h
 | (k,e)::cs,ts,i,j,t,hn,h,h'=>by
   cases k with
   |own ty=>
    cases ts with
    |nil=>simp[ZF]at h
    |cons u ts=>
     obtain⟨h1,h2⟩:=Zak.1 hn;cases i with
     |zero=>
      cases j with
      |zero=>rfl
      |succ j=>
       simp[ZF]at h;subst h;exact absurd (Ww (by simpa[ZF]using h')) h1
     |succ i=>
      cases j with
      |zero=>
       simp[ZF]at h';subst h';exact absurd (Ww (by simpa[ZF]using h)) h1
      |succ j=>exact Z9U (· +1) (T6 h2 (by simpa[ZF]using h) (by simpa[ZF]using h'))
   |_=>
    cases i with
    |zero=>simp[ZF]at h
    |succ i=>
     cases j with
     |zero=>simp[ZF]at h'
     |succ j=>exact Z9U (· +1) (T6 hn (by simpa[ZF]using h) (by simpa[ZF]using h'))
section
variable {c:Ctx} {B:Nat} {G:Nat→Prop} {s:St} {a a':Act} {w w':World} {h h':GH} {g:Gam} {C:Zg} {fz ps rb:List Nat}
theorem L0(hr:RelG c B G s a w h g){T:TypeId}{parts:Array (Nat×Operand)}{d:Nat}(hd:d<a.tmps.size){m:MS}(hm:Lh c g d T parts.toList=some m)(hes: ∀e∈m.es,∃z,eval s e=some z):
  ∃v h',(Instr.build T (parts.map fun(i,x)=>(i,a.eval x))).run c.P w= .ok v w∧MPost c B G s (a.put (some d) v) w w h h' m:=by
 unfold Lh at hm
 ·simp only[Z8m]at hm;obtain⟨fs,hT,zs,hz,b,hb,hm⟩:=hm;split at hm
  ·cases hm
  ·rename_i hcond;simp only[Z8J,Z9l,not_or,Z9Z,not_exists,not_and,ZaQ]at hcond;obtain⟨hts,hnd⟩:=hcond;have hnd:=VR hnd
   have hts: ∀t∈b.2.2,t∉b.2.1∧t≠d:=by
    intro t ht;have:=hts t ht;simp only[Z9z,Z8L,Z99]at this;exact⟨this.1.1,this.1.2⟩
   simp only[Z8l]at hm;subst hm;obtain⟨z,hz1⟩:=hes _ (List.Mem.head _);have hz1':=hz1;simp only[eval,Z8p]at hz1';obtain⟨xs,hxs,hxz⟩:=hz1';obtain⟨hl,hx⟩:=Yj hxs
   obtain⟨vs,hrun,hsz,howns,hcell⟩:=Q8 hr (Zb s c) hT hz hb (fun ck hck=>by
    obtain⟨i,hi⟩:=Z8O hck;obtain⟨x,_,he⟩:=hx i ck.2 (by rw[Z8D,hi];rfl);exact⟨x,he⟩)
   obtain⟨hok1,_⟩:=V5 hr.ok b.2.1
   let f:Nat→Option Nat:=fun i=>match i with|0=>none|i+1=>(ZF b.1 b.2.2 i).bind fun t=>(h.thaw b.2.1).bl t 1
   have hf: ∀i x,f i=some x→ ∃i' t,i=i'+1∧ZF b.1 b.2.2 i'=some t∧(h.thaw b.2.1).bl t 1=some x:=by
    intro i x hi;cases i with
    |zero=>cases hi
    |succ i=>
     simp only[f,Z8m]at hi;obtain⟨t,ht,hx⟩:=hi;exact⟨i,t,rfl,ht,hx⟩
   refine⟨.agg vs,(h.thaw b.2.1).put d f (lost (h.thaw b.2.1) b.2.2),hrun,Step.after (Xo (Z8E _ _) (fun _ _ _=>rfl) (by simp) (fun u hu=>⟨by simp[hu],by simp[hu]⟩) (fun hn=>by simp at hn)),
    hok1.put (Z8v _) (fun u i b _ hb=>(ZO hb).1) (fun i x hx=> ?_) (fun i j x hi hj=> ?_) (fun i x u j hu hi hj=> ?_),Y4 ⟨.agg vs,Xy hd _,vs,rfl,hsz,fun i ck hi=> ?_⟩⟩
   ·obtain⟨_,t,_,_,h1⟩:=hf i x hx;exact .inr ⟨t,1,h1⟩
   ·obtain⟨i',t,rfl,ht,h1⟩:=hf i x hi;obtain⟨j',t',rfl,ht',h1'⟩:=hf j x hj;have:=(hok1.inj t 1 t' 1 x h1 h1').1;subst this;rw[T6 hnd ht ht']
   ·obtain⟨i',t,rfl,ht,h1⟩:=hf i x hi;obtain⟨k1,k2⟩:=ZO hj;exact k2 ((hok1.inj u j t 1 x k1 h1).1▸Ww ht)
   ·have hbl:((h.thaw b.2.1).put d f (lost (h.thaw b.2.1) b.2.2)).bl d (i+1)=(ZF b.1 b.2.2 i).bind fun t=>(h.thaw b.2.1).bl t 1:=by simp[GH.put,f]
    rw[hbl];have hc:=hcell i ck hi;unfold BRel at hc;obtain⟨kk,e⟩:=ck;cases kk with
    |own ty=>
     obtain⟨t,h1,h2,h3,y,hy,hown⟩:=hc;refine⟨y,hy,hown.mono (fun _ hb=> .inl hb) ?_⟩;rw[h1];simp[GH.thaw,(hts t h2).1]
    |nil=>exact hc
    |fz=>
     obtain⟨y,h1,h2,h3⟩:=hc;exact⟨y,h1,h2,h3.mono (Qv fun p hp=>hp)⟩
    |dead=>exact hc.elim
theorem VP(hok:Ok B G w h){o:Option Nat}(ho: ∀b,o=some b→ ∃t i,h.bl t i=some b){el T ty:TypeId}{x z:V}{v y:Value}(hv:OwnV c.P B w h o el x v)(hT:c.P.underlying T=some (.slice el))(hel:elOk c.P el=true)
  {l2:List V} {Gy:Nat→Prop} (hy:Rd w Gy (.sl l2) y) (hback: ∀(i:Nat) (ck:V) (u:Value),(flat l2)[i]? =some ck→Rd w Gy ck u→Rd w h.F ck u) (hz:appV (c.P.cellsOf el) x (.sl l2)=some z):
  ∃v' w',(Builtin.append_ #[T,T] ty #[v,y]).run c.P w= .ok v' w'∧Below B w w'∧(∀b,b<w.heap.size→o≠some b→w'.heap[b]? =w.heap[b]?)∧
   (v'.ownBlock=o∨ ∀b,v'.ownBlock=some b→w.heap.size≤b∧b<w'.heap.size)∧ ∀h':GH,h'.F=h.F→OwnV c.P B w' h' v'.ownBlock el z v':=by
 rcases hv with ⟨l,xs,rfl,h0,hfit,hown,hb,hrd⟩ | ⟨_,_,_,_,_,_,rfl,_⟩
 case inr=>obtain⟨_,_,hl',_⟩:=Wt hz;cases hl'
 obtain⟨l1,r,hl1,hr1,hlim,hsz,rfl⟩:=Wt hz;cases hl1;cases hr1;obtain⟨v',w',news,hrun,hown',hg,hor,hfit2,hnews⟩:=Xv (ty:=ty) hT hel hown hok.base hy hsz hlim;have hsame: ∀b,b<w.heap.size→o≠some b→w'.heap[b]? =w.heap[b]? :=fun b hb hn=>hg.block b hb (by rw[‹v.ownBlock=o›];exact fun e=>hn e.symm)
 have hFs:Same h.F w w':=fun b hb=>hsame b (hok.f_lt b hb) fun e=>by
  obtain⟨t,i,hi⟩:=ho b e;exact(hok.b_lt t i b hi).2.2 hb
 refine⟨v',w',hrun,(Z8E B w).grown hg hok.base fun k hk=> ?_,hsame,?_,fun h' hF=> .inl ⟨l++l2,xs++news,rfl,h0,fun x hx=> ?_,by rw[Z8W];exact hown',rfl,fun i ck hi=> ?_⟩⟩
 ·rw[‹v.ownBlock=o›]at hk;obtain⟨t,i,hi⟩:=ho k hk;exact(hok.b_lt t i k hi).1
 ·rcases hor with h1| ⟨h1,h2⟩
  ·exact .inl (h1.trans hb)
  ·exact .inr fun b hb=>h2.lt b hb
 ·rcases Z90.1 hx with hx|hx
  ·exact hfit x hx
  ·exact hfit2 x hx
 ·have hfl:=Y9 hfit;rw[U8]at hi;by_cases hlt:i< (flat l).length
  ·rw[Z8G hlt]at hi;obtain⟨u,hu,hr⟩:=hrd i ck hi;exact⟨u,by rw[Z8G (Z8o.1 hu).1];exact hu,hr.keep hFs fun b hb=>by rw[hF];exact hb⟩
  ·rw[Z8F (by omega)]at hi;obtain⟨u,hu,hr⟩:=hnews _ ck hi;have hxl:xs.length=(flat l).length:=by rw[hown.1,hfl]
   exact⟨u,by rw[Z8F (by omega),hxl];exact hu,(hback _ ck u hi hr).keep hFs fun b hb=>by rw[hF];exact hb⟩
theorem QP{e1 e2:E}{k:Nat}{z:V}(hz:eval s (.app e1 e2 k)=some z): ∃x y,eval s e1=some x∧eval s e2=some y∧appV k x y=some z:=by
 simp only[eval,Z8m]at hz;obtain⟨x,hx,y,hy,hz⟩:=hz;exact⟨x,y,hx,hy,hz⟩
theorem Q3(hok:Ok B G w h){t0 i0 d:Nat}{ts:List Nat}{o:Option Nat}(ho: ∀b,o=some b→ ∃t∈ts,h.bl t 1=some b)(hdt:d∉ts){v':Value}(hb:Below B w w')(hsame: ∀b,b<w.heap.size→o≠some b→w'.heap[b]? =w.heap[b]?)
  (hor:v'.ownBlock=o∨ ∀b,v'.ownBlock=some b→w.heap.size≤b∧b<w'.heap.size):
  Ok B G w' (h.put d (fun i=>if i=1 then v'.ownBlock else none) (lost h ts))∧Step B (d::ts) (d::ts) [] w w' h (h.put d (fun i=>if i=1 then v'.ownBlock else none) (lost h ts)):=by
 have hf: ∀i b,(if i=1 then v'.ownBlock else none)=some b→i=1∧((w.heap.size≤b∧b<w'.heap.size)∨ ∃t∈ts,h.bl t 1=some b):=by
  intro i b hi;split at hi
  ·rename_i h1;refine⟨h1,?_⟩;rcases hor with h2|h2
   ·exact .inr (ho b (h2▸hi))
   ·exact .inl (h2 b hi)
  ·cases hi
 refine⟨hok.put hb.size (fun u i b _ hb=>(ZO hb).1) (fun i b hi=> ?_) (fun i j b hi hj=>by rw[(hf i b hi).1,(hf j b hj).1]) (fun i b u j hu hi hj=> ?_),
  Xo hb (fun b hb hn=>hsame b hb fun e=> ?_) (by simp) (fun t ht=>⟨by simp[ht],by simp[ht]⟩) (fun hn=>by simp at hn)⟩
 ·rcases(hf i b hi).2 with h1| ⟨t,_,h1⟩
  ·exact .inl h1
  ·exact .inr ⟨t,1,h1⟩
 ·obtain⟨k1,k2⟩:=ZO hj;rcases(hf i b hi).2 with h1| ⟨t,ht,h1⟩
  ·have:=(hok.b_lt u j b k1).2.1;omega
  ·exact k2 ((hok.inj u j t 1 b k1 h1).1▸ht)
 ·obtain⟨t,ht,h1⟩:=ho b e;exact hn t (by simp[ht]) 1 h1
theorem Ja(hr:RelG c B G s a w h g){T U ty:TypeId}{x y:Operand}{d:Nat}(hd:d<a.tmps.size){m:MS}(hm:Qp c g d T U x y=some m)(hes: ∀e∈m.es,∃z,eval s e=some z):
  ∃v w' h',(Builtin.append_ #[T,U] ty #[a.eval x,a.eval y]).run c.P w= .ok v w'∧MPost c B G s (a.put (some d) v) w w' h h' m:=by
 unfold Qp at hm;split at hm
 ·rename_i el hT;have hT':=qH hT;split at hm
  ·rename_i hcond;obtain⟨rfl,hel⟩:=hcond;simp only[Z8m]at hm;obtain⟨b0,hb0,hm⟩:=hm;generalize hbe:Tc (Xh c.P el) b0=be at hm;have hr1:=hr.frz be.2
   have elems: ∀ {yy:V} {l2:List V},eval s be.1=some yy→yy= .sl l2→ ∃Gy,Rd w Gy (.sl l2) (a.eval y)∧ ∀(i:Nat) (ck:V) (u:Value),(flat l2)[i]? =some ck→Rd w Gy ck u→Rd w (h.thaw be.2).F ck u:=by
    rintro yy l2 hyy rfl;obtain⟨Gy,h1,h2⟩:=zK hr (Zb s c) hb0 (fl:=Xh c.P el) (by rw[hbe];exact hyy);rw[hbe]at h2;exact⟨Gy,h1,fun i ck u hi hu=>(h2 _ rfl i ck u hi hu).mono (Qv fun p hp=>hp)⟩
   have slot: ∀ {t:Nat} {e:E} {v:Value},t≠d→(∃y,eval s e=some y∧OwnV c.P B w (h.thaw be.2) ((h.thaw be.2).bl t 1) el y v)→m= {d:= [(d,[],.own el (.app e be.1 (c.P.cellsOf el))),(t,[],.no)],ps:= [d,t],rb:= [d,t],fz:=be.2,es:= [.app e be.1 (c.P.cellsOf el)]}→
     ∃v2 w' h',(Builtin.append_ #[T,T] ty #[v,a.eval y]).run c.P w= .ok v2 w'∧MPost c B G s (a.put (some d) v2) w w' h h' m:=by
    rintro t e v htd ⟨yv,hyv,hown⟩ rfl;obtain⟨z,hz⟩:=hes _ (List.Mem.head _);obtain⟨xx,yy,hxx,hyy,happ⟩:=QP hz;rw[hyv]at hxx;cases hxx;obtain⟨_,l2,_,rfl,_⟩:=Wt happ;obtain⟨Gy,e1,e2⟩:=elems hyy rfl;obtain⟨v2,w',k1,k2,k3,k4,k5⟩:=VP (ty:=ty) hr1.ok (fun b hb=>⟨t,1,hb⟩) hown hT' hel e1 e2 happ;obtain⟨q1,q2⟩:=Q3 (d:=d) (ts:= [t]) (t0:=0) (i0:=0) hr1.ok (fun b hb=>⟨t,by simp,hb⟩) (by simpa using Zab htd) k2 k3 k4;exact⟨v2,w',_,k1,q2.after,q1,Y4 (ts:= [t]) ⟨v2,Xy hd v2,z,hz,(k5 (h.thaw be.2) rfl).mono (fun _ hb=>hb) (by simp[GH.put])⟩⟩
   split at hm
   ·rename_i hk;simp only[Z8l]at hm;subst hm;have hv:=UZ hr1 (Zb s c) hk;rw[hv];obtain⟨z,hz⟩:=hes _ (List.Mem.head _);obtain⟨xx,yy,hxx,hyy,happ⟩:=QP hz;simp only[eval,Z8l]at hxx;subst hxx;obtain⟨_,l2,_,rfl,_⟩:=Wt happ;obtain⟨Gy,e1,e2⟩:=elems hyy rfl;obtain⟨i,zz,hi,hz1,hzs,h0,hby,hcs⟩:=Xz hel;have hown:OwnV c.P B w (h.thaw be.2) none el (.sl []) (.slice none 0 0):= .inl ⟨[],[],rfl,by omega,fun x hx=>by simp at hx,Z9G w B el _,rfl,fun i ck hi=>by simp[flat]at hi⟩;obtain⟨v2,w',k1,k2,k3,k4,k5⟩:=VP (ty:=ty) hr1.ok (fun b hb=>by cases hb) hown hT' hel e1 e2 happ;obtain⟨q1,q2⟩:=Q3 (d:=d) (ts:= []) (t0:=0) (i0:=0) hr1.ok (fun b hb=>by cases hb) (by simp) k2 k3 k4;exact⟨v2,w',_,k1,q2.after,q1,Y4 (ts:= []) ⟨v2,Xy hd v2,z,hz,(k5 (h.thaw be.2) rfl).mono (fun _ hb=>hb) (by simp[GH.put])⟩⟩
   ·rename_i t ty' e hk;split at hm
    ·rename_i hcond;obtain⟨rfl,htd,_⟩:=hcond;simp only[Z8l]at hm;obtain⟨v,hv,hrel,_⟩:=hr1.look (Zb s c) (show look _ [] t=_ from hk) rfl;rw[Act.eval_tmp a t v hv];exact slot htd hrel hm.symm
    ·cases hm
   ·rename_i p hk;simp only[Z8m]at hm;obtain⟨⟨ty',e⟩,ho,hm⟩:=hm;split at hm
    ·rename_i hcond;obtain⟨hty,hpd⟩:=hcond;simp only at hty;subst hty;simp only[Z8l]at hm;obtain⟨u,hu,hrel⟩:=hr1.ownOf ho;have hv:=ZK hr1 (Zb s c) hk rfl 0;have huv:=hu.symm.trans hv;simp only[Z8l]at huv;rw[←huv];exact slot hpd hrel hm.symm
    ·cases hm
   ·rename_i p i hk;simp only[Z8m]at hm;obtain⟨cs,hmem,hm⟩:=hm;split at hm
    ·rename_i ty' e hc;split at hm
     ·rename_i hcond;obtain⟨rfl,hpd⟩:=hcond;simp only[Z8p]at hm;obtain⟨k,hput,rfl⟩:=hm;obtain⟨cs',hmem',hle,rfl⟩:=WU hput;rw[hmem]at hmem';cases hmem';obtain⟨b,vs,tyb,hb,htm,hh,hcs⟩:=hr1.memOf hmem;have hv:=ZK hr1 (Zb s c) hk rfl 0;obtain⟨b',hb',hcell⟩:=hv;rw[hb]at hb';cases hb';rw[Z8s w b i vs tyb (0,0) hh]at hcell;have hget: ∀v,vs[i]? =some v→vs.getD i undef=v:=fun v hv=>by simp[Z8q,hv]
      obtain⟨yv,hyv,hown⟩:=hcs.2 i _ hc;rw[hget _ hcell]at hown;simp only at hown hyv;obtain⟨z,hz⟩:=hes _ (List.Mem.head _);obtain⟨xx,yy,hxx,hyy,happ⟩:=QP hz;rw[hyv]at hxx;cases hxx;obtain⟨_,l2,_,rfl,_⟩:=Wt happ;obtain⟨Gy,e1,e2⟩:=elems hyy rfl;obtain⟨v2,w',k1,k2,k3,k4,k5⟩:=VP (ty:=ty) hr1.ok (fun b hb=>⟨p,i+1,hb⟩) hown hT' hel e1 e2 happ;have hF:Same (h.thaw be.2).F w w':=fun x hx=>k3 x (hr1.ok.f_lt x hx) fun e=>(hr1.ok.b_lt p (i+1) x e).2.2 hx
      have hbw:w'.heap[b]? =w.heap[b]? :=k3 b (hr1.ok.b_lt p 0 b hb).2.1 fun e=>by
       have:=(hr1.ok.inj p 0 p (i+1) b hb e).2;omega
      obtain⟨hsl,hgetc⟩:=XR hle
      have hf: ∀j x,(if j=1 then v2.ownBlock else none)=some x→j=1∧((w.heap.size≤x∧x<w'.heap.size)∨(h.thaw be.2).bl p (i+1)=some x):=by
       intro j x hj;split at hj
       ·rename_i h1;refine⟨h1,?_⟩;rcases k4 with h2|h2
        ·exact .inr (h2▸hj)
        ·exact .inl (h2 x hj)
       ·cases hj
      have hrr: ∀u j x,(if u=p∧j=i+1 then none else(h.thaw be.2).bl u j)=some x→(h.thaw be.2).bl u j=some x∧ ¬(u=p∧j=i+1):=by
       intro u j x hj;split at hj
       ·cases hj
       ·exact⟨hj,by assumption⟩
      refine⟨v2,w',(h.thaw be.2).put d (fun j=>if j=1 then v2.ownBlock else none) (fun u j=>if u=p∧j=i+1 then none else(h.thaw be.2).bl u j),k1,Step.after ⟨k2,fun x hx hn=>k3 x hx fun e=>hn p (by simp) (i+1) e,fun _ hb=>hb,fun t ht _=> ?_,fun t ht=> ?_,fun _ _ _ _ hm=>(by simp at hm),rfl⟩,
       hr1.ok.put k2.size (fun u j x _ hx=>(hrr u j x hx).1) (fun j x hx=> ?_) (fun j j' x hj hj'=>by rw[(hf j x hj).1,(hf j' x hj').1]) (fun j x u j' hu hj hj'=> ?_),fun t ht=> ?_⟩
      ·have h1:t≠d∧t≠p:=by simpa using ht
       funext j;simp[GH.put,h1.1,h1.2]
      ·have h1:t≠d:=by simpa using ht
       simp[GH.put,h1]
      ·rcases(hf j x hx).2 with h1|h1
       ·exact .inl h1
       ·exact .inr ⟨p,i+1,h1⟩
      ·obtain⟨q1,q2⟩:=hrr u j' x hj';rcases(hf j x hj).2 with h1|h1
       ·have:=(hr1.ok.b_lt u j' x q1).2.1;omega
       ·exact q2 (hr1.ok.inj u j' p (i+1) x q1 h1)
      ·simp only[Zu,Z8Q,Z9I,Z8V,ZaX,Zcj]at ht;by_cases htd:t=d
       ·subst htd;simp only[Gam.at,Z9c];exact⟨trivial,fun _=>⟨v2,Xy hd v2,z,hz,(k5 (h.thaw be.2) rfl).mono (fun _ hb=>hb) (by simp[GH.put])⟩⟩
       ·have htp:t=p:=ht.resolve_left htd;subst htp;simp only[Gam.at,if_neg (Zab htd),Z9c];refine⟨trivial,fun _=>⟨_,by rw[Su htd];exact htm,b,vs,tyb,by simpa[GH.put,htd]using hb,rfl,by rw[hbw];exact hh,by rw[hcs.1,hsl],fun j ck hj=> ?_⟩⟩;rcases hgetc j ck hj with ⟨h1,h2,h3⟩ | ⟨h1,h3⟩
        ·have hjq:j=i:=by simp only[Z9J]at h2;omega
         subst hjq;simp at h3;subst h3;exact(hcs.2 j _ hc).cell
        ·have hji:j≠i:=by simp only[Z9J]at h1;omega
         have hbl:((h.thaw be.2).put d (fun j=>if j=1 then v2.ownBlock else none) (fun u j=>if u=t∧j=i+1 then none else(h.thaw be.2).bl u j)).bl t (j+1)=(h.thaw be.2).bl t (j+1):=by simp[GH.put,htd,hji]
         rw[hbl]
         exact(hcs.2 j ck h3).keep hF (fun _ hb=>hb) fun x hx=>k3 x (hr1.ok.b_lt t (j+1) x hx).2.1 fun e=>by
          have:=(hr1.ok.inj t (j+1) t (i+1) x hx e).2;omega
     ·cases hm
    ·cases hm
   ·cases hm
  ·cases hm
 ·cases hm
def MRun(c:Ctx)(B:Nat)(G:Nat→Prop)(s:St)(a:Act)(w:World)(h:GH)(o:Oper)(m:MS):Prop:=
 ∃n u w' h',(execOp a.eval o).run c.P w= .ok n w'∧(n= .value u∨n= .skip∧u=undef)∧MPost c B G s (a.put o.dst u) w w' h h' m
theorem Z5g(hr:RelG c B G s a w h g){o:Oper}(hd: ∀d,o.dst=some d→d<a.tmps.size){m:MS}(hm:mk c g o=some m)(hes: ∀e∈m.es,∃z,eval s e=some z):MRun c B G s a w h o m:=by
 obtain⟨dst,op,type,pos,after,guard⟩:=o;unfold mk at hm;simp only at hm hd;split at hm
 ·rename_i x d;obtain⟨h',hp⟩:=Tj hr (hd _ rfl) hm hes;exact⟨_,_,w,h',rfl,.inl rfl,hp⟩
 ·rename_i x d;obtain⟨h',hp⟩:=Tj hr (hd _ rfl) hm hes;exact⟨_,_,w,h',rfl,.inl rfl,hp⟩
 ·rename_i T ad x;unfold jN at hm;split at hm
  ·cases hm
  ·rename_i hcond;simp only[Z8J,Z9l,not_or,ZaQ,Bool.or_eq_false_iff,not_and,Z99]at hcond;obtain⟨hT,hT1⟩:=hcond
   have hT1:Zn c.P T=true∨c.P.cellsOf T=1:=by
    cases hag:Zn c.P T with
    |true=>exact .inl rfl
    |false=>right;simpa[hag]using hT1
   have fin: ∀ {va:Value},a.eval ad=va→(∃w' h',(Instr.storeAt T va (a.eval x)).run c.P w= .ok () w'∧MPost c B G s a w w' h h' m)→MRun c B G s a w h {dst:=none,op:= .store T ad x,type,pos,after,guard} m:=by
    rintro va rfl ⟨w',h',h1,h2⟩;refine⟨.skip,undef,w',h',?_,.inr ⟨rfl,rfl⟩,h2⟩;simp[execOp,h1]
   split at hm
   ·rename_i cs hk;obtain⟨t,rfl,⟨v,hv,hev,⟨b,vs,ty,h1,rfl,_⟩⟩,_⟩:=(Vu hr (Zb s c) hk rfl).resolve_left (by rintro(⟨e,h⟩ |h)<;>cases h);exact fin hev (To hr hT hT1 hm hes h1)
   ·rename_i p o hk;obtain⟨b,h1,h2⟩:=ZK hr (Zb s c) hk rfl 0;exact fin h2 (To hr hT hT1 hm hes h1)
   ·rename_i p i j o k hk;obtain⟨n,q,h1,⟨ki,h2⟩,h3⟩:=ZK hr (Zb s c) hk rfl 0;exact fin h3 (JI hr hT hT1 hm hes h1 h2)
   ·rename_i p o j n k hk;obtain⟨b,q,h1,⟨ki,h2⟩,h3,h4⟩:=ZK hr (Zb s c) hk rfl 0;exact fin h4 (JH hr hT hm hes h1 h2 h3)
   ·cases hm
 ·rename_i T parts d;obtain⟨v,h',h1,h2⟩:=L0 hr (hd _ rfl) hm hes;exact⟨.value v,v,w,h',by simp[execOp,h1],.inl rfl,h2⟩
 ·rename_i T x d;obtain⟨v,w',h',h1,h2⟩:=Z06 hr (hd _ rfl) hm;exact⟨.value v,v,w',h',by simp[execOp,h1],.inl rfl,h2⟩
 ·rename_i T m' k v;obtain⟨w',h',h1,h2⟩:=Sx (a':=a) hr rfl hm hes;exact⟨.skip,undef,w',h',by simp[execOp,h1],.inr ⟨rfl,rfl⟩,h2⟩
 ·rename_i args argTypes;split at hm
  ·rename_i x T hx hT;have hargs:args= #[x]:=Z9D.1 (by simpa using hx);have htys:argTypes= #[T]:=Z9D.1 (by simpa using hT);subst hargs htys;obtain⟨v,w',h',h1,h2⟩:=LQ (a':=a) (ty:=type) hr rfl hm hes;exact⟨.value v,v,w',h',by simp[execOp,resolve,invoke,builtin,h1],.inl rfl,h2⟩
  ·cases hm
 ·rename_i args argTypes d;split at hm
  ·rename_i x y T U hx hT;have hargs:args= #[x,y]:=Z9D.1 (by simpa using hx);have htys:argTypes= #[T,U]:=Z9D.1 (by simpa using hT);subst hargs htys;obtain⟨v,w',h',h1,h2⟩:=Ja (ty:=type) hr (hd _ rfl) hm hes;exact⟨.value v,v,w',h',by simp[execOp,resolve,invoke,builtin,h1],.inl rfl,h2⟩
  ·cases hm
 ·cases hm
end
end Vm
namespace Vm
open Go
open Go.RowKit (Below)
def ZY(P:Program)(f:FuncId):Bool:=
 match P.funcs[f]? with
 |some fn=> !(fn.name== "runtime.NumGoroutine")&&fn.body.isSome
 |none=>false
def VC(P:Program)(f:FuncId)(fr:Bool)(args:List V)(r:V):Prop:=
 ZY P f=true∧ ∀(w:World) (G:Nat→Prop) (vs:Array Value),(∀b,G b→b<w.heap.size)→vs.size=args.length→(∀(i:Nat) (x:V),args[i]? =some x→Rd w G x (vs.getD i undef))→
  Calls P f vs w fun e w'=> ∃v,e= .returned v∧Below w.heap.size w w'∧Rd w' (fun b=>(fr=false∧G b)∨(w.heap.size≤b∧b<w'.heap.size)) r v
def argK(k:OT)(x:V):Option TK:=
 match k,x with
 | .fz,x=>some (.val (.c x) [])
 | .own ty,x=>some (.own ty (.c x))
 | .mem l,.agg cs=>if cs.length=l.length then some (.mem ((l.zip cs).map fun y=>(y.1,.c y.2)))else none
 |_,_=>none
def RelA(P:Program)(B:Nat)(w:World)(h:GH)(ks:List OT)(xs:List V)(vs:Array Value):Prop:=
 xs.length=ks.length∧vs.size=ks.length∧ ∀(i:Nat) (k:OT) (x:V),ks[i]? =some k→xs[i]? =some x→ ∃tk,argK k x=some tk∧RelK P B [] w h (fun _=>none) i (vs.getD i undef) tk
def RelB(P:Program)(B:Nat)(w:World)(h:GH)(ks:List OT)(ys:List V)(vs:Array Value):Prop:=
 ys.length=ks.length∧ ∀(i:Nat) (k:OT) (y:V),ks[i]? =some k→k≠ .fz→ys[i]? =some y→ ∃tk,argK k y=some tk∧RelK P B [] w h (fun _=>none) i (vs.getD i undef) tk
def Xc:List OT→List V→List V
 | .fz::ks,_::ys=>Xc ks ys
 |_::ks,y::ys=>y::Xc ks ys
 |_,_=> []
def qL(r:V)(os:List V):V:=
 match os with
 | []=>r
 |os=> .tup (r::os)
def VCM(P:Program)(f:FuncId)(ks:List OT)(xs:List V)(R:V):Prop:=
 ZY P f=true∧ ∀(B:Nat) (w:World) (h:GH) (vs:Array Value),Ok B h.F w h→RelA P B w h ks xs vs→
  Calls P f vs w fun e w'=> ∃v r ys h',e= .returned v∧Below B w w'∧Same h.K w w'∧Ok B h.F w' h'∧h'.K=h.K∧Rd w' h'.F r v∧RelB P B w' h' ks ys vs∧R=qL r (Xc ks ys)
def fnOf(s:St):FN→Option FuncId
 | .id f=>some f
 | .e x=>match eval s x with
   |some (.fn f)=>some f
   |_=>none
def cloV:V→Option (FuncId×List V)
 | .fn f=>some (f,[])
 | .clo f cs=>some (f,cs)
 |_=>none
def fnV(s:St):FN→Option (FuncId×List V)
 | .id f=>some (f,[])
 | .e x=>(eval s x).bind cloV
def oldV(s:St):List OT→List E→Option (List V)
 | .fz::ks,_::es=>oldV s ks es
 |_::ks,e::es=>(eval s e).bind fun x=>(oldV s ks es).map (x:: ·)
 |_,_=>some []
def EFok(P:Program)(s:St):EF→Prop
 | .lt i C e=>holds s C→ ∃x,eval s e=some x∧get s i= .v x
 | .call i C f fr fl as=>holds s C→ ∃xs n r,Y0 s as=some xs∧fnV s f=some n∧VC P n.1 fr (xs++n.2) r∧(fl=true→flV r=some r)∧get s i= .v r
 | .callm i C f ks as=>(holds s C→ ∃xs n R,Y0 s as=some xs∧fnOf s f=some n∧VCM P n ks xs R∧get s i= .v R)∧
   (¬holds s C→ ∃os,oldV s ks as=some os∧(os≠ []→get s i= .v (.tup (.bool false::os))))
section
variable {c:Ctx} {B:Nat} {G:Nat→Prop} {s:St} {a a':Act} {w w':World} {h h':GH} {g:Gam} {C:Zg} {fz ps rb:List Nat} {ops:Array Oper}
def V2:List (E×Option Nat)→Nat→Option Nat
 | [],_=>none
 |x::l,u=>if x.2=some u then some 0 else(V2 l u).map (· +1)
theorem Xt: ∀ {l:List (E×Option Nat)} {u i:Nat},V2 l u=some i→ ∃e,l[i]? =some (e,some u)
 | [],u,i,hi=>by cases hi
 | (e,o)::l,u,i,hi=>by
   simp only[V2]at hi;split at hi
   ·rename_i ho;have ho:o=some u:=ho;simp only[Z8l]at hi;subst hi ho;exact⟨e,rfl⟩
   ·simp only[Z8p]at hi;obtain⟨j,hj,rfl⟩:=hi;obtain⟨e',he⟩:=Xt hj;exact⟨e',by simpa using he⟩
theorem VL: ∀ {l:List (E×Option Nat)} {u:Nat},V2 l u=none→u∉l.filterMap (·.2)
 | [],u,_,hm=>by simp at hm
 | (e,o)::l,u,hi,hm=>by
   simp only[V2]at hi;split at hi
   ·cases hi
   ·rename_i ho;have ho: ¬o=some u:=ho;simp only[ZbV]at hi;have:=VL hi;cases o with
    |none=>exact this (by simpa using hm)
    |some p=>
     simp only[Z9R,Z8V]at hm;rcases hm with rfl|hm
     ·exact ho rfl
     ·exact this hm
theorem Vt{l:List (E×Option Nat)}{e:E}{u i:Nat}(hi:l[i]? =some (e,some u)):u∈l.filterMap (·.2):=
 Zaa.2 ⟨_,Z8x hi,rfl⟩
theorem RU: ∀ {l:List Nat},Uf l=true↔l.Nodup
 | []=>by simp[Uf]
 |x::l=>by
  simp only[Uf,Z8u,Z9l,Z9z,Zb2,Zak,RU (l:=l)]
theorem TH: ∀ {l:List (E×Option Nat)} {e e':E} {u i j:Nat},(l.filterMap (·.2)).Nodup→l[i]? =some (e,some u)→l[j]? =some (e',some u)→i=j
 | [],e,e',u,i,j,_,hi,_=>by simp at hi
 | (e0,o)::l,e,e',u,i,j,hn,hi,hj=>by
   have hn':(l.filterMap (·.2)).Nodup:=by
    cases o with
    |none=>simpa using hn
    |some p=>simp only[Z9R,Zak]at hn;exact hn.2
   cases i with
   |zero=>
    simp at hi;cases j with
    |zero=>rfl
    |succ j=>
     exfalso;have h1:=Vt (l:=l) (i:=j) (by simpa using hj);rw[hi.2]at hn;simp only[Z9R,Zak]at hn;exact hn.1 h1
   |succ i=>
    cases j with
    |zero=>
     exfalso;simp at hj;have h1:=Vt (l:=l) (i:=i) (by simpa using hi);rw[hj.2]at hn;simp only[Z9R,Zak]at hn;exact hn.1 h1
    |succ j=>
     have:=TH (i:=i) (j:=j) hn' (by simpa using hi) (by simpa using hj);rw[this]
theorem jL{l:List (E×Option Nat)}(hn:(l.filterMap (·.2)).Nodup){e:E}{u i:Nat}(hi:l[i]? =some (e,some u)):V2 l u=some i:=by
 cases hx:V2 l u with
 |none=>exact absurd (Vt hi) (VL hx)
 |some j=>
  obtain⟨e',hj⟩:=Xt hx;rw[TH hn hi hj]
def XE(g:Gam)(h:GH)(ks:List OT)(as:List (E×Option Nat))(i j:Nat):Option Nat:=
 match(as[i]?).bind (·.2),ks[i]? with
 |some p,some (.mem _)=>match j with
  |0=>h.bl p 0
  |j+1=>match(memOf g p).bind fun cs=>cs[j]? with
   |some (.own _,_)=>h.bl p (j+1)
   |_=>none
 |some p,some (.own _)=>if j=1 then h.bl p 1 else none
 |_,_=>none
theorem Yw{ks:List OT}{as:List (E×Option Nat)}{i j b:Nat}(hb:XE g h ks as i j=some b): ∃p e k,as[i]? =some (e,some p)∧ks[i]? =some k∧k≠ .fz∧h.bl p j=some b∧(∀ty,k= .own ty→j=1):=by
 unfold XE at hb;split at hb
 ·rename_i p l hp hk;simp only[Z8m]at hp;obtain⟨⟨e,o⟩,he,ho⟩:=hp;have ho:o=some p:=ho;subst ho;refine⟨p,e,_,he,hk,by simp,?_,by simp⟩;split at hb
  ·exact hb
  ·split at hb
   ·exact hb
   ·cases hb
 ·rename_i p l hp hk;simp only[Z8m]at hp;obtain⟨⟨e,o⟩,he,ho⟩:=hp;have ho:o=some p:=ho;subst ho;split at hb
  ·rename_i hj;subst hj;exact⟨p,e,_,he,hk,by simp,hb,fun _ _=>rfl⟩
  ·cases hb
 ·cases hb
def XI(g:Gam)(h:GH)(w:World)(ks:List OT)(as:List (E×Option Nat)):GH:=
 {F:=h.F,bl:=XE g h ks as,K:=fun b=>b<w.heap.size∧ ∀i j,XE g h ks as i j≠some b}
theorem JS(hok:Ok B G w h){ks:List OT}{as:List (E×Option Nat)}(hn:(as.filterMap (·.2)).Nodup):Ok B h.F w (XI g h w ks as):=by
 refine⟨hok.base,hok.f_lt,fun b hb=> .inl hb,fun b hb=>hb,fun t i b hb=> ?_,fun t i u j b hb hb'=> ?_,fun b hb=>hb.1,fun t i b hb hK=>hK.2 t i hb,fun b hb=> .inl hb⟩
 ·obtain⟨p,_,_,_,_,_,h1,_⟩:=Yw hb;exact hok.b_lt p i b h1
 ·obtain⟨p,e,_,h1,_,_,h2,_⟩:=Yw hb;obtain⟨q,e',_,h3,_,_,h4,_⟩:=Yw hb';obtain⟨rfl,rfl⟩:=hok.inj p i q j b h2 h4;exact⟨TH hn h1 h3,rfl⟩
def apV(a:Act)(h:GH)(x:AP)(v:Value):Prop:=
 match x with
 | .op x _=>v=a.eval x
 | .cap p=> ∃b,h.bl p 0=some b∧v= .pointer (some ⟨b,0,none⟩)
theorem Rx: ∀ {a b:List CK},RR c.P a b=true→a.length=b.length∧ ∀(i:Nat) (x y:CK),a[i]? =some x→b[i]? =some y→x=y∨x= .nil∧(y= .fz∨ ∃ty,y= .own ty∧0<c.P.cellsOf ty)
 | [],[],_=>⟨rfl,fun i x y hx=>by simp at hx⟩
 | [],_::_,h=>by simp[RR]at h
 |_::_,[],h=>by simp[RR]at h
 |x::a,y::b,h=>by
  simp only[RR,Z8u,Z8J,Z99]at h;obtain⟨h1,h2⟩:=h;obtain⟨h3,h4⟩:=Rx h2;refine⟨by simp[h3],fun i x' y' hx hy=> ?_⟩;cases i with
  |zero=>
   simp at hx hy;subst hx hy;rcases h1 with h1|h1
   ·exact .inl h1
   ·split at h1
    ·simp only[Z8L]at h1;exact .inr ⟨rfl,.inr ⟨_,rfl,h1⟩⟩
    ·exact .inr ⟨rfl,.inl rfl⟩
    ·cases h1
  |succ i=>exact h4 i x' y' (by simpa using hx) (by simpa using hy)
theorem RelC.const{P:Program}{o:Option Nat}{k:CK}{e:E}{v:Value}{x:V}(hr:RelC P B s w h o k e v)(hx:eval s e=some x){h2:GH}(hF:h2.F=h.F):RelC P B [] w h2 o k (.c x) v:=by
 cases k with
 |fz=>obtain⟨y,h0,h1,h3⟩:=hr;rw[hx]at h0;cases h0;exact⟨x,rfl,h1,h3.mono fun b hb=>by rw[hF];exact hb⟩
 |own ty=>obtain⟨y,h0,h1⟩:=hr;rw[hx]at h0;cases h0;exact⟨x,rfl,h1.mono (fun b hb=>by rw[hF];exact hb) rfl⟩
 |nil=>obtain⟨h0,h1⟩:=hr;rw[hx]at h1;cases h1;exact⟨h0,rfl⟩
 |dead=>exact hr
theorem jY(hr:RelG c B G s a w h g)(hC:holds s (ixC c C)){x:AP}{p:Nat}{v:Value}(hs:Z3q g C x=some p)(hv:apV a h x v): ∃b,h.bl p 0=some b∧v= .pointer (some ⟨b,0,none⟩):=by
 unfold Z3q at hs;split at hs
 ·simp only[Z8l]at hs;subst hs;exact hv
 ·rename_i t ty;have hv:v=a.eval (.tmp t):=hv;subst hv;split at hs
  ·rename_i cs hk;simp only[Z8l]at hs;subst hs;obtain⟨v,hv,⟨b,vs,T,h1,h2,_⟩,_⟩:=hr.look hC (show look g C t=_ from hk) rfl;rw[Act.eval_tmp a t v hv];exact⟨b,h1,h2⟩
  ·rename_i q hk;simp only[Z8l]at hs;subst hs;exact ZK hr hC hk rfl 0
  ·cases hs
 ·cases hs
theorem TZ(hr:RelG c B G s a w h g){k:OT}{x:AP}{e:E}{p:Nat}(hp:V3 c g C k x=some (e,some p)){X:V}(hX:eval s e=some X){ks:List OT}{as:List (E×Option Nat)}{i:Nat}(hk:ks[i]? =some k)(hi:as[i]? =some (e,some p)):
  ∃v,a.tmps[p]? =some v∧(∃tk,argK k X=some tk∧RelK c.P B [] w (XI g h w ks as) (fun _=>none) i v tk)∧((∃l b,k= .mem l∧h.bl p 0=some b∧v= .pointer (some ⟨b,0,none⟩))∨ ∃ty,k= .own ty):=by
 unfold V3 at hp;split at hp
 ·split at hp
  ·simp only[Z8m]at hp;obtain⟨_,_,hp⟩:=hp;split at hp
   ·simp at hp
   ·cases hp
  ·cases hp
 ·
  rename_i l;simp only[Z8m]at hp;obtain⟨p,hs,cs,hmem,hp⟩:=hp;split at hp
  ·rename_i hcond;simp only[Z8u,Z9l]at hcond;obtain⟨hdead,hpass⟩:=hcond;simp only[Z8l,Z8w]at hp;obtain⟨rfl,rfl⟩:=hp;obtain⟨b,vs,T,h1,h2,h3,h4⟩:=hr.memOf hmem;obtain⟨hlen,hget⟩:=Rx hpass;simp only[Z8P]at hlen;have hX0:=hX;simp only[eval,Z8p]at hX0;obtain⟨xs,hxs,hag⟩:=hX0;obtain⟨hxl,hxat⟩:=Yj hxs;have hxl':xs.length=cs.length:=by simpa using hxl
   have hone: ∀x∈xs,x.one=true:=fun x hx=>by
    obtain⟨j,hj⟩:=Z8O hx;have hlt:j<cs.length:=by have:=(Z8o.1 hj).1;omega
    obtain⟨x',hx1,hx2⟩:=hxat j (cs[j]).2 (by rw[Z8D,Z8n hlt];rfl);rw[hj]at hx1;cases hx1;have hc:=h4.2 j cs[j] (Z8n hlt)
    obtain⟨z,hz,hz1,_⟩:=hc.rd (G':=fun _=>True) (fun hd=>by
     have:ZV cs=true:=Z9Z.2 ⟨cs[j],Z8M hlt,by simp[hd]⟩;rw[hdead]at this;cases this) (fun _ _=>trivial) fun _ _ _ _=>trivial
    rw[hx2]at hz;cases hz;exact hz1
   have hXe:X= .agg xs:=by rw[←hag];simp only[agV,WL hone]
   subst hXe;have hlx:xs.length=l.length:=by omega
   have hbl0:XE g h ks as i 0=h.bl p 0:=by simp[XE,hi,hk]
   refine⟨_,h2,⟨.mem ((l.zip xs).map fun y=>(y.1,.c y.2)),by simp only[argK,hlx,Z9c],b,vs,T,by show XE g h ks as i 0=_;rw[hbl0];exact h1,rfl,h3,by rw[h4.1];simp;omega,fun j ck hj=> ?_⟩,.inl ⟨l,b,rfl,h1,rfl⟩⟩;simp only[Z8D,Z8p]at hj;obtain⟨⟨ck1,x1⟩,hj,rfl⟩:=hj;rw[Zau]at hj;obtain⟨hj1,hj2⟩:=hj;have hlt:j<cs.length:=by have:=(Z8o.1 hj2).1;omega
   obtain⟨x',hx1,hx2⟩:=hxat j (cs[j]).2 (by rw[Z8D,Z8n hlt];rfl);simp only at hj2 hj1;rw[hj2]at hx1;cases hx1;have hc:=h4.2 j cs[j] (Z8n hlt)
   have hcb:XE g h ks as i (j+1)=match cs[j]with| (.own _,_)=>h.bl p (j+1) |_=>none:=by
    simp only[XE,hi,hk,hmem,Z8y,Z8n hlt];rcases cs[j]with ⟨kk,e⟩;cases kk<;>rfl
   rcases hget j (cs[j]).1 ck1 (by rw[Z8D,Z8n hlt];rfl) hj1 with he| ⟨he,rfl| ⟨ty,rfl,h0⟩⟩
   ·rw[←he];show RelC c.P B [] w (XI g h w ks as) (XE g h ks as i (j+1)) (cs[j]).1 (.c x1) (vs.getD j undef);rw[hcb];have hcc:=hc.const hx2 (h2:=XI g h w ks as) rfl;generalize cs[j]=q at hcc;obtain⟨kk,e⟩:=q;cases kk with
    |own ty=>exact hcc
    |fz=>exact hcc
    |nil=>exact hcc
    |dead=>exact hcc
   ·show RelC c.P B [] w (XI g h w ks as) (XE g h ks as i (j+1)) .fz (.c x1) (vs.getD j undef);generalize cs[j]=q at he hc hx2;obtain⟨kk,e⟩:=q;simp only at he;subst he;obtain⟨e1,e2⟩:=hc;simp only at hx2 e2;rw[e2]at hx2;cases hx2;rw[e1];exact⟨_,rfl,rfl,.nil _ _ (Z9n _)⟩
   ·show RelC c.P B [] w (XI g h w ks as) (XE g h ks as i (j+1)) (.own ty) (.c x1) (vs.getD j undef);rw[hcb];generalize cs[j]=q at he hc hx2;obtain⟨kk,e⟩:=q;simp only at he;subst he;obtain⟨e1,e2⟩:=hc;simp only at hx2 e2;rw[e2]at hx2;cases hx2;rw[e1];exact⟨_,rfl,.inl ⟨[],[],rfl,h0,fun x hx=>by simp at hx,Z9G w B ty _,rfl,fun i ck hi=>by simp[flat]at hi⟩⟩
  ·cases hp
 ·
  rename_i ty;simp only[Z8m]at hp;obtain⟨p,hs,⟨ty',e'⟩,ho,hp⟩:=hp;split at hp
  ·rename_i hty;simp only at hty;subst hty;simp only[Z8l,Z8w]at hp;obtain⟨rfl,rfl⟩:=hp;obtain⟨u,hu,X',hX',hown⟩:=hr.ownOf ho;rw[hX]at hX';cases hX';have hcb:XE g h ks as i 1=h.bl p 1:=by simp[XE,hi,hk]
   refine⟨u,hu,⟨_,rfl,X,rfl,?_⟩,.inr ⟨_,rfl⟩⟩;show OwnV c.P B w (XI g h w ks as) (XE g h ks as i 1) ty' X u;rw[hcb];exact hown.mono (fun _ hb=>hb) rfl
  ·cases hp
 ·cases hp
theorem zu(hr:RelG c B G s a w h g)(hC:holds s (ixC c C)){k:OT}{x:AP}{y:E×Option Nat}(hp:V3 c g C k x=some y){X:V}(hX:eval s y.1=some X){v:Value}(hv:apV a h x v){ks:List OT}{as:List (E×Option Nat)}{i:Nat}(hk:ks[i]? =some k)(hi:as[i]? =some y):
  (∃tk,argK k X=some tk∧RelK c.P B [] w (XI g h w ks as) (fun _=>none) i v tk)∧ ∀p,y.2=some p→a.tmps[p]? =some v:=by
 obtain⟨e,o⟩:=y;cases o with
 |none=>
  refine⟨?_,fun p hp=>by cases hp⟩;unfold V3 at hp;split at hp
  ·split at hp
   ·rename_i x ty;simp only[Z8m]at hp;obtain⟨a0,ha0,hp⟩:=hp;split at hp
    ·rename_i hemp;simp only[Z8l,Z8w,Zcb]at hp;subst hp;obtain⟨z,hz,hzr⟩:=VF hr hC ha0;obtain⟨z',hz',hzr'⟩:=SW (fl:=Xh c.P ty) (b:=a0) hz hzr ⟨X,hX⟩;simp only at hX;rw[hX]at hz';cases hz';have hv:v=a.eval x:=hv;subst hv;rw[ZaW.1 hemp]at hzr';exact⟨_,rfl,X,rfl,hzr'.F.mono fun b hb=>GH.ext_F hb⟩
    ·cases hp
   ·cases hp
  ·simp only[Z8m]at hp;obtain⟨_,_,_,_,hp⟩:=hp;split at hp
   ·simp at hp
   ·cases hp
  ·simp only[Z8m]at hp;obtain⟨_,_,_,_,hp⟩:=hp;split at hp
   ·simp at hp
   ·cases hp
  ·cases hp
 |some p=>
  obtain⟨u,hu,hrel,hcase⟩:=TZ hr hp hX hk hi
  have huv:u=v:=by
   unfold V3 at hp;split at hp
   ·split at hp
    ·simp only[Z8m]at hp;obtain⟨_,_,hp⟩:=hp;split at hp
     ·simp at hp
     ·cases hp
    ·cases hp
   ·simp only[Z8m]at hp;obtain⟨p',hs,cs,hmem,hp⟩:=hp;split at hp
    ·simp only[Z8l,Z8w]at hp;obtain⟨_,rfl⟩:=hp;obtain⟨b,q1,rfl⟩:=jY hr hC hs hv;rcases hcase with ⟨l,b',_,q2,rfl⟩ | ⟨ty,hk'⟩
     ·rw[q1]at q2;cases q2;rfl
     ·cases hk'
    ·cases hp
   ·simp only[Z8m]at hp;obtain⟨p',hs,⟨ty',e'⟩,ho,hp⟩:=hp;split at hp
    ·simp only[Z8l,Z8w]at hp;obtain⟨_,rfl⟩:=hp;unfold Z50 at hs;split at hs
     ·rename_i t tt;have hv:v=a.eval (.tmp t):=hv;subst hv;split at hs
      ·simp only[Z8l]at hs;subst hs;rw[Act.eval_tmp a _ u hu]
      ·rename_i q hk2;simp only[Z8l]at hs;subst hs;have hrel:a.tmps[q]? =some (a.eval (.tmp t)):=ZK hr hC hk2 rfl 0;rw[hu]at hrel;simpa using hrel
      ·cases hs
     ·cases hs
    ·cases hp
   ·cases hp
  subst huv;exact⟨hrel,fun q hq=>by cases hq;exact hu⟩
end
end Vm
namespace Vm
open Go
open Go.RowKit (Below)
section
variable {c:Ctx} {B:Nat} {G:Nat→Prop} {s:St} {a a':Act} {w w':World} {h h' hx:GH} {g:Gam} {C:Zg} {fz ps rb:List Nat} {ops:Array Oper} {ks:List OT} {as:List (E×Option Nat)}
structure OPost (c:Ctx) (B:Nat) (G:Nat→Prop) (s:St) (a a':Act) (w w':World) (h h':GH) (os:OS):Prop where
 step:Step B os.ps os.rb os.fz w w' h h'
 ok:Ok B G w' h'
 size:a'.tmps.size=a.tmps.size
 defers:a'.defers=a.defers
 tm: ∀t,t∉os.ps→a'.tmps[t]? =a.tmps[t]?
 ent: ∀t∈Zu os.d,(holds s (ixC c (os.d.at t).1)→(os.d.at t).2.isNo=false→ ∃v,a'.tmps[t]? =some v∧RelK c.P B s w' h' (fun p=>a'.tmps[p]?) t v (os.d.at t).2)∧(¬holds s (ixC c (os.d.at t).1)→a'.tmps.getD t undef=undef)
theorem TQ(a:Act)(d:Option Nat)(v:Value):(a.put d v).tmps.size=a.tmps.size:=by
 cases d<;>simp[Act.put]
theorem Vj(a:Act)(d:Option Nat)(v:Value):(a.put d v).defers=a.defers:=by
 cases d<;>rfl
theorem Z2K{d:Nat}(v:Value){t:Nat}(ht:t∉ [d]):(a.put (some d) v).tmps[t]? =a.tmps[t]? :=Su (by simpa using ht) v
def XM(h hx:GH)(as:List (E×Option Nat)):GH:=
 {F:=fun b=>h.F b∨hx.F b,K:=h.K,
  bl:=fun u j=>match V2 as u with
   |some i=>if j=0 then h.bl u 0 else hx.bl i j
   |none=>h.bl u j}
theorem Z3w(hok:Ok B G w h)(hn:(as.filterMap (·.2)).Nodup)(hokx:Ok B h.F w' hx)(hK:hx.K=(XI g h w ks as).K)(hsz:w.heap.size≤w'.heap.size)
  (hks: ∀(i:Nat) (e:E) (p:Nat),as[i]? =some (e,some p)→(∃l,ks[i]? =some (.mem l)∧hx.bl i 0=h.bl p 0)∨ ∃ty,ks[i]? =some (.own ty)):Ok B G w' (XM h hx as):=by
 have hKlt: ∀b,h.K b→(XI g h w ks as).K b:=fun b hb=>⟨hok.k_lt b hb,fun i j hbl=>by
  obtain⟨p,_,_,_,_,_,h1,_⟩:=Yw hbl;exact hok.k_bl p j b h1 hb⟩
 have isK: ∀ {t j b:Nat},h.bl t j=some b→V2 as t=none→hx.K b:=by
  intro t j b hb ht;rw[hK];refine⟨(hok.b_lt t j b hb).2.1,fun i q hbl=> ?_⟩;obtain⟨p,e,_,h1,_,_,h3,_⟩:=Yw hbl;obtain⟨rfl,_⟩:=hok.inj t j p q b hb h3;exact VL ht (Vt h1)
 have isK0: ∀ {t i:Nat} {e:E} {b:Nat},as[i]? =some (e,some t)→(∃ty,ks[i]? =some (OT.own ty))→h.bl t 0=some b→hx.K b:=by
  intro t i e b hi hk hb;rw[hK];refine⟨(hok.b_lt t 0 b hb).2.1,fun i' q hbl=> ?_⟩;obtain⟨p,e',k,h1,h2,_,h3,h4⟩:=Yw hbl;obtain⟨rfl,rfl⟩:=hok.inj t 0 p q b hb h3;have:=TH hn hi h1;subst this;obtain⟨ty,hk⟩:=hk;rw[hk]at h2;cases h2;have:=h4 ty rfl;omega
 have notF: ∀ {t j b:Nat},h.bl t j=some b→hx.K b→ ¬(h.F b∨hx.F b):=by
  intro t j b hb hkb hF;rcases hF with hF|hF
  ·exact(hok.b_lt t j b hb).2.2 hF
  ·rcases hokx.k_F b hF with h1|h1
   ·exact(hok.b_lt t j b hb).2.2 h1
   ·exact h1 hkb
 refine⟨hokx.base,fun b hb=> ?_,fun b hb=> ?_,fun b hb=> .inl (hok.g_F b hb),fun t j b hb=> ?_,fun t j u q b hb hb'=> ?_,fun b hb=>Z8z (hok.k_lt b hb) hsz,fun t j b hb hkb=> ?_,fun b hb=> ?_⟩
 ·rcases hb with hb|hb
  ·exact Z8z (hok.f_lt b hb) hsz
  ·exact hokx.f_lt b hb
 ·rcases hb with hb|hb
  ·exact hok.f_or b hb
  ·rcases hokx.f_or b hb with h1|h1
   ·exact hok.f_or b h1
   ·exact .inr h1
 ·simp only[XM]at hb⊢;split at hb
  ·rename_i i hix;obtain⟨e,hi⟩:=Xt hix;split at hb
   ·rename_i hj;subst hj;rcases hks i e t hi with ⟨l,hk,h0⟩ |hk
    ·rw[←h0]at hb;obtain⟨q1,q2,q3⟩:=hokx.b_lt i 0 b hb;refine⟨q1,q2,fun hF=> ?_⟩;rcases hF with hF|hF
     ·exact q3 (hokx.g_F b hF)
     ·exact q3 hF
    ·obtain⟨q1,q2,_⟩:=hok.b_lt t 0 b hb;exact⟨q1,Z8z q2 hsz,notF hb (isK0 hi hk hb)⟩
   ·obtain⟨q1,q2,q3⟩:=hokx.b_lt i j b hb;refine⟨q1,q2,fun hF=> ?_⟩;rcases hF with hF|hF
    ·exact q3 (hokx.g_F b hF)
    ·exact q3 hF
  ·rename_i hix;obtain⟨q1,q2,_⟩:=hok.b_lt t j b hb;exact⟨q1,Z8z q2 hsz,notF hb (isK hb hix)⟩
 ·
  have place: ∀ {t j:Nat},(XM h hx as).bl t j=some b→(∃i e,as[i]? =some (e,some t)∧hx.bl i j=some b)∨(h.bl t j=some b∧hx.K b):=by
   intro t j hb;simp only[XM]at hb;split at hb
   ·rename_i i hix;obtain⟨e,hi⟩:=Xt hix;split at hb
    ·rename_i hj;subst hj;rcases hks i e t hi with ⟨l,hk,h0⟩ |hk
     ·exact .inl ⟨i,e,hi,by rw[h0];exact hb⟩
     ·exact .inr ⟨hb,isK0 hi hk hb⟩
    ·exact .inl ⟨i,e,hi,hb⟩
   ·rename_i hix;exact .inr ⟨hb,isK hb hix⟩
  rcases place hb with ⟨i,e,hi,h1⟩ | ⟨h1,h2⟩<;>rcases place hb' with ⟨i',e',hi',h1'⟩ | ⟨h1',h2'⟩
  ·obtain⟨rfl,rfl⟩:=hokx.inj i j i' q b h1 h1';rw[hi]at hi';cases hi';exact⟨rfl,rfl⟩
  ·exact absurd h2' (hokx.k_bl i j b h1)
  ·exact absurd h2 (hokx.k_bl i' q b h1')
  ·exact hok.inj t j u q b h1 h1'
 ·have hkx:=hKlt b hkb;rw[←hK]at hkx;simp only[XM]at hb;split at hb
  ·rename_i i hix;split at hb
   ·exact hok.k_bl t 0 b (by assumption) hkb
   ·exact hokx.k_bl i j b hb hkx
  ·exact hok.k_bl t j b hb hkb
 ·rcases hb with hb|hb
  ·exact hok.k_F b hb
  ·rcases hokx.k_F b hb with h1|h1
   ·exact hok.k_F b h1
   ·exact .inr fun hkb=>h1 (by rw[hK];exact hKlt b hkb)
theorem jo(hok:Ok B G w h){d:Nat}(hbel:Below B w w')(hsame:Same (XI g h w ks as).K w w'):Step B (d::as.filterMap (·.2)) [d] [] w w' h (XM h hx as):=by
 refine⟨hbel,fun b hlt hn=>hsame b ⟨hlt,fun i j hb=> ?_⟩,fun b hb=> .inl hb,fun t ht _=> ?_,fun t ht=> ?_,fun _ _ _ _ hm=>(by simp at hm),rfl⟩
 ·obtain⟨p,e,_,h1,_,_,h3,_⟩:=Yw hb;exact hn p (by simp only[Z8V];exact .inr (Vt h1)) j h3
 ·have hno:V2 as t=none:=by
   cases hix:V2 as t with
   |none=>rfl
   |some i=>
    obtain⟨e,hi⟩:=Xt hix;exact absurd (Z9h _ (Vt hi)) ht
  funext j;simp only[XM,hno]
 ·simp only[XM];split<;>simp
theorem TO{i0:Nat}: ∀ {q:Nat} {ks:List OT} {as:List (E×Option Nat)} {ys:List V},as.length=ks.length→ys.length=ks.length→(∀(j:Nat) (k:OT) (y:E×Option Nat),ks[j]? =some k→as[j]? =some y→(y.2=none↔k=OT.fz))→ ∀(t:Nat),t∈Zu (Xj i0 q ks as)→
  ∃(j:Nat) (k:OT) (e:E) (y:V) (r:Nat),ks[j]? =some k∧as[j]? =some (e,some t)∧ys[j]? =some y∧(Xj i0 q ks as).at t=([],newK i0 (q+r) k)∧(Xc ks ys)[r]? =some y
 |q,[],as,ys,_,_,_,t,ht=>by
  have:Xj i0 q [] as= []:=by unfold Xj;rfl
  rw[this]at ht;simp[Zu]at ht
 |q,k::ks,[],ys,h1,_,_,t,ht=>by simp at h1
 |q,k::ks,(e,o)::as,[],_,h2,_,t,ht=>by simp at h2
 |q,k::ks,(e,o)::as,y::ys,h1,h2,h3,t,ht=>by
  have hk:=h3 0 k (e,o) rfl rfl;have h3': ∀(j:Nat) (k:OT) (y:E×Option Nat),ks[j]? =some k→as[j]? =some y→(y.2=none↔k= .fz):=fun j k y h4 h5=>h3 (j+1) k y (by simpa using h4) (by simpa using h5);cases o with
  |none=>
   have hkz:k= .fz:=hk.1 rfl;subst hkz;have e1:Xj i0 q (.fz::ks) ((e,none)::as)=Xj i0 q ks as:=by simp only[Xj]
   have e2:Xc (.fz::ks) (y::ys)=Xc ks ys:=by simp only[Xc]
   rw[e1]at ht⊢;obtain⟨j,k',e',y',r,q1,q2,q3,q4,q5⟩:=TO (ys:=ys) (by simpa using h1) (by simpa using h2) h3' t ht;exact⟨j+1,k',e',y',r,by simpa using q1,by simpa using q2,by simpa using q3,q4,by rw[e2];exact q5⟩
  |some p=>
   have hkz:k≠ .fz:=fun e=>by have:=hk.2 e;cases this
   have e1:Xj i0 q (k::ks) ((e,some p)::as)=(p,[],newK i0 q k)::Xj i0 (q+1) ks as:=by simp only[Xj]
   have e2:Xc (k::ks) (y::ys)=y::Xc ks ys:=by cases k<;>first|exact absurd rfl hkz|simp only[Xc]
   rw[e1]at ht⊢;by_cases hpt:p=t
   ·subst hpt;exact⟨0,k,e,y,0,rfl,rfl,rfl,by simp[Gam.at],by rw[e2];rfl⟩
   ·have ht':t∈Zu (Xj i0 (q+1) ks as):=by
     simp only[Zu,Z8Q,Z8V]at ht;exact ht.resolve_left fun e=>hpt e.symm
    obtain⟨j,k',e',y',r,q1,q2,q3,q4,q5⟩:=TO (ys:=ys) (by simpa using h1) (by simpa using h2) h3' t ht';exact⟨j+1,k',e',y',r+1,by simpa using q1,by simpa using q2,by simpa using q3,by simp only[Gam.at,if_neg hpt];rw[q4,Z9i,Zbf 1 r],by rw[e2];simpa using q5⟩
theorem R6{i0:Nat}: ∀ {q:Nat} {ks:List OT} {as:List (E×Option Nat)},as.length=ks.length→Zu (Xj i0 q ks as)=as.filterMap (·.2)
 |q,[],[],_=>by simp[Xj,Zu]
 |q,[],_::_,h=>by simp at h
 |q,k::ks,[],h=>by simp at h
 |q,k::ks,(e,o)::as,h=>by
  cases o with
  |none=>
   have e1:Xj i0 q (k::ks) ((e,none)::as)=Xj i0 q ks as:=by simp only[Xj]
   rw[e1,R6 (by simpa using h)];simp
  |some p=>
   have e1:Xj i0 q (k::ks) ((e,some p)::as)=(p,[],newK i0 q k)::Xj i0 (q+1) ks as:=by simp only[Xj]
   rw[e1];have:=R6 (i0:=i0) (q:=q+1) (ks:=ks) (as:=as) (by simpa using h);simp only[Zu,Z8Q]at this⊢;rw[this];simp
theorem Z23{P:Program}{i0 q j p:Nat}{k:OT}{y:V}{L:List V}{v:Value}(hk:k≠ .fz)(hst:get s i0= .v (.tup L))(hq:L[q]? =some y){hx h':GH}(hrel: ∃tk,argK k y=some tk∧RelK P B [] w' hx (fun _=>none) j v tk)
  (hF: ∀b,hx.F b→h'.F b) (h0:(∃l,k= .mem l)→h'.bl p 0=hx.bl j 0) (hbl: ∀i,h'.bl p (i+1)=hx.bl j (i+1)) (tm:Nat→Option Value):RelK P B s w' h' tm p v (newK i0 q k):=by
 obtain⟨tk,harg,hrel⟩:=hrel;have hext:eval s (.ext (.s i0) q)=some y:=by simp only[eval,hst,Z8y,extV,hq]
 cases k with
 |fz=>exact absurd rfl hk
 |own ty=>
  simp only[argK,Z8l]at harg;subst harg;obtain⟨x,hx1,hown⟩:=hrel;simp only[eval,Z8l]at hx1;subst hx1;exact⟨y,hext,hown.mono hF (hbl 0).symm⟩
 |mem l=>
  cases y<;>simp only[argK]at harg<;>first| (cases harg;done) |skip
  rename_i cs;split at harg
  ·rename_i hlen;simp only[Z8l]at harg;subst harg;obtain⟨b,vs,T,e1,e2,e3,e4,e5⟩:=hrel;refine⟨b,vs,T,by rw[h0 ⟨l,rfl⟩];exact e1,e2,e3,by rw[e4];simp;omega,fun i ck hi=> ?_⟩;simp only[Z8D,Z8p]at hi;obtain⟨⟨kk,i'⟩,hi,rfl⟩:=hi;rw[Zac,Z8p]at hi;obtain⟨kk',hi,hki⟩:=hi;simp only[Z8w,Z97]at hki;obtain⟨rfl,rfl⟩:=hki;have hlt:i<cs.length:=by rw[hlen];exact(Z8o.1 hi).1
   have hc:=e5 i (kk',.c cs[i]) (by rw[Z8D,Z8p];exact⟨(kk',cs[i]),by rw[Zau];exact⟨hi,Z8n hlt⟩,rfl⟩);show RelC P B s w' h' (h'.bl p (i+1)) kk' (.fld (.ext (.s i0) q) i) (vs.getD i undef);rw[hbl]
   have hfld:cs[i].one=true→eval s (.fld (.ext (.s i0) q) i)=some cs[i]:=fun h1=>by
    simp only[eval,hst,Z8y,extV,hq,fldV,V.pc,Z8n hlt,oneV,h1,Z9c]
   cases kk' with
   |fz=>
    obtain⟨x,q1,q2,q3⟩:=hc;simp only[eval,Z8l]at q1;subst q1;exact⟨_,hfld q2,q2,q3.mono hF⟩
   |own ty=>
    obtain⟨x,q1,q2⟩:=hc;simp only[eval,Z8l]at q1;subst q1;exact⟨_,hfld q2.one,q2.mono hF rfl⟩
   |nil=>
    obtain⟨q1,q2⟩:=hc;simp only[eval,Z8l]at q2;exact⟨q1,by rw[hfld (by rw[q2];rfl),q2]⟩
   |dead=>exact hc
  ·cases harg
 |nil=>simp[argK]at harg
 |clo f l=>simp[argK]at harg
theorem X3: ∀ {ks:List OT} {aps:List AP} {as:List (E×Option Nat)},Xx c g C ks aps=some as→aps.length=ks.length∧as.length=ks.length∧ ∀(i:Nat) (k:OT) (x:AP) (y:E×Option Nat),ks[i]? =some k→aps[i]? =some x→as[i]? =some y→V3 c g C k x=some y
 | [],[],as,h=>by
   simp only[Xx,Z8l]at h;subst h;exact⟨rfl,rfl,fun i k x y hk=>by simp at hk⟩
 | [],_::_,as,h=>by simp[Xx]at h
 |_::_,[],as,h=>by simp[Xx]at h
 |k::ks,x::l,as,h=>by
  simp only[Xx,Z8m,Z8p]at h;obtain⟨y,hy,ys,hys,rfl⟩:=h;obtain⟨h1,h2,h3⟩:=X3 hys;refine⟨by simp[h1],by simp[h2],fun i k' x' y' q1 q2 q3=> ?_⟩;cases i with
  |zero=>simp at q1 q2 q3;subst q1 q2 q3;exact hy
  |succ i=>exact h3 i k' x' y' (by simpa using q1) (by simpa using q2) (by simpa using q3)
theorem Z2g(hr:RelG c B G s a w h g)(hC:holds s (ixC c C)){aps:List AP}(hp:Xx c g C ks aps=some as){xs:List V}(hxs:Y0 s (as.map (·.1))=some xs){vs:Array Value}(hvl:vs.size=aps.length)(hvs: ∀(i:Nat) (x:AP),aps[i]? =some x→apV a h x (vs.getD i undef)):
  RelA c.P B w (XI g h w ks as) ks xs vs:=by
 obtain⟨h1,h2,h3⟩:=X3 hp;obtain⟨h4,h5⟩:=Yj hxs;refine⟨by rw[h4];simpa using h2,by omega,fun i k x hk hx=> ?_⟩;have hlt:i<ks.length:=(Z8o.1 hk).1;have ha:aps[i]? =some aps[i]:=Z8n (by omega);have hs:as[i]? =some as[i]:=Z8n (by omega);obtain⟨x',hx1,hx2⟩:=h5 i (as[i]).1 (by rw[Z8D,hs];rfl);rw[hx]at hx1;cases hx1;exact(zu hr hC (h3 i k _ _ hk ha hs) hx2 (hvs i _ ha) hk hs).1
theorem RS(hr:RelG c B G s a w h g){aps:List AP}(hp:Xx c g C ks aps=some as)(hn:(as.filterMap (·.2)).Nodup){d:Nat}(hd:d<a.tmps.size)(hdp:d∉as.filterMap (·.2)){all:Gam}{efs:List EF}{chks:List (Zg×E)}{kd:TK}
  {vs:Array Value} (hslot: ∀(i:Nat) (e:E) (p:Nat),as[i]? =some (e,some p)→a.tmps[p]? =some (vs.getD i undef)∧((∃l b,ks[i]? =some (.mem l)∧h.bl p 0=some b∧vs.getD i undef= .pointer (some ⟨b,0,none⟩))∨ ∃ty,ks[i]? =some (.own ty)))
  (hz: ∀(j:Nat) (k:OT) (y:E×Option Nat),ks[j]? =some k→as[j]? =some y→(y.2=none↔k=OT.fz))
  (hokx:Ok B h.F w' hx) (hK:hx.K=(XI g h w ks as).K) (hbel:Below B w w') (hsame:Same (XI g h w ks as).K w w') {ys:List V} (hB:RelB c.P B w' hx ks ys vs) {r0:V} (hget:Xc ks ys≠ []→get s (c.ix d)= .v (.tup (r0::Xc ks ys)))
  {u:Value} (hu:holds s (ixC c C)→RelK c.P B s w' (XM h hx as) (fun p=>(a.put (some d) u).tmps[p]?) d u kd) (hu': ¬holds s (ixC c C)→u=undef):
  OPost c B G s a (a.put (some d) u) w w' h (XM h hx as) {d:=(d,C,kd)::Xj (c.ix d) 1 ks as++XK (d::as.filterMap (·.2)) [d] [] all,ps:=d::as.filterMap (·.2),rb:= [d],fz:= [],efs,chks}:=by
 obtain⟨h1,h2,h3⟩:=X3 hp
 have hks: ∀(i:Nat) (e:E) (p:Nat),as[i]? =some (e,some p)→(∃l,ks[i]? =some (.mem l)∧hx.bl i 0=h.bl p 0)∨ ∃ty,ks[i]? =some (.own ty):=by
  intro i e p hi;obtain⟨_,hcase⟩:=hslot i e p hi;rcases hcase with ⟨l,b,hk,hb,hv⟩ |hk
  ·refine .inl ⟨l,hk,?_⟩;have hlt:i<ys.length:=by rw[hB.1];exact(Z8o.1 hk).1
   obtain⟨tk,harg,hrel⟩:=hB.2 i _ ys[i] hk (by simp) (Z8n hlt);generalize ys[i]=y at harg;cases y<;>simp only[argK]at harg<;>first| (cases harg;done) |skip
   split at harg
   ·simp only[Z8l]at harg;subst harg;obtain⟨b',vs',T,e1,e2,_⟩:=hrel;rw[hv]at e2;simp only[Value.pointer.injEq,Z8l,Addr.mk.injEq,Zcb]at e2;rw[e1,hb,e2]
   ·cases harg
  ·exact .inr hk
 have hok':=Z3w hr.ok hn hokx hK hbel.size hks;have hst:=jo (hx:=hx) (d:=d) hr.ok hbel hsame;refine⟨hst,hok',TQ _ _ _,Vj _ _ _,fun t ht=>Su (fun e=>ht (by simp[e])) u,fun t ht=> ?_⟩;simp only[Z9s,Gam.at];by_cases hdt:d=t
 ·subst hdt;simp only[Z9c];refine⟨fun hh _=>⟨u,Xy hd u,hu hh⟩,fun hh=> ?_⟩;rw[hu' hh];simp only[Z8q,Xy hd,Z91]
 ·rw[if_neg hdt,ZR];by_cases hto:t∈Zu (Xj (c.ix d) 1 ks as)
  ·rw[if_pos hto];obtain⟨j,k,e,y,r,q1,q2,q3,q4,q5⟩:=TO (i0:=c.ix d) (q:=1) (ys:=ys) h2 hB.1 hz t hto;rw[q4];refine⟨fun _ _=>⟨vs.getD j undef,by rw[Su (Zab hdt)];exact(hslot j e t q2).1,?_⟩,fun hh=>absurd (Zb s c) hh⟩;have hkz:k≠ .fz:=fun e'=>by have:=(hz j k _ q1 q2).2 e';cases this
   have hix:=jL hn q2;refine Z23 (h':=XM h hx as) hkz (hget fun e'=>by rw[e']at q5;simp at q5) (by rw[Zbf];simpa using q5) (hB.2 j k y q1 hkz q3) (fun b hb=> .inr hb) (fun hm=> ?_) (fun i=>by simp[XM,hix]) _;rcases hks j e t q2 with ⟨l,_,h0⟩ | ⟨ty,hty⟩
   ·simp[XM,hix,h0]
   ·obtain⟨l,rfl⟩:=hm;rw[q1]at hty;cases hty
  ·rw[if_neg hto]
   have htk:t∈Zu (XK (d::as.filterMap (·.2)) [d] [] all):=by
    simp only[Zu,Z8Q,Z9Q,Z9s,Z8V,Z90]at ht hto⊢;rcases ht with ht|ht|ht
    ·exact absurd ht.symm hdt
    ·exact absurd ht hto
    ·exact ht
   rw[TR htk];exact⟨fun _ hno=>by simp[TK.isNo]at hno,fun hh=>absurd (Zb s c) hh⟩
end
end Vm
namespace Vm
open Go
open Go.RowKit (Below)
section
variable {c:Ctx} {B:Nat} {G:Nat→Prop} {s:St} {a a':Act} {w w':World} {h h':GH} {g:Gam} {C:Zg} {fz ps rb:List Nat} {ops:Array Oper}
theorem GH.exb_of{h:GH}{big:Bool}{sh:List Nat}{b:Nat}(hb:h.ext sh b):h.exb big sh b:=by
 rcases hb with hb| ⟨p,hp,i,hi⟩
 ·exact .inl hb
 ·exact .inr ⟨p,hp,i+1,.inr (by omega),hi⟩
theorem GH.exb_ext{h:GH}{sh:List Nat}{b:Nat}(hb:h.exb false sh b):h.ext sh b:=by
 rcases hb with hb| ⟨p,hp,i,hi0,hi⟩
 ·exact .inl hb
 ·rcases hi0 with hi0|hi0
  ·cases hi0
  ·cases i with
   |zero=>omega
   |succ i=>exact .inr ⟨p,hp,i,hi⟩
theorem GH.exb_mono{h:GH}{big big':Bool}{sh sh':List Nat}(hb:big=true→big'=true)(hs: ∀p∈sh,p∈sh'): ∀b,h.exb big sh b→h.exb big' sh' b:=by
 intro b hx;rcases hx with hx| ⟨p,hp,i,hi0,hi⟩
 ·exact .inl hx
 ·refine .inr ⟨p,hs p hp,i,?_,hi⟩;rcases hi0 with h0|h0
  ·exact .inl (hb h0)
  ·exact .inr h0
theorem GH.exb_lt(hok:Ok B G w h){big:Bool}{sh:List Nat}: ∀b,h.exb big sh b→b<w.heap.size:=by
 intro b hb;rcases hb with hb| ⟨p,_,i,_,hi⟩
 ·exact hok.f_lt b hb
 ·exact(hok.b_lt p i b hi).2.1
theorem zk(hr:RelG c B G s a w h g){G':Nat→Prop}(hF: ∀b,h.F b→G' b): ∀ {caps:List Nat} {es:List E} {xs:List V},(∀p∈caps,∀i b,h.bl p i=some b→G' b)→Z09 g caps=some es→Y0 s es=some xs→
  xs.length=caps.length∧ ∀(i p b:Nat) (x:V),caps[i]? =some p→xs[i]? =some x→h.bl p 0=some b→Rd w G' x (.pointer (some ⟨b,0,none⟩))
 | [],es,xs,_,he,hx=>by
   simp only[Z09,Z8l]at he;subst he;simp only[Y0,Z8l]at hx;subst hx;exact⟨rfl,fun i p b x hi=>by simp at hi⟩
 |q::l,es,xs,hG,he,hx=>by
  simp only[Z09,Z8m]at he;obtain⟨cs,hm,he⟩:=he;split at he
  ·cases he
  rename_i hd;simp only[Z8p]at he;obtain⟨es',he',rfl⟩:=he;simp only[Y0,Z8m,Z8p]at hx;obtain⟨z,hz,xs',hxs',rfl⟩:=hx;obtain⟨h1,h2⟩:=zk hr hF (fun p hp=>hG p (by simp[hp])) he' hxs';refine⟨by simp[h1],fun i p b x hi hxi hb=> ?_⟩;cases i with
  |zero=>
   simp at hi hxi;subst hi hxi;obtain⟨b',vs,T,q0,_,q2,q3⟩:=hr.memOf hm;rw[hb]at q0;cases q0;exact SY hb q2 q3 (by simpa using hd) hz hF (hG q (by simp))
  |succ i=>exact h2 i p b x (by simpa using hi) (by simpa using hxi) hb
theorem Z35(hr:RelG c B G s a w h g)(hC:holds s (ixC c C)){x:Operand}{e:E}{sh:List Nat}(he:bigE g (opK g C x) (JY x)=some (e,sh)){z:V}(hz:eval s e=some z):Rd w (h.exb true sh) z (a.eval x):=by
 have hF: ∀b,h.F b→h.exb true sh b:=fun b hb=> .inl hb;have hG: ∀p∈sh,∀i b,h.bl p i=some b→h.exb true sh b:=fun p hp i b hi=> .inr ⟨p,hp,i,.inl rfl,hi⟩;cases x with
 |tmp t=>
  simp only[opK,JY]at he;cases hk:look g C t with
  |mem cs=>
   rw[hk]at he;simp only[bigE]at he;split at he
   ·cases he
   rename_i hd;simp only[Z8l,Z8w]at he;obtain⟨rfl,rfl⟩:=he;obtain⟨v,hv,⟨b,vs,T,q0,rfl,q2,q3⟩,_⟩:=hr.look hC hk rfl;rw[Act.eval_tmp a t _ hv];exact SY q0 q2 q3 (by simpa using hd) hz hF (hG t (by simp))
  |pm p o=>
   rw[hk]at he;cases o with
   |succ o=>simp[bigE]at he
   |zero=>
    simp only[bigE,Z8m]at he;obtain⟨cs,hm,he⟩:=he;split at he
    ·cases he
    rename_i hd;simp only[Z8l,Z8w]at he;obtain⟨rfl,rfl⟩:=he;obtain⟨v,hv,⟨b,q0,rfl⟩,_⟩:=hr.look hC hk rfl;obtain⟨b',vs,T,q1,_,q2,q3⟩:=hr.memOf hm;rw[q0]at q1;cases q1;rw[Act.eval_tmp a t _ hv];exact SY q0 q2 q3 (by simpa using hd) hz hF (hG p (by simp))
  |clo f caps=>
   rw[hk]at he;simp only[bigE,Z8p,Z8w]at he;obtain⟨es,hes,rfl,rfl⟩:=he;obtain⟨v,hv,⟨vs,rfl,q1,q2⟩,_⟩:=hr.look hC hk rfl;rw[Act.eval_tmp a t _ hv];simp only[eval,Z8m]at hz;obtain⟨xs,hxs,hz⟩:=hz;simp only[ptV,Z8l]at hz;subst hz;obtain⟨h1,h2⟩:=zk hr hF hG hes hxs;refine .clo f xs vs (by omega) fun i x hi=> ?_;have hlt:i<caps.length:=by have:=(Z8o.1 hi).1;omega
   obtain⟨b,q3,q4⟩:=q2 i caps[i] (by simp[hlt]);have:vs.getD i undef= .pointer (some ⟨b,0,none⟩):=by simp[Z8q,q4]
   rw[this];exact h2 i _ b x (by simp[hlt]) hi q3
  |big e' sh'=>
   rw[hk]at he;simp only[bigE,Z8l,Z8w]at he;obtain⟨rfl,rfl⟩:=he;obtain⟨v,hv,⟨x,hx,hrd⟩,_⟩:=hr.look hC hk rfl;rw[Act.eval_tmp a t _ hv];rw[hz]at hx;cases hx;exact hrd
  |_=>rw[hk]at he;simp[bigE]at he
 |const v=>
  have: ∀k,bigE g k 0=some (e,sh)→(∃cs,k= .mem cs)∨(∃p o,k= .pm p o)∨(∃f l,k= .clo f l)∨ ∃e l,k= .big e l:=by
   intro k hk;cases k<;>first| (simp[bigE]at hk;done) |exact .inl ⟨_,rfl⟩ |exact .inr (.inl ⟨_,_,rfl⟩) |exact .inr (.inr (.inl ⟨_,_,rfl⟩)) |exact .inr (.inr (.inr ⟨_,_,rfl⟩))
  have h1:=this _ he;unfold opK at h1;exfalso;split at h1
  ·rcases h1 with ⟨_,h1⟩ | ⟨_,_,h1⟩ | ⟨_,_,h1⟩ | ⟨_,_,h1⟩<;>cases h1
  ·split at h1<;>(rcases h1 with ⟨_,h1⟩ | ⟨_,_,h1⟩ | ⟨_,_,h1⟩ | ⟨_,_,h1⟩<;>cases h1)
  ·rename_i h2;cases h2
  ·rename_i h2;cases h2
  ·rcases h1 with ⟨_,h1⟩ | ⟨_,_,h1⟩ | ⟨_,_,h1⟩ | ⟨_,_,h1⟩<;>cases h1
 |func f=>simp[opK,bigE]at he
 |global q=>simp[opK,bigE]at he
theorem Z37(hr:RelG c B G s a w h g)(hC:holds s (ixC c C)){fl:Bool}{x:Operand}{r:E×List Nat×Bool}(he:argE g C fl x=some r){z:V}(hz:eval s r.1=some z):Rd w (h.exb r.2.2 r.2.1) z (a.eval x):=by
 unfold argE at he;split at he
 ·rename_i a0 ha;simp only[Z8l]at he;subst he;obtain⟨y,hy,hyr⟩:=VF hr hC ha;obtain⟨z',hz',hzr⟩:=SW (b:=a0) hy hyr ⟨z,hz⟩;rw[hz]at hz';cases hz';exact hzr.mono fun b hb=>GH.exb_of hb
 ·simp only[Z8p]at he;obtain⟨a1,ha,rfl⟩:=he;exact Z35 hr hC (e:=a1.1) (sh:=a1.2) ha hz
theorem zM(hr:RelG c B G s a w h g)(hC:holds s (ixC c C)): ∀ {l:List Operand} {ts:List TypeId} {es:List E×List Nat×Bool},Z0g c.P g C l ts=some es→ ∀ {xs:List V},Y0 s es.1=some xs→
  xs.length=l.length∧ ∀(i:Nat) (x:Operand),l[i]? =some x→ ∃z,xs[i]? =some z∧Rd w (h.exb es.2.2 es.2.1) z (a.eval x)
 | [],ts,es,he,xs,hx=>by
   simp only[Z0g,Z8l]at he;subst he;simp only[Y0,Z8l]at hx;subst hx;exact⟨rfl,fun i x hi=>by simp at hi⟩
 |x::l,ts,es,he,xs,hx=>by
  simp only[Z0g,Z8m,Z8p]at he;obtain⟨a0,ha,b,hb,rfl⟩:=he;simp only[Y0,Z8m,Z8p]at hx;obtain⟨z,hz1,xs',hx2,rfl⟩:=hx;obtain⟨h1,h2⟩:=zM hr hC hb hx2;have hzr:=Z37 hr hC ha hz1;refine⟨by simp[h1],fun i y hi=> ?_⟩;cases i with
  |zero=>simp at hi;subst hi;exact⟨z,by simp,hzr.mono (GH.exb_mono (fun e=>by simp[e]) fun p hp=>by simp[hp])⟩
  |succ i=>
   obtain⟨z',e1,e2⟩:=h2 i y (by simpa using hi);exact⟨z',by simpa using e1,e2.mono (GH.exb_mono (fun e=>by simp[e]) fun p hp=>by simp[hp])⟩
theorem yM(hr:RelG c B G s a w h g)(hC:holds s (ixC c C)){o:Oper}{fn:FN}{sh:List Nat}{args:List Operand}{ts:List TypeId}(hcall:Z08 g C o=some (fn,sh,args,ts)){n:FuncId×List V}(hf:fnV s fn=some n)(hcb:ZY c.P n.1=true):
  ∃caps:Array Value,(execOp a.eval o).run c.P w= .ok (.enter n.1 ((args.map a.eval).toArray++caps)) w∧caps.size=n.2.length∧ ∀(i:Nat) (x:V),n.2[i]? =some x→Rd w (h.ext sh) x (caps.getD i undef):=by
 have hent: ∀ {f:FuncId} {args:Array Operand} {tys:Array TypeId} {cv:Operand} {caps:Array Value},ZY c.P f=true→o.op= .call {callee:= .value cv,args:=args,argTypes:=tys}→a.eval cv= .func (.func f) #[] caps→
   (execOp a.eval o).run c.P w= .ok (.enter f ((args.toList.map a.eval).toArray++caps)) w:=by
  intro f args tys cv caps hcb hop hev;unfold ZY at hcb;split at hcb
  ·rename_i fn hfn;simp only[Z8u,Z9l,Zal,ne_eq]at hcb;obtain⟨h1,h2⟩:=hcb;obtain⟨code,h3⟩:=Z9E.1 h2;have:(args.toList.map a.eval).toArray=args.map a.eval:=by rw[←Array.toList_map,Array.toArray_toList]
   rw[this];simp[execOp,hop,resolve,hev,Deferred.ofValue,invoke,callFunc,hfn,h1,h3]
  ·cases hcb
 unfold Z08 at hcall;split at hcall
 ·rename_i f' args' tys hop;simp only[Z8l,Z8w]at hcall;obtain⟨rfl,rfl,rfl,rfl⟩:=hcall;simp only[fnV,Z8l]at hf;subst hf;exact⟨#[],hent hcb hop rfl,rfl,fun i x hi=>by simp at hi⟩
 ·rename_i t args' tys hop;split at hcall
  ·rename_i e sh' hk;simp only[Z8l,Z8w]at hcall;obtain⟨rfl,rfl,rfl,rfl⟩:=hcall;obtain⟨v,hv,⟨x,hx,hxr⟩,_⟩:=hr.look hC (show look g C t=_ from hk) rfl;simp only[fnV,hx,Z8y]at hf;unfold cloV at hf;split at hf
   ·simp only[Z8l]at hf;subst hf;cases hxr;exact⟨#[],hent hcb hop (Act.eval_tmp a t _ hv),rfl,fun i x hi=>by simp at hi⟩
   ·simp only[Z8l]at hf;subst hf;cases hxr with
    |clo _ _ vs h1 h2=>exact⟨vs,hent hcb hop (Act.eval_tmp a t _ hv),h1,h2⟩
   ·cases hf
  ·cases hcall
 ·cases hcall
theorem qM(hr:RelG c B G s a w h g)(hC:holds s (ixC c C)){o:Oper}{x y z:Operand}(ho:o.op= .pick x y z){k:TK}{es:List E}(hp:Z0i c g C x y z=some (k,es))(hes: ∀e∈es,∃z,eval s e=some z)(d:Nat):PRun c B G s a w h o d k:=by
 unfold Z0i at hp;split at hp
 ·rename_i t u hk;split at hp
  ·cases hp
  ·rename_i hu;have hu:u=c.ix t:=by simpa using hu
   subst hu;simp only[Z8m,Z8p,Z8w]at hp;obtain⟨ey,hey,ez,hez,rfl,rfl⟩:=hp;obtain⟨v,hv,⟨xb,hxb,hxr⟩,_⟩:=hr.look hC (show look g C t=_ from hk) rfl;obtain⟨q,hq⟩:=hes _ (List.Mem.head _);have hq0:=hq;simp only[eval]at hq hxb;rw[hxb,Z8y]at hq
   have hst:get s (c.ix t)= .v xb:=by
    cases hg:get s (c.ix t)<;>rw[hg]at hxb<;>simp at hxb
    rw[hxb]
   have hex: ∀b,xb= .bool b→(execOp a.eval o).run c.P w= .ok (.value (if b=true then a.eval y else a.eval z)) w:=by
    intro b hb;subst hb;have hvb:v= .bool b:=by cases hxr;rfl
    subst hvb;unfold execOp;simp only[ho,Act.eval_tmp a t _ hv];cases b<;>simp[asBool]
   unfold iteV at hq;split at hq
   ·have hC2:holds s (ixC c (C++ [(t,true)])):=by
     have:ixC c (C++ [(t,true)])=ixC c C++ [(c.ix t,true)]:=by simp[ixC]
     rw[this,V9];refine⟨hC,fun x hx=> ?_⟩;simp at hx;subst hx;exact hst
    obtain⟨r,hr1,hr2⟩:=VF hr hC2 hey;rw[hr1]at hq;cases hq;exact⟨_,w,hex true rfl,PRes.here hr.ok ⟨_,hq0,hr2.mono fun b hb=>GH.ext_left hb⟩⟩
   ·have hC2:holds s (ixC c (C++ [(t,false)])):=by
     have:ixC c (C++ [(t,false)])=ixC c C++ [(c.ix t,false)]:=by simp[ixC]
     rw[this,V9];refine⟨hC,fun x hx=> ?_⟩;simp at hx;subst hx;exact hst
    obtain⟨r,hr1,hr2⟩:=VF hr hC2 hez;rw[hr1]at hq;cases hq;exact⟨_,w,hex false rfl,PRes.here hr.ok ⟨_,hq0,hr2.mono fun b hb=>GH.ext_right hb⟩⟩
   ·cases hq
 ·cases hp
theorem Z1E(hr:RelG c B G s a w h g)(hC:holds s (ixC c C)){o:Oper}{k:TK}{es:List E}(hp:pkOf c g C o=some (k,es))(hes: ∀e∈es,∃z,eval s e=some z)(d:Nat)(hd:o.dst=some d):PRun c B G s a w h o d k:=by
 unfold pkOf at hp;split at hp
 ·rename_i x y z ho;exact qM hr hC ho hp hes d
 ·split at hp
  ·cases hp
  ·exact Z0Q hr hC hp hes d hd
 ·split at hp
  ·cases hp
  ·exact Z0Q hr hC hp hes d hd
 ·exact Z0Q hr hC hp hes d hd
theorem JM(hr:RelG c B G s a w h g){o:Oper}(hc:Qo c ops g o=some C):(holds s (ixC c C)→Region.wanted o (yielded ops a.tmps)=true)∧(¬holds s (ixC c C)→Region.wanted o (yielded ops a.tmps)=false):=by
 unfold Qo at hc;unfold Region.wanted;split at hc
 ·rename_i hg;simp only[Z8l]at hc;subst hc;simp only[hg];exact⟨fun _=>trivial,fun hn=>absurd (Zb s c) hn⟩
 ·rename_i j want hg;simp only[Z8m]at hc;obtain⟨t,ht,hc⟩:=hc;simp only[hg]
  have hy:yielded ops a.tmps j=match a.tmps[t]? with|some (.bool b)=>some b|_=>none:=by
   unfold yielded;rw[show(ops[j]?).bind (·.dst)=some t from by rw[Z8m];exact ht,Z8y];generalize a.tmps[t]? =q;cases q with
   |none=>rfl
   |some v=>cases v<;>rfl
  split at hc
  ·rename_i Ct u hat;split at hc
   ·rename_i hu;subst hu;simp only[Z8l]at hc;subst hc;have e1:ixC c (Ct++ [(t,want)])=ixC c Ct++ [(c.ix t,want)]:=by simp[ixC]
    have e2:holds s (ixC c (Ct++ [(t,want)]))↔holds s (ixC c Ct)∧get s (c.ix t)= .v (.bool want):=by
     rw[e1,V9];simp[holds]
    by_cases hCt:holds s (ixC c Ct)
    ·obtain⟨v,hv,hrel⟩:=hr.at_ t (by rw[hat];exact hCt) (by rw[hat];rfl);rw[hat]at hrel;obtain⟨x,hx,hxr⟩:=hrel
     have hst:get s (c.ix t)= .v x:=by
      simp only[eval]at hx;cases hg:get s (c.ix t)<;>rw[hg]at hx<;>simp at hx
      rw[hx]
     rw[hy,hv];constructor
     ·intro hh;have:=(e2.1 hh).2;rw[hst]at this;simp only[SV.v.injEq]at this;subst this;have hvb:v= .bool want:=by cases hxr;rfl
      subst hvb;simp
     ·intro hh;have hne:x≠ .bool want:=fun e=>hh (e2.2 ⟨hCt,by rw[hst,e]⟩)
      cases hxr<;>first
       |rfl
       | (rename_i b;simp only[Zal,ne_eq,Z8l];exact fun e=>hne (by rw[e]))
    ·have hs:=hr.skip t (by rw[hat];exact hCt)
     have hnone:(match a.tmps[t]? with|some (.bool b)=>some b|_=>none)=(none:Option Bool):=by
      cases hh:a.tmps[t]? with
      |none=>rfl
      |some v=>
       simp only[Z8q,hh,Z91]at hs;subst hs;rfl
     rw[hy,hnone];exact⟨fun hh=>absurd (e2.1 hh).1 hCt,fun _=>rfl⟩
   ·cases hc
  ·cases hc
theorem zB{d:Nat}{k:TK}{v:Value}{efs:List EF}{chks:List (Zg×E)}(hd:d<a.tmps.size)(hs:Step B [d] [d] [] w w' h h')(hok:Ok B G w' h')(hC:holds s (ixC c C))(hk:RelK c.P B s w' h' (fun p=>(a.put (some d) v).tmps[p]?) d v k):
  OPost c B G s a (a.put (some d) v) w w' h h' {d:= [(d,C,k)],ps:= [d],rb:= [d],fz:= [],efs,chks}:=
 ⟨hs,hok,TQ _ _ _,Vj _ _ _,fun t ht=>Z2K v ht,fun t ht=>by
  have:t=d:=by simpa[Zu]using ht
  subst this;simp only[Gam.at,Z9c];exact⟨fun _ _=>⟨v,Xy hd v,hk⟩,fun hn=>absurd hC hn⟩⟩
theorem J6{d:Nat}{k:TK}{efs:List EF}{chks:List (Zg×E)}(hd:d<a.tmps.size)(hok:Ok B G w h)(hC: ¬holds s (ixC c C)):
  OPost c B G s a (a.put (some d) undef) w w h h {d:= [(d,C,k)],ps:= [d],rb:= [d],fz:= [],efs,chks}:=
 ⟨Step.refl _ _ _ _,hok,TQ _ _ _,Vj _ _ _,fun t ht=>Z2K _ ht,fun t ht=>by
  have:t=d:=by simpa[Zu]using ht
  subst this;simp only[Gam.at,Z9c];refine⟨fun hh=>absurd hh hC,fun _=> ?_⟩;simp only[Z8q,Xy hd,Z91]⟩
theorem RelK.other{d t:Nat}{v u:Value}{k:TK}(hk:RelK c.P B s w h (fun p=>a.tmps[p]?) t v k)(ht:Xf d k=false):RelK c.P B s w h (fun p=>(a.put (some d) u).tmps[p]?) t v k:=by
 cases k with
 |ref p=>
  have:p≠d:=fun e=>by subst e;simp[Xf]at ht
  show(a.put (some d) u).tmps[p]? =some v;rw[Su this];exact hk
 |_=>exact hk
theorem QK: ∀ {R:List Nat} {g:Gam} {t:Nat},(only g R).at t=if t∈R then g.at t else([],.no)
 | [],g,t=>rfl
 |u::R,g,t=>by
  simp only[only,Z8Q,Gam.at];by_cases hu:u=t
  ·subst hu;simp
  ·rw[if_neg hu];have:=QK (R:=R) (g:=g) (t:=t);simp only[only]at this;rw[this];simp[Zab hu]
theorem zJ(hr:RelG c B G s a w h g){ks:List OT}{aps:List AP}{as:List (E×Option Nat)}(hp:Xx c g C ks aps=some as)(hX: ∀(i:Nat) (e:E) (p:Nat),as[i]? =some (e,some p)→ ∃X,eval s e=some X){vs:Array Value}
  (hvs: ∀(i:Nat) (e:E) (p:Nat),as[i]? =some (e,some p)→a.tmps[p]? =some (vs.getD i undef)):
  (∀(i:Nat) (e:E) (p:Nat),as[i]? =some (e,some p)→a.tmps[p]? =some (vs.getD i undef)∧((∃l b,ks[i]? =some (.mem l)∧h.bl p 0=some b∧vs.getD i undef= .pointer (some ⟨b,0,none⟩))∨ ∃ty,ks[i]? =some (.own ty))):=by
 obtain⟨h1,h2,h3⟩:=X3 hp;intro i e p hi;have hlt:i<ks.length:=by rw[←h2];exact(Z8o.1 hi).1
 have hk:ks[i]? =some ks[i]:=Z8n hlt;have ha:aps[i]? =some aps[i]:=Z8n (by omega);obtain⟨X,hx⟩:=hX i e p hi;obtain⟨v,q1,_,q2⟩:=TZ (ks:=ks) (as:=as) hr (h3 i _ _ _ hk ha hi) hx hk hi;have hv:=hvs i e p hi;refine⟨hv,?_⟩;rw[q1]at hv;simp only[Z8l]at hv;rw[←hv];rcases q2 with ⟨l,b,e1,e2,e3⟩ | ⟨ty,e1⟩
 ·exact .inl ⟨l,b,by rw[hk,e1],e2,e3⟩
 ·exact .inr ⟨ty,by rw[hk,e1]⟩
theorem Z4R{ks:List OT}{aps:List AP}{as:List (E×Option Nat)}(hp:Xx c g C ks aps=some as): ∀(j:Nat) (k:OT) (y:E×Option Nat),ks[j]? =some k→as[j]? =some y→(y.2=none↔k=OT.fz):=by
 obtain⟨h1,h2,h3⟩:=X3 hp;intro j k y hk hy;have hlt:j<ks.length:=(Z8o.1 hk).1;have hpo:=h3 j k _ y hk (Z8n (by omega:j<aps.length)) hy;unfold V3 at hpo;split at hpo
 ·split at hpo
  ·simp only[Z8m]at hpo;obtain⟨_,_,hpo⟩:=hpo;split at hpo
   ·simp only[Z8l]at hpo;subst hpo;simp
   ·cases hpo
  ·cases hpo
 ·simp only[Z8m]at hpo;obtain⟨_,_,_,_,hpo⟩:=hpo;split at hpo
  ·simp only[Z8l]at hpo;subst hpo;simp
  ·cases hpo
 ·simp only[Z8m]at hpo;obtain⟨_,_,_,_,hpo⟩:=hpo;split at hpo
  ·simp only[Z8l]at hpo;subst hpo;simp
  ·cases hpo
 ·cases hpo
theorem Wn: ∀ {l:List Operand} {ts:List TypeId},(VX l ts).length=l.length∧ ∀(i:Nat) (x:AP),(VX l ts)[i]? =some x→ ∃y t,l[i]? =some y∧x= .op y t
 | [],ts=>by simp[VX]
 |x::l,[]=>by
  obtain⟨h1,h2⟩:=Wn (l:=l) (ts:= []);refine⟨by simp[VX,h1],fun i y hi=> ?_⟩;cases i with
  |zero=>simp[VX]at hi;exact⟨x,0,rfl,hi.symm⟩
  |succ i=>simpa using h2 i y (by simpa[VX]using hi)
 |x::l,t::ts=>by
  obtain⟨h1,h2⟩:=Wn (l:=l) (ts:=ts);refine⟨by simp[VX,h1],fun i y hi=> ?_⟩;cases i with
  |zero=>simp[VX]at hi;exact⟨x,t,rfl,hi.symm⟩
  |succ i=>simpa using h2 i y (by simpa[VX]using hi)
theorem KH(hr:RelG c B G s a w h g)(hC:holds s (ixC c C)){o:Oper}{fn:FN}{ks:List OT}{aps:List AP}(hcall:Ld c g C o=some (fn,ks,aps)){f:FuncId}(hf:fnOf s fn=some f)(hcb:ZY c.P f=true):
  ∃vs:Array Value,(execOp a.eval o).run c.P w= .ok (.enter f vs) w∧vs.size=aps.length∧ ∀(i:Nat) (x:AP),aps[i]? =some x→apV a h x (vs.getD i undef):=by
 have hent: ∀ {args:Array Operand} {tys:Array TypeId} {cv:Operand} {caps:Array Value},o.op= .call {callee:= .value cv,args:=args,argTypes:=tys}→a.eval cv= .func (.func f) #[] caps→
   (execOp a.eval o).run c.P w= .ok (.enter f (args.map a.eval++caps)) w:=by
  intro args tys cv caps hop hev;unfold ZY at hcb;split at hcb
  ·rename_i fn hfn;simp only[Z8u,Z9l,Zal,ne_eq]at hcb;obtain⟨h1,h2⟩:=hcb;obtain⟨code,h3⟩:=Z9E.1 h2;simp[execOp,hop,resolve,hev,Deferred.ofValue,invoke,callFunc,hfn,h1,h3]
  ·cases hcb
 have plain: ∀ {args:Array Operand} {tys:Array TypeId} {i:Nat} {x:AP},(VX args.toList tys.toList)[i]? =some x→apV a h x ((args.map a.eval).getD i undef):=by
  intro args tys i x hi;obtain⟨y,t,hy,rfl⟩:=(Wn (l:=args.toList) (ts:=tys.toList)).2 i x hi;rw[Z9p]at hy;have hlt:i<args.size:=(Z8Z.1 hy).1;show(args.map a.eval).getD i undef=a.eval y;simp[Z8q,hy]
 unfold Ld at hcall;split at hcall
 ·rename_i f' args tys hop;simp only[Z8p,Z8w]at hcall;obtain⟨ks',_,rfl,rfl,rfl⟩:=hcall;simp only[fnOf,Z8l]at hf;subst hf;refine⟨args.map a.eval++ #[],hent hop rfl,by simp[(Wn (l:=args.toList) (ts:=tys.toList)).1],fun i x hi=> ?_⟩;rw[Array.append_empty];exact plain hi
 ·rename_i t args tys hop;split at hcall
  ·rename_i f' caps hk;simp only[Z8p,Z8w]at hcall;obtain⟨ks',_,rfl,rfl,rfl⟩:=hcall;simp only[fnOf,Z8l]at hf;subst hf;obtain⟨v,hv,⟨vs,rfl,h2,h3⟩,_⟩:=hr.look hC (show look g C t=_ from hk) rfl;have hal:=(Wn (l:=args.toList) (ts:=tys.toList)).1;simp only[Zaj]at hal;refine⟨args.map a.eval++vs,hent hop (Act.eval_tmp a t _ hv),by simp[hal,h2],fun i x hi=> ?_⟩;by_cases hlt:i<args.size
   ·rw[Z8G (by omega)]at hi;have:=plain hi;rw[Z8q]at this⊢;rw[Zao (by simpa using hlt)];exact this
   ·rw[Z8F (by omega),Z8D,Z8p]at hi;obtain⟨p,hp,rfl⟩:=hi;rw[hal]at hp;obtain⟨b,q1,q2⟩:=h3 _ p hp;refine⟨b,q1,?_⟩;rw[Z8q,Zbs (by simp;omega)];simp[q2]
  ·rename_i e sh hk;simp only[Z8p,Z8w]at hcall;obtain⟨ks',_,rfl,rfl,rfl⟩:=hcall;obtain⟨v,hv,⟨x,hx,hxr⟩,_⟩:=hr.look hC (show look g C t=_ from hk) rfl;simp only[fnOf,hx]at hf;split at hf
   ·rename_i f' hx';simp only[Z8l]at hx' hf;subst hx' hf;have hvf:v= .func (.func f') #[] #[]:=by cases hxr;rfl
    subst hvf;refine⟨args.map a.eval++ #[],hent hop (Act.eval_tmp a t _ hv),by simp[(Wn (l:=args.toList) (ts:=tys.toList)).1],fun i x hi=> ?_⟩;rw[Array.append_empty];exact plain hi
   ·cases hf
  ·cases hcall
 ·cases hcall
theorem SF: ∀ {ks:List OT} {as:List (E×Option Nat)} {os:List V},as.length=ks.length→oldV s ks (as.map (·.1))=some os→ ∃ys,ys.length=ks.length∧Xc ks ys=os∧ ∀(i:Nat) (k:OT) (y:E×Option Nat) (x:V),ks[i]? =some k→k≠ .fz→as[i]? =some y→ys[i]? =some x→eval s y.1=some x
 | [],[],os,_,ho=>by
   simp only[Z9I,oldV,Z8l]at ho;subst ho;exact⟨[],rfl,rfl,fun i k y x hk=>by simp at hk⟩
 | [],_::_,os,hl,_=>by simp at hl
 |_::_,[],os,hl,_=>by simp at hl
 |k::ks,(e,o)::as,os,hl,ho=>by
  by_cases hk:k= .fz
  ·subst hk;simp only[Z8Q,oldV]at ho;obtain⟨ys,h1,h2,h3⟩:=SF (ks:=ks) (as:=as) (by simpa using hl) ho;refine⟨.bool false::ys,by simp[h1],by simpa only[Xc]using h2,fun i k y x q1 q2 q3 q4=> ?_⟩;cases i with
   |zero=>simp at q1;exact absurd q1.symm q2
   |succ i=>exact h3 i k y x (by simpa using q1) q2 (by simpa using q3) (by simpa using q4)
  ·have e1:oldV s (k::ks) (e::as.map (·.1))=(eval s e).bind fun x=>(oldV s ks (as.map (·.1))).map (x:: ·):=by cases k<;>first|exact absurd rfl hk|simp only[oldV]
   rw[Z8Q,e1]at ho;simp only[Z8m,Z8p]at ho;obtain⟨x,hx,os',hos,rfl⟩:=ho;obtain⟨ys,h1,h2,h3⟩:=SF (ks:=ks) (as:=as) (by simpa using hl) hos;have e2:Xc (k::ks) (x::ys)=x::Xc ks ys:=by cases k<;>first|exact absurd rfl hk|simp only[Xc]
   refine⟨x::ys,by simp[h1],by rw[e2,h2],fun i k y z q1 q2 q3 q4=> ?_⟩;cases i with
   |zero=>simp at q3 q4;subst q3 q4;exact hx
   |succ i=>exact h3 i k y z (by simpa using q1) q2 (by simpa using q3) (by simpa using q4)
def okOS(P:Program)(s:St)(os:OS):Prop:=(∀ef∈os.efs,EFok P s ef)∧ ∀x∈os.chks,holds s x.1→ ∃z,eval s x.2=some z
theorem yI{lets R:List Nat}{all:Gam}{o:Oper}{os:OS}{i:Nat}(hi:ops[i]? =some o)(hR:R=Sd ops all o)(hr:RelG c B G s a w h (only all R))(hst:R0 c lets ops all o=some os)(hok:okOS c.P s os)(hn:c.n≤a.tmps.size)
  {Q:Exit→Act→World→Prop} {K:Act→World→Prop} (hK: ∀a' w' h',OPost c B G s a a' w w' h h' os→(∃u,a'=a.put o.dst u)→K a' w'):wpOp c.P ops Q i K a w:=by
 subst hR;unfold wpOp;simp only[hi];unfold R0 at hst;simp only at hst;split at hst
 ·cases hst
 ·rename_i hdn
  have hdst: ∀d,o.dst=some d→d<a.tmps.size:=by
   intro d hd;rcases Nat.lt_or_ge d c.n with hlt|hge
   ·exact Z8z hlt hn
   ·simp[Z2G,hd,Nat.not_lt.2 hge]at hdn
  simp only[Z8m]at hst;obtain⟨C,hC,hst⟩:=hst;obtain⟨hw1,hw2⟩:=JM (ops:=ops) hr hC;split at hst
  ·
   rename_i fn ks aps d hcall hd;unfold SB at hst;split at hst
   ·cases hst
   ·simp only[Z8m]at hst;obtain⟨as,has,hst⟩:=hst;split at hst
    ·cases hst
    ·rename_i hnd;simp only[Z8J,Z9l,not_or,ZaQ,Z9z,Z8L]at hnd;obtain⟨hn,hdp⟩:=hnd;have hn:=RU.1 hn;simp only[Z8l]at hst;subst hst;have hef:=hok.1 _ (List.Mem.head _);obtain⟨hl1,hl2,hget⟩:=X3 has;have hz:=Z4R has;rw[hd];by_cases hh:holds s (ixC c C)
     ·rw[if_pos (hw1 hh)];left;obtain⟨xs,f,R,hxs,hf,⟨hcb,hvc⟩,hR⟩:=hef.1 hh;obtain⟨vs,hent,hvl,hvs⟩:=KH hr hh hcall hf hcb;have hrel:=Z2g hr hh has hxs hvl hvs;obtain⟨_,hxat⟩:=Yj hxs
      have hX: ∀(i:Nat) (e:E) (p:Nat),as[i]? =some (e,some p)→ ∃X,eval s e=some X:=fun i e p hi=>by
       obtain⟨X,_,hX⟩:=hxat i e (by rw[Z8D,hi];rfl);exact⟨X,hX⟩
      have hslot:=zJ hr has hX (vs:=vs) fun i e p hi=>by
       have hlt:i<ks.length:=by rw[←hl2];exact(Z8o.1 hi).1
       have hk:ks[i]? =some ks[i]:=Z8n hlt;have ha:aps[i]? =some aps[i]:=Z8n (by omega);obtain⟨X,hx⟩:=hX i e p hi;exact(zu (ks:=ks) (as:=as) hr hh (hget i _ _ _ hk ha hi) hx (hvs i _ ha) hk hi).2 p rfl
      unfold Oper.wp;rw[hent,Oper.upon_enter];refine Zap (hvc B w (XI _ h w ks as) vs (JS hr.ok hn) hrel) fun e w' he=> ?_;obtain⟨v,r,ys,hx,rfl,hbel,hsame,hokx,hK',hrd,hB,hpack⟩:=he;simp only;rw[hd];refine hK _ _ _ (RS hr has hn (hdst d hd) hdp hslot hz hokx hK' hbel hsame hB (r0:=r) (fun hne=> ?_) (fun _=> ?_) fun hh'=>absurd hh hh') ⟨_,by rw[hd]⟩
      ·rw[hR,hpack];cases hos:Xc ks ys with
       |nil=>exact absurd hos hne
       |cons x l=>rfl
      ·have hFx: ∀b,hx.F b→(XM h hx as).F b:=fun b hb=> .inr hb;cases hos:Xc ks ys with
       |nil=>
        have hps:(as.filterMap (·.2)).isEmpty=true:=by
         cases hpe:as.filterMap (·.2)with
         |nil=>rfl
         |cons p l=>
          exfalso;have hpm:p∈Zu (Xj (c.ix d) 1 ks as):=by rw[R6 hl2,hpe];simp
          obtain⟨_,_,_,_,_,_,_,_,_,q5⟩:=TO (i0:=c.ix d) (q:=1) (ys:=ys) hl2 hB.1 hz p hpm;rw[hos]at q5;simp at q5
        rw[if_pos hps];refine⟨r,?_,hrd.mono fun b hb=>GH.ext_F (hFx b hb)⟩;simp only[eval,hR,hpack,hos,qL]
       |cons x l=>
        have hps: ¬(as.filterMap (·.2)).isEmpty=true:=by
         intro he;have hnil:=ZaW.1 he
         have: ∀ {ks:List OT} {as:List (E×Option Nat)} {ys:List V},as.length=ks.length→(∀(j:Nat) (k:OT) (y:E×Option Nat),ks[j]? =some k→as[j]? =some y→(y.2=none↔k=OT.fz))→as.filterMap (·.2)= []→Xc ks ys= []:=by
          intro ks
          induction ks with
          |nil=>intro as ys _ _ _;simp[Xc]
          |cons k ks ih=>
           intro as ys h1 h2 h3;cases as with
           |nil=>simp at h1
           |cons y as=>
            have hy:y.2=none:=by
             cases hy:y.2 with
             |none=>rfl
             |some p=>simp[Z9R,hy]at h3
            have hk:=(h2 0 k y rfl rfl).1 hy;subst hk;cases ys with
            |nil=>simp[Xc]
            |cons z ys=>
             simp only[Xc];exact ih (by simpa using h1) (fun j k y q1 q2=>h2 (j+1) k y (by simpa using q1) (by simpa using q2)) (by simpa[Z9R,hy]using h3)
         have:=this (ys:=ys) hl2 hz hnil;rw[hos]at this;cases this
        rw[if_neg hps];refine⟨r,?_,hrd.mono fun b hb=>GH.ext_F (hFx b hb)⟩;simp only[eval,hR,hpack,hos,qL,Z8y,extV,Z9V]
     ·rw[if_neg (by rw[hw2 hh];simp)];obtain⟨os,hos,hgo⟩:=hef.2 hh;obtain⟨ys,hy1,hy2,hy3⟩:=SF hl2 hos
      let vs:Array Value:=(as.map fun y=>match y.2 with|some p=>a.tmps.getD p undef|none=>undef).toArray
      have hX: ∀(i:Nat) (e:E) (p:Nat),as[i]? =some (e,some p)→ ∃X,ys[i]? =some X∧eval s e=some X:=fun i e p hi=>by
       have hlt:i<ks.length:=by rw[←hl2];exact(Z8o.1 hi).1
       have hk:ks[i]? =some ks[i]:=Z8n hlt;have hyi:ys[i]? =some ys[i]:=Z8n (by omega);have hkz:ks[i]≠ .fz:=fun e'=>by have:=(hz i _ _ hk hi).2 e';cases this
       exact⟨_,hyi,hy3 i _ _ _ hk hkz hi hyi⟩
      have hval: ∀(i:Nat) (e:E) (p:Nat),as[i]? =some (e,some p)→a.tmps[p]? =some (vs.getD i undef):=fun i e p hi=>by
       have hlt:i<ks.length:=by rw[←hl2];exact(Z8o.1 hi).1
       have hk:ks[i]? =some ks[i]:=Z8n hlt;have ha:aps[i]? =some aps[i]:=Z8n (by omega);obtain⟨X,_,hx⟩:=hX i e p hi;obtain⟨v,q1,_⟩:=TZ (ks:=ks) (as:=as) hr (hget i _ _ _ hk ha hi) hx hk hi;have:vs.getD i undef=v:=by simp[vs,Z8q,hi,q1]
       rw[this];exact q1
      have hslot:=zJ hr has (fun i e p hi=>by obtain⟨X,_,hX⟩:=hX i e p hi;exact⟨X,hX⟩) hval;refine hK _ _ _ (RS hr has hn (hdst d hd) hdp hslot hz (JS hr.ok hn) rfl (.refl _ _) (.refl _ _) (ys:=ys) ⟨hy1,fun i k y hk hkz hy=> ?_⟩ (r0:= .bool false) (fun hne=>by rw[hy2];exact hgo (by rw[←hy2];exact hne)) (fun hh'=>absurd hh' hh) fun _=>rfl) ⟨_,by rw[hd]⟩;have hlt:i<ks.length:=(Z8o.1 hk).1;have ha:aps[i]? =some aps[i]:=Z8n (by omega);have hs:as[i]? =some as[i]:=Z8n (by omega);generalize as[i]=y0 at hs;obtain⟨e,o⟩:=y0;cases o with
      |none=>exact absurd ((hz i k _ hk hs).1 rfl) hkz
      |some p=>
       obtain⟨X,hX1,hX2⟩:=hX i e p hs;rw[hy]at hX1;cases hX1;obtain⟨v,q1,q2,_⟩:=TZ (ks:=ks) (as:=as) hr (hget i _ _ _ hk ha hs) hX2 hk hs;have:=hval i e p hs;rw[q1]at this;simp only[Z8l]at this;rw[←this];exact q2
  ·cases hst
  split at hst
  ·
   rename_i f shf args ts d hcall hd;unfold J1 at hst;split at hst
   ·cases hst
   ·simp only[Z8p]at hst;obtain⟨as,has,rfl⟩:=hst;by_cases hh:holds s (ixC c C)
    ·rw[if_pos (hw1 hh)];left;obtain⟨xs,n,r,hxs,hfn,hvc,hfl,hget⟩:=hok.1 _ (List.Mem.head _) hh;obtain⟨hl,hx⟩:=zM hr hh has hxs;obtain⟨hcb,hvc⟩:=hvc;obtain⟨caps,henter,hcsz,hcrd⟩:=yM hr hh hcall hfn hcb
     ·unfold Oper.wp;rw[henter,Oper.upon_enter];refine Zap (hvc w (h.exb as.2.2 (as.2.1++shf)) ((args.map a.eval).toArray++caps) (GH.exb_lt hr.ok) (by simp[hl,hcsz]) fun j x hj=> ?_) fun e w' he=> ?_
      ·by_cases hlt:j<args.length
       ·rw[Z8G (by omega)]at hj;obtain⟨z,hz,hzr⟩:=hx j args[j] (by simp[hlt]);rw[hj]at hz;cases hz
        have:((args.map a.eval).toArray++caps).getD j undef=a.eval args[j]:=by
         rw[Z8q,Zao (by simpa using hlt)];simp[hlt]
        rw[this];exact hzr.mono (GH.exb_mono (fun e=>e) fun p hp=>by simp[hp])
       ·rw[Z8F (by omega)]at hj;have:=hcrd _ x hj
        have e:((args.map a.eval).toArray++caps).getD j undef=caps.getD (j-xs.length) undef:=by
         rw[Z8q,Z8q,Zbs (by simp;omega)];simp[hl]
        rw[e];exact this.mono fun b hb=>GH.exb_mono (fun e=>by cases e) (fun p hp=>by simp[hp]) b (GH.exb_of (big:=false) hb)
      ·obtain⟨v,rfl,hbel,hrd⟩:=he;simp only;have hsz:=hbel.size
       let h':GH:= {F:=fun b=>h.F b∨(w.heap.size≤b∧b<w'.heap.size),bl:=h.bl,K:=h.K}
       have hok':Ok B G w' h':=by
        refine⟨Z8Y hr.ok.base hsz,fun b hb=> ?_,fun b hb=> ?_,fun b hb=> .inl (hr.ok.g_F b hb),fun t j b hb=> ?_,hr.ok.inj,fun b hb=>Z8z (hr.ok.k_lt b hb) hsz,hr.ok.k_bl,fun b hb=> ?_⟩
        ·rcases hb with hb|hb
         ·exact Z8z (hr.ok.f_lt b hb) hsz
         ·exact hb.2
        ·rcases hb with hb|hb
         ·exact hr.ok.f_or b hb
         ·exact .inr (Z8Y hr.ok.base hb.1)
        ·obtain⟨h1,h2,h3⟩:=hr.ok.b_lt t j b hb;refine⟨h1,Z8z h2 hsz,fun hF=> ?_⟩;rcases hF with hF|hF
         ·exact h3 hF
         ·omega
        ·rcases hb with hb|hb
         ·exact hr.ok.k_F b hb
         ·exact .inr fun hkb=>by have:=hr.ok.k_lt b hkb;omega
       have hstep:Step B [d] [d] [] w w' h h':=⟨hbel.mono hr.ok.base,fun b hb _=>hbel.block b hb,fun b hb=> .inl hb,fun _ _ _=>rfl,fun _ _=>rfl,fun _ _ _ _ hm=>(by simp at hm),rfl⟩;rw[hd]
       have hexb: ∀b,h.exb as.2.2 (as.2.1++shf) b→h'.exb as.2.2 (as.2.1++shf) b:=fun b hb=>by
        rcases hb with hb|hb
        ·exact .inl (.inl hb)
        ·exact .inr hb
       refine hK _ _ h' (zB (hdst d hd) hstep hok' hh ?_) ⟨_,by rw[hd]⟩;split
       ·
        rename_i hbig;simp only[Z8u]at hbig;refine⟨r,by simp only[eval,hget],hrd.mono fun b hb=> ?_⟩;rcases hb with ⟨_,hb⟩ |hb
        ·rw[hbig.1]at hexb hb;exact hexb b hb
        ·exact .inl (.inr hb)
       ·rename_i hbig;refine⟨r,by simp only[eval,hget],?_⟩;split
        ·rename_i hor;simp only[Z8J]at hor;rcases hor with hflat|hfresh
         ·have hfr:=hfl hflat;unfold flV at hfr;split at hfr
          ·cases hfr
          ·rename_i hnt;split at hfr
           ·rename_i hall;exact hrd.flatAll (fun y hy=>Z8A.1 hall y hy) fun l hl=>hnt l hl
           ·cases hfr
         ·refine hrd.mono fun b hb=> ?_;rcases hb with ⟨hb,_⟩ |hb
          ·rw[hfresh]at hb;cases hb
          ·exact .inl (.inr hb)
        ·rename_i hnor;refine hrd.mono fun b hb=> ?_;rcases hb with ⟨_,hb⟩ |hb
         ·have hbf:as.2.2=false:=by
           cases hb2:as.2.2
           ·rfl
           ·exfalso;apply hbig;rw[hb2]at hnor⊢;simp only[Zaz];cases hz:((!(as.2.1++shf).isEmpty||true)&& !RP c f&&Xh c.P o.type||RP c f)
            ·rfl
            ·exact(hnor hz).elim
          have:=hexb b hb;rw[hbf]at this;exact GH.exb_ext this
         ·exact .inl (.inr hb)
    ·rw[if_neg (by rw[hw2 hh];simp)];rw[hd];exact hK _ _ h (J6 (hdst d hd) hr.ok hh) ⟨_,by rw[hd]⟩
  ·cases hst
  ·split at hst
   ·
    rename_i k es d hpk hd
    have hres: ∃k' efs chks,os= {d:= [(d,C,k')],ps:= [d],rb:= [d],fz:= [],efs,chks}∧(holds s (ixC c C)→(∀e∈es,∃z,eval s e=some z)∧ ∀ {v w' h'},RelK c.P B s w' h' (fun p=>a.tmps[p]?) d v k→RelK c.P B s w' h' (fun p=>(a.put (some d) v).tmps[p]?) d v k'):=by
     unfold jr at hst;split at hst
     ·split at hst
      ·rename_i e;split at hst
       ·cases hst
       ·simp only[Z8l]at hst;subst hst;refine⟨_,_,_,rfl,fun hh=>⟨fun e he=>hok.2 (ixC c C,e) (Z8S.2 ⟨e,he,rfl⟩) hh,fun hk=> ?_⟩⟩;obtain⟨x,hx,hget⟩:=hok.1 _ (List.Mem.head _) hh;obtain⟨y,hy,hyr⟩:=hk;rw[hx]at hy;cases hy;exact⟨x,by simp only[eval,hget],hyr⟩
      ·cases hst
     ·split at hst
      ·cases hst
      ·rename_i ht;simp only[Z8J,not_or,ZaE]at ht;simp only[Z8l]at hst;subst hst;refine⟨_,_,_,rfl,fun hh=>⟨fun e he=>hok.2 (ixC c C,e) (Z8S.2 ⟨e,he,rfl⟩) hh,fun hk=>hk.other ht.1⟩⟩
    obtain⟨k',efs,chks,rfl,hrel⟩:=hres;by_cases hh:holds s (ixC c C)
    ·rw[if_pos (hw1 hh)];left;obtain⟨hes,hrel⟩:=hrel hh;obtain⟨v,w',hrun,h',hs',hok',hk'⟩:=Z1E hr hh hpk hes d hd;unfold Oper.wp;rw[hrun,Oper.upon_value,hd];exact hK _ _ h' (zB (hdst d hd) hs' hok' hh (hrel hk')) ⟨_,by rw[hd]⟩
    ·rw[if_neg (by rw[hw2 hh];simp),hd];exact hK _ _ h (J6 (hdst d hd) hr.ok hh) ⟨_,by rw[hd]⟩
   ·
    split at hst
    ·cases hst
    ·rename_i hguard;have hgn:o.guard=none:=by cases hg:o.guard<;>simp_all
     have hCn:C= []:=by
      unfold Qo at hC;rw[hgn]at hC;simpa using hC.symm
     subst hCn;rw[if_pos (hw1 (Zb s c))];left;simp only[Z8m]at hst;obtain⟨m,hm,hst⟩:=hst;split at hst
     ·rename_i hsub;simp only[Z8u,Z8A,Z9z,Z8L]at hsub;obtain⟨⟨hps,hrb⟩,hdin⟩:=hsub;simp only[Z8l]at hst;subst hst;obtain⟨n,u,w',h',hrun,hn',hpost⟩:=Z5g hr hdst hm fun e he=>hok.2 ([],e) (Z8S.2 ⟨e,he,rfl⟩) (Ws s)
      have htm: ∀t,t∉m.ps→(a.put o.dst u).tmps[t]? =a.tmps[t]? :=by
       intro t ht;cases hd:o.dst with
       |none=>rfl
       |some d=>
        refine Su (fun e=>ht ?_) u;rw[e];simpa[Z5E,hd]using hdin
      have hfin:OPost c B G s a (a.put o.dst u) w w' h h' (Z3p (only all (Sd ops all o)) all m):=by
       refine⟨hpost.step,hpost.ok,TQ _ _ _,Vj _ _ _,htm,fun t ht=> ?_⟩;simp only[Z3p,Zu,Z9Q,Z90]at ht⊢;rw[ZR,ZR];simp only[Zu,Z9Q,Z90];by_cases h1:t∈Zu m.d
       ·have h1':t∈List.map (·.1) m.d:=h1;simp only[h1',true_or,Z9c];obtain⟨e1,e2⟩:=hpost.ent t h1;exact⟨fun _ hno=>e2 hno,fun hn=>absurd (by rw[e1];exact Zb s c) hn⟩
       ·have h1':t∉List.map (·.1) m.d:=h1;by_cases h2:t∈Zu (XK m.ps m.rb m.fz all)
        ·have h2':t∈List.map (·.1) (XK m.ps m.rb m.fz all):=h2;simp only[h1',h2',Zbz,Z9c,Z9f,TR h2];exact⟨fun _ hno=>by simp[TK.isNo]at hno,fun hn=>absurd (Zb s c) hn⟩
        ·have h2':t∉List.map (·.1) (XK m.ps m.rb m.fz all):=h2
         have h3:t∈m.fz:=by
          rcases ht with (ht|ht) |ht
          ·exact absurd ht h1'
          ·exact absurd ht h2'
          ·have:=WE (fz:=m.fz) (g:=only all (Sd ops all o));unfold Zu at this;rw[this]at ht;exact ht
         have htp:t∉m.ps:=fun hp=>h1 (hps t hp)
         have hcalm:calm m.ps m.rb m.fz ((only all (Sd ops all o)).at t).2=true:=by
          rw[QK];split
          ·exact RC h2
          ·exact Lu _ _ _
         simp only[h1',h2',Zbz,Z9f,Vn h3];refine⟨fun hCt hno=> ?_,fun hn=> ?_⟩
         ·have hno':((only all (Sd ops all o)).at t).2.isNo=false:=by
           cases hk:((only all (Sd ops all o)).at t).2<;>first|rfl| (rw[hk]at hno;simp[VM,TK.isNo]at hno)
          obtain⟨v,hv,hk⟩:=hr.at_ t hCt hno';exact⟨v,by rw[htm t htp];exact hv,hk.freeze hpost.step hr.ok hrb htp h3 hcalm htm⟩
         ·have:=hr.skip t hn;simp only[Z8q,htm t htp]at this⊢;exact this
      unfold Oper.wp;rw[hrun];rcases hn' with rfl| ⟨rfl,rfl⟩
      ·rw[Oper.upon_value];exact hK _ _ h' hfin ⟨_,rfl⟩
      ·rw[Oper.upon_skip];exact hK _ _ h' hfin ⟨_,rfl⟩
     ·cases hst
end
end Vm
end
