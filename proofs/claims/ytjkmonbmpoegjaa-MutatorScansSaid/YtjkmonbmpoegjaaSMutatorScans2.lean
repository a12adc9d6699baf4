import Derived.Laws.StructEq
import Derived.Test.YtjkmonbmpoegjaaSMutatorScans1
set_option linter.unusedSimpArgs false
set_option linter.unusedVariables false
set_option linter.defProp false
def ZbG:=@_root_.Nat.div_lt_iff_lt_mul
def ZbT:=@_root_.Nat.mod_lt
def ZbH:=@_root_.Nat.mul_comm
def ZaG:=@_root_.List.isEmpty_iff
def Z8H:=@_root_.Array.getElem?_eq_some_iff
def Z9l:=@_root_.List.map_nil
def Zaf:=@_root_.congrArg
def Zb9:=@_root_.List.getElem?_range
def Zbr:=@_root_.Nat.mul_le_mul
def Z98:=@_root_.List.drop_eq_getElem_cons
def Z8r:=@_root_.Bool.or_eq_true
def ZaK:=@_root_.List.eq_of_mem_replicate
def ZbI:=@_root_.List.length_replicate
def Zbs:=@_root_.List.exists_mem_of_ne_nil
def Z8b:=@_root_.Go.RowKit.Below.heap_alloc
def Z8K:=@_root_.List.append_assoc
def Z9j:=@_root_.Go.World.ownsRow_nil
def ZbV:=@_root_.Go.growslice_fits
def Za0:=@_root_.Go.Result.andThen_ok
def Z9g:=@_root_.Array.toList_inj
def Zba:=@_root_.Go.MapKept.sameNow_of_keys
def Zbf:=@_root_.List.getD_eq_getElem?_getD
def Zbj:=@_root_.Go.MapKept.run_checkKey
def Zbb:=@_root_.Go.MapKept.run_findKey
def Z9K:=@_root_.Go.MapKept.run_getObj_map
def Z8V:=@_root_.List.mem_cons_of_mem
def Z9Q:=@_root_.List.mem_filterMap
def Zbk:=@_root_.false_or
def Z9R:=@_root_.Ne.symm
def ZaH:=@_root_.List.not_mem_nil
def Zc2:=@_root_.or_false
def Zb5:=@_root_.bne_iff_ne
def Z9Z:=@_root_.Go.setRow_other
def ZbZ:=@_root_.Go.setRow_heap
def Z9m:=@_root_.List.length_singleton
def Z9p:=@_root_.List.mem_or_eq_of_mem_set
def Z9y:=@_root_.List.length_set
def Z9w:=@_root_.List.getElem?_set_self
def Z8Y:=@_root_.List.getElem?_set_ne
def ZaB:=@_root_.Bool.not_eq_false
def Za3:=@_root_.beq_eq_false_iff_ne
def ZaR:=@_root_.Go.MapKept.run_setObj_map
def Z8z:=@_root_.Array.getElem?_modify
def ZbE:=@_root_.Option.map_eq_none_iff
def Z9z:=@_root_.List.filterMap_cons
def Zad:=@_root_.List.getElem?_zip_eq_some
def ZbU:=@_root_.and_true
def Z9T:=@_root_.List.getElem?_zipIdx
def Za7:=@_root_.Array.getElem?_append_left
def Zbc:=@_root_.Array.getElem?_append_right
def Za8:=@_root_.Go.Calls.mono
def Z9C:=@_root_.List.getElem?_cons_zero
def Zaj:=@_root_.Bool.true_and
section
namespace Vm
open Go
open Go.RowKit (Below)
theorem UK{k:Nat}{l:List V}(hfit: ∀x∈l,x.fits k)(hk:0<k){i:Nat}{c:V}(hi:(flat l)[i]? =some c): ∃q j z,l[q]? =some z∧j<k∧i=q*k+j∧z.cells[j]? =some c:=by
 have hlt:i<l.length*k:=by rw[←Yb hfit];exact(Z86.1 hi).1
 have hq:i / k<l.length:=by rw[ZbG hk];exact hlt
 have hj:=ZbT i hk;have hdm:=Nat.div_add_mod i k;refine⟨i / k,i%k,l[i / k],Z85 hq,hj,by rw[ZbH];omega,?_⟩;rw[←WA hfit (Z85 hq) (i%k) hj,show i / k*k+i%k=i from by rw[ZbH];omega];exact hi
section
variable {c:Ctx} {B:Nat} {G:Nat→Prop} {s:St} {a:Act} {w w':World} {h:GH} {g:Gam} {C:Ze}
theorem Xx{P:Program}{el:TypeId}(he:elOk P el=true): ∃i z,P.info? el=some i∧i.zero=some z∧z.cells.size=i.size∧0<i.size∧i.bytes≤32768∧P.cellsOf el=i.size:=by
 unfold elOk at he;split at he
 ·rename_i i hi;split at he
  ·rename_i z hz;simp only[Z8c,Z8P,Z8s]at he;exact⟨i,z,hi,hz,he.1.1,he.1.2,he.2,by simp[Program.cellsOf,hi]⟩
  ·simp at he
 ·simp at he
theorem V5{B B':Nat}{e:TypeId}{k n:Nat}{v:Value}{xs:List Value}(hr:w.ownsRow B' e k v n xs)(hb:B≤B'):w.ownsRow B e k v n xs:=by
 refine⟨hr.1,?_⟩;rcases hr.2 with hn| ⟨g,cap,cur,rfl,h1,r⟩
 ·exact .inl hn
 ·exact .inr ⟨g,cap,cur,rfl,Z8G hb h1,r⟩
theorem KU(hok:Ok B G w h)(hg:w.grownBy w' none){el:TypeId}{e:E}{sh:List Nat}{l:List V}{v:Value}{xs:List Value}(he:eval s e=some (.sl l))(hk:0<c.P.cellsOf el)(hfit: ∀x∈l,x.fits (c.P.cellsOf el))
  (hown:w'.ownsRow w.heap.size el (c.P.cellsOf el) v l.length xs) (hrd: ∀(i:Nat) (ck:V),(flat l)[i]? =some ck→ ∃u,xs[i]? =some u∧Rd w (h.ext sh) ck u)
  {dst:Option Nat} {k:TK} {es:List E} (ho:R7 c dst el e sh=some (k,es)) (tm:Nat→Option Value) (d:Nat) (hd:dst=some d):PRes c B G s w h tm d k v w':=by
 subst hd;unfold R7 at ho;have hown':=V5 hown hok.base;have hext:=Z5f hok sh;simp only at ho;split at ho
 ·rename_i hcond;simp only[Z8c,ZaG]at hcond;obtain⟨_,rfl⟩:=hcond;simp only[Z83,Z8d]at ho;obtain⟨rfl,rfl⟩:=ho
  have hrd': ∀ {h':GH},(∀b,h.F b→h'.F b)→ ∀(i:Nat) (ck:V),(flat l)[i]? =some ck→ ∃u,xs[i]? =some u∧Rd w' h'.F ck u:=by
   intro h' hF i ck hi;obtain⟨u,hu,hr⟩:=hrd i ck hi;exact⟨u,hu,hr.F.keep (T3 hok hg hok.f_lt) hF⟩
  cases hv:v.ownBlock with
  |none=>
   refine⟨{F:=h.F,bl:=fun t j=>if t=d then none else h.bl t j,K:=h.K},⟨YU hok hg,fun b hb _=>hg.block b hb (by simp),fun _ hb=>hb,fun t ht _=> ?_,fun t ht=> ?_,fun _ _ _ _ hm=>(by simp at hm),rfl⟩,
    ⟨Z8G hok.base hg.size,fun b hb=>Z8h (hok.f_lt b hb) hg.size,hok.f_or,hok.g_F,fun t j b hb=> ?_,fun t j u q b hb hb'=> ?_,fun b hb=>Z8h (hok.k_lt b hb) hg.size,fun t j b hb=> ?_,hok.k_F⟩,.sl l,he,.inl ⟨l,xs,rfl,hk,hfit,hown',by rw[hv];simp,hrd' fun _ hb=>hb⟩⟩
   ·have:t≠d:=by simpa using ht
    funext j;simp[this]
   ·have:t≠d:=by simpa using ht
    simp[this]
   ·simp only at hb;split at hb
    ·cases hb
    ·obtain⟨h1,h2,h3⟩:=hok.b_lt t j b hb;exact⟨h1,Z8h h2 hg.size,h3⟩
   ·simp only at hb hb';split at hb<;>split at hb'<;>first| (cases hb;done) | (cases hb';done) |exact hok.inj t j u q b hb hb'
   ·simp only at hb;split at hb
    ·cases hb
    ·exact hok.k_bl t j b hb
  |some n=>
   obtain⟨h1,h2⟩:=hown.lt n hv;obtain⟨hok',hst⟩:=U7 hok hg d 1 h1 h2;exact⟨_,hst,hok',.sl l,he,.inl ⟨l,xs,rfl,hk,hfit,hown',by rw[hv];simp[GH.give],hrd' fun _ hb=>hb⟩⟩
 ·simp only[Z83,Z8d]at ho;obtain⟨rfl,rfl⟩:=ho;rcases hown.2 with ⟨rfl,hn⟩ | ⟨n,cap,cur,rfl,h1,hh,hle,hcap,hsz,htk⟩
  ·have hl:l= []:=Z8Q hn;subst hl
   refine⟨h,⟨YU hok hg,fun b hb _=>hg.block b hb (by simp),fun _ hb=>hb,fun _ _ _=>rfl,fun _ _=>rfl,fun _ _ _ _ hm=>(by simp at hm),rfl⟩,
    ⟨Z8G hok.base hg.size,fun b hb=>Z8h (hok.f_lt b hb) hg.size,hok.f_or,hok.g_F,fun t j b hb=> ?_,hok.inj,fun b hb=>Z8h (hok.k_lt b hb) hg.size,hok.k_bl,hok.k_F⟩,.sl [],he,.nil _ _ (Z95 _)⟩
   obtain⟨h1,h2,h3⟩:=hok.b_lt t j b hb;exact⟨h1,Z8h h2 hg.size,h3⟩
  ·have h2:n<w'.heap.size:=(Z8H.1 hh).1;obtain⟨hok',hst⟩:=qV hok hg [d] [d] h1 h2;refine⟨_,hst,hok',.sl l,he,.sl l n 0 cap (c.P.cellsOf el) (fun i=>cur.getD i undef) hle hcap (.inl (.inr rfl)) hfit (fun i hi=> ?_) fun i ck hi=> ?_⟩
   ·rw[Z8N,Z8a w' n i cur el (0,0) hh];have:i<cur.size:=by rw[hsz];exact Z8h hi (Z8L _ hle)
    simp[Z88,this]
   ·obtain⟨u,hu,hr⟩:=hrd i ck hi
    have hu':cur.getD i undef=u:=by
     rw[←htk,Z8E]at hu;split at hu
     ·simp only[Z88];have:cur[i]? =some u:=by simpa using hu
      rw[this];rfl
     ·simp at hu
    rw[hu'];refine hr.keep (T3 hok hg hext) fun b hb=> ?_;rcases hb with hb| ⟨p,hp,i,hi⟩
    ·exact .inl (.inl hb)
    ·exact .inr ⟨p,hp,i,hi⟩
theorem jL(hr:RelG c B G s a w h g)(hC:holds s (ixC c C)){fl ag:Bool}{n:Nat}(hn:n≠0): ∀ {l:List Operand} {es:List E×List Nat},opsF g C fl l=some es→ ∀ {zs:List V},Y1 s (es.1.map (tyE ag n))=some zs→
  zs.length=l.length∧ ∀(i:Nat) (x:Operand),l[i]? =some x→ ∃z,zs[i]? =some z∧(∀l,z≠ .tup l)∧(ag=true→z.cells.length=n)∧(ag=false→z.one=true)∧Rd w (h.ext es.2) z (a.eval x)
 | [],es,he,zs,hz=>by
   simp only[opsF,Z83]at he;subst he;simp only[Z9l,Y1,Z83]at hz;subst hz;exact⟨rfl,fun i x hi=>by simp at hi⟩
 |x::l,es,he,zs,hz=>by
  simp only[opsF,Z84,Z87]at he;obtain⟨a0,ha,b,hb,rfl⟩:=he;simp only[Z8x,Y1,Z84,Z87]at hz;obtain⟨z,hz1,zs',hz2,rfl⟩:=hz;obtain⟨h1,h2⟩:=jL hr hC hn hb hz2;obtain⟨k1,k2,k3,k4⟩:=UJ hr hC ha hn hz1;refine⟨by simp[h1],fun i y hi=> ?_⟩;cases i with
  |zero=>
   simp at hi;subst hi;exact⟨z,by simp,k1,k2,k3,k4.mono fun b hb=>GH.ext_left hb⟩
  |succ i=>
   obtain⟨z',e1,e2,e3,e4,e5⟩:=h2 i y (by simpa using hi);exact⟨z',by simpa using e1,e2,e3,e4,e5.mono fun b hb=>GH.ext_right hb⟩
theorem TA(hr:RelG c B G s a w h g)(hC:holds s (ixC c C)){T:TypeId}{n:Nat}{parts:Array (Nat×Operand)}{dst:Option Nat}{k:TK}{es:List E}(hp:WY c g C dst T n parts.toList=some (k,es))(hes: ∀e∈es,∃z,eval s e=some z)(tm:Nat→Option Value)(d:Nat)(hd:dst=some d):
  ∃v w',(Instr.buildSlice T n (parts.map fun(i,x)=>(i,a.eval x))).run c.P w= .ok v w'∧PRes c B G s w h tm d k v w':=by
 unfold WY at hp;split at hp
 ·rename_i el hT;have hT':=qb hT;simp only[Z84]at hp;obtain⟨ops,hops,hp⟩:=hp;split at hp
  ·rename_i hcond;obtain⟨hidx,hn,hcl,hel,hag⟩:=hcond;obtain⟨i,z,hi,hz0,hzs,h0,hby,hcs⟩:=Xx hel
   have he: ∃zz,eval s (.lit (ops.1.map (tyE (Zn c.P el) (c.P.cellsOf el))))=some zz:=by
    unfold R7 at hp;subst hd;simp only at hp;split at hp<;>(simp only[Z83,Z8d]at hp;obtain⟨_,rfl⟩:=hp;exact hes _ (List.Mem.head _))
   obtain⟨zz,hzz⟩:=he;have hzz0:=hzz;simp only[eval,Z87]at hzz;obtain⟨zs,hzs',rfl⟩:=hzz;obtain⟨hl,hx⟩:=jL hr hC (by omega) hops hzs'
   have hlen:parts.toList.length=n:=by
    have:=Zaf List.length hidx;simpa using this
   have hln:zs.length=n:=by rw[hl,Z8y,hlen]
   have hpi: ∀(q:Nat) (p:Nat×Operand),parts.toList[q]? =some p→p.1=q:=by
    intro q p hq;have h1:(parts.toList.map (·.1))[q]? =some p.1:=by rw[Z8l,hq];rfl
    rw[hidx,Zb9]at h1
    ·simpa using h1.symm
    ·have:=(Z86.1 hq).1;omega
   have hfit1: ∀z,(∀l,z≠V.tup l)→(Zn c.P el=true→z.cells.length=c.P.cellsOf el)→(Zn c.P el=false→z.one=true)→z.cells.length=c.P.cellsOf el:=by
    intro z h1 h2 h3;rcases hag with hag|hag
    ·exact h2 hag
    ·cases hh:Zn c.P el with
     |true=>exact h2 hh
     |false=>rw[Ys (h3 hh),hag];rfl
   have hpart: ∀(q:Nat) (p:Nat×Operand),parts.toList[q]? =some p→ ∃z,zs[q]? =some z∧z.fits (c.P.cellsOf el)∧(a.eval p.2).cells.size=c.P.cellsOf el∧ ∀(j:Nat) (ck:V),z.cells[j]? =some ck→Rd w (h.ext ops.2) ck ((a.eval p.2).cells.getD j undef):=by
    intro q p hq;obtain⟨z,e1,e2,e3,e4,e5⟩:=hx q p.2 (by rw[Z8l,hq];rfl);obtain⟨s1,s2,s3⟩:=e5.cells e2;have hc:=hfit1 z e2 e3 e4;exact⟨z,e1,⟨hc,s2⟩,by rw[s1,hc],s3⟩
   have hfit: ∀x∈zs,x.fits (c.P.cellsOf el):=by
    intro x hxm;obtain⟨q,hq⟩:=Z8v hxm;have hlt:q<parts.toList.length:=by have:=(Z86.1 hq).1;omega
    obtain⟨z,e1,e2,_⟩:=hpart q _ (Z85 hlt);rw[hq]at e1;cases e1;exact e2
   have hbase:((Array.range (n*i.size)).map (fun x=>z.cells[x%z.cells.size]!)).size=n*i.size:=by simp
   obtain⟨R,hR,hRs,_,hRin⟩:=R3 (fun q=>some (q*i.size,i.size)) (parts.toList.map fun p=>(p.1,a.eval p.2)) ((Array.range (n*i.size)).map (fun x=>z.cells[x%z.cells.size]!)) (by
    intro p hp;obtain⟨p',hp',rfl⟩:=Z8A.1 hp;obtain⟨q,hq⟩:=Z8v hp';obtain⟨_,_,_,e3,_⟩:=hpart q p' hq;have hqi:=hpi q p' hq;have hlt:q<n:=by have:=(Z86.1 hq).1;omega
    refine⟨p'.1*i.size,by simp only;rw[e3,hcs],?_⟩;simp only;rw[e3,hcs,hqi,hbase,←Z9q];exact Z8L _ hlt)
   rw[hbase]at hRs
   have hpow: ¬(n*i.size>2 ^ 24):=by
    have:n*i.size≤256*256:=Zbr (by omega) (by omega);omega
   have hnk:n*i.size=0∨n*i.size≠0:=by omega
   have hrun:(Instr.buildSlice T n (parts.map fun(i,x)=>(i,a.eval x))).run c.P w= .ok (.slice (some ⟨w.heap.size,0,none⟩) n n) (w.alloc (.cells R el)):=by
    have hpow': ¬(16777216<n*i.size):=by omega
    rcases hnk with hnk|hnk
    ·have hn0:n=0:=by
      rcases Nat.mul_eq_zero.1 hnk with hh|hh
      ·exact hh
      ·omega
     subst hn0
     have hpe:parts= #[]:=by
      have:parts.size=0:=by simpa using hlen
      exact Z92 this
     subst hpe
     have hRe:R= #[]:=by
      have:R.size=0:=by simpa using hRs
      exact Z92 this
     subst hRe;simp[Instr.buildSlice,Z8F hT',Yr hi,Instr.fill,newRow,Array.range_zero']
    ·simp[Instr.buildSlice,Z8F hT',Yr hi,hpow',hnk,Xk hi hz0,hR,newRow]
   refine⟨_,_,hrun,?_⟩;have hg:=Z9n w (.cells R el) none;have hown:=World.ownsRow_lit (base:=w.heap.size) (e:=el) (size:=c.P.cellsOf el) w R n (Z8e _) (by simp only[maxLen];omega) (by rw[hRs,hcs]);rw[←hln]at hown⊢;refine KU hr.ok hg hzz0 (by omega) hfit hown (fun j ck hj=> ?_) hp tm d hd;obtain⟨q,r,y,hq,hrk,rfl,hyc⟩:=UK hfit (by omega) hj;have hlt:q<parts.toList.length:=by have:=(Z86.1 hq).1;omega
   obtain⟨y',e1,e2,e3,e4⟩:=hpart q _ (Z85 hlt);rw[hq]at e1;cases e1;have hqi:=hpi q _ (Z85 hlt);obtain⟨pre,suf,hps⟩: ∃pre suf,parts.toList=pre++parts.toList[q]::suf:=List.append_of_mem (Z8u hlt);have hsz3:(a.eval parts.toList[q].2).cells.size=i.size:=by rw[e3,hcs]
   have hin:=hRin ((parts.toList.take q).map fun p=>(p.1,a.eval p.2)) (parts.toList[q].1,a.eval parts.toList[q].2) ((parts.toList.drop (q+1)).map fun p=>(p.1,a.eval p.2)) (by
    rw[←Z8x (f:=fun(p:Nat×Operand)=>(p.1,a.eval p.2)),←Z9x];congr 1;rw[←Z98 hlt,Za9]) (q*i.size) (by simp only;rw[hqi,hsz3]) (by
    intro p hp o n' ho;obtain⟨p',hp',rfl⟩:=Z8A.1 hp;obtain⟨m,hm⟩:=Z8v hp';rw[Z8w]at hm;have:=hpi _ _ hm;simp only[Z83,Z8d]at ho;obtain⟨rfl,rfl⟩:=ho;left;simp only;rw[hsz3,this,←Z9q];exact Z8L _ (by omega)) r (by simp only;rw[hsz3];omega)
   refine⟨(a.eval parts.toList[q].2).cells.getD r undef,?_,e4 r ck hyc⟩;rw[Z97,hcs,hin];have hlt2:r< (a.eval parts.toList[q].2).cells.size:=by omega
   simp only[Z88];rw[Z8O hlt2];rfl
  ·simp at hp
 ·simp at hp
theorem Tx(z:Array Value)(n:Nat)(h0:0<z.size)(j:Nat)(hj:j<n):(madeCells z n).toList[j]? =z[j%z.size]? :=by
 have:j%z.size<z.size:=ZbT _ h0;simp[madeCells,hj,this]
theorem yF(hr:RelG c B G s a w h g){n m:Operand}(hs:Z0d n m=true){k:IntKind}{q:Int}(hn:a.eval n= .int k q): ∃k',a.eval m= .int k' q:=by
 unfold Z0d at hs;split at hs
 ·simp only[Z8P]at hs;subst hs;exact⟨k,hn⟩
 ·rename_i k1 x k2 y;simp only[Z8P]at hs;subst hs;simp only[Act.eval,Value.int.injEq]at hn;exact⟨k2,by simp[Act.eval,hn.2]⟩
 ·cases hs
theorem yS(hr:RelG c B G s a w h g)(hC:holds s (ixC c C)){T:TypeId}{n m:Operand}{dst:Option Nat}{k:TK}{es:List E}(hp:jK c g C dst T n m=some (k,es))(hes: ∀e∈es,∃z,eval s e=some z)(tm:Nat→Option Value)(d:Nat)(hd:dst=some d):
  ∃v w',(Instr.makeSlice T (a.eval n) (a.eval m)).run c.P w= .ok v w'∧PRes c B G s w h tm d k v w':=by
 unfold jK at hp;split at hp
 ·rename_i el hT;have hT':=qb hT;simp only[Z84]at hp;obtain⟨zs,hz,⟨e,sh⟩,he,hp⟩:=hp;split at hp
  ·rename_i hcond;simp only[Z8c,Z8r,Z8P]at hcond;obtain⟨⟨hso,hel⟩,hag⟩:=hcond;obtain⟨i,z,hi,hz0,hzs,h0,hby,hcs⟩:=Xx hel;obtain⟨i',z',hi',hz0',hzs',hcells⟩:=XY hz;rw[hi]at hi';cases hi';rw[hz0]at hz0';cases hz0'
   have hev: ∃zz,eval s (.mk (if Zn c.P el then .agg zs else zs.headD (.agg [])) e)=some zz:=by
    unfold R7 at hp;subst hd;simp only at hp;split at hp<;>(simp only[Z83,Z8d]at hp;obtain⟨_,rfl⟩:=hp;exact hes _ (List.Mem.head _))
   obtain⟨zz,hzz⟩:=hev;have hzz0:=hzz;obtain⟨y,hy,hyr⟩:=YT hr hC he;simp only[eval,hy,Z8g]at hzz;generalize hzv:(if Zn c.P el then V.agg zs else zs.headD (.agg []))=zv at*;unfold mkV at hzz;split at hzz
   ·rename_i ki q;split at hzz
    ·rename_i hq;obtain⟨hq0,hq1⟩:=hq;obtain⟨q,rfl⟩:=Z8p hq0;simp only[Z83,Z8j]at hzz;subst hzz;have hlim:q≤4294967296:=by simp only[lim]at hq1;omega
     have hn:=hyr.int_eq;obtain⟨k',hm⟩:=yF hr hso hn;rw[hn,hm]
     have hb:i.bytes*q≤281474976710656:=by
      have:i.bytes*q≤32768*4294967296:=Zbr hby hlim;omega
     obtain⟨w',hrun,hown,hg⟩:=run_make_full (P:=c.P) w w.heap.size T el i z i.size hT' hi hz0 rfl ki k' q hb (by simp only[maxLen];omega) (Z8e _);refine⟨_,_,hrun,?_⟩
     have hzc:zv.cells=zs:=by
      rw[←hzv];rcases hag with hag|hag
      ·rw[if_pos hag];rfl
      ·split
       ·rfl
       ·have h1:zs.length=1:=hag
        match zs,h1,hcells,hzs' with
        | [x],_,hcells,hzs'=>
          simp only[List.headD_cons];obtain⟨x',hx',hc⟩:=hcells 0 (z.cells[0]'(by rw[hzs'];simp)) (Z8O _);simp at hx';subst hx';exact Ys (Sx hc)
     have hcell: ∀(j:Nat) (ck:V),zs[j]? =some ck→ ∃u,z.cells[j]? =some u∧Vz u=some ck:=by
      intro j ck hj;have hlt:j<z.cells.size:=by rw[hzs'];exact(Z86.1 hj).1
      obtain⟨x',hx',hc⟩:=hcells j _ (Z8O hlt);rw[hj]at hx';cases hx';exact⟨_,Z8O hlt,hc⟩
     have hzfit:zv.fits (c.P.cellsOf el):=by
      refine⟨by rw[hzc,←hzs',hzs,hcs],fun ck hck=> ?_⟩;rw[hzc]at hck;obtain⟨j,hj⟩:=Z8v hck;obtain⟨u,_,hc⟩:=hcell j ck hj;exact Sx hc
     have hfit: ∀x∈List.replicate q zv,x.fits (c.P.cellsOf el):=fun x hx=>by rw[ZaK hx];exact hzfit
     rw[←hcs]at hown;have hown2:w'.ownsRow w.heap.size el (c.P.cellsOf el) (.slice (some ⟨w.heap.size,0,none⟩) q q) (List.replicate q zv).length (madeCells z.cells (q*c.P.cellsOf el)).toList:=by rw[ZbI];exact hown
     refine KU hr.ok hg hzz0 (by omega) hfit hown2 (fun j ck hj=> ?_) hp tm d hd;obtain⟨p,r,y',hp',hrk,rfl,hyc⟩:=UK hfit (by omega) hj;have hpq:p<q:=by simpa using(Z86.1 hp').1
     have hy':y'=zv:=ZaK (Z8f hp');subst hy';rw[hzc]at hyc;obtain⟨u,hu,hc⟩:=hcell r ck hyc;refine⟨u,?_,TP hc _ _⟩;have hle:p*c.P.cellsOf el+c.P.cellsOf el≤q*c.P.cellsOf el:=by rw[←Z9q];exact Z8L _ hpq
     rw[Tx _ _ (by omega) _ (by omega),hzs,←hcs,ZbH p,Nat.mul_add_mod,Nat.mod_eq_of_lt hrk];exact hu
    ·simp at hzz
   ·simp at hzz
  ·simp at hp
 ·simp at hp
end
end Vm
namespace Vm
open Go
open Go.RowKit (Below)
open Go.MapKept (IsKey bytes_beq sameNow_of_keys run_checkKey run_findKey run_keyThatStays)
section
variable {c:Ctx} {B:Nat} {G:Nat→Prop} {s:St} {a:Act} {w w':World} {h:GH} {g:Gam} {C:Ze}
theorem ST{P:Program}{t ty e:TypeId}{i:TypeInfo}(ht:P.underlying t=some (.slice e))(hi:P.info? e=some i){size:Nat}{v:Value}{n:Nat}{xs:List Value}(hown:w.ownsRow B e size v n xs)(cp:Nat):
  (Builtin.append_ #[t,t] ty #[v,.slice none 0 cp]).run P w= .ok v w:=by
 rcases hown.2 with ⟨rfl,rfl⟩ | ⟨g,cap,cur,rfl,_,_,hnc,_⟩
 ·simp[Builtin.append_,Z8F ht,Go.sizeOf,typeInfo,hi,Builtin.lenOf,Builtin.firstCells]
 ·simp[Builtin.append_,Z8F ht,Go.sizeOf,typeInfo,hi,Builtin.lenOf,Builtin.firstCells,hnc,storeCells]
theorem XJ{P:Program}{t ty e:TypeId}(ht:P.underlying t=some (.slice e))(hel:elOk P e=true){v:Value}{n:Nat}{xs:List Value}(hown:w.ownsRow B e (P.cellsOf e) v n xs)(hB:B≤w.heap.size)
  {Gy:Nat→Prop} {l:List V} {y:Value} (hy:Rd w Gy (.sl l) y) (hk:Y7 (P.cellsOf e) l=true) (hlim:n+l.length≤lim):
  ∃v' w' news,(Builtin.append_ #[t,t] ty #[v,y]).run P w= .ok v' w'∧w'.ownsRow B e (P.cellsOf e) v' (n+l.length) (xs++news)∧w.grownBy w' v.ownBlock∧
   (v'.ownBlock=v.ownBlock∨(w.grownBy w' none∧w'.ownsRow w.heap.size e (P.cellsOf e) v' (n+l.length) (xs++news)))∧
   (∀x∈l,x.fits (P.cellsOf e))∧ ∀(i:Nat) (ck:V),(flat l)[i]? =some ck→ ∃u,news[i]? =some u∧Rd w Gy ck u:=by
 obtain⟨i,z,hi,hz,hzs,h0,hby,hcs⟩:=Xx hel;have hsl:=R0 hk
 have hnew:(∃cp,y= .slice none 0 cp∧l= [])∨ ∃ad cp,∃news:List Value,y= .slice (some ad) l.length cp∧news.length=l.length*P.cellsOf e∧(∀j u,news[j]? =some u→w.cell? (ad.add j)=some u)∧(∀u∈news,u.oneCell'=true)∧
   (∀x∈l,x.fits (P.cellsOf e))∧ ∀(i:Nat) (ck:V),(flat l)[i]? =some ck→ ∃u,news[i]? =some u∧Rd w Gy ck u:=by
  cases hy with
  |nil ad cp hc=>
   cases ad with
   |none=>exact .inl ⟨cp,rfl,rfl⟩
   |some ad=>exact .inr ⟨ad,cp,[],rfl,by simp,fun j u hj=>by simp at hj,fun u hu=>by simp at hu,fun x hx=>by simp at hx,fun i ck hi=>by simp[flat]at hi⟩
  |sl _ b o cap kk vs h1 h2 h3 h4 h5 h6=>
   refine .inr ⟨⟨b,o,none⟩,cap,(List.range (l.length*P.cellsOf e)).map vs,rfl,by simp,?_⟩;by_cases hl:l= []
   ·subst hl;exact⟨fun j u hj=>by simp at hj,fun u hu=>by simp at hu,fun x hx=>by simp at hx,fun i ck hi=>by simp[flat]at hi⟩
   ·obtain⟨x,hx⟩:=Zbs l hl;have hkk:kk=P.cellsOf e:=by rw[←(h4 x hx).1,hsl x hx]
    subst hkk;have hlenf:=Yb h4;refine⟨fun j u hj=> ?_,fun u hu=> ?_,h4,fun i ck hi=> ?_⟩
    ·have hlt:j<l.length*P.cellsOf e:=by simpa using(Z86.1 hj).1
     have:vs j=u:=by simpa[hlt]using hj
     rw[Z9H,←this];exact h5 j hlt
    ·obtain⟨j,hj,rfl⟩:=Z8A.1 hu;have hlt:=Z9B.1 hj;have hf:(flat l)[j]? =some ((flat l)[j]'(by omega)):=Z85 _;have hr:=h6 j _ hf;rw[hr.one_eq];obtain⟨x,hx,hcx⟩:=QK hf;exact(h4 x hx).2 _ hcx
    ·have hlt:i<l.length*P.cellsOf e:=by rw[←hlenf];exact(Z86.1 hi).1
     exact⟨vs i,by simp[hlt],h6 i ck hi⟩
 rcases hnew with ⟨cp,rfl,rfl⟩ | ⟨ad,cp,news,rfl,hl,hnews,h1,hfit,hrd⟩
 ·refine⟨v,w,[],ST ht hi hown cp,by simpa using hown,⟨rfl,rfl,rfl,Z8e _,fun _ _ _=>rfl⟩,.inl rfl,fun x hx=>by simp at hx,fun i ck hi=>by simp[flat]at hi⟩
 ·simp only[lim]at hlim;have h63:n+l.length≤maxLen:=by simp only[maxLen];omega
  have hbytes:(n+l.length)*i.bytes≤140737488355328:=by
   have:(n+l.length)*i.bytes≤4294967296*32768:=Zbr hlim hby;omega
  have hlen:(xs++news).length=(n+l.length)*P.cellsOf e:=by rw[Z8D,hown.1,hl,Nat.add_mul]
  have grown: ∀(old:Nat),old<n+l.length→ ∀(row:Option Nat) (cs:Array Value),cs=xs.toArray++news.toArray→
    (w.drew.alloc (.cells (cs++Builtin.zeroCells z.cells (grownCap w (n+l.length) old e- (n+l.length))) e)).ownsRow w.heap.size e (P.cellsOf e)
     (.slice (some ⟨w.heap.size,0,none⟩) (n+l.length) (grownCap w (n+l.length) old e)) (n+l.length) (xs++news)∧
    w.grownBy (w.drew.alloc (.cells (cs++Builtin.zeroCells z.cells (grownCap w (n+l.length) old e- (n+l.length))) e)) row:=by
   rintro old ho row cs rfl;have hge:=grownCap_ge w (n+l.length) old e;have hcm:grownCap w (n+l.length) old e≤maxLen:=grownCap_le_maxLen w (n+l.length) old e h63;refine⟨⟨hlen,.inr ⟨w.heap.size,_,_,rfl,Z8e _,Z8n w.drew _,hge,hcm,?_,?_⟩⟩,⟨rfl,rfl,rfl,by simp,fun k hk _=>Z8b w.drew _ k hk⟩⟩
   ·simp only[Array.size_append,Z9i,size_zeroCells,hzs,hown.1,hl,hcs,←Nat.add_mul];congr 1;omega
   ·simp only[Array.toList_append,Z8K];rw[←Z8K,←hlen];exact ZaD
  rcases hown.2 with ⟨rfl,rfl⟩ | ⟨g,cap,cur,rfl,hbg,hg,hnc,hcm,hcsz,htake⟩
  ·have hx:xs= []:=Z8Q (by simpa using hown.1);subst hx;by_cases hm:l.length=0
   ·have hn:news= []:=Z8Q (by rw[hl,hm,Nat.zero_mul]);subst hn;refine⟨.slice none 0 0,w,[],?_,by rw[hm];exact Z9j w B e _,⟨rfl,rfl,rfl,Z8e _,fun _ _ _=>rfl⟩,.inl rfl,hfit,hrd⟩;simp[Builtin.append_,Z8F ht,Go.sizeOf,typeInfo,hi,Builtin.lenOf,hm,Builtin.firstCells,loadCells,loadCellsFrom]
   ·have hr:=run_append_nil (P:=P) w t ty e i z ht hi hz ad l.length cp news (by rw[hl,hcs]) hnews (by omega) (by omega) (by simp only[Z8N]at hbytes;omega);have hgr:=grown 0 (by omega);simp only[Z8N,Z8T]at hgr⊢;obtain⟨g1,g2⟩:=hgr none news.toArray (by simp);exact⟨_,_,news,hr,V5 g1 hB,(hgr _ news.toArray (by simp)).2,.inr ⟨g2,g1⟩,hfit,hrd⟩
  ·by_cases hroom:n+l.length≤cap
   ·obtain⟨w',hr,ho,hgr⟩:=run_append_fits (P:=P) w B t ty e i (P.cellsOf e) ht hi hcs.symm g n cap xs hown ad l.length cp news hl hnews h1 hroom;exact⟨_,_,news,hr,ho,hgr,.inl rfl,hfit,hrd⟩
   ·have holds: ∀j u,xs[j]? =some u→w.cell? ((⟨g,0,none⟩:Addr).add j)=some u:=hown.cells (g:=g) rfl;have hr:=run_append_grow (P:=P) w t ty e i z ht hi hz ⟨g,0,none⟩ n cap xs (by rw[hown.1,hcs]) holds ad l.length cp news (by rw[hl,hcs]) hnews (by omega) (by omega) (ZbV (by omega) hbytes);have hgr:=grown cap (by omega);obtain⟨g1,g2⟩:=hgr none _ rfl;exact⟨_,_,news,hr,V5 g1 hB,(hgr _ _ rfl).2,.inr ⟨g2,g1⟩,hfit,hrd⟩
theorem Wf{k:Nat}{x y z:V}(hz:appV k x y=some z): ∃l r,x= .sl l∧y= .sl r∧l.length+r.length≤lim∧Y7 k r=true∧z= .sl (l++r):=by
 unfold appV at hz;split at hz
 ·split at hz
  ·rename_i hc;simp only[Z83]at hz;exact⟨_,_,rfl,rfl,hc.1,hc.2,hz.symm⟩
  ·simp at hz
 ·simp at hz
theorem Z0l{x z:V}(hz:flsV x=some z):x=z∧ ∃l,z= .sl l∧ ∀y∈Vm.flat l,y.flatc=true:=by
 unfold flsV at hz;split at hz
 ·rename_i l;split at hz
  ·rename_i hall;simp only[Z83]at hz;exact⟨hz,l,hz.symm,fun y hy=>Z8i.1 hall y hy⟩
  ·simp at hz
 ·simp at hz
theorem zk(hr:RelG c B G s a w h g)(hC:holds s (ixC c C)){x:Operand}{b0:E×List Nat}(hx:opE g C x=some b0){fl:Bool}{z:V}(hz:eval s (Tn fl b0).1=some z):
  ∃G',Rd w G' z (a.eval x)∧ ∀l,z= .sl l→ ∀(i:Nat) (ck:V) (u:Value),(flat l)[i]? =some ck→Rd w G' ck u→Rd w (h.ext (Tn fl b0).2) ck u:=by
 obtain⟨y,hy,hyr⟩:=YT hr hC (show opE g C x=some (b0.1,b0.2)from hx);unfold Tn at hz⊢;split
 ·rename_i hb;rw[if_pos hb,hy]at hz;cases hz;exact⟨_,hyr,fun l hl i ck u _ hu=>hu⟩
 ·rename_i hb;rw[if_neg hb]at hz;split
  ·rename_i hfl;rw[if_pos hfl]at hz;simp only[eval,hy,Z8g]at hz;obtain⟨rfl,l,rfl,hall⟩:=Z0l hz;refine⟨_,hyr,fun l' hl' i ck u hi hu=> ?_⟩;cases hl';exact hu.flat (hall ck (Z8f hi))
  ·rename_i hfl;rw[if_neg hfl,hy]at hz;cases hz;exact⟨_,hyr,fun l hl i ck u _ hu=>hu⟩
theorem Z2W{dst:Option Nat}{d:Nat}(hd:dst=some d){el:TypeId}{e:E}{sh:List Nat}{k:TK}{es:List E}(ho:R7 c dst el e sh=some (k,es))(hes: ∀e∈es,∃z,eval s e=some z): ∃z,eval s e=some z:=by
 unfold R7 at ho;subst hd;simp only at ho;split at ho<;>(simp only[Z83,Z8d]at ho;obtain⟨_,rfl⟩:=ho;exact hes _ (List.Mem.head _))
theorem JI(hr:RelG c B G s a w h g)(hC:holds s (ixC c C)){T U ty:TypeId}{x y:Operand}{dst:Option Nat}{k:TK}{es:List E}(hp:Qf c g C dst T U x y=some (k,es))(hes: ∀e∈es,∃z,eval s e=some z)(tm:Nat→Option Value)(d:Nat)(hd:dst=some d):
  ∃v w',(Builtin.append_ #[T,U] ty #[a.eval x,a.eval y]).run c.P w= .ok v w'∧PRes c B G s w h tm d k v w':=by
 unfold Qf at hp;split at hp
 ·rename_i el hT;have hT':=qb hT;split at hp
  ·rename_i hcond;obtain⟨rfl,hel⟩:=hcond;split at hp
   ·rename_i hk;simp only[Z84]at hp;obtain⟨b0,hb,hp⟩:=hp;rw[UN hr hC hk]
    have hp':R7 c dst el (.app (.c (.sl [])) (Tn (Xc c.P el) b0).1 (c.P.cellsOf el)) (Tn (Xc c.P el) b0).2=some (k,es):=by
     subst hd;simp only at hp;split at hp
     ·simp at hp
     ·exact hp
    obtain⟨z,hz⟩:=Z2W hd hp' hes;have hz0:=hz;simp only[eval,Z8g,Z84]at hz;obtain⟨yy,hyy,hz⟩:=hz;obtain⟨l0,r,hl0,rfl,hlim,hsz,rfl⟩:=Wf hz;cases hl0;obtain⟨G',hrd,hback⟩:=zk hr hC hb hyy;obtain⟨i,zz,hi,hz1,hzs,h0,hby,hcs⟩:=Xx hel;obtain⟨v',w',news,hrun,hown,hg,hor,hfit,hnews⟩:=XJ (ty:=ty) hT' hel (Z9j w w.heap.size el (c.P.cellsOf el)) (Z8e _) hrd hsz (by simpa using hlim);refine⟨v',w',hrun,?_⟩;simp only[Z8N,Z8T]at hown
    exact KU hr.ok hg (by simpa using hz0) (by omega) hfit hown (fun i ck hi=>by
     obtain⟨u,hu,hru⟩:=hnews i ck hi;exact⟨u,hu,hback _ rfl i ck u hi hru⟩) hp' tm d hd
   ·simp at hp
  ·simp at hp
 ·simp at hp
theorem Vx(hr:RelG c B G s a w h g)(hC:holds s (ixC c C)){x:Operand}{b:E×List Nat}(he:opE g C x=some b): ∃y,eval s b.1=some y∧Rd w (h.ext b.2) y (a.eval x):=YT hr hC (show opE g C x=some (b.1,b.2)from he)
def PRun(c:Ctx)(B:Nat)(G:Nat→Prop)(s:St)(a:Act)(w:World)(h:GH)(o:Oper)(d:Nat)(k:TK):Prop:=
 ∃v w',(execOp a.eval o).run c.P w= .ok (.value v) w'∧PRes c B G s w h (fun p=>a.tmps[p]?) d k v w'
theorem PRun.of{o:Oper}{d:Nat}{k:TK}{m:Sem Value}(he:execOp a.eval o=(do pure (.value (←m))))(hm: ∃v w',m.run c.P w= .ok v w'∧PRes c B G s w h (fun p=>a.tmps[p]?) d k v w'):PRun c B G s a w h o d k:=by
 obtain⟨v,w',hrun,hres⟩:=hm;exact⟨v,w',by rw[he];simp[hrun],hres⟩
theorem Has.pr(hok:Ok B G w h){o:Oper}{d:Nat}{k:TK}{m:Sem Value}(he:execOp a.eval o=(do pure (.value (←m))))(hm:Has c B s w h (fun p=>a.tmps[p]?) d k m):PRun c B G s a w h o d k:=by
 obtain⟨v,hrun,hk⟩:=hm;exact PRun.of he ⟨v,w,hrun,PRes.here hok hk⟩
theorem TL{s:St}{e:E}{as:List V}{o:Nat}{z:V}(h:eval s e=some (.agg as))(hz:eval s (.fld e o)=some z):as[o]? =some z:=by
 simp only[eval,h,Z8g,fldV,V.pc,Z84]at hz;obtain⟨y,hy,hz⟩:=hz;unfold oneV at hz;split at hz
 ·cases hz;exact hy
 ·cases hz
def YM(P:Program)(T:TypeId)(vs:Array Value)(o:Nat):Value:=if Zn P T then .agg (vs.extract o (o+P.cellsOf T))else vs.getD o undef
theorem Ko{vs:Array Value}{o n i:Nat}(hi:i<n)(h:o+n≤vs.size):(vs.extract o (o+n)).getD i undef=vs.getD (o+i) undef:=by
 simp only[Z88,ZbD];rw[if_pos (by omega)]
theorem RL{P:Program}{T:TypeId}{vs:Array Value}{o n q:Nat}(h:o+n≤vs.size)(hq:q+P.cellsOf T≤n)(h0:P.cellsOf T≠0):YM P T (vs.extract o (o+n)) q=YM P T vs (o+q):=by
 unfold YM;split
 ·congr 1;rw[Array.extract_extract];congr 1<;>omega
 ·exact Ko (by omega) h
theorem Z0n{P:Program}{a b e:E}: ∀(d:Nat) (T:TypeId) (o:Nat),eqD P a b d T o=some e→P.cellsOf T≠0∧(P.underlying T).isSome=true
 |0,_,_,h=>by simp[eqD]at h
 |d+1,T,o,h=>by
  simp only[eqD]at h;split at h
  ·rename_i hT;split at h;exact⟨by omega,by rw[hT];rfl⟩;cases h
  ·rename_i hT;split at h;exact⟨by omega,by rw[hT];rfl⟩;cases h
  ·rename_i hT;split at h;rename_i hc;exact⟨hc.2.1,by rw[hT];rfl⟩;cases h
  ·cases h
theorem Z0a{P:Program}{s:St}{ea eb:E}{as bs:List V}{xs ys:Array Value}{G' G'':Nat→Prop}(ha:eval s ea=some (.agg as))(hb:eval s eb=some (.agg bs))(hxs:xs.size=as.length)(hys:ys.size=bs.length)
  (hx: ∀i c,as[i]? =some c→Rd w G' c (xs.getD i undef)) (hy: ∀i c,bs[i]? =some c→Rd w G'' c (ys.getD i undef)): ∀(d D:Nat) (T:TypeId) (o:Nat) (e:E) (z:V),d≤D→o+P.cellsOf T≤xs.size→o+P.cellsOf T≤ys.size→eqD P ea eb d T o=some e→eval s e=some z→
  ∃r:Bool,(Op.equalIn (D+1) T (YM P T xs o) (YM P T ys o)).run P w= .ok r w∧z= .bool r
 |0,D,T,o,e,z,_,_,_,he,hz=>by simp[eqD]at he
 |d+1,D,T,o,e,z,hD,hbx,hby,he,hz=>by
  simp only[eqD]at he;split at he
  ·rename_i hT;split at he
   case isFalse=>cases he
   simp only[Z83]at he;subst he;simp only[eval,Z84]at hz;obtain⟨u,hu,v,hv,hzx⟩:=hz;have hu':=TL ha (z:=u) (o:=o) (by simpa only[eval,Z84]using hu);have hv':=TL hb (z:=v) (o:=o) (by simpa only[eval,Z84]using hv);have h1:=hx o u hu';have h2:=hy o v hv';have hag:Zn P T=false:=by simp[Zn,hT]
   simp only[YM,hag,Z8B,Z8U];generalize xs.getD o undef=vx at*;generalize ys.getD o undef=vy at*;cases h1<;>cases h2<;>simp only[eqV]at hzx<;>(try (simp at hzx;done))
   rename_i a b;simp only[Z83]at hzx;exact⟨a==b,run_equalIn_bool w D T a b hT,by rw[←hzx];simp⟩
  ·rename_i q hT;split at he
   case isFalse=>cases he
   simp only[Z83]at he;subst he;simp only[eval,Z84]at hz;obtain⟨u,hu,v,hv,hzx⟩:=hz;have hu':=TL ha (z:=u) (o:=o) (by simpa only[eval,Z84]using hu);have hv':=TL hb (z:=v) (o:=o) (by simpa only[eval,Z84]using hv);have h1:=hx o u hu';have h2:=hy o v hv';have hag:Zn P T=false:=by simp[Zn,hT]
   simp only[YM,hag,Z8B,Z8U];generalize xs.getD o undef=vx at*;generalize ys.getD o undef=vy at*;cases h1<;>cases h2<;>simp only[binV]at hzx<;>(try (simp at hzx;done))
   rename_i k n k' m;split at hzx
   case isFalse=>cases hzx
   rename_i hk;subst hk;simp only[Z83]at hzx;exact⟨n==m,run_equalIn_int w D T k q n m hT,hzx.symm⟩
  ·rename_i fs hT;split at he
   case isFalse=>cases he
   rename_i hcond;obtain⟨hne,h0,hst⟩:=hcond;have hag:Zn P T=true:=by simp[Zn,hT]
   have hfo:P.fieldsOf T=fs:=by unfold Program.fieldsOf;rw[hT]
   simp only[YM,hag,Z8S];obtain⟨D',rfl⟩: ∃D',D=D'+1:=⟨D-1,by omega⟩
   have key: ∀(l:List Field) (e:E) (z:V),binS P (eqD P ea eb d) (P.cellsOf T) o l=some e→eval s e=some z→
     ∃r:Bool,(Op.eqFields (D'+1) (xs.extract o (o+P.cellsOf T)) (ys.extract o (o+P.cellsOf T)) l).run P w= .ok r w∧z= .bool r:=by
    intro l
    induction l with
    |nil=>
     intro e z he hz;simp only[binS,Z83]at he;subst he;simp only[eval,Z83]at hz;exact⟨true,by simp[Op.eqFields],hz.symm⟩
    |cons f l ih=>
     intro e z he hz;simp only[binS]at he;split at he
     case isFalse=>cases he
     rename_i hc;obtain⟨hn,ho⟩:=hc;simp only[Z84,Z87]at he;obtain⟨x,hcx,y,hy2,rfl⟩:=he;simp only[eval,Z84]at hz;obtain⟨zx,hzx,hz⟩:=hz;obtain⟨c0,cu⟩:=Z0n d f.type _ hcx;obtain⟨t,ht,rfl⟩:=Z0a ha hb hxs hys hx hy d D' f.type (o+f.offset) x zx (by omega) (by omega) (by omega) hcx hzx
     have p1:(part f.type (xs.extract o (o+P.cellsOf T)) f.offset).run P w= .ok (YM P f.type xs (o+f.offset)) w:=by
      rw[←RL hbx ho c0];exact Qt (w:=w) (P:=P) cu c0 (by rw[Array.size_extract];omega)
     have p2:(part f.type (ys.extract o (o+P.cellsOf T)) f.offset).run P w= .ok (YM P f.type ys (o+f.offset)) w:=by
      rw[←RL hby ho c0];exact Qt (w:=w) (P:=P) cu c0 (by rw[Array.size_extract];omega)
     simp only[Op.eqFields,hn,ne_eq,not_false_eq_true,Z8S,Z9Y,p1,p2,ht,Za0];cases t
     ·simp only[iteV,eval,Z83]at hz;exact⟨false,by simp,hz.symm⟩
     ·simp only[iteV]at hz;simpa using ih y z hy2 hz
   obtain⟨r,hr,rfl⟩:=key _ e z he hz;refine⟨r,?_,rfl⟩;have:=run_equalIn_struct w (D'+1) T (xs.extract o (o+P.cellsOf T)) (ys.extract o (o+P.cellsOf T)) (by rw[hfo];exact hT) hst;rw[hfo]at this;exact this.trans hr
  ·cases he
theorem zy{P:Program}{s:St}{ea eb:E}: ∀(d:Nat) (T:TypeId) (o:Nat) (e:E) (z:V),eqD P ea eb d T o=some e→eval s e=some z→ ∃q t t',eval s (.fld ea q)=some t∧eval s (.fld eb q)=some t'
 |0,_,_,_,_,h,_=>by simp[eqD]at h
 |d+1,T,o,e,z,h,hz=>by
  simp only[eqD]at h;split at h
  ·split at h
   case isFalse=>cases h
   simp only[Z83]at h;subst h;simp only[eval,Z84]at hz;obtain⟨a,h1,b,h2,_⟩:=hz;exact⟨o,a,b,by simpa only[eval,Z84]using h1,by simpa only[eval,Z84]using h2⟩
  ·split at h
   case isFalse=>cases h
   simp only[Z83]at h;subst h;simp only[eval,Z84]at hz;obtain⟨a,h1,b,h2,_⟩:=hz;exact⟨o,a,b,by simpa only[eval,Z84]using h1,by simpa only[eval,Z84]using h2⟩
  ·rename_i fs hT;split at h
   case isFalse=>cases h
   rename_i hc;cases hfs:fs.toList with
   |nil=>exact absurd hfs hc.1
   |cons f l=>
    rw[hfs]at h;simp only[binS]at h;split at h
    case isFalse=>cases h
    simp only[Z84,Z87]at h;obtain⟨x,hcx,y,_,rfl⟩:=h;simp only[eval,Z84]at hz;obtain⟨zx,hzx,_⟩:=hz;exact zy d _ _ _ _ hcx hzx
  ·cases h
theorem yl{P:Program}{s:St}{ea eb e:E}{u v z:V}{uv vv:Value}{T:TypeId}{G' G'':Nat→Prop}(hq:eqSt P T ea eb=some e)(hu:eval s ea=some u)(hv:eval s eb=some v)(hur:Rd w G' u uv)(hvr:Rd w G'' v vv)(hz:eval s e=some z):
  ∃(r:Bool) (xs ys:Array Value),uv= .agg xs∧vv= .agg ys∧(Op.equal T uv vv).run P w= .ok r w∧z= .bool r∧P.eqGuardType P.depth T=false:=by
 unfold eqSt at hq;split at hq
 case isFalse=>cases hq
 rename_i hcond;obtain⟨hag,hgd⟩:=hcond;obtain⟨q,t,t',h1,h2⟩:=zy 4 T 0 e z hq hz
 have ga: ∀ {ex:E} {x:V} {y:V},eval s ex=some x→eval s (.fld (.sz (.isag ex) (P.cellsOf T)) q)=some y→ ∃as,x= .agg as∧as.length=P.cellsOf T∧eval s (.sz (.isag ex) (P.cellsOf T))=some (.agg as):=fun {ex x y} hx hy=>by
  simp only[eval,hx,Z8g]at hy⊢;cases x<;>simp only[Lq,Option.bind_none,Z8g]at hy⊢ <;>(try (cases hy;done))
  rename_i as;unfold szV at hy⊢;by_cases hl:(V.agg as).cells.length=P.cellsOf T
  ·exact⟨as,rfl,hl,by rw[if_pos hl]⟩
  ·rw[if_neg hl]at hy;cases hy
 obtain⟨as,rfl,hla,hea⟩:=ga hu h1;obtain⟨bs,rfl,hlb,heb⟩:=ga hv h2;cases hur with
 |agg _ xs h1 h2 h3=>
  cases hvr with
  |agg _ ys k1 k2 k3=>
   obtain⟨r,hr,rfl⟩:=Z0a (P:=P) hea heb h1 k1 h3 k3 4 9999 T 0 e z (by omega) (by omega) (by omega) hq hz;refine⟨r,xs,ys,rfl,rfl,?_,rfl,hgd⟩
   have e1:YM P T xs 0= .agg xs:=by
    unfold YM;rw[if_pos hag,Z8N,show P.cellsOf T=xs.size by omega];simp
   have e2:YM P T ys 0= .agg ys:=by
    unfold YM;rw[if_pos hag,Z8N,show P.cellsOf T=ys.size by omega];simp
   rw[e1,e2]at hr;exact hr
theorem jF(hr:RelG c B G s a w h g)(hC:holds s (ixC c C)){op:BinOp}{T:TypeId}{x y:Operand}{k:TK}{es:List E}(hp:Z2F c g C op T x y=some (k,es))(hes: ∀e∈es,∃z,eval s e=some z)(d:Nat):
  Has c B s w h (fun p=>a.tmps[p]?) d k (do eqGuard op T x y (a.eval x) (a.eval y);binOp op T (a.eval x) (a.eval y)):=by
 unfold Z2F at hp;simp only[Z84,Z87,Z8d]at hp;obtain⟨ea,ha,eb,hb,rfl,rfl⟩:=hp;obtain⟨u,hu,hur⟩:=Vx hr hC ha;obtain⟨v,hv,hvr⟩:=Vx hr hC hb;obtain⟨z,hz⟩:=hes _ (List.Mem.head _);have hz0:=hz
 have fin: ∀ {m:Sem Value},(∃r,m.run c.P w= .ok r w∧Rd w h.F z r)→Has c B s w h (fun p=>a.tmps[p]?) d (.val (binE c.P T op ea.1 eb.1) []) m:=by
  rintro m ⟨r,hr1,hr2⟩;exact⟨r,hr1,z,hz0,hr2.mono fun b hb=>GH.ext_F hb⟩
 have plain:eval s (.bin op ea.1 eb.1)=some z→Has c B s w h (fun p=>a.tmps[p]?) d (.val (binE c.P T op ea.1 eb.1) []) (do eqGuard op T x y (a.eval x) (a.eval y);binOp op T (a.eval x) (a.eval y)):=by
  intro hz;simp only[eval,hu,hv,Z8g]at hz;exact fin (Z2a hz hur hvr T x y)
 unfold binE at hz;split at hz
 ·rename_i hT;split at hz
  ·simp only[eval,hu,hv,Z8g]at hz;exact fin (j4 (neg:=false) hz hur hvr hT x y)
  ·simp only[eval,hu,hv,Z8g]at hz;exact fin (j4 (neg:=true) hz hur hvr hT x y)
  ·exact plain hz
 ·split at hz
  ·cases hq:eqSt c.P T ea.1 eb.1 with
   |none=>rw[hq]at hz;exact plain hz
   |some e=>
    rw[hq]at hz;obtain⟨r,xs,ys,hxs,hys,h1,rfl,h2⟩:=yl hq hu hv hur hvr hz;refine fin ⟨.bool r,?_,.bool _⟩;rw[hxs,hys]at h1⊢;simp[eqGuard,binOp,h1,h2,run_program]
  ·cases hq:eqSt c.P T ea.1 eb.1 with
   |none=>rw[hq]at hz;exact plain hz
   |some e=>
    rw[hq]at hz;simp only[Z9c,Z8J,eval,Z84]at hz;obtain⟨y',hy',hz⟩:=hz;obtain⟨r,xs,ys,hxs,hys,h1,rfl,h2⟩:=yl hq hu hv hur hvr hy';simp only[unV,Z83]at hz;subst hz;refine fin ⟨.bool (!r),?_,.bool _⟩;rw[hxs,hys]at h1⊢;simp[eqGuard,binOp,h1,h2,run_program]
  ·exact plain hz
theorem qv{x z:V}{e:E}{d:Nat}{sh:List Nat}{m:Sem Value}(hz:eval s e=some z)(hm: ∃r,m.run c.P w= .ok r w∧Rd w (h.ext sh) z r)(tm:Nat→Option Value):Has c B s w h tm d (.val e sh) m:=by
 obtain⟨r,h1,h2⟩:=hm;exact⟨r,h1,z,hz,h2⟩
theorem US{m:Sem Value}{z:V}(hm: ∃r,m.run c.P w= .ok r w∧Rd w h.F z r)(sh:List Nat): ∃r,m.run c.P w= .ok r w∧Rd w (h.ext sh) z r:=by
 obtain⟨r,h1,h2⟩:=hm;exact⟨r,h1,h2.mono fun b hb=>GH.ext_F hb⟩
theorem Rp(hr:RelG c B G s a w h g)(hC:holds s (ixC c C)): ∀ {l:List Operand} {ts:List Nat},Jn g C l=some ts→ts.length=l.length∧ ∀(i p:Nat),ts[i]? =some p→ ∃x b,l[i]? =some x∧h.bl p 0=some b∧a.eval x= .pointer (some ⟨b,0,none⟩)
 | [],ts,hc=>by
   simp only[Jn,Z83]at hc;subst hc;exact⟨rfl,fun i p hi=>by simp at hi⟩
 |x::l,ts,hc=>by
  simp only[Jn]at hc;split at hc
  ·rename_i t cs hk;simp only[Z87]at hc;obtain⟨us,hus,rfl⟩:=hc;obtain⟨h1,h2⟩:=Rp hr hC hus;obtain⟨v,hv,⟨b,vs,T,e1,e2,_⟩,_⟩:=hr.look hC (show look g C t=_ from hk) rfl;refine⟨by simp[h1],fun i p hi=> ?_⟩;cases i with
   |zero=>simp at hi;subst hi;exact⟨_,b,rfl,e1,by rw[Act.eval_tmp a t v hv];exact e2⟩
   |succ i=>simpa using h2 i p (by simpa using hi)
  ·cases hc
theorem Rc(hr:RelG c B G s a w h g)(hC:holds s (ixC c C)){f:Go.Fn}{first captured:Array Operand}{k:TK}{es:List E}(hp:UV g C f first.toList captured.toList=some (k,es))(d:Nat):
  Has c B s w h (fun p=>a.tmps[p]?) d k (Instr.makeFunc f (first.map a.eval) (captured.map a.eval)):=by
 unfold UV at hp;split at hp
 ·rename_i f' h1 h2;simp only[Z83,Z8d]at hp;obtain⟨rfl,rfl⟩:=hp;have e1:first= #[]:=Z9g.1 (by simpa using h1);have e2:captured= #[]:=Z9g.1 (by simpa using h2);subst e1 e2;exact⟨.func (.func f') #[] #[],by simp[Instr.makeFunc],.fn f',rfl,.fn f'⟩
 ·rename_i f' h1 _;simp only[Z87,Z8d]at hp;obtain⟨ts,hts,rfl,rfl⟩:=hp;have e1:first= #[]:=Z9g.1 (by simpa using h1);subst e1;obtain⟨hl,hall⟩:=Rp hr hC hts;refine⟨.func (.func f') #[] (captured.map a.eval),by simp[Instr.makeFunc],captured.map a.eval,rfl,by simpa using hl.symm,fun i p hi=> ?_⟩;obtain⟨x,b,hx,hb,hev⟩:=hall i p hi;exact⟨b,hb,by rw[Array.getElem?_map];rw[Z97]at hx;rw[hx,Z9c,hev]⟩
 ·cases hp
theorem QR(hok:Ok B G w h){T:TypeId}{k:TK}{es:List E}(hp:S8 c T=some (k,es))(tm:Nat→Option Value)(d:Nat):
  ∃v w',(Instr.makeMap T none).run c.P w= .ok v w'∧PRes c B G s w h tm d k v w':=by
 unfold S8 at hp;split at hp
 ·simp only[Z83,Z8d]at hp;obtain⟨rfl,rfl⟩:=hp;have hg:=Z9n w (.map #[] 0) none;obtain⟨hok',hst⟩:=U7 hok hg d 1 (n:=w.heap.size) (Z8e _) (by simp);refine⟨.map (some w.heap.size),w.alloc (.map #[] 0),?_,_,hst,hok',.mp 0 [] [],rfl,.inr ⟨0,[],[],w.heap.size, #[],0,rfl,rfl,by simp[GH.give],hok.base,.inl rfl,Z8n w _,rfl,rfl,fun i c hi=>by simp at hi,fun i c hi=>by simp at hi⟩⟩;rfl
 ·cases hp
theorem Z1k{P:Program}{T:TypeId}{x:V}(hz:Z3n P T=some x): ∃z,(∀w:World,(zeroValue T).run P w= .ok z w)∧ ∀(w:World) (G:Nat→Prop),Rd w G x z:=by
 unfold Z3n at hz;simp only[Z84]at hz;obtain⟨z,⟨i,hi,hz0⟩,hm⟩:=hz;refine⟨z,fun w=>Xk hi hz0 w,fun w G=> ?_⟩;split at hm
 ·rename_i cs;simp only[Z87]at hm;obtain⟨xs,hxs,rfl⟩:=hm;obtain⟨h1,h2⟩:=SJ hxs
  have key: ∀(i:Nat) (c:V),xs[i]? =some c→Vz (cs.getD i undef)=some c:=by
   intro i c hi;have hlt:i<cs.size:=by have:=(Z86.1 hi).1;rw[h1]at this;simpa using this
   obtain⟨y,hy,hc⟩:=h2 i cs[i] (by simp[hlt]);rw[hi]at hy;cases hy;simpa[Z88,hlt]using hc
  refine .agg xs cs (by simpa using h1.symm) (fun c hc=> ?_) fun i c hi=>TP (key i c hi) w G;obtain⟨i,hi⟩:=Z8v hc;exact Sx (key i c hi)
 ·exact TP hm w G
def kcD:KC→TypeDesc
 | .b=> .bool
 | .i k=> .int k
 | .s=> .string
theorem J3{P:Program}{t:TypeId}{kc:KC}(hk:kcOf P t=some kc):P.underlying t=some (kcD kc):=by
 unfold kcOf at hk;split at hk<;>first| (simp only[Z83]at hk;subst hk;assumption) |cases hk
theorem Se{kc:KC}{k:V}(hk:isK kc k=true){w:World}{G':Nat→Prop}{v:Value}(hv:Rd w G' k v):IsKey (kcD kc) v:=by
 cases kc<;>cases hv<;>simp_all [isK,IsKey,kcD]
theorem RF{kc:KC}{k y:V}{r:Bool}(hk:isK kc k=true)(he:Z1h k y=some r){w w2:World}{G' G'':Nat→Prop}{v u:Value}(hv:Rd w G' k v)(hu:Rd w2 G'' y u):IsKey (kcD kc) u∧(r=true↔v=u):=by
 cases kc<;>cases hv<;>simp[isK]at hk<;>cases hu<;>simp[Z1h]at he
 ·subst he;simp[IsKey,kcD]
 ·obtain⟨rfl,rfl⟩:=he;simp[IsKey,kcD,hk]
 ·subst he;simp[IsKey,kcD,bytes_beq]
theorem Wo{kc:KC}{k:V}(hk:isK kc k=true){w w2:World}{G' G'':Nat→Prop}{v:Value}(hv:Rd w G' k v): ∀ {ks:List V} {l:List MapEntry} {r:Option Nat},QX k ks=some r→ks.length=l.length→
  (∀(i:Nat) (c:V),ks[i]? =some c→Rd w2 G'' c (l.getD i default).key)→ ∀n,match r with
   |none=>Instr.findNow (kcD kc) v l n=some none
   |some j=> ∃e,l[j]? =some e∧e.key=v∧Instr.findNow (kcD kc) v l n=some (some (n+j,e.val))
 | [],l,r,hf,hl,_,n=>by
   simp only[QX,Z83]at hf;subst hf;have:l= []:=Z8Q hl.symm;subst this;rfl
 |y::ks,[],r,_,hl,_,n=>by simp at hl
 |y::ks,e::l,r,hf,hl,hrd,n=>by
  simp only[QX]at hf;have hy:Rd w2 G'' y e.key:=by simpa using hrd 0 y rfl
  split at hf
  ·rename_i he;obtain⟨h1,h2⟩:=RF hk he hv hy;simp only[Z83]at hf;subst hf;have hve:=h2.1 rfl;obtain⟨q,hq,hiff⟩:=Zba (Se hk hv) h1;have hq1:q=true:=hiff.2 hve;subst hq1;exact⟨e,rfl,hve.symm,by simp[Instr.findNow,hq]⟩
  ·rename_i he;obtain⟨h1,h2⟩:=RF hk he hv hy;obtain⟨q,hq,hiff⟩:=Zba (Se hk hv) h1
   have hq1:q=false:=by
    cases q with
    |false=>rfl
    |true=>have:=h2.2 (hiff.1 rfl);cases this
   subst hq1;simp only[Z87]at hf;obtain⟨r',hr',rfl⟩:=hf;have ih:=Wo hk hv hr' (by simpa using hl) (fun i c hi=>by simpa using hrd (i+1) c (by simpa using hi)) (n+1);cases r' with
   |none=>simpa[Instr.findNow,hq]using ih
   |some j=>
    obtain⟨e',e1,e2,e3⟩:=ih;exact⟨e',by simpa using e1,e2,by simp[Instr.findNow,hq,e3];omega⟩
  ·cases hf
theorem RM{kc:KC}{k z y:V}{ks vs:List V}{id:Nat}{ok:Bool}(hy:lkV kc (.mp id ks vs) k z ok=some y){l:List MapEntry}{w2:World}{G' G'':Nat→Prop}{kv zv:Value}(hk:Rd w G' k kv)(hz: ∀(w:World) (G:Nat→Prop),Rd w G z zv)(h1:ks.length=l.length)(h2:vs.length=l.length)
  (h3: ∀(i:Nat) (c:V),ks[i]? =some c→Rd w2 G'' c (l.getD i default).key) (h4: ∀(i:Nat) (c:V),vs[i]? =some c→Rd w2 G'' c (l.getD i default).val):
  isK kc k=true∧ ∃r,Instr.findNow (kcD kc) kv l 0=some r∧Rd w2 G'' y (if ok then .tuple #[(match r with|some (_,v)=>(v,true) |none=>(zv,false)).1,.bool (match r with|some (_,v)=>(v,true) |none=>(zv,false)).2]else(match r with|some (_,v)=>(v,true) |none=>(zv,false)).1):=by
 have tup: ∀ {x:V} {v:Value} {b:Bool},Rd w2 G'' x v→Rd w2 G'' (if ok then .tup [x,.bool b]else x) (if ok then .tuple #[v,.bool b]else v):=by
  intro x v b hx;cases ok
  ·exact hx
  ·refine .tup _ _ rfl fun i c hi=> ?_
   match i,hi with
   |0,hi=>simp at hi;subst hi;simpa using hx
   |1,hi=>simp at hi;subst hi;simpa using Rd.bool b
   |i+2,hi=>simp at hi
 unfold lkV at hy;split at hy
 ·cases hy
 rename_i hik;have hik:isK kc k=true:=by simpa using hik
 refine⟨hik,?_⟩;simp only at hy;split at hy
 ·rename_i j hf;obtain⟨e,e1,e2,e3⟩:=Wo hik hk hf h1 h3 0;simp only[Z87]at hy;obtain⟨x,hx,rfl⟩:=hy;refine⟨_,e3,?_⟩;have:=h4 j x hx;rw[Zbf,e1]at this;exact tup this
 ·rename_i hf;have:=Wo hik hk hf h1 h3 0;simp only[Z83]at hy;subst hy;exact⟨_,this,tup (hz _ _)⟩
 ·cases hy
theorem Qz(hr:RelG c B G s a w h g)(hC:holds s (ixC c C)){T:TypeId}{x k:Operand}{ok:Bool}{kk:TK}{es:List E}(hp:V1 c g C T x k ok=some (kk,es))(hes: ∀e∈es,∃z,eval s e=some z)(d:Nat):
  Has c B s w h (fun p=>a.tmps[p]?) d kk (Instr.lookup T (a.eval x) (a.eval k) ok):=by
 unfold V1 at hp;split at hp
 ·rename_i kt el hT;simp only[Z84,Z87,Z8d]at hp;obtain⟨kc,hkc,z,hz,ea,ha,eb,hb,rfl,rfl⟩:=hp;obtain⟨u,hu,hur⟩:=YT hr hC ha;obtain⟨v,hv,hvr⟩:=YT hr hC hb;obtain⟨y,hy⟩:=hes _ (List.Mem.head _);have hy0:=hy;simp only[eval,hu,hv,Z8g]at hy;obtain⟨zv,hzr,hzrd⟩:=Z1k hz;have hkd:=J3 hkc;generalize hav:a.eval x=av at hur;cases hur with
  |nomp=>
   obtain⟨hik,r,hf,hres⟩:=RM (w2:=w) (G'':=h.ext ea.2) hy hvr hzrd (l:= []) rfl rfl (fun i c hi=>by simp at hi) (fun i c hi=>by simp at hi);refine⟨_,?_,y,hy0,hres⟩;have hck:=Zbj (w:=w) hkd (Se hik hvr);have hfk:=Zbb (w:=w) hkd hf;cases r with
   |none=>simp[Instr.lookup,Z8F hT,hck,hfk,hzr,Result.andThen]
   |some p=>simp[Instr.lookup,Z8F hT,hck,hfk,hzr,Result.andThen]
  |mp id ks xs b clk es h0 h1 h2 h3 h4 h5 h6=>
   obtain⟨hik,r,hf,hres⟩:=RM (w2:=w) (G'':=h.ext ea.2) hy hvr hzrd (l:=es.toList) (by simpa using h3) (by simpa using h4) (fun i c hi=>by simpa[Z88]using h5 i c hi) (fun i c hi=>by simpa[Z88]using h6 i c hi);refine⟨_,?_,y,hy0,hres⟩;have hck:=Zbj (w:=w) hkd (Se hik hvr);have hfk:=Zbb (w:=w) hkd hf;cases r with
   |none=>simp[Instr.lookup,Z8F hT,Z9K h2,hck,hfk,hzr,Result.andThen]
   |some p=>simp[Instr.lookup,Z8F hT,Z9K h2,hck,hfk,hzr,Result.andThen]
  |_=>simp[lkV]at hy
 ·cases hp
theorem JJ{T:TypeId}{x k:Operand}{ok:Bool}{e:E}{sh:List Nat}{es:List E}(hp:V1 c g C T x k ok=some (.val e sh,es)):es= [e]:=by
 unfold V1 at hp;split at hp
 ·simp only[Z84,Z87,Z8d,TK.val.injEq]at hp;obtain⟨_,_,_,_,_,_,_,_,⟨rfl,_⟩,rfl⟩:=hp;rfl
 ·cases hp
theorem JK(hr:RelG c B G s a w h g)(hC:holds s (ixC c C)){T:TypeId}{x k:Operand}{ok:Bool}{kk:TK}{es:List E}(hp:QC c g C T x k ok=some (kk,es))(hes: ∀e∈es,∃z,eval s e=some z)(d:Nat):
  Has c B s w h (fun p=>a.tmps[p]?) d kk (Instr.lookup T (a.eval x) (a.eval k) ok):=by
 simp only[QC,Z84]at hp;obtain⟨⟨k0,es0⟩,hp0,hp⟩:=hp;simp only at hp;split at hp
 ·rename_i e sh;simp only[Z83,Z8d]at hp;obtain⟨rfl,rfl⟩:=hp;have h0:=JJ hp0;subst h0;have hy:=hes _ (List.Mem.head _)
  have hye: ∃z,eval s e=some z:=by
   obtain⟨z,hz⟩:=hy;unfold flE at hz;split at hz
   ·exact⟨z,hz⟩
   ·split at hz
    ·simp only[eval,Z84]at hz;obtain⟨u,hu,_⟩:=hz;exact⟨u,hu⟩
    ·exact⟨z,hz⟩
  obtain⟨v,hv,x0,hx0,hrd⟩:=Qz hr hC hp0 (by simpa using hye) d;obtain⟨z,hz,hzr⟩:=SL (b:=(e,sh)) (fl:=(!ok&&Z2j c.P T)) hx0 hrd hy;exact⟨v,hv,z,hz,hzr⟩
 ·cases hp
theorem jp{x z:V}(hz:Kb x=some z){G':Nat→Prop}{v:Value}(hv:Rd w G' x v){T ty k e:TypeId}(hT:c.P.underlying T=some (.map k e)):
  ∃r,(Builtin.len_ #[T] ty #[v]).run c.P w= .ok r w∧Rd w h.F z r:=by
 cases hv with
 |nomp=>
  simp only[Kb,Z83]at hz;subst hz;exact⟨.int .i64 0,by simp[Builtin.len_,Z8F hT,goInt],.int _ _⟩
 |mp id ks xs b clk es h0 h1 h2 h3 h4 h5 h6=>
  simp only[Kb,Z83]at hz;subst hz;exact⟨.int .i64 es.size,by simp[Builtin.len_,Z8F hT,Z9K h2,goInt,Result.andThen],by rw[h3];exact .int _ _⟩
 |_=>simp[Kb]at hz
theorem Z0E(hr:RelG c B G s a w h g)(hC:holds s (ixC c C)){o:Oper}{k:TK}{es:List E}(hp:pk c g C o=some (k,es))(hes: ∀e∈es,∃z,eval s e=some z)(d:Nat)(hd:o.dst=some d):PRun c B G s a w h o d k:=by
 have hok:=hr.ok;obtain⟨dst,op,type,pos,after,guard⟩:=o;simp only at hd;unfold pk at hp;simp only at hp;split at hp
 ·exact⟨_,w,rfl,PRes.here hok (yq hr hC hp d)⟩
 ·rename_i x;obtain⟨v,h1,h2⟩:=R5 hr hC hp hes {dst,op:= .nilCheck x,type,pos,after,guard} rfl d;exact⟨v,w,h1,PRes.here hok h2⟩
 ·exact⟨_,w,rfl,PRes.here hok (JQ hr hC hp hes d)⟩
 ·exact PRun.of rfl (Lh hok hp _ d)
 ·exact PRun.of rfl (Z0w hr hC hp hes _ d)
 ·exact Has.pr hok rfl (jF hr hC hp hes d)
 ·simp only[pkUn,Z87,Z8d]at hp;obtain⟨ea,ha,rfl,rfl⟩:=hp;obtain⟨u,hu,hur⟩:=Vx hr hC ha;obtain⟨z,hz⟩:=hes _ (List.Mem.head _);have hz0:=hz;simp only[eval,hu,Z8g]at hz;exact Has.pr hok rfl (qv (x:=u) hz0 (US (Z3s hz hur) []) _)
 ·rename_i src dst' x;unfold Z2k at hp;split at hp
  ·simp at hp
  ·rename_i hsrc;split at hp
   ·rename_i kk hdst;simp only[Z87,Z8d]at hp;obtain⟨ea,ha,rfl,rfl⟩:=hp;obtain⟨u,hu,hur⟩:=Vx hr hC ha;obtain⟨z,hz⟩:=hes _ (List.Mem.head _);have hz0:=hz;simp only[eval,hu,Z8g]at hz;exact Has.pr hok rfl (qv (x:=u) hz0 (US (jC hz hur (by cases hh:c.P.underlying src<;>simp_all) hdst) []) _)
   ·simp at hp
 ·rename_i x i;simp only[Z4E,Z87,Z8d]at hp;obtain⟨ea,ha,rfl,rfl⟩:=hp;obtain⟨u,hu,hur⟩:=Vx hr hC ha;obtain⟨z,hz⟩:=hes _ (List.Mem.head _)
  have he: ∃q,eval s (.ext ea.1 i)=some q:=by
   unfold flE at hz;split at hz
   ·exact⟨z,hz⟩
   ·split at hz
    ·simp only[eval,hu,Z8g]at hz⊢;cases hq:extV u i with
     |none=>rw[hq]at hz;simp at hz
     |some q=>exact⟨q,rfl⟩
    ·exact⟨z,hz⟩
  obtain⟨q,hq⟩:=he;have hq0:=hq;simp only[eval,hu,Z8g]at hq;obtain⟨r,hr1,hr2⟩:=Z1q (c:=c) (w:=w) hq hur;obtain⟨z',hz',hrz⟩:=SL (h:=h) (fl:=Xc c.P type) (b:=(.ext ea.1 i,ea.2)) hq0 hr2 ⟨z,hz⟩;exact Has.pr hok rfl ⟨r,hr1,z',hz',hrz⟩
 ·exact Has.pr hok rfl (yR hr hC hp hes d)
 ·exact Has.pr hok rfl (Le hr hC hp hes d)
 ·exact Has.pr hok rfl (SD hr hC hp hes d)
 ·exact Has.pr hok rfl (Z0i hr hC hp hes d)
 ·exact Has.pr hok rfl (La hr hC hp hes d)
 ·exact Has.pr hok rfl (KQ hr hC hp hes d)
 ·
  rename_i T parts;unfold Z00 at hp
  ·simp only[Z84]at hp;obtain⟨fs,hT,zs,hz,b,hb,hp⟩:=hp;split at hp
   ·rename_i hempty;have hts:b.2.2= []:=by simpa using hempty
    have hev: ∃z,eval s (.ag (b.1.map (·.2)))=some z:=by
     split at hp<;>(simp only[Z83,Z8d]at hp;obtain⟨_,rfl⟩:=hp;exact hes _ (List.Mem.head _))
    obtain⟨z,hz1⟩:=hev;have hz1':=hz1;simp only[eval,Z87]at hz1';obtain⟨xs,hxs,hxz⟩:=hz1';obtain⟨hl,hx⟩:=Yo hxs;have hl':xs.length=b.1.length:=by simpa using hl
    obtain⟨vs,hrun,hsz,howns,hcell⟩:=Ru hr hC hT hz hb (fun ck hck=>by
     obtain⟨i,hi⟩:=Z8v hck;obtain⟨x,_,he⟩:=hx i ck.2 (by rw[Z8l,hi];rfl);exact⟨x,he⟩)
    rw[hts]at howns hcell;refine Has.pr hok rfl ⟨.agg vs,hrun,?_⟩
    have hx2: ∀(i:Nat) (x:V),xs[i]? =some x→x.one=true∧Rd w (h.ext b.2.1) x (vs.getD i undef):=by
     intro i x hi;have hlt:i<b.1.length:=by have:=(Z86.1 hi).1;omega
     obtain⟨y,hy,hye⟩:=hx i (b.1[i]).2 (by rw[Z8l,Z85 hlt];rfl);rw[hi]at hy;cases hy;have hc:=hcell i b.1[i] (Z85 hlt);unfold BRel at hc;split at hc
     ·obtain⟨t,_,ht,_⟩:=hc;simp at ht
     ·obtain⟨e1,e2⟩:=hc;rw[hye]at e2;cases e2;rw[e1];exact⟨rfl,.nil _ _ (Z95 _)⟩
     ·obtain⟨x',e1,e2,e3⟩:=hc;rw[hye]at e1;cases e1;exact⟨e2,e3⟩
     ·exact hc.elim
    have hone: ∀x∈xs,x.one=true:=fun x hxm=>by
     obtain⟨i,hi⟩:=Z8v hxm;exact(hx2 i x hi).1
    have hzx:z= .agg xs:=by rw[←hxz];simp only[agV,WF hone]
    split at hp
    ·rename_i hfz;simp only[Z8c,ZaG]at hfz;simp only[Z83,Z8d]at hp;obtain⟨rfl,rfl⟩:=hp;refine⟨vs,rfl,hsz,fun i ck hi=> ?_⟩;have hc:=hcell i ck hi;unfold BRel at hc;obtain⟨kk,e⟩:=ck;cases kk with
     |own ty=>obtain⟨t,_,ht,_⟩:=hc;simp at ht
     |nil=>exact hc
     |fz=>
      obtain⟨x,e1,e2,e3⟩:=hc;rw[hfz.1]at e3;exact⟨x,e1,e2,e3.F⟩
     |dead=>exact hc.elim
    ·simp only[Z83,Z8d]at hp;obtain⟨rfl,rfl⟩:=hp;refine⟨z,hz1,?_⟩;rw[hzx];exact .agg xs vs (by rw[hsz,hl']) hone fun i x hi=>(hx2 i x hi).2
   ·simp at hp
 ·exact PRun.of rfl (TA hr hC hp hes _ d hd)
 ·exact PRun.of rfl (yS hr hC hp hes _ d hd)
 ·exact Has.pr hok rfl (Rc hr hC hp d)
 ·exact PRun.of rfl (QR hok hp _ d)
 ·exact Has.pr hok rfl (JK hr hC hp hes d)
 ·
  rename_i args argTypes;split at hp
  ·rename_i x T hx hT;have hargs:args= #[x]:=Z9g.1 (by simpa using hx);have htys:argTypes= #[T]:=Z9g.1 (by simpa using hT);subst hargs htys
   have hex:execOp a.eval {dst,op:= .call {callee:= .builtin .len,args:= #[x],argTypes:= #[T]},type,pos,after,guard}=(do pure (.value (←Builtin.len_ #[T] type #[a.eval x]))):=by
    simp[execOp,resolve,invoke,builtin]
   unfold Z4d at hp;split at hp
   ·rename_i e hT';simp only[Z87,Z8d]at hp;obtain⟨ea,ha,rfl,rfl⟩:=hp;obtain⟨u,hu,hur⟩:=Vx hr hC ha;obtain⟨z,hz⟩:=hes _ (List.Mem.head _);have hz0:=hz;simp only[eval,hu,Z8g]at hz;exact Has.pr hok hex (qv (x:=u) hz0 (US (Z2b hz hur hT') []) _)
   ·rename_i n e hT';simp only[Z83,Z8d]at hp;obtain⟨rfl,rfl⟩:=hp;refine Has.pr hok hex ⟨.int .i64 n,?_,_,rfl,.int _ _⟩;simp[Builtin.len_,Z8F hT',goInt]
   ·rename_i k e hT';simp only[Z87,Z8d]at hp;obtain⟨ea,ha,rfl,rfl⟩:=hp;obtain⟨u,hu,hur⟩:=Vx hr hC ha;obtain⟨z,hz⟩:=hes _ (List.Mem.head _);have hz0:=hz;simp only[eval,hu,Z8g]at hz;exact Has.pr hok hex (qv (x:=u) hz0 (US (jp hz hur hT') []) _)
   ·simp at hp
  ·simp at hp
 ·rename_i args _;split at hp
  ·rename_i x y hx;have hargs:args= #[x,y]:=Z9g.1 (by simpa using hx);subst hargs;simp only[pkMM,Z8B,Z8U,Z84,Z87,Z8d]at hp;obtain⟨ea,ha,eb,hb,rfl,rfl⟩:=hp;obtain⟨u,hu,hur⟩:=Vx hr hC ha;obtain⟨v,hv,hvr⟩:=Vx hr hC hb;obtain⟨z,hz⟩:=hes _ (List.Mem.head _);have hz0:=hz;simp only[eval,hu,hv,Z8g]at hz;exact Has.pr hok (by simp[execOp,resolve,invoke,builtin];rfl) (qv (x:=u) hz0 (US (Z1a hz hur hvr _ type) []) _)
  ·simp at hp
 ·rename_i args _;split at hp
  ·rename_i x y hx;have hargs:args= #[x,y]:=Z9g.1 (by simpa using hx);subst hargs;simp only[pkMM,Z8S,Z84,Z87,Z8d]at hp;obtain⟨ea,ha,eb,hb,rfl,rfl⟩:=hp;obtain⟨u,hu,hur⟩:=Vx hr hC ha;obtain⟨v,hv,hvr⟩:=Vx hr hC hb;obtain⟨z,hz⟩:=hes _ (List.Mem.head _);have hz0:=hz;simp only[eval,hu,hv,Z8g]at hz;exact Has.pr hok (by simp[execOp,resolve,invoke,builtin];rfl) (qv (x:=u) hz0 (US (Z1s hz hur hvr _ type) []) _)
  ·simp at hp
 ·rename_i args argTypes;split at hp
  ·rename_i x y T U hx hT;have hargs:args= #[x,y]:=Z9g.1 (by simpa using hx);have htys:argTypes= #[T,U]:=Z9g.1 (by simpa using hT);subst hargs htys;exact PRun.of (by simp[execOp,resolve,invoke,builtin]) (JI (ty:=type) hr hC hp hes _ d hd)
  ·simp at hp
 ·simp at hp
end
end Vm
namespace Vm
open Go
open Go.RowKit (Below)
theorem UY: ∀ {g:Gam} {t:Nat},t∉Zu g→g.at t=([],.no)
 | [],t,_=>rfl
 | (u,x)::g,t,ht=>by
   simp only[Zu,Z8x,Z8C,not_or]at ht;simp only[Gam.at];rw[if_neg (fun e=>ht.1 e.symm)];exact UY ht.2
theorem LV: ∀ {g:Gam} {t:Nat},t∈Zu g→(t,g.at t)∈g
 | [],t,ht=>by simp[Zu]at ht
 | (u,x)::g,t,ht=>by
   simp only[Gam.at];by_cases hu:u=t
   ·subst hu;simp
   ·rw[if_neg hu]
    have:t∈Zu g:=by
     simp only[Zu,Z8x,Z8C]at ht;exact ht.resolve_left fun e=>hu e.symm
    exact Z8V _ (LV this)
theorem ZT: ∀(a b:Gam) (t:Nat),(a++b).at t=if t∈Zu a then a.at t else b.at t
 | [],b,t=>by simp[Zu]
 | (u,x)::a,b,t=>by
   simp only[Z99,Gam.at];by_cases hu:u=t
   ·subst hu;simp[Zu]
   ·rw[if_neg hu,if_neg hu,ZT a b t];simp only[Zu,Z8x,Z8C];by_cases ht:t∈List.map (·.1) a
    ·simp[ht]
    ·have: ¬(t=u):=fun e=>hu e.symm;simp[ht,this]
theorem TO{ps rb fz:List Nat}{g:Gam}{t:Nat}(ht:t∈Zu (Xv ps rb fz g)):(Xv ps rb fz g).at t=([],.no):=by
 have:=LV ht;generalize (Xv ps rb fz g).at t=x at this;simp only[Xv,Z9Q]at this;obtain⟨y,_,hy⟩:=this;split at hy
 ·simp at hy
 ·simp only[Z83,Z8d]at hy;exact hy.2.symm
theorem qX{ps rb fz:List Nat}{g:Gam}{t:Nat}(ht:t∉Zu (Xv ps rb fz g)){x:Ze×TK}(hx:(t,x)∈g):calm ps rb fz x.2=true:=by
 by_cases hc:calm ps rb fz x.2=true
 ·exact hc
 ·exfalso;apply ht;simp only[Zu,Xv,Z8A,Z9Q];exact⟨(t,[],.no),⟨(t,x),hx,by simp[hc]⟩,rfl⟩
theorem Lz(ps rb fz:List Nat):calm ps rb fz .no=true:=by simp[calm,Xd,leads,T4]
theorem Ro{ps rb fz:List Nat}{g:Gam}{t:Nat}(ht:t∉Zu (Xv ps rb fz g)):calm ps rb fz (g.at t).2=true:=by
 by_cases hm:t∈Zu g
 ·exact qX ht (LV hm)
 ·rw[UY hm];exact Lz _ _ _
theorem WH{fz:List Nat}{g:Gam}:Zu (YY fz g)=fz:=by
 simp only[Zu,YY,List.map_map]
 conv=>rhs;rw[←List.map_id fz]
 rfl
theorem Vl: ∀ {fz:List Nat} {g:Gam} {t:Nat},t∈fz→(YY fz g).at t=((g.at t).1,VL (g.at t).2)
 | [],g,t,ht=>by simp at ht
 |p::fz,g,t,ht=>by
  simp only[YY,Z8x,Gam.at];by_cases hp:p=t
  ·subst hp;simp
  ·rw[if_neg hp];exact Vl ((Z8C.1 ht).resolve_left fun e=>hp e.symm)
def GH.thaw(h:GH)(fz:List Nat):GH:= {F:=fun b=>h.F b∨ ∃p∈fz,∃i,h.bl p (i+1)=some b,bl:=fun p i=>if p∈fz∧i≠0 then none else h.bl p i,K:=h.K}
section
variable {c:Ctx} {B:Nat} {G:Nat→Prop} {s:St} {a:Act} {w w':World} {h h':GH} {g:Gam} {C:Ze} {fz:List Nat}
theorem V6(hok:Ok B G w h)(fz:List Nat):Ok B G w (h.thaw fz)∧Step B [] [] fz w w h (h.thaw fz):=by
 refine⟨⟨hok.base,fun b hb=> ?_,fun b hb=> ?_,fun b hb=> .inl (hok.g_F b hb),fun t i b hb=> ?_,fun t i u j b hb hb'=> ?_,hok.k_lt,fun t i b hb=> ?_,fun b hb=> ?_⟩,
  Z8o _ _,fun b hb _=>rfl,fun b hb=> .inl hb,fun t _ ht=> ?_,fun t _=> ?_,fun t i b _ ht hb=> .inr ⟨t,ht,i,hb⟩,rfl⟩
 ·rcases hb with hb| ⟨p,_,i,hi⟩
  ·exact hok.f_lt b hb
  ·exact(hok.b_lt p (i+1) b hi).2.1
 ·rcases hb with hb| ⟨p,_,i,hi⟩
  ·exact hok.f_or b hb
  ·exact .inr (hok.b_lt p (i+1) b hi).1
 ·simp only[GH.thaw]at hb;split at hb
  ·cases hb
  ·rename_i hn;obtain⟨h1,h2,h3⟩:=hok.b_lt t i b hb;refine⟨h1,h2,fun hF=> ?_⟩;rcases hF with hF| ⟨p,hp,j,hj⟩
   ·exact h3 hF
   ·obtain⟨rfl,rfl⟩:=hok.inj t i p (j+1) b hb hj;exact hn ⟨hp,by omega⟩
 ·simp only[GH.thaw]at hb hb';split at hb<;>split at hb'<;>first| (cases hb;done) | (cases hb';done) |exact hok.inj t i u j b hb hb'
 ·simp only[GH.thaw]at hb;split at hb
  ·cases hb
  ·exact hok.k_bl t i b hb
 ·rcases hb with hb| ⟨p,_,i,hi⟩
  ·exact hok.k_F b hb
  ·exact .inr (hok.k_bl p (i+1) b hi)
 ·funext i;simp[GH.thaw,ht]
 ·simp[GH.thaw]
theorem Q7{sh:List Nat}(hsub: ∀p∈sh,p∈fz): ∀b,h.ext sh b→(h.thaw fz).F b:=by
 intro b hb;rcases hb with hb| ⟨p,hp,i,hi⟩
 ·exact .inl hb
 ·exact .inr ⟨p,hsub p hp,i,hi⟩
theorem OwnV.one{P:Program}{o:Option Nat}{ty:TypeId}{x:V}{v:Value}(hv:OwnV P B w h o ty x v):x.one=true:=by
 rcases hv with ⟨l,xs,rfl,_⟩ | ⟨_,_,_,_,_,_,rfl,_⟩<;>rfl
theorem RelC.freeze{P:Program}{o:Option Nat}{k:CK}{e:E}{v:Value}(hr:RelC P B s w h o k e v)(hF:Same h.F w w')(hFF: ∀b,h.F b→h'.F b)(ho: ∀b,o=some b→w'.heap[b]? =w.heap[b]?)(hoF: ∀b,o=some b→h'.F b)(o':Option Nat):
  RelC P B s w' h' o' (Z5G k) e v:=by
 cases k with
 |fz=>obtain⟨x,h0,h1,h2⟩:=hr;exact⟨x,h0,h1,h2.keep hF hFF⟩
 |own ty=>
  obtain⟨x,h0,h1⟩:=hr;have h2:=h1.keep (h':=h') hF hFF ho;exact⟨x,h0,h2.one,h2.rd (fun b hb=>hb) hoF⟩
 |nil=>exact hr
 |dead=>exact hr
theorem RelK.freeze{tm tm':Nat→Option Value}{t:Nat}{v:Value}{k:TK}{ps rb:List Nat}(hk:RelK c.P B s w h tm t v k)(hs:Step B ps rb fz w w' h h')(hok:Ok B G w h)(hrb: ∀t∈rb,t∈ps)
  (ht:t∉ps) (htf:t∈fz) (hcalm:calm ps rb fz k=true) (htm: ∀p,p∉ps→tm' p=tm p):RelK c.P B s w' h' tm' t v (VL k):=by
 have hF:Same h.F w w':=fun b hb=>hs.F_same hok hb;cases hkk:k.owning with
 |false=>
  have:=hk.keep hs hok hrb ht (fun _=>hkk) hcalm htm;cases k<;>first|exact this|simp[TK.owning]at hkk
 |true=>
  cases k<;>first| (simp[TK.owning]at hkk;done) |skip
  ·rename_i ty e;obtain⟨x,h0,h1⟩:=hk;have h2:=h1.keep (h':=h') hF hs.F fun b hb=>hs.bl_same hok ht hb;exact⟨x,h0,h2.rd (fun b hb=>GH.ext_F hb) fun b hb=>GH.ext_F (hs.fzF t 0 b ht htf hb)⟩
  ·rename_i cs;obtain⟨b,vs,T,h1,h2,h3,h4,h5⟩:=hk;refine⟨b,vs,T,by rw[hs.fz0 t (fun hr=>ht (hrb t hr))];exact h1,h2,by rw[hs.bl_same hok ht h1];exact h3,by simpa using h4,fun i ck hi=> ?_⟩;simp only[Z8l,Z87]at hi;obtain⟨ck',hi',rfl⟩:=hi;exact(h5 i ck' hi').freeze hF hs.F (fun b hb=>hs.bl_same hok ht hb) (fun b hb=>hs.fzF t i b ht htf hb) _
  ·rename_i cs;obtain⟨vs,rfl,h4⟩:=hk;simp only[VL];split
   ·trivial
   ·rename_i hd;obtain⟨x,hx,_,hrd⟩:=h4.rd (G':=fun b=>h.F b∨ ∃i,h.bl t (i+1)=some b) (by simpa using hd) (fun b hb=> .inl hb) (fun _ i b hb=> .inr ⟨i,hb⟩);refine⟨_,hx,hrd.keep (fun b hb=> ?_) fun b hb=> ?_⟩
    ·rcases hb with hb| ⟨i,hi⟩
     ·exact hF b hb
     ·exact hs.bl_same hok ht hi
    ·rcases hb with hb| ⟨i,hi⟩
     ·exact GH.ext_F (hs.F b hb)
     ·exact GH.ext_F (hs.fzF t i b ht htf hi)
theorem RelG.step{a':Act}{ps rb:List Nat}{d:Gam}(hr:RelG c B G s a w h g)(hs:Step B ps rb fz w w' h h')(hok':Ok B G w' h')(hrb: ∀t∈rb,t∈ps)(htm: ∀p,p∉ps→a'.tmps[p]? =a.tmps[p]?)
  (hps: ∀t∈ps,t∈Zu d)
  (hd: ∀t∈Zu d,(holds s (ixC c (d.at t).1)→(d.at t).2.isNo=false→ ∃v,a'.tmps[t]? =some v∧RelK c.P B s w' h' (fun p=>a'.tmps[p]?) t v (d.at t).2)∧(¬holds s (ixC c (d.at t).1)→a'.tmps.getD t undef=undef)):
  RelG c B G s a' w' h' (d++Xv ps rb fz g++YY fz g++g):=by
 have key: ∀t,(holds s (ixC c ((d++Xv ps rb fz g++YY fz g++g).at t).1)→((d++Xv ps rb fz g++YY fz g++g).at t).2.isNo=false→ ∃v,a'.tmps[t]? =some v∧RelK c.P B s w' h' (fun p=>a'.tmps[p]?) t v ((d++Xv ps rb fz g++YY fz g++g).at t).2)∧
   (¬holds s (ixC c ((d++Xv ps rb fz g++YY fz g++g).at t).1)→a'.tmps.getD t undef=undef):=by
  intro t;rw[ZT,ZT,ZT];simp only[Zu,Z9x,Z8I];by_cases h1:t∈Zu d
  ·have h1':t∈List.map (·.1) d:=h1;simp only[h1',true_or,Z8S];exact hd t h1
  ·have h1':t∉List.map (·.1) d:=h1;by_cases h2:t∈Zu (Xv ps rb fz g)
   ·have h2':t∈List.map (·.1) (Xv ps rb fz g):=h2;simp only[h1',h2',Zbk,true_or,Z8S,Z8U,TO h2];exact⟨fun _ hn=>by simp[TK.isNo]at hn,fun hn=>absurd (Wp s) (by simpa[ixC]using hn)⟩
   ·have h2':t∉List.map (·.1) (Xv ps rb fz g):=h2;have hc:=Ro h2;have htp:t∉ps:=fun hp=>h1 (hps t hp);by_cases h3:t∈fz
    ·have h3':t∈List.map (·.1) (YY fz g):=by have:=WH (fz:=fz) (g:=g);unfold Zu at this;rw[this];exact h3
     simp only[h1',h2',h3',Zbk,Z8S,Z8U,Vl h3];refine⟨fun hC hn=> ?_,fun hn=> ?_⟩
     ·have hn':(g.at t).2.isNo=false:=by
       cases hk:(g.at t).2<;>first|rfl| (rw[hk]at hn;simp[VL,TK.isNo]at hn)
      obtain⟨v,hv,hk⟩:=hr.at_ t hC hn';exact⟨v,by rw[htm t htp];exact hv,hk.freeze hs hr.ok hrb htp h3 hc htm⟩
     ·have:=hr.skip t hn;simp only[Z88,htm t htp]at this⊢;exact this
    ·have h3':t∉List.map (·.1) (YY fz g):=by have:=WH (fz:=fz) (g:=g);unfold Zu at this;rw[this];exact h3
     simp only[h1',h2',h3',Zbk,Z8U];refine⟨fun hC hn=> ?_,fun hn=> ?_⟩
     ·obtain⟨v,hv,hk⟩:=hr.at_ t hC hn;exact⟨v,by rw[htm t htp];exact hv,hk.keep hs hr.ok hrb htp (fun hf=>absurd hf h3) hc htm⟩
     ·have:=hr.skip t hn;simp only[Z88,htm t htp]at this⊢;exact this
 exact⟨hok',fun t=>(key t).1,fun t=>(key t).2⟩
theorem RelG.frz(hr:RelG c B G s a w h g)(fz:List Nat):RelG c B G s a w (h.thaw fz) (Vm.frz fz g):=by
 obtain⟨hok,hst⟩:=V6 hr.ok fz;have:=hr.step (d:= []) (a':=a) hst hok (fun _ h=>h) (fun _ _=>rfl) (fun t ht=>by simp at ht) (fun t ht=>by simp[Zu]at ht);simpa[Vm.frz]using this
end
end Vm
namespace Vm
open Go
open Go.RowKit (Below)
def GH.put(h:GH)(d:Nat)(f:Nat→Option Nat)(r:Nat→Nat→Option Nat):GH:= {F:=h.F,bl:=fun u=>if u=d then f else r u,K:=h.K}
def lost(h:GH)(ts:List Nat)(u:Nat)(i:Nat):Option Nat:=if u∈ts then none else h.bl u i
section
variable {c:Ctx} {B:Nat} {G:Nat→Prop} {s:St} {a a':Act} {w w':World} {h h':GH} {g:Gam} {C:Ze} {fz ps rb:List Nat}
theorem Ok.put(hok:Ok B G w h)(hsz:w.heap.size≤w'.heap.size){d:Nat}{f:Nat→Option Nat}{r:Nat→Nat→Option Nat}
  (hr: ∀u i b,u≠d→r u i=some b→h.bl u i=some b) (hf: ∀i b,f i=some b→(w.heap.size≤b∧b<w'.heap.size)∨ ∃t j,h.bl t j=some b)
  (hinj: ∀i j b,f i=some b→f j=some b→i=j) (hdis: ∀i b u j,u≠d→f i=some b→r u j=some b→False):Ok B G w' (h.put d f r):=by
 refine⟨Z8G hok.base hsz,fun b hb=>Z8h (hok.f_lt b hb) hsz,hok.f_or,hok.g_F,fun t i b hb=> ?_,fun t i u j b hb hb'=> ?_,fun b hb=>Z8h (hok.k_lt b hb) hsz,fun t i b hb hK=> ?_,hok.k_F⟩
 ·simp only[GH.put]at hb
  have old: ∀t j,h.bl t j=some b→B≤b∧b<w'.heap.size∧ ¬h.F b:=fun t j hj=>by
   obtain⟨h1,h2,h3⟩:=hok.b_lt t j b hj;exact⟨h1,Z8h h2 hsz,h3⟩
  split at hb
  ·rcases hf i b hb with ⟨h1,h2⟩ | ⟨t,j,hj⟩
   ·exact⟨Z8G hok.base h1,h2,fun hF=>by have:=hok.f_lt _ hF;omega⟩
   ·exact old t j hj
  ·rename_i hne;exact old t i (hr t i b hne hb)
 ·simp only[GH.put]at hb hb';split at hb<;>split at hb'
  ·rename_i e1 e2;exact⟨e1.trans e2.symm,hinj i j b hb hb'⟩
  ·rename_i e1 e2;exact(hdis i b u j e2 hb hb').elim
  ·rename_i e1 e2;exact(hdis j b t i e1 hb' hb).elim
  ·rename_i e1 e2;exact hok.inj t i u j b (hr t i b e1 hb) (hr u j b e2 hb')
 ·simp only[GH.put]at hb;split at hb
  ·rcases hf i b hb with ⟨h1,h2⟩ | ⟨t,j,hj⟩
   ·have:=hok.k_lt _ hK;omega
   ·exact hok.k_bl t j b hj hK
  ·rename_i hne;exact hok.k_bl t i b (hr t i b hne hb) hK
theorem ZO{ts:List Nat}{u i b:Nat}(hl:lost h ts u i=some b):h.bl u i=some b∧u∉ts:=by
 unfold lost at hl;split at hl
 ·cases hl
 ·exact⟨hl,by assumption⟩
theorem zL{ts:List Nat}{u:Nat}(hu:u∉ts):lost h ts u=h.bl u:=by
 funext i;simp[lost,hu]
theorem Xl(hb:Below B w w')(hsame: ∀b,b<w.heap.size→(∀p∈ps,∀i,h.bl p i≠some b)→w'.heap[b]? =w.heap[b]?){d:Nat}{f:Nat→Option Nat}{ts:List Nat}
  (hd:d∈ps) (hts: ∀t∈ts,t∈ps∧t∈rb) (h0:d∉rb→f 0=h.bl d 0):Step B ps rb [] w w' h (h.put d f (lost h ts)):=by
 refine⟨hb,hsame,fun _ hb=>hb,fun t ht _=> ?_,fun t ht=> ?_,fun _ _ _ _ hm=>(by simp at hm),rfl⟩
 ·have h1:t≠d:=fun e=>ht (e▸hd);simp only[GH.put,if_neg h1];exact zL fun e=>ht (hts t e).1
 ·simp only[GH.put];split
  ·rename_i e;subst e;exact h0 ht
  ·rw[zL fun e=>ht (hts t e).2]
theorem Step.after(h2:Step B ps rb [] w w' (h.thaw fz) h'):Step B ps rb fz w w' h h':=by
 have hbl: ∀p i b,(h.thaw fz).bl p i=some b→h.bl p i=some b:=by
  intro p i b hb;simp only[GH.thaw]at hb;split at hb
  ·cases hb
  ·exact hb
 refine⟨h2.below,fun b hb hn=>h2.same b hb fun p hp i hi=>hn p hp i (hbl p i b hi),fun b hb=>h2.F b (.inl hb),fun t ht htf=> ?_,fun t ht=> ?_,fun t i b _ htf hb=>h2.F b (.inr ⟨t,htf,i,hb⟩),h2.K⟩
 ·rw[h2.bl t ht (by simp)];funext i;simp[GH.thaw,htf]
 ·rw[h2.fz0 t ht];simp[GH.thaw]
structure MPost (c:Ctx) (B:Nat) (G:Nat→Prop) (s:St) (a':Act) (w w':World) (h h':GH) (m:MS):Prop where
 step:Step B m.ps m.rb m.fz w w' h h'
 ok:Ok B G w' h'
 ent: ∀t∈Zu m.d,(m.d.at t).1= []∧((m.d.at t).2.isNo=false→ ∃u,a'.tmps[t]? =some u∧RelK c.P B s w' h' (fun p=>a'.tmps[p]?) t u (m.d.at t).2)
theorem Y6{d:Nat}{k:TK}{ts:List Nat}(hd: ∃u,a'.tmps[d]? =some u∧RelK c.P B s w' h' (fun p=>a'.tmps[p]?) d u k):
  ∀t∈Zu ((d,[],k)::ts.map fun t=>(t,([]:Ze),TK.no)),(Gam.at ((d,[],k)::ts.map fun t=>(t,([]:Ze),TK.no)) t).1= []∧
   ((Gam.at ((d,[],k)::ts.map fun t=>(t,([]:Ze),TK.no)) t).2.isNo=false→ ∃u,a'.tmps[t]? =some u∧RelK c.P B s w' h' (fun p=>a'.tmps[p]?) t u (Gam.at ((d,[],k)::ts.map fun t=>(t,([]:Ze),TK.no)) t).2):=by
 intro t ht;simp only[Gam.at];by_cases hdt:d=t
 ·subst hdt;rw[if_pos rfl];exact⟨rfl,fun _=>hd⟩
 ·rw[if_neg hdt]
  have: ∀(ts:List Nat),Gam.at (ts.map fun t=>(t,([]:Ze),TK.no)) t=([],.no):=by
   intro ts
   induction ts with
   |nil=>rfl
   |cons u ts ih=>simp only[Z8x,Gam.at,ih,ite_self]
  rw[this];exact⟨rfl,fun hn=>by simp[TK.isNo]at hn⟩
theorem Xz{d:Nat}(hd:d<a.tmps.size)(v:Value):(a.put (some d) v).tmps[d]? =some v:=by
 simp[Act.put,hd]
theorem TY{d t:Nat}(hd:t≠d)(v:Value):(a.put (some d) v).tmps[t]? =a.tmps[t]? :=by
 simp[Act.put,Zah (Z9R hd)]
theorem Za(s:St)(c:Ctx):holds s (ixC c []):=Wp s
theorem Z33(hr:RelG c B G s a w h g){fl:Bool}{x:Operand}{b:E×List Nat}(hk:JU g fl x=some b){z:V}(hz:eval s b.1=some z):Rd w (h.thaw b.2).F z (a.eval x):=by
 simp only[JU,Z87]at hk;obtain⟨a0,ha,rfl⟩:=hk;obtain⟨y,hy,hyr⟩:=Vx hr (Za s c) ha;obtain⟨z',hz',hzr⟩:=SL (fl:=fl) (b:=a0) hy hyr ⟨z,hz⟩;rw[hz]at hz';cases hz';exact hzr.mono (Q7 fun p hp=>hp)
theorem Z3a(hr:RelG c B G s a w h g){fl ag:Bool}{n:Nat}{x:Operand}{b:E×List Nat}(hk:JU g fl x=some b){z:V}(hz:eval s (tyE ag n b.1)=some z):
  (∀l,z≠ .tup l)∧(ag=true→z.cells.length=n)∧(ag=false→z.one=true)∧Rd w (h.thaw b.2).F z (a.eval x):=by
 obtain⟨h1,h2,h3,h4⟩:=TU hz;exact⟨h2,h3,h4,Z33 hr hk h1⟩
theorem OwnV.mono{P:Program}{o o':Option Nat}{ty:TypeId}{x:V}{v:Value}(hv:OwnV P B w h o ty x v)(hF: ∀b,h.F b→h'.F b)(ho:o=o'):OwnV P B w h' o' ty x v:=by
 subst ho;exact hv.keep (.refl _ _) hF fun _ _=>rfl
theorem LQ(hr:RelG c B G s a w h g){ty:TypeId}{d t:Nat}{e:E}{v:Value}(hd:d<a.tmps.size)(htd:t≠d){y:V}(hy:eval s e=some y)(hown:OwnV c.P B w h (h.bl t 1) ty y v):
  ∃h',MPost c B G s (a.put (some d) v) w w h h' {d:= [(d,[],.own ty e),(t,[],.no)],ps:= [d,t],rb:= [d,t],fz:= [],es:= []}:=by
 refine⟨h.put d (fun i=>if i=1 then h.bl t 1 else none) (lost h [t]),Xl (Z8o _ _) (fun _ _ _=>rfl) (by simp) (fun u hu=>by simp at hu;subst hu;simp) (fun hn=>by simp at hn),
  hr.ok.put (Z8e _) (fun u i b _ hb=>(ZO hb).1) (fun i b hb=> ?_) (fun i j b hi hj=> ?_) (fun i b u j hu hi hj=> ?_),Y6 (ts:= [t]) ⟨v,Xz hd v,y,hy,?_⟩⟩
 ·split at hb
  ·exact .inr ⟨t,1,hb⟩
  ·cases hb
 ·split at hi<;>split at hj<;>first| (cases hi;done) | (cases hj;done) |omega
 ·split at hi
  ·obtain⟨h1,h2⟩:=ZO hj;exact h2 (by simp[(hr.ok.inj t 1 u j b hi h1).1])
  ·cases hi
 ·exact hown.mono (fun _ hb=>hb) (by simp[GH.put])
theorem Z21(hr:RelG c B G s a w h g){d t:Nat}{cs:List (CK×E)}{v:Value}(hd:d<a.tmps.size)(htd:t≠d)(hk:RelK c.P B s w h (fun p=>a.tmps[p]?) t v (.mem cs)):
  ∃h',MPost c B G s (a.put (some d) v) w w h h' {d:= [(d,[],.mem cs),(t,[],.no)],ps:= [d,t],rb:= [d,t],fz:= [],es:= []}:=by
 obtain⟨b,vs,T,h1,rfl,h2,h3,h4⟩:=hk
 refine⟨h.put d (fun i=>h.bl t i) (lost h [t]),Xl (Z8o _ _) (fun _ _ _=>rfl) (by simp) (fun u hu=>by simp at hu;subst hu;simp) (fun hn=>by simp at hn),
  hr.ok.put (Z8e _) (fun u i b _ hb=>(ZO hb).1) (fun i b hb=> .inr ⟨t,i,hb⟩) (fun i j b hi hj=>(hr.ok.inj t i t j b hi hj).2) (fun i b u j hu hi hj=> ?_),Y6 (ts:= [t]) ⟨_,Xz hd _,b,vs,T,by simp[GH.put,h1],rfl,h2,h3,fun i ck hi=> ?_⟩⟩
 ·obtain⟨h5,h6⟩:=ZO hj;exact h6 (by simp[(hr.ok.inj t i u j b hi h5).1])
 ·have:=(h4 i ck hi).keep (h':=h.put d (fun i=>h.bl t i) (lost h [t])) (w':=w) (.refl _ _) (fun _ hb=>hb) fun _ _=>rfl;simpa[GH.put]using this
def GH.yield(h:GH)(d p:Nat):GH:= {F:=fun b=>h.F b∨ ∃i,h.bl p i=some b,bl:=fun u i=>if u=p∨u=d then none else h.bl u i,K:=h.K}
theorem Z1y(hr:RelG c B G s a w h g){d p:Nat}{cs:List (CK×E)}(hd:d<a.tmps.size)(hpd:p≠d)(hm:memOf g p=some cs)(hdd:ZV cs=false){z:V}(hz:eval s (.pt none (cs.map (·.2)))=some z){v:Value}(hv: ∃b,h.bl p 0=some b∧v= .pointer (some ⟨b,0,none⟩)):
  ∃h',MPost c B G s (a.put (some d) v) w w h h' {d:= [(d,[],.val (.pt none (cs.map (·.2))) []),(p,[],.no)],ps:= [d,p],rb:= [d,p],fz:= [],es:= [.pt none (cs.map (·.2))]}:=by
 obtain⟨b,vs,T,h1,_,h2,h3⟩:=hr.memOf hm;obtain⟨b',h1',rfl⟩:=hv;rw[h1]at h1';cases h1';have hok:=hr.ok
 have hbl: ∀u i x,(h.yield d p).bl u i=some x→h.bl u i=some x∧u≠p:=by
  intro u i x hx;simp only[GH.yield]at hx;split at hx
  ·cases hx
  ·rename_i hn;exact⟨hx,fun e=>hn (.inl e)⟩
 refine⟨h.yield d p,⟨Z8o _ _,fun _ _ _=>rfl,fun b hb=> .inl hb,fun t ht _=> ?_,fun t ht=> ?_,fun _ _ _ _ hm=>(by simp at hm),rfl⟩,⟨hok.base,fun b hb=> ?_,fun b hb=> ?_,fun b hb=> .inl (hok.g_F b hb),fun t i b hb=> ?_,fun t i u j b hb hb'=>hok.inj t i u j b (hbl _ _ _ hb).1 (hbl _ _ _ hb').1,hok.k_lt,fun t i b hb=>hok.k_bl t i b (hbl _ _ _ hb).1,fun b hb=> ?_⟩,
  Y6 (ts:= [p]) ⟨_,Xz hd _,z,hz,Sg h1 h2 h3 hdd hz (fun b hb=> .inl (.inl hb)) fun i b hb=> .inl (.inr ⟨i,hb⟩)⟩⟩
 ·simp only[Z8C,ZaH,Zc2,not_or]at ht;funext i;simp[GH.yield,ht.1,ht.2]
 ·simp only[Z8C,ZaH,Zc2,not_or]at ht;simp[GH.yield,ht.1,ht.2]
 ·rcases hb with hb| ⟨i,hi⟩
  ·exact hok.f_lt b hb
  ·exact(hok.b_lt p i b hi).2.1
 ·rcases hb with hb| ⟨i,hi⟩
  ·exact hok.f_or b hb
  ·exact .inr (hok.b_lt p i b hi).1
 ·obtain⟨hb1,hne⟩:=hbl _ _ _ hb;obtain⟨q1,q2,q3⟩:=hok.b_lt t i b hb1;refine⟨q1,q2,fun hF=> ?_⟩;rcases hF with hF| ⟨j,hj⟩
  ·exact q3 hF
  ·exact hne (hok.inj t i p j b hb1 hj).1
 ·rcases hb with hb| ⟨i,hi⟩
  ·exact hok.k_F b hb
  ·exact .inr (hok.k_bl p i b hi)
theorem Ta(hr:RelG c B G s a w h g){ty:TypeId}{d:Nat}{x:Operand}{m:MS}(hd:d<a.tmps.size)(hm:TC c g ty d x=some m)(hes: ∀e∈m.es,∃z,eval s e=some z):
  ∃h',MPost c B G s (a.put (some d) (a.eval x)) w w h h' m:=by
 unfold TC at hm;split at hm
 ·rename_i t ty' e hk;split at hm
  ·cases hm
  ·rename_i hne;have htd:t≠d:=fun e=>hne (.inl e);simp only[Z83]at hm;subst hm;obtain⟨v,hv,⟨y,hy,hown⟩,_⟩:=hr.look (Za s c) (show look g [] t=_ from hk) rfl;rw[Act.eval_tmp a t v hv];exact LQ hr hd htd hy hown
 ·rename_i t cs hk;split at hm
  ·cases hm
  ·rename_i hne;have htd:t≠d:=fun e=>hne (.inl e);simp only[Z83]at hm;subst hm;obtain⟨v,hv,hrel,_⟩:=hr.look (Za s c) (show look g [] t=_ from hk) rfl;rw[Act.eval_tmp a t v hv];exact Z21 hr hd htd hrel
 ·rename_i t p hk;split at hm
  ·rename_i hcond;simp only[Z8c,Zb5,ne_eq]at hcond;simp only[Z84]at hm;obtain⟨cs,hm1,hm⟩:=hm;split at hm
   ·cases hm
   ·rename_i hdd;simp only[Z83]at hm;subst hm;obtain⟨z,hz⟩:=hes _ (List.Mem.head _);obtain⟨v,hv,hrel,_⟩:=hr.look (Za s c) (show look g [] t=_ from hk) rfl;rw[Act.eval_tmp a t v hv];exact Z1y hr hd hcond.2 hm1 (by simpa using hdd) hz hrel
  ·cases hm
 ·rename_i hk;simp only[Z83]at hm;subst hm;rw[UN hr (Za s c) hk]
  exact⟨h.put d (fun _=>none) (lost h []),Xl (Z8o _ _) (fun _ _ _=>rfl) (by simp) (fun u hu=>by simp at hu) (fun hn=>by simp at hn),
   hr.ok.put (Z8e _) (fun u i b _ hb=>(ZO hb).1) (fun i b hb=>by cases hb) (fun i j b hi hj=>by cases hi) (fun i b u j hu hi hj=>by cases hi),Y6 (ts:= []) ⟨_,Xz hd _,rfl⟩⟩
 ·split at hm
  ·rename_i p ty' e hho;simp only[Z83]at hm;subst hm;unfold LS at hho;split at hho
   ·rename_i p' hk;split at hho
    ·rename_i hcond;simp only[Z8c,Zb5,ne_eq]at hcond;simp only[Z87,Z8d]at hho;obtain⟨⟨q1,q2⟩,hho,rfl,rfl,rfl⟩:=hho;obtain⟨v,hv,y,hy,hown⟩:=hr.ownOf hho;have hrel:a.tmps[p']? =some (a.eval _):=ZM hr (Za s c) hk rfl 0;rw[hv]at hrel;simp only[Z83]at hrel;rw[←hrel];exact LQ hr hd hcond.2 hy hown
    ·cases hho
   ·cases hho
  ·simp only[Z87]at hm;obtain⟨b,hb,rfl⟩:=hm;obtain⟨z,hz⟩:=hes b.1 (by simp);have hrd:=Z33 hr hb hz;obtain⟨hok1,_⟩:=V6 hr.ok b.2
   exact⟨(h.thaw b.2).put d (fun _=>none) (lost (h.thaw b.2) []),Step.after (Xl (Z8o _ _) (fun _ _ _=>rfl) (by simp) (fun u hu=>by simp at hu) (fun hn=>by simp at hn)),
    hok1.put (Z8e _) (fun u i b _ hb=>(ZO hb).1) (fun i b hb=>by cases hb) (fun i j b hi hj=>by cases hi) (fun i b u j hu hi hj=>by cases hi),Y6 (ts:= []) ⟨_,Xz hd _,z,hz,hrd.mono fun b hb=>GH.ext_F hb⟩⟩
def YS(cur:Array Value)(o:Nat)(new:Array Value):Array Value:=(cur.toList.take o++new.toList++cur.toList.drop (o+new.size)).toArray
theorem U3{cur new:Array Value}{o:Nat}(hle:o+new.size≤cur.size):(YS cur o new).size=cur.size:=by
 simp[YS];omega
theorem TW{cur new:Array Value}{o:Nat}(hle:o+new.size≤cur.size){i:Nat}(hi:i<new.size):(YS cur o new).getD (o+i) undef=new.getD i undef:=by
 simp only[YS,Z88,Z9A];rw[Z8m (by simp;omega),Z8k (by simp;omega)];congr 1;simp;congr 1;omega
theorem Vj{cur new:Array Value}{o:Nat}(hle:o+new.size≤cur.size){i:Nat}(hi:i<o∨o+new.size≤i):(YS cur o new).getD i undef=cur.getD i undef:=by
 simp only[YS,Z88,Z9A];rcases hi with hi|hi
 ·rw[Z8m (by simp;omega),Z8m (by simp;omega),Z8E,if_pos hi];simp
 ·rw[Z8k (by simp;omega),Z8w];congr 1;simp;congr 1;omega
theorem WN{P:Program}{T:TypeId}(hT:okT P T=true){b o:Nat}{cur:Array Value}{ty:TypeId}(hh:w.heap[b]? =some (.cells cur ty (0,0))){v:Value}(hn:v.cells.size=P.cellsOf T)(hone: ∀(i:Nat),i<v.cells.size→(v.cells.getD i undef).oneCell'=true)(hle:o+v.cells.size≤cur.size):
  (Instr.storeAt T (.pointer (some ⟨b,o,none⟩)) v).run P w= .ok () (w.setRow b (YS cur o v.cells)):=by
 obtain⟨d,i,hd,hi,hs,_⟩:=We hT
 have hst:=run_storeCells_at (P:=P) b o ty v.cells.toList 0 cur w hh (by simpa using hle) (fun u hu=>by
  obtain⟨j,hj⟩:=Z8v hu;have hlt:j<v.cells.size:=by simpa using(Z86.1 hj).1
  have:=hone j hlt
  have hget:v.cells.getD j undef=u:=by
   simp only[Z88];rw[Z97]at hj;rw[hj];rfl
  rw[hget]at this;exact this)
 simp only[Z9M,Za1]at hst;simp[Instr.storeAt,Instr.sureAddr,storeVar,Yr hi,hn,hs,hst,YS]
theorem below_setRow(w:World){b:Nat}(hb:B≤b)(cs:Array Value):Below B w (w.setRow b cs):=
 ⟨rfl,rfl,rfl,by simp[World.setRow],fun k hk=>Z9Z w b k cs (by omega)⟩
theorem VO(hok:Ok B G w h){b:Nat}(cs:Array Value){G':Nat→Prop}(hn: ∀x,G' x→x≠b):Same G' w (w.setRow b cs):=fun x hx=>Z9Z w b x cs (hn x hx)
theorem XQ{cs new:List (CK×E)}{o:Nat}(hle:o+new.length≤cs.length):(Ve cs o new).length=cs.length∧ ∀(i:Nat) (ck:CK×E),(Ve cs o new)[i]? =some ck→(o≤i∧i<o+new.length∧new[i-o]? =some ck)∨((i<o∨o+new.length≤i)∧cs[i]? =some ck):=by
 unfold Ve;refine⟨by simp;omega,fun i ck hi=> ?_⟩;by_cases h1:i<o
 ·right;rw[Z8m (by simp;omega),Z8m (by simp;omega),Z8E,if_pos h1]at hi;exact⟨.inl h1,hi⟩
 ·by_cases h2:i<o+new.length
  ·left;rw[Z8m (by simp;omega),Z8k (by simp;omega)]at hi;refine⟨by omega,h2,?_⟩;have:(List.take o cs).length=o:=by simp;omega
   rw[this]at hi;exact hi
  ·right;rw[Z8k (by simp;omega),Z8w]at hi;refine⟨.inr (by omega),?_⟩;have:(List.take o cs++new).length=o+new.length:=by simp;omega
   rw[this,show o+new.length+(i- (o+new.length))=i from by omega]at hi;exact hi
theorem TZ(hok:Ok B G w h){p o b:Nat}{cs new:List (CK×E)}{cur row:Array Value}{ty:TypeId}(hbl:h.bl p 0=some b)(hh:w.heap[b]? =some (.cells cur ty (0,0)))(hcs:RelCs c.P B s w h p cs cur)
  (hsz:row.size=cur.size) (hle:o+new.length≤cs.length) (hrow: ∀i,i<o∨o+new.length≤i→row.getD i undef=cur.getD i undef) {ts:List Nat} {f:Nat→Option Nat} (hpt:p∉ts)
  (hf0:f 0=h.bl p 0) (hfout: ∀i,i<o∨o+new.length≤i→f (i+1)=h.bl p (i+1)) (hfin: ∀i x,i<new.length→f (o+i+1)=some x→h.bl p (o+i+1)=some x∨ ∃t∈ts,∃j,h.bl t j=some x)
  (hinj: ∀i j x,f i=some x→f j=some x→i=j)
  (hnew: ∀(i:Nat) (ck:CK×E),new[i]? =some ck→RelC c.P B s w h (f (o+i+1)) ck.1 ck.2 (row.getD (o+i) undef)) (tm:Nat→Option Value):
  ∃h',Ok B G (w.setRow b row) h'∧Step B (p::ts) ts [] w (w.setRow b row) h h'∧
   RelK c.P B s (w.setRow b row) h' tm p (.pointer (some ⟨b,0,none⟩)) (.mem (Ve cs o new)):=by
 obtain⟨hbB,hblt,hbF⟩:=hok.b_lt p 0 b hbl;obtain⟨hsl,hget⟩:=XQ hle;have hFs:Same h.F w (w.setRow b row):=VO hok _ fun x hx e=>hbF (e▸hx)
 have hfb: ∀i x,f (i+1)=some x→x≠b∧((h.bl p (i+1)=some x)∨ ∃t∈ts,∃j,h.bl t j=some x):=by
  intro i x hx
  have h2:h.bl p (i+1)=some x∨ ∃t∈ts,∃j,h.bl t j=some x:=by
   by_cases hin:o≤i∧i<o+new.length
   ·have:=hfin (i-o) x (by omega);rw[show o+(i-o)+1=i+1 from by omega]at this;exact this hx
   ·rw[hfout i (by omega)]at hx;exact .inl hx
  refine⟨fun e=> ?_,h2⟩;subst e;rcases h2 with h2| ⟨t,ht,j,hj⟩
  ·have:=(hok.inj p 0 p (i+1) x hbl h2).2;omega
  ·exact hpt ((hok.inj p 0 t j x hbl hj).1▸ht)
 refine⟨h.put p f (lost h ts),hok.put (by simp[World.setRow]) (fun u i x _ hx=>(ZO hx).1) (fun i x hx=> .inr ?_) hinj (fun i x u j hu hi hj=> ?_),
  Xl (below_setRow w hbB _) (fun x hx hn=>Z9Z w b x _ fun e=>hn p (by simp) 0 (e▸hbl)) (by simp) (fun t ht=>⟨by simp[ht],ht⟩) (fun _=>hf0),b,row,ty,by simp[GH.put,hf0,hbl],rfl,ZbZ w b cur _ ty (0,0) hh,by rw[hsz,hcs.1,hsl],fun i ck hi=> ?_⟩
 ·cases i with
  |zero=>rw[hf0]at hx;exact⟨p,0,hx⟩
  |succ i=>
   rcases(hfb i x hx).2 with h2| ⟨t,_,j,hj⟩
   ·exact⟨p,i+1,h2⟩
   ·exact⟨t,j,hj⟩
 ·obtain⟨k1,k2⟩:=ZO hj;cases i with
  |zero=>rw[hf0]at hi;exact hu (hok.inj u j p 0 x k1 hi).1
  |succ i=>
   rcases(hfb i x hi).2 with h2| ⟨t,ht,j',hj'⟩
   ·exact hu (hok.inj u j p (i+1) x k1 h2).1
   ·exact k2 ((hok.inj u j t j' x k1 hj').1▸ht)
 ·have hbl':(h.put p f (lost h ts)).bl p (i+1)=f (i+1):=by simp[GH.put]
  rw[hbl'];have hkeep: ∀x,f (i+1)=some x→(w.setRow b row).heap[x]? =w.heap[x]? :=fun x hx=>Z9Z w b x _ (hfb i x hx).1;rcases hget i ck hi with ⟨h1,h2,h3⟩ | ⟨h1,h3⟩
  ·have:=hnew (i-o) ck h3;rw[show o+(i-o)=i from by omega]at this;exact this.keep hFs (fun _ hb=>hb) hkeep
  ·have:=hcs.2 i ck h3;rw[hrow i h1,hfout i h1];rw[hfout i h1]at hkeep;exact this.keep hFs (fun _ hb=>hb) hkeep
theorem WZ{p o:Nat}{new:List (CK×E)}{k:TK}(hp:putM g p o new=some k): ∃cs,memOf g p=some cs∧o+new.length≤cs.length∧k= .mem (Ve cs o new):=by
 unfold putM at hp;simp only[Z84]at hp;obtain⟨cs,hm,hp⟩:=hp;split at hp
 ·simp only[Z83]at hp;exact⟨cs,hm,by assumption,hp.symm⟩
 ·cases hp
theorem Wq(hr:RelG c B G s a w h g){T:TypeId}(hT:okT c.P T=true){p o b:Nat}{new:List (CK×E)}{k:TK}(hp:putM g p o new=some k)(hbl:h.bl p 0=some b){v:Value}(hn:v.cells.size=c.P.cellsOf T)(hlen:new.length=c.P.cellsOf T)
  {ts:List Nat} {f:Nat→Option Nat} (hpt:p∉ts) (hf0:f 0=h.bl p 0) (hfout: ∀i,i<o∨o+new.length≤i→f (i+1)=h.bl p (i+1)) (hfin: ∀i x,i<new.length→f (o+i+1)=some x→h.bl p (o+i+1)=some x∨ ∃t∈ts,∃j,h.bl t j=some x)
  (hinj: ∀i j x,f i=some x→f j=some x→i=j)
  (hnew: ∀(i:Nat) (ck:CK×E),new[i]? =some ck→RelC c.P B s w h (f (o+i+1)) ck.1 ck.2 (v.cells.getD i undef)):
  ∃w' h',(Instr.storeAt T (.pointer (some ⟨b,o,none⟩)) v).run c.P w= .ok () w'∧Ok B G w' h'∧Step B (p::ts) ts [] w w' h h'∧ ∃u,a.tmps[p]? =some u∧RelK c.P B s w' h' (fun p=>a.tmps[p]?) p u k:=by
 obtain⟨cs,hm,hle,rfl⟩:=WZ hp;obtain⟨b',cur,ty,h1,htm,hh,hcs⟩:=hr.memOf hm;rw[hbl]at h1;cases h1;have hle':o+v.cells.size≤cur.size:=by rw[hcs.1,hn,←hlen];exact hle
 have hvn:v.cells.size=new.length:=by rw[hn,hlen]
 obtain⟨h',k1,k2,k3⟩:=TZ (row:=YS cur o v.cells) hr.ok hbl hh hcs (U3 hle') hle (fun i hi=>Vj hle' (by omega)) hpt hf0 hfout hfin hinj (fun i ck hi=>by
  rw[TW hle' (by rw[hvn];exact(Z86.1 hi).1)];exact hnew i ck hi) (fun p=>a.tmps[p]?)
 refine⟨_,h',WN hT hh hn (fun i hi=> ?_) hle',k1,k2,_,htm,k3⟩;exact(hnew i new[i] (Z85 (by omega))).cell
theorem Z0U{n:Nat}{e:E}{z:V}{v:Value}(hz:eval s e=some z)(ht: ∀l,z≠ .tup l)(hrd:Rd w h.F z v)(o:Option Nat){i:Nat}{ck:CK×E}(hlt:i<z.cells.length)(hi:ck=(CK.fz,E.fld e i)):RelC c.P B s w h o ck.1 ck.2 (v.cells.getD i undef):=by
 subst hi;obtain⟨hs1,hs2,hs3⟩:=hrd.cells ht;have hget:z.cells[i]? =some z.cells[i]:=Z85 hlt;refine⟨z.cells[i],?_,hs2 _ (Z8u _),hs3 i _ hget⟩;simp only[eval,hz,Z8g,fldV,Z4f ht,hget];unfold oneV;rw[if_pos (hs2 _ (Z8u _))]
theorem UA{β:Type}{n i:Nat}{f:Nat→β}{y:β}(hi:((List.range n).map f)[i]? =some y):i<n∧y=f i:=by
 simp only[Z8l,Z87]at hi;obtain⟨j,hj,rfl⟩:=hi;have hlt:i<n:=by simpa using(Z86.1 hj).1
 have:j=i:=by simpa[hlt]using hj.symm
 exact⟨hlt,by rw[this]⟩
theorem Ti(hr:RelG c B G s a w h g){T:TypeId}(hT:okT c.P T=true)(hT1:Zn c.P T=true∨c.P.cellsOf T=1){p o:Nat}{x:Operand}{m:MS}(hm:TM c g T p o x=some m)(hes: ∀e∈m.es,∃z,eval s e=some z){b:Nat}(hbl:h.bl p 0=some b):
  ∃w' h',(Instr.storeAt T (.pointer (some ⟨b,o,none⟩)) (a.eval x)).run c.P w= .ok () w'∧MPost c B G s a w w' h h' m:=by
 have hthaw: ∀fz,(h.thaw fz).bl p 0=some b:=fun fz=>by simp[GH.thaw,hbl]
 unfold TM at hm;simp only at hm;split at hm
 ·rename_i hag;split at hm
  ·rename_i t cs hk;split at hm
   ·rename_i hcond;obtain⟨hl,htp,_⟩:=hcond;simp only[Z87]at hm;obtain⟨k,hput,rfl⟩:=hm;obtain⟨v,hv,⟨vs,rfl,hcs⟩,_⟩:=hr.look (Za s c) (show look g [] t=_ from hk) rfl;rw[Act.eval_tmp a t _ hv]
    obtain⟨w',h',e1,e2,e3,e4⟩:=Wq hr hT hput hbl (v:= .agg vs) (by show vs.size=_;rw[hcs.1,hl]) hl (ts:= [t]) (f:=fun i=>if o+1≤i∧i<o+1+cs.length then h.bl t (i-o)else h.bl p i) (by simpa using Z9R htp)
     (if_neg (by omega)) (fun i hi=>if_neg (by omega)) (fun i x hi hx=> .inr ⟨t,by simp,_,by rw[if_pos (by omega)]at hx;exact hx⟩) (fun i j x hi hj=>by
      split at hi<;>split at hj
      ·have:=(hr.ok.inj t _ t _ x hi hj).2;omega
      ·exact absurd (hr.ok.inj t _ p _ x hi hj).1 htp
      ·exact absurd (hr.ok.inj t _ p _ x hj hi).1 htp
      ·exact(hr.ok.inj p _ p _ x hi hj).2)
     (fun i ck hi=>by
      have hlt:=(Z86.1 hi).1;rw[if_pos (by omega),show o+i+1-o=i+1 from by omega];exact hcs.2 i ck hi)
    exact⟨w',h',e1,e3,e2,Y6 (ts:= [t]) e4⟩
   ·cases hm
  ·simp only[Z84,Z87]at hm;obtain⟨b0,hb0,k,hput,rfl⟩:=hm;obtain⟨z,hz⟩:=hes _ (List.Mem.head _);obtain⟨k1,k2,k3,k4⟩:=Z3a hr hb0 hz;obtain⟨hs1,hs2,hs3⟩:=k4.cells k1
   obtain⟨w',h',e1,e2,e3,e4⟩:=Wq (hr.frz b0.2) hT hput (hthaw _) (hs1.trans (k2 rfl)) (by simp) (ts:= []) (f:=(h.thaw b0.2).bl p) (by simp) rfl (fun _ _=>rfl) (fun i x _ hx=> .inl hx)
    (fun i j x hi hj=>((V6 hr.ok b0.2).1.inj p i p j x hi hj).2) (fun i ck hi=>by
     obtain⟨hlt,rfl⟩:=UA hi;exact Z0U (n:=0) hz k1 k4 _ (by rw[k2 rfl];exact hlt) rfl)
   exact⟨w',h',e1,e3.after,e2,Y6 (ts:= []) e4⟩
 ·rename_i hag;have h1:c.P.cellsOf T=1:=hT1.resolve_left hag;split at hm
  ·rename_i t ty e hk;split at hm
   ·rename_i hcond;obtain⟨htp,_⟩:=hcond;simp only[Z87]at hm;obtain⟨k,hput,rfl⟩:=hm;obtain⟨v,hv,⟨y,hy,hown⟩,_⟩:=hr.look (Za s c) (show look g [] t=_ from hk) rfl;rw[Act.eval_tmp a t _ hv]
    have hvc:v.cells= #[v]:=by
     rcases hown with ⟨l,xs,_,_,_,⟨_,hc⟩,_⟩ | ⟨_,_,_,_,_,_,_,rfl,_⟩
     ·rcases hc with ⟨rfl,_⟩ | ⟨_,_,_,rfl,_⟩<;>rfl
     ·rfl
    obtain⟨w',h',e1,e2,e3,e4⟩:=Wq hr hT hput hbl (v:=v) (by rw[hvc,h1];rfl) (by rw[h1];rfl) (ts:= [t]) (f:=fun i=>if i=o+1 then h.bl t 1 else h.bl p i) (by simpa using Z9R htp)
     (if_neg (by omega)) (fun i hi=>if_neg (by simp only[Z9m]at hi;omega)) (fun i x hi hx=> .inr ⟨t,by simp,1,by simp only[Z9m]at hi;rw[if_pos (by omega)]at hx;exact hx⟩) (fun i j x hi hj=>by
      split at hi<;>split at hj
      ·omega
      ·exact absurd (hr.ok.inj t _ p _ x hi hj).1 htp
      ·exact absurd (hr.ok.inj t _ p _ x hj hi).1 htp
      ·exact(hr.ok.inj p _ p _ x hi hj).2)
     (fun i ck hi=>by
      cases i with
      |zero=>simp at hi;subst hi;rw[if_pos (by omega),hvc];exact⟨y,hy,hown⟩
      |succ i=>simp at hi)
    exact⟨w',h',e1,e3,e2,Y6 (ts:= [t]) e4⟩
   ·cases hm
  ·rename_i hk;simp only[Z87]at hm;obtain⟨k,hput,rfl⟩:=hm;rw[UN hr (Za s c) hk]
   obtain⟨w',h',e1,e2,e3,e4⟩:=Wq hr hT hput hbl (v:= .slice none 0 0) (by rw[h1];rfl) (by rw[h1];rfl) (ts:= []) (f:=h.bl p) (by simp) rfl (fun _ _=>rfl) (fun i x _ hx=> .inl hx)
    (fun i j x hi hj=>(hr.ok.inj p i p j x hi hj).2) (fun i ck hi=>by
     cases i with
     |zero=>simp at hi;subst hi;exact⟨rfl,rfl⟩
     |succ i=>simp at hi)
   exact⟨w',h',e1,e3,e2,Y6 (ts:= []) e4⟩
  ·simp only[Z84,Z87]at hm;obtain⟨b0,hb0,k,hput,rfl⟩:=hm;obtain⟨z,hz⟩:=hes _ (List.Mem.head _);obtain⟨hz1,hzo⟩:=Jc hz;have k4:=Z33 hr hb0 hz1;obtain⟨hs1,hs2,hs3⟩:=k4.cells (SA hzo);rw[Ys hzo]at hs1 hs3
   obtain⟨w',h',e1,e2,e3,e4⟩:=Wq (hr.frz b0.2) hT hput (hthaw _) (hs1.trans (by rw[h1];rfl)) (by rw[h1];rfl) (ts:= []) (f:=(h.thaw b0.2).bl p) (by simp) rfl (fun _ _=>rfl) (fun i x _ hx=> .inl hx)
    (fun i j x hi hj=>((V6 hr.ok b0.2).1.inj p i p j x hi hj).2) (fun i ck hi=>by
     cases i with
     |zero=>simp at hi;subst hi;exact⟨z,hz,hzo,hs3 0 z rfl⟩
     |succ i=>simp at hi)
   exact⟨w',h',e1,e3.after,e2,Y6 (ts:= []) e4⟩
end
end Vm
namespace Vm
open Go
open Go.RowKit (Below)
theorem Th{cs b:List V}{o:Nat}(hle:o+b.length≤cs.length):(setCells cs o b).length=cs.length∧(∀i,i<b.length→(setCells cs o b)[o+i]? =b[i]?)∧ ∀i,i<o∨o+b.length≤i→(setCells cs o b)[i]? =cs[i]? :=by
 unfold setCells;refine⟨by simp;omega,fun i hi=> ?_,fun i hi=> ?_⟩
 ·rw[Z8m (by simp;omega),Z8k (by simp;omega)];congr 1;simp;omega
 ·rcases hi with hi|hi
  ·rw[Z8m (by simp;omega),Z8m (by simp;omega),Z8E,if_pos hi]
  ·rw[Z8k (by simp;omega),Z8w];congr 1;simp;omega
theorem Kv{cs b:List V}{o:Nat}{x:V}(hx:x∈setCells cs o b):x∈cs∨x∈b:=by
 unfold setCells at hx;simp only[Z8I]at hx;rcases hx with (hx|hx) |hx
 ·exact .inl (Z8X hx)
 ·exact .inr hx
 ·exact .inl (Z9F hx)
theorem Z2e{y:V}{k o:Nat}{b:List V}(hy:y.fits k)(hb: ∀x∈b,x.one=true)(hne:b≠ [])(hle:o+b.length≤y.cells.length):
  (y.put o b).fits k∧(∀i,i<b.length→(y.put o b).cells[o+i]? =b[i]?)∧ ∀i,i<o∨o+b.length≤i→(y.put o b).cells[i]? =y.cells[i]? :=by
 have other:y.cells= [y]→y.put o b=b.headD y→(y.put o b).fits k∧(∀i,i<b.length→(y.put o b).cells[o+i]? =b[i]?)∧ ∀i,i<o∨o+b.length≤i→(y.put o b).cells[i]? =y.cells[i]? :=by
  intro hyc hput;have hlen:y.cells.length=1:=by rw[hyc];rfl
  match b,hne,hle with
  | [z],_,hle=>
    simp only[Z9m]at hle;have ho:o=0:=by omega
    subst ho;have hz:=hb z (by simp);have hpz:y.put 0 [z]=z:=by rw[hput];rfl
    rw[hpz];refine⟨⟨by rw[Ys hz,←hy.1,hlen];rfl,fun c hc=>by rw[Ys hz]at hc;simp at hc;subst hc;exact hz⟩,fun i hi=> ?_,fun i hi=> ?_⟩
    ·have:i=0:=by simpa using hi
     subst this;rw[Ys hz]
    ·have h1:1≤i:=by simp at hi;omega
     rw[Ys hz,hyc];simp[Z9d,h1]
  |z::z'::r,_,hle=>simp only[Z96]at hle;omega
 cases y with
 |agg cs=>
  have hle':o+b.length≤cs.length:=hle;obtain⟨h1,h2,h3⟩:=Th hle';refine⟨⟨by show(setCells cs o b).length=k;rw[h1];exact hy.1,fun c hc=> ?_⟩,h2,h3⟩;rcases Kv (show c∈setCells cs o b from hc)with hc|hc
  ·exact hy.2 c hc
  ·exact hb c hc
 |tup l=>exact other rfl rfl
 |int k n=>exact other rfl rfl
 |bool v=>exact other rfl rfl
 |str v=>exact other rfl rfl
 |sl l=>exact other rfl rfl
 |ptr l=>exact other rfl rfl
 |fn f=>exact other rfl rfl
 |clo f cs=>exact other rfl rfl
 |nul k=>exact other rfl rfl
 |mp id ks xs=>exact other rfl rfl
theorem Jf{x i z u:V}{o:Nat}(hz:updV x i o z=some u): ∃l ki q y,x= .sl l∧i= .int ki (q:Nat)∧l[q]? =some y∧o+z.cells.length≤y.cells.length∧z.cells≠ []∧u= .sl (l.set q (y.put o z.cells)):=by
 unfold updV at hz;split at hz
 ·rename_i l ki i;split at hz
  ·rename_i h0;obtain⟨q,rfl⟩:=Z8p h0;rw[Z8j,Z84]at hz;obtain⟨y,hy,hz⟩:=hz;split at hz
   ·rename_i hc;simp only[Z83]at hz;exact⟨l,ki,q,y,rfl,rfl,hy,hc.1,hc.2,hz.symm⟩
   ·simp at hz
  ·simp at hz
 ·simp at hz
section
variable {c:Ctx} {B:Nat} {G:Nat→Prop} {s:St} {a a':Act} {w w':World} {h h':GH} {g:Gam} {C:Ze} {fz ps rb:List Nat}
theorem OwnV.store(hok:Ok B G w h){p i n:Nat}{ty:TypeId}{x u:V}{v:Value}(hv:OwnV c.P B w h (h.bl p i) ty x v)(hbl:h.bl p i=some n){ki:IntKind}{q off:Nat}{z:V}(hu:updV x (.int ki (q:Nat)) off z=some u)
  {T:TypeId} (hT:okT c.P T=true) {vz:Value} (hzt: ∀l,z≠ .tup l) (hzr:Rd w h.F z vz) (hzn:z.cells.length=c.P.cellsOf T):
  ∃row,(Instr.storeAt T (.pointer (some ⟨n,q*c.P.cellsOf ty+off,none⟩)) vz).run c.P w= .ok () (w.setRow n row)∧OwnV c.P B (w.setRow n row) h (h.bl p i) ty u v:=by
 rcases hv with ⟨l,xs,rfl,h0,hfit,hown,hb,hrd⟩ | ⟨_,_,_,_,_,_,rfl,_⟩
 case inr=>obtain⟨_,_,_,_,hl',_⟩:=Jf hu;cases hl'
 obtain⟨l',ki',q',y,hl',hq',hy,hle,hne,rfl⟩:=Jf hu;cases hl';simp only[V.int.injEq]at hq';have hqq:q'=q:=by omega
 subst hqq;obtain⟨hnB,hnlt,hnF⟩:=hok.b_lt p i n hbl;obtain⟨hs1,hs2,hs3⟩:=hzr.cells hzt;have hyf:=hfit y (Z8f hy);obtain⟨f1,f2,f3⟩:=Z2e hyf (fun x hx=>hs2 x hx) hne hle;have hq:q'<l.length:=(Z86.1 hy).1;have hqk:q'*c.P.cellsOf ty+c.P.cellsOf ty≤l.length*c.P.cellsOf ty:=by rw[←Z9q];exact Z8L _ hq
 rw[hyf.1]at hle;rcases hown.2 with ⟨rfl,hn⟩ | ⟨n',cap,cur,rfl,hB,hh,hlc,hcap,hsz,htk⟩
 ·omega
 ·have hnn:n'=n:=by
   have:Value.ownBlock (.slice (some ⟨n',0,none⟩) l.length cap)=some n':=rfl;rw[this,hbl]at hb;cases hb;rfl
  subst hnn;have hcl:l.length*c.P.cellsOf ty≤cur.size:=by rw[hsz];exact Z8L _ hlc
  have hle':(q'*c.P.cellsOf ty+off)+vz.cells.size≤cur.size:=by rw[hs1];omega
  refine⟨YS cur (q'*c.P.cellsOf ty+off) vz.cells,WN hT hh (by rw[hs1,hzn]) (fun j hj=> ?_) hle',?_⟩
  ·have hj':j<z.cells.length:=by rw[←hs1];exact hj
   have:=hs3 j z.cells[j] (Z85 hj');rw[this.one_eq];exact hs2 _ (Z8u _)
  ·have hfit': ∀x∈l.set q' (y.put off z.cells),x.fits (c.P.cellsOf ty):=by
    intro x hx;rcases Z9p hx with hx|rfl
    ·exact hfit x hx
    ·exact f1
   have hFs:Same h.F w (w.setRow n' (YS cur (q'*c.P.cellsOf ty+off) vz.cells)):=VO hok _ fun x hx e=>hnF (e▸hx);have hrs:=U3 hle';refine .inl ⟨l.set q' (y.put off z.cells),(YS cur (q'*c.P.cellsOf ty+off) vz.cells).toList.take (l.length*c.P.cellsOf ty),rfl,h0,hfit',⟨by simp[hrs];omega,.inr ⟨n',cap,_,by rw[Z9y],hB,ZbZ w n' cur _ ty (0,0) hh,by simpa using hlc,hcap,by rw[hrs];exact hsz,by rw[Z9y]⟩⟩,hb,fun j ck hj=> ?_⟩;obtain⟨q2,r,y2,hq2,hr,rfl,hyc⟩:=UK hfit' h0 hj;have hq2l:q2<l.length:=by simpa using(Z86.1 hq2).1
   have hq2k:q2*c.P.cellsOf ty+c.P.cellsOf ty≤l.length*c.P.cellsOf ty:=by rw[←Z9q];exact Z8L _ hq2l
   have hlt:q2*c.P.cellsOf ty+r< (YS cur (q'*c.P.cellsOf ty+off) vz.cells).size:=by rw[hrs];omega
   refine⟨(YS cur (q'*c.P.cellsOf ty+off) vz.cells).getD (q2*c.P.cellsOf ty+r) undef,?_,?_⟩
   ·rw[Z8E,if_pos (by omega),Z97];simp[Z88,hlt]
   ·
    have old: ∀y0,l[q2]? =some y0→y0.cells[r]? =some ck→(q2*c.P.cellsOf ty+r<q'*c.P.cellsOf ty+off∨q'*c.P.cellsOf ty+off+vz.cells.size≤q2*c.P.cellsOf ty+r)→
      Rd (w.setRow n' (YS cur (q'*c.P.cellsOf ty+off) vz.cells)) h.F ck ((YS cur (q'*c.P.cellsOf ty+off) vz.cells).getD (q2*c.P.cellsOf ty+r) undef):=by
     intro y0 hy0 hyr hout;obtain⟨u0,hu0,hru⟩:=hrd (q2*c.P.cellsOf ty+r) ck (by rw[WA hfit hy0 r hr];exact hyr);rw[Vj hle' hout]
     have:cur.getD (q2*c.P.cellsOf ty+r) undef=u0:=by
      rw[←htk,Z8E,if_pos (by omega)]at hu0;have hu':cur[q2*c.P.cellsOf ty+r]? =some u0:=by simpa using hu0
      simp[Z88,hu']
     rw[this];exact hru.keep hFs fun _ hb=>hb
    by_cases hqe:q2=q'
    ·subst hqe;rw[Z9w hq]at hq2;cases hq2;by_cases hin:off≤r∧r<off+z.cells.length
     ·have h2:=f2 (r-off) (by omega);rw[show off+(r-off)=r from by omega,hyc]at h2;have h3:=TW hle' (i:=r-off) (by omega);rw[show q2*c.P.cellsOf ty+off+(r-off)=q2*c.P.cellsOf ty+r from by omega]at h3;rw[h3];exact(hs3 (r-off) ck h2.symm).keep hFs fun _ hb=>hb
     ·have h3:=f3 r (by omega);rw[hyc]at h3;exact old y hy h3.symm (by omega)
    ·rw[Z8Y (Z9R hqe)]at hq2
     have hsep:q2*c.P.cellsOf ty+c.P.cellsOf ty≤q'*c.P.cellsOf ty∨q'*c.P.cellsOf ty+c.P.cellsOf ty≤q2*c.P.cellsOf ty:=by
      rcases Zav hqe with hlt'|hlt'
      ·left;rw[←Z9q];exact Z8L _ hlt'
      ·right;rw[←Z9q];exact Z8L _ hlt'
     exact old y2 hq2 hyc (by omega)
theorem Jd(hr:RelG c B G s a w h g){T:TypeId}(hT:okT c.P T=true)(hT1:Zn c.P T=true∨c.P.cellsOf T=1){p off kk:Nat}{i:Option Nat}{j:E}{x:Operand}{m:MS}(hm:Qb c g T p i j off kk x=some m)(hes: ∀e∈m.es,∃z,eval s e=some z)
  {n q:Nat} (hbl:h.bl p (plI i)=some n) {ki:IntKind} (hj:eval s j=some (.int ki (q:Nat))):
  ∃w' h',(Instr.storeAt T (.pointer (some ⟨n,q*kk+off,none⟩)) (a.eval x)).run c.P w= .ok () w'∧MPost c B G s a w w' h h' m:=by
 unfold Qb at hm;simp only[Z84]at hm;obtain⟨b0,hb0,hm⟩:=hm;split at hm
 ·cases hm
 ·rename_i hpf;have hpf':p∉b0.2:=by simpa using hpf
  have hbl1: ∀i,(h.thaw b0.2).bl p i=h.bl p i:=fun i=>by simp[GH.thaw,hpf']
  have hr1:=hr.frz b0.2
  have upd_e: ∀ {e1 e2:E} {u:V},eval s (.upd e1 j off e2)=some u→ ∃y z,eval s e1=some y∧eval s e2=some z∧updV y (.int ki (q:Nat)) off z=some u:=by
   intro e1 e2 u hu;simp only[eval,hj,Z8g,Z84]at hu;obtain⟨y,hy,z,hz,hu⟩:=hu;exact⟨y,z,hy,hz,hu⟩
  have zs: ∀ {z:V},eval s (tyE (Zn c.P T) (c.P.cellsOf T) b0.1)=some z→(∀l,z≠ .tup l)∧Rd w (h.thaw b0.2).F z (a.eval x)∧z.cells.length=c.P.cellsOf T:=by
   intro z hz;obtain⟨k1,k2,k3,k4⟩:=Z3a hr hb0 hz;refine⟨k1,k4,?_⟩;cases hag:Zn c.P T with
   |true=>exact k2 hag
   |false=>
    have:c.P.cellsOf T=1:=hT1.resolve_left (by rw[hag];simp);rw[Ys (k3 hag),this];rfl
  split at hm
  ·simp only[Z84]at hm;obtain⟨⟨ty,e⟩,ho,hm⟩:=hm;split at hm
   ·rename_i hkk;simp only[Z83]at hm;subst hm;simp only at hkk;subst hkk;obtain⟨v,hv,y,hy,hown⟩:=hr1.ownOf ho;obtain⟨u,hu⟩:=hes _ (List.Mem.head _);obtain⟨y',z,hy',hz,hupd⟩:=upd_e hu;rw[hy]at hy';cases hy';obtain⟨k1,k2,k3⟩:=zs hz;have hbl':(h.thaw b0.2).bl p 1=some n:=by rw[hbl1];exact hbl
    obtain⟨row,hrun,hres⟩:=hown.store hr1.ok hbl' hupd hT k1 k2 k3;obtain⟨hnB,hnlt,_⟩:=hr1.ok.b_lt p 1 n hbl'
    refine⟨_,h.thaw b0.2,hrun,Step.after ⟨below_setRow w hnB _,fun x hx hn=>Z9Z w n x _ fun e=>hn p (by simp) 1 (e▸hbl'),fun _ hb=>hb,fun _ _ _=>rfl,fun _ _=>rfl,fun _ _ _ _ hm=>(by simp at hm),rfl⟩,
     ⟨by simp[World.setRow];exact hr1.ok.base,fun b hb=>(by simp[World.setRow];exact hr1.ok.f_lt b hb),hr1.ok.f_or,hr1.ok.g_F,fun t i b hb=>(by simp[World.setRow];exact hr1.ok.b_lt t i b hb),hr1.ok.inj,fun b hb=>(by simp[World.setRow];exact hr1.ok.k_lt b hb),hr1.ok.k_bl,hr1.ok.k_F⟩,Y6 (ts:= []) ⟨v,hv,u,hu,hres⟩⟩
   ·cases hm
  ·rename_i q0;simp only[Z84]at hm;obtain⟨cs,hmem,hm⟩:=hm;split at hm
   ·rename_i ty e0 hc;split at hm
    ·rename_i hkk;subst hkk;simp only[Z87]at hm;obtain⟨k,hput,rfl⟩:=hm;obtain⟨cs',hmem',hle,rfl⟩:=WZ hput;rw[hmem]at hmem';cases hmem';obtain⟨b,vs,ty',hb0',htm,hh,hcs⟩:=hr1.memOf hmem;obtain⟨y,hy,hown⟩:=hcs.2 q0 _ hc;obtain⟨u,hu⟩:=hes _ (List.Mem.head _);obtain⟨y',z,hy',hz,hupd⟩:=upd_e hu;rw[hy]at hy';cases hy';obtain⟨k1,k2,k3⟩:=zs hz;have hbl':(h.thaw b0.2).bl p (q0+1)=some n:=by rw[hbl1];exact hbl
     obtain⟨row,hrun,hres⟩:=hown.store hr1.ok hbl' hupd hT k1 k2 k3;obtain⟨hnB,hnlt,hnF⟩:=hr1.ok.b_lt p (q0+1) n hbl'
     have hbn:b≠n:=fun e=>by
      subst e;have:=(hr1.ok.inj p 0 p (q0+1) b hb0' hbl').2;omega
     obtain⟨hsl,hget⟩:=XQ hle
     refine⟨_,h.thaw b0.2,hrun,Step.after ⟨below_setRow w hnB _,fun x hx hn=>Z9Z w n x _ fun e=>hn p (by simp) (q0+1) (e▸hbl'),fun _ hb=>hb,fun _ _ _=>rfl,fun _ _=>rfl,fun _ _ _ _ hm=>(by simp at hm),rfl⟩,
      ⟨by simp[World.setRow];exact hr1.ok.base,fun b hb=>(by simp[World.setRow];exact hr1.ok.f_lt b hb),hr1.ok.f_or,hr1.ok.g_F,fun t i b hb=>(by simp[World.setRow];exact hr1.ok.b_lt t i b hb),hr1.ok.inj,fun b hb=>(by simp[World.setRow];exact hr1.ok.k_lt b hb),hr1.ok.k_bl,hr1.ok.k_F⟩,
      Y6 (ts:= []) ⟨_,htm,b,vs,ty',hb0',rfl,by rw[Z9Z w n b _ hbn];exact hh,by rw[hcs.1,hsl],fun i ck hi=> ?_⟩⟩
     rcases hget i ck hi with ⟨h1,h2,h3⟩ | ⟨h1,h3⟩
     ·have hiq:i=q0:=by simp only[Z9m]at h2;omega
      subst hiq;simp at h3;subst h3;exact⟨u,hu,hres⟩
     ·refine(hcs.2 i ck h3).keep (VO hr1.ok _ fun x hx e=>hnF (e▸hx)) (fun _ hb=>hb) fun x hx=>Z9Z w n x _ fun e=> ?_;subst e;have:=(hr1.ok.inj p (i+1) p (q0+1) x hx hbl').2;simp only[Z9m]at h1;omega
    ·cases hm
   ·cases hm
theorem qh{x i u z:V}{n k:Nat}(hz:SM x i n k z=some u): ∃cs ki j,x= .agg cs∧i= .int ki (j:Nat)∧j<n∧cs.length=n*k∧z.cells.length=k∧u= .agg (setCells cs (j*k) z.cells):=by
 unfold SM at hz;split at hz
 ·rename_i cs ki i;split at hz
  ·rename_i hc;obtain⟨h0,h1,h2,h3⟩:=hc;obtain⟨j,rfl⟩:=Z8p h0;simp only[Z8j,Z83]at hz;exact⟨cs,ki,j,rfl,rfl,by omega,h2,h3,hz.symm⟩
  ·simp at hz
 ·simp at hz
theorem K8(hr:RelG c B G s a w h g){T:TypeId}(hT:okT c.P T=true){p o n kk:Nat}{j:E}{x:Operand}{m:MS}(hm:Qj c g T p o j n kk x=some m)(hes: ∀e∈m.es,∃z,eval s e=some z)
  {b q:Nat} (hbl:h.bl p 0=some b) {ki:IntKind} (hj:eval s j=some (.int ki (q:Nat))) (hq:q<n):
  ∃w' h',(Instr.storeAt T (.pointer (some ⟨b,o+q*kk,none⟩)) (a.eval x)).run c.P w= .ok () w'∧MPost c B G s a w w' h h' m:=by
 unfold Qj at hm;simp only[Z84]at hm;obtain⟨b0,hb0,hm⟩:=hm;split at hm
 ·cases hm
 ·rename_i hcond;simp only[Z8r,Z93,Z8s,not_or,Decidable.not_not,ZaB,ZaG]at hcond;obtain⟨hsh,hk⟩:=hcond;simp only[Z84]at hm;obtain⟨cs,hmem,hm⟩:=hm;split at hm
  ·rename_i hpart;obtain⟨hpl,hpf⟩:=hpart;simp only[Z87]at hm;obtain⟨k,hput,rfl⟩:=hm;obtain⟨cs',hmem',hle,rfl⟩:=WZ hput;rw[hmem]at hmem';cases hmem';obtain⟨b',cur,ty,h1,htm,hh,hcs⟩:=hr.memOf hmem;rw[hbl]at h1;cases h1;obtain⟨u,hu⟩:=hes _ (List.Mem.head _);have hu0:=hu;simp only[eval,hj,Z8g,Z84]at hu;obtain⟨y,hy,z,hz,hu⟩:=hu;obtain⟨cs0,ki',q',rfl,hq',hqn,hcl,hzl,rfl⟩:=qh hu;have hqq:q'=q:=by simp only[V.int.injEq]at hq';omega
   subst hqq;obtain⟨k1,k2,k3,k4⟩:=Z3a hr hb0 hz
   have hF: ∀b,(h.thaw b0.2).F b→h.F b:=by
    intro b hb;rcases hb with hb| ⟨t,ht,_⟩
    ·exact hb
    ·rw[hsh]at ht;simp at ht
   have k4:=k4.mono hF;obtain⟨hs1,hs2,hs3⟩:=k4.cells k1
   have hnd:ZV ((cs.drop o).take (n*kk))=false:=by
    simp only[ZV,ZaT,Zap,Za3,ne_eq];intro ck hck hd;have:=Z8i.1 hpf ck hck;rw[hd]at this;simp at this
   have hno:V2 ((cs.drop o).take (n*kk))=false:=by
    simp only[V2,ZaT,Zap];intro ck hck;have:=Z8i.1 hpf ck hck;simp only[Z8P]at this;rw[this]
   obtain⟨xs,hxe,hxl,hxo,hxr,hxv⟩:=hcs.part_rd hpl hnd (G':=h.F) (fun _ hb=>hb) (fun ho=>by rw[hno]at ho;cases ho);have hle1:q'*kk+kk≤n*kk:=by rw[←Z9q];exact Z8L _ hqn
   have hkpos:0<n*kk∨n*kk=0:=by omega
   have hcx:cs0=xs:=by
    rcases hkpos with hpos|hzero
    ·have hev:eval s (if YH (c.ix p) o ((cs.drop o).take (n*kk))=true then E.mm (c.ix p) o (n*kk)else .ag (((cs.drop o).take (n*kk)).map (·.2)))=some (.agg xs):=by
      split
      ·rename_i hp;have:=Qe hp (by rw[hpl];exact hpos) hxe hxo;rw[hpl]at this;exact this
      ·exact hxe
     rw[hev]at hy;simp only[Z83,V.agg.injEq]at hy;exact hy.symm
    ·have e1:cs0= []:=Z8Q (by rw[hcl,hzero]);have e2:xs= []:=Z8Q (by rw[hxl,hzero]);rw[e1,e2]
   subst hcx;have hvn:(a.eval x).cells.size=kk:=by rw[hs1,hzl]
   have hnl:o+n*kk≤cur.size:=by
    have:=hcs.1;simp only[Z9t,ZaF]at hpl;omega
   have hle2:(o+q'*kk)+(a.eval x).cells.size≤cur.size:=by rw[hvn];omega
   have hxcell: ∀i (y:V),cs0[i]? =some y→y.one=true∧Rd w h.F y (cur.getD (o+i) undef):=by
    intro i y hi;have hlt:i<n*kk:=by rw[←hcl];exact(Z86.1 hi).1
    cases hxr with
    |agg _ _ e1 e2 e3=>
     have:=e3 i y hi
     have hg:((cur.toList.drop o).take (n*kk)).toArray.getD i undef=cur.getD (o+i) undef:=by
      simp only[Z88,Z9A,Z8E,if_pos hlt,Z8w,Z97]
     rw[hg]at this;exact⟨e2 y (Z8f hi),this⟩
   obtain⟨g1,g2,g3⟩:=Th (cs:=cs0) (b:=z.cells) (o:=q'*kk) (by rw[hzl,hcl];exact hle1)
   obtain⟨h',e1,e2,e3⟩:=TZ (row:=YS cur (o+q'*kk) (a.eval x).cells) (new:=(List.range (n*kk)).map fun i=>(CK.fz,E.fld (E.aput (if YH (c.ix p) o ((cs.drop o).take (n*kk))=true then E.mm (c.ix p) o (n*kk)else .ag (((cs.drop o).take (n*kk)).map (·.2))) j n kk (tyE (Zn c.P T) (c.P.cellsOf T) b0.1)) i)) hr.ok hbl hh hcs (U3 hle2) hle (fun i hi=>Vj hle2 (by simp only[Z8y,ZaU]at hi;omega)) (ts:= []) (f:=h.bl p) (by simp) rfl (fun _ _=>rfl) (fun i x _ hx=> .inl hx)
    (fun i j x hi hj=>(hr.ok.inj p i p j x hi hj).2) (fun i ck hi=>by
     obtain⟨hlt,rfl⟩:=UA hi;have hgl:i< (setCells cs0 (q'*kk) z.cells).length:=by rw[g1,hcl];exact hlt
     have key:((setCells cs0 (q'*kk) z.cells)[i]).one=true∧Rd w h.F (setCells cs0 (q'*kk) z.cells)[i] ((YS cur (o+q'*kk) (a.eval x).cells).getD (o+i) undef):=by
      have hsome:(setCells cs0 (q'*kk) z.cells)[i]? =some (setCells cs0 (q'*kk) z.cells)[i]:=Z85 hgl;by_cases hin:q'*kk≤i∧i<q'*kk+kk
      ·have h2:=g2 (i-q'*kk) (by rw[hzl];omega);rw[show q'*kk+(i-q'*kk)=i from by omega,hsome]at h2;have h3:=TW hle2 (i:=i-q'*kk) (by rw[hvn];omega);rw[show o+q'*kk+(i-q'*kk)=o+i from by omega]at h3;rw[h3];exact⟨hs2 _ (Z8f h2.symm),hs3 _ _ h2.symm⟩
      ·have h2:=g3 i (by rw[hzl];omega);rw[hsome]at h2;rw[Vj hle2 (by rw[hvn];omega)];exact hxcell i _ h2.symm
     refine⟨_,?_,key.1,key.2⟩;refine Eq.trans (b:=(some (V.agg (setCells cs0 (q'*kk) z.cells))).bind fun y=>fldV y i) (Zaf (fun y=>Option.bind y fun y=>fldV y i) hu0) ?_;show((setCells cs0 (q'*kk) z.cells)[i]?).bind oneV=_;rw[Z85 hgl,Z8g];unfold oneV;rw[if_pos key.1]) (fun p=>a.tmps[p]?)
   exact⟨_,h',WN hT hh (by rw[hvn,hk]) (fun i hi=>by
    have hi':i<z.cells.length:=by rw[←hs1];exact hi
    rw[(hs3 i _ (Z85 hi')).one_eq];exact hs2 _ (Z8u _)) hle2,e2,e1,Y6 (ts:= []) ⟨_,htm,e3⟩⟩
  ·cases hm
end
end Vm
namespace Vm
open Go
open Go.RowKit (Below)
open Go.MapKept (IsKey bytes_beq sameNow_of_keys run_checkKey run_findKey run_keyThatStays)
def setB(w:World)(b:Nat)(o:Obj):World:= {w with heap:=w.heap.setIfInBounds b o}
theorem Uc(w:World)(b:Nat)(o:Obj):(setB w b o).heap.size=w.heap.size:=by simp[setB]
theorem Wr(w:World)(b x:Nat)(o:Obj)(h:x≠b):(setB w b o).heap[x]? =w.heap[x]? :=by
 simp[setB,Zah (Z9R h)]
theorem Z3q{w:World}{b:Nat}(o:Obj)(h:b<w.heap.size):(setB w b o).heap[b]? =some o:=by
 simp[setB,h]
theorem qF{B:Nat}(w:World){b:Nat}(o:Obj)(h:B≤b):Below B w (setB w b o):=
 ⟨rfl,rfl,rfl,by simp[setB],fun x hx=>Wr w b x o (by omega)⟩
section
variable {c:Ctx} {B:Nat} {G:Nat→Prop} {s:St} {a a':Act} {w w':World} {h h':GH} {g:Gam} {C:Ze} {fz ps rb:List Nat}
theorem Z0c(hr:RelG c B G s a w h g){d:Nat}{T:TypeId}{x:Operand}{m:MS}(hd:d<a.tmps.size)(hm:Z2L c g d T x=some m):
  ∃v w' h',(Instr.box T (a.eval x)).run c.P w= .ok v w'∧MPost c B G s (a.put (some d) v) w w' h h' m:=by
 unfold Z2L at hm;split at hm
 ·rename_i t ty e hk;split at hm
  ·rename_i hcond;obtain⟨htd,_⟩:=hcond;simp only[Z83]at hm;subst hm;obtain⟨v,hv,⟨y,hy,hown⟩,_⟩:=hr.look (Za s c) (show look g [] t=_ from hk) rfl;rw[Act.eval_tmp a t v hv]
   have hvc:v.cells= #[v]:=by
    rcases hown with ⟨l,xs,_,_,_,⟨_,hc⟩,_⟩ | ⟨_,_,_,_,_,_,_,rfl,_⟩
    ·rcases hc with ⟨rfl,_⟩ | ⟨_,_,_,rfl,_⟩<;>rfl
    ·rfl
   have hg:=Z9n w (.cells v.cells T) none;have hsz:(w.alloc (.cells v.cells T)).heap.size=w.heap.size+1:=by simp
   have hF:Same h.F w (w.alloc (.cells v.cells T)):=fun b hb=>hg.block b (hr.ok.f_lt b hb) (by simp)
   refine⟨.pointer (some ⟨w.heap.size,0,none⟩),_,h.put d (fun i=>if i=0 then some w.heap.size else if i=1 then h.bl t 1 else none) (lost h [t]),by simp[Instr.box,Vn],
    Xl (YU hr.ok hg) (fun b hb _=>hg.block b hb (by simp)) (by simp) (fun u hu=>by simp at hu;subst hu;simp) (fun hn=>by simp at hn),
    hr.ok.put (by omega) (fun u i b _ hb=>(ZO hb).1) (fun i b hb=> ?_) (fun i j b hi hj=> ?_) (fun i b u j hu hi hj=> ?_),Y6 (ts:= [t]) ⟨_,Xz hd _,w.heap.size,v.cells,T,by simp[GH.put],rfl,Z8n w _,by rw[hvc];rfl,fun i ck hi=> ?_⟩⟩
   ·split at hb
    ·simp only[Z83]at hb;subst hb;exact .inl ⟨Z8e _,by omega⟩
    ·split at hb
     ·exact .inr ⟨t,1,hb⟩
     ·cases hb
   ·have old: ∀ {b},h.bl t 1=some b→b<w.heap.size:=fun hb=>(hr.ok.b_lt t 1 _ hb).2.1;split at hi<;>split at hj<;>(try split at hi)<;>(try split at hj)<;>first| (cases hi;done) | (cases hj;done) |omega|skip
    ·simp only[Z83]at hi;subst hi;have:=old hj;omega
    ·simp only[Z83]at hj;subst hj;have:=old hi;omega
   ·obtain⟨h1,h2⟩:=ZO hj;split at hi
    ·simp only[Z83]at hi;subst hi;have:=(hr.ok.b_lt u j _ h1).2.1;omega
    ·split at hi
     ·exact h2 (by simp[(hr.ok.inj t 1 u j b hi h1).1])
     ·cases hi
   ·cases i with
    |zero=>
     simp at hi;subst hi;refine⟨y,hy,?_⟩;have hget:v.cells.getD 0 undef=v:=by rw[hvc];rfl
     rw[hget];have hk:=hown.keep (h':=h.put d (fun i=>if i=0 then some w.heap.size else if i=1 then h.bl t 1 else none) (lost h [t])) hF (fun _ hb=>hb) fun b hb=>hg.block b (hr.ok.b_lt t 1 b hb).2.1 (by simp);simpa[GH.put]using hk
    |succ i=>simp at hi
  ·cases hm
 ·rename_i t cs hk;split at hm
  ·rename_i hcond;obtain⟨htd,_⟩:=hcond;simp only[Z83]at hm;subst hm;obtain⟨v,hv,⟨vs,rfl,hcs⟩,_⟩:=hr.look (Za s c) (show look g [] t=_ from hk) rfl;rw[Act.eval_tmp a t _ hv];have hg:=Z9n w (.cells (Value.agg vs).cells T) none;have hsz:(w.alloc (.cells (Value.agg vs).cells T)).heap.size=w.heap.size+1:=by simp
   have hF:Same h.F w (w.alloc (.cells (Value.agg vs).cells T)):=fun b hb=>hg.block b (hr.ok.f_lt b hb) (by simp);have old: ∀ {i b},h.bl t i=some b→b<w.heap.size:=fun hb=>(hr.ok.b_lt t _ _ hb).2.1
   refine⟨.pointer (some ⟨w.heap.size,0,none⟩),_,h.put d (fun i=>if i=0 then some w.heap.size else h.bl t i) (lost h [t]),by simp[Instr.box,Vn],
    Xl (YU hr.ok hg) (fun b hb _=>hg.block b hb (by simp)) (by simp) (fun u hu=>by simp at hu;subst hu;simp) (fun hn=>by simp at hn),
    hr.ok.put (by omega) (fun u i b _ hb=>(ZO hb).1) (fun i b hb=> ?_) (fun i j b hi hj=> ?_) (fun i b u j hu hi hj=> ?_),Y6 (ts:= [t]) ⟨_,Xz hd _,w.heap.size,vs,T,by simp[GH.put],rfl,Z8n w _,hcs.1,fun i ck hi=> ?_⟩⟩
   ·split at hb
    ·simp only[Z83]at hb;subst hb;exact .inl ⟨Z8e _,by omega⟩
    ·exact .inr ⟨t,i,hb⟩
   ·split at hi<;>split at hj
    ·omega
    ·simp only[Z83]at hi;subst hi;have:=old hj;omega
    ·simp only[Z83]at hj;subst hj;have:=old hi;omega
    ·exact(hr.ok.inj t i t j b hi hj).2
   ·obtain⟨h1,h2⟩:=ZO hj;split at hi
    ·simp only[Z83]at hi;subst hi;have:=(hr.ok.b_lt u j _ h1).2.1;omega
    ·exact h2 (by simp[(hr.ok.inj t i u j b hi h1).1])
   ·have hk:=(hcs.2 i ck hi).keep (h':=h.put d (fun i=>if i=0 then some w.heap.size else h.bl t i) (lost h [t])) hF (fun _ hb=>hb) fun b hb=>hg.block b (hr.ok.b_lt t (i+1) b hb).2.1 (by simp);simpa[GH.put]using hk
  ·cases hm
 ·cases hm
def Z39(c:Ctx)(B:Nat)(s:St)(a:Act)(w:World)(h:GH)(g:Gam)(p:Nat)(ty:TypeId)(e:E)(v:Value):Option Nat→Prop
 |none=>a.tmps[p]? =some v
 |some j=> ∃cs,memOf g p=some cs∧cs[j]? =some (.own ty,e)∧ ∃b vs T,h.bl p 0=some b∧a.tmps[p]? =some (.pointer (some ⟨b,0,none⟩))∧w.heap[b]? =some (.cells vs T (0,0))∧RelCs c.P B s w h p cs vs∧vs.getD j undef=v
theorem jQ(hr:RelG c B G s a w h g){x:Operand}{p:Nat}{i:Option Nat}{ty:TypeId}{e:E}(hm:Z35 g x=some (p,i,ty,e)):
  ∃X,eval s e=some X∧OwnV c.P B w h (h.bl p (plI i)) ty X (a.eval x)∧Z39 c B s a w h g p ty e (a.eval x) i:=by
 unfold Z35 at hm;split at hm
 ·rename_i t ty' e' hk;split at hm
  ·simp only[Z83,Z8d]at hm;obtain⟨rfl,rfl,rfl,rfl⟩:=hm;obtain⟨v,hv,⟨X,hX,hown⟩,_⟩:=hr.look (Za s c) (show look g [] t=_ from hk) rfl;rw[Act.eval_tmp a t v hv];exact⟨X,hX,hown,hv⟩
  ·cases hm
 ·rename_i x _ _ q hk;simp only[Z87]at hm;obtain⟨⟨ty',e'⟩,ho,hm⟩:=hm;simp only[Z8d]at hm;obtain⟨rfl,rfl,rfl,rfl⟩:=hm;obtain⟨v,hv,X,hX,hown⟩:=hr.ownOf ho;have hrel:a.tmps[q]? =some (a.eval x):=ZM hr (Za s c) hk rfl 0;rw[hv]at hrel;simp only[Z83]at hrel;rw[←hrel];exact⟨X,hX,hown,hv⟩
 ·rename_i x _ _ q j hk;simp only[Z84]at hm;obtain⟨cs,hmem,hm⟩:=hm;split at hm
  ·rename_i ty' e' hc;simp only[Z83,Z8d]at hm;obtain⟨rfl,rfl,rfl,rfl⟩:=hm;obtain⟨b,vs,T,h1,h2,h3,h4⟩:=hr.memOf hmem;obtain⟨X,hX,hown⟩:=h4.2 j _ hc;obtain⟨b',h1',hcell⟩: ∃b,h.bl q 0=some b∧w.cell? ⟨b,j,none⟩=some (a.eval x):=ZM hr (Za s c) hk rfl 0;rw[h1]at h1';cases h1';rw[Z8a w b j vs T (0,0) h3]at hcell;have hget:vs.getD j undef=a.eval x:=by simp[Z88,hcell]
   rw[hget]at hown;exact⟨X,hX,hown,cs,hmem,hc,b,vs,T,h1,h2,h3,h4,hget⟩
  ·cases hm
 ·cases hm
theorem Km(hr:RelG c B G s a w h g)(ha:a'.tmps=a.tmps){T:TypeId}{x:Operand}{f:E→E}{m:MS}(hm:Z0R g T x f=some m)(hes: ∀e∈m.es,∃z,eval s e=some z)
  (hform: ∀e z,eval s (f e)=some z→ ∃X,eval s e=some X∧ ∃id ks xs,X= .mp id ks xs):
  ∃e id ks xs b es clk,eval s e=some (.mp id ks xs)∧(∃z,eval s (f e)=some z)∧a.eval x= .map (some b)∧w.heap[b]? =some (.map es clk)∧ks.length=es.size∧xs.length=es.size∧
   (∀(i:Nat) (c:V),ks[i]? =some c→Rd w h.F c (es.getD i default).key)∧(∀(i:Nat) (c:V),xs[i]? =some c→Rd w h.F c (es.getD i default).val)∧
   ∀ks' xs' es' clk',eval s (f e)=some (.mp id ks' xs')→ks'.length=es'.size→xs'.length=es'.size→(∀(i:Nat) (c:V),ks'[i]? =some c→Rd w h.F c (es'.getD i default).key)→(∀(i:Nat) (c:V),xs'[i]? =some c→Rd w h.F c (es'.getD i default).val)→
    MPost c B G s a' w (setB w b (.map es' clk')) h h m:=by
 unfold Z0R at hm;simp only[Z84]at hm;obtain⟨⟨p,i,ty,e⟩,hat,hm⟩:=hm;split at hm
 ·rename_i hty;simp only at hty;subst hty;simp only[Z87]at hm;obtain⟨k,hput,rfl⟩:=hm;obtain⟨X,hX,hown,hplace⟩:=jQ hr hat;obtain⟨z,hz⟩:=hes _ (List.Mem.head _);obtain⟨X',hX',id,ks,xs,rfl⟩:=hform e z hz;rw[hX]at hX';cases hX';rcases hown with ⟨l,_,hl,_⟩ | ⟨id',ks',xs',b,es,clk,hX2,hv,hbl,hB,hid,hh,h1,h2,h3,h4⟩
  ·cases hl
  cases hX2;refine⟨e,id,ks,xs,b,es,clk,hX,⟨z,hz⟩,hv,hh,h1,h2,h3,h4,fun ks' xs' es' clk' he h1' h2' h3' h4'=> ?_⟩;obtain⟨hBb,hlt,hnF⟩:=hr.ok.b_lt p (plI i) b hbl;have hF:Same h.F w (setB w b (.map es' clk')):=fun y hy=>Wr w b y _ fun e=>hnF (e▸hy)
  have hown':OwnV c.P B (setB w b (.map es' clk')) h (h.bl p (plI i)) ty (.mp id ks' xs') (a.eval x):=
   .inr ⟨id,ks',xs',b,es',clk',rfl,hv,hbl,hB,hid,Z3q _ hlt,h1',h2',fun i c hi=>(h3' i c hi).keep hF fun _ hb=>hb,fun i c hi=>(h4' i c hi).keep hF fun _ hb=>hb⟩
  refine⟨⟨qF w _ hB,fun y hy hn=>Wr w b y _ fun e=>hn p (by simp) (plI i) (e▸hbl),fun _ hb=>hb,fun _ _ _=>rfl,fun _ _=>rfl,fun _ _ _ _ hm=>(by simp at hm),rfl⟩,
   ⟨by rw[Uc];exact hr.ok.base,fun y hy=>by rw[Uc];exact hr.ok.f_lt y hy,hr.ok.f_or,hr.ok.g_F,fun t j y hy=>by rw[Uc];exact hr.ok.b_lt t j y hy,hr.ok.inj,fun y hy=>by rw[Uc];exact hr.ok.k_lt y hy,hr.ok.k_bl,hr.ok.k_F⟩,?_⟩
  cases i with
  |none=>
   simp only[Z2u,Z83]at hput;subst hput;exact Y6 (ts:= []) ⟨_,by rw[ha];exact hplace,_,he,hown'⟩
  |some j=>
   obtain⟨cs,hmem,hc,b0,vs,T',e1,e2,e3,e4,e5⟩:=hplace;obtain⟨cs',hmem',hle,rfl⟩:=WZ hput;rw[hmem]at hmem';cases hmem'
   have hbn:b0≠b:=fun e=>by
    subst e;have:=(hr.ok.inj p 0 p (j+1) b0 e1 hbl).2;omega
   obtain⟨hsl,hget⟩:=XQ hle;refine Y6 (ts:= []) ⟨_,by rw[ha];exact e2,b0,vs,T',e1,rfl,by rw[Wr w b b0 _ hbn];exact e3,by rw[e4.1,hsl],fun q ck hi=> ?_⟩;rcases hget q ck hi with ⟨q1,q2,q3⟩ | ⟨q1,q3⟩
   ·have hiq:q=j:=by simp only[Z9m]at q2;omega
    subst hiq;simp at q3;subst q3;exact⟨_,he,by rw[e5];exact hown'⟩
   ·refine(e4.2 q ck q3).keep hF (fun _ hb=>hb) fun y hy=>Wr w b y _ fun e=> ?_;subst e;have:=(hr.ok.inj p (q+1) p (j+1) y hy hbl).2;simp only[Z9m]at q1;omega
 ·cases hm
theorem Lj(hr:RelG c B G s a w h g)(ha:a'.tmps=a.tmps){T ty:TypeId}{x:Operand}{m:MS}(hm:Ln c g T x=some m)(hes: ∀e∈m.es,∃z,eval s e=some z):
  ∃v w' h',(Builtin.clear_ #[T] ty #[a.eval x]).run c.P w= .ok v w'∧MPost c B G s a' w w' h h' m:=by
 unfold Ln at hm;split at hm
 ·rename_i hT;unfold jV at hT;split at hT
  ·rename_i kt el hT'
   obtain⟨e,id,ks,xs,b,es,clk,h1,_,h3,h4,h5,h6,h7,h8,h9⟩:=Km hr ha hm hes fun e z hz=>by
    simp only[eval,Z84]at hz;obtain⟨X,hX,hz⟩:=hz;refine⟨X,hX,?_⟩;cases X<;>simp[jf]at hz
    exact⟨_,_,_,rfl⟩
   refine⟨.tuple #[],setB w b (.map #[] clk),h,?_,h9 [] [] #[] clk (by simp[eval,h1,jf]) rfl rfl (fun i c hi=>by simp at hi) (fun i c hi=>by simp at hi)⟩;rw[h3];simp[Builtin.clear_,Z8F hT',Z9K h4,ZaR _ h4,Result.andThen,setB]
  ·cases hT
 ·cases hm
theorem SX(hr:RelG c B G s a w h g)(ha:a'.tmps=a.tmps){T:TypeId}{x k v:Operand}{m:MS}(hm:U0 c g T x k v=some m)(hes: ∀e∈m.es,∃z,eval s e=some z):
  ∃w' h',(Instr.mapUpdate T (a.eval x) (a.eval k) (a.eval v)).run c.P w= .ok () w'∧MPost c B G s a' w w' h h' m:=by
 unfold U0 at hm;split at hm
 ·rename_i kt el hT;simp only[Z84]at hm;obtain⟨kc,hkc,ek,hk,ev,hv,hm⟩:=hm;split at hm
  ·cases hm
  ·rename_i hemp;have hsh:ev.2= []:=by simpa using hemp
   obtain⟨kv,hkv,hkr⟩:=YT hr (Za s c) hk;obtain⟨vv,hvv,hvr⟩:=YT hr (Za s c) hv;rw[hsh]at hvr;have hvr:=hvr.F
   obtain⟨e,id,ks,xs,b,es,clk,h1,⟨z,hz⟩,h3,h4,h5,h6,h7,h8,h9⟩:=Km hr ha hm hes fun e z hz=>by
    simp only[eval,hkv,hvv,Z8g,Z84]at hz;obtain⟨X,hX,hz⟩:=hz;obtain⟨_,_,_,_,_,rfl,_⟩:=Rh hz;exact⟨_,hX,_,_,_,rfl⟩
   have hz0:=hz;simp only[eval,h1,hkv,hvv,Z8g]at hz;unfold QV at hz;split at hz
   ·cases hz
   rename_i hik;have hik:isK kc kv=true:=by simpa using hik
   have hkd:=J3 hkc;have hkey:=Se hik hkr;have hkF:Rd w h.F kv (a.eval k):=hkr.flat (by cases kc<;>cases kv<;>simp[isK,V.flatc]at hik⊢);have hck:=Zbj (w:=w) hkd hkey;have hks:=run_keyThatStays (P:=c.P) (w:=w) hkey;simp only at hz;rw[h3];split at hz
   ·rename_i j hf;obtain⟨en,e1,e2,e3⟩:=Wo (w2:=w) (G'':=h.F) hik hkr hf (l:=es.toList) (by simpa using h5) (fun i c hi=>by simpa[Z88]using h7 i c hi) 0;simp only[Z83]at hz;subst hz;have hj:es[j]? =some en:=by simpa using e1
    have hjl:j<es.size:=(Z8H.1 hj).1;have hfk:=Zbb (w:=w) hkd e3;refine⟨setB w b (.map (es.modify j fun e=> {e with key:=a.eval k,val:=a.eval v}) clk),h,?_,h9 _ _ _ _ hz0 (by simpa using h5) (by simpa using h6) (fun i c hi=> ?_) (fun i c hi=> ?_)⟩
    ·have:es[j]=en:=by rw[Z8O hjl]at hj;simpa using hj
     simp[Instr.mapUpdate,Z8F hT,Z9K h4,hck,hfk,hj,this,e2,hks,ZaR _ h4,Result.andThen,setB]
    ·have:=h7 i c hi;rw[Z88,Z8z];rw[Z88]at this;by_cases hij:j=i
     ·subst hij;rw[hj]at this;simp only[Z8S,hj,Z9c,Z8J];simp only[Z8J,e2]at this;exact this
     ·rw[if_neg hij];exact this
    ·rw[Z88,Z8z];by_cases hij:j=i
     ·subst hij;simp only[Z8S,hj,Z9c,Z8J];rw[Z9w (by omega)]at hi;cases hi;exact hvr
     ·rw[if_neg hij];rw[Z8Y hij]at hi;have:=h8 i c hi;rw[Z88]at this;exact this
   ·rename_i hf;have e3:=Wo (w2:=w) (G'':=h.F) hik hkr hf (l:=es.toList) (by simpa using h5) (fun i c hi=>by simpa[Z88]using h7 i c hi) 0;simp only[Z83]at hz;subst hz;have hfk:=Zbb (w:=w) hkd e3;refine⟨setB w b (.map (es.push {key:=a.eval k,val:=a.eval v,born:=clk}) (clk+1)),h,?_,h9 _ _ _ _ hz0 (by simp[h5]) (by simp[h6]) (fun i c hi=> ?_) (fun i c hi=> ?_)⟩
    ·simp[Instr.mapUpdate,Z8F hT,Z9K h4,hck,hfk,ZaR _ h4,Result.andThen,setB]
    ·rw[Z88,Array.getElem?_push];by_cases hlt:i<ks.length
     ·rw[Z8m hlt]at hi;rw[if_neg (by omega)];have:=h7 i c hi;rw[Z88]at this;exact this
     ·rw[Z8k (by omega)]at hi
      have hi0:i=ks.length:=by
       have:=(Z86.1 hi).1;simp at this;omega
      subst hi0;simp at hi;subst hi;rw[if_pos h5];exact hkF
    ·rw[Z88,Array.getElem?_push];by_cases hlt:i<xs.length
     ·rw[Z8m hlt]at hi;rw[if_neg (by omega)];have:=h8 i c hi;rw[Z88]at this;exact this
     ·rw[Z8k (by omega)]at hi
      have hi0:i=xs.length:=by
       have:=(Z86.1 hi).1;simp at this;omega
      subst hi0;simp at hi;subst hi;rw[if_pos h6];exact hvr
   ·cases hz
 ·cases hm
end
end Vm
namespace Vm
open Go
open Go.RowKit (Below)
theorem Wg: ∀ {cs:List (CK×E)} {ts:List Nat} {i t:Nat},ZG cs ts i=some t→t∈ts
 | [],_,_,_,h=>by simp[ZG]at h
 | (k,e)::cs,ts,i,t,h=>by
   cases k with
   |own ty=>
    cases ts with
    |nil=>simp[ZG]at h
    |cons u ts=>
     cases i with
     |zero=>simp[ZG]at h;simp[h]
     |succ i=>exact Z8V _ (Wg (by simpa[ZG]using h))
   |_=>
    cases i with
    |zero=>simp[ZG]at h
    |succ i=>exact Wg (by simpa[ZG]using h)
theorem UX: ∀ {cs:List (CK×E)} {ts:List Nat} {i j t:Nat},ts.Nodup→ZG cs ts i=some t→ZG cs ts j=some t→i=j
 | [],_,_,_,_,_,h,_=>by simp[ZG]at h
 | (k,e)::cs,ts,i,j,t,hn,h,h'=>by
   cases k with
   |own ty=>
    cases ts with
    |nil=>simp[ZG]at h
    |cons u ts=>
     obtain⟨h1,h2⟩:=Za2.1 hn;cases i with
     |zero=>
      cases j with
      |zero=>rfl
      |succ j=>
       simp[ZG]at h;subst h;exact absurd (Wg (by simpa[ZG]using h')) h1
     |succ i=>
      cases j with
      |zero=>
       simp[ZG]at h';subst h';exact absurd (Wg (by simpa[ZG]using h)) h1
      |succ j=>exact Zaf (· +1) (UX h2 (by simpa[ZG]using h) (by simpa[ZG]using h'))
   |_=>
    cases i with
    |zero=>simp[ZG]at h
    |succ i=>
     cases j with
     |zero=>simp[ZG]at h'
     |succ j=>exact Zaf (· +1) (UX hn (by simpa[ZG]using h) (by simpa[ZG]using h'))
section
variable {c:Ctx} {B:Nat} {G:Nat→Prop} {s:St} {a a':Act} {w w':World} {h h':GH} {g:Gam} {C:Ze} {fz ps rb:List Nat}
theorem KH(hr:RelG c B G s a w h g){T:TypeId}{parts:Array (Nat×Operand)}{d:Nat}(hd:d<a.tmps.size){m:MS}(hm:KT c g d T parts.toList=some m)(hes: ∀e∈m.es,∃z,eval s e=some z):
  ∃v h',(Instr.build T (parts.map fun(i,x)=>(i,a.eval x))).run c.P w= .ok v w∧MPost c B G s (a.put (some d) v) w w h h' m:=by
 unfold KT at hm
 ·simp only[Z84]at hm;obtain⟨fs,hT,zs,hz,b,hb,hm⟩:=hm;split at hm
  ·cases hm
  ·rename_i hcond;simp only[Z8r,Z93,not_or,Z9G,not_exists,not_and,ZaB]at hcond;obtain⟨hts,hnd⟩:=hcond;have hnd:=VH hnd
   have hts: ∀t∈b.2.2,t∉b.2.1∧t≠d:=by
    intro t ht;have:=hts t ht;simp only[Z9e,Z8s,Z8P]at this;exact⟨this.1.1,this.1.2⟩
   simp only[Z83]at hm;subst hm;obtain⟨z,hz1⟩:=hes _ (List.Mem.head _);have hz1':=hz1;simp only[eval,Z87]at hz1';obtain⟨xs,hxs,hxz⟩:=hz1';obtain⟨hl,hx⟩:=Yo hxs
   obtain⟨vs,hrun,hsz,howns,hcell⟩:=Ru hr (Za s c) hT hz hb (fun ck hck=>by
    obtain⟨i,hi⟩:=Z8v hck;obtain⟨x,_,he⟩:=hx i ck.2 (by rw[Z8l,hi];rfl);exact⟨x,he⟩)
   obtain⟨hok1,_⟩:=V6 hr.ok b.2.1
   let f:Nat→Option Nat:=fun i=>match i with|0=>none|i+1=>(ZG b.1 b.2.2 i).bind fun t=>(h.thaw b.2.1).bl t 1
   have hf: ∀i x,f i=some x→ ∃i' t,i=i'+1∧ZG b.1 b.2.2 i'=some t∧(h.thaw b.2.1).bl t 1=some x:=by
    intro i x hi;cases i with
    |zero=>cases hi
    |succ i=>
     simp only[f,Z84]at hi;obtain⟨t,ht,hx⟩:=hi;exact⟨i,t,rfl,ht,hx⟩
   refine⟨.agg vs,(h.thaw b.2.1).put d f (lost (h.thaw b.2.1) b.2.2),hrun,Step.after (Xl (Z8o _ _) (fun _ _ _=>rfl) (by simp) (fun u hu=>⟨by simp[hu],by simp[hu]⟩) (fun hn=>by simp at hn)),
    hok1.put (Z8e _) (fun u i b _ hb=>(ZO hb).1) (fun i x hx=> ?_) (fun i j x hi hj=> ?_) (fun i x u j hu hi hj=> ?_),Y6 ⟨.agg vs,Xz hd _,vs,rfl,hsz,fun i ck hi=> ?_⟩⟩
   ·obtain⟨_,t,_,_,h1⟩:=hf i x hx;exact .inr ⟨t,1,h1⟩
   ·obtain⟨i',t,rfl,ht,h1⟩:=hf i x hi;obtain⟨j',t',rfl,ht',h1'⟩:=hf j x hj;have:=(hok1.inj t 1 t' 1 x h1 h1').1;subst this;rw[UX hnd ht ht']
   ·obtain⟨i',t,rfl,ht,h1⟩:=hf i x hi;obtain⟨k1,k2⟩:=ZO hj;exact k2 ((hok1.inj u j t 1 x k1 h1).1▸Wg ht)
   ·have hbl:((h.thaw b.2.1).put d f (lost (h.thaw b.2.1) b.2.2)).bl d (i+1)=(ZG b.1 b.2.2 i).bind fun t=>(h.thaw b.2.1).bl t 1:=by simp[GH.put,f]
    rw[hbl];have hc:=hcell i ck hi;unfold BRel at hc;obtain⟨kk,e⟩:=ck;cases kk with
    |own ty=>
     obtain⟨t,h1,h2,h3,y,hy,hown⟩:=hc;refine⟨y,hy,hown.mono (fun _ hb=> .inl hb) ?_⟩;rw[h1];simp[GH.thaw,(hts t h2).1]
    |nil=>exact hc
    |fz=>
     obtain⟨y,h1,h2,h3⟩:=hc;exact⟨y,h1,h2,h3.mono (Q7 fun p hp=>hp)⟩
    |dead=>exact hc.elim
theorem VZ(hok:Ok B G w h){o:Option Nat}(ho: ∀b,o=some b→ ∃t i,h.bl t i=some b){el T ty:TypeId}{x z:V}{v y:Value}(hv:OwnV c.P B w h o el x v)(hT:c.P.underlying T=some (.slice el))(hel:elOk c.P el=true)
  {l2:List V} {Gy:Nat→Prop} (hy:Rd w Gy (.sl l2) y) (hback: ∀(i:Nat) (ck:V) (u:Value),(flat l2)[i]? =some ck→Rd w Gy ck u→Rd w h.F ck u) (hz:appV (c.P.cellsOf el) x (.sl l2)=some z):
  ∃v' w',(Builtin.append_ #[T,T] ty #[v,y]).run c.P w= .ok v' w'∧Below B w w'∧(∀b,b<w.heap.size→o≠some b→w'.heap[b]? =w.heap[b]?)∧
   (v'.ownBlock=o∨ ∀b,v'.ownBlock=some b→w.heap.size≤b∧b<w'.heap.size)∧ ∀h':GH,h'.F=h.F→OwnV c.P B w' h' v'.ownBlock el z v':=by
 rcases hv with ⟨l,xs,rfl,h0,hfit,hown,hb,hrd⟩ | ⟨_,_,_,_,_,_,rfl,_⟩
 case inr=>obtain⟨_,_,hl',_⟩:=Wf hz;cases hl'
 obtain⟨l1,r,hl1,hr1,hlim,hsz,rfl⟩:=Wf hz;cases hl1;cases hr1;obtain⟨v',w',news,hrun,hown',hg,hor,hfit2,hnews⟩:=XJ (ty:=ty) hT hel hown hok.base hy hsz hlim;have hsame: ∀b,b<w.heap.size→o≠some b→w'.heap[b]? =w.heap[b]? :=fun b hb hn=>hg.block b hb (by rw[‹v.ownBlock=o›];exact fun e=>hn e.symm)
 have hFs:Same h.F w w':=fun b hb=>hsame b (hok.f_lt b hb) fun e=>by
  obtain⟨t,i,hi⟩:=ho b e;exact(hok.b_lt t i b hi).2.2 hb
 refine⟨v',w',hrun,(Z8o B w).grown hg hok.base fun k hk=> ?_,hsame,?_,fun h' hF=> .inl ⟨l++l2,xs++news,rfl,h0,fun x hx=> ?_,by rw[Z8D];exact hown',rfl,fun i ck hi=> ?_⟩⟩
 ·rw[‹v.ownBlock=o›]at hk;obtain⟨t,i,hi⟩:=ho k hk;exact(hok.b_lt t i k hi).1
 ·rcases hor with h1| ⟨h1,h2⟩
  ·exact .inl (h1.trans hb)
  ·exact .inr fun b hb=>h2.lt b hb
 ·rcases Z8I.1 hx with hx|hx
  ·exact hfit x hx
  ·exact hfit2 x hx
 ·have hfl:=Yb hfit;rw[VJ]at hi;by_cases hlt:i< (flat l).length
  ·rw[Z8m hlt]at hi;obtain⟨u,hu,hr⟩:=hrd i ck hi;exact⟨u,by rw[Z8m (Z86.1 hu).1];exact hu,hr.keep hFs fun b hb=>by rw[hF];exact hb⟩
  ·rw[Z8k (by omega)]at hi;obtain⟨u,hu,hr⟩:=hnews _ ck hi;have hxl:xs.length=(flat l).length:=by rw[hown.1,hfl]
   exact⟨u,by rw[Z8k (by omega),hxl];exact hu,(hback _ ck u hi hr).keep hFs fun b hb=>by rw[hF];exact hb⟩
theorem QF{e1 e2:E}{k:Nat}{z:V}(hz:eval s (.app e1 e2 k)=some z): ∃x y,eval s e1=some x∧eval s e2=some y∧appV k x y=some z:=by
 simp only[eval,Z84]at hz;obtain⟨x,hx,y,hy,hz⟩:=hz;exact⟨x,y,hx,hy,hz⟩
theorem Rg(hok:Ok B G w h){t0 i0 d:Nat}{ts:List Nat}{o:Option Nat}(ho: ∀b,o=some b→ ∃t∈ts,h.bl t 1=some b)(hdt:d∉ts){v':Value}(hb:Below B w w')(hsame: ∀b,b<w.heap.size→o≠some b→w'.heap[b]? =w.heap[b]?)
  (hor:v'.ownBlock=o∨ ∀b,v'.ownBlock=some b→w.heap.size≤b∧b<w'.heap.size):
  Ok B G w' (h.put d (fun i=>if i=1 then v'.ownBlock else none) (lost h ts))∧Step B (d::ts) (d::ts) [] w w' h (h.put d (fun i=>if i=1 then v'.ownBlock else none) (lost h ts)):=by
 have hf: ∀i b,(if i=1 then v'.ownBlock else none)=some b→i=1∧((w.heap.size≤b∧b<w'.heap.size)∨ ∃t∈ts,h.bl t 1=some b):=by
  intro i b hi;split at hi
  ·rename_i h1;refine⟨h1,?_⟩;rcases hor with h2|h2
   ·exact .inr (ho b (h2▸hi))
   ·exact .inl (h2 b hi)
  ·cases hi
 refine⟨hok.put hb.size (fun u i b _ hb=>(ZO hb).1) (fun i b hi=> ?_) (fun i j b hi hj=>by rw[(hf i b hi).1,(hf j b hj).1]) (fun i b u j hu hi hj=> ?_),
  Xl hb (fun b hb hn=>hsame b hb fun e=> ?_) (by simp) (fun t ht=>⟨by simp[ht],by simp[ht]⟩) (fun hn=>by simp at hn)⟩
 ·rcases(hf i b hi).2 with h1| ⟨t,_,h1⟩
  ·exact .inl h1
  ·exact .inr ⟨t,1,h1⟩
 ·obtain⟨k1,k2⟩:=ZO hj;rcases(hf i b hi).2 with h1| ⟨t,ht,h1⟩
  ·have:=(hok.b_lt u j b k1).2.1;omega
  ·exact k2 ((hok.inj u j t 1 b k1 h1).1▸ht)
 ·obtain⟨t,ht,h1⟩:=ho b e;exact hn t (by simp[ht]) 1 h1
theorem J8(hr:RelG c B G s a w h g){T U ty:TypeId}{x y:Operand}{d:Nat}(hd:d<a.tmps.size){m:MS}(hm:Ql c g d T U x y=some m)(hes: ∀e∈m.es,∃z,eval s e=some z):
  ∃v w' h',(Builtin.append_ #[T,U] ty #[a.eval x,a.eval y]).run c.P w= .ok v w'∧MPost c B G s (a.put (some d) v) w w' h h' m:=by
 unfold Ql at hm;split at hm
 ·rename_i el hT;have hT':=qb hT;split at hm
  ·rename_i hcond;obtain⟨rfl,hel⟩:=hcond;simp only[Z84]at hm;obtain⟨b0,hb0,hm⟩:=hm;generalize hbe:Tn (Xc c.P el) b0=be at hm;have hr1:=hr.frz be.2
   have elems: ∀ {yy:V} {l2:List V},eval s be.1=some yy→yy= .sl l2→ ∃Gy,Rd w Gy (.sl l2) (a.eval y)∧ ∀(i:Nat) (ck:V) (u:Value),(flat l2)[i]? =some ck→Rd w Gy ck u→Rd w (h.thaw be.2).F ck u:=by
    rintro yy l2 hyy rfl;obtain⟨Gy,h1,h2⟩:=zk hr (Za s c) hb0 (fl:=Xc c.P el) (by rw[hbe];exact hyy);rw[hbe]at h2;exact⟨Gy,h1,fun i ck u hi hu=>(h2 _ rfl i ck u hi hu).mono (Q7 fun p hp=>hp)⟩
   have slot: ∀ {t:Nat} {e:E} {v:Value},t≠d→(∃y,eval s e=some y∧OwnV c.P B w (h.thaw be.2) ((h.thaw be.2).bl t 1) el y v)→m= {d:= [(d,[],.own el (.app e be.1 (c.P.cellsOf el))),(t,[],.no)],ps:= [d,t],rb:= [d,t],fz:=be.2,es:= [.app e be.1 (c.P.cellsOf el)]}→
     ∃v2 w' h',(Builtin.append_ #[T,T] ty #[v,a.eval y]).run c.P w= .ok v2 w'∧MPost c B G s (a.put (some d) v2) w w' h h' m:=by
    rintro t e v htd ⟨yv,hyv,hown⟩ rfl;obtain⟨z,hz⟩:=hes _ (List.Mem.head _);obtain⟨xx,yy,hxx,hyy,happ⟩:=QF hz;rw[hyv]at hxx;cases hxx;obtain⟨_,l2,_,rfl,_⟩:=Wf happ;obtain⟨Gy,e1,e2⟩:=elems hyy rfl;obtain⟨v2,w',k1,k2,k3,k4,k5⟩:=VZ (ty:=ty) hr1.ok (fun b hb=>⟨t,1,hb⟩) hown hT' hel e1 e2 happ;obtain⟨q1,q2⟩:=Rg (d:=d) (ts:= [t]) (t0:=0) (i0:=0) hr1.ok (fun b hb=>⟨t,by simp,hb⟩) (by simpa using Z9R htd) k2 k3 k4;exact⟨v2,w',_,k1,q2.after,q1,Y6 (ts:= [t]) ⟨v2,Xz hd v2,z,hz,(k5 (h.thaw be.2) rfl).mono (fun _ hb=>hb) (by simp[GH.put])⟩⟩
   split at hm
   ·rename_i hk;simp only[Z83]at hm;subst hm;have hv:=UN hr1 (Za s c) hk;rw[hv];obtain⟨z,hz⟩:=hes _ (List.Mem.head _);obtain⟨xx,yy,hxx,hyy,happ⟩:=QF hz;simp only[eval,Z83]at hxx;subst hxx;obtain⟨_,l2,_,rfl,_⟩:=Wf happ;obtain⟨Gy,e1,e2⟩:=elems hyy rfl;obtain⟨i,zz,hi,hz1,hzs,h0,hby,hcs⟩:=Xx hel;have hown:OwnV c.P B w (h.thaw be.2) none el (.sl []) (.slice none 0 0):= .inl ⟨[],[],rfl,by omega,fun x hx=>by simp at hx,Z9j w B el _,rfl,fun i ck hi=>by simp[flat]at hi⟩;obtain⟨v2,w',k1,k2,k3,k4,k5⟩:=VZ (ty:=ty) hr1.ok (fun b hb=>by cases hb) hown hT' hel e1 e2 happ;obtain⟨q1,q2⟩:=Rg (d:=d) (ts:= []) (t0:=0) (i0:=0) hr1.ok (fun b hb=>by cases hb) (by simp) k2 k3 k4;exact⟨v2,w',_,k1,q2.after,q1,Y6 (ts:= []) ⟨v2,Xz hd v2,z,hz,(k5 (h.thaw be.2) rfl).mono (fun _ hb=>hb) (by simp[GH.put])⟩⟩
   ·rename_i t ty' e hk;split at hm
    ·rename_i hcond;obtain⟨rfl,htd,_⟩:=hcond;simp only[Z83]at hm;obtain⟨v,hv,hrel,_⟩:=hr1.look (Za s c) (show look _ [] t=_ from hk) rfl;rw[Act.eval_tmp a t v hv];exact slot htd hrel hm.symm
    ·cases hm
   ·rename_i p hk;simp only[Z84]at hm;obtain⟨⟨ty',e⟩,ho,hm⟩:=hm;split at hm
    ·rename_i hcond;obtain⟨hty,hpd⟩:=hcond;simp only at hty;subst hty;simp only[Z83]at hm;obtain⟨u,hu,hrel⟩:=hr1.ownOf ho;have hv:=ZM hr1 (Za s c) hk rfl 0;have huv:=hu.symm.trans hv;simp only[Z83]at huv;rw[←huv];exact slot hpd hrel hm.symm
    ·cases hm
   ·rename_i p i hk;simp only[Z84]at hm;obtain⟨cs,hmem,hm⟩:=hm;split at hm
    ·rename_i ty' e hc;split at hm
     ·rename_i hcond;obtain⟨rfl,hpd⟩:=hcond;simp only[Z87]at hm;obtain⟨k,hput,rfl⟩:=hm;obtain⟨cs',hmem',hle,rfl⟩:=WZ hput;rw[hmem]at hmem';cases hmem';obtain⟨b,vs,tyb,hb,htm,hh,hcs⟩:=hr1.memOf hmem;have hv:=ZM hr1 (Za s c) hk rfl 0;obtain⟨b',hb',hcell⟩:=hv;rw[hb]at hb';cases hb';rw[Z8a w b i vs tyb (0,0) hh]at hcell;have hget: ∀v,vs[i]? =some v→vs.getD i undef=v:=fun v hv=>by simp[Z88,hv]
      obtain⟨yv,hyv,hown⟩:=hcs.2 i _ hc;rw[hget _ hcell]at hown;simp only at hown hyv;obtain⟨z,hz⟩:=hes _ (List.Mem.head _);obtain⟨xx,yy,hxx,hyy,happ⟩:=QF hz;rw[hyv]at hxx;cases hxx;obtain⟨_,l2,_,rfl,_⟩:=Wf happ;obtain⟨Gy,e1,e2⟩:=elems hyy rfl;obtain⟨v2,w',k1,k2,k3,k4,k5⟩:=VZ (ty:=ty) hr1.ok (fun b hb=>⟨p,i+1,hb⟩) hown hT' hel e1 e2 happ;have hF:Same (h.thaw be.2).F w w':=fun x hx=>k3 x (hr1.ok.f_lt x hx) fun e=>(hr1.ok.b_lt p (i+1) x e).2.2 hx
      have hbw:w'.heap[b]? =w.heap[b]? :=k3 b (hr1.ok.b_lt p 0 b hb).2.1 fun e=>by
       have:=(hr1.ok.inj p 0 p (i+1) b hb e).2;omega
      obtain⟨hsl,hgetc⟩:=XQ hle
      have hf: ∀j x,(if j=1 then v2.ownBlock else none)=some x→j=1∧((w.heap.size≤x∧x<w'.heap.size)∨(h.thaw be.2).bl p (i+1)=some x):=by
       intro j x hj;split at hj
       ·rename_i h1;refine⟨h1,?_⟩;rcases k4 with h2|h2
        ·exact .inr (h2▸hj)
        ·exact .inl (h2 x hj)
       ·cases hj
      have hrr: ∀u j x,(if u=p∧j=i+1 then none else(h.thaw be.2).bl u j)=some x→(h.thaw be.2).bl u j=some x∧ ¬(u=p∧j=i+1):=by
       intro u j x hj;split at hj
       ·cases hj
       ·exact⟨hj,by assumption⟩
      refine⟨v2,w',(h.thaw be.2).put d (fun j=>if j=1 then v2.ownBlock else none) (fun u j=>if u=p∧j=i+1 then none else(h.thaw be.2).bl u j),k1,Step.after ⟨k2,fun x hx hn=>k3 x hx fun e=>hn p (by simp) (i+1) e,fun _ hb=>hb,fun t ht _=> ?_,fun t ht=> ?_,fun _ _ _ _ hm=>(by simp at hm),rfl⟩,
       hr1.ok.put k2.size (fun u j x _ hx=>(hrr u j x hx).1) (fun j x hx=> ?_) (fun j j' x hj hj'=>by rw[(hf j x hj).1,(hf j' x hj').1]) (fun j x u j' hu hj hj'=> ?_),fun t ht=> ?_⟩
      ·have h1:t≠d∧t≠p:=by simpa using ht
       funext j;simp[GH.put,h1.1,h1.2]
      ·have h1:t≠d:=by simpa using ht
       simp[GH.put,h1]
      ·rcases(hf j x hx).2 with h1|h1
       ·exact .inl h1
       ·exact .inr ⟨p,i+1,h1⟩
      ·obtain⟨q1,q2⟩:=hrr u j' x hj';rcases(hf j x hj).2 with h1|h1
       ·have:=(hr1.ok.b_lt u j' x q1).2.1;omega
       ·exact q2 (hr1.ok.inj u j' p (i+1) x q1 h1)
      ·simp only[Zu,Z8x,Z9l,Z8C,ZaH,Zc2]at ht;by_cases htd:t=d
       ·subst htd;simp only[Gam.at,Z8S];exact⟨trivial,fun _=>⟨v2,Xz hd v2,z,hz,(k5 (h.thaw be.2) rfl).mono (fun _ hb=>hb) (by simp[GH.put])⟩⟩
       ·have htp:t=p:=ht.resolve_left htd;subst htp;simp only[Gam.at,if_neg (Z9R htd),Z8S];refine⟨trivial,fun _=>⟨_,by rw[TY htd];exact htm,b,vs,tyb,by simpa[GH.put,htd]using hb,rfl,by rw[hbw];exact hh,by rw[hcs.1,hsl],fun j ck hj=> ?_⟩⟩;rcases hgetc j ck hj with ⟨h1,h2,h3⟩ | ⟨h1,h3⟩
        ·have hjq:j=i:=by simp only[Z9m]at h2;omega
         subst hjq;simp at h3;subst h3;exact(hcs.2 j _ hc).cell
        ·have hji:j≠i:=by simp only[Z9m]at h1;omega
         have hbl:((h.thaw be.2).put d (fun j=>if j=1 then v2.ownBlock else none) (fun u j=>if u=t∧j=i+1 then none else(h.thaw be.2).bl u j)).bl t (j+1)=(h.thaw be.2).bl t (j+1):=by simp[GH.put,htd,hji]
         rw[hbl]
         exact(hcs.2 j ck h3).keep hF (fun _ hb=>hb) fun x hx=>k3 x (hr1.ok.b_lt t (j+1) x hx).2.1 fun e=>by
          have:=(hr1.ok.inj t (j+1) t (i+1) x hx e).2;omega
     ·cases hm
    ·cases hm
   ·cases hm
  ·cases hm
 ·cases hm
def MRun(c:Ctx)(B:Nat)(G:Nat→Prop)(s:St)(a:Act)(w:World)(h:GH)(o:Oper)(m:MS):Prop:=
 ∃n u w' h',(execOp a.eval o).run c.P w= .ok n w'∧(n= .value u∨n= .skip∧u=undef)∧MPost c B G s (a.put o.dst u) w w' h h' m
theorem Z5g(hr:RelG c B G s a w h g){o:Oper}(hd: ∀d,o.dst=some d→d<a.tmps.size){m:MS}(hm:mk c g o=some m)(hes: ∀e∈m.es,∃z,eval s e=some z):MRun c B G s a w h o m:=by
 obtain⟨dst,op,type,pos,after,guard⟩:=o;unfold mk at hm;simp only at hm hd;split at hm
 ·rename_i x d;obtain⟨h',hp⟩:=Ta hr (hd _ rfl) hm hes;exact⟨_,_,w,h',rfl,.inl rfl,hp⟩
 ·rename_i x d;obtain⟨h',hp⟩:=Ta hr (hd _ rfl) hm hes;exact⟨_,_,w,h',rfl,.inl rfl,hp⟩
 ·rename_i T ad x;unfold qR at hm;split at hm
  ·cases hm
  ·rename_i hcond;simp only[Z8r,Z93,not_or,ZaB,Bool.or_eq_false_iff,not_and,Z8P]at hcond;obtain⟨hT,hT1⟩:=hcond
   have hT1:Zn c.P T=true∨c.P.cellsOf T=1:=by
    cases hag:Zn c.P T with
    |true=>exact .inl rfl
    |false=>right;simpa[hag]using hT1
   have fin: ∀ {va:Value},a.eval ad=va→(∃w' h',(Instr.storeAt T va (a.eval x)).run c.P w= .ok () w'∧MPost c B G s a w w' h h' m)→MRun c B G s a w h {dst:=none,op:= .store T ad x,type,pos,after,guard} m:=by
    rintro va rfl ⟨w',h',h1,h2⟩;refine⟨.skip,undef,w',h',?_,.inr ⟨rfl,rfl⟩,h2⟩;simp[execOp,h1]
   split at hm
   ·rename_i cs hk;obtain⟨t,rfl,⟨v,hv,hev,⟨b,vs,ty,h1,rfl,_⟩⟩,_⟩:=(Vt hr (Za s c) hk rfl).resolve_left (by rintro(⟨e,h⟩ |h)<;>cases h);exact fin hev (Ti hr hT hT1 hm hes h1)
   ·rename_i p o hk;obtain⟨b,h1,h2⟩:=ZM hr (Za s c) hk rfl 0;exact fin h2 (Ti hr hT hT1 hm hes h1)
   ·rename_i p i j o k hk;obtain⟨n,q,h1,⟨ki,h2⟩,h3⟩:=ZM hr (Za s c) hk rfl 0;exact fin h3 (Jd hr hT hT1 hm hes h1 h2)
   ·rename_i p o j n k hk;obtain⟨b,q,h1,⟨ki,h2⟩,h3,h4⟩:=ZM hr (Za s c) hk rfl 0;exact fin h4 (K8 hr hT hm hes h1 h2 h3)
   ·cases hm
 ·rename_i T parts d;obtain⟨v,h',h1,h2⟩:=KH hr (hd _ rfl) hm hes;exact⟨.value v,v,w,h',by simp[execOp,h1],.inl rfl,h2⟩
 ·rename_i T x d;obtain⟨v,w',h',h1,h2⟩:=Z0c hr (hd _ rfl) hm;exact⟨.value v,v,w',h',by simp[execOp,h1],.inl rfl,h2⟩
 ·rename_i T m' k v;obtain⟨w',h',h1,h2⟩:=SX (a':=a) hr rfl hm hes;exact⟨.skip,undef,w',h',by simp[execOp,h1],.inr ⟨rfl,rfl⟩,h2⟩
 ·rename_i args argTypes;split at hm
  ·rename_i x T hx hT;have hargs:args= #[x]:=Z9g.1 (by simpa using hx);have htys:argTypes= #[T]:=Z9g.1 (by simpa using hT);subst hargs htys;obtain⟨v,w',h',h1,h2⟩:=Lj (a':=a) (ty:=type) hr rfl hm hes;exact⟨.value v,v,w',h',by simp[execOp,resolve,invoke,builtin,h1],.inl rfl,h2⟩
  ·cases hm
 ·rename_i args argTypes d;split at hm
  ·rename_i x y T U hx hT;have hargs:args= #[x,y]:=Z9g.1 (by simpa using hx);have htys:argTypes= #[T,U]:=Z9g.1 (by simpa using hT);subst hargs htys;obtain⟨v,w',h',h1,h2⟩:=J8 (ty:=type) hr (hd _ rfl) hm hes;exact⟨.value v,v,w',h',by simp[execOp,resolve,invoke,builtin,h1],.inl rfl,h2⟩
  ·cases hm
 ·cases hm
end
end Vm
namespace Vm
open Go
open Go.RowKit (Below)
def ZX(P:Program)(f:FuncId):Bool:=
 match P.funcs[f]? with
 |some fn=> !(fn.name== "runtime.NumGoroutine")&&fn.body.isSome
 |none=>false
def VC(P:Program)(f:FuncId)(fr:Bool)(args:List V)(r:V):Prop:=
 ZX P f=true∧ ∀(w:World) (G:Nat→Prop) (vs:Array Value),(∀b,G b→b<w.heap.size)→vs.size=args.length→(∀(i:Nat) (x:V),args[i]? =some x→Rd w G x (vs.getD i undef))→
  Calls P f vs w fun e w'=> ∃v,e= .returned v∧Below w.heap.size w w'∧Rd w' (fun b=>(fr=false∧G b)∨(w.heap.size≤b∧b<w'.heap.size)) r v
def argK(k:OT)(x:V):Option TK:=
 match k,x with
 | .fz,x=>some (.val (.c x) [])
 | .own ty,x=>some (.own ty (.c x))
 | .mem l,.agg cs=>if cs.length=l.length then some (.mem ((l.zip cs).map fun y=>(y.1,.c y.2)))else none
 |_,_=>none
def RelA(P:Program)(B:Nat)(w:World)(h:GH)(ks:List OT)(xs:List V)(vs:Array Value):Prop:=
 xs.length=ks.length∧vs.size=ks.length∧ ∀(i:Nat) (k:OT) (x:V),ks[i]? =some k→xs[i]? =some x→ ∃tk,argK k x=some tk∧RelK P B [] w h (fun _=>none) i (vs.getD i undef) tk
def RelB(P:Program)(B:Nat)(w:World)(h:GH)(ks:List OT)(ys:List V)(vs:Array Value):Prop:=
 ys.length=ks.length∧ ∀(i:Nat) (k:OT) (y:V),ks[i]? =some k→k≠ .fz→ys[i]? =some y→ ∃tk,argK k y=some tk∧RelK P B [] w h (fun _=>none) i (vs.getD i undef) tk
def X9:List OT→List V→List V
 | .fz::ks,_::ys=>X9 ks ys
 |_::ks,y::ys=>y::X9 ks ys
 |_,_=> []
def yE(r:V)(os:List V):V:=
 match os with
 | []=>r
 |os=> .tup (r::os)
def VCM(P:Program)(f:FuncId)(ks:List OT)(xs:List V)(R:V):Prop:=
 ZX P f=true∧ ∀(B:Nat) (w:World) (h:GH) (vs:Array Value),Ok B h.F w h→RelA P B w h ks xs vs→
  Calls P f vs w fun e w'=> ∃v r ys h',e= .returned v∧Below B w w'∧Same h.K w w'∧Ok B h.F w' h'∧h'.K=h.K∧Rd w' h'.F r v∧RelB P B w' h' ks ys vs∧R=yE r (X9 ks ys)
def fnOf(s:St):FN→Option FuncId
 | .id f=>some f
 | .e x=>match eval s x with
   |some (.fn f)=>some f
   |_=>none
def cloV:V→Option (FuncId×List V)
 | .fn f=>some (f,[])
 | .clo f cs=>some (f,cs)
 |_=>none
def fnV(s:St):FN→Option (FuncId×List V)
 | .id f=>some (f,[])
 | .e x=>(eval s x).bind cloV
def oldV(s:St):List OT→List E→Option (List V)
 | .fz::ks,_::es=>oldV s ks es
 |_::ks,e::es=>(eval s e).bind fun x=>(oldV s ks es).map (x:: ·)
 |_,_=>some []
def EFok(P:Program)(s:St):EF→Prop
 | .lt i C e=>holds s C→ ∃x,eval s e=some x∧get s i= .v x
 | .call i C f fr fl as=>holds s C→ ∃xs n r,Y1 s as=some xs∧fnV s f=some n∧VC P n.1 fr (xs++n.2) r∧(fl=true→flV r=some r)∧get s i= .v r
 | .callm i C f ks as=>(holds s C→ ∃xs n R,Y1 s as=some xs∧fnOf s f=some n∧VCM P n ks xs R∧get s i= .v R)∧
   (¬holds s C→ ∃os,oldV s ks as=some os∧(os≠ []→get s i= .v (.tup (.bool false::os))))
section
variable {c:Ctx} {B:Nat} {G:Nat→Prop} {s:St} {a a':Act} {w w':World} {h h':GH} {g:Gam} {C:Ze} {fz ps rb:List Nat} {ops:Array Oper}
def WT:List (E×Option Nat)→Nat→Option Nat
 | [],_=>none
 |x::l,u=>if x.2=some u then some 0 else(WT l u).map (· +1)
theorem XB: ∀ {l:List (E×Option Nat)} {u i:Nat},WT l u=some i→ ∃e,l[i]? =some (e,some u)
 | [],u,i,hi=>by cases hi
 | (e,o)::l,u,i,hi=>by
   simp only[WT]at hi;split at hi
   ·rename_i ho;have ho:o=some u:=ho;simp only[Z83]at hi;subst hi ho;exact⟨e,rfl⟩
   ·simp only[Z87]at hi;obtain⟨j,hj,rfl⟩:=hi;obtain⟨e',he⟩:=XB hj;exact⟨e',by simpa using he⟩
theorem VX: ∀ {l:List (E×Option Nat)} {u:Nat},WT l u=none→u∉l.filterMap (·.2)
 | [],u,_,hm=>by simp at hm
 | (e,o)::l,u,hi,hm=>by
   simp only[WT]at hi;split at hi
   ·cases hi
   ·rename_i ho;have ho: ¬o=some u:=ho;simp only[ZbE]at hi;have:=VX hi;cases o with
    |none=>exact this (by simpa using hm)
    |some p=>
     simp only[Z9z,Z8C]at hm;rcases hm with rfl|hm
     ·exact ho rfl
     ·exact this hm
theorem Vf{l:List (E×Option Nat)}{e:E}{u i:Nat}(hi:l[i]? =some (e,some u)):u∈l.filterMap (·.2):=
 Z9Q.2 ⟨_,Z8f hi,rfl⟩
theorem Ry: ∀ {l:List Nat},UI l=true↔l.Nodup
 | []=>by simp[UI]
 |x::l=>by
  simp only[UI,Z8c,Z93,Z9e,ZaM,Za2,Ry (l:=l)]
theorem TE: ∀ {l:List (E×Option Nat)} {e e':E} {u i j:Nat},(l.filterMap (·.2)).Nodup→l[i]? =some (e,some u)→l[j]? =some (e',some u)→i=j
 | [],e,e',u,i,j,_,hi,_=>by simp at hi
 | (e0,o)::l,e,e',u,i,j,hn,hi,hj=>by
   have hn':(l.filterMap (·.2)).Nodup:=by
    cases o with
    |none=>simpa using hn
    |some p=>simp only[Z9z,Za2]at hn;exact hn.2
   cases i with
   |zero=>
    simp at hi;cases j with
    |zero=>rfl
    |succ j=>
     exfalso;have h1:=Vf (l:=l) (i:=j) (by simpa using hj);rw[hi.2]at hn;simp only[Z9z,Za2]at hn;exact hn.1 h1
   |succ i=>
    cases j with
    |zero=>
     exfalso;simp at hj;have h1:=Vf (l:=l) (i:=i) (by simpa using hi);rw[hj.2]at hn;simp only[Z9z,Za2]at hn;exact hn.1 h1
    |succ j=>
     have:=TE (i:=i) (j:=j) hn' (by simpa using hi) (by simpa using hj);rw[this]
theorem Z0m{l:List (E×Option Nat)}(hn:(l.filterMap (·.2)).Nodup){e:E}{u i:Nat}(hi:l[i]? =some (e,some u)):WT l u=some i:=by
 cases hx:WT l u with
 |none=>exact absurd (Vf hi) (VX hx)
 |some j=>
  obtain⟨e',hj⟩:=XB hx;rw[TE hn hi hj]
def XC(g:Gam)(h:GH)(ks:List OT)(as:List (E×Option Nat))(i j:Nat):Option Nat:=
 match(as[i]?).bind (·.2),ks[i]? with
 |some p,some (.mem _)=>match j with
  |0=>h.bl p 0
  |j+1=>match(memOf g p).bind fun cs=>cs[j]? with
   |some (.own _,_)=>h.bl p (j+1)
   |_=>none
 |some p,some (.own _)=>if j=1 then h.bl p 1 else none
 |_,_=>none
theorem Yx{ks:List OT}{as:List (E×Option Nat)}{i j b:Nat}(hb:XC g h ks as i j=some b): ∃p e k,as[i]? =some (e,some p)∧ks[i]? =some k∧k≠ .fz∧h.bl p j=some b∧(∀ty,k= .own ty→j=1):=by
 unfold XC at hb;split at hb
 ·rename_i p l hp hk;simp only[Z84]at hp;obtain⟨⟨e,o⟩,he,ho⟩:=hp;have ho:o=some p:=ho;subst ho;refine⟨p,e,_,he,hk,by simp,?_,by simp⟩;split at hb
  ·exact hb
  ·split at hb
   ·exact hb
   ·cases hb
 ·rename_i p l hp hk;simp only[Z84]at hp;obtain⟨⟨e,o⟩,he,ho⟩:=hp;have ho:o=some p:=ho;subst ho;split at hb
  ·rename_i hj;subst hj;exact⟨p,e,_,he,hk,by simp,hb,fun _ _=>rfl⟩
  ·cases hb
 ·cases hb
def Xw(g:Gam)(h:GH)(w:World)(ks:List OT)(as:List (E×Option Nat)):GH:=
 {F:=h.F,bl:=XC g h ks as,K:=fun b=>b<w.heap.size∧ ∀i j,XC g h ks as i j≠some b}
theorem Kd(hok:Ok B G w h){ks:List OT}{as:List (E×Option Nat)}(hn:(as.filterMap (·.2)).Nodup):Ok B h.F w (Xw g h w ks as):=by
 refine⟨hok.base,hok.f_lt,fun b hb=> .inl hb,fun b hb=>hb,fun t i b hb=> ?_,fun t i u j b hb hb'=> ?_,fun b hb=>hb.1,fun t i b hb hK=>hK.2 t i hb,fun b hb=> .inl hb⟩
 ·obtain⟨p,_,_,_,_,_,h1,_⟩:=Yx hb;exact hok.b_lt p i b h1
 ·obtain⟨p,e,_,h1,_,_,h2,_⟩:=Yx hb;obtain⟨q,e',_,h3,_,_,h4,_⟩:=Yx hb';obtain⟨rfl,rfl⟩:=hok.inj p i q j b h2 h4;exact⟨TE hn h1 h3,rfl⟩
def apV(a:Act)(h:GH)(x:AP)(v:Value):Prop:=
 match x with
 | .op x _=>v=a.eval x
 | .cap p=> ∃b,h.bl p 0=some b∧v= .pointer (some ⟨b,0,none⟩)
theorem Q1: ∀ {a b:List CK},RC c.P a b=true→a.length=b.length∧ ∀(i:Nat) (x y:CK),a[i]? =some x→b[i]? =some y→x=y∨x= .nil∧(y= .fz∨ ∃ty,y= .own ty∧0<c.P.cellsOf ty)
 | [],[],_=>⟨rfl,fun i x y hx=>by simp at hx⟩
 | [],_::_,h=>by simp[RC]at h
 |_::_,[],h=>by simp[RC]at h
 |x::a,y::b,h=>by
  simp only[RC,Z8c,Z8r,Z8P]at h;obtain⟨h1,h2⟩:=h;obtain⟨h3,h4⟩:=Q1 h2;refine⟨by simp[h3],fun i x' y' hx hy=> ?_⟩;cases i with
  |zero=>
   simp at hx hy;subst hx hy;rcases h1 with h1|h1
   ·exact .inl h1
   ·split at h1
    ·simp only[Z8s]at h1;exact .inr ⟨rfl,.inr ⟨_,rfl,h1⟩⟩
    ·exact .inr ⟨rfl,.inl rfl⟩
    ·cases h1
  |succ i=>exact h4 i x' y' (by simpa using hx) (by simpa using hy)
theorem RelC.const{P:Program}{o:Option Nat}{k:CK}{e:E}{v:Value}{x:V}(hr:RelC P B s w h o k e v)(hx:eval s e=some x){h2:GH}(hF:h2.F=h.F):RelC P B [] w h2 o k (.c x) v:=by
 cases k with
 |fz=>obtain⟨y,h0,h1,h3⟩:=hr;rw[hx]at h0;cases h0;exact⟨x,rfl,h1,h3.mono fun b hb=>by rw[hF];exact hb⟩
 |own ty=>obtain⟨y,h0,h1⟩:=hr;rw[hx]at h0;cases h0;exact⟨x,rfl,h1.mono (fun b hb=>by rw[hF];exact hb) rfl⟩
 |nil=>obtain⟨h0,h1⟩:=hr;rw[hx]at h1;cases h1;exact⟨h0,rfl⟩
 |dead=>exact hr
theorem jl(hr:RelG c B G s a w h g)(hC:holds s (ixC c C)){x:AP}{p:Nat}{v:Value}(hs:Z3l g C x=some p)(hv:apV a h x v): ∃b,h.bl p 0=some b∧v= .pointer (some ⟨b,0,none⟩):=by
 unfold Z3l at hs;split at hs
 ·simp only[Z83]at hs;subst hs;exact hv
 ·rename_i t ty;have hv:v=a.eval (.tmp t):=hv;subst hv;split at hs
  ·rename_i cs hk;simp only[Z83]at hs;subst hs;obtain⟨v,hv,⟨b,vs,T,h1,h2,_⟩,_⟩:=hr.look hC (show look g C t=_ from hk) rfl;rw[Act.eval_tmp a t v hv];exact⟨b,h1,h2⟩
  ·rename_i q hk;simp only[Z83]at hs;subst hs;exact ZM hr hC hk rfl 0
  ·cases hs
 ·cases hs
theorem TH(hr:RelG c B G s a w h g){k:OT}{x:AP}{e:E}{p:Nat}(hp:V4 c g C k x=some (e,some p)){X:V}(hX:eval s e=some X){ks:List OT}{as:List (E×Option Nat)}{i:Nat}(hk:ks[i]? =some k)(hi:as[i]? =some (e,some p)):
  ∃v,a.tmps[p]? =some v∧(∃tk,argK k X=some tk∧RelK c.P B [] w (Xw g h w ks as) (fun _=>none) i v tk)∧((∃l b,k= .mem l∧h.bl p 0=some b∧v= .pointer (some ⟨b,0,none⟩))∨ ∃ty,k= .own ty):=by
 unfold V4 at hp;split at hp
 ·split at hp
  ·simp only[Z84]at hp;obtain⟨_,_,hp⟩:=hp;split at hp
   ·simp at hp
   ·cases hp
  ·cases hp
 ·
  rename_i l;simp only[Z84]at hp;obtain⟨p,hs,cs,hmem,hp⟩:=hp;split at hp
  ·rename_i hcond;simp only[Z8c,Z93]at hcond;obtain⟨hdead,hpass⟩:=hcond;simp only[Z83,Z8d]at hp;obtain⟨rfl,rfl⟩:=hp;obtain⟨b,vs,T,h1,h2,h3,h4⟩:=hr.memOf hmem;obtain⟨hlen,hget⟩:=Q1 hpass;simp only[Z8y]at hlen;have hX0:=hX;simp only[eval,Z87]at hX0;obtain⟨xs,hxs,hag⟩:=hX0;obtain⟨hxl,hxat⟩:=Yo hxs;have hxl':xs.length=cs.length:=by simpa using hxl
   have hone: ∀x∈xs,x.one=true:=fun x hx=>by
    obtain⟨j,hj⟩:=Z8v hx;have hlt:j<cs.length:=by have:=(Z86.1 hj).1;omega
    obtain⟨x',hx1,hx2⟩:=hxat j (cs[j]).2 (by rw[Z8l,Z85 hlt];rfl);rw[hj]at hx1;cases hx1;have hc:=h4.2 j cs[j] (Z85 hlt)
    obtain⟨z,hz,hz1,_⟩:=hc.rd (G':=fun _=>True) (fun hd=>by
     have:ZV cs=true:=Z9G.2 ⟨cs[j],Z8u hlt,by simp[hd]⟩;rw[hdead]at this;cases this) (fun _ _=>trivial) fun _ _ _ _=>trivial
    rw[hx2]at hz;cases hz;exact hz1
   have hXe:X= .agg xs:=by rw[←hag];simp only[agV,WF hone]
   subst hXe;have hlx:xs.length=l.length:=by omega
   have hbl0:XC g h ks as i 0=h.bl p 0:=by simp[XC,hi,hk]
   refine⟨_,h2,⟨.mem ((l.zip xs).map fun y=>(y.1,.c y.2)),by simp only[argK,hlx,Z8S],b,vs,T,by show XC g h ks as i 0=_;rw[hbl0];exact h1,rfl,h3,by rw[h4.1];simp;omega,fun j ck hj=> ?_⟩,.inl ⟨l,b,rfl,h1,rfl⟩⟩;simp only[Z8l,Z87]at hj;obtain⟨⟨ck1,x1⟩,hj,rfl⟩:=hj;rw[Zad]at hj;obtain⟨hj1,hj2⟩:=hj;have hlt:j<cs.length:=by have:=(Z86.1 hj2).1;omega
   obtain⟨x',hx1,hx2⟩:=hxat j (cs[j]).2 (by rw[Z8l,Z85 hlt];rfl);simp only at hj2 hj1;rw[hj2]at hx1;cases hx1;have hc:=h4.2 j cs[j] (Z85 hlt)
   have hcb:XC g h ks as i (j+1)=match cs[j]with| (.own _,_)=>h.bl p (j+1) |_=>none:=by
    simp only[XC,hi,hk,hmem,Z8g,Z85 hlt];rcases cs[j]with ⟨kk,e⟩;cases kk<;>rfl
   rcases hget j (cs[j]).1 ck1 (by rw[Z8l,Z85 hlt];rfl) hj1 with he| ⟨he,rfl| ⟨ty,rfl,h0⟩⟩
   ·rw[←he];show RelC c.P B [] w (Xw g h w ks as) (XC g h ks as i (j+1)) (cs[j]).1 (.c x1) (vs.getD j undef);rw[hcb];have hcc:=hc.const hx2 (h2:=Xw g h w ks as) rfl;generalize cs[j]=q at hcc;obtain⟨kk,e⟩:=q;cases kk with
    |own ty=>exact hcc
    |fz=>exact hcc
    |nil=>exact hcc
    |dead=>exact hcc
   ·show RelC c.P B [] w (Xw g h w ks as) (XC g h ks as i (j+1)) .fz (.c x1) (vs.getD j undef);generalize cs[j]=q at he hc hx2;obtain⟨kk,e⟩:=q;simp only at he;subst he;obtain⟨e1,e2⟩:=hc;simp only at hx2 e2;rw[e2]at hx2;cases hx2;rw[e1];exact⟨_,rfl,rfl,.nil _ _ (Z95 _)⟩
   ·show RelC c.P B [] w (Xw g h w ks as) (XC g h ks as i (j+1)) (.own ty) (.c x1) (vs.getD j undef);rw[hcb];generalize cs[j]=q at he hc hx2;obtain⟨kk,e⟩:=q;simp only at he;subst he;obtain⟨e1,e2⟩:=hc;simp only at hx2 e2;rw[e2]at hx2;cases hx2;rw[e1];exact⟨_,rfl,.inl ⟨[],[],rfl,h0,fun x hx=>by simp at hx,Z9j w B ty _,rfl,fun i ck hi=>by simp[flat]at hi⟩⟩
  ·cases hp
 ·
  rename_i ty;simp only[Z84]at hp;obtain⟨p,hs,⟨ty',e'⟩,ho,hp⟩:=hp;split at hp
  ·rename_i hty;simp only at hty;subst hty;simp only[Z83,Z8d]at hp;obtain⟨rfl,rfl⟩:=hp;obtain⟨u,hu,X',hX',hown⟩:=hr.ownOf ho;rw[hX]at hX';cases hX';have hcb:XC g h ks as i 1=h.bl p 1:=by simp[XC,hi,hk]
   refine⟨u,hu,⟨_,rfl,X,rfl,?_⟩,.inr ⟨_,rfl⟩⟩;show OwnV c.P B w (Xw g h w ks as) (XC g h ks as i 1) ty' X u;rw[hcb];exact hown.mono (fun _ hb=>hb) rfl
  ·cases hp
 ·cases hp
theorem LW(hr:RelG c B G s a w h g)(hC:holds s (ixC c C)){k:OT}{x:AP}{y:E×Option Nat}(hp:V4 c g C k x=some y){X:V}(hX:eval s y.1=some X){v:Value}(hv:apV a h x v){ks:List OT}{as:List (E×Option Nat)}{i:Nat}(hk:ks[i]? =some k)(hi:as[i]? =some y):
  (∃tk,argK k X=some tk∧RelK c.P B [] w (Xw g h w ks as) (fun _=>none) i v tk)∧ ∀p,y.2=some p→a.tmps[p]? =some v:=by
 obtain⟨e,o⟩:=y;cases o with
 |none=>
  refine⟨?_,fun p hp=>by cases hp⟩;unfold V4 at hp;split at hp
  ·split at hp
   ·rename_i x ty;simp only[Z84]at hp;obtain⟨a0,ha0,hp⟩:=hp;split at hp
    ·rename_i hemp;simp only[Z83,Z8d,ZbU]at hp;subst hp;obtain⟨z,hz,hzr⟩:=Vx hr hC ha0;obtain⟨z',hz',hzr'⟩:=SL (fl:=Xc c.P ty) (b:=a0) hz hzr ⟨X,hX⟩;simp only at hX;rw[hX]at hz';cases hz';have hv:v=a.eval x:=hv;subst hv;rw[ZaG.1 hemp]at hzr';exact⟨_,rfl,X,rfl,hzr'.F.mono fun b hb=>GH.ext_F hb⟩
    ·cases hp
   ·cases hp
  ·simp only[Z84]at hp;obtain⟨_,_,_,_,hp⟩:=hp;split at hp
   ·simp at hp
   ·cases hp
  ·simp only[Z84]at hp;obtain⟨_,_,_,_,hp⟩:=hp;split at hp
   ·simp at hp
   ·cases hp
  ·cases hp
 |some p=>
  obtain⟨u,hu,hrel,hcase⟩:=TH hr hp hX hk hi
  have huv:u=v:=by
   unfold V4 at hp;split at hp
   ·split at hp
    ·simp only[Z84]at hp;obtain⟨_,_,hp⟩:=hp;split at hp
     ·simp at hp
     ·cases hp
    ·cases hp
   ·simp only[Z84]at hp;obtain⟨p',hs,cs,hmem,hp⟩:=hp;split at hp
    ·simp only[Z83,Z8d]at hp;obtain⟨_,rfl⟩:=hp;obtain⟨b,q1,rfl⟩:=jl hr hC hs hv;rcases hcase with ⟨l,b',_,q2,rfl⟩ | ⟨ty,hk'⟩
     ·rw[q1]at q2;cases q2;rfl
     ·cases hk'
    ·cases hp
   ·simp only[Z84]at hp;obtain⟨p',hs,⟨ty',e'⟩,ho,hp⟩:=hp;split at hp
    ·simp only[Z83,Z8d]at hp;obtain⟨_,rfl⟩:=hp;unfold Z5r at hs;split at hs
     ·rename_i t tt;have hv:v=a.eval (.tmp t):=hv;subst hv;split at hs
      ·simp only[Z83]at hs;subst hs;rw[Act.eval_tmp a _ u hu]
      ·rename_i q hk2;simp only[Z83]at hs;subst hs;have hrel:a.tmps[q]? =some (a.eval (.tmp t)):=ZM hr hC hk2 rfl 0;rw[hu]at hrel;simpa using hrel
      ·cases hs
     ·cases hs
    ·cases hp
   ·cases hp
  subst huv;exact⟨hrel,fun q hq=>by cases hq;exact hu⟩
end
end Vm
namespace Vm
open Go
open Go.RowKit (Below)
section
variable {c:Ctx} {B:Nat} {G:Nat→Prop} {s:St} {a a':Act} {w w':World} {h h' hx:GH} {g:Gam} {C:Ze} {fz ps rb:List Nat} {ops:Array Oper} {ks:List OT} {as:List (E×Option Nat)}
structure OPost (c:Ctx) (B:Nat) (G:Nat→Prop) (s:St) (a a':Act) (w w':World) (h h':GH) (os:OS):Prop where
 step:Step B os.ps os.rb os.fz w w' h h'
 ok:Ok B G w' h'
 size:a'.tmps.size=a.tmps.size
 defers:a'.defers=a.defers
 tm: ∀t,t∉os.ps→a'.tmps[t]? =a.tmps[t]?
 ent: ∀t∈Zu os.d,(holds s (ixC c (os.d.at t).1)→(os.d.at t).2.isNo=false→ ∃v,a'.tmps[t]? =some v∧RelK c.P B s w' h' (fun p=>a'.tmps[p]?) t v (os.d.at t).2)∧(¬holds s (ixC c (os.d.at t).1)→a'.tmps.getD t undef=undef)
theorem TS(a:Act)(d:Option Nat)(v:Value):(a.put d v).tmps.size=a.tmps.size:=by
 cases d<;>simp[Act.put]
theorem Vo(a:Act)(d:Option Nat)(v:Value):(a.put d v).defers=a.defers:=by
 cases d<;>rfl
theorem Z2i{d:Nat}(v:Value){t:Nat}(ht:t∉ [d]):(a.put (some d) v).tmps[t]? =a.tmps[t]? :=TY (by simpa using ht) v
def XO(h hx:GH)(as:List (E×Option Nat)):GH:=
 {F:=fun b=>h.F b∨hx.F b,K:=h.K,
  bl:=fun u j=>match WT as u with
   |some i=>if j=0 then h.bl u 0 else hx.bl i j
   |none=>h.bl u j}
theorem Z3h(hok:Ok B G w h)(hn:(as.filterMap (·.2)).Nodup)(hokx:Ok B h.F w' hx)(hK:hx.K=(Xw g h w ks as).K)(hsz:w.heap.size≤w'.heap.size)
  (hks: ∀(i:Nat) (e:E) (p:Nat),as[i]? =some (e,some p)→(∃l,ks[i]? =some (.mem l)∧hx.bl i 0=h.bl p 0)∨ ∃ty,ks[i]? =some (.own ty)):Ok B G w' (XO h hx as):=by
 have hKlt: ∀b,h.K b→(Xw g h w ks as).K b:=fun b hb=>⟨hok.k_lt b hb,fun i j hbl=>by
  obtain⟨p,_,_,_,_,_,h1,_⟩:=Yx hbl;exact hok.k_bl p j b h1 hb⟩
 have isK: ∀ {t j b:Nat},h.bl t j=some b→WT as t=none→hx.K b:=by
  intro t j b hb ht;rw[hK];refine⟨(hok.b_lt t j b hb).2.1,fun i q hbl=> ?_⟩;obtain⟨p,e,_,h1,_,_,h3,_⟩:=Yx hbl;obtain⟨rfl,_⟩:=hok.inj t j p q b hb h3;exact VX ht (Vf h1)
 have isK0: ∀ {t i:Nat} {e:E} {b:Nat},as[i]? =some (e,some t)→(∃ty,ks[i]? =some (OT.own ty))→h.bl t 0=some b→hx.K b:=by
  intro t i e b hi hk hb;rw[hK];refine⟨(hok.b_lt t 0 b hb).2.1,fun i' q hbl=> ?_⟩;obtain⟨p,e',k,h1,h2,_,h3,h4⟩:=Yx hbl;obtain⟨rfl,rfl⟩:=hok.inj t 0 p q b hb h3;have:=TE hn hi h1;subst this;obtain⟨ty,hk⟩:=hk;rw[hk]at h2;cases h2;have:=h4 ty rfl;omega
 have notF: ∀ {t j b:Nat},h.bl t j=some b→hx.K b→ ¬(h.F b∨hx.F b):=by
  intro t j b hb hkb hF;rcases hF with hF|hF
  ·exact(hok.b_lt t j b hb).2.2 hF
  ·rcases hokx.k_F b hF with h1|h1
   ·exact(hok.b_lt t j b hb).2.2 h1
   ·exact h1 hkb
 refine⟨hokx.base,fun b hb=> ?_,fun b hb=> ?_,fun b hb=> .inl (hok.g_F b hb),fun t j b hb=> ?_,fun t j u q b hb hb'=> ?_,fun b hb=>Z8h (hok.k_lt b hb) hsz,fun t j b hb hkb=> ?_,fun b hb=> ?_⟩
 ·rcases hb with hb|hb
  ·exact Z8h (hok.f_lt b hb) hsz
  ·exact hokx.f_lt b hb
 ·rcases hb with hb|hb
  ·exact hok.f_or b hb
  ·rcases hokx.f_or b hb with h1|h1
   ·exact hok.f_or b h1
   ·exact .inr h1
 ·simp only[XO]at hb⊢;split at hb
  ·rename_i i hix;obtain⟨e,hi⟩:=XB hix;split at hb
   ·rename_i hj;subst hj;rcases hks i e t hi with ⟨l,hk,h0⟩ |hk
    ·rw[←h0]at hb;obtain⟨q1,q2,q3⟩:=hokx.b_lt i 0 b hb;refine⟨q1,q2,fun hF=> ?_⟩;rcases hF with hF|hF
     ·exact q3 (hokx.g_F b hF)
     ·exact q3 hF
    ·obtain⟨q1,q2,_⟩:=hok.b_lt t 0 b hb;exact⟨q1,Z8h q2 hsz,notF hb (isK0 hi hk hb)⟩
   ·obtain⟨q1,q2,q3⟩:=hokx.b_lt i j b hb;refine⟨q1,q2,fun hF=> ?_⟩;rcases hF with hF|hF
    ·exact q3 (hokx.g_F b hF)
    ·exact q3 hF
  ·rename_i hix;obtain⟨q1,q2,_⟩:=hok.b_lt t j b hb;exact⟨q1,Z8h q2 hsz,notF hb (isK hb hix)⟩
 ·
  have place: ∀ {t j:Nat},(XO h hx as).bl t j=some b→(∃i e,as[i]? =some (e,some t)∧hx.bl i j=some b)∨(h.bl t j=some b∧hx.K b):=by
   intro t j hb;simp only[XO]at hb;split at hb
   ·rename_i i hix;obtain⟨e,hi⟩:=XB hix;split at hb
    ·rename_i hj;subst hj;rcases hks i e t hi with ⟨l,hk,h0⟩ |hk
     ·exact .inl ⟨i,e,hi,by rw[h0];exact hb⟩
     ·exact .inr ⟨hb,isK0 hi hk hb⟩
    ·exact .inl ⟨i,e,hi,hb⟩
   ·rename_i hix;exact .inr ⟨hb,isK hb hix⟩
  rcases place hb with ⟨i,e,hi,h1⟩ | ⟨h1,h2⟩<;>rcases place hb' with ⟨i',e',hi',h1'⟩ | ⟨h1',h2'⟩
  ·obtain⟨rfl,rfl⟩:=hokx.inj i j i' q b h1 h1';rw[hi]at hi';cases hi';exact⟨rfl,rfl⟩
  ·exact absurd h2' (hokx.k_bl i j b h1)
  ·exact absurd h2 (hokx.k_bl i' q b h1')
  ·exact hok.inj t j u q b h1 h1'
 ·have hkx:=hKlt b hkb;rw[←hK]at hkx;simp only[XO]at hb;split at hb
  ·rename_i i hix;split at hb
   ·exact hok.k_bl t 0 b (by assumption) hkb
   ·exact hokx.k_bl i j b hb hkx
  ·exact hok.k_bl t j b hb hkb
 ·rcases hb with hb|hb
  ·exact hok.k_F b hb
  ·rcases hokx.k_F b hb with h1|h1
   ·exact hok.k_F b h1
   ·exact .inr fun hkb=>h1 (by rw[hK];exact hKlt b hkb)
theorem jz(hok:Ok B G w h){d:Nat}(hbel:Below B w w')(hsame:Same (Xw g h w ks as).K w w'):Step B (d::as.filterMap (·.2)) [d] [] w w' h (XO h hx as):=by
 refine⟨hbel,fun b hlt hn=>hsame b ⟨hlt,fun i j hb=> ?_⟩,fun b hb=> .inl hb,fun t ht _=> ?_,fun t ht=> ?_,fun _ _ _ _ hm=>(by simp at hm),rfl⟩
 ·obtain⟨p,e,_,h1,_,_,h3,_⟩:=Yx hb;exact hn p (by simp only[Z8C];exact .inr (Vf h1)) j h3
 ·have hno:WT as t=none:=by
   cases hix:WT as t with
   |none=>rfl
   |some i=>
    obtain⟨e,hi⟩:=XB hix;exact absurd (Z8V _ (Vf hi)) ht
  funext j;simp only[XO,hno]
 ·simp only[XO];split<;>simp
theorem TI{i0:Nat}: ∀ {q:Nat} {ks:List OT} {as:List (E×Option Nat)} {ys:List V},as.length=ks.length→ys.length=ks.length→(∀(j:Nat) (k:OT) (y:E×Option Nat),ks[j]? =some k→as[j]? =some y→(y.2=none↔k=OT.fz))→ ∀(t:Nat),t∈Zu (Xe i0 q ks as)→
  ∃(j:Nat) (k:OT) (e:E) (y:V) (r:Nat),ks[j]? =some k∧as[j]? =some (e,some t)∧ys[j]? =some y∧(Xe i0 q ks as).at t=([],newK i0 (q+r) k)∧(X9 ks ys)[r]? =some y
 |q,[],as,ys,_,_,_,t,ht=>by
  have:Xe i0 q [] as= []:=by unfold Xe;rfl
  rw[this]at ht;simp[Zu]at ht
 |q,k::ks,[],ys,h1,_,_,t,ht=>by simp at h1
 |q,k::ks,(e,o)::as,[],_,h2,_,t,ht=>by simp at h2
 |q,k::ks,(e,o)::as,y::ys,h1,h2,h3,t,ht=>by
  have hk:=h3 0 k (e,o) rfl rfl;have h3': ∀(j:Nat) (k:OT) (y:E×Option Nat),ks[j]? =some k→as[j]? =some y→(y.2=none↔k= .fz):=fun j k y h4 h5=>h3 (j+1) k y (by simpa using h4) (by simpa using h5);cases o with
  |none=>
   have hkz:k= .fz:=hk.1 rfl;subst hkz;have e1:Xe i0 q (.fz::ks) ((e,none)::as)=Xe i0 q ks as:=by simp only[Xe]
   have e2:X9 (.fz::ks) (y::ys)=X9 ks ys:=by simp only[X9]
   rw[e1]at ht⊢;obtain⟨j,k',e',y',r,q1,q2,q3,q4,q5⟩:=TI (ys:=ys) (by simpa using h1) (by simpa using h2) h3' t ht;exact⟨j+1,k',e',y',r,by simpa using q1,by simpa using q2,by simpa using q3,q4,by rw[e2];exact q5⟩
  |some p=>
   have hkz:k≠ .fz:=fun e=>by have:=hk.2 e;cases this
   have e1:Xe i0 q (k::ks) ((e,some p)::as)=(p,[],newK i0 q k)::Xe i0 (q+1) ks as:=by simp only[Xe]
   have e2:X9 (k::ks) (y::ys)=y::X9 ks ys:=by cases k<;>first|exact absurd rfl hkz|simp only[X9]
   rw[e1]at ht⊢;by_cases hpt:p=t
   ·subst hpt;exact⟨0,k,e,y,0,rfl,rfl,rfl,by simp[Gam.at],by rw[e2];rfl⟩
   ·have ht':t∈Zu (Xe i0 (q+1) ks as):=by
     simp only[Zu,Z8x,Z8C]at ht;exact ht.resolve_left fun e=>hpt e.symm
    obtain⟨j,k',e',y',r,q1,q2,q3,q4,q5⟩:=TI (ys:=ys) (by simpa using h1) (by simpa using h2) h3' t ht';exact⟨j+1,k',e',y',r+1,by simpa using q1,by simpa using q2,by simpa using q3,by simp only[Gam.at,if_neg hpt];rw[q4,Z90,ZaZ 1 r],by rw[e2];simpa using q5⟩
theorem SH{i0:Nat}: ∀ {q:Nat} {ks:List OT} {as:List (E×Option Nat)},as.length=ks.length→Zu (Xe i0 q ks as)=as.filterMap (·.2)
 |q,[],[],_=>by simp[Xe,Zu]
 |q,[],_::_,h=>by simp at h
 |q,k::ks,[],h=>by simp at h
 |q,k::ks,(e,o)::as,h=>by
  cases o with
  |none=>
   have e1:Xe i0 q (k::ks) ((e,none)::as)=Xe i0 q ks as:=by simp only[Xe]
   rw[e1,SH (by simpa using h)];simp
  |some p=>
   have e1:Xe i0 q (k::ks) ((e,some p)::as)=(p,[],newK i0 q k)::Xe i0 (q+1) ks as:=by simp only[Xe]
   rw[e1];have:=SH (i0:=i0) (q:=q+1) (ks:=ks) (as:=as) (by simpa using h);simp only[Zu,Z8x]at this⊢;rw[this];simp
theorem Z1T{P:Program}{i0 q j p:Nat}{k:OT}{y:V}{L:List V}{v:Value}(hk:k≠ .fz)(hst:get s i0= .v (.tup L))(hq:L[q]? =some y){hx h':GH}(hrel: ∃tk,argK k y=some tk∧RelK P B [] w' hx (fun _=>none) j v tk)
  (hF: ∀b,hx.F b→h'.F b) (h0:(∃l,k= .mem l)→h'.bl p 0=hx.bl j 0) (hbl: ∀i,h'.bl p (i+1)=hx.bl j (i+1)) (tm:Nat→Option Value):RelK P B s w' h' tm p v (newK i0 q k):=by
 obtain⟨tk,harg,hrel⟩:=hrel;have hext:eval s (.ext (.s i0) q)=some y:=by simp only[eval,hst,Z8g,extV,hq]
 cases k with
 |fz=>exact absurd rfl hk
 |own ty=>
  simp only[argK,Z83]at harg;subst harg;obtain⟨x,hx1,hown⟩:=hrel;simp only[eval,Z83]at hx1;subst hx1;exact⟨y,hext,hown.mono hF (hbl 0).symm⟩
 |mem l=>
  cases y<;>simp only[argK]at harg<;>first| (cases harg;done) |skip
  rename_i cs;split at harg
  ·rename_i hlen;simp only[Z83]at harg;subst harg;obtain⟨b,vs,T,e1,e2,e3,e4,e5⟩:=hrel;refine⟨b,vs,T,by rw[h0 ⟨l,rfl⟩];exact e1,e2,e3,by rw[e4];simp;omega,fun i ck hi=> ?_⟩;simp only[Z8l,Z87]at hi;obtain⟨⟨kk,i'⟩,hi,rfl⟩:=hi;rw[Z9T,Z87]at hi;obtain⟨kk',hi,hki⟩:=hi;simp only[Z8d,Z8N]at hki;obtain⟨rfl,rfl⟩:=hki;have hlt:i<cs.length:=by rw[hlen];exact(Z86.1 hi).1
   have hc:=e5 i (kk',.c cs[i]) (by rw[Z8l,Z87];exact⟨(kk',cs[i]),by rw[Zad];exact⟨hi,Z85 hlt⟩,rfl⟩);show RelC P B s w' h' (h'.bl p (i+1)) kk' (.fld (.ext (.s i0) q) i) (vs.getD i undef);rw[hbl]
   have hfld:cs[i].one=true→eval s (.fld (.ext (.s i0) q) i)=some cs[i]:=fun h1=>by
    simp only[eval,hst,Z8g,extV,hq,fldV,V.pc,Z85 hlt,oneV,h1,Z8S]
   cases kk' with
   |fz=>
    obtain⟨x,q1,q2,q3⟩:=hc;simp only[eval,Z83]at q1;subst q1;exact⟨_,hfld q2,q2,q3.mono hF⟩
   |own ty=>
    obtain⟨x,q1,q2⟩:=hc;simp only[eval,Z83]at q1;subst q1;exact⟨_,hfld q2.one,q2.mono hF rfl⟩
   |nil=>
    obtain⟨q1,q2⟩:=hc;simp only[eval,Z83]at q2;exact⟨q1,by rw[hfld (by rw[q2];rfl),q2]⟩
   |dead=>exact hc
  ·cases harg
 |nil=>simp[argK]at harg
 |clo f l=>simp[argK]at harg
theorem YW: ∀ {ks:List OT} {aps:List AP} {as:List (E×Option Nat)},Xu c g C ks aps=some as→aps.length=ks.length∧as.length=ks.length∧ ∀(i:Nat) (k:OT) (x:AP) (y:E×Option Nat),ks[i]? =some k→aps[i]? =some x→as[i]? =some y→V4 c g C k x=some y
 | [],[],as,h=>by
   simp only[Xu,Z83]at h;subst h;exact⟨rfl,rfl,fun i k x y hk=>by simp at hk⟩
 | [],_::_,as,h=>by simp[Xu]at h
 |_::_,[],as,h=>by simp[Xu]at h
 |k::ks,x::l,as,h=>by
  simp only[Xu,Z84,Z87]at h;obtain⟨y,hy,ys,hys,rfl⟩:=h;obtain⟨h1,h2,h3⟩:=YW hys;refine⟨by simp[h1],by simp[h2],fun i k' x' y' q1 q2 q3=> ?_⟩;cases i with
  |zero=>simp at q1 q2 q3;subst q1 q2 q3;exact hy
  |succ i=>exact h3 i k' x' y' (by simpa using q1) (by simpa using q2) (by simpa using q3)
theorem Z1f(hr:RelG c B G s a w h g)(hC:holds s (ixC c C)){aps:List AP}(hp:Xu c g C ks aps=some as){xs:List V}(hxs:Y1 s (as.map (·.1))=some xs){vs:Array Value}(hvl:vs.size=aps.length)(hvs: ∀(i:Nat) (x:AP),aps[i]? =some x→apV a h x (vs.getD i undef)):
  RelA c.P B w (Xw g h w ks as) ks xs vs:=by
 obtain⟨h1,h2,h3⟩:=YW hp;obtain⟨h4,h5⟩:=Yo hxs;refine⟨by rw[h4];simpa using h2,by omega,fun i k x hk hx=> ?_⟩;have hlt:i<ks.length:=(Z86.1 hk).1;have ha:aps[i]? =some aps[i]:=Z85 (by omega);have hs:as[i]? =some as[i]:=Z85 (by omega);obtain⟨x',hx1,hx2⟩:=h5 i (as[i]).1 (by rw[Z8l,hs];rfl);rw[hx]at hx1;cases hx1;exact(LW hr hC (h3 i k _ _ hk ha hs) hx2 (hvs i _ ha) hk hs).1
theorem Rj(hr:RelG c B G s a w h g){aps:List AP}(hp:Xu c g C ks aps=some as)(hn:(as.filterMap (·.2)).Nodup){d:Nat}(hd:d<a.tmps.size)(hdp:d∉as.filterMap (·.2)){all:Gam}{efs:List EF}{chks:List (Ze×E)}{kd:TK}
  {vs:Array Value} (hslot: ∀(i:Nat) (e:E) (p:Nat),as[i]? =some (e,some p)→a.tmps[p]? =some (vs.getD i undef)∧((∃l b,ks[i]? =some (.mem l)∧h.bl p 0=some b∧vs.getD i undef= .pointer (some ⟨b,0,none⟩))∨ ∃ty,ks[i]? =some (.own ty)))
  (hz: ∀(j:Nat) (k:OT) (y:E×Option Nat),ks[j]? =some k→as[j]? =some y→(y.2=none↔k=OT.fz))
  (hokx:Ok B h.F w' hx) (hK:hx.K=(Xw g h w ks as).K) (hbel:Below B w w') (hsame:Same (Xw g h w ks as).K w w') {ys:List V} (hB:RelB c.P B w' hx ks ys vs) {r0:V} (hget:X9 ks ys≠ []→get s (c.ix d)= .v (.tup (r0::X9 ks ys)))
  {u:Value} (hu:holds s (ixC c C)→RelK c.P B s w' (XO h hx as) (fun p=>(a.put (some d) u).tmps[p]?) d u kd) (hu': ¬holds s (ixC c C)→u=undef):
  OPost c B G s a (a.put (some d) u) w w' h (XO h hx as) {d:=(d,C,kd)::Xe (c.ix d) 1 ks as++Xv (d::as.filterMap (·.2)) [d] [] all,ps:=d::as.filterMap (·.2),rb:= [d],fz:= [],efs,chks}:=by
 obtain⟨h1,h2,h3⟩:=YW hp
 have hks: ∀(i:Nat) (e:E) (p:Nat),as[i]? =some (e,some p)→(∃l,ks[i]? =some (.mem l)∧hx.bl i 0=h.bl p 0)∨ ∃ty,ks[i]? =some (.own ty):=by
  intro i e p hi;obtain⟨_,hcase⟩:=hslot i e p hi;rcases hcase with ⟨l,b,hk,hb,hv⟩ |hk
  ·refine .inl ⟨l,hk,?_⟩;have hlt:i<ys.length:=by rw[hB.1];exact(Z86.1 hk).1
   obtain⟨tk,harg,hrel⟩:=hB.2 i _ ys[i] hk (by simp) (Z85 hlt);generalize ys[i]=y at harg;cases y<;>simp only[argK]at harg<;>first| (cases harg;done) |skip
   split at harg
   ·simp only[Z83]at harg;subst harg;obtain⟨b',vs',T,e1,e2,_⟩:=hrel;rw[hv]at e2;simp only[Value.pointer.injEq,Z83,Addr.mk.injEq,ZbU]at e2;rw[e1,hb,e2]
   ·cases harg
  ·exact .inr hk
 have hok':=Z3h hr.ok hn hokx hK hbel.size hks;have hst:=jz (hx:=hx) (d:=d) hr.ok hbel hsame;refine⟨hst,hok',TS _ _ _,Vo _ _ _,fun t ht=>TY (fun e=>ht (by simp[e])) u,fun t ht=> ?_⟩;simp only[Z99,Gam.at];by_cases hdt:d=t
 ·subst hdt;simp only[Z8S];refine⟨fun hh _=>⟨u,Xz hd u,hu hh⟩,fun hh=> ?_⟩;rw[hu' hh];simp only[Z88,Xz hd,Z8J]
 ·rw[if_neg hdt,ZT];by_cases hto:t∈Zu (Xe (c.ix d) 1 ks as)
  ·rw[if_pos hto];obtain⟨j,k,e,y,r,q1,q2,q3,q4,q5⟩:=TI (i0:=c.ix d) (q:=1) (ys:=ys) h2 hB.1 hz t hto;rw[q4];refine⟨fun _ _=>⟨vs.getD j undef,by rw[TY (Z9R hdt)];exact(hslot j e t q2).1,?_⟩,fun hh=>absurd (Za s c) hh⟩;have hkz:k≠ .fz:=fun e'=>by have:=(hz j k _ q1 q2).2 e';cases this
   have hix:=Z0m hn q2;refine Z1T (h':=XO h hx as) hkz (hget fun e'=>by rw[e']at q5;simp at q5) (by rw[ZaZ];simpa using q5) (hB.2 j k y q1 hkz q3) (fun b hb=> .inr hb) (fun hm=> ?_) (fun i=>by simp[XO,hix]) _;rcases hks j e t q2 with ⟨l,_,h0⟩ | ⟨ty,hty⟩
   ·simp[XO,hix,h0]
   ·obtain⟨l,rfl⟩:=hm;rw[q1]at hty;cases hty
  ·rw[if_neg hto]
   have htk:t∈Zu (Xv (d::as.filterMap (·.2)) [d] [] all):=by
    simp only[Zu,Z8x,Z9x,Z99,Z8C,Z8I]at ht hto⊢;rcases ht with ht|ht|ht
    ·exact absurd ht.symm hdt
    ·exact absurd ht hto
    ·exact ht
   rw[TO htk];exact⟨fun _ hno=>by simp[TK.isNo]at hno,fun hh=>absurd (Za s c) hh⟩
end
end Vm
namespace Vm
open Go
open Go.RowKit (Below)
section
variable {c:Ctx} {B:Nat} {G:Nat→Prop} {s:St} {a a':Act} {w w':World} {h h':GH} {g:Gam} {C:Ze} {fz ps rb:List Nat} {ops:Array Oper}
theorem GH.exb_of{h:GH}{big:Bool}{sh:List Nat}{b:Nat}(hb:h.ext sh b):h.exb big sh b:=by
 rcases hb with hb| ⟨p,hp,i,hi⟩
 ·exact .inl hb
 ·exact .inr ⟨p,hp,i+1,.inr (by omega),hi⟩
theorem GH.exb_ext{h:GH}{sh:List Nat}{b:Nat}(hb:h.exb false sh b):h.ext sh b:=by
 rcases hb with hb| ⟨p,hp,i,hi0,hi⟩
 ·exact .inl hb
 ·rcases hi0 with hi0|hi0
  ·cases hi0
  ·cases i with
   |zero=>omega
   |succ i=>exact .inr ⟨p,hp,i,hi⟩
theorem GH.exb_mono{h:GH}{big big':Bool}{sh sh':List Nat}(hb:big=true→big'=true)(hs: ∀p∈sh,p∈sh'): ∀b,h.exb big sh b→h.exb big' sh' b:=by
 intro b hx;rcases hx with hx| ⟨p,hp,i,hi0,hi⟩
 ·exact .inl hx
 ·refine .inr ⟨p,hs p hp,i,?_,hi⟩;rcases hi0 with h0|h0
  ·exact .inl (hb h0)
  ·exact .inr h0
theorem GH.exb_lt(hok:Ok B G w h){big:Bool}{sh:List Nat}: ∀b,h.exb big sh b→b<w.heap.size:=by
 intro b hb;rcases hb with hb| ⟨p,_,i,_,hi⟩
 ·exact hok.f_lt b hb
 ·exact(hok.b_lt p i b hi).2.1
theorem ym(hr:RelG c B G s a w h g){G':Nat→Prop}(hF: ∀b,h.F b→G' b): ∀ {caps:List Nat} {es:List E} {xs:List V},(∀p∈caps,∀i b,h.bl p i=some b→G' b)→jt g caps=some es→Y1 s es=some xs→
  xs.length=caps.length∧ ∀(i p b:Nat) (x:V),caps[i]? =some p→xs[i]? =some x→h.bl p 0=some b→Rd w G' x (.pointer (some ⟨b,0,none⟩))
 | [],es,xs,_,he,hx=>by
   simp only[jt,Z83]at he;subst he;simp only[Y1,Z83]at hx;subst hx;exact⟨rfl,fun i p b x hi=>by simp at hi⟩
 |q::l,es,xs,hG,he,hx=>by
  simp only[jt,Z84]at he;obtain⟨cs,hm,he⟩:=he;split at he
  ·cases he
  rename_i hd;simp only[Z87]at he;obtain⟨es',he',rfl⟩:=he;simp only[Y1,Z84,Z87]at hx;obtain⟨z,hz,xs',hxs',rfl⟩:=hx;obtain⟨h1,h2⟩:=ym hr hF (fun p hp=>hG p (by simp[hp])) he' hxs';refine⟨by simp[h1],fun i p b x hi hxi hb=> ?_⟩;cases i with
  |zero=>
   simp at hi hxi;subst hi hxi;obtain⟨b',vs,T,q0,_,q2,q3⟩:=hr.memOf hm;rw[hb]at q0;cases q0;exact Sg hb q2 q3 (by simpa using hd) hz hF (hG q (by simp))
  |succ i=>exact h2 i p b x (by simpa using hi) (by simpa using hxi) hb
theorem Z2R(hr:RelG c B G s a w h g)(hC:holds s (ixC c C)){x:Operand}{e:E}{sh:List Nat}(he:bigE g (opK g C x) (JW x)=some (e,sh)){z:V}(hz:eval s e=some z):Rd w (h.exb true sh) z (a.eval x):=by
 have hF: ∀b,h.F b→h.exb true sh b:=fun b hb=> .inl hb;have hG: ∀p∈sh,∀i b,h.bl p i=some b→h.exb true sh b:=fun p hp i b hi=> .inr ⟨p,hp,i,.inl rfl,hi⟩;cases x with
 |tmp t=>
  simp only[opK,JW]at he;cases hk:look g C t with
  |mem cs=>
   rw[hk]at he;simp only[bigE]at he;split at he
   ·cases he
   rename_i hd;simp only[Z83,Z8d]at he;obtain⟨rfl,rfl⟩:=he;obtain⟨v,hv,⟨b,vs,T,q0,rfl,q2,q3⟩,_⟩:=hr.look hC hk rfl;rw[Act.eval_tmp a t _ hv];exact Sg q0 q2 q3 (by simpa using hd) hz hF (hG t (by simp))
  |pm p o=>
   rw[hk]at he;cases o with
   |succ o=>simp[bigE]at he
   |zero=>
    simp only[bigE,Z84]at he;obtain⟨cs,hm,he⟩:=he;split at he
    ·cases he
    rename_i hd;simp only[Z83,Z8d]at he;obtain⟨rfl,rfl⟩:=he;obtain⟨v,hv,⟨b,q0,rfl⟩,_⟩:=hr.look hC hk rfl;obtain⟨b',vs,T,q1,_,q2,q3⟩:=hr.memOf hm;rw[q0]at q1;cases q1;rw[Act.eval_tmp a t _ hv];exact Sg q0 q2 q3 (by simpa using hd) hz hF (hG p (by simp))
  |clo f caps=>
   rw[hk]at he;simp only[bigE,Z87,Z8d]at he;obtain⟨es,hes,rfl,rfl⟩:=he;obtain⟨v,hv,⟨vs,rfl,q1,q2⟩,_⟩:=hr.look hC hk rfl;rw[Act.eval_tmp a t _ hv];simp only[eval,Z84]at hz;obtain⟨xs,hxs,hz⟩:=hz;simp only[ptV,Z83]at hz;subst hz;obtain⟨h1,h2⟩:=ym hr hF hG hes hxs;refine .clo f xs vs (by omega) fun i x hi=> ?_;have hlt:i<caps.length:=by have:=(Z86.1 hi).1;omega
   obtain⟨b,q3,q4⟩:=q2 i caps[i] (by simp[hlt]);have:vs.getD i undef= .pointer (some ⟨b,0,none⟩):=by simp[Z88,q4]
   rw[this];exact h2 i _ b x (by simp[hlt]) hi q3
  |big e' sh'=>
   rw[hk]at he;simp only[bigE,Z83,Z8d]at he;obtain⟨rfl,rfl⟩:=he;obtain⟨v,hv,⟨x,hx,hrd⟩,_⟩:=hr.look hC hk rfl;rw[Act.eval_tmp a t _ hv];rw[hz]at hx;cases hx;exact hrd
  |_=>rw[hk]at he;simp[bigE]at he
 |const v=>
  have: ∀k,bigE g k 0=some (e,sh)→(∃cs,k= .mem cs)∨(∃p o,k= .pm p o)∨(∃f l,k= .clo f l)∨ ∃e l,k= .big e l:=by
   intro k hk;cases k<;>first| (simp[bigE]at hk;done) |exact .inl ⟨_,rfl⟩ |exact .inr (.inl ⟨_,_,rfl⟩) |exact .inr (.inr (.inl ⟨_,_,rfl⟩)) |exact .inr (.inr (.inr ⟨_,_,rfl⟩))
  have h1:=this _ he;unfold opK at h1;exfalso;split at h1
  ·rcases h1 with ⟨_,h1⟩ | ⟨_,_,h1⟩ | ⟨_,_,h1⟩ | ⟨_,_,h1⟩<;>cases h1
  ·split at h1<;>(rcases h1 with ⟨_,h1⟩ | ⟨_,_,h1⟩ | ⟨_,_,h1⟩ | ⟨_,_,h1⟩<;>cases h1)
  ·rename_i h2;cases h2
  ·rename_i h2;cases h2
  ·rcases h1 with ⟨_,h1⟩ | ⟨_,_,h1⟩ | ⟨_,_,h1⟩ | ⟨_,_,h1⟩<;>cases h1
 |func f=>simp[opK,bigE]at he
 |global q=>simp[opK,bigE]at he
theorem Z3g(hr:RelG c B G s a w h g)(hC:holds s (ixC c C)){fl:Bool}{x:Operand}{r:E×List Nat×Bool}(he:argE g C fl x=some r){z:V}(hz:eval s r.1=some z):Rd w (h.exb r.2.2 r.2.1) z (a.eval x):=by
 unfold argE at he;split at he
 ·rename_i a0 ha;simp only[Z83]at he;subst he;obtain⟨y,hy,hyr⟩:=Vx hr hC ha;obtain⟨z',hz',hzr⟩:=SL (b:=a0) hy hyr ⟨z,hz⟩;rw[hz]at hz';cases hz';exact hzr.mono fun b hb=>GH.exb_of hb
 ·simp only[Z87]at he;obtain⟨a1,ha,rfl⟩:=he;exact Z2R hr hC (e:=a1.1) (sh:=a1.2) ha hz
theorem zQ(hr:RelG c B G s a w h g)(hC:holds s (ixC c C)): ∀ {l:List Operand} {ts:List TypeId} {es:List E×List Nat×Bool},jq c.P g C l ts=some es→ ∀ {xs:List V},Y1 s es.1=some xs→
  xs.length=l.length∧ ∀(i:Nat) (x:Operand),l[i]? =some x→ ∃z,xs[i]? =some z∧Rd w (h.exb es.2.2 es.2.1) z (a.eval x)
 | [],ts,es,he,xs,hx=>by
   simp only[jq,Z83]at he;subst he;simp only[Y1,Z83]at hx;subst hx;exact⟨rfl,fun i x hi=>by simp at hi⟩
 |x::l,ts,es,he,xs,hx=>by
  simp only[jq,Z84,Z87]at he;obtain⟨a0,ha,b,hb,rfl⟩:=he;simp only[Y1,Z84,Z87]at hx;obtain⟨z,hz1,xs',hx2,rfl⟩:=hx;obtain⟨h1,h2⟩:=zQ hr hC hb hx2;have hzr:=Z3g hr hC ha hz1;refine⟨by simp[h1],fun i y hi=> ?_⟩;cases i with
  |zero=>simp at hi;subst hi;exact⟨z,by simp,hzr.mono (GH.exb_mono (fun e=>by simp[e]) fun p hp=>by simp[hp])⟩
  |succ i=>
   obtain⟨z',e1,e2⟩:=h2 i y (by simpa using hi);exact⟨z',by simpa using e1,e2.mono (GH.exb_mono (fun e=>by simp[e]) fun p hp=>by simp[hp])⟩
theorem yt(hr:RelG c B G s a w h g)(hC:holds s (ixC c C)){o:Oper}{fn:FN}{sh:List Nat}{args:List Operand}{ts:List TypeId}(hcall:jP g C o=some (fn,sh,args,ts)){n:FuncId×List V}(hf:fnV s fn=some n)(hcb:ZX c.P n.1=true):
  ∃caps:Array Value,(execOp a.eval o).run c.P w= .ok (.enter n.1 ((args.map a.eval).toArray++caps)) w∧caps.size=n.2.length∧ ∀(i:Nat) (x:V),n.2[i]? =some x→Rd w (h.ext sh) x (caps.getD i undef):=by
 have hent: ∀ {f:FuncId} {args:Array Operand} {tys:Array TypeId} {cv:Operand} {caps:Array Value},ZX c.P f=true→o.op= .call {callee:= .value cv,args:=args,argTypes:=tys}→a.eval cv= .func (.func f) #[] caps→
   (execOp a.eval o).run c.P w= .ok (.enter f ((args.toList.map a.eval).toArray++caps)) w:=by
  intro f args tys cv caps hcb hop hev;unfold ZX at hcb;split at hcb
  ·rename_i fn hfn;simp only[Z8c,Z93,Za3,ne_eq]at hcb;obtain⟨h1,h2⟩:=hcb;obtain⟨code,h3⟩:=Z9h.1 h2;have:(args.toList.map a.eval).toArray=args.map a.eval:=by rw[←Array.toList_map,Array.toArray_toList]
   rw[this];simp[execOp,hop,resolve,hev,Deferred.ofValue,invoke,callFunc,hfn,h1,h3]
  ·cases hcb
 unfold jP at hcall;split at hcall
 ·rename_i f' args' tys hop;simp only[Z83,Z8d]at hcall;obtain⟨rfl,rfl,rfl,rfl⟩:=hcall;simp only[fnV,Z83]at hf;subst hf;exact⟨#[],hent hcb hop rfl,rfl,fun i x hi=>by simp at hi⟩
 ·rename_i t args' tys hop;split at hcall
  ·rename_i e sh' hk;simp only[Z83,Z8d]at hcall;obtain⟨rfl,rfl,rfl,rfl⟩:=hcall;obtain⟨v,hv,⟨x,hx,hxr⟩,_⟩:=hr.look hC (show look g C t=_ from hk) rfl;simp only[fnV,hx,Z8g]at hf;unfold cloV at hf;split at hf
   ·simp only[Z83]at hf;subst hf;cases hxr;exact⟨#[],hent hcb hop (Act.eval_tmp a t _ hv),rfl,fun i x hi=>by simp at hi⟩
   ·simp only[Z83]at hf;subst hf;cases hxr with
    |clo _ _ vs h1 h2=>exact⟨vs,hent hcb hop (Act.eval_tmp a t _ hv),h1,h2⟩
   ·cases hf
  ·cases hcall
 ·cases hcall
theorem qz(hr:RelG c B G s a w h g)(hC:holds s (ixC c C)){o:Oper}{x y z:Operand}(ho:o.op= .pick x y z){k:TK}{es:List E}(hp:Z0v c g C x y z=some (k,es))(hes: ∀e∈es,∃z,eval s e=some z)(d:Nat):PRun c B G s a w h o d k:=by
 unfold Z0v at hp;split at hp
 ·rename_i t u hk;split at hp
  ·cases hp
  ·rename_i hu;have hu:u=c.ix t:=by simpa using hu
   subst hu;simp only[Z84,Z87,Z8d]at hp;obtain⟨ey,hey,ez,hez,rfl,rfl⟩:=hp;obtain⟨v,hv,⟨xb,hxb,hxr⟩,_⟩:=hr.look hC (show look g C t=_ from hk) rfl;obtain⟨q,hq⟩:=hes _ (List.Mem.head _);have hq0:=hq;simp only[eval]at hq hxb;rw[hxb,Z8g]at hq
   have hst:get s (c.ix t)= .v xb:=by
    cases hg:get s (c.ix t)<;>rw[hg]at hxb<;>simp at hxb
    rw[hxb]
   have hex: ∀b,xb= .bool b→(execOp a.eval o).run c.P w= .ok (.value (if b=true then a.eval y else a.eval z)) w:=by
    intro b hb;subst hb;have hvb:v= .bool b:=by cases hxr;rfl
    subst hvb;unfold execOp;simp only[ho,Act.eval_tmp a t _ hv];cases b<;>simp[asBool]
   unfold iteV at hq;split at hq
   ·have hC2:holds s (ixC c (C++ [(t,true)])):=by
     have:ixC c (C++ [(t,true)])=ixC c C++ [(c.ix t,true)]:=by simp[ixC]
     rw[this,Vd];refine⟨hC,fun x hx=> ?_⟩;simp at hx;subst hx;exact hst
    obtain⟨r,hr1,hr2⟩:=Vx hr hC2 hey;rw[hr1]at hq;cases hq;exact⟨_,w,hex true rfl,PRes.here hr.ok ⟨_,hq0,hr2.mono fun b hb=>GH.ext_left hb⟩⟩
   ·have hC2:holds s (ixC c (C++ [(t,false)])):=by
     have:ixC c (C++ [(t,false)])=ixC c C++ [(c.ix t,false)]:=by simp[ixC]
     rw[this,Vd];refine⟨hC,fun x hx=> ?_⟩;simp at hx;subst hx;exact hst
    obtain⟨r,hr1,hr2⟩:=Vx hr hC2 hez;rw[hr1]at hq;cases hq;exact⟨_,w,hex false rfl,PRes.here hr.ok ⟨_,hq0,hr2.mono fun b hb=>GH.ext_right hb⟩⟩
   ·cases hq
 ·cases hp
theorem Z0S(hr:RelG c B G s a w h g)(hC:holds s (ixC c C)){o:Oper}{k:TK}{es:List E}(hp:pkOf c g C o=some (k,es))(hes: ∀e∈es,∃z,eval s e=some z)(d:Nat)(hd:o.dst=some d):PRun c B G s a w h o d k:=by
 unfold pkOf at hp;split at hp
 ·rename_i x y z ho;exact qz hr hC ho hp hes d
 ·split at hp
  ·cases hp
  ·exact Z0E hr hC hp hes d hd
 ·split at hp
  ·cases hp
  ·exact Z0E hr hC hp hes d hd
 ·exact Z0E hr hC hp hes d hd
theorem Ji(hr:RelG c B G s a w h g){o:Oper}(hc:Qa c ops g o=some C):(holds s (ixC c C)→Region.wanted o (yielded ops a.tmps)=true)∧(¬holds s (ixC c C)→Region.wanted o (yielded ops a.tmps)=false):=by
 unfold Qa at hc;unfold Region.wanted;split at hc
 ·rename_i hg;simp only[Z83]at hc;subst hc;simp only[hg];exact⟨fun _=>trivial,fun hn=>absurd (Za s c) hn⟩
 ·rename_i j want hg;simp only[Z84]at hc;obtain⟨t,ht,hc⟩:=hc;simp only[hg]
  have hy:yielded ops a.tmps j=match a.tmps[t]? with|some (.bool b)=>some b|_=>none:=by
   unfold yielded;rw[show(ops[j]?).bind (·.dst)=some t from by rw[Z84];exact ht,Z8g];generalize a.tmps[t]? =q;cases q with
   |none=>rfl
   |some v=>cases v<;>rfl
  split at hc
  ·rename_i Ct u hat;split at hc
   ·rename_i hu;subst hu;simp only[Z83]at hc;subst hc;have e1:ixC c (Ct++ [(t,want)])=ixC c Ct++ [(c.ix t,want)]:=by simp[ixC]
    have e2:holds s (ixC c (Ct++ [(t,want)]))↔holds s (ixC c Ct)∧get s (c.ix t)= .v (.bool want):=by
     rw[e1,Vd];simp[holds]
    by_cases hCt:holds s (ixC c Ct)
    ·obtain⟨v,hv,hrel⟩:=hr.at_ t (by rw[hat];exact hCt) (by rw[hat];rfl);rw[hat]at hrel;obtain⟨x,hx,hxr⟩:=hrel
     have hst:get s (c.ix t)= .v x:=by
      simp only[eval]at hx;cases hg:get s (c.ix t)<;>rw[hg]at hx<;>simp at hx
      rw[hx]
     rw[hy,hv];constructor
     ·intro hh;have:=(e2.1 hh).2;rw[hst]at this;simp only[SV.v.injEq]at this;subst this;have hvb:v= .bool want:=by cases hxr;rfl
      subst hvb;simp
     ·intro hh;have hne:x≠ .bool want:=fun e=>hh (e2.2 ⟨hCt,by rw[hst,e]⟩)
      cases hxr<;>first
       |rfl
       | (rename_i b;simp only[Za3,ne_eq,Z83];exact fun e=>hne (by rw[e]))
    ·have hs:=hr.skip t (by rw[hat];exact hCt)
     have hnone:(match a.tmps[t]? with|some (.bool b)=>some b|_=>none)=(none:Option Bool):=by
      cases hh:a.tmps[t]? with
      |none=>rfl
      |some v=>
       simp only[Z88,hh,Z8J]at hs;subst hs;rfl
     rw[hy,hnone];exact⟨fun hh=>absurd (e2.1 hh).1 hCt,fun _=>rfl⟩
   ·cases hc
  ·cases hc
theorem yk{d:Nat}{k:TK}{v:Value}{efs:List EF}{chks:List (Ze×E)}(hd:d<a.tmps.size)(hs:Step B [d] [d] [] w w' h h')(hok:Ok B G w' h')(hC:holds s (ixC c C))(hk:RelK c.P B s w' h' (fun p=>(a.put (some d) v).tmps[p]?) d v k):
  OPost c B G s a (a.put (some d) v) w w' h h' {d:= [(d,C,k)],ps:= [d],rb:= [d],fz:= [],efs,chks}:=
 ⟨hs,hok,TS _ _ _,Vo _ _ _,fun t ht=>Z2i v ht,fun t ht=>by
  have:t=d:=by simpa[Zu]using ht
  subst this;simp only[Gam.at,Z8S];exact⟨fun _ _=>⟨v,Xz hd v,hk⟩,fun hn=>absurd hC hn⟩⟩
theorem QZ{d:Nat}{k:TK}{efs:List EF}{chks:List (Ze×E)}(hd:d<a.tmps.size)(hok:Ok B G w h)(hC: ¬holds s (ixC c C)):
  OPost c B G s a (a.put (some d) undef) w w h h {d:= [(d,C,k)],ps:= [d],rb:= [d],fz:= [],efs,chks}:=
 ⟨Step.refl _ _ _ _,hok,TS _ _ _,Vo _ _ _,fun t ht=>Z2i _ ht,fun t ht=>by
  have:t=d:=by simpa[Zu]using ht
  subst this;simp only[Gam.at,Z8S];refine⟨fun hh=>absurd hh hC,fun _=> ?_⟩;simp only[Z88,Xz hd,Z8J]⟩
theorem RelK.other{d t:Nat}{v u:Value}{k:TK}(hk:RelK c.P B s w h (fun p=>a.tmps[p]?) t v k)(ht:Xd d k=false):RelK c.P B s w h (fun p=>(a.put (some d) u).tmps[p]?) t v k:=by
 cases k with
 |ref p=>
  have:p≠d:=fun e=>by subst e;simp[Xd]at ht
  show(a.put (some d) u).tmps[p]? =some v;rw[TY this];exact hk
 |_=>exact hk
theorem QA: ∀ {R:List Nat} {g:Gam} {t:Nat},(only g R).at t=if t∈R then g.at t else([],.no)
 | [],g,t=>rfl
 |u::R,g,t=>by
  simp only[only,Z8x,Gam.at];by_cases hu:u=t
  ·subst hu;simp
  ·rw[if_neg hu];have:=QA (R:=R) (g:=g) (t:=t);simp only[only]at this;rw[this];simp[Z9R hu]
theorem zS(hr:RelG c B G s a w h g){ks:List OT}{aps:List AP}{as:List (E×Option Nat)}(hp:Xu c g C ks aps=some as)(hX: ∀(i:Nat) (e:E) (p:Nat),as[i]? =some (e,some p)→ ∃X,eval s e=some X){vs:Array Value}
  (hvs: ∀(i:Nat) (e:E) (p:Nat),as[i]? =some (e,some p)→a.tmps[p]? =some (vs.getD i undef)):
  (∀(i:Nat) (e:E) (p:Nat),as[i]? =some (e,some p)→a.tmps[p]? =some (vs.getD i undef)∧((∃l b,ks[i]? =some (.mem l)∧h.bl p 0=some b∧vs.getD i undef= .pointer (some ⟨b,0,none⟩))∨ ∃ty,ks[i]? =some (.own ty))):=by
 obtain⟨h1,h2,h3⟩:=YW hp;intro i e p hi;have hlt:i<ks.length:=by rw[←h2];exact(Z86.1 hi).1
 have hk:ks[i]? =some ks[i]:=Z85 hlt;have ha:aps[i]? =some aps[i]:=Z85 (by omega);obtain⟨X,hx⟩:=hX i e p hi;obtain⟨v,q1,_,q2⟩:=TH (ks:=ks) (as:=as) hr (h3 i _ _ _ hk ha hi) hx hk hi;have hv:=hvs i e p hi;refine⟨hv,?_⟩;rw[q1]at hv;simp only[Z83]at hv;rw[←hv];rcases q2 with ⟨l,b,e1,e2,e3⟩ | ⟨ty,e1⟩
 ·exact .inl ⟨l,b,by rw[hk,e1],e2,e3⟩
 ·exact .inr ⟨ty,by rw[hk,e1]⟩
theorem Z4k{ks:List OT}{aps:List AP}{as:List (E×Option Nat)}(hp:Xu c g C ks aps=some as): ∀(j:Nat) (k:OT) (y:E×Option Nat),ks[j]? =some k→as[j]? =some y→(y.2=none↔k=OT.fz):=by
 obtain⟨h1,h2,h3⟩:=YW hp;intro j k y hk hy;have hlt:j<ks.length:=(Z86.1 hk).1;have hpo:=h3 j k _ y hk (Z85 (by omega:j<aps.length)) hy;unfold V4 at hpo;split at hpo
 ·split at hpo
  ·simp only[Z84]at hpo;obtain⟨_,_,hpo⟩:=hpo;split at hpo
   ·simp only[Z83]at hpo;subst hpo;simp
   ·cases hpo
  ·cases hpo
 ·simp only[Z84]at hpo;obtain⟨_,_,_,_,hpo⟩:=hpo;split at hpo
  ·simp only[Z83]at hpo;subst hpo;simp
  ·cases hpo
 ·simp only[Z84]at hpo;obtain⟨_,_,_,_,hpo⟩:=hpo;split at hpo
  ·simp only[Z83]at hpo;subst hpo;simp
  ·cases hpo
 ·cases hpo
theorem Wj: ∀ {l:List Operand} {ts:List TypeId},(VS l ts).length=l.length∧ ∀(i:Nat) (x:AP),(VS l ts)[i]? =some x→ ∃y t,l[i]? =some y∧x= .op y t
 | [],ts=>by simp[VS]
 |x::l,[]=>by
  obtain⟨h1,h2⟩:=Wj (l:=l) (ts:= []);refine⟨by simp[VS,h1],fun i y hi=> ?_⟩;cases i with
  |zero=>simp[VS]at hi;exact⟨x,0,rfl,hi.symm⟩
  |succ i=>simpa using h2 i y (by simpa[VS]using hi)
 |x::l,t::ts=>by
  obtain⟨h1,h2⟩:=Wj (l:=l) (ts:=ts);refine⟨by simp[VS,h1],fun i y hi=> ?_⟩;cases i with
  |zero=>simp[VS]at hi;exact⟨x,t,rfl,hi.symm⟩
  |succ i=>simpa using h2 i y (by simpa[VS]using hi)
theorem Lo(hr:RelG c B G s a w h g)(hC:holds s (ixC c C)){o:Oper}{fn:FN}{ks:List OT}{aps:List AP}(hcall:Lg c g C o=some (fn,ks,aps)){f:FuncId}(hf:fnOf s fn=some f)(hcb:ZX c.P f=true):
  ∃vs:Array Value,(execOp a.eval o).run c.P w= .ok (.enter f vs) w∧vs.size=aps.length∧ ∀(i:Nat) (x:AP),aps[i]? =some x→apV a h x (vs.getD i undef):=by
 have hent: ∀ {args:Array Operand} {tys:Array TypeId} {cv:Operand} {caps:Array Value},o.op= .call {callee:= .value cv,args:=args,argTypes:=tys}→a.eval cv= .func (.func f) #[] caps→
   (execOp a.eval o).run c.P w= .ok (.enter f (args.map a.eval++caps)) w:=by
  intro args tys cv caps hop hev;unfold ZX at hcb;split at hcb
  ·rename_i fn hfn;simp only[Z8c,Z93,Za3,ne_eq]at hcb;obtain⟨h1,h2⟩:=hcb;obtain⟨code,h3⟩:=Z9h.1 h2;simp[execOp,hop,resolve,hev,Deferred.ofValue,invoke,callFunc,hfn,h1,h3]
  ·cases hcb
 have plain: ∀ {args:Array Operand} {tys:Array TypeId} {i:Nat} {x:AP},(VS args.toList tys.toList)[i]? =some x→apV a h x ((args.map a.eval).getD i undef):=by
  intro args tys i x hi;obtain⟨y,t,hy,rfl⟩:=(Wj (l:=args.toList) (ts:=tys.toList)).2 i x hi;rw[Z97]at hy;have hlt:i<args.size:=(Z8H.1 hy).1;show(args.map a.eval).getD i undef=a.eval y;simp[Z88,hy]
 unfold Lg at hcall;split at hcall
 ·rename_i f' args tys hop;simp only[Z87,Z8d]at hcall;obtain⟨ks',_,rfl,rfl,rfl⟩:=hcall;simp only[fnOf,Z83]at hf;subst hf;refine⟨args.map a.eval++ #[],hent hop rfl,by simp[(Wj (l:=args.toList) (ts:=tys.toList)).1],fun i x hi=> ?_⟩;rw[Array.append_empty];exact plain hi
 ·rename_i t args tys hop;split at hcall
  ·rename_i f' caps hk;simp only[Z87,Z8d]at hcall;obtain⟨ks',_,rfl,rfl,rfl⟩:=hcall;simp only[fnOf,Z83]at hf;subst hf;obtain⟨v,hv,⟨vs,rfl,h2,h3⟩,_⟩:=hr.look hC (show look g C t=_ from hk) rfl;have hal:=(Wj (l:=args.toList) (ts:=tys.toList)).1;simp only[Za1]at hal;refine⟨args.map a.eval++vs,hent hop (Act.eval_tmp a t _ hv),by simp[hal,h2],fun i x hi=> ?_⟩;by_cases hlt:i<args.size
   ·rw[Z8m (by omega)]at hi;have:=plain hi;rw[Z88]at this⊢;rw[Za7 (by simpa using hlt)];exact this
   ·rw[Z8k (by omega),Z8l,Z87]at hi;obtain⟨p,hp,rfl⟩:=hi;rw[hal]at hp;obtain⟨b,q1,q2⟩:=h3 _ p hp;refine⟨b,q1,?_⟩;rw[Z88,Zbc (by simp;omega)];simp[q2]
  ·rename_i e sh hk;simp only[Z87,Z8d]at hcall;obtain⟨ks',_,rfl,rfl,rfl⟩:=hcall;obtain⟨v,hv,⟨x,hx,hxr⟩,_⟩:=hr.look hC (show look g C t=_ from hk) rfl;simp only[fnOf,hx]at hf;split at hf
   ·rename_i f' hx';simp only[Z83]at hx' hf;subst hx' hf;have hvf:v= .func (.func f') #[] #[]:=by cases hxr;rfl
    subst hvf;refine⟨args.map a.eval++ #[],hent hop (Act.eval_tmp a t _ hv),by simp[(Wj (l:=args.toList) (ts:=tys.toList)).1],fun i x hi=> ?_⟩;rw[Array.append_empty];exact plain hi
   ·cases hf
  ·cases hcall
 ·cases hcall
theorem Sp: ∀ {ks:List OT} {as:List (E×Option Nat)} {os:List V},as.length=ks.length→oldV s ks (as.map (·.1))=some os→ ∃ys,ys.length=ks.length∧X9 ks ys=os∧ ∀(i:Nat) (k:OT) (y:E×Option Nat) (x:V),ks[i]? =some k→k≠ .fz→as[i]? =some y→ys[i]? =some x→eval s y.1=some x
 | [],[],os,_,ho=>by
   simp only[Z9l,oldV,Z83]at ho;subst ho;exact⟨[],rfl,rfl,fun i k y x hk=>by simp at hk⟩
 | [],_::_,os,hl,_=>by simp at hl
 |_::_,[],os,hl,_=>by simp at hl
 |k::ks,(e,o)::as,os,hl,ho=>by
  by_cases hk:k= .fz
  ·subst hk;simp only[Z8x,oldV]at ho;obtain⟨ys,h1,h2,h3⟩:=Sp (ks:=ks) (as:=as) (by simpa using hl) ho;refine⟨.bool false::ys,by simp[h1],by simpa only[X9]using h2,fun i k y x q1 q2 q3 q4=> ?_⟩;cases i with
   |zero=>simp at q1;exact absurd q1.symm q2
   |succ i=>exact h3 i k y x (by simpa using q1) q2 (by simpa using q3) (by simpa using q4)
  ·have e1:oldV s (k::ks) (e::as.map (·.1))=(eval s e).bind fun x=>(oldV s ks (as.map (·.1))).map (x:: ·):=by cases k<;>first|exact absurd rfl hk|simp only[oldV]
   rw[Z8x,e1]at ho;simp only[Z84,Z87]at ho;obtain⟨x,hx,os',hos,rfl⟩:=ho;obtain⟨ys,h1,h2,h3⟩:=Sp (ks:=ks) (as:=as) (by simpa using hl) hos;have e2:X9 (k::ks) (x::ys)=x::X9 ks ys:=by cases k<;>first|exact absurd rfl hk|simp only[X9]
   refine⟨x::ys,by simp[h1],by rw[e2,h2],fun i k y z q1 q2 q3 q4=> ?_⟩;cases i with
   |zero=>simp at q3 q4;subst q3 q4;exact hx
   |succ i=>exact h3 i k y z (by simpa using q1) q2 (by simpa using q3) (by simpa using q4)
def okOS(P:Program)(s:St)(os:OS):Prop:=(∀ef∈os.efs,EFok P s ef)∧ ∀x∈os.chks,holds s x.1→ ∃z,eval s x.2=some z
theorem yH{lets R:List Nat}{all:Gam}{o:Oper}{os:OS}{i:Nat}(hi:ops[i]? =some o)(hR:R=Sr ops all o)(hr:RelG c B G s a w h (only all R))(hst:S1 c lets ops all o=some os)(hok:okOS c.P s os)(hn:c.n≤a.tmps.size)
  {Q:Exit→Act→World→Prop} {K:Act→World→Prop} (hK: ∀a' w' h',OPost c B G s a a' w w' h h' os→(∃u,a'=a.put o.dst u)→K a' w'):wpOp c.P ops Q i K a w:=by
 subst hR;unfold wpOp;simp only[hi];unfold S1 at hst;simp only at hst;split at hst
 ·cases hst
 ·rename_i hdn
  have hdst: ∀d,o.dst=some d→d<a.tmps.size:=by
   intro d hd;rcases Nat.lt_or_ge d c.n with hlt|hge
   ·exact Z8h hlt hn
   ·simp[Z2r,hd,Nat.not_lt.2 hge]at hdn
  simp only[Z84]at hst;obtain⟨C,hC,hst⟩:=hst;obtain⟨hw1,hw2⟩:=Ji (ops:=ops) hr hC;split at hst
  ·
   rename_i fn ks aps d hcall hd;unfold SR at hst;split at hst
   ·cases hst
   ·simp only[Z84]at hst;obtain⟨as,has,hst⟩:=hst;split at hst
    ·cases hst
    ·rename_i hnd;simp only[Z8r,Z93,not_or,ZaB,Z9e,Z8s]at hnd;obtain⟨hn,hdp⟩:=hnd;have hn:=Ry.1 hn;simp only[Z83]at hst;subst hst;have hef:=hok.1 _ (List.Mem.head _);obtain⟨hl1,hl2,hget⟩:=YW has;have hz:=Z4k has;rw[hd];by_cases hh:holds s (ixC c C)
     ·rw[if_pos (hw1 hh)];left;obtain⟨xs,f,R,hxs,hf,⟨hcb,hvc⟩,hR⟩:=hef.1 hh;obtain⟨vs,hent,hvl,hvs⟩:=Lo hr hh hcall hf hcb;have hrel:=Z1f hr hh has hxs hvl hvs;obtain⟨_,hxat⟩:=Yo hxs
      have hX: ∀(i:Nat) (e:E) (p:Nat),as[i]? =some (e,some p)→ ∃X,eval s e=some X:=fun i e p hi=>by
       obtain⟨X,_,hX⟩:=hxat i e (by rw[Z8l,hi];rfl);exact⟨X,hX⟩
      have hslot:=zS hr has hX (vs:=vs) fun i e p hi=>by
       have hlt:i<ks.length:=by rw[←hl2];exact(Z86.1 hi).1
       have hk:ks[i]? =some ks[i]:=Z85 hlt;have ha:aps[i]? =some aps[i]:=Z85 (by omega);obtain⟨X,hx⟩:=hX i e p hi;exact(LW (ks:=ks) (as:=as) hr hh (hget i _ _ _ hk ha hi) hx (hvs i _ ha) hk hi).2 p rfl
      unfold Oper.wp;rw[hent,Oper.upon_enter];refine Za8 (hvc B w (Xw _ h w ks as) vs (Kd hr.ok hn) hrel) fun e w' he=> ?_;obtain⟨v,r,ys,hx,rfl,hbel,hsame,hokx,hK',hrd,hB,hpack⟩:=he;simp only;rw[hd];refine hK _ _ _ (Rj hr has hn (hdst d hd) hdp hslot hz hokx hK' hbel hsame hB (r0:=r) (fun hne=> ?_) (fun _=> ?_) fun hh'=>absurd hh hh') ⟨_,by rw[hd]⟩
      ·rw[hR,hpack];cases hos:X9 ks ys with
       |nil=>exact absurd hos hne
       |cons x l=>rfl
      ·have hFx: ∀b,hx.F b→(XO h hx as).F b:=fun b hb=> .inr hb;cases hos:X9 ks ys with
       |nil=>
        have hps:(as.filterMap (·.2)).isEmpty=true:=by
         cases hpe:as.filterMap (·.2)with
         |nil=>rfl
         |cons p l=>
          exfalso;have hpm:p∈Zu (Xe (c.ix d) 1 ks as):=by rw[SH hl2,hpe];simp
          obtain⟨_,_,_,_,_,_,_,_,_,q5⟩:=TI (i0:=c.ix d) (q:=1) (ys:=ys) hl2 hB.1 hz p hpm;rw[hos]at q5;simp at q5
        rw[if_pos hps];refine⟨r,?_,hrd.mono fun b hb=>GH.ext_F (hFx b hb)⟩;simp only[eval,hR,hpack,hos,yE]
       |cons x l=>
        have hps: ¬(as.filterMap (·.2)).isEmpty=true:=by
         intro he;have hnil:=ZaG.1 he
         have: ∀ {ks:List OT} {as:List (E×Option Nat)} {ys:List V},as.length=ks.length→(∀(j:Nat) (k:OT) (y:E×Option Nat),ks[j]? =some k→as[j]? =some y→(y.2=none↔k=OT.fz))→as.filterMap (·.2)= []→X9 ks ys= []:=by
          intro ks
          induction ks with
          |nil=>intro as ys _ _ _;simp[X9]
          |cons k ks ih=>
           intro as ys h1 h2 h3;cases as with
           |nil=>simp at h1
           |cons y as=>
            have hy:y.2=none:=by
             cases hy:y.2 with
             |none=>rfl
             |some p=>simp[Z9z,hy]at h3
            have hk:=(h2 0 k y rfl rfl).1 hy;subst hk;cases ys with
            |nil=>simp[X9]
            |cons z ys=>
             simp only[X9];exact ih (by simpa using h1) (fun j k y q1 q2=>h2 (j+1) k y (by simpa using q1) (by simpa using q2)) (by simpa[Z9z,hy]using h3)
         have:=this (ys:=ys) hl2 hz hnil;rw[hos]at this;cases this
        rw[if_neg hps];refine⟨r,?_,hrd.mono fun b hb=>GH.ext_F (hFx b hb)⟩;simp only[eval,hR,hpack,hos,yE,Z8g,extV,Z9C]
     ·rw[if_neg (by rw[hw2 hh];simp)];obtain⟨os,hos,hgo⟩:=hef.2 hh;obtain⟨ys,hy1,hy2,hy3⟩:=Sp hl2 hos
      let vs:Array Value:=(as.map fun y=>match y.2 with|some p=>a.tmps.getD p undef|none=>undef).toArray
      have hX: ∀(i:Nat) (e:E) (p:Nat),as[i]? =some (e,some p)→ ∃X,ys[i]? =some X∧eval s e=some X:=fun i e p hi=>by
       have hlt:i<ks.length:=by rw[←hl2];exact(Z86.1 hi).1
       have hk:ks[i]? =some ks[i]:=Z85 hlt;have hyi:ys[i]? =some ys[i]:=Z85 (by omega);have hkz:ks[i]≠ .fz:=fun e'=>by have:=(hz i _ _ hk hi).2 e';cases this
       exact⟨_,hyi,hy3 i _ _ _ hk hkz hi hyi⟩
      have hval: ∀(i:Nat) (e:E) (p:Nat),as[i]? =some (e,some p)→a.tmps[p]? =some (vs.getD i undef):=fun i e p hi=>by
       have hlt:i<ks.length:=by rw[←hl2];exact(Z86.1 hi).1
       have hk:ks[i]? =some ks[i]:=Z85 hlt;have ha:aps[i]? =some aps[i]:=Z85 (by omega);obtain⟨X,_,hx⟩:=hX i e p hi;obtain⟨v,q1,_⟩:=TH (ks:=ks) (as:=as) hr (hget i _ _ _ hk ha hi) hx hk hi;have:vs.getD i undef=v:=by simp[vs,Z88,hi,q1]
       rw[this];exact q1
      have hslot:=zS hr has (fun i e p hi=>by obtain⟨X,_,hX⟩:=hX i e p hi;exact⟨X,hX⟩) hval;refine hK _ _ _ (Rj hr has hn (hdst d hd) hdp hslot hz (Kd hr.ok hn) rfl (.refl _ _) (.refl _ _) (ys:=ys) ⟨hy1,fun i k y hk hkz hy=> ?_⟩ (r0:= .bool false) (fun hne=>by rw[hy2];exact hgo (by rw[←hy2];exact hne)) (fun hh'=>absurd hh' hh) fun _=>rfl) ⟨_,by rw[hd]⟩;have hlt:i<ks.length:=(Z86.1 hk).1;have ha:aps[i]? =some aps[i]:=Z85 (by omega);have hs:as[i]? =some as[i]:=Z85 (by omega);generalize as[i]=y0 at hs;obtain⟨e,o⟩:=y0;cases o with
      |none=>exact absurd ((hz i k _ hk hs).1 rfl) hkz
      |some p=>
       obtain⟨X,hX1,hX2⟩:=hX i e p hs;rw[hy]at hX1;cases hX1;obtain⟨v,q1,q2,_⟩:=TH (ks:=ks) (as:=as) hr (hget i _ _ _ hk ha hs) hX2 hk hs;have:=hval i e p hs;rw[q1]at this;simp only[Z83]at this;rw[←this];exact q2
  ·cases hst
  split at hst
  ·
   rename_i f shf args ts d hcall hd;unfold Qn at hst;split at hst
   ·cases hst
   ·simp only[Z87]at hst;obtain⟨as,has,rfl⟩:=hst;by_cases hh:holds s (ixC c C)
    ·rw[if_pos (hw1 hh)];left;obtain⟨xs,n,r,hxs,hfn,hvc,hfl,hget⟩:=hok.1 _ (List.Mem.head _) hh;obtain⟨hl,hx⟩:=zQ hr hh has hxs;obtain⟨hcb,hvc⟩:=hvc;obtain⟨caps,henter,hcsz,hcrd⟩:=yt hr hh hcall hfn hcb
     ·unfold Oper.wp;rw[henter,Oper.upon_enter];refine Za8 (hvc w (h.exb as.2.2 (as.2.1++shf)) ((args.map a.eval).toArray++caps) (GH.exb_lt hr.ok) (by simp[hl,hcsz]) fun j x hj=> ?_) fun e w' he=> ?_
      ·by_cases hlt:j<args.length
       ·rw[Z8m (by omega)]at hj;obtain⟨z,hz,hzr⟩:=hx j args[j] (by simp[hlt]);rw[hj]at hz;cases hz
        have:((args.map a.eval).toArray++caps).getD j undef=a.eval args[j]:=by
         rw[Z88,Za7 (by simpa using hlt)];simp[hlt]
        rw[this];exact hzr.mono (GH.exb_mono (fun e=>e) fun p hp=>by simp[hp])
       ·rw[Z8k (by omega)]at hj;have:=hcrd _ x hj
        have e:((args.map a.eval).toArray++caps).getD j undef=caps.getD (j-xs.length) undef:=by
         rw[Z88,Z88,Zbc (by simp;omega)];simp[hl]
        rw[e];exact this.mono fun b hb=>GH.exb_mono (fun e=>by cases e) (fun p hp=>by simp[hp]) b (GH.exb_of (big:=false) hb)
      ·obtain⟨v,rfl,hbel,hrd⟩:=he;simp only;have hsz:=hbel.size
       let h':GH:= {F:=fun b=>h.F b∨(w.heap.size≤b∧b<w'.heap.size),bl:=h.bl,K:=h.K}
       have hok':Ok B G w' h':=by
        refine⟨Z8G hr.ok.base hsz,fun b hb=> ?_,fun b hb=> ?_,fun b hb=> .inl (hr.ok.g_F b hb),fun t j b hb=> ?_,hr.ok.inj,fun b hb=>Z8h (hr.ok.k_lt b hb) hsz,hr.ok.k_bl,fun b hb=> ?_⟩
        ·rcases hb with hb|hb
         ·exact Z8h (hr.ok.f_lt b hb) hsz
         ·exact hb.2
        ·rcases hb with hb|hb
         ·exact hr.ok.f_or b hb
         ·exact .inr (Z8G hr.ok.base hb.1)
        ·obtain⟨h1,h2,h3⟩:=hr.ok.b_lt t j b hb;refine⟨h1,Z8h h2 hsz,fun hF=> ?_⟩;rcases hF with hF|hF
         ·exact h3 hF
         ·omega
        ·rcases hb with hb|hb
         ·exact hr.ok.k_F b hb
         ·exact .inr fun hkb=>by have:=hr.ok.k_lt b hkb;omega
       have hstep:Step B [d] [d] [] w w' h h':=⟨hbel.mono hr.ok.base,fun b hb _=>hbel.block b hb,fun b hb=> .inl hb,fun _ _ _=>rfl,fun _ _=>rfl,fun _ _ _ _ hm=>(by simp at hm),rfl⟩;rw[hd]
       have hexb: ∀b,h.exb as.2.2 (as.2.1++shf) b→h'.exb as.2.2 (as.2.1++shf) b:=fun b hb=>by
        rcases hb with hb|hb
        ·exact .inl (.inl hb)
        ·exact .inr hb
       refine hK _ _ h' (yk (hdst d hd) hstep hok' hh ?_) ⟨_,by rw[hd]⟩;split
       ·
        rename_i hbig;simp only[Z8c]at hbig;refine⟨r,by simp only[eval,hget],hrd.mono fun b hb=> ?_⟩;rcases hb with ⟨_,hb⟩ |hb
        ·rw[hbig.1]at hexb hb;exact hexb b hb
        ·exact .inl (.inr hb)
       ·rename_i hbig;refine⟨r,by simp only[eval,hget],?_⟩;split
        ·rename_i hor;simp only[Z8r]at hor;rcases hor with hflat|hfresh
         ·have hfr:=hfl hflat;unfold flV at hfr;split at hfr
          ·cases hfr
          ·rename_i hnt;split at hfr
           ·rename_i hall;exact hrd.flatAll (fun y hy=>Z8i.1 hall y hy) fun l hl=>hnt l hl
           ·cases hfr
         ·refine hrd.mono fun b hb=> ?_;rcases hb with ⟨hb,_⟩ |hb
          ·rw[hfresh]at hb;cases hb
          ·exact .inl (.inr hb)
        ·rename_i hnor;refine hrd.mono fun b hb=> ?_;rcases hb with ⟨_,hb⟩ |hb
         ·have hbf:as.2.2=false:=by
           cases hb2:as.2.2
           ·rfl
           ·exfalso;apply hbig;rw[hb2]at hnor⊢;simp only[Zaj];cases hz:((!(as.2.1++shf).isEmpty||true)&& !RD c f&&Xc c.P o.type||RD c f)
            ·rfl
            ·exact(hnor hz).elim
          have:=hexb b hb;rw[hbf]at this;exact GH.exb_ext this
         ·exact .inl (.inr hb)
    ·rw[if_neg (by rw[hw2 hh];simp)];rw[hd];exact hK _ _ h (QZ (hdst d hd) hr.ok hh) ⟨_,by rw[hd]⟩
  ·cases hst
  ·split at hst
   ·
    rename_i k es d hpk hd
    have hres: ∃k' efs chks,os= {d:= [(d,C,k')],ps:= [d],rb:= [d],fz:= [],efs,chks}∧(holds s (ixC c C)→(∀e∈es,∃z,eval s e=some z)∧ ∀ {v w' h'},RelK c.P B s w' h' (fun p=>a.tmps[p]?) d v k→RelK c.P B s w' h' (fun p=>(a.put (some d) v).tmps[p]?) d v k'):=by
     unfold jW at hst;split at hst
     ·split at hst
      ·rename_i e;split at hst
       ·cases hst
       ·simp only[Z83]at hst;subst hst;refine⟨_,_,_,rfl,fun hh=>⟨fun e he=>hok.2 (ixC c C,e) (Z8A.2 ⟨e,he,rfl⟩) hh,fun hk=> ?_⟩⟩;obtain⟨x,hx,hget⟩:=hok.1 _ (List.Mem.head _) hh;obtain⟨y,hy,hyr⟩:=hk;rw[hx]at hy;cases hy;exact⟨x,by simp only[eval,hget],hyr⟩
      ·cases hst
     ·split at hst
      ·cases hst
      ·rename_i ht;simp only[Z8r,not_or,Zap]at ht;simp only[Z83]at hst;subst hst;refine⟨_,_,_,rfl,fun hh=>⟨fun e he=>hok.2 (ixC c C,e) (Z8A.2 ⟨e,he,rfl⟩) hh,fun hk=>hk.other ht.1⟩⟩
    obtain⟨k',efs,chks,rfl,hrel⟩:=hres;by_cases hh:holds s (ixC c C)
    ·rw[if_pos (hw1 hh)];left;obtain⟨hes,hrel⟩:=hrel hh;obtain⟨v,w',hrun,h',hs',hok',hk'⟩:=Z0S hr hh hpk hes d hd;unfold Oper.wp;rw[hrun,Oper.upon_value,hd];exact hK _ _ h' (yk (hdst d hd) hs' hok' hh (hrel hk')) ⟨_,by rw[hd]⟩
    ·rw[if_neg (by rw[hw2 hh];simp),hd];exact hK _ _ h (QZ (hdst d hd) hr.ok hh) ⟨_,by rw[hd]⟩
   ·
    split at hst
    ·cases hst
    ·rename_i hguard;have hgn:o.guard=none:=by cases hg:o.guard<;>simp_all
     have hCn:C= []:=by
      unfold Qa at hC;rw[hgn]at hC;simpa using hC.symm
     subst hCn;rw[if_pos (hw1 (Za s c))];left;simp only[Z84]at hst;obtain⟨m,hm,hst⟩:=hst;split at hst
     ·rename_i hsub;simp only[Z8c,Z8i,Z9e,Z8s]at hsub;obtain⟨⟨hps,hrb⟩,hdin⟩:=hsub;simp only[Z83]at hst;subst hst;obtain⟨n,u,w',h',hrun,hn',hpost⟩:=Z5g hr hdst hm fun e he=>hok.2 ([],e) (Z8A.2 ⟨e,he,rfl⟩) (Wp s)
      have htm: ∀t,t∉m.ps→(a.put o.dst u).tmps[t]? =a.tmps[t]? :=by
       intro t ht;cases hd:o.dst with
       |none=>rfl
       |some d=>
        refine TY (fun e=>ht ?_) u;rw[e];simpa[Z3I,hd]using hdin
      have hfin:OPost c B G s a (a.put o.dst u) w w' h h' (Z3m (only all (Sr ops all o)) all m):=by
       refine⟨hpost.step,hpost.ok,TS _ _ _,Vo _ _ _,htm,fun t ht=> ?_⟩;simp only[Z3m,Zu,Z9x,Z8I]at ht⊢;rw[ZT,ZT];simp only[Zu,Z9x,Z8I];by_cases h1:t∈Zu m.d
       ·have h1':t∈List.map (·.1) m.d:=h1;simp only[h1',true_or,Z8S];obtain⟨e1,e2⟩:=hpost.ent t h1;exact⟨fun _ hno=>e2 hno,fun hn=>absurd (by rw[e1];exact Za s c) hn⟩
       ·have h1':t∉List.map (·.1) m.d:=h1;by_cases h2:t∈Zu (Xv m.ps m.rb m.fz all)
        ·have h2':t∈List.map (·.1) (Xv m.ps m.rb m.fz all):=h2;simp only[h1',h2',Zbk,Z8S,Z8U,TO h2];exact⟨fun _ hno=>by simp[TK.isNo]at hno,fun hn=>absurd (Za s c) hn⟩
        ·have h2':t∉List.map (·.1) (Xv m.ps m.rb m.fz all):=h2
         have h3:t∈m.fz:=by
          rcases ht with (ht|ht) |ht
          ·exact absurd ht h1'
          ·exact absurd ht h2'
          ·have:=WH (fz:=m.fz) (g:=only all (Sr ops all o));unfold Zu at this;rw[this]at ht;exact ht
         have htp:t∉m.ps:=fun hp=>h1 (hps t hp)
         have hcalm:calm m.ps m.rb m.fz ((only all (Sr ops all o)).at t).2=true:=by
          rw[QA];split
          ·exact Ro h2
          ·exact Lz _ _ _
         simp only[h1',h2',Zbk,Z8U,Vl h3];refine⟨fun hCt hno=> ?_,fun hn=> ?_⟩
         ·have hno':((only all (Sr ops all o)).at t).2.isNo=false:=by
           cases hk:((only all (Sr ops all o)).at t).2<;>first|rfl| (rw[hk]at hno;simp[VL,TK.isNo]at hno)
          obtain⟨v,hv,hk⟩:=hr.at_ t hCt hno';exact⟨v,by rw[htm t htp];exact hv,hk.freeze hpost.step hr.ok hrb htp h3 hcalm htm⟩
         ·have:=hr.skip t hn;simp only[Z88,htm t htp]at this⊢;exact this
      unfold Oper.wp;rw[hrun];rcases hn' with rfl| ⟨rfl,rfl⟩
      ·rw[Oper.upon_value];exact hK _ _ h' hfin ⟨_,rfl⟩
      ·rw[Oper.upon_skip];exact hK _ _ h' hfin ⟨_,rfl⟩
     ·cases hst
end
end Vm
end
