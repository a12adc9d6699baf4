import Derived.RangeFuncNested
import Derived.RangeFuncBound
import Derived.WalkSpells
import Derived.WalkLawsBesides
import Derived.StillTailTactics
import Derived.Deep.RegionHeld3
import Derived.Deep.AppendLies
import Derived.Deep.Onto
import Derived.Deep.OwnRows
import Derived.Lib.Hide
import Derived.Lib.AppendZerosOnto
import Derived.Laws.CopyOwn
import Derived.LoopNIn
import Derived.LoopIn
import Derived.Shelf.RegionOpen
import Derived.RecoverIn
import Derived.Maps.OwnIn
import Derived.Conc.SmallLaws
import Derived.Test.YtffknkhabklijaaGreatSViewTells5
set_option linter.unusedSimpArgs false
set_option linter.unusedVariables false
set_option linter.defProp false
set_option maxHeartbeats 4000000
set_option maxRecDepth 100000
def Zlc:=@decide_false
def ZjQ:=@Bool.false_or
def Zki:=@Go.grownBy_putObj'
def Zig:=@Go.World.putObj_heap_other
def ZkS:=@Array.ext
def ZhF:=@Go.Lib.hid
def Zl6:=@eq_false
def Zj7:=@Go.bodyPost_ret
def ZiR:=@Go.World.cell?_alloc_lt
def ZhP:=@Go.RowKit.Below.heap_setCell
def ZjE:=@Array.replicate_succ
def ZjF:=@Array.replicate_zero
def Zk1:=@List.push_toArray
def ZjL:=@List.append_toArray
def Zks:=@Go.callsIn_wide
def Zk7:=@Go.grownBy_setCell'
def ZkA:=@List.findIdx?_eq_none_iff
def ZjN:=@List.getElem?_take_of_lt
section
namespace Vm
open Go Go.Proofs
def Tiles.order{ws:List Int}{old:Bool}:∀ {a:Nat} {l:List Ob},Tiles ws old a l->l.Pairwise λx y=>x.at_<y.at_
 |_,[],_=>.nil
 |a,o::l,h=>by
  have hs:=Zb.1 h.2.1.shape;refine .cons (λx hx=> ?_) (Tiles.order h.2.2);have:=(Tiles.stands h.2.2 x hx).2;have:=h.1;omega
def y6{h:Hp}(hr:Zl (layH h)=true){k:Int}(hk:1<=k/\k<=4){old:Bool}{o:Ob}(hs:Stands (Zh h k) old o):ZA h k o.at_=fstL (layH h) k+o.at_:=by
 have:=Zb.1 hs.shape;have:=hs.fits;have:=hs.nat
 grind [ZA,jX,WV]
def Z4o{h:Hp}(hr:Zl (layH h)=true){k:Int}(hk:1<=k/\k<=4){old:Bool}{o:Ob}(hs:Stands (Zh h k) old o):Z7Y (layH h) (ZA h k o.at_)=(k,o.at_,0):=by
 have:=Zb.1 hs.shape;have:=hs.fits;have:=hs.nat;rw[y6 hr hk hs]
 grind [Z0j,WV]
def Tiles.starts{h:Hp}(hr:Zl (layH h)=true){k:Int}(hk:1<=k/\k<=4){old:Bool}{l:List Ob}(ht:Tiles (Zh h k) old 0 l):l.Pairwise λx y=>ZA h k x.at_≠ZA h k y.at_:=by
 refine List.Pairwise.imp_of_mem ?_ ht.order;intro x y hx hy hlt;rw[y6 hr hk (ht.stands x hx).1,y6 hr hk (ht.stands y hy).1];omega
def qU{h:Hp}{a:Int}:∀ {l:List Ob} {m:List (Int×(Int×Int))},(l.Pairwise λx y=>ZA h 1 x.at_≠ZA h 1 y.at_)->getA (Y0 h 1 m l) a=match atR h 1 l a with
  |some o=>some (o.size,o.ptrs)
  |none=>getA m a
 | [],m,_=>rfl
 |o::l,m,hp=>by
  obtain⟨h1,h2⟩:=List.pairwise_cons.1 hp;rw[Y0,qU h2];unfold atR;rw[Zkk];cases hf:l.find? (λo=>ZA h 1 o.at_==a)with
  |some q=>
   grind
  |none=>
   simp only[ZhR,Ve]
   grind [ZA,ZI,layH]
def U0{h:Hp}{k:Int}(hk:¬k=1):∀ {l:List Ob} {m:List (Int×(Int×Int))},Y0 h k m l=m
 | [],m=>rfl
 |o::l,m=>by simp_all[Y0,if_neg,U0]
def U1{h:Hp}{k a:Int}:∀ {l:List Ob} {m:List (Int×Int)},getA (YY h k m l) a=if(atR h k l a).isSome=true then some k else getA m a
 | [],m=>rfl
 |o::l,m=>by
  rw[YY,U1];unfold atR;rw[Zkk,Ve];by_cases he:ZA h k o.at_=a
  ·have he':(ZI (layH h) k o.at_).1=a:=he;have:(ZA h k o.at_==a)=true:=by simpa using he
   simp[this,he']
  ·have he':¬(ZI (layH h) k o.at_).1=a:=he;have:(ZA h k o.at_==a)=false:=by simpa using he
   simp[this,he']
def Tu{lm:List (Int×(Int×Int))}{ws:List Int}:∀(f i:Nat) (acc:List (Int×Int)),∃r,Ym lm ws f i acc=acc++r
 |0,_,acc=>⟨[],by simp[Ym]⟩
 |f+1,i,acc=>by
  rw[Ym];cases ws[i]? with
  |none=>simp
  |some w=>
   simp only;split
   ·split
    ·simp
    ·obtain⟨r,hr⟩:=Tu (lm:=lm) (ws:=ws) f _ _;exact⟨_,by rw[hr,Ziy]⟩
   ·split
    ·exact Tu f _ _
    ·simp
def UE{lm:List (Int×(Int×Int))}{h:Hp}{low:List Ob}(hlm:∀a,getA lm a=(atR h 1 low a).map λo=>(o.size,o.ptrs)){ws:List Int}:∀(f i:Nat) (acc shs:List (Int×Int)),ZW h ws low f i acc=some shs->Ym lm ws f i acc=shs
 |0,_,_,_,he=>by simp[ZW]at he
 |f+1,i,acc,shs,he=>by
  rw[ZW]at he;rw[Ym];cases hw:ws[i]? with
  |none=>rw[hw]at he;simpa using he
  |some w=>
   rw[hw]at he;simp only at he⊢;by_cases ha:(adr w).2=0
   ·rw[if_pos ha]at he⊢;rw[hlm];cases hq:atR h 1 low (adr w).1 with
    |none=>rw[hq]at he;cases he
    |some o=>rw[hq]at he;exact UE hlm _ _ _ _ he
   ·rw[if_neg ha]at he⊢;by_cases hu:(unpk w).2.2=0
    ·rw[if_pos hu]at he⊢;exact UE hlm _ _ _ _ he
    ·rw[if_neg hu]at he;cases he
def Wq{lm:List (Int×(Int×Int))}{h:Hp}{low:List Ob}(hlm:∀a,getA lm a=(atR h 1 low a).map λo=>(o.size,o.ptrs)){ws:List Int}:∀(f i:Nat) (acc:List (Int×Int)),0<f->ws.length<f+i->ZW h ws low f i acc=none->
  ∀(f':Nat) (acc':List Ob),(YQ ws (Ym lm ws f i acc) true f' i acc.length acc').2≠0
 |0,_,_,h0,_,_=>by omega
 |f+1,i,acc,h0,hf,he=>by
  intro f' acc';cases f' with
  |zero=>simp[YQ]
  |succ f'=>
   rw[ZW]at he;rw[Ym,YQ];cases hw:ws[i]? with
   |none=>simp_all
   |some w=>
    have hlt:=(Zh9.1 hw).1;rw[hw]at he;simp only at he⊢;by_cases ha:(adr w).2=0
    ·rw[if_pos ha]at he⊢;rw[hlm];cases hq:atR h 1 low (adr w).1 with
     |none=>
      simp only[ZjA]
      have:objR acc true i acc.length w=none:=by
       unfold objR;rw[if_pos ⟨rfl,ha⟩];simp
      rw[this];simp
     |some o=>
      rw[hq]at he;simp only[Zhp]at he⊢;obtain⟨r,hr⟩:=Tu (lm:=lm) (ws:=ws) f (i+1+o.size.toNat) (acc++[(o.size,o.ptrs)]);have ih:=Wq hlm f (i+1+o.size.toNat) (acc++[(o.size,o.ptrs)]) (by omega) (by omega) he f';generalize Ym lm ws f (i+1+o.size.toNat) (acc++[(o.size,o.ptrs)])=shs at*;have hs:shs[acc.length]?=some (o.size,o.ptrs):=by rw[hr];simp
      unfold objR;rw[if_pos ⟨rfl,ha⟩,hs];simp only;by_cases hsh:Zm o.size o.ptrs=true
      ·rw[if_pos hsh];simp only;split
       ·simp
       split
       ·simp
       simp_all
      simp_all
    ·rw[if_neg ha]at he⊢;by_cases hu:(unpk w).2.2=0
     ·rw[if_pos hu]at he⊢;have ih:=Wq hlm f (i+1+(unpk w).1.toNat) acc (by omega) (by omega) he f';generalize Ym lm ws f (i+1+(unpk w).1.toNat) acc=shs at*;unfold objR
      grind
     simp_all[if_neg,objR]
structure Found (h:Hp) (s:Ck) (p:Pts):Prop where
 hp:s.h=h
 o1:s.o1=p.low
 o2:s.o2=p.high
 o3:s.o3=p.old
 o4:s.o4=p.far
 pm:s.pm=YY h 4 (YY h 3 (YY h 2 (YY h 1 [] p.low) p.high) p.old) p.far
def jM{h:Hp}(hr:Zl (layH h)=true):match ZT h with
  |some p=>(ZY (ZZ h)).1=true/\Found h (ZY (ZZ h)).2 p
  |none=>(ZY (ZZ h)).1=false:=by
 unfold ZY ZT;dsimp only;have s1:Zz (ZZ h) 1=Zp h.low [] false:=rfl;rw[Ys,s1];by_cases e1:(Zp h.low [] false).2=0
 case neg=>simp_all
 rw[if_pos e1];have hT:Tiles h.low false 0 (Zp h.low [] false).1:=Yn (ws:=h.low) (shs:=[]) (Zjq rfl e1);generalize (Zp h.low [] false).1=l1 at*;have s2:Zz (XF (ZZ h) 1 l1) 2=Zp h.high [] false:=rfl;rw[Ys,s2];by_cases e2:(Zp h.high [] false).2=0
 case neg=>simp_all
 rw[if_pos e2,if_neg (by omega)];generalize (Zp h.high [] false).1=l2 at*
 have hlm:∀a,getA (Y0 h 1 [] l1) a=(atR h 1 l1 a).map λo=>(o.size,o.ptrs):=by
  intro a;rw[qU (Tiles.starts hr (k:=1) (by omega) (by simpa using hT))];cases atR h 1 l1 a<;>rfl
 have hlm2:(XF (XF (ZZ h) 1 l1) 2 l2).lm=Y0 h 1 [] l1:=U0 (by omega)
 have s3:Zz (XF (XF (ZZ h) 1 l1) 2 l2) 3=Zp h.old (Xd (Y0 h 1 [] l1) h.old) true:=by
  rw[<-hlm2];rfl
 rw[Ys,s3];cases hp:ZX h h.old l1 with
 |none=>
  have:=Wq hlm (h.old.length+1) 0 [] (by omega) (by omega) hp (h.old.length+1) [];have e3:¬(Zp h.old (Xd (Y0 h 1 [] l1) h.old) true).2=0:=this;rw[if_neg e3,if_pos (.inl rfl)]
 |some shs=>
 have hs3:Xd (Y0 h 1 [] l1) h.old=shs:=UE hlm _ _ _ _ hp;rw[hs3];simp only[ZhL];by_cases e3:(Zp h.old shs true).2=0
 case neg=>simp_all
 rw[if_pos e3];generalize (Zp h.old shs true).1=l3 at*
 have hlm3:(XF (XF (XF (ZZ h) 1 l1) 2 l2) 3 l3).lm=Y0 h 1 [] l1:=by
  rw[<-hlm2];exact U0 (by omega)
 have s4:Zz (XF (XF (XF (ZZ h) 1 l1) 2 l2) 3 l3) 4=Zp h.far (Xd (Y0 h 1 [] l1) h.far) true:=by
  rw[<-hlm3];rfl
 rw[Ys,s4];cases hq:ZX h h.far l1 with
 |none=>
  have:=Wq hlm (h.far.length+1) 0 [] (by omega) (by omega) hq (h.far.length+1) [];have e4:¬(Zp h.far (Xd (Y0 h 1 [] l1) h.far) true).2=0:=this;rw[if_neg e4,if_pos (.inr (.inl rfl))]
 |some shs'=>
 have hs4:Xd (Y0 h 1 [] l1) h.far=shs':=UE hlm _ _ _ _ hq;rw[hs4];simp only[ZhL];by_cases e4:(Zp h.far shs' true).2=0
 case neg=>simp_all
 rw[if_pos e4,if_neg (by grind)];generalize (Zp h.far shs' true).1=l4 at*;exact⟨rfl,rfl,rfl,rfl,rfl,rfl,rfl⟩
end Vm
namespace Vm
open Go Go.Proofs
def Tm{h:Hp}{p:Pts}(h1:ZT h=some p){k:Int}(hk:1<=k/\k<=4):Tiles (Zh h k) (decide (2<k)) 0 (p.at k):=by
 have:k=1\/k=2\/k=3\/k=4:=by omega
 unfold ZT at h1;dsimp only at h1;split at h1
 ·cases h1
 rename_i c1;split at h1
 ·cases h1
 rename_i c2;cases h1
 have c3:(Zp h.low [] false).2=0/\(Zp h.high [] false).2=0:=by
  refine⟨Zi8 λhc=>c1 (.inl hc),Zi8 λhc=>c1 (.inr hc)⟩
 have c4:∀x:Int,¬x≠0->x=0:=λx hx=>Zi8 hx;have e3:=c4 _ (λhx=>c2 (.inr (.inr (.inl hx))));have e4:=c4 _ (λhx=>c2 (.inr (.inr (.inr hx))));obtain rfl|rfl|rfl|rfl:=this
 ·exact Yn (Zjq rfl c3.1)
 ·exact Yn (Zjq rfl c3.2)
 ·exact Yn (Zjq rfl e3)
 ·exact Yn (Zjq rfl e4)
def Kt{h:Hp}{p:Pts}(h1:ZT h=some p){k:Int}(hk:3<=k/\k<=4){o:Ob}(ho:o∈p.at k)(hg:o.gone=true):∃q∈p.low,ZA h 1 q.at_=o.target/\q.size=o.size/\q.ptrs=o.ptrs:=by
 unfold ZT at h1;dsimp only at h1;split at h1
 ·cases h1
 split at h1
 ·cases h1
 rename_i c2
 have aux:∀(ws:List Int) (x:Option (List (Int×Int))),x=ZX h ws (Zp h.low [] false).1->¬x=none->(Zp ws (x.getD []) true).2=0->o∈(Zp ws (x.getD []) true).1->
   ∃q∈(Zp h.low [] false).1,ZA h 1 q.at_=o.target/\q.size=o.size/\q.ptrs=o.ptrs:=by
  intro ws x hx hn h0 ho;cases x with
  |none=>simp_all
  |some shs=>
   simp only[ZhL]at h0 ho;obtain⟨r',e1,e2⟩:=Vz _ _ _ _ hx.symm (ws.length+1) [] (Zp ws shs true).1 (Zjq rfl h0);simp only[Zir]at e1;rw[e1]at ho;obtain⟨q,hq,hs⟩:=e2 o ho hg;have:=Zjv hq
   grind [Z4N]
 have e3:¬ZX h h.old (Zp h.low [] false).1=none:=λe=>c2 (.inl e);have e4:¬ZX h h.far (Zp h.low [] false).1=none:=λe=>c2 (.inr (.inl e));have e5:(Zp h.old ((ZX h h.old (Zp h.low [] false).1).getD []) true).2=0:=Zi8 λe=>c2 (.inr (.inr (.inl e)));have e6:(Zp h.far ((ZX h h.far (Zp h.low [] false).1).getD []) true).2=0:=Zi8 λe=>c2 (.inr (.inr (.inr e)));cases h1;have:k=3\/k=4:=by omega
 obtain rfl|rfl:=this
 ·exact aux _ _ rfl e3 e5 (by simpa using ho)
 ·exact aux _ _ rfl e4 e6 (by simpa using ho)
theorem Za4{h:Hp}(hr:Zl (layH h)=true){p:Pts}(hp:ZT h=some p){k:Int}(hk:1<=k/\k<=4){a:Int}(hi:(atR h k (p.at k) a).isSome=true):∃b,Z7Y (layH h) a=(k,b,0):=by
 obtain⟨o,ho⟩:=Zid.1 hi;have h1:=ZiK ho;have h2:ZA h k o.at_=a:=by have:=Zjv ho;simpa using this
 rw[<-h2];exact⟨_,Z4o hr hk ((Tm hp hk).stands o h1).1⟩
def Z9k{h:Hp}(hr:Zl (layH h)=true){p:Pts}(hp:ZT h=some p){k j:Int}(hk:1<=k/\k<=4)(hj:1<=j/\j<=4)(hn:k≠j){a:Int}(hi:(atR h k (p.at k) a).isSome=true):(atR h j (p.at j) a).isSome=false:=by
 grind [atR,Za4,Prod.mk.injEq]
section
variable {h:Hp}{s:Ck}{p:Pts}
def Found.obs(hf:Found h s p){k:Int}:s.obs k=p.at k:=by
 unfold Ck.obs Pts.at;rw[hf.o1,hf.o2,hf.o3,hf.o4]
def Found.pm_at(hf:Found h s p)(a:Int):getA s.pm a=if(atR h 4 (p.at 4) a).isSome=true then some 4 else if(atR h 3 (p.at 3) a).isSome=true then some 3 else if(atR h 2 (p.at 2) a).isSome=true then some 2 else if(atR h 1 (p.at 1) a).isSome=true then some 1 else none:=by
 rw[hf.pm,U1,U1,U1,U1];rfl
def Found.points(hf:Found h s p)(hr:Zl (layH h)=true)(hp:ZT h=some p)(w:Int):Zy s w 1 2=YG h p w 1 2/\Zy s w 3 4=YG h p w 3 4/\Zy s w 1 4=(YG h p w 1 2||YG h p w 3 4):=by
 unfold Zy YG;by_cases h0:w=0
 ·simp[h0]
 by_cases h1:(adr w).2=0
 case neg=>grind
 simp only[h0,h1,Zlc,Zko,ZjQ,Zk9];rw[hf.pm_at];generalize (adr w).1=a;have o:=λk j hk hj hn=>Z9k (k:=k) (j:=j) hr hp hk hj hn (a:=a);have o43:=o 4 3 (by omega) (by omega) (by omega);have o42:=o 4 2 (by omega) (by omega) (by omega);have o41:=o 4 1 (by omega) (by omega) (by omega);have o32:=o 3 2 (by omega) (by omega) (by omega);have o31:=o 3 1 (by omega) (by omega) (by omega);have o21:=o 2 1 (by omega) (by omega) (by omega);clear o;generalize (atR h 1 (p.at 1) a).isSome=b1 at*;generalize (atR h 2 (p.at 2) a).isSome=b2 at*;generalize (atR h 3 (p.at 3) a).isSome=b3 at*;generalize (atR h 4 (p.at 4) a).isSome=b4 at*;cases b1<;>cases b2<;>cases b3<;>cases b4<;>simp_all
end
end Vm
namespace Vm
open Go Go.Proofs
def tgS(l:List Ob):List Int:=(l.filter (·.gone)).map (·.target)
def Z8F{α:Type}{l:List (Int×α)}{k:Int}{x:α}(h:getA l k=none):(putA l k x).length=l.length+1:=by
 grind [getA,Option.map_eq_none_iff,List.findIdx?_eq_none_iff,List.find?_eq_none,putA]
def TN{pm:List (Int×Int)}:∀ {l:List Ob} {m:List (Int×Bool)} {K:List Int},K.Nodup->(∀a,getA m a=if a∈K then some true else none)->m.length=K.length->
  match copQ pm l m with
  |some m'=>(∀t∈tgS l,(getA pm t).getD 0=1)/\(K++tgS l).Nodup/\m'.length=(K++tgS l).length/\∀a,getA m' a=if a∈K++tgS l then some true else none
  |none=>¬((∀t∈tgS l,(getA pm t).getD 0=1)/\(K++tgS l).Nodup)
 | [],m,K,hK,hm,hl=>by simp only[copQ,tgS,List.filter_nil,Zja,Zix];exact⟨by simp,hK,hl,hm⟩
 |o::l,m,K,hK,hm,hl=>by
  rw[copQ];cases hg:o.gone with
  |false=>
   rw[if_neg (by simp)];have:tgS (o::l)=tgS l:=by simp[tgS,hg]
   rw[this];exact TN hK hm hl
  |true=>
   rw[if_pos rfl];have ht:tgS (o::l)=o.target::tgS l:=by simp[tgS,hg]
   rw[ht];by_cases h1:(getA pm o.target).getD 0=1
   ·by_cases h2:o.target∈K
    ·rw[if_neg (by rw[hm,if_pos h2];simp)];rintro⟨_,hn⟩;exact(Zk0.1 hn).2.2 _ h2 _ (ZhJ ..) rfl
    ·have hno:getA m o.target=none:=by rw[hm,if_neg h2]
     rw[if_pos ⟨h1,by rw[hno];rfl⟩]
     have ih:=TN (pm:=pm) (l:=l) (m:=putA m o.target true) (K:=K++[o.target]) (by
       rw[Zk0];refine⟨hK,by simp,λa ha b hb=> ?_⟩;simp at hb;subst hb;intro e;subst e;exact h2 ha) (λa=>by
       rw[Ve,hm];by_cases e:o.target=a
       ·simp[e]
       ·have e':¬a=o.target:=λx=>e x.symm;simp[e,e']) (by rw[Z8F hno,hl];simp)
     rw[Ziy,Zk6]at ih;cases hc:copQ pm l (putA m o.target true)with
     |none=>
      rw[hc]at ih;rintro⟨q1,q2⟩;exact ih ⟨λt ht=>q1 t (ZhB _ ht),q2⟩
     |some m'=>
      rw[hc]at ih;refine⟨λt ht=> ?_,ih.2⟩;obtain rfl|ht:=Zho.1 ht
      ·exact h1
      ·exact ih.1 t ht
   ·rw[if_neg (λhc=>h1 hc.1)];rintro⟨q1,_⟩;exact h1 (q1 _ (ZhJ ..))
def jG{l:List Ob}{a:Int}:tgL l a=(tgS l).count a:=by
 unfold tgL tgS
 induction l with
 |nil=>rfl
 |cons o l ih=>
  grind
def Z8v{T S:List Int}(hS:S.Nodup)(hTS:T⊆S):(T.Nodup/\T.length=S.length)↔ ∀a∈S,T.count a=1:=by
 constructor
 ·rintro⟨hT,hl⟩ a ha;rw[hT.count];by_cases hm:a∈T
  ·grind
  ·have h1:T⊆S.erase a:=λx hx=>(hS.mem_erase_iff).2 ⟨λe=>hm (e▸hx),hTS hx⟩;have h2:=hT.length_le_of_subset h1
   grind
 ·intro h
  have hT:T.Nodup:=List.nodup_iff_count.2 λa=>by
   grind
  refine⟨hT,Nat.le_antisymm (hT.length_le_of_subset hTS) (hS.length_le_of_subset λa ha=> ?_)⟩
  grind
section
variable {h:Hp}{s:Ck}{p:Pts}
def Found.copied(hf:Found h s p)(hr:Zl (layH h)=true)(hp:ZT h=some p):Vb s=(!h.cycle||p.low.all (tgOk h p)):=by
 have hT:=Tm hp (k:=1) (by omega)
 have hS:(p.low.map λo=>ZA h 1 o.at_).Nodup:=by
  have:=Tiles.starts hr (k:=1) (by omega) hT;rw[List.nodup_iff_pairwise_ne,List.pairwise_map];exact this
 have hin:∀t∈tgS s.o3++tgS s.o4,t∈p.low.map λo=>ZA h 1 o.at_:=by
  intro t ht
  have:∃k,(3<=k/\k<=4)/\t∈tgS (p.at k):=by
   obtain ht|ht:=Zhx.1 ht
   ·exact⟨3,by omega,by rw[hf.o3]at ht;exact ht⟩
   ·exact⟨4,by omega,by rw[hf.o4]at ht;exact ht⟩
  obtain⟨k,hk,ht⟩:=this;simp only[tgS,Zhq,ZjV]at ht;obtain⟨o,⟨ho,hg⟩,rfl⟩:=ht;obtain⟨q,hq,he,_⟩:=Kt hp hk ho hg;exact Zhq.2 ⟨q,hq,he⟩
 have hpm:∀t∈tgS s.o3++tgS s.o4,(getA s.pm t).getD 0=1:=by
  intro t ht;obtain⟨q,hq,he⟩:=Zhq.1 (hin t ht)
  have h1:(atR h 1 (p.at 1) t).isSome=true:=by
   unfold atR;rw[List.find?_isSome];exact⟨q,hq,by grind⟩
  have o:=λk hk hn=>Z9k (k:=1) (j:=k) hr hp (by omega) hk hn h1;rw[hf.pm_at,o 4 (by omega) (by omega),o 3 (by omega) (by omega),o 2 (by omega) (by omega),h1];rfl
 unfold Vb;rw[hf.hp];cases hc:h.cycle
 ·rfl
 simp only[ZjR,ZjQ];have key:=Z8v hS (T:=tgS s.o3++tgS s.o4) hin
 have hall:p.low.all (tgOk h p)=true↔ ∀a∈(p.low.map λo=>ZA h 1 o.at_),(tgS s.o3++tgS s.o4).count a=1:=by
  rw[Zhm];constructor
  ·intro hx a ha;obtain⟨o,ho,rfl⟩:=Zhq.1 ha;have:=hx o ho;simp only[tgOk,Zhw,jF,jG]at this;rw[List.count_append,hf.o3,hf.o4];exact this
  ·intro hx o ho;have:=hx _ (Zhq.2 ⟨o,ho,rfl⟩);rw[List.count_append,hf.o3,hf.o4]at this;simp_all[tgOk,Zhw,jF,jG]
 rw[Zi1]at key;have c1:=TN (pm:=s.pm) (l:=s.o3) (m:=[]) (K:=[]) (by simp) (by simp[getA]) rfl;simp only[Zir]at c1;rw[Bool.eq_iff_iff,hall,<-key];cases h1:copQ s.pm s.o3 []with
 |none=>
  grind
 |some m=>
  rw[h1]at c1;obtain⟨q1,q2,q3,q4⟩:=c1;simp only[Zhh];have c2:=TN (pm:=s.pm) (l:=s.o4) (m:=m) (K:=tgS s.o3) q2 q4 q3;cases h2:copQ s.pm s.o4 m with
  |none=>
   simp_all
  |some m'=>
   rw[h2]at c2;obtain⟨r1,r2,r3,r4⟩:=c2;simp only[Zhw,r3,hf.o1];simp_all
end
end Vm
namespace Vm
open Go Go.Proofs
def LA:∀ {l:List Int} {ptrs:Int} {i:Nat},ZN l true ptrs i=true->∀w∈l,w=0
 | [],_,_,_,w,hw=>by simp at hw
 |x::l,ptrs,i,h,w,hw=>by
  simp only[ZN,Zhb,ZjR,ZjQ,Zhw]at h;obtain rfl|hw:=Zho.1 hw
  ·exact h.1.1
  ·exact LA h.2 w hw
def U7{s:Ck}{k:Int}{q:Int->Int->Bool}:VH s k q=true↔ ∀o∈s.obs k,o.gone=false->∀j,j<o.ptrs.toNat->q ((o.at_.toNat+1+j:Nat):Int) (Ws (Zh s.h k) (o.at_.toNat+1+j))=true:=by
 unfold VH obQ
 grind
def Z6J{h:Hp}{p:Pts}(hp:ZT h=some p){k:Int}(hk:1<=k/\k<=4):Xf h p k=true↔ ∀o∈p.at k,o.gone=false->∀j,j<o.ptrs.toNat->Wg h p k (o.at_.toNat+1+j)=true:=by
 unfold Xf S9;rw[Zhm];constructor
 ·simp_all
 ·intro h' o ho;rw[Zhm];intro j hj;have hj:=Zjl.1 hj;cases hg:o.gone
  ·simp_all
  ·have hs:=((Tm hp hk).stands o ho).1;have hsh:=Zb.1 hs.shape;have h1:=hs.slots;rw[hg]at h1;have hz:=LA h1;have hfit:=hs.fits;have hnat:=hs.nat;have hlt:o.at_.toNat+1+j< (Zh h k).length:=by omega
   have hw:(Zh h k)[o.at_.toNat+1+j]?=some 0:=by
    rw[Zh8 hlt];refine Ziu some (hz _ ?_);rw[Zk5];refine⟨j,?_⟩;rw[ZhN,if_pos (by omega),ZhU,Zh8 hlt]
   grind [YG,Wg]
section
variable {h:Hp}{s:Ck}{p:Pts}
def Found.ptrs(hf:Found h s p)(hr:Zl (layH h)=true)(hp:ZT h=some p):(Vx s&&(Xp s&&Z0J s))=(h.roots.all (λw=>YG h p w 1 2)&&Xf h p 1&&Xf h p 2&&Xf h p 3&&Xf h p 4):=by
 have hpt:=hf.points hr hp
 have hroots:s.h.roots.all (λw=>Zy s w 1 2)=h.roots.all (λw=>YG h p w 1 2):=by
  rw[hf.hp];congr 1;funext w;exact(hpt w).1
 have hob:=λk=>hf.obs (k:=k)
 have hpk:∀(k:Int) (q:Nat->Int->Bool) (hk:1<=k/\k<=4),(∀a,Wg h p k a=q a (Ws (Zh h k) a))->(Xf h p k=true↔ ∀o∈p.at k,o.gone=false->∀j,j<o.ptrs.toNat->q (o.at_.toNat+1+j) (Ws (Zh h k) (o.at_.toNat+1+j))=true):=by
  intro k q hk hq;rw[Z6J hp hk];simp only[hq]
 have p2:=hpk 2 (λ_ w=>YG h p w 1 2) (by omega) (λa=>by simp[Wg,Ws]);have p3:=hpk 3 (λ_ w=>YG h p w 3 4) (by omega) (λa=>by simp[Wg,Ws]);have p4:=hpk 4 (λ_ w=>YG h p w 3 4) (by omega) (λa=>by simp[Wg,Ws]);have p1:=hpk 1 (λa w=>if h.scan<=a then YG h p w 1 2||YG h p w 3 4 else YG h p w 1 2) (by omega) (λa=>by simp[Wg,Ws])
 have q2:VH s 2 (λ_ w=>Zy s w 1 2)=true↔Xf h p 2=true:=by
  rw[p2,U7,hob,hf.hp];simp only[(hpt _).1]
 have q3:VH s 3 (λ_ w=>Zy s w 3 4)=true↔Xf h p 3=true:=by
  rw[p3,U7,hob,hf.hp];simp only[(hpt _).2.1]
 have q4:VH s 4 (λ_ w=>Zy s w 3 4)=true↔Xf h p 4=true:=by
  rw[p4,U7,hob,hf.hp];simp only[(hpt _).2.1]
 have q1:(VH s 1 (λa w=>decide (s.h.scan<=a)||Zy s w 1 2)=true/\VH s 1 (λa w=>decide (a<s.h.scan)||Zy s w 1 4)=true)↔Xf h p 1=true:=by
  rw[p1,U7,U7,hob,hf.hp];simp only[(hpt _).1,(hpt _).2.2];constructor
  ·rintro⟨ha,hb⟩ o ho hg j hj;have ha:=ha o ho hg j hj;have hb:=hb o ho hg j hj;generalize o.at_.toNat+1+j=n at*;by_cases hs:h.scan<=(n:Int)
   ·have:¬(n:Int)<h.scan:=by omega
    simpa[hs,this]using hb
   ·simpa[hs]using ha
  ·intro hx;refine⟨λo ho hg j hj=> ?_,λo ho hg j hj=> ?_⟩
   ·have hx:=hx o ho hg j hj;generalize o.at_.toNat+1+j=n at*;by_cases hs:h.scan<=(n:Int)
    ·simp[hs]
    ·simpa[hs]using hx
   ·have hx:=hx o ho hg j hj;generalize o.at_.toNat+1+j=n at*;by_cases hs:h.scan<=(n:Int)
    ·have:¬(n:Int)<h.scan:=by omega
     simpa[hs,this]using hx
    ·have:(n:Int)<h.scan:=by omega
     simp[this]
 unfold Vx Xp Z0J;rw[hroots,Bool.eq_iff_iff];simp only[Zhb];rw[q2,q3,q4,<-q1];constructor
 ·rintro⟨⟨a,b,c⟩,d,e,f⟩;exact⟨⟨⟨⟨a,c,d⟩,b⟩,e⟩,f⟩
 ·rintro⟨⟨⟨⟨a,c,d⟩,b⟩,e⟩,f⟩;exact⟨⟨a,b,c⟩,d,e,f⟩
def Found.roomy(hf:Found h s p):JM s=decide ((h.low.length:Int)+h.high.length+yf p<=h.cap):=by
 unfold JM Z1z yf;rw[hf.hp,hf.o3,hf.o4]
end
def Zdn(h:Hp):numR h=(Wi (ZZ h)&&Vu (ZZ h)):=by
 grind [numR,Wi,Vu,ZZ,Zl,layH]
def Lc(h:Hp):(Ji h).isSome=Yp h/\∀s,Ji h=some s->∃p,ZT h=some p/\Found h s p:=by
 have hl:Ji h=(if Wi (ZZ h)=true then if Vu (ZZ h)=true then if(ZY (ZZ h)).1=true then
   if Vb (ZY (ZZ h)).2=true then if Vx (ZY (ZZ h)).2=true then if Xp (ZY (ZZ h)).2=true then if Z0J (ZY (ZZ h)).2=true then if JM (ZY (ZZ h)).2=true then
    some (ZY (ZZ h)).2 else none else none else none else none else none else none else none else none):=rfl
 have hn:=Zdn h;unfold Yp;rw[hn];cases hb:Wi (ZZ h)
 ·simp_all
 have hr:Zl (layH h)=true:=by
  unfold Wi at hb;simp only[Zhb]at hb;exact hb.1
 cases hre:Vu (ZZ h)
 ·simp_all
 have hw:=jM hr;cases hp:ZT h with
 |none=>
  simp_all
 |some p=>
  rw[hp]at hw;obtain⟨h1,hf⟩:=hw;rw[hb,hre,h1]at hl;simp only[ZhR]at hl;generalize (ZY (ZZ h)).2=s at*;have e1:=hf.copied hr hp;have e2:=hf.ptrs hr hp;have e3:=hf.roomy
  have e4:Sj h p=(Vb s&&((Vx s&&(Xp s&&Z0J s))&&JM s)):=by
   rw[e1,e2,e3];unfold Sj;simp only[Bool.and_assoc]
  grind
def Z61(h:Hp)(k:Int):Z6l h k=Q3 h k:=by
 obtain⟨h1,h2⟩:=Lc h;unfold Z6l Q3;cases hl:Ji h with
 |none=>
  simp_all
 |some s=>
  rw[hl]at h1;have h1':Yp h=true:=h1.symm;obtain⟨p,hp,hf⟩:=h2 s hl;simp only[h1',true_and,hp,ZhL,hf.obs]
end Vm
end
section
namespace Vm
open Go Go.Proofs Go.RowKit
section
def SeqP{α:Type}(F:Fence)(n:Nat)(P:Program)(g:Nat)(lb:Array Value)(encs:α->Array Value)(Kp:World->World->Prop)(S:List α->World->Prop)(Pp:List PanicEntry->List α->World->Prop)(N:Nat)(bt:Option Nat)(Ex:World->Prop)(w:World):Prop:=
 ∀(l:Nat) (J:List α->World->Prop) (W:World),Below w.heap.size w W->(∀pre W,J pre W->Ex W)->(∀s A B row,J s A->A.grownBy B row->(∀r,row=some r->some r=bt)->J s B)->
  (∀pre x W1,J pre W1->pre.length<N->YieldAt F (n-1) P l (encs x) W1 λe W'=>e=.returned (.bool true)/\J (pre++[x]) W'/\Kp W1 W')->
  J [] W->
  CallsIn F n P g (#[.func (.yield l) #[] #[]]++lb) W λe W'=>(∃v xs,e=.returned v/\S xs W'/\J xs W')\/(∃chain pre,e=.panicked chain/\Pp chain pre W'/\J pre W')
def ZfQ{α:Type}(B:Nat)(Kp:World->World->Prop)(I:List α->World->Prop)(xs:List α)(W:World):Exit->Act->World->Prop
 |.normal,_,W'=>KeepsFrom B W W'/\Kp W W'/\I xs W'
 |_,_,_=>False
def OwnP{β:Type}(bt:Option Nat)(B:Nat)(I:β->World->Prop):Prop:=
 ∀s X Y row,I s X->X.grownBy Y row->(∀r,row=some r->some r=bt\/(B<=r/\∃o:Obj,X.heap[r]?=some o/\o.isCells=false))->I s Y
def OwnP.putObj{β:Type}{bt:Option Nat}{B:Nat}{I:β->World->Prop}(h:OwnP bt B I){s:β}{W:World}{l:Nat}{o:Obj}(o':Obj)(hs:I s W)(hB:B<=l)(hl:W.heap[l]?=some o)(ho:o.isCells=false):I s (W.putObj l o'):=
 h s W _ (some l) hs (Zki W l o') (λr e=>by cases e;exact .inr ⟨hB,o,hl,ho⟩)
def OwnP.alloc{β:Type}{bt:Option Nat}{B:Nat}{I:β->World->Prop}(h:OwnP bt B I){s:β}{W:World}(o:Obj)(hs:I s W):I s (W.alloc o):=
 h s W _ none hs (Ziw W o none) (λr e=>by cases e)
variable {F:Fence}{n:Nat}{P:Program}
def Q6{α:Type}{g:Operand}{ps:Array Tmp}{assign body:Code}{Q:Exit->Act->World->Prop}{a:Act}{w:World}
  (hro:F.round=none) (h1:1<=n) {gf:Nat} {lb:Array Value} (hg:a.eval g=.func (.func gf) #[] lb) (hFg:F.fn gf) (eg:∀args w,(callFunc gf args).run P w=.ok (.enter gf args) w)
  {encs:α->Array Value} {Kp:World->World->Prop} {S:List α->World->Prop} {Pp:List PanicEntry->List α->World->Prop} {N:Nat} {bt:Option Nat} {Ex:World->Prop} {w0:World} (hseq:SeqP F (n-1) P gf lb encs Kp S Pp N bt Ex w0)
  (hbt:∀r,bt=some r->r<w.heap.size)
  (hKt:∀ {A B C:World},Kp A B->Kp B C->Kp A C) (hKb:∀(W:World) (l:Nat) (o o':Obj),w.heap.size<=l->W.heap[l]?=some o->o.isCells=false->o.isWalk=false->Kp W (W.putObj l o')) (hb0:Below w0.heap.size w0 w) (hps:∀x,(encs x).size=ps.size)
  (I:List α->World->Prop) (hI:OwnP bt w.heap.size I) (hEx:∀pre W,I pre W->Ex W) (h0:I [] w) (hS:OwnP none w.heap.size S) (Ax:α->Act->World->Prop) (hAx:∀x a',OwnP none w.heap.size (λ(_:Unit) W=>Ax x a' W))
  (hassign:∀(l:Nat) (pre:List α) (x:α) (W:World) (K:Act->World->Prop),I pre W->(∀a' W',KeepsFrom w.heap.size W W'->Kp W W'->I pre W'->Ax x a' W'->K a' W')->
   assign.wpIn (F.inRound l) (n-1-1) P (Exit.then K (λ_ _ _=>False)) {tmps:=(ps.zip (encs x)).foldl (λt (p,v)=>t.setIfInBounds p v) a.tmps,defers:=[]} W)
  (hbody:∀(l:Nat) (pre:List α) (x:α) (a':Act) (W:World),I pre W->Ax x a' W->pre.length<N->body.wpIn (F.inRound l) (n-1-1) P (ZfQ w.heap.size Kp I (pre++[x]) W) a' W)
  (hdone:∀(D:Nat) (xs:List α) (W:World),w.heap.size<=D->S xs W->I xs W->W.heap[D]?=some (.deferred (some []))->Q .normal {a with defers:= {target:=.collected D,args:=#[]}::a.defers} W)
  (hpanic:∀(D:Nat) (chain:List PanicEntry) (pre:List α) (W:World),w.heap.size<=D->Pp chain pre W->I pre W->W.heap[D]?=some (.deferred (some []))->Q (.panic chain) {a with defers:= {target:=.collected D,args:=#[]}::a.defers} W):
  (Code.rangeFunc g ps assign body).wpIn F n P Q a w:=by
 refine wpIn_rangeFunc λfn hfn=> ?_;rw[hro];obtain⟨rec,hrec⟩:∃rec:LoopState->Option Code->Loop,rec=λst pe=> {state:=st,pending:=pe,fn,tmps:=a.tmps,params:=ps,assign,body,defers:=w.heap.size}:=⟨_,rfl⟩;obtain⟨W1,hW1⟩:∃W1,(w.alloc (.deferred (some []))).alloc (.loop (rec .ready none))=W1:=⟨_,rfl⟩
 have hL1:W1.heap[w.heap.size+1]?=some (.loop (rec .ready none)):=by
  have:=World.alloc_heap_new (w.alloc (.deferred (some []))) (.loop (rec .ready none));rw[World.size_alloc]at this;rw[<-hW1];exact this
 have hK1:W1.heap[w.heap.size]?=some (.deferred (some [])):=by
  rw[<-hW1];exact(Zif _ _ _ (by simp)).trans (World.alloc_heap_new w _)
 have hb1:Below w0.heap.size w0 W1:=by
  rw[<-hW1];exact hb0.trans ((((Zi3 _ w).alloc (Zhe _) _).alloc (by simp) _).mono hb0.size)
 refine⟨w.heap.size+1,[{target:=.collected w.heap.size,args:=#[]}],W1,{target:=.fn (.func gf) lb,args:=#[.func (.yield (w.heap.size+1)) #[] #[]]},W1,gf,
  #[.func (.yield (w.heap.size+1)) #[] #[]]++lb,W1,?_,?_,?_,?_,λ_=>h1,?_⟩
 ·rw[<-hW1,hrec];exact run_enterLoop_outer _ _ _ _ _
 ·simp only[resolve,hg];simp[go_sem]
 ·intro f' hf';simp[Target.leads]at hf';subst hf';exact hFg
 ·simp[invoke,go_sem,eg]
 have hrow:∀ {A B:World} {row:Option Nat} {k:Nat} {o:Obj},A.grownBy B row->(∀r,row=some r->some r=bt)->w.heap.size<=k->A.heap[k]?=some o->B.heap[k]?=some o:=by
  intro A B row k o hgr hr hk ho;refine(hgr.block k (Zhd.1 ho).1 λe=> ?_).trans ho;have:=hbt k (hr k e.symm).symm;omega
 refine(hseq (w.heap.size+1) (λpre W=>I pre W/\W.heap[w.heap.size+1]?=some (.loop (rec .ready none))/\W.heap[w.heap.size]?=some (.deferred (some []))) W1 hb1 (λpre W h=>hEx pre W h.1)
  (λs A B row hs hgr hr=>⟨hI s A B row hs.1 hgr (λr e=>.inl (hr r e)),hrow hgr hr (by omega) hs.2.1,hrow hgr hr (Zhe _) hs.2.2⟩) ?_ ⟨by rw[<-hW1];exact hI.alloc _ (hI.alloc _ h0),hL1,hK1⟩).mono ?_
 ·rintro pre x W ⟨hi,hl,hk⟩ hlen;have hy:=run_yield (P:=P) (args:=encs x) hl (by rw[hrec];exact hps x);rw[hrec]at hy;refine⟨fn,_,assign,body,hy,roundIn_of_wpIn hfn (hassign _ pre x W _ hi ?_)⟩;intro a' V hkf hkp hiV hax;have hlV:=hkf.same _ _ (by omega) hl rfl;have hkV:=hkf.same _ _ (Zhe _) hk rfl;have hlt:w.heap.size+1<V.heap.size:=(Zhd.1 hlV).1;refine⟨_,run_beginRound hlV (by rw[hrec]),?_⟩;have hl2:(V.putObj (w.heap.size+1) (.loop {rec .ready none with state:=.busy})).heap[w.heap.size+1]?=some (.loop {rec .ready none with state:=.busy}):=World.putObj_heap_same hlt;have hk2:(V.putObj (w.heap.size+1) (.loop {rec .ready none with state:=.busy})).heap[w.heap.size]?=some (.deferred (some [])):=(Zig (by omega)).trans hkV;have hp2:Kp V (V.putObj (w.heap.size+1) (.loop {rec .ready none with state:=.busy})):=hKb _ _ _ _ (by omega) hlV rfl rfl;refine wpIn_mono (hbody _ pre x a' _ (hI.putObj _ hiV (by omega) hlV rfl) ((hAx x a').putObj (s:=()) _ hax (by omega) hlV rfl) hlen) ?_;rintro e a3 W3 hp;cases e with
  |normal=>
   obtain⟨hk3,hkp3,hi3⟩:=hp;have hl3:=hk3.same _ _ (by omega) hl2 rfl;have hd3:=hk3.same _ _ (Zhe _) hk2 rfl;have hend:=run_endRound (P:=P) none hl3;refine⟨_,_,hend,rfl,⟨hI.putObj _ hi3 (by omega) hl3 rfl,?_,(Zig (by omega)).trans hd3⟩,hKt hkp (hKt (hKt hp2 hkp3) (hKb _ _ _ _ (by omega) hl3 rfl rfl))⟩;rw[World.putObj_heap_same (Zhd.1 hl3).1,hrec];rfl
  |ret=>exact hp.elim
  |exit id=>exact hp.elim
  |goto t=>exact hp.elim
  |panic ch=>exact hp.elim
  |outgrown=>exact hp.elim
 ·rintro e W2 (⟨v,xs,rfl,hs,hi,hl,hk⟩|⟨chain,pre,rfl,hp,hi,hl,hk⟩)
  ·have hend:=run_endLoop (P:=P) hl (by rw[hrec];simp);rw[hrec]at hend;exact⟨none,_,hend,hdone _ xs _ (Zhe _) (hS.putObj _ hs (by omega) hl rfl) (hI.putObj _ hi (by omega) hl rfl) ((Zig (by omega)).trans hk)⟩
  ·exact hpanic _ chain pre _ (Zhe _) hp hi hk
end
end Vm
end
section
namespace Vm
open Go
open Go.Proofs
def p128:Fn:=⟨4,[0,2,3,4],
pQ [pR [pV 1 pF],pC [pK 4 29 [.s 0]] [pV 2 (.ext (.s 4) 0),pV 3 (.ext (.s 4) 1)],.reg ⟨[.lt 5 [] (.bin .eql (.s 0) (pU 0))],[([(5,false)],.bin .eql (.s 3) (pI 0))],[pV 1 (.ite (.s 5) pT (.bin .eql (.s 3) (pI 0)))]⟩] .ret,[(1,.v)]⟩
def c128:Za Sol.prog fresh sig [.fz] [] Tryz.f128=some p128:=by kernel_rfl
end Vm
end
section
namespace Vm
open Go Go.Proofs Go.RowKit
def Z2o{w:World}{B:Nat}{e:TypeId}{z n:Nat}{v:Value}{xs:List Value}(h:w.ownsRow B e z v n xs):∃a c,v=.slice a n c:=by
 obtain⟨rfl,rfl⟩|⟨g,cap,cur,rfl,_⟩:=h.2
 ·exact⟨_,_,rfl⟩
 ·exact⟨_,_,rfl⟩
def YX{w:World}{b o:Nat}{cs:Array Value}{T:TypeId}(h:w.heap[b]?=some (.cells cs T (0,0))):w.frozen? ⟨b,o,none⟩=false:=by
 simp[World.frozen?,h]
def ZH{w:World}{b:Nat}{o:Obj}(h:w.heap[b]?=some o):b<w.heap.size:=(Zhd.1 h).1
def ja{w:World}{B B':Nat}{e:TypeId}{z n:Nat}{v:Value}{xs:List Value}(h:w.ownsRow B e z v n xs)(hB:B'<=B):w.ownsRow B' e z v n xs:=by
 refine⟨h.1,?_⟩;obtain h2|⟨g,cap,cur,hv,hb,h3⟩:=h.2
 ·exact .inl h2
 ·exact .inr ⟨g,cap,cur,hv,Zht hB hb,h3⟩
def lsH(h:Hp)(j:Nat):List Int:=if j=0 then h.low else if j=1 then h.high else if j=2 then h.old else if j=3 then h.far else h.roots
def hpA(h:Hp)(x:Nat->Value):Value:=.agg #[.int .u64 h.base,.int .i64 h.cap,.int .i64 h.to,.bool h.cycle,.int .i64 h.scan,x 0,x 1,x 2,x 3,x 4]
def ZaF{h:Hp}(hh:h.ok)(k:Nat):(lsH h k).length<=1000000:=by
 unfold lsH;split
 ·exact hh.low
 split
 ·exact hh.high
 split
 ·exact hh.old
 split
 ·exact hh.far
 ·exact hh.roots
section
def Z3s:V->Value
 |.int k n=>.int k n
 |.bool b=>.bool b
 |_=>undef
def Kk:V->Bool
 |.int _ _=>true
 |.bool _=>true
 |_=>false
def yQ:V->Value
 |.agg cs=>.agg (cs.map Z3s).toArray
 |x=>Z3s x
def Kl:V->Bool
 |.agg cs=>cs.all Kk
 |x=>Kk x
def Zac:V->Value
 |.tup l=>.tuple (l.map yQ).toArray
 |x=>yQ x
def Z7Z:V->Bool
 |.tup l=>l.all Kl
 |x=>Kl x
variable {w:World}{G:Nat->Prop}
def Z8J{x:V}(h:Kk x=true):Rd w G x (Z3s x):=by
 cases x<;>simp[Kk]at h
 ·exact .int _ _
 ·exact .bool _
def Z8K{x:V}(h:Kl x=true):Rd w G x (yQ x):=by
 cases x with
 |agg cs=>
  simp only[Kl,Zhm]at h;refine .agg _ _ (by simp) (λc hc=> ?_) λi c hc=> ?_
  ·have:=h c hc;cases c<;>simp[Kk]at this<;>rfl
  ·have h1:=Z8J (w:=w) (G:=G) (h c (Zhg hc))
   have:((cs.map Z3s).toArray).getD i undef=Z3s c:=by
    obtain⟨hi,rfl⟩:=Zh9.1 hc;simp[Array.getD,hi]
   rw[this];exact h1
 |int k n=>exact .int _ _
 |bool b=>exact .bool _
 |_=>simp[Kl,Kk]at h
def Z7S{x:V}{v:Value}(h:Kk x=true)(r:Rd w G x v):v=Z3s x:=by
 cases x<;>simp[Kk]at h
 ·cases r;rfl
 ·cases r;rfl
def Z1P{x:V}{v:Value}(h:Kl x=true)(r:Rd w G x v):v=yQ x:=by
 cases x with
 |agg cs=>
  simp only[Kl,Zhm]at h;cases r with
  |agg _ vs hl _ hr=>
   simp only[yQ,Value.agg.injEq];apply ZkS
   ·simpa using hl
   ·intro i h1 h2;have hi:i<cs.length:=by omega
    have hc:cs[i]?=some cs[i]:=Zh8 hi;have:=Z7S (h _ (Zhi hi)) (hr i _ hc);simp[Array.getD,h1]at this;simpa using this
 |int k n=>cases r;rfl
 |bool b=>cases r;rfl
 |_=>simp[Kl,Kk]at h
def Z1Q{x:V}{v:Value}(h:Z7Z x=true)(r:Rd w G x v):v=Zac x:=by
 cases x with
 |tup cs=>
  simp only[Z7Z,Zhm]at h;cases r with
  |tup _ vs hl hr=>
   simp only[Zac,Value.tuple.injEq];apply ZkS
   ·simpa using hl
   ·intro i h1 h2;have hi:i<cs.length:=by omega
    have hc:cs[i]?=some cs[i]:=Zh8 hi;have:=Z1P (h _ (Zhi hi)) (hr i _ hc);simp[Array.getD,h1]at this;simpa using this
 |agg cs=>exact Z1P (x:=.agg cs) h r
 |int k n=>cases r;rfl
 |bool b=>cases r;rfl
 |_=>simp[Z7Z,Kl,Kk]at h
def WD{P:Program}{f:FuncId}{fr:Bool}{args:List V}{r:V}(h:VC P f fr args r)(ha:args.all Kl=true)(hr:Z7Z r=true)(w:World):
  Calls P f (args.map yQ).toArray w λe w'=>e=.returned (Zac r)/\Below w.heap.size w w':=by
 simp only[Zhm]at ha;refine ZkD (h.2 w (λ_=>False) _ (by simp) (by simp) ?_) ?_
 ·intro i x hx;obtain⟨hi,rfl⟩:=Zh9.1 hx;have:((args.map yQ).toArray).getD i undef=yQ args[i]:=by simp[Array.getD,hi]
  rw[this];exact Z8K (ha _ (Zhi hi))
 ·rintro e w' ⟨v,rfl,hb,hv⟩;exact⟨by rw[Z1Q hr hv],hb⟩
def lyA(l:Ly):Value:=.agg #[.int .u64 l.base,.int .i64 l.cap,.int .i64 l.to,.int .i64 l.low,.int .i64 l.high,.int .i64 l.old,.int .i64 l.far]
def jV{l:Ly}(hl:l.fits)(part at_:Int)(w:World):Calls Sol.prog 57 #[lyA l,.agg #[.int .i64 part,.int .i64 at_]] w λe w'=>e=.returned (.tuple #[.int .u64 (ZI l part at_).1,.int .i64 (ZI l part at_).2])/\Below w.heap.size w w':=
 WD (Z1F hl) rfl rfl w
def WA{x:Int}(hx:U64 x)(w:World):Calls Sol.prog 29 #[.int .u64 x] w λe w'=>e=.returned (.tuple #[.int .u64 (adr x).1,.int .i64 (adr x).2])/\Below w.heap.size w w':=
 WD (yp hx) rfl rfl w
def UJ{x:Int}(hx:U64 x)(w:World):Calls Sol.prog 47 #[.int .u64 x] w λe w'=>e=.returned (.tuple #[.agg #[.int .i64 (unpk x).1,.int .i64 (unpk x).2.1],.int .i64 (unpk x).2.2])/\Below w.heap.size w w':=
 WD (Z7n hx) rfl rfl w
def yi{h:Hp}{x:Nat->Value}(hG:∀b,G b->b<w.heap.size)(hr:∀j,j<5->Rd w G (.sl ((lsH h j).map vu)) (x j)):
  Calls Sol.prog 42 #[hpA h x] w λe w'=>e=.returned (lyA (layH h))/\Below w.heap.size w w':=by
 refine ZkD ((yj (h:=h)).2 w G _ hG rfl ?_) ?_
 ·intro i y hy
  match i,hy with
  |0,hy=>
   cases hy;refine .agg _ _ rfl (by simp[V.one]) ?_;intro i y hy
   match i,hy with
   |0,hy=>cases hy;exact .int _ _
   |1,hy=>cases hy;exact .int _ _
   |2,hy=>cases hy;exact .int _ _
   |3,hy=>cases hy;exact .bool _
   |4,hy=>cases hy;exact .int _ _
   |5,hy=>cases hy;exact hr 0 (by omega)
   |6,hy=>cases hy;exact hr 1 (by omega)
   |7,hy=>cases hy;exact hr 2 (by omega)
   |8,hy=>cases hy;exact hr 3 (by omega)
   |9,hy=>cases hy;exact hr 4 (by omega)
 ·rintro e w' ⟨v,rfl,hb,hv⟩;exact⟨by rw[Z1Q (by rfl) hv];rfl,hb⟩
end
end Vm
end
section
namespace Vm
open Go Go.Proofs Go.RowKit
def Z42{x:Int}(hx:U64 x):VC Sol.prog 128 false [vu x] (.bool (Jg x)):=by
 refine Z5 Sol.func128 follows (by kernel_rfl) c128 rfl ?_;simp[p128];refine Z0 (yp hx) (by simp) ?_;simp_all[Jg]
def Sc{x:Int}(hx:U64 x)(w:World):Calls Sol.prog 128 #[.int .u64 x] w λe w'=>e=.returned (.bool (Jg x))/\Below w.heap.size w w':=
 WD (Z42 hx) rfl rfl w
structure Words (w:World) (ws:List Int) (g o cap:Nat):Prop where
 at_:∀(i:Nat) (x:Int),ws[i]?=some x->w.cell? ⟨g,o+i,none⟩=some (.int .u64 x)
 le:ws.length<=cap
 cap:cap<=maxLen
 len:ws.length<=1000000
 u64:∀x∈ws,U64 x
def XD(e:Int):List PanicEntry:=[{v:=.iface 182 (.agg #[.int .i64 e]),recovered:=false}]
def obA(o:Ob):Value:=.agg #[.int .i64 o.at_,.int .i64 o.size,.int .i64 o.ptrs,.bool o.gone,.int .u64 o.target]
def Z85(ws:List Int)(o:Ob):Ending:=
 if(ws.length:Int)<o.at_+1+o.size then .panicked (XD 2)else if ZN ((ws.drop (o.at_.toNat+1)).take o.size.toNat) o.gone o.ptrs 0=false then .panicked (XD 3)else .returned (.tuple #[])
def Z5s(w:World)(ws:List Int)(g o cap:Nat)(hw:Words w ws g o cap)(hg:g<w.heap.size)(ob:Ob)(a:Nat)(ha:ob.at_=a)(hlt:a<ws.length)(hsh:Zm ob.size ob.ptrs=true):
  Calls Sol.prog 127 #[.slice (some ⟨g,o,none⟩) ws.length cap,obA ob] w λe w'=>e=Z85 ws ob/\Below w.heap.size w w':=by
 have hl:=hw.len;have hc:=hw.le;have hm:=hw.cap;obtain⟨at_,size,ptrs,gone,target⟩:=ob;simp only at ha hsh;subst ha;obtain⟨s1,s2,s3,s4⟩:=Zb.1 hsh;obtain⟨m,rfl⟩:=Zhl s1;have HW:=ZhF hw;have he:Z85 ws ⟨a,m,ptrs,gone,target⟩=if(ws.length:Int)<a+1+m then .panicked (XD 2)else if ZN ((ws.drop (a+1)).take m) gone ptrs 0=false then .panicked (XD 3)else .returned (.tuple #[]):=rfl
 generalize Z85 ws ⟨a,m,ptrs,gone,target⟩=E at*;unfold obA;dsimp only;by_cases hfit:(ws.length:Int)<a+1+m
 ·rw[if_pos hfit]at he;have HE:=ZhF he;clear he;have hlt2:((ws.length- (a+1):Nat):Int)<m:=by omega
  go_enter Sol.func127,Tryz.ntmps127;go_wp2
  all_goals exact⟨rfl,HE.out.symm,(Zi3 _ _).alloc (Zhe _) _⟩
 ·rw[if_neg hfit]at he;have HE:=ZhF he;clear he;have hge2:(m:Int)<=((ws.length- (a+1):Nat):Int):=by omega
  have hge3:m<=ws.length- (a+1):=by omega
  have hnlt:(ws.length- (a+1)<m)=False:=Zl6 (by omega);have hcm:m<=cap- (a+1):=by omega
  have hm5:m<=255:=by omega
  clear hw hfit;by_cases hcap:cap=a+1
  ·have hm0:m=0:=by omega
   subst hm0;subst hcap;go_enter Sol.func127,Tryz.ntmps127;go_wp2
   go_loopw [26] (λi wr=>i=.int .i64 0/\Hid (Below w.heap.size w wr)) (λi _=>0)
   case atStart=>exact⟨rfl,ZhF ((Zi3 _ _).alloc (Zhe _) _)⟩
   case round=>
    obtain⟨rfl,HB⟩:=hrel;go_wp2
    go_end0
    exact⟨HE.out.symm,HB.out⟩
  ·go_enter Sol.func127,Tryz.ntmps127;go_wp2
   go_loopw [26] (λi wr=>∃k:Nat,i=.int .i64 k/\k<=m/\Hid (Below w.heap.size w wr/\wr.heap[w.heap.size]?=some (.cells #[.int .i64 a,.int .i64 m,.int .i64 ptrs,.bool gone,.int .u64 target] 68 (0,0))/\
     ZN ((ws.drop (a+1)).take m) gone ptrs 0=ZN (((ws.drop (a+1)).take m).drop k) gone ptrs k)) (λi _=>m- (intOf i).toNat)
   case atStart=>exact⟨0,rfl,by omega,ZhF ⟨(Zi3 _ _).alloc (Zhe _) _,ZhX w _,rfl⟩⟩
   case round=>
    obtain⟨k,rfl,hk,HI⟩:=hrel;by_cases hlt:k<m
    ·obtain⟨x,hx⟩:∃x,ws[a+1+k]?=some x:=⟨_,Zh8 (by omega)⟩;have hu:U64 x:=HW.out.u64 x (Zhg hx)
     have hT:((ws.drop (a+1)).take m)[k]?=some x:=by
      rw[ZhN,if_pos hlt,ZhU];exact hx
     have c0:wr.cell? ⟨g,o+(a+1)+k,none⟩=some (.int .u64 x):=by
      rw[ZiU];exact(HI.out.1.cell (p:=⟨g,o+(a+1+k),none⟩) hg).trans (HW.out.at_ _ _ hx)
     have c1:wr.cell? ⟨w.heap.size,1,none⟩=some (.int .i64 m):=by rw[Zhs _ _ _ _ _ _ HI.out.2.1];rfl
     have c2:wr.cell? ⟨w.heap.size,2,none⟩=some (.int .i64 ptrs):=by rw[Zhs _ _ _ _ _ _ HI.out.2.1];rfl
     have c3:wr.cell? ⟨w.heap.size,3,none⟩=some (.bool gone):=by rw[Zhs _ _ _ _ _ _ HI.out.2.1];rfl
     have hs:=RU (gone:=gone) (ptrs:=ptrs) hT;have hlt':(k:Int)<m:=by omega
     have hbs:=ZH HI.out.2.1;clear hx hT
     have stop:ZN (((ws.drop (a+1)).take m).drop k) gone ptrs k=false->E=.panicked (XD 3):=λh=>by
      rw[HE.out,HI.out.2.2,h,if_pos rfl]
     cases gone
     ·by_cases hp:(k:Int)<ptrs
      ·cases hip:Jg x
       ·have HE2:=ZhF (stop (by simp_all));clear stop hs
        go_wp2_with (go_at_call 128;refine(Sc hu _).mono ?_;rintro e w1 ⟨rfl,hb1⟩;have HB1:=ZhF hb1;clear hb1)
        exact⟨rfl,HE2.out.symm,HI.out.1.trans (HB1.out.mono HI.out.1.size)⟩
       ·have HS:=ZhF (hs.trans (by simp[hip]:_=ZN (((ws.drop (a+1)).take m).drop (k+1)) false ptrs (k+1)));clear stop hs
        go_wp2_with (go_at_call 128;refine(Sc hu _).mono ?_;rintro e w1 ⟨rfl,hb1⟩;have HB1:=ZhF hb1;clear hb1)
        go_wp2
        go_roundw
        case rel=>
         exact⟨k+1,by go_num,by omega,ZhF ⟨HI.out.1.trans (HB1.out.mono HI.out.1.size),(HB1.out.block _ hbs).trans HI.out.2.1,HI.out.2.2.trans HS.out⟩⟩
        case measure=>grind [intOf]
      ·have HS:=ZhF (hs.trans (by simp[hp]:_=ZN (((ws.drop (a+1)).take m).drop (k+1)) false ptrs (k+1)));clear stop hs;go_wp2
       go_roundw
       case rel=>exact⟨k+1,by go_num,by omega,ZhF ⟨HI.out.1,HI.out.2.1,HI.out.2.2.trans HS.out⟩⟩
       case measure=>grind [intOf]
     ·by_cases h0:x=0
      ·subst h0;have HS:=ZhF (hs.trans (by simp[Jg]:_=ZN (((ws.drop (a+1)).take m).drop (k+1)) true ptrs (k+1)));clear stop hs;go_wp2
       go_roundw
       case rel=>exact⟨k+1,by go_num,by omega,ZhF ⟨HI.out.1,HI.out.2.1,HI.out.2.2.trans HS.out⟩⟩
       case measure=>grind [intOf]
      ·have HE2:=ZhF (stop (by simp_all));clear stop hs;go_wp2;exact⟨rfl,HE2.out.symm,HI.out.1⟩
    ·have:k=m:=by omega
     subst this;have h3:=HI.out.2.2;have hd:((ws.drop (a+1)).take k).drop k=[]:=Zjn (by simp_all);rw[hd]at h3;have HE2:=ZhF (HE.out.trans (by rw[h3];rfl:_=Ending.returned (.tuple #[])));clear h3 hd;go_wp2
     go_end0
     exact⟨HE2.out.symm,HI.out.1⟩
end Vm
namespace Vm
open Go Go.Proofs Go.RowKit
def ZaN(w:World):Sem.run Sol.prog (binOp .neq 183 .nilFunc .nilFunc) w=.ok (.bool false) w:=by rfl
def Z6f(w:World)(f:FuncId)(vs:Array Value):Sem.run Sol.prog (binOp .neq 183 (.func (.func f) #[] vs) .nilFunc) w=.ok (.bool true) w:=by rfl
def row5{w:World}{b:Nat}{T:TypeId}{v0 v1 v2 v3 v4:Value}(h:w.heap[b]?=some (.cells #[v0,v1,v2,v3,v4] T (0,0)))(O:Obj):
  ((w.alloc O).cell? ⟨b,0,none⟩=some v0/\(w.alloc O).cell? ⟨b,1,none⟩=some v1/\(w.alloc O).cell? ⟨b,2,none⟩=some v2/\(w.alloc O).cell? ⟨b,3,none⟩=some v3/\(w.alloc O).cell? ⟨b,4,none⟩=some v4)/\
  (w.alloc O).frozen? ⟨b,0,none⟩=false/\(w.alloc O).frozen? ⟨b,1,none⟩=false/\(w.alloc O).frozen? ⟨b,2,none⟩=false/\(w.alloc O).frozen? ⟨b,3,none⟩=false/\(w.alloc O).frozen? ⟨b,4,none⟩=false:=by
 have h':(w.alloc O).heap[b]?=some (.cells #[v0,v1,v2,v3,v4] T (0,0)):=(Zif _ _ _ (ZH h)).trans h;refine⟨⟨?_,?_,?_,?_,?_⟩,YX h',YX h',YX h',YX h',YX h'⟩<;>(rw[Zhs _ _ _ _ _ _ h'];rfl)
def begE(a:Nat)(x:Int):Ending:=if(unpk x).2.2=0 then .returned (obA ⟨a,(unpk x).1,(unpk x).2.1,false,0⟩)else .panicked (XD 3)
def Z4R(w:World)(ws:List Int)(g o cap:Nat)(hw:Words w ws g o cap)(hg:g<w.heap.size)(a:Nat)(x:Int)(hx:ws[a]?=some x):
  Calls Sol.prog 126 #[.slice (some ⟨g,o,none⟩) ws.length cap,.int .i64 a,.nilFunc] w λe w'=>e=begE a x/\Below w.heap.size w w':=by
 have hl:=hw.len;have hc:=hw.le;have hm:=hw.cap;have hlt:a<ws.length:=(Zh9.1 hx).1;have hlt':(a:Int)<ws.length:=by omega
 have hu:U64 x:=hw.u64 x (Zhg hx);have c0:=hw.at_ a x hx;have cc:∀W,Below w.heap.size w W->W.cell? ⟨g,o+a,none⟩=some (.int .u64 x):=λW hb=>(hb.cell (p:=⟨g,o+a,none⟩) hg).trans c0;have he:begE a x=if(unpk x).2.2=0 then .returned (obA ⟨a,(unpk x).1,(unpk x).2.1,false,0⟩)else .panicked (XD 3):=rfl
 generalize begE a x=E at*;have HC:=ZhF cc;have hnil:=ZaN;clear hw hx cc;by_cases h0:(unpk x).2.2=0
 ·rw[if_pos h0]at he;have HE:=ZhF he;clear he;go_enter Sol.func126,Tryz.ntmps126
  go_wp2_with (first
   |(go_at_call 29;refine(WA hu _).mono ?_;rintro e w1 ⟨rfl,hb1⟩;have HB1:=ZhF hb1;have d0:=HC.out w1 (((((Zi3 _ w).alloc (Zhe _) _).alloc (by simp) _).trans (hb1.mono (by simp;omega))));clear hb1)
   | (go_at_call 47;refine(UJ hu _).mono ?_;rintro e w2 ⟨rfl,hb2⟩;have HB2:=ZhF hb2
      have hB:=HB1.out.block;have r0:w2.heap[w.heap.size]?=some (.cells #[.int .i64 0,.int .i64 0,.int .i64 0,.bool false,.int .u64 0] 68 (0,0)):=(hb2.block _ (by have:=HB1.out.size;simp at this;omega)).trans ((HB1.out.block _ (by simp;omega)).trans ((Zif _ _ _ (by simp)).trans (ZhX w _)));have r1:w2.heap[w.heap.size+1]?=some (.cells #[.int .i64 a,.int .i64 0,.int .i64 0,.bool false,.int .u64 0] 68 (0,0)):=(hb2.block _ (by have:=HB1.out.size;simp at this;omega)).trans ((HB1.out.block _ (by simp)).trans (by have:=ZhX (w.alloc (.cells #[.int .i64 0,.int .i64 0,.int .i64 0,.bool false,.int .u64 0] 68)) (.cells #[.int .i64 a,.int .i64 0,.int .i64 0,.bool false,.int .u64 0] 68);simp_all));obtain⟨⟨x0,x1,x2,x3,x4⟩,y0,y1,y2,y3,y4⟩:=row5 r0 (.cells #[.int .i64 (unpk x).1,.int .i64 (unpk x).2.1] 66);obtain⟨⟨p0,p1,p2,p3,p4⟩,q0,q1,q2,q3,q4⟩:=row5 r1 (.cells #[.int .i64 (unpk x).1,.int .i64 (unpk x).2.1] 66);have HR:=ZhF (And.intro r0 r1);clear hb2 hB r0 r1))
  refine Zj7 (v:=obA ⟨a,(unpk x).1,(unpk x).2.1,false,0⟩) ?_ rfl ⟨HE.out.symm,?_⟩
  ·simp[results,Tryz.results126,go_sem,obA,x0,x1,x2,x3,x4]
  ·have h1:=(((Zi3 _ w).alloc (Zhe _) (.cells #[.int .i64 0,.int .i64 0,.int .i64 0,.bool false,.int .u64 0] 68)).alloc (by simp) (.cells #[.int .i64 a,.int .i64 0,.int .i64 0,.bool false,.int .u64 0] 68)).trans (HB1.out.mono (by simp;omega));have h2:=(h1.trans (HB2.out.mono (by have:=h1.size;omega))).alloc (by have:=h1.size;have:=HB2.out.size;omega) (.cells #[.int .i64 (unpk x).1,.int .i64 (unpk x).2.1] 66);exact((((((h2.setCell (p:=⟨w.heap.size+1,1,none⟩) (by simp) _).setCell (p:=⟨w.heap.size+1,2,none⟩) (by simp) _).setCell (p:=⟨w.heap.size,0,none⟩) (Zhe _) _).setCell (p:=⟨w.heap.size,1,none⟩) (Zhe _) _).setCell (p:=⟨w.heap.size,2,none⟩) (Zhe _) _).setCell (p:=⟨w.heap.size,3,none⟩) (Zhe _) _).setCell (p:=⟨w.heap.size,4,none⟩) (Zhe _) _
 ·rw[if_neg h0]at he;have HE:=ZhF he;clear he;have h0':((unpk x).2.2=0)=False:=Zl6 h0;go_enter Sol.func126,Tryz.ntmps126
  go_wp2_with (first
   |(go_at_call 29;refine(WA hu _).mono ?_;rintro e w1 ⟨rfl,hb1⟩;have HB1:=ZhF hb1;have d0:=HC.out w1 (((((Zi3 _ w).alloc (Zhe _) _).alloc (by simp) _).trans (hb1.mono (by simp;omega))));clear hb1)
   |(go_at_call 47;refine(UJ hu _).mono ?_;rintro e w2 ⟨rfl,hb2⟩;have HB2:=ZhF hb2;clear hb2))
  refine⟨rfl,HE.out.symm,?_⟩;have h1:=(((Zi3 _ w).alloc (Zhe _) (.cells #[.int .i64 0,.int .i64 0,.int .i64 0,.bool false,.int .u64 0] 68)).alloc (by simp) (.cells #[.int .i64 a,.int .i64 0,.int .i64 0,.bool false,.int .u64 0] 68)).trans (HB1.out.mono (by simp;omega));exact(h1.trans (HB2.out.mono (by have:=h1.size;omega))).alloc (by have:=h1.size;have:=HB2.out.size;omega) _
end Vm
namespace Vm
open Go Go.Proofs Go.RowKit
def Sp(s p:Int)(w:World):Calls Sol.prog 78 #[.agg #[.int .i64 s,.int .i64 p]] w λe w'=>e=.returned (.bool (Zm s p))/\Below w.heap.size w w':=
 WD jp rfl rfl w
structure Shps (w:World) (shs:List (Int×Int)) (bs:Nat) (v:Value):Prop where
 box:w.heap[bs]?=some (.cells #[v] 160 (0,0))
 val:(∃g o cap,v=.slice (some ⟨g,o,none⟩) shs.length cap/\shs.length<=cap/\cap<=maxLen/\g<w.heap.size/\∀(i:Nat) (x:Int×Int),shs[i]?=some x->w.cell? ⟨g,o+i*2,none⟩=some (.int .i64 x.1)/\w.cell? ⟨g,o+i*2+1,none⟩=some (.int .i64 x.2))\/
  (∃a cap,v=.slice a 0 cap/\shs=[])
def Z83(w:World)(shs:List (Int×Int))(bt bs:Nat)(v:Value)(hl:shs.length<=1000000)(hs:Shps w shs bs v)(hb:w.heap[bt]?=some (.cells #[.int .i64 shs.length] 3 (0,0))):
  Calls Sol.prog 121 #[.pointer (some ⟨bt,0,none⟩),.pointer (some ⟨bs,0,none⟩)] w λe w'=>e=.panicked (XD 3)/\Below w.heap.size w w':=by
 have c0:w.cell? ⟨bt,0,none⟩=some (.int .i64 shs.length):=by rw[Zhs _ _ _ _ _ _ hb];rfl
 have hbl:=ZH hb;have hbl2:=ZH hs.box;have c1:w.cell? ⟨bs,0,none⟩=some v:=by rw[Zhs _ _ _ _ _ _ hs.box];rfl
 obtain⟨g,o,cap,rfl,h1,h2,h3,h4⟩|⟨a,cap,rfl,rfl⟩:=hs.val
 ·clear h4 hs hb;go_enter Sol.func121,Tryz.ntmps121;go_wp2;exact⟨rfl,rfl,(Zi3 _ _).alloc (Zhe _) _⟩
 ·clear hs hb;simp only[ZiO]at c0;go_enter Sol.func121,Tryz.ntmps121;go_wp2;exact⟨rfl,rfl,(Zi3 _ _).alloc (Zhe _) _⟩
def Z82(w:World)(shs:List (Int×Int))(bt bs t:Nat)(v:Value)(x:Int×Int)(hl:shs.length<=1000000)(hs:Shps w shs bs v)(hb:w.heap[bt]?=some (.cells #[.int .i64 t] 3 (0,0)))(hx:shs[t]?=some x)(hn:Zm x.1 x.2=false):
  Calls Sol.prog 121 #[.pointer (some ⟨bt,0,none⟩),.pointer (some ⟨bs,0,none⟩)] w λe w'=>e=.panicked (XD 3)/\Below w.heap.size w w':=by
 have c0:w.cell? ⟨bt,0,none⟩=some (.int .i64 t):=by rw[Zhs _ _ _ _ _ _ hb];rfl
 have hbl:=ZH hb;have hbl2:=ZH hs.box;have hlt:t<shs.length:=(Zh9.1 hx).1;have hne:¬t=shs.length:=by omega
 have hlt':(t:Int)<shs.length:=by omega
 have c1:w.cell? ⟨bs,0,none⟩=some v:=by rw[Zhs _ _ _ _ _ _ hs.box];rfl
 obtain⟨g,o,cap,rfl,h1,h2,h3,h4⟩|⟨a,cap,rfl,rfl⟩:=hs.val
 ·obtain⟨d0,d1⟩:=h4 t x hx;have e2:=Sp x.1 x.2;rw[hn]at e2;clear h4 hs hb hx hn;go_enter Sol.func121,Tryz.ntmps121
  go_wp2_with (go_at_call 78;refine(e2 _).mono ?_;rintro e w1 ⟨rfl,hb1⟩;have HB1:=ZhF hb1;clear hb1)
  exact⟨rfl,rfl,((Zi3 _ w).alloc (Zhe _) _).trans (HB1.out.mono (by simp))⟩
 grind
def Zam(w:World)(shs:List (Int×Int))(bt bs t:Nat)(v:Value)(x:Int×Int)(hl:shs.length<=1000000)(hs:Shps w shs bs v)(hb:w.heap[bt]?=some (.cells #[.int .i64 t] 3 (0,0)))(hx:shs[t]?=some x)(hn:Zm x.1 x.2=true)(hbs:bs≠bt)
  (hgb:∀g o cap,v=.slice (some ⟨g,o,none⟩) shs.length cap->g≠bt):
  Calls Sol.prog 121 #[.pointer (some ⟨bt,0,none⟩),.pointer (some ⟨bs,0,none⟩)] w λe w'=>e=.returned (.agg #[.int .i64 x.1,.int .i64 x.2])/\w.grownBy w' (some bt)/\w'.heap[bt]?=some (.cells #[.int .i64 ((t+1:Nat):Int)] 3 (0,0)):=by
 have c0:w.cell? ⟨bt,0,none⟩=some (.int .i64 t):=by rw[Zhs _ _ _ _ _ _ hb];rfl
 have hbl:=ZH hb;have hbl2:=ZH hs.box;have hlt:t<shs.length:=(Zh9.1 hx).1;have hne:¬t=shs.length:=by omega
 have hlt':(t:Int)<shs.length:=by omega
 have c1:w.cell? ⟨bs,0,none⟩=some v:=by rw[Zhs _ _ _ _ _ _ hs.box];rfl
 have hf:=YX (o:=0) hb;have hbs':¬bs=bt:=hbs;have hbs2:¬bt=bs:=λe=>hbs e.symm;obtain⟨g,o,cap,rfl,h1,h2,h3,h4⟩|⟨a,cap,rfl,rfl⟩:=hs.val
 ·obtain⟨d0,d1⟩:=h4 t x hx;have hg:=hgb g o cap rfl;have e2:=Sp x.1 x.2;rw[hn]at e2;have HB:=ZhF hb;clear h4 hs hb hx hn hgb;go_enter Sol.func121,Tryz.ntmps121
  go_wp2_with (go_at_call 78;refine(e2 _).mono ?_;rintro e w1 ⟨rfl,hb1⟩
               have HB1:=ZhF hb1;have s1:=hb1.size;have k0:w1.cell? ⟨bt,0,none⟩=some (.int .i64 t):=(hb1.cell (p:=⟨bt,0,none⟩) (by simp;omega)).trans ((ZiR _ _ _ hbl).trans c0);have k1:w1.frozen? ⟨bt,0,none⟩=false:=YX ((hb1.block bt (by simp;omega)).trans ((Zif _ _ _ hbl).trans HB.out));have k2:w1.cell? ⟨bs,0,none⟩=some (.slice (some ⟨g,o,none⟩) shs.length cap):=(hb1.cell (p:=⟨bs,0,none⟩) (by simp;omega)).trans ((ZiR _ _ _ hbl2).trans c1);have k3:w1.cell? ⟨g,o+t*2,none⟩=some (.int .i64 x.1):=(hb1.cell (p:=⟨g,o+t*2,none⟩) (by simp;omega)).trans ((ZiR _ _ _ h3).trans d0);have k4:w1.cell? ⟨g,o+t*2+1,none⟩=some (.int .i64 x.2):=(hb1.cell (p:=⟨g,o+t*2+1,none⟩) (by simp;omega)).trans ((ZiR _ _ _ h3).trans d1);have r0:w1.heap[w.heap.size]?=some (.cells #[.int .i64 0,.int .i64 0] 66 (0,0)):=(hb1.block _ (by simp)).trans (ZhX w _);have x0:w1.cell? ⟨w.heap.size,0,none⟩=some (.int .i64 0):=by rw[Zhs _ _ _ _ _ _ r0];rfl
               have x1:w1.cell? ⟨w.heap.size,1,none⟩=some (.int .i64 0):=by rw[Zhs _ _ _ _ _ _ r0];rfl
               have y0:=YX (o:=0) r0;have y1:=YX (o:=1) r0;have n1:¬w.heap.size=bt:=by omega
               have n2:¬bt=w.heap.size:=by omega
               have HR:=ZhF r0;clear hb1 r0)
  have hB:Below w.heap.size w w1:=((Zi3 _ w).alloc (Zhe _) (.cells #[.int .i64 0,.int .i64 0] 66)).trans (HB1.out.mono (by simp));have hw1:w1.heap[bt]?=some (.cells #[.int .i64 t] 3 (0,0)):=(hB.block bt hbl).trans HB.out;refine Zj7 (v:=.agg #[.int .i64 x.1,.int .i64 x.2]) ?_ rfl ⟨rfl,⟨hB.os,hB.tape,hB.output,?_,λk hk hne=> ?_⟩,?_⟩
  ·simp[results,Tryz.results121,go_sem,x0,x1,n1,n2]
  ·simp[World.setCell];exact hB.size
  ·have hkb:k≠bt:=λe=>hne (by rw[e]);rw[ZhP _ _ _ _ (by grind),ZhP _ _ _ _ (by grind),ZhP _ _ _ _ hkb];exact hB.block k hk
  simp_all[ZhP,World.setCell,ZiL]
 grind
end Vm
namespace Vm
open Go Go.Proofs Go.RowKit
def LN(w:World)(f:FuncId)(vs:Array Value)(ws:List Int)(g o cap:Nat)(hw:Words w ws g o cap)(hg:g<w.heap.size)(a:Nat)(x:Int)(hx:ws[a]?=some x)(hna:¬(adr x).2=0):
  Calls Sol.prog 126 #[.slice (some ⟨g,o,none⟩) ws.length cap,.int .i64 a,.func (.func f) #[] vs] w λe w'=>e=begE a x/\Below w.heap.size w w':=by
 have hl:=hw.len;have hc:=hw.le;have hm:=hw.cap;have hlt:a<ws.length:=(Zh9.1 hx).1;have hlt':(a:Int)<ws.length:=by omega
 have hu:U64 x:=hw.u64 x (Zhg hx);have c0:=hw.at_ a x hx;have cc:∀W,Below w.heap.size w W->W.cell? ⟨g,o+a,none⟩=some (.int .u64 x):=λW hb=>(hb.cell (p:=⟨g,o+a,none⟩) hg).trans c0;have he:begE a x=if(unpk x).2.2=0 then .returned (obA ⟨a,(unpk x).1,(unpk x).2.1,false,0⟩)else .panicked (XD 3):=rfl
 generalize begE a x=E at*;have HC:=ZhF cc;have hfn:=λW=>Z6f W f vs;have hna':((adr x).2=0)=False:=Zl6 hna;clear hw hx cc;by_cases h0:(unpk x).2.2=0
 ·rw[if_pos h0]at he;have HE:=ZhF he;clear he;go_enter Sol.func126,Tryz.ntmps126
  go_wp2_with (first
   |(go_at_call 29;refine(WA hu _).mono ?_;rintro e w1 ⟨rfl,hb1⟩;have HB1:=ZhF hb1;have d0:=HC.out w1 (((((Zi3 _ w).alloc (Zhe _) _).alloc (by simp) _).trans (hb1.mono (by simp;omega))));clear hb1)
   | (go_at_call 47;refine(UJ hu _).mono ?_;rintro e w2 ⟨rfl,hb2⟩;have HB2:=ZhF hb2
      have hB:=HB1.out.block;have r0:w2.heap[w.heap.size]?=some (.cells #[.int .i64 0,.int .i64 0,.int .i64 0,.bool false,.int .u64 0] 68 (0,0)):=(hb2.block _ (by have:=HB1.out.size;simp at this;omega)).trans ((HB1.out.block _ (by simp;omega)).trans ((Zif _ _ _ (by simp)).trans (ZhX w _)));have r1:w2.heap[w.heap.size+1]?=some (.cells #[.int .i64 a,.int .i64 0,.int .i64 0,.bool false,.int .u64 0] 68 (0,0)):=(hb2.block _ (by have:=HB1.out.size;simp at this;omega)).trans ((HB1.out.block _ (by simp)).trans (by have:=ZhX (w.alloc (.cells #[.int .i64 0,.int .i64 0,.int .i64 0,.bool false,.int .u64 0] 68)) (.cells #[.int .i64 a,.int .i64 0,.int .i64 0,.bool false,.int .u64 0] 68);simp_all));obtain⟨⟨x0,x1,x2,x3,x4⟩,y0,y1,y2,y3,y4⟩:=row5 r0 (.cells #[.int .i64 (unpk x).1,.int .i64 (unpk x).2.1] 66);obtain⟨⟨p0,p1,p2,p3,p4⟩,q0,q1,q2,q3,q4⟩:=row5 r1 (.cells #[.int .i64 (unpk x).1,.int .i64 (unpk x).2.1] 66);have HR:=ZhF (And.intro r0 r1);clear hb2 hB r0 r1))
  refine Zj7 (v:=obA ⟨a,(unpk x).1,(unpk x).2.1,false,0⟩) ?_ rfl ⟨HE.out.symm,?_⟩
  ·simp[results,Tryz.results126,go_sem,obA,x0,x1,x2,x3,x4]
  ·have h1:=(((Zi3 _ w).alloc (Zhe _) (.cells #[.int .i64 0,.int .i64 0,.int .i64 0,.bool false,.int .u64 0] 68)).alloc (by simp) (.cells #[.int .i64 a,.int .i64 0,.int .i64 0,.bool false,.int .u64 0] 68)).trans (HB1.out.mono (by simp;omega));have h2:=(h1.trans (HB2.out.mono (by have:=h1.size;omega))).alloc (by have:=h1.size;have:=HB2.out.size;omega) (.cells #[.int .i64 (unpk x).1,.int .i64 (unpk x).2.1] 66);exact((((((h2.setCell (p:=⟨w.heap.size+1,1,none⟩) (by simp) _).setCell (p:=⟨w.heap.size+1,2,none⟩) (by simp) _).setCell (p:=⟨w.heap.size,0,none⟩) (Zhe _) _).setCell (p:=⟨w.heap.size,1,none⟩) (Zhe _) _).setCell (p:=⟨w.heap.size,2,none⟩) (Zhe _) _).setCell (p:=⟨w.heap.size,3,none⟩) (Zhe _) _).setCell (p:=⟨w.heap.size,4,none⟩) (Zhe _) _
 ·rw[if_neg h0]at he;have HE:=ZhF he;clear he;have h0':((unpk x).2.2=0)=False:=Zl6 h0;go_enter Sol.func126,Tryz.ntmps126
  go_wp2_with (first
   |(go_at_call 29;refine(WA hu _).mono ?_;rintro e w1 ⟨rfl,hb1⟩;have HB1:=ZhF hb1;have d0:=HC.out w1 (((((Zi3 _ w).alloc (Zhe _) _).alloc (by simp) _).trans (hb1.mono (by simp;omega))));clear hb1)
   |(go_at_call 47;refine(UJ hu _).mono ?_;rintro e w2 ⟨rfl,hb2⟩;have HB2:=ZhF hb2;clear hb2))
  refine⟨rfl,HE.out.symm,?_⟩;have h1:=(((Zi3 _ w).alloc (Zhe _) (.cells #[.int .i64 0,.int .i64 0,.int .i64 0,.bool false,.int .u64 0] 68)).alloc (by simp) (.cells #[.int .i64 a,.int .i64 0,.int .i64 0,.bool false,.int .u64 0] 68)).trans (HB1.out.mono (by simp;omega));exact(h1.trans (HB2.out.mono (by have:=h1.size;omega))).alloc (by have:=h1.size;have:=HB2.out.size;omega) _
def UO(w:World)(vs:Array Value)(ws:List Int)(g o cap:Nat)(hw:Words w ws g o cap)(hg:g<w.heap.size)(a:Nat)(x:Int)(hx:ws[a]?=some x)(hna:(adr x).2=0)
  (hcall:∀W,Below w.heap.size w W->Calls Sol.prog 121 vs W λe W'=>e=.panicked (XD 3)/\Below W.heap.size W W'):
  Calls Sol.prog 126 #[.slice (some ⟨g,o,none⟩) ws.length cap,.int .i64 a,.func (.func 121) #[] vs] w λe w'=>e=.panicked (XD 3)/\Below w.heap.size w w':=by
 have hl:=hw.len;have hc:=hw.le;have hm:=hw.cap;have hlt:a<ws.length:=(Zh9.1 hx).1;have hlt':(a:Int)<ws.length:=by omega
 have hu:U64 x:=hw.u64 x (Zhg hx);have c0:=hw.at_ a x hx;have hfn:=λW=>Z6f W 121 vs;have HX:=ZhF hcall;clear hw hx hcall;go_enter Sol.func126,Tryz.ntmps126
 go_wp2_with (first
  | (go_at_call 29;refine(WA hu _).mono ?_;rintro e w1 ⟨rfl,hb1⟩
     have hB:Below w.heap.size w w1:=((((Zi3 _ w).alloc (Zhe _) _).alloc (by simp) _).trans (hb1.mono (by simp;omega)));have r1:w1.heap[w.heap.size+1]?=some (.cells #[.int .i64 a,.int .i64 0,.int .i64 0,.bool false,.int .u64 0] 68 (0,0)):=(hb1.block _ (by simp)).trans (by have:=ZhX (w.alloc (.cells #[.int .i64 0,.int .i64 0,.int .i64 0,.bool false,.int .u64 0] 68)) (.cells #[.int .i64 a,.int .i64 0,.int .i64 0,.bool false,.int .u64 0] 68);simp_all);have p3:w1.cell? ⟨w.heap.size+1,3,none⟩=some (.bool false):=by rw[Zhs _ _ _ _ _ _ r1];rfl
     have p4:w1.cell? ⟨w.heap.size+1,4,none⟩=some (.int .u64 0):=by rw[Zhs _ _ _ _ _ _ r1];rfl
     have q3:=YX (o:=3) r1;have q4:=YX (o:=4) r1;have HB:=ZhF hB;clear hb1 hB r1)
  |(go_at_call 121;refine(HX.out _ ?_).mono ?_;rotate_left;rintro e w2 ⟨rfl,hb2⟩;have HB2:=ZhF hb2;clear hb2))
 case refine_1=>exact(HB.out.setCell (p:=⟨w.heap.size+1,3,none⟩) (by simp) _).setCell (p:=⟨w.heap.size+1,4,none⟩) (by simp) _
 case refine_2=>
  have h2:=(HB.out.setCell (p:=⟨w.heap.size+1,3,none⟩) (by simp) (.bool true)).setCell (p:=⟨w.heap.size+1,4,none⟩) (by simp) (.int .u64 (adr x).1);exact⟨rfl,rfl,h2.trans (HB2.out.mono h2.size)⟩
theorem Z5q{w W:World}{r:Option Nat}(h:w.grownBy W r){p:Addr}(hp:w.heap.size<=p.block)(u:Value):w.grownBy (W.setCell p u) r:=
 ⟨h.os,h.tape,h.output,by simpa[World.setCell]using h.size,λk hk hne=>(ZhP _ _ _ _ (by omega)).trans (h.block k hk hne)⟩
def LM(w:World)(vs:Array Value)(ws:List Int)(g o cap:Nat)(hw:Words w ws g o cap)(hg:g<w.heap.size)(a:Nat)(x:Int)(hx:ws[a]?=some x)(hna:(adr x).2=0)
  (bt:Nat) (O:Obj) (s p:Int) (hbt:bt<w.heap.size)
  (hcall:∀W,Below w.heap.size w W->Calls Sol.prog 121 vs W λe W'=>e=.returned (.agg #[.int .i64 s,.int .i64 p])/\W.grownBy W' (some bt)/\W'.heap[bt]?=some O):
  Calls Sol.prog 126 #[.slice (some ⟨g,o,none⟩) ws.length cap,.int .i64 a,.func (.func 121) #[] vs] w λe w'=>e=.returned (obA ⟨a,s,p,true,(adr x).1⟩)/\w.grownBy w' (some bt)/\w'.heap[bt]?=some O:=by
 have hl:=hw.len;have hc:=hw.le;have hm:=hw.cap;have hlt:a<ws.length:=(Zh9.1 hx).1;have hlt':(a:Int)<ws.length:=by omega
 have hu:U64 x:=hw.u64 x (Zhg hx);have c0:=hw.at_ a x hx;have hfn:=λW=>Z6f W 121 vs;have HX:=ZhF hcall;clear hw hx hcall;go_enter Sol.func126,Tryz.ntmps126
 go_wp2_with (first
  | (go_at_call 29;refine(WA hu _).mono ?_;rintro e w1 ⟨rfl,hb1⟩
     have hB:Below w.heap.size w w1:=((((Zi3 _ w).alloc (Zhe _) _).alloc (by simp) _).trans (hb1.mono (by simp;omega)));have r1:w1.heap[w.heap.size+1]?=some (.cells #[.int .i64 a,.int .i64 0,.int .i64 0,.bool false,.int .u64 0] 68 (0,0)):=(hb1.block _ (by simp)).trans (by have:=ZhX (w.alloc (.cells #[.int .i64 0,.int .i64 0,.int .i64 0,.bool false,.int .u64 0] 68)) (.cells #[.int .i64 a,.int .i64 0,.int .i64 0,.bool false,.int .u64 0] 68);simp_all);have p3:w1.cell? ⟨w.heap.size+1,3,none⟩=some (.bool false):=by rw[Zhs _ _ _ _ _ _ r1];rfl
     have p4:w1.cell? ⟨w.heap.size+1,4,none⟩=some (.int .u64 0):=by rw[Zhs _ _ _ _ _ _ r1];rfl
     have q3:=YX (o:=3) r1;have q4:=YX (o:=4) r1;have r0:w1.heap[w.heap.size]?=some (.cells #[.int .i64 0,.int .i64 0,.int .i64 0,.bool false,.int .u64 0] 68 (0,0)):=(hb1.block _ (by simp;omega)).trans ((Zif _ _ _ (by simp)).trans (ZhX w _));have HR:=ZhF (And.intro r0 r1);have HB:=ZhF hB;clear hb1 hB r0 r1)
  | (go_at_call 121;refine(HX.out _ ?_).mono ?_;rotate_left;rintro e w2 ⟨rfl,hb2,ho2⟩
     have HB2:=ZhF hb2;have HO2:=ZhF ho2;have z1:w2.heap[w.heap.size+1]?=some (.cells #[.int .i64 a,.int .i64 0,.int .i64 0,.bool true,.int .u64 (adr x).1] 68 (0,0)):=(hb2.block _ (by simp[World.setCell];exact ZH HR.out.2) (by simp;omega)).trans (by simp[World.setCell,ZiL,HR.out.2]);have z0:w2.heap[w.heap.size]?=some (.cells #[.int .i64 0,.int .i64 0,.int .i64 0,.bool false,.int .u64 0] 68 (0,0)):=(hb2.block _ (by simp[World.setCell];exact ZH HR.out.1) (by simp;omega)).trans (by simp[World.setCell,ZiL,HR.out.1]);have s0:w2.cell? ⟨w.heap.size+1,0,none⟩=some (.int .i64 a):=by rw[Zhs _ _ _ _ _ _ z1];rfl
     have s1:w2.cell? ⟨w.heap.size+1,1,none⟩=some (.int .i64 0):=by rw[Zhs _ _ _ _ _ _ z1];rfl
     have s2:w2.cell? ⟨w.heap.size+1,2,none⟩=some (.int .i64 0):=by rw[Zhs _ _ _ _ _ _ z1];rfl
     have s3:w2.cell? ⟨w.heap.size+1,3,none⟩=some (.bool true):=by rw[Zhs _ _ _ _ _ _ z1];rfl
     have s4:w2.cell? ⟨w.heap.size+1,4,none⟩=some (.int .u64 (adr x).1):=by rw[Zhs _ _ _ _ _ _ z1];rfl
     have t0:w2.cell? ⟨w.heap.size,0,none⟩=some (.int .i64 0):=by rw[Zhs _ _ _ _ _ _ z0];rfl
     have t1:w2.cell? ⟨w.heap.size,1,none⟩=some (.int .i64 0):=by rw[Zhs _ _ _ _ _ _ z0];rfl
     have t2:w2.cell? ⟨w.heap.size,2,none⟩=some (.int .i64 0):=by rw[Zhs _ _ _ _ _ _ z0];rfl
     have t3:w2.cell? ⟨w.heap.size,3,none⟩=some (.bool false):=by rw[Zhs _ _ _ _ _ _ z0];rfl
     have t4:w2.cell? ⟨w.heap.size,4,none⟩=some (.int .u64 0):=by rw[Zhs _ _ _ _ _ _ z0];rfl
     have u1:=YX (o:=1) z1;have u2:=YX (o:=2) z1;have v0:=YX (o:=0) z0;have v1:=YX (o:=1) z0;have v2:=YX (o:=2) z0;have v3:=YX (o:=3) z0;have v4:=YX (o:=4) z0;clear hb2 ho2 z0 z1))
 case refine_1=>exact(HB.out.setCell (p:=⟨w.heap.size+1,3,none⟩) (by simp) _).setCell (p:=⟨w.heap.size+1,4,none⟩) (by simp) _
 next=>
  have h2:=(HB.out.setCell (p:=⟨w.heap.size+1,3,none⟩) (by simp) (.bool true)).setCell (p:=⟨w.heap.size+1,4,none⟩) (by simp) (.int .u64 (adr x).1);have hg2:w.grownBy w2 (some bt):=⟨HB2.out.os.trans h2.os,HB2.out.tape.trans h2.tape,HB2.out.output.trans h2.output,Zht h2.size HB2.out.size,λk hk hne=>(HB2.out.block k (Zhj hk h2.size) hne).trans (h2.block k hk)⟩;have k1:bt≠w.heap.size+1:=by omega
  have k2:bt≠w.heap.size:=by omega
  clear h2;refine Zj7 (v:=obA ⟨a,s,p,true,(adr x).1⟩) ?_ rfl ⟨rfl,?_,?_⟩
  ·simp[results,Tryz.results126,go_sem,obA,t0,t1,t2,t3,t4]
  ·grind [Z5q]
  ·rw[ZhP _ _ _ _ k2,ZhP _ _ _ _ k2,ZhP _ _ _ _ k2,ZhP _ _ _ _ k2,ZhP _ _ _ _ k2,ZhP _ _ _ _ k1,ZhP _ _ _ _ k1];exact HO2.out
end Vm
namespace Vm
open Go Go.Proofs Go.RowKit Go.Shelf
def rowB(W:World)(bl:Nat):Option Nat:=(W.cell? ⟨bl,0,none⟩).bind Value.ownBlock
structure KpW (bl base:Nat) (A B:World):Prop where
 size:A.heap.size<=B.heap.size
 same:∀k o,A.heap[k]?=some o->o.isCells=true->k≠bl->(k<base\/rowB A bl≠some k)->B.heap[k]?=some o
 row:∀k,k<A.heap.size->rowB B bl=some k->rowB A bl=some k
theorem KpW.trans{bl base:Nat}{A B C:World}(h:KpW bl base A B)(k:KpW bl base B C):KpW bl base A C:=
 ⟨Zht h.size k.size,λi o hi hc hn hr=>k.same i o (h.same i o hi hc hn hr) hc hn (hr.imp id λhne e=>hne (h.row i (ZH hi) e)),λi hi hr=>h.row i hi (k.row i (Zhj hi h.size) hr)⟩
def KpW.put{bl base:Nat}{W:World}{l:Nat}{o:Obj}(o':Obj)(hl:W.heap[l]?=some o)(ho:o.isCells=false)(hne:bl≠l):KpW bl base W (W.putObj l o'):=by
 have hcell:(W.putObj l o').cell? ⟨bl,0,none⟩=W.cell? ⟨bl,0,none⟩:=Zi7 (Zig (by omega));refine⟨(Zki W l o').size,λk o2 hk hk2 _ _=> ?_,λk _ hr=> ?_⟩
 ·grind [World.putObj_heap_other,trans]
 simp_all[rowB]
def Z7y(ws:List Int)(g o cap:Nat)(gv:Value)(shs:List (Int×Int))(old:Bool)(bt:Option Nat)(K:Nat->World->Prop):Prop:=
 ∀(W:World) (a t:Nat) (x:Int),Words W ws g o cap->g<W.heap.size->K t W->ws[a]?=some x->
  Calls Sol.prog 126 #[.slice (some ⟨g,o,none⟩) ws.length cap,.int .i64 a,gv] W λe W'=>W.grownBy W' bt/\match objR shs old a t x with
   |some (ob,t')=>e=.returned (obA ob)/\K t' W'
   |none=>e=.panicked (XD 3)
def endS(ws:List Int)(shs:List (Int×Int))(old:Bool)(K:Nat->World->Prop)(xs:List Ob)(W:World):Prop:=
 ∃t,K t W/\Zp ws shs old=(if t<shs.length then([],3)else(xs,0))
def endP(ws:List Int)(shs:List (Int×Int))(old:Bool)(chain:List PanicEntry)(pre:List Ob)(W:World):Prop:=
 ∃e,(e=2\/e=3)/\chain=XD e/\Zp ws shs old=([],e)
structure Stat6 (ws:List Int) (g o cap:Nat) (sv:Value) (bw bg base bl:Nat) (bt:Option Nat) (gv:Value) (W:World):Prop where
 words:Words W ws g o cap
 sv_:sv=.slice (some ⟨g,o,none⟩) ws.length cap\/(ws=[]/\∃a c,sv=.slice a 0 c)
 hbw:W.heap[bw]?=some (.cells #[sv] 23 (0,0))
 hbg:W.heap[bg]?=some (.cells #[gv] 183 (0,0))
 gb:ws≠[]->∃ob,W.heap[g]?=some ob/\ob.isCells=true
 lt:g<base/\bw<base/\bg<base/\base<=W.heap.size
 ne:g≠bl/\bw≠bl/\bg≠bl
 nt:some g≠bt/\some bw≠bt/\some bg≠bt
section
variable {ws:List Int}{g o cap bw bg base bl:Nat}{bt:Option Nat}{sv gv:Value}{W W':World}
def Stat6.of(h:Stat6 ws g o cap sv bw bg base bl bt gv W)(hs:W.heap.size<=W'.heap.size)(hb:∀k ob,W.heap[k]?=some ob->ob.isCells=true->k<base->k≠bl->some k≠bt->W'.heap[k]?=some ob):Stat6 ws g o cap sv bw bg base bl bt gv W':=by
 refine⟨⟨λi x hx=> ?_,h.words.le,h.words.cap,h.words.len,h.words.u64⟩,h.sv_,hb _ _ h.hbw rfl h.lt.2.1 h.ne.2.1 h.nt.2.1,hb _ _ h.hbg rfl h.lt.2.2.1 h.ne.2.2 h.nt.2.2,λhn=> ?_,⟨h.lt.1,h.lt.2.1,h.lt.2.2.1,Zht h.lt.2.2.2 hs⟩,h.ne,h.nt⟩
 ·have hn:ws≠[]:=λe=>by simp_all
  obtain⟨ob,ho,hc⟩:=h.gb hn;have h2:=hb _ _ ho hc h.lt.1 h.ne.1 h.nt.1;rw[<-h.words.at_ i x hx]
  grind [World.cell?_of_block]
 ·obtain⟨ob,ho,hc⟩:=h.gb hn;exact⟨ob,hb _ _ ho hc h.lt.1 h.ne.1 h.nt.1,hc⟩
def Stat6.grown(h:Stat6 ws g o cap sv bw bg base bl bt gv W)(hg:W.grownBy W' bt):Stat6 ws g o cap sv bw bg base bl bt gv W':=
 h.of hg.size λk ob hk _ _ _ hn=>(hg.block k (ZH hk) hn).trans hk
def Stat6.kp(h:Stat6 ws g o cap sv bw bg base bl bt gv W)(hk:KpW bl base W W'):Stat6 ws g o cap sv bw bg base bl bt gv W':=
 h.of hk.size λk ob hk1 hc hlt hne _=>hk.same k ob hk1 hc hne (.inl hlt)
end
def Vg{W W':World}(hb:Below W.heap.size W W')(r:Option Nat):W.grownBy W' r:=⟨hb.os,hb.tape,hb.output,hb.size,λk hk _=>hb.block k hk⟩
def Za8{ws:List Int}{g o cap:Nat}:Z7y ws g o cap .nilFunc [] false none (λt _=>t=0):=by
 intro W a t x hw hg hK hx;refine(Z4R W ws g o cap hw hg a x hx).mono ?_;rintro e W' ⟨rfl,hb⟩;refine⟨Vg hb none,?_⟩;unfold objR begE
 grind
def Shps.grown{W W':World}{shs:List (Int×Int)}{bs:Nat}{v:Value}{r:Option Nat}(h:Shps W shs bs v)(hg:W.grownBy W' r)(hbs:some bs≠r)(hgb:shs≠[]->∀g o cap,v=.slice (some ⟨g,o,none⟩) shs.length cap->some g≠r):Shps W' shs bs v:=by
 refine⟨(hg.block _ (ZH h.box) hbs).trans h.box,?_⟩;obtain⟨g,o,cap,rfl,h1,h2,h3,h4⟩|⟨a,cap,rfl,rfl⟩:=h.val
 ·refine .inl ⟨g,o,cap,rfl,h1,h2,Zhj h3 hg.size,λi x hx=> ?_⟩;have hb:=hg.block g h3 (hgb (λe=>by simp_all) _ _ _ rfl)
  grind [World.cell?_of_block,trans]
 simp
def KOld(shs:List (Int×Int))(bt bs:Nat)(v:Value)(t:Nat)(W:World):Prop:=W.heap[bt]?=some (.cells #[.int .i64 t] 3 (0,0))/\Shps W shs bs v/\t<=shs.length
def Za9{ws:List Int}{g o cap:Nat}{shs:List (Int×Int)}{bt bs:Nat}{v:Value}(hl:shs.length<=1000000)(hbs:bs≠bt)(hgb:shs≠[]->∀g o cap,v=.slice (some ⟨g,o,none⟩) shs.length cap->g≠bt):
  Z7y ws g o cap (.func (.func 121) #[] #[.pointer (some ⟨bt,0,none⟩),.pointer (some ⟨bs,0,none⟩)]) shs true (some bt) (KOld shs bt bs v):=by
 intro W a t x hw hg hK hx;obtain⟨hb,hs,ht⟩:=hK;have hbs':some bs≠some bt:=λe=>hbs (by grind);have hgb':shs≠[]->∀g o cap,v=.slice (some ⟨g,o,none⟩) shs.length cap->some g≠some bt:=λhn g o cap e e2=>hgb hn g o cap e (by grind);have hsB:∀W',Below W.heap.size W W'->Shps W' shs bs v:=λW' hB=>hs.grown (Vg hB none) (by simp) (λ_ _ _ _ _=>by simp);have hbB:∀W',Below W.heap.size W W'->W'.heap[bt]?=some (.cells #[.int .i64 t] 3 (0,0)):=λW' hB=>(hB.block _ (ZH hb)).trans hb;by_cases ha:(adr x).2=0
 ·unfold objR;rw[if_pos ⟨rfl,ha⟩];cases hxs:shs[t]? with
  |none=>
   have:t=shs.length:=by have:=ZjG.1 hxs;omega
   subst this;refine(UO W _ ws g o cap hw hg a x hx ha λW' hB=>Z83 W' shs bt bs v hl (hsB W' hB) (hbB W' hB)).mono ?_;rintro e W' ⟨rfl,hB⟩;exact⟨Vg hB _,rfl⟩
  |some s=>
   simp only;cases hok:Zm s.1 s.2
   ·refine(UO W _ ws g o cap hw hg a x hx ha λW' hB=>Z82 W' shs bt bs t v s hl (hsB W' hB) (hbB W' hB) hxs hok).mono ?_;rintro e W' ⟨rfl,hB⟩;exact⟨Vg hB _,by simp⟩
   ·refine(LM W _ ws g o cap hw hg a x hx ha bt _ s.1 s.2 (ZH hb) λW' hB=>Zam W' shs bt bs t v s hl (hsB W' hB) (hbB W' hB) hxs hok hbs (hgb (λe=>by simp_all))).mono ?_;rintro e W' ⟨rfl,hG,hO⟩;have hlt:=(Zh9.1 hxs).1;refine⟨hG,?_⟩;simp only[ZhR];exact⟨trivial,hO,hs.grown hG hbs' hgb',by omega⟩
 ·refine(LN W _ _ ws g o cap hw hg a x hx ha).mono ?_;rintro e W' ⟨rfl,hB⟩;refine⟨Vg hB _,?_⟩;unfold objR begE;rw[if_neg (λhc=>ha hc.2)];by_cases hu:(unpk x).2.2=0
  ·simp only[hu,ZhR];exact⟨trivial,hbB W' hB,hsB W' hB,ht⟩
  simp_all
end Vm
end
section
namespace Vm
open Go Go.Proofs Go.RowKit Go.Shelf
def ZbF(bl:Nat)(W:World):Prop:=∀k,rowB W bl=some k->k<W.heap.size
def J4{A B C:World}{r:Option Nat}(h:A.grownBy B r)(k:B.grownBy C r):A.grownBy C r:=
 ⟨k.os.trans h.os,k.tape.trans h.tape,k.output.trans h.output,Zht h.size k.size,λi hi hn=>(k.block i (Zhj hi h.size) hn).trans (h.block i hi hn)⟩
def Z4B(ws:List Int)(shs:List (Int×Int))(old:Bool){a t t':Nat}{x:Int}{ob:Ob}(hx:ws[a]?=some x)(ho:objR shs old a t x=some (ob,t')){f:Nat}{pre:List Ob}:
  YQ ws shs old (f+1) a t pre=if(ws.length:Int)<a+1+ob.size then([],2)else if ZN ((ws.drop (a+1)).take ob.size.toNat) ob.gone ob.ptrs 0=false then([],3)else YQ ws shs old f (a+1+ob.size.toNat) t' (pre++[ob]):=by
 simp_all[YQ]
def Z56(n:Nat){w:World}{ws:List Int}{g o cap bw bg base bl:Nat}{bt:Option Nat}{sv gv:Value}{shs:List (Int×Int)}{old:Bool}{K:Nat->World->Prop}(hst:Stat6 ws g o cap sv bw bg base bl bt gv w)
  (hbl:bl<base) (hltb:some bl≠bt) (hbeg:Z7y ws g o cap gv shs old bt K) (hK0:K 0 w) (hKB:∀t W W',K t W->Below W.heap.size W W'->K t W') (hKK:∀t W W',K t W->KpW bl base W W'->K t W'):
  SeqP Fence.wide n Sol.prog 125 #[.pointer (some ⟨bw,0,none⟩),.pointer (some ⟨bg,0,none⟩)] (λob:Ob=> #[obA ob]) (KpW bl base) (endS ws shs old K) (endP ws shs old) ws.length bt (ZbF bl) w:=by
 intro l J W hW hJx hJ hY h0;refine callsIn_of_wp Sol.func125 rfl trivial ?_ rfl;simp only[Tryz.ntmps125,ZiE,Zib,ZiO,Nat.reduceAdd,Nat.reduceSub,ZjE,ZjF,Zk1,ZjL,Zir,Zij];have HS0:=ZhF (hst.grown (Vg hW bt));have HK0:=ZhF (hKB 0 w W hK0 hW);have HJ0:=ZhF h0;clear h0
 gi_wp2
 gi_loopw [4] (λp wr=>∃(a t f:Nat) (pre:List Ob),p=.int .i64 a/\Hid (J pre wr/\K t wr/\Stat6 ws g o cap sv bw bg base bl bt gv wr/\ws.length<f+a/\0<f/\a<=ws.length/\pre.length<=a/\Zp ws shs old=YQ ws shs old f a t pre))
  (λp _=>ws.length- (intOf p).toNat)
 case atStart=>exact⟨0,0,ws.length+1,[],rfl,ZhF ⟨HJ0.out,HK0.out,HS0.out,by omega,by omega,by omega,by simp,rfl⟩⟩
 case round=>
  obtain⟨a,t,f,pre,rfl,HI⟩:=hrel;have hst':=HI.out.2.2.1;have hsv:=hst'.sv_;have c1:wr.cell? ⟨bw,0,none⟩=some sv:=by rw[Zhs _ _ _ _ _ _ hst'.hbw];rfl
  have c2:wr.cell? ⟨bg,0,none⟩=some gv:=by rw[Zhs _ _ _ _ _ _ hst'.hbg];rfl
  have hlen:=hst'.words.len;clear hst';by_cases hlt:a<ws.length
  ·obtain⟨x,hx⟩:∃x,ws[a]?=some x:=⟨_,Zh8 hlt⟩;obtain rfl:sv=.slice (some ⟨g,o,none⟩) ws.length cap:=hsv.resolve_right (λh=>by simp_all);clear hsv;have hlt':((a:Int)<ws.length)=True:=eq_true (by omega);have hb:=hbeg wr a t x HI.out.2.2.1.words (by have:=HI.out.2.2.1.lt;omega) HI.out.2.1 hx;cases ho:objR shs old a t x with
   |none=>
    rw[ho]at hb;have HX:=ZhF hb;clear hb
    gi_wp2
    refine⟨trivial,λh=>(by cases h),(Zks.2 HX.out).mono ?_⟩;rintro e w1 ⟨hg1,rfl⟩;have HG1:=ZhF hg1;clear hg1
    gi_wp2
    refine⟨rfl,.inr ⟨_,pre,rfl,⟨3,.inr rfl,rfl,?_⟩,hJ _ _ _ _ HI.out.1 HG1.out (λr e=>e.symm)⟩⟩;obtain⟨_,_,_,hf,hf0,_,_,hR⟩:=HI.out;cases f with
    |zero=>omega
    |succ f=>
     simp_all[YQ]
   |some q=>
    obtain⟨ob,t'⟩:=q;rw[ho]at hb;have HX:=ZhF hb;clear hb;obtain⟨hsh,hat⟩:=Us ho
    gi_wp2
    refine⟨trivial,λh=>(by cases h),(Zks.2 HX.out).mono ?_⟩;rintro e w1 ⟨hg1,rfl,hk1⟩;have HG1:=ZhF hg1;have HK1:=ZhF hk1;have hS1:=HI.out.2.2.1.grown hg1;have HS1:=ZhF hS1
    have e1:∀O,(w1.alloc O).cell? ⟨bw,0,none⟩=some (.slice (some ⟨g,o,none⟩) ws.length cap):=λO=>by
     rw[ZiR _ _ _ (ZH hS1.hbw),Zhs _ _ _ _ _ _ hS1.hbw];rfl
    have hgO:wr.grownBy (w1.alloc (.cells #[.int .i64 a,.int .i64 ob.size,.int .i64 ob.ptrs,.bool ob.gone,.int .u64 ob.target] 68)) bt:=J4 hg1 (Ziw _ _ _);have hSO:=ZhF (HI.out.2.2.1.grown hgO);have hh:=Z5s (w1.alloc (.cells #[.int .i64 a,.int .i64 ob.size,.int .i64 ob.ptrs,.bool ob.gone,.int .u64 ob.target] 68)) ws g o cap hSO.out.words (by have:=hSO.out.lt;omega) ob a hat hlt hsh;unfold obA at hh;rw[hat]at hh;have HGO:=ZhF hgO;have HHold:=ZhF hh;have hstep:∀f pre,YQ ws shs old (f+1) a t pre=_:=λf pre=>Z4B ws shs old hx ho (f:=f) (pre:=pre);have HST:=ZhF hstep;clear hg1 hk1 hS1 hgO hh hstep hx;unfold obA
    gi_wp2
    refine⟨trivial,λh=>(by cases h),(Zks.2 HHold.out).mono ?_⟩;rintro e w2 ⟨rfl,hb2⟩;have hG2:wr.grownBy w2 bt:=J4 HGO.out (Vg hb2 bt);have HG2:=ZhF hG2;have HB2:=ZhF hb2;unfold Z85;by_cases h1:(ws.length:Int)<ob.at_+1+ob.size
    ·rw[if_pos h1];rw[hat]at h1;clear hb2 hG2
     gi_wp2
     refine⟨rfl,.inr ⟨_,pre,rfl,⟨2,.inl rfl,rfl,?_⟩,hJ _ _ _ _ HI.out.1 HG2.out (λr e=>e.symm)⟩⟩;obtain⟨_,_,_,hf,hf0,_,_,hR⟩:=HI.out;obtain⟨f,rfl⟩:∃f',f=f'+1:=⟨f-1,by omega⟩;rw[hR,HST.out,if_pos h1]
    ·rw[if_neg h1];by_cases h2:ZN ((ws.drop (ob.at_.toNat+1)).take ob.size.toNat) ob.gone ob.ptrs 0=false
     ·rw[if_pos h2];rw[hat]at h1 h2;clear hb2 hG2
      gi_wp2
      refine⟨rfl,.inr ⟨_,pre,rfl,⟨3,.inr rfl,rfl,?_⟩,hJ _ _ _ _ HI.out.1 HG2.out (λr e=>e.symm)⟩⟩;obtain⟨_,_,_,hf,hf0,_,_,hR⟩:=HI.out;obtain⟨f,rfl⟩:∃f',f=f'+1:=⟨f-1,by omega⟩;rw[hR,HST.out,if_neg (by omega)];simp_all
     ·rw[if_neg h2];rw[hat]at h1 h2;simp only[ZhV]at h2;have HH2:=ZhF (And.intro h1 h2);have hJ2:=hJ _ _ _ _ HI.out.1 hG2 (λr e=>e.symm);have HJ2:=ZhF hJ2;have HS2:=ZhF (HI.out.2.2.1.grown hG2);have hbx:w2.heap[w1.heap.size]?=some (.cells #[.int .i64 a,.int .i64 ob.size,.int .i64 ob.ptrs,.bool ob.gone,.int .u64 ob.target] 68 (0,0)):=(hb2.block _ (by simp)).trans (ZhX w1 _);have HBX:=ZhF hbx;obtain⟨fn,tmps,assign,body,hy,hR⟩:=hY pre ob w2 hJ2 (by have:=HI.out.2.2.2.2.2.2.1;omega);unfold obA at hy;rw[hat]at hy;have d0:w2.cell? ⟨w1.heap.size,0,none⟩=some (.int .i64 a):=by rw[Zhs _ _ _ _ _ _ hbx];rfl
      have d1:w2.cell? ⟨w1.heap.size,1,none⟩=some (.int .i64 ob.size):=by rw[Zhs _ _ _ _ _ _ hbx];rfl
      have d2:w2.cell? ⟨w1.heap.size,2,none⟩=some (.int .i64 ob.ptrs):=by rw[Zhs _ _ _ _ _ _ hbx];rfl
      have d3:w2.cell? ⟨w1.heap.size,3,none⟩=some (.bool ob.gone):=by rw[Zhs _ _ _ _ _ _ hbx];rfl
      have d4:w2.cell? ⟨w1.heap.size,4,none⟩=some (.int .u64 ob.target):=by rw[Zhs _ _ _ _ _ _ hbx];rfl
      clear hb2 hG2 hJ2 hbx
      gi_wp2
      refine⟨λh=>(by cases h),hR.mono ?_⟩;rintro e W3 ⟨rfl,hJ3,hk3⟩;have HJ3:=ZhF hJ3;have HK3:=ZhF hk3
      have hrow2:rowB w2 bl≠some w1.heap.size:=by
       intro e;have hlb:bl<wr.heap.size:=by have:=HI.out.2.2.1.lt.2.2.2;omega
       have:rowB w2 bl=rowB wr bl:=by
        unfold rowB;rw[Zi7 (a:=⟨bl,0,none⟩) (HG2.out.block bl hlb hltb)]
       rw[this]at e;have:=hJx _ _ HI.out.1 _ e;have:=HG1.out.size;omega
      have hbx3:=hk3.same _ _ HBX.out rfl (by have:=HI.out.2.2.1.lt.2.2.2;have:=HG1.out.size;omega) (.inr hrow2);have f1:W3.cell? ⟨w1.heap.size,1,none⟩=some (.int .i64 ob.size):=by rw[Zhs _ _ _ _ _ _ hbx3];rfl
      have hS3:=HS2.out.kp hk3;have hK2:K t' w2:=hKB _ _ _ HK1.out (((Zi3 _ _).alloc (Zhe _) _).trans (HB2.out.mono (by simp)));have hK3:=hKK _ _ _ hK2 hk3;have HS3:=ZhF (And.intro hS3 hK3);obtain⟨m,hm⟩:∃m:Nat,ob.size=m:=⟨ob.size.toNat,by have:=(Zb.1 hsh).1;omega⟩;rw[hm]at f1;have hm5:(m:Int)<=255:=by have:=(Zb.1 hsh);omega
      have q1:IntKind.i64.wrap (1+(m:Int))=((1+m:Nat):Int):=by rw[Z4 _ (by omega) (by omega)];omega
      have q2:IntKind.i64.wrap ((a:Int)+((1+m:Nat):Int))=((a+(1+m):Nat):Int):=by rw[Z4 _ (by omega) (by omega)];omega
      clear hJ3 hk3 hbx3 hS3 hK2 hK3 hrow2;clear h2
      gi_wp2
      obtain⟨_,_,_,hf,hf0,hal,hpl,hR⟩:=HI.out;obtain⟨f,rfl⟩:∃f',f=f'+1:=⟨f-1,by omega⟩;rw[HST.out,if_neg (by omega),if_neg HH2.out.2]at hR;have hle:a+1+m<=ws.length:=by omega
      refine⟨⟨a+(1+m),t',f,pre++[ob],by simp,ZhF ⟨HJ3.out,HS3.out.2,HS3.out.1,by omega,by omega,by omega,by simp;omega,?_⟩⟩,by grind [intOf]⟩
      grind
  ·have hnlt:((a:Int)<ws.length)=False:=Zl6 (by omega)
   have HE:Hid (endS ws shs old K pre wr):=ZhF (by
    obtain⟨_,hK,_,hf,hf0,_,_,hR⟩:=HI.out;refine⟨t,hK,?_⟩;cases f with
    |zero=>omega
    |succ f=>
     simp_all[YQ,Zih])
   obtain⟨sa,sc,rfl⟩:∃sa sc,sv=.slice sa ws.length sc:=by
    grind
   clear hsv
   gi_wp2
   go_end0
   exact .inl ⟨_,pre,rfl,HE.out,HI.out.1⟩
end Vm
namespace Vm
open Go Go.Proofs Go.RowKit Go.Shelf
def Z57(w:World)(sv gv:Value)(hs:∃a n c,sv=.slice a n c)(hg:gv=.nilFunc\/∃f vs,gv=.func (.func f) #[] vs):
  Calls Sol.prog 124 #[sv,gv] w λe w'=>e=.returned (.func (.func 125) #[] #[.pointer (some ⟨w.heap.size,0,none⟩),.pointer (some ⟨w.heap.size+1,0,none⟩)])/\
   w'=(w.alloc (.cells #[sv] 23)).alloc (.cells #[gv] 183):=by
 have hmf:∀(fn:Go.Fn) (first cap:Array Value) (w:World),(Instr.makeFunc fn first cap).run Sol.prog w=.ok (.func fn first cap) w:=λ_ _ _ _=>rfl;obtain⟨a,n,c,rfl⟩:=hs;obtain rfl|⟨f,vs,rfl⟩:=hg
 ·go_enter Sol.func124,Tryz.ntmps124;go_wp2;exact Zj7 (results_tmp rfl _ _ _) rfl ⟨rfl,rfl⟩
 ·go_enter Sol.func124,Tryz.ntmps124;go_wp2;exact Zj7 (results_tmp rfl _ _ _) rfl ⟨rfl,rfl⟩
def Zdh(w:World):Sem.run Sol.prog (binOp .neq 20 .nilIface .nilIface) w=.ok (.bool false) w:=by rfl
def Zdi(w:World)(T:TypeId)(v:Value):Sem.run Sol.prog (binOp .neq 20 (.iface T v) .nilIface) w=.ok (.bool true) w:=by rfl
def Zga(w:World)(x:Int):Sem.run Sol.prog (Instr.typeAssert (.iface 182 (.agg #[.int .i64 x])) 20 182 true) w=.ok (.tuple #[.agg #[.int .i64 x],.bool true]) w:=by rfl
def Z3n(n:Nat)(p q:Addr)(w:World):
  CallsDIn Fence.wide n Sol.prog 123 #[.pointer (some p),.pointer (some q)] .returning w λe u' w'=>e=.returned (.tuple #[])/\u'=.returning/\w'=w:=by
 have h1:=Zdh;refine callsDIn_of_wpSIn Sol.func123 rfl trivial λc₀ cs hu=> ?_;simp only[Tryz.ntmps123,ZiE,Zib,ZiO,Nat.reduceAdd,Nat.reduceSub,ZjE,ZjF,Zk1,ZjL,Zir,Zij];apply wpSIn_seq;apply wpSIn_region;simp[wpOpsSIn,go_sem,recoverD,hu,Exit.thenS];refine wpSIn_of_wpIn rfl ?_
 gi_wp2
 cases c₀;simp_all [bodyPostS,results,Tryz.results123]
def QS(n:Nat)(bp bq:Nat)(x:Int)(w:World)(vp vq:Value)(hp:Boxed w bp 84 vp)(hq:Boxed w bq 39 vq)(hne:bp≠bq):
  CallsDIn Fence.wide n Sol.prog 123 #[.pointer (some ⟨bp,0,none⟩),.pointer (some ⟨bq,0,none⟩)] (.panicking (XD x)) w λe u' w'=>
   e=.returned (.tuple #[])/\u'=.panicking [{v:=.iface 182 (.agg #[.int .i64 x]),recovered:=true}]/\
   Boxed w' bp 84 (.slice none 0 0)/\Boxed w' bq 39 (.int .i64 x)/\(w.heap.size<=w'.heap.size/\∀k,k<w.heap.size->k≠bp->k≠bq->w'.heap[k]?=w.heap[k]?)/\w'.os=w.os/\w'.tape=w.tape/\w'.output=w.output:=by
 have h1:=Zdi;have h2:=Zga;have p1:=(hp.alloc (.cells #[.int .i64 x] 182)).cell;have p2:=(hp.alloc (.cells #[.int .i64 x] 182)).frozen;have q1:=(hq.alloc (.cells #[.int .i64 x] 182)).cell;have q2:=(hq.alloc (.cells #[.int .i64 x] 182)).frozen;have p3:=hp.cell;have p4:=hp.frozen;have q3:=hq.cell;have q4:=hq.frozen;have l1:=hp.lt;have l2:=hq.lt;have n1:¬bp=bq:=hne;have n2:¬bq=bp:=λe=>hne e.symm;have n3:¬bp=w.heap.size:=by omega
 have n4:¬w.heap.size=bp:=by omega
 have n5:¬bq=w.heap.size:=by omega
 have n6:¬w.heap.size=bq:=by omega
 have HP:=ZhF (And.intro hp hq);clear hp hq hne;refine callsDIn_of_wpSIn Sol.func123 rfl trivial λc₀ cs hu=> ?_;simp only[Tryz.ntmps123,ZiE,Zib,ZiO,Nat.reduceAdd,Nat.reduceSub,ZjE,ZjF,Zk1,ZjL,Zir,Zij];apply wpSIn_seq;apply wpSIn_region;simp[wpOpsSIn,go_sem,recoverD,hu,XD,Exit.thenS];refine wpSIn_of_wpIn rfl ?_
 gi_wp2
 gi_region
 all_goals gi_wp2
 obtain⟨hp,hq⟩:=HP.out;have b1:Boxed ((w.setCell ⟨bp,0,none⟩ (.slice none 0 0)).setCell ⟨bq,0,none⟩ (.int .i64 x)) bp 84 (.slice none 0 0):=(ZhP _ ⟨bq,0,none⟩ _ bp n1).trans (hp.set _);have b2:Boxed ((w.setCell ⟨bp,0,none⟩ (.slice none 0 0)).setCell ⟨bq,0,none⟩ (.int .i64 x)) bq 39 (.int .i64 x):=Boxed.set _ (show Boxed (w.setCell ⟨bp,0,none⟩ (.slice none 0 0)) bq 39 vq from(ZhP _ ⟨bp,0,none⟩ _ bq n2).trans hq);refine⟨rfl,_,rfl,_,by simp[results,Tryz.results123],rfl,rfl,b1.alloc _,b2.alloc _,⟨?_,λk hk k1 k2=> ?_⟩,rfl,rfl,rfl⟩
 ·simp
 ·show(World.alloc _ _).heap[k]?=_
  grind [Below.heap_alloc,World.setCell,Below.heap_setCell]
end Vm
namespace Vm
open Go Go.Proofs Go.RowKit Go.Shelf
def obC(ob:Ob):List Value:=[.int .i64 ob.at_,.int .i64 ob.size,.int .i64 ob.ptrs,.bool ob.gone,.int .u64 ob.target]
def obsC(l:List Ob):List Value:=l.flatMap obC
def Z6m(l:List Ob)(x:Ob):obsC (l++[x])=obsC l++obC x:=by simp[obsC]
structure WIv (w:World) (bt:Option Nat) (pre:List Ob) (W:World):Prop where
 row:∃v,Boxed W w.heap.size 84 v/\W.ownsRow (w.heap.size+4) 68 5 v pre.length (obsC pre)
 e:Boxed W (w.heap.size+1) 39 (.int .i64 0)
 gr:w.grownBy W bt
 size:w.heap.size+4<=W.heap.size
def Xt{w X Y:World}{bt row:Option Nat}(h:w.grownBy X bt)(k:X.grownBy Y row)(hr:∀r,row=some r->some r=bt\/w.heap.size<=r):w.grownBy Y bt:=
 ⟨k.os.trans h.os,k.tape.trans h.tape,k.output.trans h.output,Zht h.size k.size,λi hi hn=>
  (k.block i (Zhj hi h.size) (λe=>by grind)).trans (h.block i hi hn)⟩
theorem zV{W:World}{b:Nat}{t:TypeId}{v:Value}(h:Boxed W b t v):rowB W b=v.ownBlock:=by
 unfold rowB;rw[h.cell];rfl
def WIv.rowIn{w:World}{bt:Option Nat}{pre:List Ob}{W:World}(h:WIv w bt pre W):ZbF w.heap.size W:=by
 obtain⟨v,hv,hr⟩:=h.row;intro k hk;rw[zV hv]at hk;exact(hr.lt k hk).2
def WIv.own{w:World}{bt:Option Nat}(hbt:∀r,bt=some r->r<w.heap.size):OwnP bt (w.heap.size+4) (WIv w bt):=by
 intro s X Y row h hg hr
 have hne:∀k,w.heap.size<=k->k<w.heap.size+4->some k≠row:=by
  intro k h1 h2 e;obtain e2|⟨e2,_⟩:=hr k e.symm
  ·grind
  ·omega
 obtain⟨v,hv,hrow⟩:=h.row;refine⟨⟨v,hv.kept hg (hne _ (Zhe _) (by omega)),hrow.kept hg ?_⟩,h.e.kept hg (hne _ (by omega) (by omega)),Xt h.gr hg λr e=>(hr r e).imp id λh2=>by omega,Zht h.size hg.size⟩;cases hb:v.ownBlock with
 |none=>simp
 |some b=>
  refine .inr λe=> ?_;have h1:=hrow.lt b hb;obtain e2|⟨_,o,ho,hc⟩:=hr b e.symm
  ·grind
  ·obtain⟨rfl,_⟩|⟨g,cap,cur,rfl,_,hgb,_⟩:=hrow.2
   ·simp[Value.ownBlock]at hb
   ·obtain rfl:g=b:=by grind [Value.ownBlock]
    rw[hgb]at ho;cases ho;cases hc
def WIv.appended{w W w1:World}{bt:Option Nat}{pre:List Ob}{x:Ob}{v v':Value}{tmp:Obj}(hbt:∀r,bt=some r->r<w.heap.size)(h:WIv w bt pre W)(hv:Boxed W w.heap.size 84 v)
  (hrow:W.ownsRow (w.heap.size+4) 68 5 v pre.length (obsC pre)) (hown':w1.ownsRow (w.heap.size+4) 68 5 v' (pre.length+1) (obsC pre++obC x))
  (hgrow:(W.alloc tmp).grownBy w1 v.ownBlock) (hat:v'.ownBlock=v.ownBlock\/v'.ownBlock=some (W.alloc tmp).heap.size):
  Boxed w1 w.heap.size 84 v/\KeepsFrom (w.heap.size+4) W (w1.setCell ⟨w.heap.size,0,none⟩ v')/\KpW w.heap.size (w.heap.size+4) W (w1.setCell ⟨w.heap.size,0,none⟩ v')/\WIv w bt (pre++[x]) (w1.setCell ⟨w.heap.size,0,none⟩ v'):=by
 have hsz:=h.size;obtain⟨hv1,hv2,hr2,hk2,hb2⟩:=hv.appended (by decide) (ja hrow (B':=w.heap.size) (by omega)) (by omega) (Zhe _) (ja hown' (B':=w.heap.size) (by omega)) hgrow;have hlow:∀b,v.ownBlock=some b->w.heap.size+4<=b:=λb hb=>(hrow.lt b hb).1
 have hrow2:(w1.setCell ⟨w.heap.size,0,none⟩ v').ownsRow (w.heap.size+4) 68 5 v' (pre.length+1) (obsC pre++obC x):=hown'.kept (Zk7 w1 w.heap.size v') (by
  cases hb:v'.ownBlock with
  |none=>simp
  |some b=>exact .inr λe=>by have h1:=(hown'.lt b hb).1;grind)
 refine⟨hv1,hk2.from _,⟨hk2.size,λk o hk hc hn hr=> ?_,λk hk e=> ?_⟩,⟨v',hv2,?_⟩,?_,?_,Zht hsz hk2.size⟩
 ·rw[ZhP _ _ _ _ hn,hgrow.block k (by have:=ZH hk;simp;omega) (λe=> ?_),Zif _ _ _ (ZH hk),hk]
  grind [zV,trans]
 ·rw[zV hv2]at e;rw[zV hv];obtain hat|hat:=hat
  ·simp_all
  ·rw[hat]at e;simp at e;omega
 ·simp_all[Zin,Z6m]
 ·have he1:Boxed w1 (w.heap.size+1) 39 (.int .i64 0):=(h.e.alloc tmp).kept hgrow (λe=>by grind);exact(ZhP _ _ _ _ (by simp)).trans he1
 ·refine Xt (Xt (Xt h.gr (Ziw W tmp none) (by simp)) hgrow λr e=>.inr ?_) (Zk7 w1 w.heap.size v') λr e=>.inr ?_
  ·grind
  simp_all
def KpW.alloc{bl base:Nat}{W:World}(o:Obj)(hbl:bl<W.heap.size):KpW bl base W (W.alloc o):=by
 refine⟨by simp,λk o2 hk _ _ _=>(Zif _ _ _ (ZH hk)).trans hk,λk _ hr=> ?_⟩;simp_all[rowB,ZiR]
end Vm
namespace Vm
open Go Go.Proofs Go.RowKit Go.Shelf
attribute [local go_sem] Oper.semAt_some
def Zfx:(Sol.prog.info? 68).map (λi=>(i.zero,i.size,i.bytes))=some (some (.agg #[.int .i64 0,.int .i64 0,.int .i64 0,.bool false,.int .u64 0]),5,40):=by kernel_rfl
def unO:Sol.prog.underlying 84=some (.slice 68):=by kernel_rfl
def Z3o(w:World)(a b c d e:Value)(t:TypeId):∀j u,[a,b,c,d,e][j]?=some u->(w.alloc (.cells #[a,b,c,d,e] t)).cell? ((⟨w.heap.size,0,none⟩:Addr).add j)=some u:=by
 intro j u h;have:=Zhs _ _ j _ _ _ (ZhX w (.cells #[a,b,c,d,e] t))
 grind [add,Addr.add]
def Z4I(w:World)(ws:List Int)(shs:List (Int×Int))(old:Bool)(bt:Option Nat)(K:Nat->World->Prop)(e:Ending)(W:World):Prop:=
 ∃v n xs,e=.returned (.tuple #[v,.int .i64 n])/\w.grownBy W bt/\W.ownsRow (w.heap.size+4) 68 5 v xs.length (obsC xs)/\((n=0/\endS ws shs old K xs W)\/((n=2\/n=3)/\xs=[]/\Zp ws shs old=([],n)))
def jL{w:World}{ws:List Int}{g o cap:Nat}{bt:Option Nat}{sv gv:Value}{shs:List (Int×Int)}{old:Bool}{K:Nat->World->Prop}(hw:Words w ws g o cap)
  (hsv:sv=.slice (some ⟨g,o,none⟩) ws.length cap\/(ws=[]/\∃a c,sv=.slice a 0 c)) (hg:(ws≠[]->g<w.heap.size)/\g<w.heap.size+4/\g≠w.heap.size) (hgv:gv=.nilFunc\/∃f vs,gv=.func (.func f) #[] vs)
  (hbt:∀r,bt=some r->r<w.heap.size) (hgt:some g≠bt) (hbeg:Z7y ws g o cap gv shs old bt K) (hK0:K 0 w)
  (hKG:∀t A B row,K t A->A.grownBy B row->(∀r,row=some r->w.heap.size<=r)->K t B)
  (hKK:∀bl base t A B,w.heap.size<=bl->w.heap.size<=base->K t A->KpW bl base A B->K t B):
  Calls Sol.prog 120 #[sv,gv] w (Z4I w ws shs old bt K):=by
 refine(Zks (n:=5)).1 ?_;have hmf:∀(fn:Go.Fn) (first cap:Array Value) (w:World),(Instr.makeFunc fn first cap).run Sol.prog w=.ok (.func fn first cap) w:=λ_ _ _ _=>rfl
 have hsf:∃a n c,sv=.slice a n c:=by
  obtain rfl|⟨_,a,c,rfl⟩:=hsv
  ·simp
  ·simp
 refine callsIn_of_wp_marks Sol.func120 rfl trivial ?_ rfl;simp only[Tryz.ntmps120,ZiE,Zib,ZiO,Nat.reduceAdd,Nat.reduceSub,ZjE,ZjF,Zk1,ZjL,Zir,Zij];have he:=λW=>Z57 W sv gv hsf hgv
 gi_wp2
 refine⟨trivial,(Zks.2 (he _)).mono ?_⟩;rintro e w1 ⟨rfl,rfl⟩
 gi_wp2
 have hnx:∀b:Nat,b<w.heap.size->((((w.alloc (Obj.cells #[.slice none 0 0] 84)).alloc (.cells #[.int .i64 0] 39)).alloc (.cells #[sv] 23)).alloc (.cells #[gv] 183)).heap[b]?=w.heap[b]? :=λb hb=>by
  grind [Below.heap_alloc]
 have b0:Boxed ((((w.alloc (Obj.cells #[.slice none 0 0] 84)).alloc (.cells #[.int .i64 0] 39)).alloc (.cells #[sv] 23)).alloc (.cells #[gv] 183)) w.heap.size 84 (.slice none 0 0):=(((Boxed.new w _ _).alloc _).alloc _).alloc _
 have b1:Boxed ((((w.alloc (Obj.cells #[.slice none 0 0] 84)).alloc (.cells #[.int .i64 0] 39)).alloc (.cells #[sv] 23)).alloc (.cells #[gv] 183)) (w.heap.size+1) 39 (.int .i64 0):=by
  have:=((Boxed.new (w.alloc (Obj.cells #[.slice none 0 0] 84)) 39 (.int .i64 0)).alloc (.cells #[sv] 23)).alloc (.cells #[gv] 183);rwa[World.size_alloc]at this
 have b2:Boxed ((((w.alloc (Obj.cells #[.slice none 0 0] 84)).alloc (.cells #[.int .i64 0] 39)).alloc (.cells #[sv] 23)).alloc (.cells #[gv] 183)) (w.heap.size+2) 23 sv:=by
  have:=(Boxed.new ((w.alloc (Obj.cells #[.slice none 0 0] 84)).alloc (.cells #[.int .i64 0] 39)) 23 sv).alloc (.cells #[gv] 183);simp_all
 have b3:Boxed ((((w.alloc (Obj.cells #[.slice none 0 0] 84)).alloc (.cells #[.int .i64 0] 39)).alloc (.cells #[sv] 23)).alloc (.cells #[gv] 183)) (w.heap.size+3) 183 gv:=by
  have:=Boxed.new (((w.alloc (Obj.cells #[.slice none 0 0] 84)).alloc (.cells #[.int .i64 0] 39)).alloc (.cells #[sv] 23)) 183 gv;simp_all
 have hgr:w.grownBy ((((w.alloc (Obj.cells #[.slice none 0 0] 84)).alloc (.cells #[.int .i64 0] 39)).alloc (.cells #[sv] 23)).alloc (.cells #[gv] 183)) bt:=⟨rfl,rfl,rfl,by simp;omega,λk hk _=>hnx k hk⟩;have hsz:((((w.alloc (Obj.cells #[.slice none 0 0] 84)).alloc (.cells #[.int .i64 0] 39)).alloc (.cells #[sv] 23)).alloc (.cells #[gv] 183)).heap.size=w.heap.size+4:=by simp
 generalize hW0:(((w.alloc (Obj.cells #[.slice none 0 0] 84)).alloc (.cells #[.int .i64 0] 39)).alloc (.cells #[sv] 23)).alloc (.cells #[gv] 183)=W0 at*
 have hst:Stat6 ws g o cap sv (w.heap.size+2) (w.heap.size+3) (w.heap.size+4) w.heap.size bt gv W0:=by
  refine⟨⟨λi x hx=> ?_,hw.le,hw.cap,hw.len,hw.u64⟩,hsv,b2,b3,λhn=> ?_,⟨by omega,by omega,by omega,by omega⟩,⟨by omega,by omega,by omega⟩,hgt,?_,?_⟩
  ·rw[<-hw.at_ i x hx]
   grind [World.cell?_of_block]
  ·obtain⟨x,hx⟩:∃x,ws[0]?=some x:=by cases ws with|nil=>simp_all|cons x l=>simp
   have:=hw.at_ 0 x hx;rw[hnx g (hg.1 hn)];unfold World.cell? at this;cases hh:w.heap[g]? with
   |none=>simp_all
   |some ob=>
    refine⟨ob,rfl,?_⟩
    grind [Obj.isCells]
  ·grind
  ·grind
 have hK0':K 0 W0:=hKG 0 w W0 none hK0 ⟨hgr.os,hgr.tape,hgr.output,hgr.size,λk hk _=>hnx k hk⟩ (by simp);have hseq:=Z56 4 hst (by omega) (λe=>by grind) hbeg hK0' (λt A B hA hB=>hKG t A B none hA ⟨hB.os,hB.tape,hB.output,hB.size,λk hk _=>hB.block k hk⟩ (by simp)) (λt A B hA hB=>hKK _ _ t A B (Zhe _) (by omega) hA hB)
 refine Q6 rfl (by omega) (gf:=125) (lb:=#[.pointer (some ⟨w.heap.size+2,0,none⟩),.pointer (some ⟨w.heap.size+3,0,none⟩)]) rfl trivial (enters_of Sol.func125 (by kernel_rfl) rfl)
  hseq (λr e=>by grind) KpW.trans (λW l o o' h1 h2 h3 _=>KpW.put o' h2 h3 (by omega)) (Zi3 _ _) (λ_=>rfl)
  (WIv w bt) (hsz▸WIv.own hbt) (λpre W h=>h.rowIn) ⟨⟨_,b0,ZiW _ _ _ _⟩,b1,hgr,by omega⟩ ?hS
  (λx a' W=>∃Bx,w.heap.size+4<=Bx/\W.heap[Bx]?=some (.cells #[.int .i64 x.at_,.int .i64 x.size,.int .i64 x.ptrs,.bool x.gone,.int .u64 x.target] 68 (0,0))/\
   a'= {tmps:=#[sv,gv,undef,undef,.pointer (some ⟨w.heap.size,0,none⟩),.pointer (some ⟨w.heap.size+1,0,none⟩),.pointer (some ⟨Bx,0,none⟩),
    .func (.func 123) #[] #[.pointer (some ⟨w.heap.size,0,none⟩),.pointer (some ⟨w.heap.size+1,0,none⟩)],sv,gv,.func (.func 125) #[] #[.pointer (some ⟨w.heap.size+2,0,none⟩),.pointer (some ⟨w.heap.size+3,0,none⟩)],obA x,undef,undef,undef,undef,undef],defers:=[]})
  ?hAx ?assign ?body ?done ?panic
 case hS=>
  rintro xs X Y row ⟨t,hK,hR⟩ hgr2 hrow;exact⟨t,hKG t X Y row hK hgr2 λr e=>(hrow r e).elim (λe2=>by cases e2) (λe2=>by omega),hR⟩
 case hAx=>
  rintro x a' s X Y row ⟨Bx,hB,hx,ha⟩ hgr2 hrow;refine⟨Bx,hB,(hgr2.block Bx (ZH hx) λe=> ?_).trans hx,ha⟩;obtain e2|⟨_,o2,h2,h3⟩:=hrow Bx e.symm
  ·cases e2
  ·rw[hx]at h2;cases h2;cases h3
 case assign=>
  rintro l pre x W K2 hi hK2;simp only[List.zip_cons_cons,Array.zip,obA]
  gi_wp2
  exact hK2 _ _ ((KeepsOthers.alloc W _).from _) (KpW.alloc _ (by have:=hi.size;omega)) ((WIv.own hbt).alloc _ hi) ⟨W.heap.size,hi.size,ZhX W _,rfl⟩
 case body=>
  rintro l pre x a' W hi ⟨Bx,hBx,hx,rfl⟩ hlen;obtain⟨v,hv,hrow⟩:=hi.row;obtain⟨i0,hin,hz0,hz1,hz2⟩:=info_parts Zfx;obtain⟨va,vc,rfl⟩:=Z2o hrow;have c1:=hv.cell;have c2:=hv.frozen;have d0:W.cell? ⟨Bx,0,none⟩=some (.int .i64 x.at_):=by rw[Zhs _ _ _ _ _ _ hx];rfl
  have d1:W.cell? ⟨Bx,1,none⟩=some (.int .i64 x.size):=by rw[Zhs _ _ _ _ _ _ hx];rfl
  have d2:W.cell? ⟨Bx,2,none⟩=some (.int .i64 x.ptrs):=by rw[Zhs _ _ _ _ _ _ hx];rfl
  have d3:W.cell? ⟨Bx,3,none⟩=some (.bool x.gone):=by rw[Zhs _ _ _ _ _ _ hx];rfl
  have d4:W.cell? ⟨Bx,4,none⟩=some (.int .u64 x.target):=by rw[Zhs _ _ _ _ _ _ hx];rfl
  have hpl:pre.length<=1000000:=Zht (Nat.le_of_lt hlen) hw.len;have hszW:=hi.size;have HA:=λtmp w1 v'=>WIv.appended (W:=W) (w1:=w1) (x:=x) (v':=v') (tmp:=tmp) hbt hi hv hrow
  gi_wp2_with (gi_at_builtin;refine wpListIn_append_own_at _ rfl _ _ 84 rfl (w.heap.size+4) 68 i0 _ 5 40 unO hin hz0 hz1 hz2 rfl (by decide) _ _ _ rfl (hrow.alloc _) ⟨W.heap.size,0,none⟩ 1 1 (obC x) rfl rfl (Z3o _ _ _ _ _ _ _) (by simp[obC,Value.oneCell']) (by grind [maxLen]) (by omega) (by simp;omega) ?_;intro v' w1 hown' hgrow _ hat;obtain⟨g',cap',rfl⟩:=ownsRow_succ hown';obtain⟨e1,e2,e3,e4⟩:=HA _ _ _ hown' hgrow hat;have e5:=e1.cell;have e6:=e1.frozen)
  rw[hsz];exact⟨e2,e3,e4⟩
 case done=>
  rintro D xs W hD hS hi hD2;obtain⟨v,hv,hrow⟩:=hi.row;obtain⟨va,vc,rfl⟩:=Z2o hrow;have c1:=hv.cell;have c2:=hv.frozen;have c3:=hi.e.cell;have c4:=hi.e.frozen;rw[hsz]at hD
  gi_wp2
  have hDX:((W.setCell ⟨w.heap.size,0,none⟩ (.slice va xs.length vc)).setCell ⟨w.heap.size+1,0,none⟩ (.int .i64 0)).heap[D]?=some (.deferred (some [])):=by
   rw[ZhP _ _ _ _ (by grind),ZhP _ _ _ _ (by grind)];exact hD2
  have f0:Boxed ((W.setCell ⟨w.heap.size,0,none⟩ (.slice va xs.length vc)).setCell ⟨w.heap.size+1,0,none⟩ (.int .i64 0)) w.heap.size 84 (.slice va xs.length vc):=
   (ZhP _ _ _ _ (by simp)).trans (hv.set _)
  have f1:Boxed ((W.setCell ⟨w.heap.size,0,none⟩ (.slice va xs.length vc)).setCell ⟨w.heap.size+1,0,none⟩ (.int .i64 0)) (w.heap.size+1) 39 (.int .i64 0):=
   Boxed.set _ (show Boxed (W.setCell ⟨w.heap.size,0,none⟩ (.slice va xs.length vc)) (w.heap.size+1) 39 (.int .i64 0)from(ZhP _ _ _ _ (by simp)).trans hi.e)
  have g1:=Zk7 W w.heap.size (.slice va xs.length vc);have g2:=Zk7 (W.setCell ⟨w.heap.size,0,none⟩ (.slice va xs.length vc)) (w.heap.size+1) (.int .i64 0);have hlow:=hrow.lt
  have r2:=(hrow.kept g1 (by
   cases hb:(Value.slice va xs.length vc).ownBlock with
   |none=>simp
   |some b=>exact .inr λe=>by have:=(hlow b hb).1;grind)).kept g2 (by
   cases hb:(Value.slice va xs.length vc).ownBlock with
   |none=>simp
   |some b=>exact .inr λe=>by have:=(hlow b hb).1;grind)
  generalize hW2:(W.setCell ⟨w.heap.size,0,none⟩ (.slice va xs.length vc)).setCell ⟨w.heap.size+1,0,none⟩ (.int .i64 0)=W2 at*;have g3:=Zki W2 D (.deferred none);have f0':Boxed (W2.putObj D (.deferred none)) w.heap.size 84 (.slice va xs.length vc):=(Zig (by omega)).trans f0;have f1':Boxed (W2.putObj D (.deferred none)) (w.heap.size+1) 39 (.int .i64 0):=(Zig (by omega)).trans f1;have k0:=f0'.cell;have k1:=f1'.cell;refine⟨by simp,.inl ⟨D,_,rfl,run_takeDeferred hDX,?_⟩⟩;refine⟨by simp,.inr ⟨λh=>(by cases h),.func 123,_,123, #[.pointer (some ⟨w.heap.size,0,none⟩),.pointer (some ⟨w.heap.size+1,0,none⟩)],rfl,by rfl,λ_ _=>trivial,?_⟩⟩;refine(Z3n _ _ _ _).mono ?_;rintro e u' w'' ⟨rfl,rfl,rfl⟩;refine⟨.tuple #[.slice va xs.length vc,.int .i64 0],by simp[results,Tryz.results120,go_sem,k0,k1],?_⟩;obtain⟨t,hK,hR⟩:=hS;refine⟨_,0,xs,rfl,Xt (Xt (Xt hi.gr g1 λr e=>.inr ?_) g2 λr e=>.inr ?_) g3 λr e=>.inr ?_,ownsRow_putObj r2 _ hDX rfl,.inl ⟨rfl,t,hKG t _ _ _ (hKG t _ _ _ (hKG t _ _ _ hK g1 λr e=> ?_) g2 λr e=> ?_) g3 λr e=> ?_,hR⟩⟩
  all_goals (grind)
 case panic=>
  rintro D chain pre W hD ⟨e,he2,rfl,hWk⟩ hi hD2;rw[hsz]at hD;obtain⟨v,hv,hrow⟩:=hi.row;have g3:=Zki W D (.deferred none);have f0':Boxed (W.putObj D (.deferred none)) w.heap.size 84 v:=(Zig (by omega)).trans hv;have f1':Boxed (W.putObj D (.deferred none)) (w.heap.size+1) 39 (.int .i64 0):=(Zig (by omega)).trans hi.e;have hg4:w.grownBy (W.putObj D (.deferred none)) bt:=Xt hi.gr g3 λr e=>.inr (by grind);refine⟨by simp,.inl ⟨D,_,rfl,run_takeDeferred hD2,?_⟩⟩;refine⟨by simp,.inr ⟨λh=>(by cases h),.func 123,_,123, #[.pointer (some ⟨w.heap.size,0,none⟩),.pointer (some ⟨w.heap.size+1,0,none⟩)],rfl,by rfl,λ_ _=>trivial,?_⟩⟩;refine(QS _ w.heap.size (w.heap.size+1) e _ _ _ f0' f1' (by omega)).mono ?_;rintro e' u' w'' ⟨rfl,rfl,h0,h1,⟨hs2,hk⟩,hos,htape,hout⟩;have k0:=h0.cell;have k1:=h1.cell;refine⟨.tuple #[.slice none 0 0,.int .i64 e],by simp[results,Tryz.results120,go_sem,k0,k1],?_⟩;refine⟨_,e,[],rfl,⟨hos.trans hg4.os,htape.trans hg4.tape,hout.trans hg4.output,Zht hg4.size hs2,λk hk2 hn=> ?_⟩,ZiW _ _ _ _,.inr ⟨he2,rfl,hWk⟩⟩;exact(hk k (Zhj hk2 hg4.size) (by omega) (by omega)).trans (hg4.block k hk2 hn)
end Vm
namespace Vm
open Go Go.Proofs Go.RowKit Go.Shelf
theorem Vq{w:World}{G:Nat->Prop}{k:IntKind}{n:Int}{v:Value}(r:Rd w G (.int k n) v):v=.int k n:=by cases r;rfl
theorem Z2u{w:World}{G:Nat->Prop}{b:Bool}{v:Value}(r:Rd w G (.bool b) v):v=.bool b:=by cases r;rfl
def Ka{w:World}{G:Nat->Prop}{ws:List Int}{v:Value}(r:Rd w G (.sl (ws.map vu)) v)(hG:∀b,G b->b<w.heap.size)(hl:ws.length<=1000000)(hu:∀x∈ws,U64 x)(q:Nat):
  ∃g o cap,Words w ws g o cap/\(v=.slice (some ⟨g,o,none⟩) ws.length cap\/(ws=[]/\∃a c,v=.slice a 0 c))/\((ws≠[]->g<w.heap.size)/\(g<w.heap.size\/g=q)):=by
 generalize hL:ws.map vu=L at r;cases r with
 |nil a cap hc=>
  have:ws=[]:=List.map_eq_nil_iff.1 hL;subst this;exact⟨q,0,0,⟨λi x hx=>by simp at hx,by simp,by grind [maxLen],by simp,by simp⟩,.inr ⟨rfl,a,cap,rfl⟩,λh=>absurd rfl h,.inr rfl⟩
 |sl _ b o cap k vs h1 h2 h3 h4 h5 h6=>
  subst hL;simp only[Zi1]at h1 h5⊢;refine⟨b,o,cap,⟨λi x hx=> ?_,h1,h2,hl,hu⟩,.inl rfl,λ_=>hG b h3,.inl (hG b h3)⟩;have hm:(ws.map vu)[i]?=some (vu x):=by rw[Zhr,hx];rfl
  have hk:k=1:=((h4 _ (Zhg hm)).1).symm;subst hk;have hi:i<ws.length:=(Zh9.1 hx).1;rw[h5 i (by omega)];have:=h6 i (vu x) (by have:=X2 h4 hm 0 (by omega);simp_all);rw[Vq this]
def Z4h{w:World}{G:Nat->Prop}{shs:List (Int×Int)}{v:Value}(r:Rd w G (.sl (shs.map shP)) v)(hG:∀b,G b->b<w.heap.size):
  (∃g o cap,v=.slice (some ⟨g,o,none⟩) shs.length cap/\shs.length<=cap/\cap<=maxLen/\g<w.heap.size/\∀(i:Nat) (x:Int×Int),shs[i]?=some x->w.cell? ⟨g,o+i*2,none⟩=some (.int .i64 x.1)/\w.cell? ⟨g,o+i*2+1,none⟩=some (.int .i64 x.2))\/
  (∃a cap,v=.slice a 0 cap/\shs=[]):=by
 generalize hL:shs.map shP=L at r;cases r with
 |nil a cap hc=>
  simp_all
 |sl _ b o cap k vs h1 h2 h3 h4 h5 h6=>
  subst hL;simp only[Zi1]at h1 h5⊢;refine .inl ⟨b,o,cap,rfl,h1,h2,hG b h3,λi x hx=> ?_⟩;have hm:(shs.map shP)[i]?=some (shP x):=by rw[Zhr,hx];rfl
  have hk:k=2:=((h4 _ (Zhg hm)).1).symm;subst hk;have hi:i<shs.length:=(Zh9.1 hx).1;have e0:=h6 (i*2) (vi x.1) (by have:=X2 h4 hm 0 (by omega);simp_all);have e1:=h6 (i*2+1) (vi x.2) (by have:=X2 h4 hm 1 (by omega);simp_all)
  grind [Vq,Nat.add_assoc]
def qY{w:World}{G:Nat->Prop}:∀(l:List Ob) (i:Nat) (c:V),(flat (l.map obV))[i]?=some c->Rd w G c ((obsC l).getD i undef)
 | [],i,c,h=>by simp_all
 |x::l,i,c,h=>by
  rw[ZhA,WJ]at h;have e:obsC (x::l)=obC x++obsC l:=by simp[obsC]
  rw[e];by_cases hi:i<5
  ·match i,hi with
   |0,_=>simp[obV,V.cells]at h;subst h;exact .int _ _
   |1,_=>simp[obV,V.cells]at h;subst h;exact .int _ _
   |2,_=>simp[obV,V.cells]at h;subst h;exact .int _ _
   |3,_=>simp[obV,V.cells]at h;subst h;exact .bool _
   |4,_=>simp[obV,V.cells]at h;subst h;exact .int _ _
  ·have h2:(flat (l.map obV))[i-5]?=some c:=by
    rw[ZhH (by simp_all)]at h;simpa[obV,V.cells]using h
   have:=qY (w:=w) (G:=G) l (i-5) c h2
   have hg:(obC x++obsC l).getD i undef=(obsC l).getD (i-5) undef:=by
    simp only[List.getD_eq_getElem?_getD];rw[ZhH (by grind [obC])];simp[obC]
   simp_all
def ZaS(l:List Ob):∀x∈l.map obV,V.fits 5 x:=by
 intro x hx;obtain⟨o,_,rfl⟩:=Zhq.1 hx;exact⟨rfl,λc hc=>by simp[obV,V.cells]at hc;obtain rfl|rfl|rfl|rfl|rfl:=hc<;>rfl⟩
def Z9z{w:World}{G:Nat->Prop}{B:Nat}{e:TypeId}{v:Value}{l:List Ob}(h:w.ownsRow B e 5 v l.length (obsC l))(hG:∀c,B<=c->c<w.heap.size->G c):Rd w G (.sl (l.map obV)) v:=by
 have hlen:(obsC l).length=l.length*5:=h.1;obtain⟨rfl,h0⟩|⟨g,cap,cur,rfl,hb,hg,hnc,hcm,_⟩:=h.2
 ·have:l=[]:=ZjT.1 h0;subst this;exact .nil _ _ (by grind [maxLen])
 ·have:=Rd.sl (w:=w) (G:=G) (l.map obV) g 0 cap 5 (λi=>(obsC l).getD i undef) (by simp_all) hcm (hG g hb (ZH hg)) (ZaS l) (λi hi=>by
    have hi':i< (obsC l).length:=by rw[hlen];simpa using hi
    rw[Zi2,h.cellAt i (by omega)];simp[hi']) (λi c hc=>qY l i c hc)
  simp_all
def Zek{ws:List Int}{shs:List (Int×Int)}{old:Bool}{K:Nat->World->Prop}{n:Int}{xs:List Ob}{W:World}(h0:shs=[])(h:(n=0/\endS ws shs old K xs W)\/((n=2\/n=3)/\xs=[]/\Zp ws shs old=([],n))):Zp ws shs old=(xs,n):=by
 subst h0;obtain⟨rfl,t,_,h⟩|⟨_,rfl,h⟩:=h
 ·simp_all
 ·exact h
def Z4J:Kx:=by
 intro ws hl hu;refine⟨by kernel_rfl,λw G vs hG hsz hvs=> ?_⟩;have r0:=hvs 0 _ rfl;obtain⟨⟨l⟩⟩:=vs
 ·simp at hsz
 rename_i v0 l;cases l with
 |cons _ _=>simp at hsz
 |nil=>
  simp at r0;obtain⟨g,o,cap,hw,hsv,hg1,hg2⟩:=Ka r0 hG hl hu (w.heap.size+1);have hk:=jL (w:=w) (shs:=[]) (old:=false) (bt:=none) (K:=λt _=>t=0) hw hsv ⟨hg1,by omega,by omega⟩ (.inl rfl) (by simp) (by simp) Za8 rfl (λt A B row h _ _=>h) (λbl base t A B _ _ h _=>h)
  obtain⟨sa,sn,sc,rfl⟩:∃a n c,v0=.slice a n c:=by
   obtain rfl|⟨_,a,c,rfl⟩:=hsv
   ·simp
   ·simp
  have HK:=ZhF hk;clear hk hw hsv r0 hvs;go_enter Sol.func108,Tryz.ntmps108
  go_wp2_with (go_at_call 120;refine HK.out.mono ?_;rintro e w1 ⟨v,n,xs,rfl,hgr,hrow,hE⟩;have HR:=ZhF (And.intro hgr (And.intro hrow hE));clear hgr hrow hE)
  obtain⟨hgr,hrow,hE⟩:=HR.out;have hW:=Zek rfl hE;refine Zj7 (v:=.tuple #[v,.int .i64 n]) (by simp[results,Tryz.results108,go_sem]) rfl ⟨_,rfl,(Zi3 _ w).grown hgr (Zhe _) (λj e=>by cases e),?_⟩;rw[hW];refine .tup _ _ rfl ?_;intro i y hy
  match i,hy with
  |0,hy=>cases hy;exact Z9z hrow λc h1 h2=>.inr ⟨by omega,h2⟩
  |1,hy=>cases hy;exact .int _ _
def KpW.cell{bl base:Nat}{A B:World}(h:KpW bl base A B){k i:Nat}{c:Value}(hc:A.cell? ⟨k,i,none⟩=some c)(hk:k<base)(hn:k≠bl):B.cell? ⟨k,i,none⟩=some c:=by
 have hc2:=hc;unfold World.cell? at hc;cases hh:A.heap[k]? with
 |none=>simp_all
 |some ob=>
  have hob:ob.isCells=true:=by
   rw[hh]at hc;cases ob<;>simp_all [Obj.isCells]
  rw[<-hc2];exact Zi7 (a:=⟨k,i,none⟩) ((h.same k ob hh hob hn (.inl hk)).trans hh.symm)
def KOld.grown{shs:List (Int×Int)}{bt bs t n:Nat}{v:Value}{A B:World}{row:Option Nat}(h:KOld shs bt bs v t A)(hg:A.grownBy B row)(hbt:bt<n)(hbs:bs<n)(hv:shs≠[]->∀g o cap,v=.slice (some ⟨g,o,none⟩) shs.length cap->g<n)(hr:∀r,row=some r->n<=r):KOld shs bt bs v t B:=by
 obtain⟨h1,h2,h3⟩:=h;exact⟨(hg.block _ (ZH h1) (λe=>by grind)).trans h1,h2.grown hg (λe=>by grind) (λhn g o cap e e2=>by grind),h3⟩
def KOld.kp{shs:List (Int×Int)}{bt bs t n bl base:Nat}{v:Value}{A B:World}(h:KOld shs bt bs v t A)(hg:KpW bl base A B)(hbt:bt<n)(hbs:bs<n)(hv:shs≠[]->∀g o cap,v=.slice (some ⟨g,o,none⟩) shs.length cap->g<n)(h1:n<=bl)(h2:n<=base):KOld shs bt bs v t B:=by
 obtain⟨k1,⟨k2,k3⟩,k4⟩:=h;refine⟨hg.same _ _ k1 rfl (by omega) (.inl (by omega)),⟨hg.same _ _ k2 rfl (by omega) (.inl (by omega)),?_⟩,k4⟩;obtain⟨g,o,cap,rfl,a1,a2,a3,a4⟩|h:=k3
 ·refine .inl ⟨g,o,cap,rfl,a1,a2,Zhj a3 hg.size,λi x hx=> ?_⟩;have:=hv (λe=>by simp_all) _ _ _ rfl;exact⟨hg.cell (a4 i x hx).1 (by omega) (by omega),hg.cell (a4 i x hx).2 (by omega) (by omega)⟩
 simp_all
def Words.below2{w W:World}{ws:List Int}{g o cap:Nat}(h:Words w ws g o cap)(hs:ws≠[]->g<w.heap.size)(hb:Below w.heap.size w W):Words W ws g o cap:=
 ⟨λi x hx=>by rw[hb.cell (p:=⟨g,o+i,none⟩) (hs (λe=>by simp_all))];exact h.at_ i x hx,h.le,h.cap,h.len,h.u64⟩
def Ky:Wz:=by
 intro ws shs hl hsl hu hsh;refine⟨by kernel_rfl,λw G vs hG hsz hvs=> ?_⟩;have r0:=hvs 0 _ rfl;have r1:=hvs 1 _ rfl;obtain⟨⟨l⟩⟩:=vs
 ·simp at hsz
 rename_i v0 l;cases l with
 |nil=>simp at hsz
 |cons v1 l=>
 cases l with
 |cons _ _=>simp at hsz
 |nil=>
  simp at r0 r1;obtain⟨g,o,cap,hw,hsv,hg1,hg2⟩:=Ka r0 hG hl hu (w.heap.size+3);have hv1:=Z4h r1 hG
  obtain⟨sa,sn,sc,rfl⟩:∃a n c,v0=.slice a n c:=by
   obtain rfl|⟨_,a,c,rfl⟩:=hsv
   ·simp
   ·simp
  obtain⟨ta,tc,rfl⟩:∃a c,v1=.slice a shs.length c:=by
   grind
  have b0:((w.alloc (.cells #[.slice ta shs.length tc] 160)).alloc (.cells #[.int .i64 0] 3)).heap[w.heap.size]?=some (.cells #[.slice ta shs.length tc] 160 (0,0)):=(Zif _ _ _ (by simp)).trans (ZhX w _)
  have b1:((w.alloc (.cells #[.slice ta shs.length tc] 160)).alloc (.cells #[.int .i64 0] 3)).heap[w.heap.size+1]?=some (.cells #[.int .i64 0] 3 (0,0)):=by
   have:=ZhX (w.alloc (.cells #[.slice ta shs.length tc] 160)) (.cells #[.int .i64 0] 3);simp_all
  have hB1:Below w.heap.size w ((w.alloc (.cells #[.slice ta shs.length tc] 160)).alloc (.cells #[.int .i64 0] 3)):=((Zi3 _ w).alloc (Zhe _) _).alloc (by simp) _;have hsz1:((w.alloc (.cells #[.slice ta shs.length tc] 160)).alloc (.cells #[.int .i64 0] 3)).heap.size=w.heap.size+2:=by simp
  have hgb:shs≠[]->∀g o cap,Value.slice ta shs.length tc=.slice (some ⟨g,o,none⟩) shs.length cap->g<w.heap.size:=by
   intro hn g o cap e;obtain⟨g1,o1,c1,e1,_,_,h4,_⟩|⟨_,_,_,h⟩:=hv1
   ·simp_all
   ·simp_all
  have hk:Calls Sol.prog 120 #[.slice sa sn sc,.func (.func 121) #[] #[.pointer (some ⟨w.heap.size+1,0,none⟩),.pointer (some ⟨w.heap.size,0,none⟩)]] ((w.alloc (.cells #[.slice ta shs.length tc] 160)).alloc (.cells #[.int .i64 0] 3))
    (Z4I ((w.alloc (.cells #[.slice ta shs.length tc] 160)).alloc (.cells #[.int .i64 0] 3)) ws shs true (some (w.heap.size+1)) (KOld shs (w.heap.size+1) w.heap.size (.slice ta shs.length tc))):=by
   generalize hW1:(w.alloc (.cells #[.slice ta shs.length tc] 160)).alloc (.cells #[.int .i64 0] 3)=W1 at*;have hgb1:shs≠[]->∀g o cap,Value.slice ta shs.length tc=.slice (some ⟨g,o,none⟩) shs.length cap->g<W1.heap.size:=λhn g o cap e=>by grind
   refine jL (hw.below2 hg1 hB1) hsv ⟨λh=>by grind,by omega,by omega⟩ (.inr ⟨_,_,rfl⟩) (λr e=>by grind) (λe=>by grind) (Za9 hsl (by omega) (λhn g o cap e=>by grind)) ⟨b1,⟨b0,?_⟩,by omega⟩ (λt A B row h hg hr=>h.grown hg (n:=W1.heap.size) (by omega) (by omega) hgb1 hr) (λbl base t A B h1 h2 h hk=>h.kp hk (n:=W1.heap.size) (by omega) (by omega) hgb1 h1 h2);obtain⟨g1,o1,c1,e1,a1,a2,a3,a4⟩|⟨a,c,e1,h⟩:=hv1
   ·exact .inl ⟨g1,o1,c1,e1,a1,a2,by omega,λi x hx=>⟨(hB1.cell (p:=⟨g1,o1+i*2,none⟩) a3).trans (a4 i x hx).1,(hB1.cell (p:=⟨g1,o1+i*2+1,none⟩) a3).trans (a4 i x hx).2⟩⟩
   ·simp_all
  have hrd:∀w1 v n (xs:List Ob),(v=.slice none 0 0/\xs=[]\/w1.ownsRow (w.heap.size+6) 68 5 v xs.length (obsC xs))->Zp ws shs true=(xs,n)->Rd w1 (λb=>true=false/\G b\/w.heap.size<=b/\b<w1.heap.size) (.tup [.sl ((Zp ws shs true).1.map obV),vi (Zp ws shs true).2]) (.tuple #[v,.int .i64 n]):=by
   intro w1 v n xs hrow hW;rw[hW];refine .tup _ _ rfl ?_;intro i y hy
   match i,hy with
   |0,hy=>
    cases hy;obtain⟨rfl,rfl⟩|hrow:=hrow
    ·exact .nil _ _ (by grind [maxLen])
    ·exact Z9z hrow λc h1 h2=>.inr ⟨by omega,h2⟩
   |1,hy=>cases hy;exact .int _ _
  have hk2:Calls Sol.prog 120 #[.slice sa sn sc,.func (.func 121) #[] #[.pointer (some ⟨w.heap.size+1,0,none⟩),.pointer (some ⟨w.heap.size,0,none⟩)]] ((w.alloc (.cells #[.slice ta shs.length tc] 160)).alloc (.cells #[.int .i64 0] 3)) λe w1=>
    (∃(v:Value) (t:Nat),e=.returned (.tuple #[v,.int .i64 0])/\w1.cell? ⟨w.heap.size+1,0,none⟩=some (.int .i64 t)/\w1.cell? ⟨w.heap.size,0,none⟩=some (.slice ta shs.length tc)/\(t:Int)<shs.length/\Hid (Below w.heap.size w w1/\Rd w1 (λb=>true=false/\G b\/w.heap.size<=b/\b<w1.heap.size) (.tup [.sl ((Zp ws shs true).1.map obV),vi (Zp ws shs true).2]) (.tuple #[.slice none 0 0,.int .i64 3])))\/
    (∃(v:Value) (t:Nat),e=.returned (.tuple #[v,.int .i64 0])/\w1.cell? ⟨w.heap.size+1,0,none⟩=some (.int .i64 t)/\w1.cell? ⟨w.heap.size,0,none⟩=some (.slice ta shs.length tc)/\¬(t:Int)<shs.length/\Hid (Below w.heap.size w w1/\Rd w1 (λb=>true=false/\G b\/w.heap.size<=b/\b<w1.heap.size) (.tup [.sl ((Zp ws shs true).1.map obV),vi (Zp ws shs true).2]) (.tuple #[v,.int .i64 0])))\/
    (∃(v:Value) (n:Int),e=.returned (.tuple #[v,.int .i64 n])/\¬n=0/\Hid (Below w.heap.size w w1/\Rd w1 (λb=>true=false/\G b\/w.heap.size<=b/\b<w1.heap.size) (.tup [.sl ((Zp ws shs true).1.map obV),vi (Zp ws shs true).2]) (.tuple #[.slice none 0 0,.int .i64 n]))):=by
   refine hk.mono ?_;rintro e w1 ⟨v,n,xs,rfl,hgr,hrow,hE⟩;rw[hsz1]at hrow;have hB:Below w.heap.size w w1:=hB1.trans ((Zi3 _ _).grown hgr (by omega) (λj e=>by grind));obtain⟨rfl,t,⟨hb,hs,ht⟩,hWk⟩|⟨hn,rfl,hWk⟩:=hE
   ·have q1:w1.cell? ⟨w.heap.size+1,0,none⟩=some (.int .i64 t):=by rw[Zhs _ _ _ _ _ _ hb];rfl
    have q2:w1.cell? ⟨w.heap.size,0,none⟩=some (.slice ta shs.length tc):=by rw[Zhs _ _ _ _ _ _ hs.box];rfl
    by_cases hlt:t<shs.length
    ·rw[if_pos hlt]at hWk;exact .inl ⟨v,t,rfl,q1,q2,by omega,ZhF ⟨hB,hrd w1 _ _ [] (.inl ⟨rfl,rfl⟩) hWk⟩⟩
    ·rw[if_neg hlt]at hWk;exact .inr (.inl ⟨v,t,rfl,q1,q2,by omega,ZhF ⟨hB,hrd w1 _ _ xs (.inr hrow) hWk⟩⟩)
   ·exact .inr (.inr ⟨v,n,rfl,by omega,ZhF ⟨hB,hrd w1 _ _ [] (.inl ⟨rfl,rfl⟩) hWk⟩⟩)
  have HK:=ZhF hk2;clear hw hsv r0 r1 hvs hv1 hg1 hg2 hk hk2 hB1 b0 b1 hgb hsz1 hrd;go_enter Sol.func110,Tryz.ntmps110;have hmf:∀(fn:Go.Fn) (first cap:Array Value) (w:World),(Instr.makeFunc fn first cap).run Sol.prog w=.ok (.func fn first cap) w:=λ_ _ _ _=>rfl
  go_wp2_with (go_at_call 120;refine HK.out.mono ?_;rintro e w1 (⟨v,t,rfl,q1,q2,hlt,HF⟩|⟨v,t,rfl,q1,q2,hlt,HF⟩|⟨v,n,rfl,hn,HF⟩))
  ·refine Zj7 (v:=.tuple #[.slice none 0 0,.int .i64 3]) (by simp[results,Tryz.results110,go_sem]) rfl ⟨_,rfl,HF.out.1,HF.out.2⟩
  ·refine Zj7 (v:=.tuple #[v,.int .i64 0]) (by simp[results,Tryz.results110,go_sem]) rfl ⟨_,rfl,HF.out.1,HF.out.2⟩
  ·refine Zj7 (v:=.tuple #[.slice none 0 0,.int .i64 n]) (by simp[results,Tryz.results110,go_sem]) rfl ⟨_,rfl,HF.out.1,HF.out.2⟩
end Vm
namespace Vm
open Go Go.Proofs Go.RowKit
def Z6n{w:World}{G:Nat->Prop}{l:List Ob}{v:Value}(r:Rd w G (.sl (l.map obV)) v)(hG:∀b,G b->b<w.heap.size):
  (∃g o cap,v=.slice (some ⟨g,o,none⟩) l.length cap/\l.length<=cap/\cap<=maxLen/\g<w.heap.size/\∀(i:Nat) (x:Ob),l[i]?=some x->w.cell? ⟨g,o+i*5,none⟩=some (.int .i64 x.at_)/\w.cell? ⟨g,o+i*5+1,none⟩=some (.int .i64 x.size)/\
   w.cell? ⟨g,o+i*5+2,none⟩=some (.int .i64 x.ptrs)/\w.cell? ⟨g,o+i*5+3,none⟩=some (.bool x.gone)/\w.cell? ⟨g,o+i*5+4,none⟩=some (.int .u64 x.target))\/
  (∃a cap,v=.slice a 0 cap/\l=[]):=by
 generalize hL:l.map obV=L at r;cases r with
 |nil a cap hc=>
  simp_all
 |sl _ b o cap k vs h1 h2 h3 h4 h5 h6=>
  subst hL;simp only[Zi1]at h1 h5⊢;refine .inl ⟨b,o,cap,rfl,h1,h2,hG b h3,λi x hx=> ?_⟩;have hm:(l.map obV)[i]?=some (obV x):=by rw[Zhr,hx];rfl
  have hk:k=5:=((h4 _ (Zhg hm)).1).symm;subst hk;have hi:i<l.length:=(Zh9.1 hx).1;have e0:=h6 (i*5) (vi x.at_) (by have:=X2 h4 hm 0 (by omega);simp_all);have e1:=h6 (i*5+1) (vi x.size) (by have:=X2 h4 hm 1 (by omega);simp_all);have e2:=h6 (i*5+2) (vi x.ptrs) (by have:=X2 h4 hm 2 (by omega);simp_all);have e3:=h6 (i*5+3) (.bool x.gone) (by have:=X2 h4 hm 3 (by omega);simp_all);have e4:=h6 (i*5+4) (vu x.target) (by have:=X2 h4 hm 4 (by omega);simp_all)
  grind [Vq,Nat.add_assoc,Z2u]
end Vm
end
section

end
section
namespace Vm
open Go Go.Proofs
def Zfc{h:Hp}(hh:h.ok):VC Sol.prog 19 false [hpV h] (.bool (Yp h)):=by
 rw[<-(Lc h).1];exact Z4G Z4J Ky hh
def Zfb{h:Hp}(hh:h.ok){k:Int}:VC Sol.prog 56 false [hpV h,vi k] (.tup [.sl ((Q3 h k).1.map obV),vi (Q3 h k).2]):=by
 rw[<-Z61 h k];exact jT Z4J Ky hh
structure Hp.raw (h:Hp):Prop where
 base:U64 h.base
 cap:Fit h.cap
 to:Fit h.to
 scan:Fit h.scan
 len:∀k,(Zh h k).length<=9223372036854775807
 roots:h.roots.length<=9223372036854775807
 words:∀k,∀w∈Zh h k,U64 w
 rootsW:∀w∈h.roots,U64 w
def fewN(h:Hp):Nat->Hp
 |0=>h
 |k+1=>Xg (fewN h k) ((k+1:Nat):Int) ((Zh (fewN h k) ((k+1:Nat):Int)).take 12)
def Z78{l:List Int}{k:Nat}{K:Int} [inst:Decidable (K< (l.length:Int))](h:K=k):slcV 1 (.sl (l.map vu)) (.int .i64 0) (.int .i64 (if K< (l.length:Int)then K else(l.length:Int)))=some (.sl ((l.take k).map vu)):=by
 have e:(if K< (l.length:Int)then K else(l.length:Int))=((min l.length k:Nat):Int):=by split<;>omega
 rw[e];have:=Z2I (k:=.i64) (l:=l.map vu) 0 (min l.length k) 1;rw[show((0:Nat):Int)=0 from rfl]at this;rw[this,if_pos ⟨by omega,by simp;omega,Lz λ_=>rfl⟩];congr 2;rw[List.drop_zero,<-Zjb];congr 1;rw[List.take_eq_take_iff];omega
def Zc1{h:Hp}(ho:h.raw):({fewN h 4 with roots:=h.roots.take 20}:Hp).ok:=by
 have w1:=ho.words 1;have w2:=ho.words 2;have w3:=ho.words 3;have w4:=ho.words 4;have e:({fewN h 4 with roots:=h.roots.take 20}:Hp)= {h with low:=h.low.take 12,high:=h.high.take 12,old:=h.old.take 12,far:=h.far.take 12,roots:=h.roots.take 20}:=by rfl
 rw[e];exact⟨ho.base,ho.cap,ho.to,ho.scan,by simp;omega,by simp;omega,by simp;omega,by simp;omega,by simp;omega,λw hw=>w1 w (Zhz hw),λw hw=>w2 w (Zhz hw),λw hw=>w3 w (Zhz hw),λw hw=>w4 w (Zhz hw),λw hw=>ho.rootsW w (Zhz hw)⟩
def Zgb{n:Nat}{x:V}(h:tyV Tryz.prog (n+1) 4 x):∃b,x=.bool b:=
 Zbo Tryz.underlying4 h
def Zgc{n:Nat}{x:V}(h:tyV Tryz.prog (n+3) 25 x):∃r:Hp,x=hpV r/\r.raw:=by
 obtain⟨ys,rfl,hl,hf⟩:=K3 Tryz.underlying25 h
 match ys,hl with
 | [a,b,c,d,e,f,g,i,j,k],_=>
   obtain⟨a,rfl,h0⟩:=Z95 (hf 0 _ a rfl rfl);obtain⟨b,rfl,h1⟩:=yb (hf 1 _ b rfl rfl);obtain⟨c,rfl,h2⟩:=yb (hf 2 _ c rfl rfl);obtain⟨d,rfl⟩:=Zgb (hf 3 _ d rfl rfl);obtain⟨e,rfl,h4⟩:=yb (hf 4 _ e rfl rfl);obtain⟨f,rfl,l5,h5⟩:=LD (hf 5 _ f rfl rfl);obtain⟨g,rfl,l6,h6⟩:=LD (hf 6 _ g rfl rfl);obtain⟨i,rfl,l7,h7⟩:=LD (hf 7 _ i rfl rfl);obtain⟨j,rfl,l8,h8⟩:=LD (hf 8 _ j rfl rfl);obtain⟨k,rfl,l9,h9⟩:=LD (hf 9 _ k rfl rfl);unfold maxLen at l5 l6 l7 l8 l9;refine⟨⟨a,b,c,d,e,f,g,i,j,k⟩,rfl,h0,h1,h2,h4,λq=> ?_,l9,λq=> ?_,h9⟩
   ·unfold Zh;split
    ·exact l5
    split
    ·exact l6
    split
    ·exact l7
    ·exact l8
   ·unfold Zh;split
    ·exact h5
    split
    ·exact h6
    split
    ·exact h7
    ·exact h8
end Vm
end
section
namespace Vm
open Go Go.Conc Go.ConcN
section
section
variable {P:Program}{Stop:Frame->List Frame->World->Prop}{b:Frame}{k:List Item}{cs:List Frame}{a:Act}{w:World}
def Walk.two{x y:Code}(h:Walk P Stop (b.at a (.code x:: .code y::k)) cs w):Walk P Stop (b.at a (.code (.seq x y)::k)) cs w:=.go (λw=>stepG_seq) h
def Walk.region{id:Nat}{ops:Array Oper}(h:Walk P Stop (b.at a (.inRegion ops (List.range ops.size)::k)) cs w):Walk P Stop (b.at a (.code (.region id ops false)::k)) cs w:=.go (λw=>stepG_region) h
def Walk.regEnd{ops:Array Oper}(h:Walk P Stop (b.at a k) cs w):Walk P Stop (b.at a (.inRegion ops []::k)) cs w:=.go (λw=>stepG_region_end) h
def Walk.val{ops:Array Oper}{i:Nat}{rest:List Nat}{o:Oper}{v:Value}(ho:ops[i]?=some o)(hw:Region.wanted o (yielded ops a.tmps)=true)(hk:b.kind≠.early)(hf:Z38 P o.op=true)(hr:∀w':World,w'.heap=w.heap->(execOp a.eval o).run P w'=.ok (.value v) w')
  (h:Walk P Stop (b.at (a.put o.dst v) (.inRegion ops rest::k)) cs w):Walk P Stop (b.at a (.inRegion ops (i::rest)::k)) cs w:=by
 refine .one λd=> ?_;have hev:EvsB (wdR ((execOp a.eval o).run P (w.at d))).heap.size (listed P b.fn a o (w.at d)):=λe he=>Z1Y hf a (w.at d) e (mem_listed he);rw[hr (w.at d) rfl]at hev;exact⟨_,_,_,_,stepG_value ho hw hk (hr (w.at d) rfl),Zhe _,hev,h.at d⟩
def Walk.chan{ops:Array Oper}{i:Nat}{rest:List Nat}{o:Oper}{t el:TypeId}{dir:ChanDir}{inf:TypeInfo}{kk:IntKind}(ho:ops[i]?=some o)(hw:Region.wanted o (yielded ops a.tmps)=true)(hk:b.kind≠.early)(hop:o.op=.makeChan t (.const (.int kk 0)))(ht:P.underlying t=some (.chan dir el))(hi:P.info? el=some inf)
  (h:Walk P Stop (b.at (a.put o.dst (.chan (some w.heap.size))) (.inRegion ops rest::k)) cs (w.alloc (.chan 0 #[] false 0 0 false))):Walk P Stop (b.at a (.inRegion ops (i::rest)::k)) cs w:=by
 refine .one λd=> ?_;have e0:execOp a.eval o=(do pure (.value (<-Instr.makeChan t (.int kk (0:Nat)))):Sem Next):=by unfold execOp;simp only[hop];rfl
 have hr:(execOp a.eval o).run P (w.at d)=.ok (.value (.chan (some w.heap.size))) ((w.alloc (.chan 0 #[] false 0 0 false)).at d):=by
  rw[e0];simp only[ZhE,run_makeChan (w:=w.at d) ht hi kk 0 (by omega) (by omega),ZhC];rfl
 have hev:(execOp a.eval o).events P (w.at d) #[]=#[]:=by
  rw[e0];have h1:=events_makeChan (P:=P) (w:=w.at d) ht hi kk 0 (by omega) (by omega) #[]
  have h2:(Instr.makeChan t (.int kk (0:Nat))).runT P (w.at d) #[]=(.ok (.chan (some w.heap.size)) ((w.alloc (.chan 0 #[] false 0 0 false)).at d), #[]):=by
   refine Zjq ?_ h1;rw[ZiN];exact run_makeChan (w:=w.at d) ht hi kk 0 (by omega) (by omega)
  show((Sem.bind _ _).runT P (w.at d) #[]).2=_;rw[ZiV,h2];rfl
 refine⟨_,_,_,_,stepG_value ho hw hk hr,by show w.heap.size<=(w.alloc _).heap.size;simp,λe he=> ?_,h.at d⟩;have:=mem_listed he;rw[hev]at this;simp at this
def Walk.fork{fr fr2:Frame}{child:Goroutine}(hst:∀w:World,stepG P true (G fr cs) w=.spawn (G fr2 cs) child w #[])
  (H:∀(n d:Nat) (gs:Array Goroutine) (sl:Option (Nat×Nat)) (t:Trace) (q:Nat->Nat),0<n->gs.size=n+1->gs[0]?=some (G fr2 cs)->gs[n]?=some child->Lvs P n gs q->(∀OA OB KB,TI n OA OB KB w.heap.size t)->Win P (AtS P Stop) gs (w.at d) sl t):Walk P Stop fr cs w:=by
 intro d0 gs sl t q hl h0 ht
 have hnone:∀(gs':Array Goroutine) g,gs'[gs'.size]? ≠some g:=λgs' g e=>by
  have:=(Zhd.1 e).1;omega
 refine skip hl (λi g hi hg=> ?_) ⟨0,_,.inl rfl,h0,rfl⟩ λgs' d sl' q' i g hsz' hsame hl' hi hgi hrun=> ?_
 ·obtain rfl|rfl:=hi
  ·rw[h0]at hg;cases hg;exact⟨awake_of (.inl rfl),λg1 g2 d=>woken_run rfl⟩
  ·exact absurd hg (hnone gs g)
 ·obtain rfl|rfl:=hi
  ·have h0':gs'[0]?=some (G fr cs):=by rw[hsame 0 (.inl rfl)];exact h0
   have hpos:0<gs'.size:=(Zhd.1 h0').1;have hrunT:=runT_crowd_spawn (P:=P) (sl:=sl') (i:=0) (w:=w.at d) h0' (hst (w.at d));refine⟨_,_,_,_,hrunT,?_⟩;generalize hx:({g:=0,fn:=(G fr cs).frame.fn,pos:=(G fr cs).frame.place,act:=.go gs'.size}:MemOp)=x;generalize hy:({g:=gs'.size,fn:=child.frame.fn,pos:=(G fr cs).frame.place,act:=.start}:MemOp)=y;have hops:((MemOp.ofEvents 0 (G fr cs).frame.fn (G fr cs).frame.place #[]).push x).push y=#[x,y]:=by simp[MemOp.ofEvents]
   rw[hops];have hxg:x.g=0/\x.act=.go gs'.size:=by rw[<-hx];exact⟨rfl,rfl⟩
   have hyg:y.g=gs'.size/\y.act=.start:=by rw[<-hy];exact⟨rfl,rfl⟩
   refine H gs'.size d _ sl' _ q' hpos (by simp) ?_ (by rw[Ziv];simp) (λj g hj hne hg=> ?_) λOA OB KB=> ?_
   ·rw[Array.getElem?_push_lt (by simpa using hpos)];simp[Array.getElem_setIfInBounds]
   ·rw[Ziv]at hg;simp only[Zit]at hg;rw[if_neg (by omega),Zi4 (by omega)]at hg;exact hl' j g hj (by rw[<-hsz'];exact hne) hg
   ·have t0:TI gs'.size (λ_=>True) (λ_=>False) KB w.heap.size t:=⟨ht.clean,ht.hears,ht.low,λi op x h1 h2 h3=>.inl (ht.known i op x h1 h2 h3),λi op x h1 h2 h3=>.inr (.inr ⟨λ_=>by obtain⟨b,hb⟩:=Le h3;exact⟨b,hb,trivial⟩,λb _ h=>h⟩)⟩
    have t1:=t0.comm (Zhe _) #[x,y] (λop hop=>by
     have:op=x\/op=y:=by simpa using hop
     obtain rfl|rfl:=this
     ·rw[hxg.2];simp[MemAct.touch?]
     ·rw[hyg.2];simp[MemAct.touch?])
    have old:∀(i:Nat) (op:MemOp) (tc:Touch),(t++ #[x,y])[i]?=some op->op.act.touch?=some tc->t[i]?=some op:=λi op tc h1 h2=>by
     obtain⟨_,h⟩|⟨_,h⟩:=getElem?_append_cases h1
     ·exact h
     ·have:op=x\/op=y:=by simpa using h
      obtain rfl|rfl:=this
      ·rw[hxg.2]at h2;simp[MemAct.touch?]at h2
      ·rw[hyg.2]at h2;simp[MemAct.touch?]at h2
    refine⟨t1.clean,t1.hears,t1.low,λi op tc h1 h2 h3=>.inl ((ht.known i op tc (old i op tc h1 h2) h2 h3).app _),λi op tc h1 h2 h3=>.inr (.inl ?_)⟩;exact fork_knows hxg hyg (ht.hears 0) (ht.hears _) (ht.known i op tc (old i op tc h1 h2) h2 h3)
  ·rw[<-hsz']at hgi;exact absurd hgi (hnone gs' g)
def Walk.meet{fr fr2:Frame}{child:Goroutine}{c:Nat}{KA KB OA0:Nat->Prop}{StopA:(Nat->Prop)->Goroutine->World->Prop}{vs:List Value}{z:Value}(hst:∀w:World,stepG P true (G fr cs) w=.spawn (G fr2 cs) child w #[])
  (hA:Play P true c KA StopA (vs.map .recv++[.closed z]) OA0 (G fr2 cs) w) (hB:Play P false c KB (XL P c) (vs.map .send) (λ_=>False) child w) (hch:w.heap[c]?=some (.chan 0 #[] false 0 0 false))
  (la:∀b,OA0 b->b<w.heap.size) (ka:∀b,KA b->b<w.heap.size) (kb:∀b,KB b->b<w.heap.size) (sak:∀b,OA0 b->¬KB b) (ca:¬OA0 c) (cka:¬KA c) (ckb:¬KB c)
  (hend:∀OA a w',StopA OA a w'->w.heap.size<=w'.heap.size->w'.tape=w.tape->(w'.os,w'.output)=(w.os,w.output)->(∀b,OA b->(OA0 b\/w.heap.size<=b)/\b<w'.heap.size)->(∀b,b<w.heap.size->¬OA0 b->b≠c->w'.heap[b]?=w.heap[b]?)->∃fr' cs',a=G fr' cs'/\Walk P Stop fr' cs' w'):Walk P Stop fr cs w:=by
 refine .fork hst λn d gs sl t q hn hsz h0 hgn hl hti=> ?_
 have hC:Cfg P n c KA KB OA0 (w.at d) OA0 (λ_=>False) gs (w.at d) t q:=
  ⟨hn,hl,hti _ _ _,la,λ_ h=>h.elim,ka,kb,λ_ _ h=>h,sak,ca,cka,ckb,(Zhd.1 hch).1,Zhe _,rfl,rfl,λ_ h=>.inl h,λ_ h=>h.elim,λ_ _ _ _=>rfl⟩
 have hw:=(ZfP (P:=P) (n:=n) (KB:=KB) (OA0:=OA0) (w0:=w.at d) hA).opn vs z (λ_=>False) child gs (w.at d) sl t q 0 0 false rfl hC hsz h0 hgn (Rely.at _ _ _ d) (.run (hB.rely (Rely.at _ _ _ d))) hch;refine hw.bind λgs1 w1 sl1 t1 ⟨a1,OA,OB,q1,k0,k1,k2,k3,k4,k5⟩=> ?_;obtain⟨fr',cs',rfl,hW⟩:=hend OA a1 w1 k2 k3.b0 k3.tape k3.os (λb hb=>⟨k3.oa b hb,k3.la b hb⟩) k3.fr;exact hW w1.drawn gs1 sl1 t1 q1 k4 k0 ⟨k3.ti.clean,k3.ti.hears,k3.ti.low,k5⟩
end
end
end Vm
end
section
namespace Vm
open Go Go.Conc
section
section
variable {Q:Program}{c:Nat}{Post:Frame->List Frame->World->Prop}{es:List Ev}{fr fr':Frame}{cs cs':List Frame}{w w':World}
def LS.steps:∀ {es:List Ev} {fr fr':Frame} {cs cs':List Frame} {w w':World},Steps Q (lone fr (cs++[capF Q]) w) (lone fr' (cs'++[capF Q]) w')->LS Q c Post es fr' cs' w'->LS Q c Post es fr cs w
 | [],_,_,_,_,_,_,h,⟨n,f2,c2,w2,h2,h3⟩=>let⟨m,hm⟩:=Steps.trans h ⟨n,h2⟩;⟨m,f2,c2,w2,hm,h3⟩
 |e::es,_,_,_,_,_,_,h,⟨n,f2,c2,w2,h2,h3⟩=>let⟨m,hm⟩:=Steps.trans h ⟨n,h2⟩;⟨m,f2,c2,w2,hm,h3⟩
def LS.ev{e:Ev}(h:AtEv Q c e fr)(k:LS Q c Post es (aft e fr) cs w):LS Q c Post (e::es) fr cs w:=⟨0,fr,cs,w,rfl,h,k⟩
def LS.now(h:Post fr cs w):LS Q c Post [] fr cs w:=⟨0,fr,cs,w,rfl,h⟩
end
def Ul{P:Program}{ops:Array Oper}{w:World}{Q Q':Act->Prop}(h:∀a,Q a->Q' a):∀(l:List Oper) (a:Act),wpStill P ops w Q l a->wpStill P ops w Q' l a
 | [],a,hh=>h a hh
 |o::l,a,hh=>by
  simp only[wpStill]at hh⊢;split
  ·rename_i hw;rw[if_pos hw]at hh;exact Oper.still_mono (λa=>Ul h l a) hh
  ·rename_i hw;rw[if_neg hw]at hh;exact Ul h l _ hh
def cAt:Code->List Nat->Code
 |c,[]=>c
 |.seq a _,0::l=>cAt a l
 |.seq _ b,_::l=>cAt b l
 |.cond _ a _,0::l=>cAt a l
 |.cond _ _ b,_::l=>cAt b l
 |.block _ a,_::l=>cAt a l
 |.loop a,_::l=>cAt a l
 |.scope a,_::l=>cAt a l
 |c,_=>c
def Z6v:Code->Array Oper
 |.region _ ops _=>ops
 |_=> #[]
def Z4F(Q:Program)(c:Nat)(Post:Frame->List Frame->World->Prop)(es:List Ev)(b:Frame)(k:List Item)(cs:List Frame):Exit->Act->World->Prop
 |.normal,a,w=>LS Q c Post es (b.at a k) cs w
 |.exit id,a,w=>∃k',exitTo id k=some k'/\LS Q c Post es (b.at a k') cs w
 |.ret,a,w=>∀todo,LS Q c Post es {b.at a todo with mode:=.returning} cs w
 |_,_,_=>False
def SC(Q:Program)(c:Nat)(x:Code)(R:List Ev->Exit->Act->World->Prop)(es:List Ev)(a:Act)(w:World):Prop:=
 ∀(Post:Frame->List Frame->World->Prop) (b:Frame) (k:List Item) (cs:List Frame),(∀es' e a' w',R es' e a' w'->Z4F Q c Post es' b k cs e a' w')->LS Q c Post es (b.at a (.code x::k)) cs w
def ST(Q:Program)(c:Nat)(ops:Array Oper)(R:List Ev->Exit->Act->World->Prop)(l:List Nat)(es:List Ev)(a:Act)(w:World):Prop:=
 ∀(Post:Frame->List Frame->World->Prop) (b:Frame) (k:List Item) (cs:List Frame),(∀es' e a' w',R es' e a' w'->Z4F Q c Post es' b k cs e a' w')->LS Q c Post es (b.at a (.inRegion ops l::k)) cs w
section
variable {Q:Program}{c:Nat}{R R':List Ev->Exit->Act->World->Prop}{es:List Ev}{a:Act}{w:World}{x y:Code}
variable {ops:Array Oper}{l:List Nat}
def SC.draw{id:Nat}(h:∀t,ST Q c ops R (Region.schedule (Q.follows .mixedOrders) ops t) es a {w with drawn:=w.drawn+1}):SC Q c (.region id ops true) R es a w:=λPost b k cs hk=>LS.steps (.one step_region_draw) (h _ Post b k cs hk)
def ST.nil(h:R es .normal a w):ST Q c ops R [] es a w:=λPost b k cs hk=>LS.steps (.one step_region_end) (hk _ _ _ _ h)
def ST.omit{i:Nat}(ho:((ops[i]?).map (Region.wanted · (yielded ops a.tmps))).getD false=false)(hk:ST Q c ops R l es (a.put ((ops[i]?).bind (·.dst)) undef) w):ST Q c ops R (i::l) es a w:=λPost b k cs hR=>
 LS.steps (.one (step_op_skip ho)) (hk Post b k cs hR)
def ST.still{i:Nat}{K:Act->Prop}(h:stOp Q ops w i K a)(hk:∀a,K a->ST Q c ops R l es a w):ST Q c ops R (i::l) es a w:=by
 unfold stOp at h;cases ho:ops[i]? with
 |none=>
  rw[ho]at h;refine .omit (by simp[ho]) ?_;simp_all[Option.bind_none,Act.put]
 |some o=>
  rw[ho]at h;dsimp only at h;by_cases hw:Region.wanted o (yielded ops a.tmps)=true
  ·rw[if_pos hw]at h;unfold Oper.still at h;intro Post b k cs hR;have hg:=stepG_op (P:=Q) (b:=b) (k:=k) (cs:=cs++[capF Q]) (w:=w) (rest:=l) ho hw;have hfin:∀v,(b.at a (.inRegion ops (i::l)::k)).finish v=b.at (a.put o.dst v) (.inRegion ops l::k):=λv=>by grind [Frame.finish_at]
   revert h
   cases hr:(execOp a.eval o).run Q w with
   |halt x w'=>exact False.elim
   |ok n w'=>
    cases n<;>first|exact False.elim|skip
    ·rename_i v;rintro⟨rfl,h⟩;refine LS.steps (.one (Zkt ?_)) (hk _ h Post b k cs hR);simp_all[stepG.apply]
    ·rintro⟨rfl,h⟩;refine LS.steps (.one (Zkt ?_)) (hk _ h Post b k cs hR);simp_all[stepG.apply]
    ·rename_i f args;rintro⟨rfl,v,hc,h⟩;obtain⟨e,w'',fr,⟨rfl,rfl⟩,hsteps,_,hleave⟩:=hc (b.at a (.inRegion ops (i::l)::k)::(cs++[capF Q]))
     have henter:step Q (lone (b.at a (.inRegion ops (i::l)::k)) (cs++[capF Q]) w'')=.next (lone (Frame.enter Q f args .normal) (b.at a (.inRegion ops (i::l)::k)::(cs++[capF Q])) w''):=
      Zkt (by simp_all[stepG.apply,Frame.at])
     refine LS.steps (.head henter (hsteps.trans (.one ?_))) (hk _ h Post b k cs hR)
     grind [step_leave_returned]
  ·rw[if_neg hw]at h;refine .omit (by simp_all) ?_;simp_all
def ST.ev{i:Nat}{o:Oper}{e:Ev}(ho:ops[i]?=some o)(hw:Region.wanted o (yielded ops a.tmps)=true)(he:match e with
   |.recv _|.closed _=>∃t ch d el inf z,o.op=.recv t ch true/\okV ch=true/\a.eval ch=.chan (some c)/\Q.underlying t=some (.chan d el)/\Q.info? el=some inf/\inf.zero=some z/\∀z',e=.closed z'->z'=z
   |.send v=>∃ch x,o.op=.send ch x/\okV ch=true/\okV x=true/\a.eval ch=.chan (some c)/\a.eval x=v)
  (hk:ST Q c ops R l es (a.put o.dst e.val) w):ST Q c ops R (i::l) (e::es) a w:=λPost b k cs hR=>by
 refine LS.ev ⟨ops,i,l,k,o,rfl,rfl,ho,hw,?_⟩ ?_
 ·have hev:∀x,(b.at a (.inRegion ops (i::l)::k)).eval x=a.eval x:=Frame.eval_at b a _;cases e with
  |recv v=>obtain⟨t,ch,d,el,inf,z,h1,h2,h3,h4,h5,h6,_⟩:=he;exact⟨t,ch,d,el,inf,z,h1,h2,by rw[hev];exact h3,h4,h5,h6⟩
  |closed v=>obtain⟨t,ch,d,el,inf,z,h1,h2,h3,h4,h5,h6,h7⟩:=he;exact⟨t,ch,d,el,inf,h1,h2,by rw[hev];exact h3,h4,h5,by rw[h7 v rfl];exact h6⟩
  |send v=>obtain⟨ch,x,h1,h2,h3,h4,h5⟩:=he;exact⟨ch,x,h1,h2,h3,by rw[hev];exact h4,by rw[hev];exact h5⟩
 ·have:aft e (b.at a (.inRegion ops (i::l)::k))=b.at (a.put o.dst e.val) (.inRegion ops l::k):=by
   unfold aft;rw[Zjs,ho];rfl
  rw[this];exact hk Post b k cs hR
def ST.head{md:Region.Mode}{n g:Nat}{L:Array Bool->Act->Prop}:∀(f t:Nat) (listed:Array Bool) (a:Act),wpAnyL Q md ops w n L f listed a->(∀listed a t,L listed a->ST Q c ops R (Region.linearise.go md ops g t listed []) es a w)->
  ST Q c ops R (Region.linearise.go md ops (f+g) t listed []) es a w
 |0,t,listed,a,h,hk=>by rw[Zi2];exact hk _ _ _ h
 |f+1,t,listed,a,h,hk=>by
  obtain⟨h0,h1⟩:=h;rw[show f+1+g=(f+g)+1 by omega];simp only[Region.linearise.go]
  change ST Q c ops R (match(Region.ready md ops listed)[t% (Region.ready md ops listed).length]? with
   |some i=>Region.linearise.go md ops (f+g) (t / (Region.ready md ops listed).length) (listed.setIfInBounds i true) [i]
   |none=>[].reverse) es a w
  cases hi:(Region.ready md ops listed)[t% (Region.ready md ops listed).length]? with
  |none=>
   exfalso;have hlen:0< (Region.ready md ops listed).length:=ZjM.2 h0;have:=ZjG.1 hi;have:=Zkc t hlen;omega
  |some i=>
   simp only[];rw[linearise_go_acc,ZkQ,Zk6];exact ST.still (h1 i (Zhg hi)).2 λa' h'=>ST.head f _ _ a' h' hk
def ST.last{n:Nat}{listed:Array Bool}{t:Nat}(h:Region.seqB .any ops 1 n listed=true)(hk:ST Q c ops R [n] es a w):ST Q c ops R (Region.linearise.go .any ops 1 t listed []) es a w:=by
 simp only[Region.seqB,Zhb,Zhw]at h;simp only[Region.linearise.go]
 change ST Q c ops R (match(Region.ready .any ops listed)[t% (Region.ready .any ops listed).length]? with
   |some i=>[i]
   |none=>[]) es a w
 grind
def SC.last{id n:Nat}{l:List Oper}(hm:Q.follows .mixedOrders=true)(hB:Region.lexTailB .any l.toArray n=true)(hsz:l.length=n+1)(h:wpStill Q l.toArray {w with drawn:=w.drawn+1} (λa'=>ST Q c l.toArray R [n] es a' {w with drawn:=w.drawn+1}) (l.take n) a):SC Q c (.region id l.toArray true) R es a w:=by
 refine SC.draw λt=> ?_;simp only[Region.lexTailB,Zhb,Zhw]at hB;obtain⟨⟨⟨⟨hsel,hn⟩,hs⟩,hc⟩,hlex⟩:=hB;have hn':n<l.length:=by simpa using hn
 have htl:(l.take n).length=n:=by simp;omega
 have hg:l.toArray.size-n=1:=by simp;omega
 rw[hg]at hlex
 have inv0:HeadInv .any l.toArray n (Array.replicate l.toArray.size false):=
  ⟨by simp,λj oj _ hl=>(by grind [getD_replicate_false]),λt _ ht=>getD_in (by grind) (getD_replicate_false _ _)⟩
 have H:=wpAnyL_lex (md:=.any) (g:=1) hsel hs hc hn (l.take n) 0 _ a (λj hj=>by
  simp_all) (by omega) inv0 (by simp_all) h
 simp only[Region.schedule,hm,Zj5,ZhR,Region.linearise];have e:l.toArray.size=(l.take n).length+1:=by rw[htl];simpa using hsz
 rw[e];exact ST.head (L:=λlisted' a'=>Region.seqB .any l.toArray 1 n listed'=true/\ST Q c l.toArray R [n] es a' {w with drawn:=w.drawn+1}) _ t _ a (by rw[<-e];exact H) λlisted a' t' hL=>ST.last hL.1 hL.2
end
section
variable {Q:Program}{c:Nat}{Post:Frame->List Frame->World->Prop}{es:List Ev}{a:Act}{w:World}{x y:Code}{b:Frame}{k k':List Item}{cs:List Frame}
def LS.two(h:LS Q c Post es (b.at a (.code x:: .code y::k)) cs w):LS Q c Post es (b.at a (.code (.seq x y)::k)) cs w:=LS.steps (.one step_seq) h
def LS.condT{o:Operand}(hc:a.eval o=.bool true)(h:LS Q c Post es (b.at a (.code x::k)) cs w):LS Q c Post es (b.at a (.code (.cond o x y)::k)) cs w:=LS.steps (.one (step_cond hc)) h
def LS.condF{o:Operand}(hc:a.eval o=.bool false)(h:LS Q c Post es (b.at a (.code y::k)) cs w):LS Q c Post es (b.at a (.code (.cond o x y)::k)) cs w:=LS.steps (.one (step_cond hc)) h
def LS.skip(h:LS Q c Post es (b.at a k) cs w):LS Q c Post es (b.at a (.code .skip::k)) cs w:=LS.steps (.one step_skip) h
def LS.block{id:Nat}(h:LS Q c Post es (b.at a (.code x:: .inBlock id::k)) cs w):LS Q c Post es (b.at a (.code (.block id x)::k)) cs w:=LS.steps (.one step_block) h
def LS.inBlock{id:Nat}(h:LS Q c Post es (b.at a k) cs w):LS Q c Post es (b.at a (.inBlock id::k)) cs w:=LS.steps (.one step_inBlock) h
theorem LS.inLoop(h:LS Q c Post es (b.at a (.code x:: .inLoop x::k)) cs w):LS Q c Post es (b.at a (.inLoop x::k)) cs w:=LS.steps (.one step_inLoop) h
def LS.exit{id:Nat}(h1:exitTo id k=some k')(h:LS Q c Post es (b.at a k') cs w):LS Q c Post es (b.at a (.code (.exit id)::k)) cs w:=LS.steps (.one (step_exit h1)) h
def LS.loopI(I:Nat->List Ev->Act->World->Prop){n:Nat}(h0:I n es a w)(hI:∀n es a w,I n es a w->(∀m es a w,m<n->I m es a w->LS Q c Post es (b.at a (.inLoop x::k)) cs w)->LS Q c Post es (b.at a (.code x:: .inLoop x::k)) cs w):LS Q c Post es (b.at a (.code (.loop x)::k)) cs w:=by
 have key:∀n es a w,I n es a w->LS Q c Post es (b.at a (.code x:: .inLoop x::k)) cs w:=by
  intro n
  induction n using Nat.strongRecOn with
  |_ n ih=>grind [inLoop]
 exact LS.steps (.one step_loop) (key n es a w h0)
def LS.wp{R:Exit->Act->World->Prop}(h:x.wp Q R a w)(hk:∀e a' w',R e a' w'->Z4F Q c Post es b k cs e a' w'):LS Q c Post es (b.at a (.code x::k)) cs w:=by
 obtain⟨e,a',w',q,r⟩:=h b k (cs++[capF Q]);have hq:=hk e a' w' q;cases e with
 |normal=>exact LS.steps r hq
 |exit id=>obtain⟨k',h1,h2⟩:=hq;exact LS.steps (r k' h1) h2
 |ret=>obtain⟨todo,r⟩:=r;exact LS.steps r (hq todo)
 |_=>exact hq.elim
def LS.regK(h:∀K:Act->World->Prop,(∀a w,LS Q c Post es (b.at a k) cs w->K a w)->x.wp Q (λe a w=>e=.normal/\K a w) a w):LS Q c Post es (b.at a (.code x::k)) cs w:=
 LS.wp (h _ λ_ _ q=>q) λe a' w' ⟨h1,h2⟩=>by subst h1;exact h2
def LS.send{id n:Nat}{l:List Oper}{v:Value}(hm:Q.follows .mixedOrders=true)(hB:Region.lexTailB .any l.toArray n=true)(hsz:l.length=n+1){o:Oper}{ch xx:Operand}(ho:l[n]?=some o)(hg:o.guard=none)(hop:o.op=.send ch xx)(h1:okV ch=true)(h2:okV xx=true)
  (h:wpStill Q l.toArray {w with drawn:=w.drawn+1} (λa'=>a'.eval ch=.chan (some c)/\a'.eval xx=v/\LS Q c Post es (b.at (a'.put o.dst undef) k) cs {w with drawn:=w.drawn+1}) (l.take n) a):LS Q c Post (.send v::es) (b.at a (.code (.region id l.toArray true)::k)) cs w:=
 SC.last (R:=λes' e a' w'=>e=.normal/\LS Q c Post es' (b.at a' k) cs w') hm hB hsz (Ul (λa' ⟨q1,q2,q3⟩=>ST.ev (o:=o) (by grind) (by simp[Region.wanted,hg]) ⟨ch,xx,hop,h1,h2,q1,q2⟩ (.nil ⟨rfl,q3⟩)) _ _ h) Post b k cs λes' e a' w' ⟨q1,q2⟩=>by subst q1;exact q2
def LS.region{id:Nat}{ops:Array Oper}(h:LS Q c Post es (b.at a (.inRegion ops (List.range ops.size)::k)) cs w):LS Q c Post es (b.at a (.code (.region id ops false)::k)) cs w:=LS.steps (.one step_region) h
def LS.value{ops:Array Oper}{i:Nat}{l:List Nat}{o:Oper}{v:Value}{w':World}(ho:ops[i]?=some o)(hw:Region.wanted o (yielded ops a.tmps)=true)(h:(execOp a.eval o).run Q w=.ok (.value v) w')(hk:LS Q c Post es (b.at (a.put o.dst v) (.inRegion ops l::k)) cs w'):LS Q c Post es (b.at a (.inRegion ops (i::l)::k)) cs w:=by
 have hfin:(b.at a (.inRegion ops (i::l)::k)).finish v=b.at (a.put o.dst v) (.inRegion ops l::k):=by grind [Frame.finish_at]
 refine LS.steps (.one (Zkt ?_)) hk;simp_all[stepG_op,stepG.apply]
def LS.regEnd{ops:Array Oper}(h:LS Q c Post es (b.at a k) cs w):LS Q c Post es (b.at a (.inRegion ops []::k)) cs w:=LS.steps (.one step_region_end) h
def LS.event{ops:Array Oper}{i:Nat}{l:List Nat}{o:Oper}{e:Ev}(ho:ops[i]?=some o)(hw:Region.wanted o (yielded ops a.tmps)=true)(he:match e with
   |.recv _|.closed _=>∃t ch d el inf z,o.op=.recv t ch true/\okV ch=true/\a.eval ch=.chan (some c)/\Q.underlying t=some (.chan d el)/\Q.info? el=some inf/\inf.zero=some z/\∀z',e=.closed z'->z'=z
   |.send v=>∃ch x,o.op=.send ch x/\okV ch=true/\okV x=true/\a.eval ch=.chan (some c)/\a.eval x=v)
  (hk:LS Q c Post es (b.at (a.put o.dst e.val) (.inRegion ops l::k)) cs w):LS Q c Post (e::es) (b.at a (.inRegion ops (i::l)::k)) cs w:=by
 refine LS.ev ⟨ops,i,l,k,o,rfl,rfl,ho,hw,?_⟩ ?_
 ·have hev:∀x,(b.at a (.inRegion ops (i::l)::k)).eval x=a.eval x:=Frame.eval_at b a _
  grind
 simp_all[aft,Zjs]
end
end
end Vm
end
section
namespace Vm
open Go
open Go.Proofs
noncomputable def ofC:Code:=match Tryz.f10.body with|some c=>c|none=>.skip
def sigV(f:FuncId):Option (List OT):=if f=28 then some [.fz,.mem [.fz],.mem [.fz]]else sig f
def Zej:List Nat:=[0,1,2,3,16,4,5,6,7,23,25,8,24,29,9,10,48,47,49,12,46,13]
def Zgg:List Nat:=[15,63,76,79]
def vf(P:Program):FC:= {P,ix:=pos (Zej++Zgg),fresh,sig:=sigV,tr:=[3],fix:=[4,23],n:=82,keep:=Zej}
def r0S:SS:=[(0,.fz)]
def r0N:SS:=[(0,.fz),(1,(.mem [.fz,.fz,.fz,.fz,.fz,.fz,.fz,.fz,.fz,.fz])),(2,(.mem [.nil,.nil])),(3,.fz)]
def r0:Stm:=
(.reg ⟨[],[],[(1,.m [(.fld (.sz (.s 0) 10) 0),(.fld (.sz (.s 0) 10) 1),(.fld (.sz (.s 0) 10) 2),(.fld (.sz (.s 0) 10) 3),(.fld (.sz (.s 0) 10) 4),(.fld (.sz (.s 0) 10) 5),(.fld (.sz (.s 0) 10) 6),(.fld (.sz (.s 0) 10) 7),(.fld (.sz (.s 0) 10) 8),(.fld (.sz (.s 0) 10) 9)]),(2,.m [(.c (.sl [])),(.c (.sl []))]),(3,.v (.c (.int .i64 (0))))]⟩)
def r0c:comp (vf (bes Tryz.prog)) (cAt ofC [0]) r0S=some (r0,⟨some r0N,[],[]⟩):=by kernel_rfl
def rXS:SS:=[(0,.fz),(1,(.mem [.fz,.fz,.fz,.fz,.fz,.fz,.fz,.fz,.fz,.fz])),(2,(.mem [.nil,.nil])),(3,.fz)]
def rXN:SS:=[(0,.fz),(1,(.mem [.fz,.fz,.fz,.fz,.fz,.fz,.fz,.fz,.fz,.fz])),(2,(.mem [.nil,.nil])),(3,.fz),(16,.fz)]
def rXR:SS:=[(0,.fz),(1,(.mem [.fz,.fz,.fz,.fz,.fz,.fz,.fz,.fz,.fz,.fz])),(2,(.mem [.nil,.nil])),(3,.fz),(16,.fz)]
def rX:Stm:=
(.seq
(.reg ⟨[.call 22 [] (.id 19) false false [(.mm 1 0 10)]],[],[(4,.v (.un .not (.s 22)))]⟩)
(.cond (.s 4)
 (.seq
 (.reg ⟨[],[([],(.ag [(.c (.sl [])),(.c (.sl []))]))],[(2,.m [(.c (.sl [])),(.c (.sl []))]),(3,.v (.c (.int .i64 (1))))]⟩)
 .ret)
 .skip))
def rXc:comp (vf (bes Tryz.prog)) (cAt ofC [1,0]) rXS=some (rX,⟨some rXN,[],[rXR]⟩):=by kernel_rfl
def r5S:SS:=[(1,(.mem [.fz,.fz,.fz,.fz,.fz,.fz,.fz,.fz,.fz,.fz])),(2,(.mem [.fz,.fz])),(3,.fz)]
def r5N:SS:=[(1,(.mem [.fz,.fz,.fz,.fz,.fz,.fz,.fz,.fz,.fz,.fz])),(2,(.mem [.fz,.fz])),(3,.fz),(5,.nil)]
def r5:Stm:=
(.reg ⟨[],[],[(6,.v (.c (.sl [])))]⟩)
def r5c:comp (vf (Sol.prog)) (cAt ofC [1,1,1,1,0]) r5S=some (r5,⟨some r5N,[],[]⟩):=by kernel_rfl
def r6S:SS:=[(1,(.mem [.fz,.fz,.fz,.fz,.fz,.fz,.fz,.fz,.fz,.fz])),(2,(.mem [.fz,.fz])),(3,.fz),(5,.nil)]
def r6N:SS:=[(1,(.mem [.fz,.fz,.fz,.fz,.fz,.fz,.fz,.fz,.fz,.fz])),(2,(.mem [.fz,.fz])),(3,.fz),(5,.nil),(6,(.mem [(.own 63)]))]
def r6:Stm:=
(.reg ⟨[],[],[(7,.m [(.c (.mp 0 [] []))])]⟩)
def r6c:comp (vf (Sol.prog)) (cAt ofC [1,1,1,1,1,0]) r6S=some (r6,⟨some r6N,[],[]⟩):=by kernel_rfl
def r7S:SS:=[(1,(.mem [.fz,.fz,.fz,.fz,.fz,.fz,.fz,.fz,.fz,.fz])),(2,(.mem [.fz,.fz])),(3,.fz),(5,.nil),(6,(.mem [(.own 63)]))]
def r7N:SS:=[(1,(.mem [.fz,.fz,.fz,.fz,.fz,.fz,.fz,.fz,.fz,.fz])),(2,(.mem [.fz,.fz])),(3,.fz),(5,.nil),(6,(.mem [(.own 63)])),(7,(.mem [(.own 64)]))]
def r7:Stm:=
(.reg ⟨[],[],[(8,.m [(.c (.mp 0 [] []))])]⟩)
def r7c:comp (vf (Sol.prog)) (cAt ofC [1,1,1,1,1,1,0]) r7S=some (r7,⟨some r7N,[],[]⟩):=by kernel_rfl
def rDS:SS:=[(1,(.mem [.fz,.fz,.fz,.fz,.fz,.fz,.fz,.fz,.fz,.fz])),(2,(.mem [.fz,.fz])),(3,.fz),(5,(.own 70)),(6,(.mem [(.own 63)])),(7,(.mem [(.own 64)])),(24,.fz),(25,.fz)]
def rDN:SS:=[(1,(.mem [.fz,.fz,.fz,.fz,.fz,.fz,.fz,.fz,.fz,.fz])),(2,(.mem [.fz,.fz])),(3,.fz),(5,(.own 70)),(6,(.mem [(.own 63)])),(7,(.mem [(.own 64)])),(25,.fz),(8,(.mem [.fz,.fz,.fz,.fz,.fz,.fz,.fz])),(24,.fz),(29,.fz)]
def rDX:SS:=[(1,(.mem [.fz,.fz,.fz,.fz,.fz,.fz,.fz,.fz,.fz,.fz])),(2,(.mem [.fz,.fz])),(3,.fz),(5,(.own 70)),(6,(.mem [(.own 63)])),(7,(.mem [(.own 64)])),(24,.fz),(25,.fz)]
def rD:Stm:=
(.seq
(.cond (.s 10)
 .skip
 (.exit 0))
(.block 1
 (.seq
 (.reg ⟨[],[],[(11,.m [(.fld (.sz (.ext (.s 12) 0) 7) 0),(.fld (.sz (.ext (.s 12) 0) 7) 1),(.fld (.sz (.ext (.s 12) 0) 7) 2),(.fld (.sz (.ext (.s 12) 0) 7) 3),(.fld (.sz (.ext (.s 12) 0) 7) 4),(.fld (.sz (.ext (.s 12) 0) 7) 5),(.fld (.sz (.ext (.s 12) 0) 7) 6)])]⟩)
 (.seq
 (.seq
 (.reg ⟨[],[],[(13,.v (.m 11 3))]⟩)
 (.cond (.s 13)
  (.seq
  (.reg ⟨[],[],[(8,.m [(.mput (.i .u64) (.m 8 0) (.m 11 5) (.m 11 4))])]⟩)
  (.exit 1))
  .skip))
 (.seq
 (.reg ⟨[],[],[(7,.m [(.mput (.i .u64) (.m 7 0) (.m 11 5) (.len (.s 6)))])]⟩)
 (.reg ⟨[],[],[(6,.v (.app (.s 6) (.lit [(.mm 11 0 7)]) 7))]⟩))))))
def rDc:comp (vf (Sol.prog)) (cAt ofC [1,1,1,1,1,1,1,0,1,0,0,1]) rDS=some (rD,⟨some rDN,[(0,rDX)],[]⟩):=by kernel_rfl
def rCS:SS:=[(1,(.mem [.fz,.fz,.fz,.fz,.fz,.fz,.fz,.fz,.fz,.fz])),(2,(.mem [.fz,.fz])),(3,.fz),(5,.fz),(6,(.mem [.fz])),(7,(.mem [.fz]))]
def rCR:SS:=[(1,(.mem [.fz,.fz,.fz,.fz,.fz,.fz,.fz,.fz,.fz,.fz])),(2,(.mem [.fz,.fz])),(3,.fz),(5,.fz),(6,(.mem [.fz])),(7,(.mem [.fz])),(9,(.clo 28 [7,6])),(10,(.mem [.fz,.fz])),(48,.fz),(47,.fz),(49,.fz),(46,.fz)]
def rC:Stm:=
(.seq
(.reg ⟨[],[],[(14,.no)]⟩)
(.seq
(.reg ⟨[],[],[(14,.no),(15,.m [(.c (.sl [])),(.c (.sl []))])]⟩)
(.seq
(.seq
(.reg ⟨[],[],[(14,.no),(16,.v (.c (.int .i64 (0)))),(17,.v (.len (.s 6))),(20,.v (.s 6))]⟩)
(.block 2
 (.loop [1,2,3,6,7,8,14,15,16,17,20]
  (.seq
  (.reg ⟨[],[],[(14,.no),(18,.v (.bin .lss (.s 16) (.s 17)))]⟩)
  (.seq
  (.cond (.s 18)
   .skip
   (.exit 2))
  (.seq
  (.block 3
   (.seq
   (.reg ⟨[],[],[(14,.no),(19,.m [(.fld (.flds (.idx (.s 20) (.s 16) 7) 0 7) 0),(.fld (.flds (.idx (.s 20) (.s 16) 7) 0 7) 1),(.fld (.flds (.idx (.s 20) (.s 16) 7) 0 7) 2),(.fld (.flds (.idx (.s 20) (.s 16) 7) 0 7) 3),(.fld (.flds (.idx (.s 20) (.s 16) 7) 0 7) 4),(.fld (.flds (.idx (.s 20) (.s 16) 7) 0 7) 5),(.fld (.flds (.idx (.s 20) (.s 16) 7) 0 7) 6)])]⟩)
   (.seq
   (.reg ⟨[],[],[(14,.no),(21,.v (.m 19 2))]⟩)
   (.reg ⟨[.callm 23 [] (.id 28) [.fz,(.mem [.fz]),(.mem [.fz])] [(.slc (.m 19 6) (.c (.int .i64 (0))) (.s 21) 1),(.ag [(.m 8 0)]),(.ag [(.m 7 0)])]],[],[(7,.m [(.fld (.ext (.s 23) 2) 0)]),(8,.m [(.fld (.ext (.s 23) 1) 0)]),(14,.no),(15,.m [(.app (.m 15 0) (.lit [(.ag [(.one (.ext (.s 23) 0)),(.slcl (.m 19 6) (.s 21) 1)])]) 2),(.m 15 1)])]⟩))))
  (.reg ⟨[],[],[(14,.no),(16,.v (.bin .add (.s 16) (.c (.int .i64 (1)))))]⟩)))))))
(.seq
(.reg ⟨[.callm 24 [] (.id 28) [.fz,(.mem [.fz]),(.mem [.fz])] [(.m 1 9),(.ag [(.m 8 0)]),(.ag [(.m 7 0)])]],[],[(7,.m [(.fld (.ext (.s 24) 2) 0)]),(8,.m [(.fld (.ext (.s 24) 1) 0)]),(14,.no),(15,.m [(.m 15 0),(.one (.ext (.s 24) 0))])]⟩)
(.seq
(.reg ⟨[.call 25 [] (.id 30) false false [(.mm 15 0 2)]],[],[(2,.m [(.fld (.sz (.ext (.s 25) 0) 2) 0),(.fld (.sz (.ext (.s 25) 0) 2) 1)]),(3,.v (.fl (.ext (.s 25) 1))),(14,.no)]⟩)
.ret)))))
def rCc:comp (vf (Sol.prog)) (cAt ofC [1,1,1,1,1,1,1,1]) rCS=some (rC,⟨none,[],[rCR]⟩):=by kernel_rfl
def pTo:Fn:=⟨16,[0,1,2,4,5,14,13,15,7,12,19,8,9,10,11,34],
(.seq
(.reg ⟨[],[],[(3,.v (.c (.sl [])))]⟩)
(.seq
(.reg ⟨[],[],[(4,.v (.c (.sl [])))]⟩)
(.seq
(.seq
(.reg ⟨[],[],[(5,.v (.c (.int .i64 (0)))),(6,.v (.len (.s 0))),(9,.v (.s 0))]⟩)
(.block 0
 (.loop [0,1,2,3,4,5,6,9]
  (.seq
  (.reg ⟨[],[],[(7,.v (.bin .lss (.s 5) (.s 6)))]⟩)
  (.seq
  (.cond (.s 7)
   .skip
   (.exit 0))
  (.seq
  (.block 1
   (.seq
   (.reg ⟨[],[],[(8,.v (.fld (.idx (.s 9) (.s 5) 1) 0))]⟩)
   (.seq
   (.seq
   (.reg ⟨[],[],[(10,.v (.bin .eql (.s 8) (.c (.int .u64 (0)))))]⟩)
   (.cond (.s 10)
    (.seq
    (.reg ⟨[],[],[(4,.v (.app (.s 4) (.lit [(.c (.int .i64 (-1)))]) 1))]⟩)
    (.exit 1))
    .skip))
   (.seq
   (.reg ⟨[.call 16 [] (.id 29) false false [(.s 8)]],[],[(11,.v (.ext (.s 16) 0)),(12,.v (.ext (.s 16) 1))]⟩)
   (.seq
   (.seq
   (.reg ⟨[],[],[(13,.v (.ext (.lk (.i .u64) (.m 1 0) (.s 11) (.int .u64 (0)) true) 0)),(14,.v (.ext (.lk (.i .u64) (.m 1 0) (.s 11) (.int .u64 (0)) true) 1))]⟩)
   (.seq
   (.reg ⟨[],[],[(15,.v (.s 14))]⟩)
   (.cond (.s 15)
    (.reg ⟨[],[],[(11,.v (.s 13))]⟩)
    .skip)))
   (.reg ⟨[],[],[(4,.v (.app (.s 4) (.lit [(.one (.lk (.i .u64) (.m 2 0) (.s 11) (.int .i64 (0)) false))]) 1))]⟩))))))
  (.reg ⟨[],[],[(5,.v (.bin .add (.s 5) (.c (.int .i64 (1)))))]⟩)))))))
(.seq
(.reg ⟨[],[],[(3,.v (.s 4)),(4,.no)]⟩)
.ret)))),
[(3,.v)]⟩
def cTo:Za Sol.prog fresh sig [.fz,(.mem [.fz]),(.mem [.fz])] (Vn [.fz,(.mem [.fz]),(.mem [.fz])]) Tryz.f28=some pTo:=by kernel_rfl
def p12:Fn:=⟨12,[0,1,2,3,4,5,24,6,29,7,8,63],
pQ [pR [(2,pS 0 2),(3,pS 1 2),pV 4 pF],pC [pK 12 35 [.m 2 1,.m 3 1]] [pV 5 (.s 12)],pQ [.reg ⟨[.lt 13 [] (.un .not (.s 5))],[([(13,false)],.bin .neq (.len (.m 2 0)) (.len (.m 3 0)))],[pV 6 (.ite (.s 13) pT (.bin .neq (.len (.m 2 0)) (.len (.m 3 0))))]⟩] (.cond (.s 6) (pQ [pR [pV 4 pF]] .ret) .skip),pQ [pR [pV 7 (pI 0)]] (.block 0 (.loop [0,1,2,3,4,5,6,7] (pQ [pQ [pR [pV 8 (.bin .lss (.s 7) (.len (.m 2 0)))]] (.cond (.s 8) .skip (.exit 0)),.block 1 (pQ [pC [pK 14 35 [.fld (.idx (.m 2 0) (.s 7) 2) 0,.fld (.idx (.m 3 0) (.s 7) 2) 0]] [pV 9 (.s 14)],pC [pK 15 22 [.fld (.idx (.m 2 0) (.s 7) 2) 1,.fld (.idx (.m 3 0) (.s 7) 2) 1]] [pV 10 (.s 15)],.reg ⟨[.lt 16 [] (.un .not (.s 9))],[([(16,false)],.un .not (.s 10))],[pV 11 (.ite (.s 16) pT (.un .not (.s 10)))]⟩] (.cond (.s 11) (pQ [pR [pV 4 pF]] .ret) .skip))] (pR [pV 7 (.bin .add (.s 7) (pI 1))])))),pR [pV 4 pT]] .ret,[(4,.v)]⟩
def c12:Za Sol.prog fresh sig [.fz,.fz] [] Tryz.f12=some p12:=by kernel_rfl
def p30:Fn:=⟨5,[0,1,2,3,6],
pQ [pR [(1,pS 0 2),(2,.m [pN,pN]),pV 3 (pI 0)],pQ [pC [pK 5 58 [.mm 1 0 2]] [pV 4 (.un .not (.s 5))]] (.cond (.s 4) (pQ [.reg ⟨[],[([],.ag [pN,pN])],[(2,.m [pN,pN]),pV 3 (pI 1)]⟩] .ret) .skip),pC [.callm 6 [] (.id 59) [.fz,(.own 119)] [.mm 1 0 2,.c (.mp 0 [] [])]] [(2,pM (.sz (.ext (.s 6) 0) 2) 2),pV 3 (pI 0)]] .ret,[(2,(.ag 2)),(3,.v)]⟩
def c30:Za Sol.prog fresh sig [.fz] [] Tryz.f30=some p30:=by kernel_rfl
def p35:Fn:=⟨7,[0,1,4,10,5,14,25],
pQ [pR [pV 2 pF],pQ [pR [pV 3 (.bin .neq (.len (.s 0)) (.len (.s 1)))]] (.cond (.s 3) (pQ [pR [pV 2 pF]] .ret) .skip),pQ [pR [pV 4 (pI 0)]] (.block 0 (.loop [0,1,2,3,4] (pQ [pQ [pR [pV 5 (.bin .lss (.s 4) (.len (.s 0)))]] (.cond (.s 5) .skip (.exit 0)),.block 1 (pQ [pR [pV 6 (.bin .neq (.fld (.idx (.s 0) (.s 4) 1) 0) (.fld (.idx (.s 1) (.s 4) 1) 0))]] (.cond (.s 6) (pQ [pR [pV 2 pF]] .ret) .skip))] (pR [pV 4 (.bin .add (.s 4) (pI 1))])))),pR [pV 2 pT]] .ret,[(2,.v)]⟩
def c35:Za Sol.prog fresh sig [.fz,.fz] [] Tryz.f35=some p35:=by kernel_rfl
def p58:Fn:=⟨11,[0,1,2,9,3,14,13,15,5,12,32],
pQ [pR [(1,pS 0 2),pV 2 pF],pQ [pR [pV 3 (.bin .gtr (.len (.m 1 1)) (pI 16))]] (.cond (.s 3) (pQ [pR [pV 2 pF]] .ret) .skip),pR [(4,.no)],pQ [pR [(4,.no),pV 5 (pI 0),pV 6 (.len (.m 1 0)),pV 9 (.m 1 0)]] (.block 0 (.loop [0,1,2,3,4,5,6,9] (pQ [pR [(4,.no),pV 7 (.bin .lss (.s 5) (.s 6))],.cond (.s 7) .skip (.exit 0),.block 1 (pQ [pR [(4,.no),(8,pM (.flds (.idx (.s 9) (.s 5) 2) 0 2) 2)],.reg ⟨[.lt 11 [] (.bin .gtr (.bin .add (.len (.m 8 0)) (.len (.m 8 1))) (pI 255)),.callm 12 [(11,false)] (.id 85) [.fz,(.mem [.fz,.fz])] [.m 8 0,.ag [.m 1 0,.m 1 1]]],[([(11,false)],.un .not (.ext (.s 12) 0))],[(1,pM (.ext (.s 12) 1) 2),(4,.no),pV 10 (.ite (.s 11) pT (.un .not (.ext (.s 12) 0)))]⟩] (.cond (.s 10) (pQ [pR [pV 2 pF,(4,.no)]] .ret) .skip))] (pR [(4,.no),pV 5 (.bin .add (.s 5) (pI 1))])))),pC [.callm 13 [] (.id 85) [.fz,(.mem [.fz,.fz])] [.m 1 1,.ag [.m 1 0,.m 1 1]]] [(1,pM (.ext (.s 13) 1) 2),pV 2 (.ext (.s 13) 0),(4,.no)]] .ret,[(2,.v)]⟩
def c58:Za Sol.prog fresh sig [.fz] [] Tryz.f58=some p58:=by kernel_rfl
def p59:Fn:=⟨11,[0,1,2,4,5,13,12,14,7,11,8],
pQ [pR [(2,pS 0 2),(3,.m [pN,pN])],pR [(4,.m [pN,pN])],pQ [pC [.callm 9 [] (.id 86) [.fz,(.own 119)] [.mm 2 0 2,.s 1]] [pV 1 (.ext (.s 9) 1),pV 5 (pI 0),pV 6 (.len (.ext (.s 9) 0)),pV 9 (.ext (.s 9) 0)]] (.block 0 (.loop [0,1,2,3,4,5,6,9] (pQ [pR [pV 7 (.bin .lss (.s 5) (.s 6))],.cond (.s 7) .skip (.exit 0),.block 1 (pQ [pR [pV 8 (.fld (.idx (.s 9) (.s 5) 1) 0)],pR [(10,pM (.flds (.idx (.m 2 0) (.s 8) 2) 0 2) 2)]] (pC [.call 11 [] (.id 87) true false [.m 10 0,.s 1]] [(4,.m [.app (.m 4 0) (.lit [.ag [.one (.s 11),.app pN (.m 10 1) 1]]) 2,.m 4 1])]))] (pR [pV 5 (.bin .add (.s 5) (pI 1))])))),pC [.call 12 [] (.id 87) true false [.m 2 1,.s 1]] [(4,.m [.m 4 0,.one (.s 12)])],pR [(3,pM (.mm 4 0 2) 2)]] .ret,[(3,(.ag 2))]⟩
def c59:Za Sol.prog fresh sig [.fz,(.own 119)] [(1,(.own 119))] Tryz.f59=some p59:=by kernel_rfl
def p85:Fn:=⟨9,[0,1,3,8,7,9,5,6,20],
pQ [pR [pV 2 pF],pQ [pR [pV 3 (pI 0),pV 4 (.len (.s 0)),pV 7 (.s 0)]] (.block 0 (.loop [0,1,2,3,4,7] (pQ [pR [pV 5 (.bin .lss (.s 3) (.s 4))],.cond (.s 5) .skip (.exit 0),.block 1 (pQ [pR [pV 6 (.fld (.idx (.s 7) (.s 3) 1) 0)],.reg ⟨[.lt 9 [] (.bin .lss (.s 6) (pI (-1)))],[([(9,false)],.bin .geq (.s 6) (.len (.m 1 0)))],[pV 8 (.ite (.s 9) pT (.bin .geq (.s 6) (.len (.m 1 0))))]⟩] (.cond (.s 8) (pQ [pR [pV 2 pF]] .ret) .skip))] (pR [pV 3 (.bin .add (.s 3) (pI 1))])))),pR [pV 2 pT]] .ret,[(2,.v)]⟩
def c85:Za Sol.prog fresh sig [.fz,(.mem [.fz,.fz])] [(1,(.mem [.fz,.fz]))] Tryz.f85=some p85:=by kernel_rfl
def p86:Fn:=⟨9,[0,1,2,3,4,5,6,7,17],
pQ [pR [(1,.no),(2,pS 0 2),(3,.m [.s 1]),pV 4 pN],pR [(3,.m [.mclr (.m 3 0)])],pR [(5,.m [pN])],pR [(6,.no)],pC [.callm 9 [] (.id 105) [.fz,(.mem [(.own 119)]),(.mem [(.own 3)])] [.m 2 1,.ag [.m 3 0],.ag [.m 5 0]]] [(3,.m [.fld (.ext (.s 9) 1) 0]),(5,.m [.fld (.ext (.s 9) 2) 0]),(6,.no)],pQ [pR [(6,.no),pV 7 (pI 0)]] (.block 0 (.loop [0,2,3,4,5,6,7] (pQ [pQ [pR [(6,.no),pV 8 (.bin .lss (.s 7) (.len (.m 5 0)))]] (.cond (.s 8) .skip (.exit 0)),.block 1 (pC [.callm 10 [] (.id 105) [.fz,(.mem [(.own 119)]),(.mem [(.own 3)])] [.fld (.idx (.m 2 0) (.fld (.idx (.m 5 0) (.s 7) 1) 0) 2) 0,.ag [.m 3 0],.ag [.m 5 0]]] [(3,.m [.fld (.ext (.s 10) 1) 0]),(5,.m [.fld (.ext (.s 10) 2) 0]),(6,.no)])] (pR [(6,.no),pV 7 (.bin .add (.s 7) (pI 1))])))),pR [pV 4 (.m 5 0),(6,.no)]] .ret,[(4,.v)]⟩
def c86:Za Sol.prog fresh sig [.fz,(.own 119)] [(3,(.mem [(.own 119)]))] Tryz.f86=some p86:=by kernel_rfl
def p87:Fn:=⟨10,[0,1,4,5,10,9,11,7,8,15],
pQ [pR [pV 2 pN],pR [pV 3 pN],pQ [pR [pV 4 (pI 0),pV 5 (.len (.s 0)),pV 8 (.s 0)]] (.block 0 (.loop [0,1,2,3,4,5,8] (pQ [pR [pV 6 (.bin .lss (.s 4) (.s 5))],.cond (.s 6) .skip (.exit 0),.block 1 (pQ [pR [pV 7 (.fld (.idx (.s 8) (.s 4) 1) 0)],pQ [pR [pV 9 (.bin .geq (.s 7) (pI 0))]] (.cond (.s 9) (pR [pV 7 (.lk (.i .i64) (.s 1) (.s 7) (.int .i64 0) false)]) .skip)] (pR [pV 3 (.app (.s 3) (.lit [.one (.s 7)]) 1)]))] (pR [pV 4 (.bin .add (.s 4) (pI 1))])))),pR [pV 2 (.s 3),(3,.no)]] .ret,[(2,.v)]⟩
def c87:Za Sol.prog fresh sig [.fz,.fz] [(4,(.own 3))] Tryz.f87=some p87:=by kernel_rfl
def p105:Fn:=⟨11,[0,1,2,10,9,11,5,8,6,7,25],
pQ [pR [pV 3 (pI 0),pV 4 (.len (.s 0)),pV 7 (.s 0)]] (.block 0 (.loop [0,1,2,3,4,7] (pQ [pR [pV 5 (.bin .lss (.s 3) (.s 4))],.cond (.s 5) .skip (.exit 0),.block 1 (pQ [pR [pV 6 (.fld (.idx (.s 7) (.s 3) 1) 0)],pR [pV 8 (.fl (.ext (.lk (.i .i64) (.m 1 0) (.s 6) (.int .i64 0) true) 0)),pV 9 (.fl (.ext (.lk (.i .i64) (.m 1 0) (.s 6) (.int .i64 0) true) 1))],.reg ⟨[.lt 11 [] (.bin .geq (.s 6) (pI 0))],[([(11,true)],.un .not (.s 9))],[pV 10 (.ite (.s 11) (.un .not (.s 9)) pF)]⟩] (.cond (.s 10) (pQ [pR [(1,.m [.mput (.i .i64) (.m 1 0) (.s 6) (.len (.m 2 0))])]] (pR [(2,.m [.app (.m 2 0) (.lit [.one (.s 6)]) 1])])) .skip))] (pR [pV 3 (.bin .add (.s 3) (pI 1))])))),[]⟩
def c105:Za Sol.prog fresh sig [.fz,(.mem [(.own 119)]),(.mem [(.own 3)])] [(1,(.mem [(.own 119)])),(2,(.mem [(.own 3)]))] Tryz.f105=some p105:=by kernel_rfl
end Vm
end
section
namespace Vm
open Go Go.Proofs
def Gr.sm(g:Gr):Prop:=g.nodes.length<=100000/\g.roots.length<=100000/\∀n∈g.nodes,n.ptrs.length<=100000/\n.data.length<=100000
def inR(n:Nat)(p:Int):Bool:=decide (-1<=p/\p<n)
def VE(k:Nat)(n:Nd):Bool:=decide (n.ptrs.length+n.data.length<=255)&&n.ptrs.all (inR k)
def right(g:Gr):Bool:=decide (g.roots.length<=16)&&g.nodes.all (VE g.nodes.length)&&g.roots.all (inR g.nodes.length)
def X0{α:Type}{p:α->Bool}{l:List α}{i:Nat}{x:α}(h:l[i]?=some x):(l.take (i+1)).all p=((l.take i).all p&&p x):=by
 rw[ZhM,h,Zkj];simp
def YR{α:Type}{p:α->Bool}{l:List α}{i:Nat}{x:α}(h:l[i]?=some x)(hp:p x=false):l.all p=false:=by
 rw[List.all_eq_false];exact⟨x,Zhg h,by simp[hp]⟩
def Z1Z{l:List Int}{ns:List V}{rs:V}(hl:l.length<=100000)(hr:rs.one=true)(ho:oneV rs=some rs):
  VCM Sol.prog 85 [.fz,.mem [.fz,.fz]] [.sl (l.map vi),.agg [.sl ns,rs]] (.tup [.bool (l.all (inR ns.length)),.agg [.sl ns,rs]]):=by
 refine WZ Sol.func85 follows (by kernel_rfl) c85 (by kernel_rfl) ?_;simp[-List.all_eq_true,-List.all_eq_false,p85];refine ZK (λt=>∃i:Nat,i<=l.length/\(l.take i).all (inR ns.length)=true/\t=[.v (.sl (l.map vi)),.m [.sl ns,rs],.v (.bool false),.v (vi i),.v (vi l.length),.no,.no,.v (.sl (l.map vi))]) (λt=>match get t 3 with|.v (.int _ n)=>l.length-n.toNat|_=>0) ?_ ?_
 ·exact⟨0,by simp,by simp,by simp⟩
 ·rintro t ⟨i,hi,hall,rfl⟩;by_cases h:i<l.length
  ·have hx:l[i]?=some l[i]:=Zh8 h;simp[-List.all_eq_true,-List.all_eq_false,h];simp(disch:=omega) only[Z4];split
   ·exact YR hx (by simp[inR];omega)
   ·split
    ·exact YR hx (by simp[inR];omega)
    ·refine⟨⟨i+1,by omega,?_,by simp⟩,by omega⟩;rw[X0 hx,hall];simp[inR];omega
  ·have:i=l.length:=by omega
   subst this;simp[-List.all_eq_true,-List.all_eq_false];simpa using hall
def Z2z{g:Gr}(hg:g.sm):VC Sol.prog 58 false [grV g] (.bool (right g)):=by
 obtain⟨hg1,hg2,hg3⟩:=hg;refine Z5 Sol.func58 follows (by kernel_rfl) c58 rfl ?_;simp[-List.all_eq_true,-List.all_eq_false,p58];split
 ·rename_i h;simp[-List.all_eq_true,-List.all_eq_false,right,show ¬g.roots.length<=16 by omega]
 ·rename_i h;refine ZK (λt=>∃i:Nat,i<=g.nodes.length/\(g.nodes.take i).all (VE g.nodes.length)=true/\t=[.v (grV g),.m [.sl (g.nodes.map ndV),.sl (g.roots.map vi)],.v (.bool false),.v (.bool false),.no,.v (vi i),.v (vi g.nodes.length),.no,.no,.v (.sl (g.nodes.map ndV))]) (λt=>match get t 5 with|.v (.int _ n)=>g.nodes.length-n.toNat|_=>0) ?_ ?_
  ·exact⟨0,by simp,by simp,by simp[h]⟩
  ·rintro t ⟨i,hi,hall,rfl⟩;by_cases hlt:i<g.nodes.length
   ·have hx:g.nodes[i]?=some g.nodes[i]:=Zh8 hlt;obtain⟨h1,h2⟩:=hg3 _ (Zhi hlt);have hw:=Z4 ((i:Int)+1) (by omega) (by omega);simp[-List.all_eq_true,-List.all_eq_false,hlt,hw];simp(disch:=omega) only[Z4];have hno:VE g.nodes.length g.nodes[i]=false->right g=false:=λh0=>by simp[-List.all_eq_true,-List.all_eq_false,right,YR hx h0]
    by_cases h3:(g.nodes[i].ptrs.length:Int)+(g.nodes[i].data.length:Int)<=255
    ·rw[if_pos h3];refine Y9 (Z1Z h1 (by rfl) (by rfl)) ?_;have h3':¬(255:Int)< (g.nodes[i].ptrs.length:Int)+(g.nodes[i].data.length:Int):=by omega
     cases h4:g.nodes[i].ptrs.all (inR g.nodes.length)
     ·simp[-List.all_eq_true,-List.all_eq_false,h3',h4];exact hno (by simp[-List.all_eq_true,-List.all_eq_false,VE,h4])
     ·simp[-List.all_eq_true,-List.all_eq_false,h3',h4,hw];refine⟨⟨i+1,by omega,?_,by simp⟩,by omega⟩;rw[X0 hx,hall];simp[-List.all_eq_true,-List.all_eq_false,VE,h4];omega
    ·rw[if_neg h3];exact hno (by simp[-List.all_eq_true,-List.all_eq_false,VE];intro;omega)
   ·have:i=g.nodes.length:=by omega
    subst this;simp[-List.all_eq_true,-List.all_eq_false];refine Y9 (Z1Z hg2 (by rfl) (by rfl)) ?_;rw[ZhS]at hall;simp[-List.all_eq_true,-List.all_eq_false,right,hall];omega
end Vm
namespace Vm
open Go Go.Proofs
def Z5N{a b:List Int}(ha:a.length<=100000):VC Sol.prog 35 false [.sl (a.map vi),.sl (b.map vi)] (.bool (decide (a=b))):=by
 refine Z5 Sol.func35 follows (by kernel_rfl) c35 rfl ?_;by_cases hl:a.length=b.length
 ·simp[p35,hl];refine ZK (λt=>∃i:Nat,i<=b.length/\a.take i=b.take i/\t=[.v (.sl (a.map vi)),.v (.sl (b.map vi)),.v (.bool false),.v (.bool false),.v (vi i)]) (λt=>match get t 4 with|.v (.int _ n)=>b.length-n.toNat|_=>0) ?_ ?_
  ·exact⟨0,by simp,by simp,by simp⟩
  ·rintro t ⟨i,hi,heq,rfl⟩;by_cases h:i<b.length
   ·have h':i<a.length:=by omega
    by_cases hx:a[i]=b[i]
    ·simp[h,h',hx];simp(disch:=omega) only[Z4];exact⟨⟨i+1,by omega,Uj heq (by simp[h,h',hx]),by simp⟩,by omega⟩
    ·simp[h,h',hx];exact Zdg (i:=i) (by simp[h,h',hx])
   ·have:i=b.length:=by omega
    subst this;rw[ZhS,ZhI (by omega)]at heq;simp[heq]
 ·simp[p35,show ¬((a.length:Int)=(b.length:Int))by omega];intro e;subst e;exact hl rfl
end Vm
namespace Vm
open Go Go.Proofs
def upto(n:Nat):List V:=(List.range n).map λ(i:Nat)=>vi i
def atM(id:Nat)(l:List Int):V:=.mp id (l.map vi) (upto l.length)
def Yf:List Int->List Int->List Int
 |acc,[]=>acc
 |acc,x::l=>Yf (if 0<=x/\x∉acc then acc++[x]else acc) l
def za{x:Int}:∀ {l:List Int},Kj (vi x) (l.map vi)=some (l.findIdx? (· ==x))
 | []=>rfl
 |y::l=>by
  simp only[ZhA,Kj,Z5P,ZhR,Zkw];by_cases h:x=y
  ·subst h;simp
  ·have h2:(x==y)=false:=by simpa using h
   have h3:(y==x)=false:=by simpa using Zjd h
   simp[h2,h3,za]
def YV{x:Int}{l:List Int}:l.findIdx? (· ==x)=none↔x∉l:=by
 rw[ZkA];constructor
 ·intro h hm;have:=h x hm;simp at this
 ·intro h y hy;simp;intro e;subst e;exact h hy
def Z9v{id:Nat}{l:List Int}{x:Int}{z:V}{ok:Bool}:lkV (.i .i64) (atM id l) (vi x) z ok=match l.findIdx? (· ==x)with
  |some i=>some (if ok then .tup [vi i,.bool true]else vi i)
  |none=>some (if ok then .tup [z,.bool false]else z):=by
 unfold lkV atM;simp only[isK,Zko,ZjS,ZhT,za];cases h:l.findIdx? (· ==x)with
 |none=>rfl
 |some i=>
  have hlt:i<l.length:=by
   have:=ZhQ.1 h;exact this.1
  simp[upto,hlt]
def Z8o{id:Nat}{l:List Int}{x:Int}(hx:x∉l):Jn (.i .i64) (atM id l) (vi x) (vi l.length)=some (atM id (l++[x])):=by
 unfold Jn atM;simp only[isK,Zko,ZjS,ZhT,za,YV.2 hx];simp[upto,Zjx]
@[simp]def ZfG(id:Nat)(l:List Int):oneV (atM id l)=some (atM id l):=rfl
def qV{ns acc:List Int}{id:Nat}(hns:ns.length<=100000)(hacc:acc.length<=1000000):VCM Sol.prog 105 [.fz,.mem [.own 119],.mem [.own 3]] [.sl (ns.map vi),.agg [atM id acc],.agg [.sl (acc.map vi)]]
  (.tup [.tup [],.agg [atM id (Yf acc ns)],.agg [.sl ((Yf acc ns).map vi)]]):=by
 refine WZ Sol.func105 follows (by kernel_rfl) c105 (by kernel_rfl) ?_;simp[p105];refine ZK (λt=>∃i l,i<=ns.length/\Yf l (ns.drop i)=Yf acc ns/\l.length<=1000000+i/\t=[.v (.sl (ns.map vi)),.m [atM id l],.m [.sl (l.map vi)],.v (vi (i:Nat)),.v (vi ns.length),.no,.no,.v (.sl (ns.map vi))]) (λt=>match get t 3 with|.v (.int _ n)=>ns.length-n.toNat|_=>0) ?_ ?_
 ·exact⟨0,acc,by simp,by simp,by omega,by simp⟩
 ·rintro t ⟨i,l,hi,hn,hl,rfl⟩;by_cases h:i<ns.length
  ·have hd:ns.drop i=ns[i]::ns.drop (i+1):=(ZhZ h);rw[hd,Yf]at hn;simp[h,Z9v];by_cases hm:ns[i]∈l
   ·have hsome:∃j,l.findIdx? (· ==ns[i])=some j:=by
     cases hj:l.findIdx? (· ==ns[i])with
     |none=>exact absurd hm (YV.1 hj)
     |some j=>exact⟨j,rfl⟩
    obtain⟨j,hj⟩:=hsome;simp[hj,flV,V.flatc];simp(disch:=omega) only[Z4];rw[if_neg (by simp[hm])]at hn;exact⟨⟨i+1,by omega,l,hn,by omega,rfl,rfl,by simp⟩,by omega⟩
   ·simp[YV.2 hm,flV,V.flatc];simp(disch:=omega) only[Z4];by_cases h0:0<=ns[i]
    ·rw[if_pos h0,Z8o hm];rw[if_pos ⟨h0,hm⟩]at hn;simp;refine⟨by simp[lim];omega,⟨i+1,by omega,l++[ns[i]],hn,by simp;omega,rfl,by simp,by simp⟩,by omega⟩
    ·rw[if_neg h0];rw[if_neg (by simp[h0])]at hn;exact⟨⟨i+1,by omega,l,hn,by omega,rfl,rfl,by simp⟩,by omega⟩
  ·have:i=ns.length:=by omega
   subst this;simp[Yf]at hn;subst hn;simp
@[simp]def ZeA(id:Nat)(l:List Int):(atM id l).cells=[atM id l]:=rfl
def Good(n:Nat)(l:List Int):Prop:=l.Nodup/\∀x∈l,0<=x/\x<n
def zB:∀(n:Nat) {l:List Int},l.Nodup->(∀x∈l,0<=x/\x<n)->l.length<=n
 |0,l,_,h=>by
  cases l with
  |nil=>simp
  |cons x l=>have:=h x (by simp);omega
 |n+1,l,hn,h=>by
  by_cases hm:(n:Int)∈l
  ·have h1:=zB n (hn.erase (n:Int)) λx hx=>by
    have hx':=(hn.mem_erase_iff).1 hx;have:=h x hx'.2;omega
   rw[List.length_erase_of_mem hm]at h1;omega
  ·have:=zB n hn λx hx=>by
    have h1:=h x hx;have:x≠n:=λe=>hm (e▸hx);omega
   omega
def Good.len{n:Nat}{l:List Int}(h:Good n l):l.length<=n:=zB n h.1 h.2
def YD{n:Nat}:∀ {ns acc:List Int},Good n acc->(∀x∈ns,x<n)->Good n (Yf acc ns)
 | [],acc,h,_=>h
 |x::ns,acc,h,hx=>by
  simp only[Yf];refine YD ?_ λy hy=>hx y (by simp[hy]);split
  ·rename_i hc;refine⟨?_,λy hy=> ?_⟩
   ·rw[Zk0];exact⟨h.1,by simp,λa ha b hb=>by simp at hb;subst hb;exactλe=>hc.2 (e▸ha)⟩
   ·obtain hy|hy:=Zhx.1 hy
    ·exact h.2 y hy
    ·simp at hy;subst hy;exact⟨hc.1,hx _ (by simp)⟩
  ·exact h
def WO(g:Gr):Nat->Nat->List Int->List Int
 |0,_,l=>l
 |f+1,i,l=>match l[i]? with
  |some x=>WO g f (i+1) (Yf l ((g.nodes[x.toNat]?).getD default).ptrs)
  |none=>l
def order(g:Gr):List Int:=WO g (g.nodes.length+1) 0 (Yf [] g.roots)
def Z9t{n:Nat}{p:Int}(h:inR n p=true): -1<=p/\p<n:=by simpa[inR]using h
def W9{g:Gr}(hr:right g=true):∀x∈g.roots,-1<=x/\x<g.nodes.length:=by
 simp only[right,Zhb,Zhm]at hr;exactλx hx=>Z9t (hr.2 x hx)
def WT{g:Gr}(hr:right g=true):∀n∈g.nodes,∀x∈n.ptrs,-1<=x/\x<g.nodes.length:=by
 simp only[right,Zhb,Zhm,VE]at hr;exactλn hn x hx=>Z9t ((hr.1.2 n hn).2 x hx)
def Z8x{g:Gr}(hg:g.sm)(hr:right g=true)(id:Nat)(ks vs:List V):
  wpS Sol.prog p86.body [.v (grV g),.v (.mp id ks vs)] (λs=>get s 4=.v (.sl ((order g).map vi))/\get s 3=.m [atM id (order g)]) (λ_ _=>False) (λs=>get s 4=.v (.sl ((order g).map vi))/\get s 3=.m [atM id (order g)]):=by
 obtain⟨hg1,hg2,hg3⟩:=hg;simp[p86];refine Y9 (qV (ns:=g.roots) (acc:=[]) (id:=id) hg2 (by simp)) ?_;simp;have hroots:=W9 hr;have hgood:Good g.nodes.length (Yf [] g.roots):=YD ⟨by simp,by simp⟩ λx hx=>(hroots x hx).2;refine ZK (λt=>∃i l,i<=l.length/\Good g.nodes.length l/\WO g (g.nodes.length+1-i) i l=order g/\t=[.v (grV g),.no,.m [.sl (g.nodes.map ndV),.sl (g.roots.map vi)],.m [atM id l],.v (.sl []),.m [.sl (l.map vi)],.no,.v (vi (i:Nat))]) (λt=>match get t 7 with|.v (.int _ n)=>g.nodes.length-n.toNat|_=>0) ?_ ?_
 ·exact⟨0,_,by simp,hgood,rfl,by simp⟩
 ·rintro t ⟨i,l,hi,hl,ho,rfl⟩;have hlen:=hl.len;by_cases h:i<l.length
  ·obtain⟨x0,x1⟩:=hl.2 _ (Zhi h);obtain⟨k,hk⟩:=Zhl x0;have hkl:k<g.nodes.length:=by omega
   have hx:l[i]?=some (k:Int):=by rw[Zh8 h,hk]
   simp[h,hk,hkl];refine Y9 (qV (hg3 _ (Zhi hkl)).1 (by omega)) ?_;simp;simp(disch:=omega) only[Z4];have hgood':Good g.nodes.length (Yf l g.nodes[k].ptrs):=YD hl λx hx=>(WT hr _ (Zhi hkl) x hx).2;refine⟨⟨i+1,_,?_,hgood',?_,rfl,rfl,by simp⟩,by omega⟩
   ·have:∀ {ns acc:List Int},acc.length<=(Yf acc ns).length:=by
     intro ns
     induction ns with
     |nil=>intro acc;simp[Yf]
     |cons y ns ih=>
      intro acc;simp only[Yf];refine Zht ?_ ih;split<;>simp
    exact Zht h this
   ·rw[show g.nodes.length+1-i=(g.nodes.length+1- (i+1))+1 by omega,WO,hx]at ho;simpa[hkl]using ho
  ·have:i=l.length:=by omega
   subst this
   have hol:l=order g:=by
    rw[<-ho];cases hf:g.nodes.length+1-l.length with
    |zero=>omega
    |succ f=>simp[WO]
   subst hol;simp
def Z6w{g:Gr}(hg:g.sm)(hr:right g=true)(id:Nat)(ks vs:List V):VCM Sol.prog 86 [.fz,.own 119] [grV g,.mp id ks vs] (.tup [.sl ((order g).map vi),atM id (order g)]):=by
 refine⟨by kernel_rfl,λB w h us hok hA=> ?_⟩;obtain⟨hA1,hA2,hA3⟩:=hA;obtain⟨tk1,ht1,hr1⟩:=hA3 1 (.own 119) (.mp id ks vs) rfl rfl;simp only[argK,Zh6]at ht1;subst ht1;obtain⟨x1,hx1,hown⟩:=hr1;simp only[eval,Zh6]at hx1;subst hx1;obtain⟨_,_,hl,_⟩|⟨id',ks',vs',b,es,clk,he,hv,hbl,hB,hid,hh,h1,h2,h3,h4⟩:=hown
 ·cases hl
 cases he
 have hA':RelA Sol.prog B w h [.fz,.own 119] [grV g,.mp (b+1) ks vs] us:=by
  refine⟨rfl,hA2,λi k x hk hx=> ?_⟩
  match i,hk,hx with
  |0,hk,hx=>exact hA3 0 k x hk hx
  |1,hk,hx=>
   simp at hk hx;subst hk hx;exact⟨_,rfl,_,rfl,.inr ⟨b+1,ks,vs,b,es,clk,rfl,hv,hbl,hB,.inr rfl,hh,h1,h2,h3,h4⟩⟩
  |i+2,hk,hx=>simp at hk
 refine Z21 (cf:=p86) (fin:=[(3,.mem [.own 119])]) (xs:=[grV g,.mp (b+1) ks vs]) (Rt:=λs=>get s 4=.v (.sl ((order g).map vi))/\get s 3=.m [atM (b+1) (order g)]) Sol.func86 follows c86 (Z8x hg hr (b+1) ks vs) hok hA' λc s S a w' h' hP hix hix2 hres hRt hrel hnil hK hfrm hfin=> ?_;rw[<-hP]at hfin hres⊢;simp only[j0,Zhb,Zhm]at hfin;obtain⟨hfin1,hle⟩:=hfin;obtain⟨hrel2,hnil2⟩:=Tz hrel hnil hle;have hix3:c.ix 3=3:=hix2 3 (by decide)
 have hr:resV s (Z6P c.P c.ix Tryz.f86)=some (.sl ((order g).map vi)):=by
  rw[<-hres];simp[p86,hRt.1]
 obtain⟨v,hv',hvr⟩:=WS (D:=(h'.drop (Ti S [(3,.mem [.own 119])])).F) hrel hnil (λb hb=>.inl hb) (λq hq=>by
  have h1:=hfin1 q hq;have h2:=Zhm.1 (show Z2w Tryz.f86 [(3,.mem [.own 119])]=true by kernel_rfl) q hq;refine⟨h1,λi b hb=>.inr ⟨Uc q,i+1,?_,by omega,hb⟩⟩;unfold Ti;rw[ZkC.1 h2];cases S.at (Uc q)with
  |none=>rfl
  |some k=>cases k<;>rfl) hr
 obtain⟨u,hu,b3,us3,T3,e1,e2,e3,e4,e5⟩:=hrel2.at_ 3 (by rw[Zk];exact Zc s c) (by rw[Zk];rfl);obtain⟨X,hX,hown2⟩:=e5 0 (.own 119,.m (c.ix 3) 0) rfl
 have hXe:X=atM (b+1) (order g):=by
  simp only[eval,hix3,hRt.2]at hX;simpa using hX.symm
 subst hXe;obtain⟨_,_,hl,_⟩|⟨id2,ks2,vs2,b2,es2,clk2,he2,hv2,hbl2,hB2,hid2,hh2,q1,q2,q3,q4⟩:=hown2
 ·cases hl
 simp only[atM,V.mp.injEq]at he2;obtain⟨rfl,rfl,rfl⟩:=he2;have hbb:b2=b:=by omega
 subst hbb;obtain⟨r1,r2,r3⟩:=hrel2.ok.b_lt 3 1 b2 hbl2
 refine⟨v,hv',v,.sl ((order g).map vi),[.bool false,atM id (order g)],{F:=(h'.drop (Ti S [(3,.mem [.own 119])])).F,bl:=λt i=>if t=1/\i=1 then some b2 else none,K:=h'.K},rfl,hfrm.below,hfrm.same,
  ⟨hrel2.ok.base,hrel2.ok.f_lt,hrel2.ok.f_or,hrel2.ok.g_F,λt i x hx=> ?_,λt i t' i' x hx hx'=> ?_,hrel2.ok.k_lt,λt i x hx=> ?_,hrel2.ok.k_F⟩,hK,hvr,⟨rfl,λi k y hk hkz hy=> ?_⟩,rfl⟩
 ·simp only at hx;split at hx
  ·simp only[Zh6]at hx;subst hx;exact⟨r1,r2,r3⟩
  ·cases hx
 ·simp only at hx hx';split at hx<;>split at hx'<;>first|(cases hx;done)|(cases hx';done)|skip
  rename_i c1 c2;exact⟨c1.1.trans c2.1.symm,c1.2.trans c2.2.symm⟩
 ·simp only at hx;split at hx
  ·simp only[Zh6]at hx;subst hx;exact hrel2.ok.k_bl 3 1 b2 hbl2
  ·cases hx
 ·match i,hk,hy with
  |0,hk,hy=>simp at hk;exact absurd hk.symm hkz
  |1,hk,hy=>
   simp at hk hy;subst hk hy;exact⟨_,rfl,_,rfl,.inr ⟨id,_,_,b2,es2,clk2,rfl,hv,by simp,hB,hid,hh2,q1,q2,q3,q4⟩⟩
  |i+2,hk,hy=>simp at hk
end Vm
namespace Vm
open Go Go.Proofs
def at0(l:List Int)(p:Int):Int:=match l.findIdx? (· ==p)with
 |some i=>(i:Nat)
 |none=>0
def XC(l ps:List Int):List Int:=ps.map λp=>if 0<=p then at0 l p else p
def VR(g:Gr)(l:List Int)(x:Int):Nd:=let n:=(g.nodes[x.toNat]?).getD default;⟨XC l n.ptrs,n.data⟩
def LY(g:Gr):Gr:=⟨(order g).map (VR g (order g)),XC (order g) g.roots⟩
def ZaC{id:Nat}{l:List Int}{x:Int}:lkV (.i .i64) (atM id l) (vi x) (vi 0) false=some (vi (at0 l x)):=by
 rw[Z9v];unfold at0;cases l.findIdx? (· ==x)<;>simp
def Zai{l:List Int}:∀c∈flat (l.map vi),c.flatc=true:=by
 intro c hc;simp only[flat,ZiQ,Zhq]at hc;obtain⟨y,⟨a,_,rfl⟩,hc⟩:=hc;have:c=vi a:=by simpa[V.cells]using hc
 subst this;rfl
def Z2h{ps l:List Int}{id:Nat}(hp:ps.length<=100000):VC Sol.prog 87 true [.sl (ps.map vi),atM id l] (.sl ((XC l ps).map vi)):=by
 refine Z99 (t:=4) (ty:=3) Sol.func87 follows (by kernel_rfl) rfl c87 rfl Zai ?_;simp[p87];refine ZK (λt=>∃i:Nat,i<=ps.length/\t=[.v (.sl (ps.map vi)),.v (atM id l),.v (.sl []),.v (.sl ((XC l (ps.take i)).map vi)),.v (vi i),.v (vi ps.length),.no,.no,.v (.sl (ps.map vi))]) (λt=>match get t 4 with|.v (.int _ n)=>ps.length-n.toNat|_=>0) ?_ ?_
 ·exact⟨0,by simp,by simp[XC]⟩
 ·rintro t ⟨i,hi,rfl⟩;by_cases h:i<ps.length
  ·have hx:ps[i]?=some ps[i]:=Zh8 h
   have hstep:XC l (ps.take (i+1))=XC l (ps.take i)++[if 0<=ps[i]then at0 l ps[i]else ps[i]]:=by
    unfold XC;rw[ZhM,hx,Zic];rfl
   have hlen:(XC l (ps.take i)).length<=100000:=by simp[XC];omega
   simp[h];simp(disch:=omega) only[Z4];by_cases h0:0<=ps[i]
   ·simp[h0,ZaC];refine⟨by simp[lim];omega,⟨i+1,by omega,by rw[hstep];simp[h0],by simp⟩,by omega⟩
   ·simp[h0];refine⟨by simp[lim];omega,⟨i+1,by omega,by rw[hstep];simp[h0],by simp⟩,by omega⟩
  ·have:i=ps.length:=by omega
   subst this;simp
def Ju{g:Gr}(hr:right g=true):∀ {f i:Nat} {l:List Int},Good g.nodes.length l->Good g.nodes.length (WO g f i l)
 |0,i,l,h=>h
 |f+1,i,l,h=>by
  simp only[WO];split
  ·rename_i x hx;refine Ju hr (YD h λy hy=> ?_);obtain⟨x0,x1⟩:=h.2 x (Zhg hx);have hlt:x.toNat<g.nodes.length:=by omega
   rw[Zh8 hlt]at hy;exact(WT hr _ (Zhi hlt) y hy).2
  ·exact h
def Uu{g:Gr}(hr:right g=true):Good g.nodes.length (order g):=
 Ju hr (YD ⟨by simp,by simp⟩ λx hx=>(W9 hr x hx).2)
def Z4Z{g:Gr}(hg:g.sm)(hr:right g=true)(id:Nat)(ks vs:List V):VCM Sol.prog 59 [.fz,.own 119] [grV g,.mp id ks vs] (.tup [grV (LY g),atM id (order g)]):=by
 refine WZ Sol.func59 follows (by kernel_rfl) c59 (by kernel_rfl) ?_;simp[p59];refine Y9 (Z6w hg hr id ks vs) ?_;simp;obtain⟨hg1,hg2,hg3⟩:=hg;have hgood:=Uu hr;have hlen:=hgood.len;generalize ho:order g=l at hgood hlen;refine ZK (λt=>∃i:Nat,i<=l.length/\t=[.v (grV g),.v (atM id l),.m [.sl (g.nodes.map ndV),.sl (g.roots.map vi)],.m [.sl [],.sl []],.m [.sl (((l.take i).map (VR g l)).map ndV),.sl []],.v (vi i),.v (vi l.length),.no,.no,.v (.sl (l.map vi))]) (λt=>match get t 5 with|.v (.int _ n)=>l.length-n.toNat|_=>0) ?_ ?_
 ·exact⟨0,by simp,by simp⟩
 ·rintro t ⟨i,hi,rfl⟩;by_cases h:i<l.length
  ·have hx:l[i]?=some l[i]:=Zh8 h;obtain⟨x0,x1⟩:=hgood.2 _ (Zhi h);obtain⟨k,hk⟩:=Zhl x0;have hkl:k<g.nodes.length:=by omega
   obtain⟨s1,s2⟩:=hg3 _ (Zhi hkl);simp[h,hk,hkl];refine Z0 (Z2h s1) (by simp) ?_;simp;simp(disch:=omega) only[Z4]
   have hnd:V.agg [V.sl (List.map vi (XC l g.nodes[k].ptrs)),V.sl (List.map vu g.nodes[k].data)]=ndV (VR g l l[i]):=by
    simp[VR,hk,hkl,ndV]
   refine⟨by simp[lim];omega,by simp[lim];omega,⟨i+1,by omega,?_,by simp⟩,by omega⟩;rw[ZhM,Zhr,hx,hnd];rfl
  ·have:i=l.length:=by omega
   subst this;simp;refine Z0 (Z2h hg2) (by simp) ?_;simp;simp[LY,grV,ho]
def Z7P{g:Gr}(hg:g.sm)(hr:right g=true):(LY g).sm:=by
 obtain⟨hg1,hg2,hg3⟩:=hg;have hgood:=Uu hr;have hlen:=hgood.len;refine⟨by simp[LY];omega,by simpa[LY,XC]using hg2,λn hn=> ?_⟩;simp only[LY,Zhq]at hn;obtain⟨x,hx,rfl⟩:=hn;obtain⟨x0,x1⟩:=hgood.2 x hx;have hlt:x.toNat<g.nodes.length:=by omega
 have:=hg3 _ (Zhi hlt);simpa[VR,hlt,XC]using this
def noGr:Gr:=⟨[],[]⟩
def YI(g:Gr):V:=if right g=true then .tup [grV (LY g),vi 0]else .tup [grV noGr,vi 1]
def Z7z{g:Gr}(hg:g.sm):VC Sol.prog 30 false [grV g] (YI g):=by
 refine Z5 Sol.func30 follows (by kernel_rfl) c30 rfl ?_;simp[p30];refine Z0 (Z2z hg) (by simp) ?_;cases hr:right g
 ·simp[YI,hr,noGr,grV]
 ·simp;refine Y9 (Z4Z hg hr 0 [] []) ?_;simp[YI,hr];simp[grV]
def Z2l(g:Gr):List Int:=if right g=true then order g else []
def Z9X{a b:Gr}(ha:a.sm):VC Sol.prog 12 false [grV a,grV b] (.bool (decide (a=b))):=by
 refine Z5 Sol.func12 follows (by kernel_rfl) c12 rfl ?_;obtain⟨h1,h2,h3⟩:=ha;simp[p12];refine Z0 (Z5N h2) (by simp) ?_;by_cases hr:a.roots=b.roots
 ·simp[hr];by_cases hl:a.nodes.length=b.nodes.length
  ·simp[hl];refine ZK (λt=>∃i:Nat,i<=b.nodes.length/\a.nodes.take i=b.nodes.take i/\t=[.v (grV a),.v (grV b),.m [.sl (a.nodes.map ndV),.sl (a.roots.map vi)],.m [.sl (b.nodes.map ndV),.sl (b.roots.map vi)],.v (.bool false),.v (.bool true),.v (.bool false),.v (vi i)]) (λt=>match get t 7 with|.v (.int _ n)=>b.nodes.length-n.toNat|_=>0) ?_ ?_
   ·exact⟨0,by simp,by simp,by simp[hr]⟩
   ·rintro t ⟨i,hi,heq,rfl⟩;by_cases h:i<b.nodes.length
    ·have h':i<a.nodes.length:=by omega
     obtain⟨s1,s2⟩:=h3 _ (Zhi h');simp[h,h',hl];refine Z0 (Z5N s1) (by simp) ?_;simp[h,h',hl];refine Z0 (ZaR (Zht s2 (by omega))) (by simp) ?_;by_cases hp:a.nodes[i].ptrs=b.nodes[i].ptrs
     ·by_cases hd:a.nodes[i].data=b.nodes[i].data
      ·simp[hp,hd];simp(disch:=omega) only[Z4]
       have hx:a.nodes[i]=b.nodes[i]:=by
        generalize a.nodes[i]=x at hp hd;generalize b.nodes[i]=y at hp hd;cases x;cases y;simp at hp hd;simp[hp,hd]
       exact⟨⟨i+1,by omega,Uj heq (by simp[h,h',hx]),by simp⟩,by omega⟩
      ·simp[hp,hd];intro e;subst e;exact hd rfl
     ·simp[hp];intro e;subst e;exact hp rfl
    ·have:i=b.nodes.length:=by omega
     subst this;rw[ZhS,ZhI (by omega)]at heq;simp[hl];cases a;cases b;simp at heq hr;simp[heq,hr]
  ·simp[show ¬((a.nodes.length:Int)=(b.nodes.length:Int))by omega];intro e;subst e;exact hl rfl
 ·simp[hr];intro e;subst e;exact hr rfl
end Vm
namespace Vm
open Go Go.Proofs
end Vm
end
section
namespace Vm
open Go Go.Proofs
def g0:Gr:=⟨[⟨[],[]⟩,⟨[],[4]⟩,⟨[1],[]⟩,⟨[],[]⟩],[2,0]⟩
def g1:Gr:=⟨[],[0]⟩
def g2:Gr:=⟨[],[-1,-1]⟩
end Vm
end
section

end
section
namespace Vm
open Go Go.Proofs
def outs(g:Gr)(x:Int):List Int:=((g.nodes[x.toNat]?).getD default).ptrs
def RJ:∀(a:List Int) {acc b:List Int},Yf acc (a++b)=Yf (Yf acc a) b
 | [],_,_=>rfl
 |x::a,acc,b=>by simp only[Zij,Yf];exact RJ a
def Jq:∀(l:List Int) {acc:List Int},∃t,Yf acc l=acc++t
 | [],acc=>⟨[],by simp[Yf]⟩
 |x::l,acc=>by
  simp only[Yf];obtain⟨t,ht⟩:=Jq l (acc:=if 0<=x/\x∉acc then acc++[x]else acc);rw[ht];split
  ·exact⟨x::t,by simp⟩
  ·exact⟨t,rfl⟩
def Jp:∀ {l acc:List Int} {x:Int},x∈Yf acc l↔x∈acc\/(x∈l/\0<=x)
 | [],acc,x=>by simp[Yf]
 |y::l,acc,x=>by
  simp only[Yf,Jp (l:=l),Zho];split
  ·rename_i h;simp only[Zhx,Zia];constructor
   ·rintro((h1|rfl)|h1)
    ·exact .inl h1
    ·exact .inr ⟨.inl rfl,h.1⟩
    ·exact .inr ⟨.inr h1.1,h1.2⟩
   ·rintro(h1|⟨rfl|h1,h2⟩)
    ·exact .inl (.inl h1)
    ·exact .inl (.inr rfl)
    ·exact .inr ⟨h1,h2⟩
  ·rename_i h;constructor
   ·rintro(h1|h1)
    ·exact .inl h1
    ·exact .inr ⟨.inr h1.1,h1.2⟩
   ·rintro(h1|⟨rfl|h1,h2⟩)
    ·exact .inl h1
    ·exact .inl (by by_cases hx:x∈acc;exact hx;exact(h ⟨h2,hx⟩).elim)
    ·exact .inr ⟨h1,h2⟩
def Z5p{g:Gr}(hr:right g=true)(x:Int):∀y∈outs g x,-1<=y/\y<g.nodes.length:=by
 intro y hy;unfold outs at hy;cases hn:g.nodes[x.toNat]? with
 |none=>rw[hn]at hy;cases hy
 |some n=>rw[hn]at hy;exact WT hr n (Zhg hn) y hy
def RL{g:Gr}(hr:right g=true):∀ {f i:Nat} {l:List Int},Good g.nodes.length l->i<=l.length->g.nodes.length<f+i->l=Yf [] (g.roots++(l.take i).flatMap (outs g))->
  WO g f i l=Yf [] (g.roots++(WO g f i l).flatMap (outs g))
 |0,i,l,hg,hi,hf,hl=>by have:=hg.len;omega
 |f+1,i,l,hg,hi,hf,hl=>by
  simp only[WO];cases hx:l[i]? with
  |none=>
   have:l.length<=i:=by simpa using hx
   rw[ZhI this]at hl;exact hl
  |some x=>
   have hil:i<l.length:=by
    obtain h|h:=Zl4 i l.length
    ·exact h
    ·rw[Zih h]at hx;cases hx
   obtain⟨t,ht⟩:=Jq (outs g x) (acc:=l);refine RL hr (YD hg λy hy=>(Z5p hr x y hy).2) ?_ (by omega) ?_
   ·show i+1<=(Yf l (outs g x)).length;rw[ht,Zin];omega
   ·show Yf l (outs g x)=Yf [] (g.roots++((Yf l (outs g x)).take (i+1)).flatMap (outs g));rw[ht,List.take_append_of_le_length (by omega),ZhM,hx,<-ht];simp only[List.flatMap_append,Option.toList,<-Ziy];rw[RJ,<-hl];simp
def Jv{g:Gr}(hr:right g=true):order g=Yf [] (g.roots++(order g).flatMap (outs g)):=by
 refine RL hr (YD ⟨List.nodup_nil,by simp⟩ λy hy=>(W9 hr y hy).2) (Zim _) (by omega) ?_;simp
end Vm
end
section
namespace Vm
open Go
open Go.Proofs
def p36:Fn:=⟨10,[0,1,2,8,3,12,11,13,5,10],
pQ [pR [(1,pS 0 2),pV 2 (pI 0)],pQ [pC [pK 10 58 [.mm 1 0 2]] [pV 3 (.un .not (.s 10))]] (.cond (.s 3) (pQ [pR [pV 2 (pI 0)]] .ret) .skip),pR [pV 4 (pI 0)],pQ [pR [pV 5 (pI 0),pV 6 (.len (.m 1 0)),pV 9 (.m 1 0)]] (.block 0 (.loop [0,1,2,3,4,5,6,9] (pQ [pR [pV 7 (.bin .lss (.s 5) (.s 6))],.cond (.s 7) .skip (.exit 0),.block 1 (pQ [pR [(8,pM (.flds (.idx (.s 9) (.s 5) 2) 0 2) 2)]] (pR [pV 4 (.bin .add (.s 4) (.bin .add (.bin .add (pI 1) (.len (.m 8 0))) (.len (.m 8 1))))]))] (pR [pV 5 (.bin .add (.s 5) (pI 1))])))),pR [pV 2 (.s 4)]] .ret,[(2,.v)]⟩
def c36:Za Sol.prog fresh sig [.fz] [] Tryz.f36=some p36:=by kernel_rfl
end Vm
end
section
namespace Vm
open Go Go.Proofs
def ndW(n:Nd):Nat:=1+n.ptrs.length+n.data.length
def wsum(l:List Nd):Nat:=(l.map ndW).sum
def words(g:Gr):Nat:=if right g=true then wsum g.nodes else 0
def jR{l:List Nd}{i:Nat}{x:Nd}(h:l[i]?=some x):wsum (l.take (i+1))=wsum (l.take i)+ndW x:=by
 unfold wsum;rw[ZhM,h,Zic,List.sum_append];simp
def Z7w{l:List Nd}(h:∀n∈l,n.ptrs.length<=100000/\n.data.length<=100000)(i:Nat):wsum (l.take i)<=l.length*200001:=by
 have:∀ {l:List Nd},(∀n∈l,n.ptrs.length<=100000/\n.data.length<=100000)->wsum l<=l.length*200001:=by
  intro l
  induction l with
  |nil=>intro _;simp[wsum]
  |cons x l ih=>
   intro h;have h1:=ih λn hn=>h n (by simp[hn]);have h2:=h x (by simp);have h3:ndW x<=200001:=by unfold ndW;omega
   have h4:wsum (x::l)=ndW x+wsum l:=by simp[wsum]
   rw[h4,Zib,Ziq];omega
 refine Zht (this λn hn=>h n (Zhz hn)) (ZhD _ ?_);rw[Zik];omega
def Z7H{g:Gr}(hg:g.sm):VC Sol.prog 36 false [grV g] (vi (words g)):=by
 refine Z5 Sol.func36 follows (by kernel_rfl) c36 rfl ?_;simp[p36];refine Z0 (Z2z hg) (by simp) ?_;cases hr:right g
 ·simp[words,hr]
 ·obtain⟨hg1,hg2,hg3⟩:=hg;simp;refine ZK (λt=>∃i:Nat,i<=g.nodes.length/\t=[.v (grV g),.m [.sl (g.nodes.map ndV),.sl (g.roots.map vi)],.v (vi 0),.v (.bool false),.v (vi (wsum (g.nodes.take i):Nat)),.v (vi i),.v (vi g.nodes.length),.no,.no,.v (.sl (g.nodes.map ndV))]) (λt=>match get t 5 with|.v (.int _ n)=>g.nodes.length-n.toNat|_=>0) ?_ ?_
  ·exact⟨0,by simp,by simp[wsum]⟩
  ·rintro t ⟨i,hi,rfl⟩;by_cases h:i<g.nodes.length
   ·have hx:g.nodes[i]?=some g.nodes[i]:=Zh8 h;obtain⟨h1,h2⟩:=hg3 _ (Zhi h);have hs:=jR hx;have hle:=Z7w hg3 (i+1);have hle2:g.nodes.length*200001<=100000*200001:=ZhD _ hg1;simp[h];generalize g.nodes[i]=x at*;have hw:=Z4 ((i:Int)+1) (by omega) (by omega);have hw1:=Z4 (1+(x.ptrs.length:Int)) (by omega) (by omega);have hw2:=Z4 (1+(x.ptrs.length:Int)+x.data.length) (by omega) (by omega);unfold ndW at hs;have hw3:=Z4 ((wsum (g.nodes.take i):Int)+(1+(x.ptrs.length:Int)+x.data.length)) (by omega) (by omega);simp[hw,hw1,hw2,hw3];exact⟨⟨i+1,by omega,by rw[hs];omega,by simp⟩,by omega⟩
   ·have:i=g.nodes.length:=by omega
    subst this;simp[words,hr]
@[simp]def Z9Q{α β:Type}{f:α->β}{l:List α}:(l.map f).take l.length=l.map f:=ZhI (by simp)
def Z2L{α:Type}{f:α->V}{l:List α}{i:Nat}{x:α}{y:V}(hx:l[i]?=some x)(hy:f x=y):(l.map f).take i++[y]=(l.map f).take (i+1):=by
 rw[ZhM,Zhr,hx,Zhp,hy];rfl
end Vm
namespace Vm
open Go Go.Proofs
def Z5X{g:Gr}(hr:right g=true){x:Int}(hx:x∈g.roots)(h0:0<=x):x∈order g:=by
 rw[Jv hr,Jp];exact .inr ⟨by simp[hx],h0⟩
def Z8d{g:Gr}(hr:right g=true){x y:Int}(hx:x∈order g)(hy:y∈outs g x)(h0:0<=y):y∈order g:=by
 rw[Jv hr,Jp];exact .inr ⟨Zl0 _ (ZiQ.2 ⟨x,hx,hy⟩),h0⟩
def Za1{L:List Int}{x:Int}(h:x∈L):0<=at0 L x/\at0 L x<L.length/\L[(at0 L x).toNat]?=some x:=by
 unfold at0;cases hf:L.findIdx? (· ==x)with
 |none=>exact(YV.1 hf h).elim
 |some i=>
  obtain⟨h1,h2,_⟩:=ZhQ.1 hf;simp only[ZhG]at h2;refine⟨by simp,by simpa using h1,?_⟩;simp[h1,h2]
end Vm
end
section

end
section
namespace Vm
open Go Go.Proofs
structure Fo where
 ob:Ob
 ad:Int
 sl:List Int
 deriving Inhabited
def foV(f:Fo):V:=.agg [vi f.ob.at_,vi f.ob.size,vi f.ob.ptrs,.bool f.ob.gone,vu f.ob.target,vu f.ad,.sl (f.sl.map vu)]
@[simp]def ZcY(f:Fo):(foV f).cells=[vi f.ob.at_,vi f.ob.size,vi f.ob.ptrs,.bool f.ob.gone,vu f.ob.target,vu f.ad,.sl (f.sl.map vu)]:=rfl
@[simp]def Zg0(f:Fo):szV (foV f) 7=some (foV f):=rfl
@[simp]def ZcR(f:Fo):Q1 (foV f) 0 7=some (foV f):=rfl
@[simp]def Zc4(f:Fo):fldV (foV f) 0=some (vi f.ob.at_):=rfl
@[simp]def Zc5(f:Fo):fldV (foV f) 1=some (vi f.ob.size):=rfl
@[simp]def Zc6(f:Fo):fldV (foV f) 2=some (vi f.ob.ptrs):=rfl
@[simp]def Zc7(f:Fo):fldV (foV f) 3=some (.bool f.ob.gone):=rfl
@[simp]def Zc8(f:Fo):fldV (foV f) 4=some (vu f.ob.target):=rfl
@[simp]def Zc9(f:Fo):fldV (foV f) 5=some (vu f.ad):=rfl
@[simp]def Zca(f:Fo):fldV (foV f) 6=some (.sl (f.sl.map vu)):=rfl
structure Vw where
 ns:List Fo
 nm:List (Int×Int)
 tm:List (Int×Int)
 deriving Inhabited
def Vw.put(s:Vw)(f:Fo):Vw:=if f.ob.gone then {s with tm:=putA s.tm f.ad f.ob.target}else {s with ns:=s.ns++[f],nm:=putA s.nm f.ad s.ns.length}
def Vw.toA(s:Vw)(w:Int):Int:=if w=0 then-1 else(getA s.nm ((getA s.tm (adr w).1).getD (adr w).1)).getD 0
def ndF(s:Vw)(f:Fo):Nd:=⟨(f.sl.take f.ob.ptrs.toNat).map s.toA,f.sl.drop f.ob.ptrs.toNat⟩
def Vw.gr(s:Vw)(roots:List Int):Gr:=⟨s.ns.map (ndF s),roots.map s.toA⟩
def Z9i(s:Vw){ws:List Int}(hl:ws.length<=1000000)(hu:∀w∈ws,U64 w):
  VCM Sol.prog 28 [.fz,.mem [.fz],.mem [.fz]] [.sl (ws.map vu),.agg [mpA vu s.tm],.agg [mpA vi s.nm]] (.tup [.sl ((ws.map s.toA).map vi),.agg [mpA vu s.tm],.agg [mpA vi s.nm]]):=by
 refine WZ Sol.func28 follows (by kernel_rfl) cTo (by kernel_rfl) ?_;simp[pTo];refine Y2 5 ws.length (λi=>[(4,.v (.sl (((ws.take i).map s.toA).map vi))),(5,.v (vi i))]) (λ_=>True) (by simp) (by simp) trivial ?_;intro i hi _;by_cases h:i<ws.length
 ·have hx:ws[i]?=some ws[i]:=Zh8 h;have hU:=hu _ (Zhi h);have hw:=Z4 ((i:Int)+1) (by omega) (by omega)
  have htk:List.take (i+1) (List.map (vi∘s.toA) ws)=List.take i (List.map (vi∘s.toA) ws)++[vi (s.toA ws[i])]:=by
   rw[ZhM,Zhr,hx];rfl
  have hlim:min i ws.length+1<=lim:=by unfold lim;omega
  simp[h,hw,htk,hlim];split
  ·rename_i h0;simp[Vw.toA,h0]
  ·rename_i h0;refine Z0 (yp hU) (by simp) ?_;have e1:=Z0L (f:=vu) (l:=s.tm) (k:=(adr ws[i]).1) (z:=.int .u64 0) (ok:=true);cases h1:getA s.tm (adr ws[i]).1 with
   |none=>
    rw[h1]at e1;have e2:=Z0L (f:=vi) (l:=s.nm) (k:=(adr ws[i]).1) (z:=.int .i64 0) (ok:=false);cases h2:getA s.nm (adr ws[i]).1 with
    |none=>rw[h2]at e2;simp[e1,e2,Vw.toA,h0,h1,h2,hw,hlim]
    |some t=>rw[h2]at e2;simp[e1,e2,Vw.toA,h0,h1,h2,hw,hlim]
   |some u=>
    rw[h1]at e1;have e2:=Z0L (f:=vi) (l:=s.nm) (k:=u) (z:=.int .i64 0) (ok:=false);cases h2:getA s.nm u with
    |none=>rw[h2]at e2;simp[e1,e2,Vw.toA,h0,h1,h2,hw,hlim]
    |some t=>rw[h2]at e2;simp[e1,e2,Vw.toA,h0,h1,h2,hw,hlim]
 ·have:i=ws.length:=by omega
  subst this;simp
def ZfW{s:St}{st:Vw}{f:Fo}{N R:St->Prop}{X:Nat->St->Prop}(h6:get s 6=.v (.sl (st.ns.map foV)))(h7:get s 7=.m [mpA vi st.nm])(h8:get s 8=.m [mpA vu st.tm])(h12:get s 12=.v (.tup [foV f,.bool true]))(h10:get s 10=.v (.bool true))(hl:st.ns.length<=4000000)
  (hN:∀s',get s' 6=.v (.sl ((st.put f).ns.map foV))->get s' 7=.m [mpA vi (st.put f).nm]->get s' 8=.m [mpA vu (st.put f).tm]->get s' 1=get s 1->get s' 2=get s 2->get s' 3=get s 3->N s'):wpS Sol.prog rD s N X R:=by
 have e1:=Jo (f:=vu) (l:=st.tm) (k:=f.ad) (x:=f.ob.target);have e2:=Jo (f:=vi) (l:=st.nm) (k:=f.ad) (x:=(st.ns.length:Int));have hlim:st.ns.length+1<=lim:=by unfold lim;omega
 cases hg:f.ob.gone
 ·simp[rD,h10,h12,Zo,hg,h6,h7,h8,e2,hlim];refine hN _ ?_ ?_ ?_ ?_ ?_ ?_ <;>simp[Vw.put,hg,h8,Zo]<;>simp[foV,hg]
 ·simp[rD,h10,h12,Zo,hg,h6,h7,h8,e1];refine hN _ ?_ ?_ ?_ ?_ ?_ ?_ <;>simp[Vw.put,hg,h6,h7,Zo]
def ZdQ{s:St}{N R:St->Prop}{X:Nat->St->Prop}(h10:get s 10=.v (.bool false))(hX:X 0 s):wpS Sol.prog rD s N X R:=by
 simp[rD,h10,hX]
structure Vw.sm (st:Vw) (roots:List Int):Prop where
 n:st.ns.length<=100000
 f:∀f∈st.ns,0<=f.ob.ptrs/\f.ob.ptrs<=f.sl.length/\f.sl.length<=100000/\∀w∈f.sl,U64 w
 r:roots.length<=100000/\∀w∈roots,U64 w
def Vw.sm.gr{st:Vw}{roots:List Int}(h:st.sm roots):(st.gr roots).sm:=by
 refine⟨by simpa[Vw.gr]using h.n,by simpa[Vw.gr]using h.r.1,λn hn=> ?_⟩;simp only[Vw.gr,Zhq]at hn;obtain⟨f,hf,rfl⟩:=hn;obtain⟨_,_,h3,_⟩:=h.f f hf;simp only[ndF,Zi1,Zik,ZjI];omega
def ZfV{s:St}{st:Vw}{roots:List Int}{b c t y sc:V}{x5 x6 x7 x8:V}{N R:St->Prop}{X:Nat->St->Prop}(hs:st.sm roots)(h1:get s 1=.m [b,c,t,y,sc,x5,x6,x7,x8,.sl (roots.map vu)])(h6:get s 6=.v (.sl (st.ns.map foV)))(h7:get s 7=.m [mpA vi st.nm])(h8:get s 8=.m [mpA vu st.tm])
  (hR:∀s',resV s' [(2,.ag 2),(3,.v)]=some (YI (st.gr roots))->R s'):wpS Sol.prog rC s N X R:=by
 simp[rC,h6,Zo];refine Y2 16 st.ns.length (λi=>[(15,.m [.sl (((st.ns.take i).map (ndF st)).map ndV),.sl []]),(16,.v (vi i))]) (λ_=>True) (by simp[Zo]) (by simp[Zo]) trivial ?_;intro i hi _;by_cases h:i<st.ns.length
 ·have hx:st.ns[i]?=some st.ns[i]:=Zh8 h;obtain⟨p0,p1,p2,p3⟩:=hs.f _ (Zhi h);have hn:=hs.n;obtain⟨P,hP⟩:=Zhl p0;have hPl:P<=st.ns[i].sl.length:=by omega
  have hw:=Z4 ((i:Int)+1) (by omega) (by omega)
  have htk:List.take (i+1) (List.map (ndV∘ndF st) st.ns)=List.take i (List.map (ndV∘ndF st) st.ns)++[ndV (ndF st st.ns[i])]:=by
   rw[ZhM,Zhr,hx];rfl
  have hto:=Z9i st (ws:=st.ns[i].sl.take P) (by simp;omega) λw hw=>p3 w (Zhz hw);have hlim:min i st.ns.length+1<=lim:=by unfold lim;omega
  simp[Zo,h,h1,h6,h7,h8,hP,slcV,hPl];rw[Zjb]at hto;refine Y9 hto ?_;simp[Zo,Z79,hPl,hw,htk,hlim,hP,ndF,ndV]
 ·have:i=st.ns.length:=by omega
  subst this;simp[Zo,h1,h6,h7,h8];refine Y9 (Z9i st (ws:=roots) (by have:=hs.r.1;omega) hs.r.2) ?_;simp;have hc:=Z7z hs.gr;simp only[Vw.gr,grV,ZjO]at hc;refine Z0 hc (by simp) ?_;have he:YI (st.gr roots)=YI {nodes:=List.map (ndF st) st.ns,roots:=List.map st.toA roots}:=rfl;rw[he]at hR;generalize ({nodes:=List.map (ndF st) st.ns,roots:=List.map st.toA roots}:Gr)=g at*;unfold YI at hR⊢;split
  ·rename_i hg;rw[if_pos hg]at hR;simp;refine hR _ ?_;simp[resV,Si,JL,grV]
  ·rename_i hg;rw[if_neg hg]at hR;simp[noGr,grV];refine hR _ ?_;simp[resV,Si,JL,noGr,grV]
end Vm
end
section
namespace Vm
open Go Go.Proofs Go.RowKit Go.Conc
def ZbH{t:Array Value}(h:t.size=71):t=#[t.getD 0 undef,t.getD 1 undef,t.getD 2 undef,t.getD 3 undef,t.getD 4 undef,t.getD 5 undef,t.getD 6 undef,t.getD 7 undef,t.getD 8 undef,t.getD 9 undef,t.getD 10 undef,t.getD 11 undef,t.getD 12 undef,t.getD 13 undef,t.getD 14 undef,t.getD 15 undef,t.getD 16 undef,t.getD 17 undef,t.getD 18 undef,t.getD 19 undef,t.getD 20 undef,t.getD 21 undef,t.getD 22 undef,t.getD 23 undef,t.getD 24 undef,t.getD 25 undef,t.getD 26 undef,t.getD 27 undef,t.getD 28 undef,t.getD 29 undef,t.getD 30 undef,t.getD 31 undef,t.getD 32 undef,t.getD 33 undef,t.getD 34 undef,t.getD 35 undef,t.getD 36 undef,t.getD 37 undef,t.getD 38 undef,t.getD 39 undef,t.getD 40 undef,t.getD 41 undef,t.getD 42 undef,t.getD 43 undef,t.getD 44 undef,t.getD 45 undef,t.getD 46 undef,t.getD 47 undef,t.getD 48 undef,t.getD 49 undef,t.getD 50 undef,t.getD 51 undef,t.getD 52 undef,t.getD 53 undef,t.getD 54 undef,t.getD 55 undef,t.getD 56 undef,t.getD 57 undef,t.getD 58 undef,t.getD 59 undef,t.getD 60 undef,t.getD 61 undef,t.getD 62 undef,t.getD 63 undef,t.getD 64 undef,t.getD 65 undef,t.getD 66 undef,t.getD 67 undef,t.getD 68 undef,t.getD 69 undef,t.getD 70 undef]:=by
 refine ZkS (by simpa using h) λi h1 h2=> ?_;have h2':i<71:=by simpa using h2
 have e:t[i]=t.getD i undef:=by simp[Array.getD,h1]
 rw[e]
 revert h2
 match i,h2' with
 |0,_=>exactλ_=>rfl
 |1,_=>exactλ_=>rfl
 |2,_=>exactλ_=>rfl
 |3,_=>exactλ_=>rfl
 |4,_=>exactλ_=>rfl
 |5,_=>exactλ_=>rfl
 |6,_=>exactλ_=>rfl
 |7,_=>exactλ_=>rfl
 |8,_=>exactλ_=>rfl
 |9,_=>exactλ_=>rfl
 |10,_=>exactλ_=>rfl
 |11,_=>exactλ_=>rfl
 |12,_=>exactλ_=>rfl
 |13,_=>exactλ_=>rfl
 |14,_=>exactλ_=>rfl
 |15,_=>exactλ_=>rfl
 |16,_=>exactλ_=>rfl
 |17,_=>exactλ_=>rfl
 |18,_=>exactλ_=>rfl
 |19,_=>exactλ_=>rfl
 |20,_=>exactλ_=>rfl
 |21,_=>exactλ_=>rfl
 |22,_=>exactλ_=>rfl
 |23,_=>exactλ_=>rfl
 |24,_=>exactλ_=>rfl
 |25,_=>exactλ_=>rfl
 |26,_=>exactλ_=>rfl
 |27,_=>exactλ_=>rfl
 |28,_=>exactλ_=>rfl
 |29,_=>exactλ_=>rfl
 |30,_=>exactλ_=>rfl
 |31,_=>exactλ_=>rfl
 |32,_=>exactλ_=>rfl
 |33,_=>exactλ_=>rfl
 |34,_=>exactλ_=>rfl
 |35,_=>exactλ_=>rfl
 |36,_=>exactλ_=>rfl
 |37,_=>exactλ_=>rfl
 |38,_=>exactλ_=>rfl
 |39,_=>exactλ_=>rfl
 |40,_=>exactλ_=>rfl
 |41,_=>exactλ_=>rfl
 |42,_=>exactλ_=>rfl
 |43,_=>exactλ_=>rfl
 |44,_=>exactλ_=>rfl
 |45,_=>exactλ_=>rfl
 |46,_=>exactλ_=>rfl
 |47,_=>exactλ_=>rfl
 |48,_=>exactλ_=>rfl
 |49,_=>exactλ_=>rfl
 |50,_=>exactλ_=>rfl
 |51,_=>exactλ_=>rfl
 |52,_=>exactλ_=>rfl
 |53,_=>exactλ_=>rfl
 |54,_=>exactλ_=>rfl
 |55,_=>exactλ_=>rfl
 |56,_=>exactλ_=>rfl
 |57,_=>exactλ_=>rfl
 |58,_=>exactλ_=>rfl
 |59,_=>exactλ_=>rfl
 |60,_=>exactλ_=>rfl
 |61,_=>exactλ_=>rfl
 |62,_=>exactλ_=>rfl
 |63,_=>exactλ_=>rfl
 |64,_=>exactλ_=>rfl
 |65,_=>exactλ_=>rfl
 |66,_=>exactλ_=>rfl
 |67,_=>exactλ_=>rfl
 |68,_=>exactλ_=>rfl
 |69,_=>exactλ_=>rfl
 |70,_=>exactλ_=>rfl
 |i+71,h=>omega
def sliV(v:Value)(lo n:Nat):Value:=match v with
 |.slice (some ⟨b,o,q⟩) _ c=>.slice (some (if c=lo then⟨b,o,q⟩else⟨b,o+lo,q⟩)) n (c-lo)
 |v=>v
def fvV(h:Hp)(x:Nat->Value)(p:Nat)(o:Ob):Value:=.agg #[.int .i64 o.at_,.int .i64 o.size,.int .i64 o.ptrs,.bool o.gone,.int .u64 o.target,.int .u64 (ZI (layH h) ((p:Int)+1) o.at_).1,sliV (x p) (o.at_+1).toNat o.size.toNat]
def obP(h:Hp)(p:Nat):List Ob:=(Q3 h ((p:Int)+1)).1
def fvs(h:Hp)(x:Nat->Value):Nat->Nat->List Value
 |0,_=>[]
 |n+1,p=>(obP h p).map (fvV h x p)++fvs h x n (p+1)
noncomputable def seC:Code:=match Tryz.f27.body with|some c=>c|none=>.skip
noncomputable def clOps:Array Oper:=Z6v (cAt seC [1,1,1])
def AtCl(c:Nat)(b:Frame)(cs0:List Frame)(fr:Frame)(cs:List Frame)(w:World):Prop:=cs=cs0/\∃a,fr=b.at a [.inRegion clOps [1]]/\a.tmps[70]?=some (.chan (some c))/\a.defers=[]
def ZdR{w:World}{G:Nat->Prop}{h:Hp}{x:Nat->Value}(hr:∀j,j<5->Rd w G (.sl ((lsH h j).map vu)) (x j)):Rd w G (hpV h) (hpA h x):=by
 refine .agg _ _ rfl (by simp[V.one]) ?_;intro i y hy
 match i,hy with
 |0,hy=>cases hy;exact .int _ _
 |1,hy=>cases hy;exact .int _ _
 |2,hy=>cases hy;exact .int _ _
 |3,hy=>cases hy;exact .bool _
 |4,hy=>cases hy;exact .int _ _
 |5,hy=>cases hy;exact hr 0 (by omega)
 |6,hy=>cases hy;exact hr 1 (by omega)
 |7,hy=>cases hy;exact hr 2 (by omega)
 |8,hy=>cases hy;exact hr 3 (by omega)
 |9,hy=>cases hy;exact hr 4 (by omega)
def Z2Y{w:World}{G:Nat->Prop}{h:Hp}(hh:h.ok){x:Nat->Value}(hG:∀b,G b->b<w.heap.size)(hr:∀j,j<5->Rd w G (.sl ((lsH h j).map vu)) (x j))(p:Int):
  Calls Sol.prog 56 #[hpA h x,.int .i64 p] w λe w'=>∃s,e=.returned (.tuple #[s,.int .i64 (Q3 h p).2])/\Below w.heap.size w w'/\Rd w' (λb=>b<w'.heap.size) (.sl ((Q3 h p).1.map obV)) s:=by
 refine ZkD ((Zfb hh (k:=p)).2 w G _ hG rfl ?_) ?_
 ·intro i y hy
  match i,hy with
  |0,hy=>cases hy;exact ZdR hr
  |1,hy=>cases hy;exact .int _ _
 ·rintro e w' ⟨v,rfl,hb,hv⟩;cases hv with
  |tup _ vs h1 h2=>
   have e1:=h2 0 _ rfl;have e2:=Vq (h2 1 _ rfl);simp only[Zib,ZiO]at h1;refine⟨vs.getD 0 undef,?_,hb,e1.mono λb hb'=> ?_⟩
   ·congr 2;refine ZkS (by simpa using h1) λi q1 q2=> ?_;have:i=0\/i=1:=by simp at q2;omega
    obtain rfl|rfl:=this
    ·simp[Array.getD,q1]
    ·simp[Array.getD,q1]at e2;simpa using e2
   ·obtain⟨_,hb'⟩|hb':=hb'
    ·exact Zhj (hG b hb') hb.size
    ·exact hb'.2
def u71(a b:Value):(#[a,b]:Array Value)++Array.replicate (71- (#[a,b]:Array Value).size) undef=#[a,b,undef,undef,undef,undef,undef,undef,undef,undef,undef,undef,undef,undef,undef,undef,undef,undef,undef,undef,undef,undef,undef,undef,undef,undef,undef,undef,undef,undef,undef,undef,undef,undef,undef,undef,undef,undef,undef,undef,undef,undef,undef,undef,undef,undef,undef,undef,undef,undef,undef,undef,undef,undef,undef,undef,undef,undef,undef,undef,undef,undef,undef,undef,undef,undef,undef,undef,undef,undef,undef]:=by kernel_rfl
structure SSt (w:World) (h:Hp) (x:Nat->Value) (b4:Nat) (W:World):Prop where
 bel:Below w.heap.size w W
 c2:W.heap[w.heap.size]?=some (.cells #[.int .u64 h.base,.int .i64 h.cap,.int .i64 h.to,.bool h.cycle,.int .i64 h.scan,x 0,x 1,x 2,x 3,x 4] 25 (0,0))
 c4:W.heap[b4]?=some (.cells #[.int .u64 h.base,.int .i64 h.cap,.int .i64 h.to,.int .i64 h.low.length,.int .i64 h.high.length,.int .i64 h.old.length,.int .i64 h.far.length] 89 (0,0))
def SSt.below{w W W':World}{h:Hp}{x:Nat->Value}{b4:Nat}(s:SSt w h x b4 W)(hb:Below W.heap.size W W'):SSt w h x b4 W':=
 ⟨s.bel.trans (hb.mono s.bel.size),(hb.block _ (ZH s.c2)).trans s.c2,(hb.block _ (ZH s.c4)).trans s.c4⟩
def jk{W:World}{G:Nat->Prop}{l:List Int}{y:Value}(h:Rd W G (.sl (l.map vu)) y):∃a c,y=.slice a l.length c:=by
 generalize hL:l.map vu=L at h;have hl:L.length=l.length:=by rw[<-hL,Zi1]
 cases h with
 |nil a c h1=>exact⟨_,_,by rw[<-hl];rfl⟩
 |sl _ b o cap kk vs h1 h2=>exact⟨_,_,by rw[hl]⟩
def Zbd{P:Program}{W:World}{T el:TypeId}(hT:P.underlying T=some (.slice el))(hz:(Go.sizeOf el).run P W=.ok 1 W){b o len cap:Nat}{lo hi:Int}(h1:0<=lo)(h2:lo<=hi)(h3:hi<=cap):
  (Instr.slice T (.slice (some ⟨b,o,none⟩) len cap) (some (.int .i64 lo)) (some (.int .i64 hi)) none).run P W=.ok (sliV (.slice (some ⟨b,o,none⟩) len cap) lo.toNat (hi-lo).toNat) W:=by
 obtain⟨l,rfl⟩:=Zhl h1;obtain⟨k,rfl⟩:=Zhl (show 0<=hi by omega);have h4:l<=k:=by omega
 have h5:k<=cap:=by omega
 have h6:((k:Int) - (l:Int)).toNat=k-l:=by omega
 simp[Instr.slice,Instr.sliceBounds,Instr.sliceBound,asIntOf,ZhK hT,hz,h4,h5,h6,sliV,Addr.add];by_cases h8:cap=l
 ·simp[h8]
 ·simp[h8]
def ZdU{W:World}{G:Nat->Prop}{l:List Int}{y:Value}(h:Rd W G (.sl (l.map vu)) y)(h0:0<l.length){a:Option Addr}{n k:Nat}(e:y=.slice a n k):∃b o,a=some ⟨b,o,none⟩/\l.length<=k/\k<=maxLen:=by
 generalize hL:l.map vu=L at h;have hl:L.length=l.length:=by rw[<-hL,Zi1]
 cases h with
 |nil a c h1=>simp at hl;omega
 |sl _ b o cap kk vs h1 h2=>cases e;exact⟨b,o,rfl,by omega,h2⟩
def ZdS{W:World}{G:Nat->Prop}{l:List Ob}{y:Value}(h:Rd W G (.sl (l.map obV)) y):∃a c,y=.slice a l.length c:=by
 generalize hL:l.map obV=L at h;have hl:L.length=l.length:=by rw[<-hL,Zi1]
 cases h with
 |nil a c h1=>exact⟨_,_,by rw[<-hl];rfl⟩
 |sl _ b o cap kk vs h1 h2=>exact⟨_,_,by rw[hl]⟩
def Z2E:Tryz.f27.body=some seC:=by kernel_rfl
def Zda{Q:Program}{c:Nat}{Post:Frame->List Frame->World->Prop}{es:List Ev}{fn:Func}{code code2:Code}{a:Act}{b:Frame}{w:World}{cs:List Frame}(h1:fn.body=some code)(h2:fn.body=some code2)(h:LS Q c Post es (b.at a [.code code]) cs w):LS Q c Post es (b.at a [.code code2]) cs w:=by
 rw[h1]at h2;cases h2;exact h
def Zbf(b:Frame)(cs0:List Frame)(w:World)(h:Hp)(hh:h.ok)(x:Nat->Value)(c:Nat)(G:Nat->Prop)(hG:∀b,G b->b<w.heap.size)(hr:∀j,j<5->Rd w G (.sl ((lsH h j).map vu)) (x j))
  (hob:∀p,p<4->(obP h p).length<=1000000/\∀o∈obP h p,0<=o.at_/\0<=o.size/\o.at_+1+o.size<=(lsH h p).length):
  LS Sol.prog c (AtCl c b cs0) ((fvs h x 4 0).map .send) (b.at {tmps:=#[hpA h x,.chan (some c)]++Array.replicate (71- (#[hpA h x,.chan (some c)]:Array Value).size) undef,defers:=[]} [.code seC]) cs0 w:=by
 obtain⟨a0,k0,e0⟩:=jk (hr 0 (by omega));obtain⟨a1,k1,e1⟩:=jk (hr 1 (by omega));obtain⟨a2,k2,e2⟩:=jk (hr 2 (by omega));obtain⟨a3,k3,e3⟩:=jk (hr 3 (by omega));have HE:=ZhF (And.intro e0 (And.intro e1 (And.intro e2 e3)))
 have HL:∀W,Below w.heap.size w W->Calls Sol.prog 42 #[hpA h x] W λe w'=>e=.returned (lyA (layH h))/\Below W.heap.size W w':=λW hW=>
  yi (G:=G) (λb hb=>Zhj (hG b hb) hW.size) λj hj=>(hr j hj).keep (λb hb=>hW.block b (hG b hb)) λ_ q=>q
 have HO:∀W,Below w.heap.size w W->∀p,Calls Sol.prog 56 #[hpA h x,.int .i64 p] W λe w'=>∃s,e=.returned (.tuple #[s,.int .i64 (Q3 h p).2])/\Below W.heap.size W w'/\Rd w' (λb=>b<w'.heap.size) (.sl ((Q3 h p).1.map obV)) s:=λW hW p=>
  Z2Y hh (G:=G) (λb hb=>Zhj (hG b hb) hW.size) (λj hj=>(hr j hj).keep (λb hb=>hW.block b (hG b hb)) λ_ q=>q) p
 unfold hpA at HL HO;rw[e0,e1,e2,e3]at HL HO;have HL:=ZhF HL;have HO:=ZhF HO;have HF:=ZhF (And.intro hG hr);have HB:=ZhF hob;clear hG hr hob;unfold hpA;rw[e0,e1,e2,e3];refine Zda (fn:=Tryz.f27) rfl Z2E ?_;rw[u71];refine LS.two (LS.regK λK hK=> ?_);go_wp2;obtain⟨w2,hw2⟩:∃w2,w2=w.alloc (.cells #[.int .u64 h.base,.int .i64 h.cap,.int .i64 h.to,.bool h.cycle,.int .i64 h.scan,.slice a0 (lsH h 0).length k0,.slice a1 (lsH h 1).length k1,.slice a2 (lsH h 2).length k2,.slice a3 (lsH h 3).length k3,x 4] 25):=⟨_,rfl⟩;rw[<-hw2];have b2:w2.heap[w.heap.size]?=some (.cells #[.int .u64 h.base,.int .i64 h.cap,.int .i64 h.to,.bool h.cycle,.int .i64 h.scan,.slice a0 (lsH h 0).length k0,.slice a1 (lsH h 1).length k1,.slice a2 (lsH h 2).length k2,.slice a3 (lsH h 3).length k3,x 4] 25 (0,0)):=by rw[hw2];exact ZhX ..
 have z2:w2.heap.size=w.heap.size+1:=by rw[hw2];simp
 have q2:Below w.heap.size w w2:=by rw[hw2];exact(Zi3 _ _).alloc (Zhe _) _
 clear hw2;have y2:∀j,w2.cell? ⟨w.heap.size,j,none⟩=(#[.int .u64 h.base,.int .i64 h.cap,.int .i64 h.to,.bool h.cycle,.int .i64 h.scan,.slice a0 (lsH h 0).length k0,.slice a1 (lsH h 1).length k1,.slice a2 (lsH h 2).length k2,.slice a3 (lsH h 3).length k3,x 4]:Array Value)[j]? :=λj=>Zhs _ _ _ _ _ _ b2;have HS:=ZhF (And.intro b2 (And.intro z2 q2));clear b2 z2 q2;refine LS.two (LS.regK λK hK=> ?_)
 go_wp2_with (first
  |(go_at_call 42;refine(HL.out _ HS.out.2.2).mono ?_;rintro e w3 ⟨rfl,hb3⟩;unfold lyA layH;dsimp only;have HB3:=ZhF hb3;clear hb3))
 obtain⟨W,hW⟩:∃W,W=w3.alloc (.cells #[.int .u64 h.base,.int .i64 h.cap,.int .i64 h.to,.int .i64 h.low.length,.int .i64 h.high.length,.int .i64 h.old.length,.int .i64 h.far.length] 89):=⟨_,rfl⟩;obtain⟨b4,hb4⟩:∃b4,b4=w3.heap.size:=⟨_,rfl⟩;rw[<-hW,<-hb4]
 have hS:SSt w h x b4 W:=by
  have hz:=HB3.out.size;rw[hW,hb4];exact⟨(HS.out.2.2.trans (HB3.out.mono HS.out.2.2.size)).alloc (by have:=HS.out.2.2.size;omega) _,by rw[Zif _ _ _ (by have:=ZH HS.out.1;omega)];rw[e0,e1,e2,e3];exact(HB3.out.block _ (ZH HS.out.1)).trans HS.out.1,ZhX ..⟩
 clear hW hb4 HB3 HS y2 e0 e1 e2 e3;have y2:∀j,W.cell? ⟨w.heap.size,j,none⟩=(#[.int .u64 h.base,.int .i64 h.cap,.int .i64 h.to,.bool h.cycle,.int .i64 h.scan,.slice a0 (lsH h 0).length k0,.slice a1 (lsH h 1).length k1,.slice a2 (lsH h 2).length k2,.slice a3 (lsH h 3).length k3,x 4]:Array Value)[j]? :=λj=>by have:=hS.c2;rw[HE.out.1,HE.out.2.1,HE.out.2.2.1,HE.out.2.2.2]at this;exact Zhs _ _ _ _ _ _ this
 refine LS.two (LS.two (LS.regK λK hK=> ?_));go_wp2
 refine LS.block (LS.loopI (λn es a W=>∃(p:Nat) (t:Array Value),p+n=4/\es=(fvs h x n p).map .send/\a=⟨t,[]⟩/\t.size=71/\t.getD 1 undef=.chan (some c)/\t.getD 2 undef=.pointer (some ⟨w.heap.size,0,none⟩)/\t.getD 4 undef=.pointer (some ⟨b4,0,none⟩)/\
  t.getD 24 undef=.agg #[.slice a0 (lsH h 0).length k0,.slice a1 (lsH h 1).length k1,.slice a2 (lsH h 2).length k2,.slice a3 (lsH h 3).length k3]/\t.getD 25 undef=.int .i64 p/\SSt w h x b4 W) (n:=4) ⟨0,_,rfl,rfl,rfl,rfl,rfl,rfl,rfl,rfl,rfl,hS⟩ ?_)
 clear hS y2 W;rintro n es a W ⟨p,t,hp,rfl,rfl,hsz,t1,t2,t4,t24,t25,hS⟩ ih;have IH:=ZhF ih;clear ih;rw[ZbH hsz,t1,t2,t4,t24,t25];obtain⟨g,hg⟩:∃g:Nat->Value,∀i,t.getD i undef=g i:=⟨_,λ_=>rfl⟩;simp only[hg];clear hg t1 t2 t4 t24 t25 hsz t;have y2:∀j,W.cell? ⟨w.heap.size,j,none⟩=(#[.int .u64 h.base,.int .i64 h.cap,.int .i64 h.to,.bool h.cycle,.int .i64 h.scan,.slice a0 (lsH h 0).length k0,.slice a1 (lsH h 1).length k1,.slice a2 (lsH h 2).length k2,.slice a3 (lsH h 3).length k3,x 4]:Array Value)[j]? :=λj=>by have:=hS.c2;rw[HE.out.1,HE.out.2.1,HE.out.2.2.1,HE.out.2.2.2]at this;exact Zhs _ _ _ _ _ _ this
 cases n with
 |zero=>
  have hpI:((p:Int)<4)=False:=Zl6 (by omega);refine LS.two (LS.regK λK hK=> ?_);go_wp2;refine LS.two (LS.condF rfl (LS.exit rfl (LS.region ?_)));refine LS.value (i:=0) (l:=[1]) rfl rfl rfl ?_;exact LS.now ⟨rfl,_,rfl,rfl,rfl⟩
 |succ n=>
  have hpI:((p:Int)<4)=True:=eq_true (by omega);have hp4:p<4:=by omega
  refine LS.two (LS.regK λK hK=> ?_);go_wp2;refine LS.two (LS.condT rfl (LS.skip (LS.two (LS.block (LS.two (LS.regK λK hK=> ?_))))));obtain⟨ap,kp,ep⟩:=jk (HF.out.2 p (by omega))
  have hidx:∀W,(Instr.index 116 (.agg #[.slice a0 (lsH h 0).length k0,.slice a1 (lsH h 1).length k1,.slice a2 (lsH h 2).length k2,.slice a3 (lsH h 3).length k3]) (.int .i64 (p:Int))).run Sol.prog W=.ok (.slice ap (lsH h p).length kp) W:=by
   intro W;have hT:Sol.prog.underlying 116=some (.array 4 23):=by kernel_rfl
   have:p=0\/p=1\/p=2\/p=3:=by omega
   rw[<-ep];obtain rfl|rfl|rfl|rfl:=this
   ·rw[HE.out.1];simp[Instr.index,asIntOf,ZhK hT,part]
   ·rw[HE.out.2.1];simp[Instr.index,asIntOf,ZhK hT,part]
   ·rw[HE.out.2.2.1];simp[Instr.index,asIntOf,ZhK hT,part]
   ·rw[HE.out.2.2.2];simp[Instr.index,asIntOf,ZhK hT,part]
  have EP:=ZhF ep;clear ep;go_wp2;clear hidx;have hw1:=Z4 ((p:Int)+1) (by omega) (by omega);refine LS.two (LS.regK λK hK=> ?_);go_wp2;have HS:=ZhF hS;clear hS;refine LS.two (LS.regK λK hK=> ?_)
  go_wp2_with (first
   |(go_at_call 56;refine(HO.out _ HS.out.bel _).mono ?_;rintro e W5 ⟨s5,rfl,hb5,hr5⟩;obtain⟨a5,k5,rfl⟩:=ZdS hr5;have HB5:=ZhF (And.intro hb5 hr5);clear hb5 hr5))
  refine LS.two (LS.regK λK hK=> ?_);go_wp2;have hS:=HS.out.below HB5.out.1;have hr5:=HB5.out.2;clear HS HB5 y2 W hpI;rename_i W5;rw[show(Q3 h ((p:Int)+1)).1=obP h p from rfl]at hr5⊢;have hobs:=Z6n hr5 λb hb=>hb;obtain⟨hol,hoo⟩:=HB.out p hp4;have hfv:fvs h x (n+1) p=(obP h p).map (fvV h x p)++fvs h x n (p+1):=rfl;rw[hfv];clear hfv hr5;have HX:=ZhF (And.intro hobs (And.intro hol hoo));clear hobs hoo
  refine LS.block (LS.loopI (λm es a W=>∃(i:Nat) (t:Array Value),i+m=(obP h p).length/\es=(((obP h p).drop i).map (fvV h x p)++fvs h x n (p+1)).map .send/\a=⟨t,[]⟩/\t.size=71/\t.getD 1 undef=.chan (some c)/\t.getD 2 undef=.pointer (some ⟨w.heap.size,0,none⟩)/\t.getD 4 undef=.pointer (some ⟨b4,0,none⟩)/\
   t.getD 6 undef=.slice ap (lsH h p).length kp/\t.getD 7 undef=.int .i64 ((p:Int)+1)/\t.getD 24 undef=.agg #[.slice a0 (lsH h 0).length k0,.slice a1 (lsH h 1).length k1,.slice a2 (lsH h 2).length k2,.slice a3 (lsH h 3).length k3]/\t.getD 25 undef=.int .i64 p/\t.getD 37 undef=.slice a5 (obP h p).length k5/\t.getD 38 undef=.int .i64 (obP h p).length/\t.getD 39 undef=.int .i64 i/\
   SSt w h x b4 W/\Below W5.heap.size W5 W) (n:=(obP h p).length) ⟨0,_,by omega,rfl,rfl,rfl,rfl,rfl,rfl,rfl,rfl,rfl,rfl,rfl,rfl,rfl,hS,Zi3 _ _⟩ ?_)
  clear hS g hw1;rintro m es a W ⟨i,t,hi,rfl,rfl,hsz,t1,t2,t4,t6,t7,t24,t25,t37,t38,t39,hS,hB5⟩ ih;have IH2:=ZhF ih;clear ih;rw[ZbH hsz,t1,t2,t4,t6,t7,t24,t25,t37,t38,t39];obtain⟨g,hg⟩:∃g:Nat->Value,∀i,t.getD i undef=g i:=⟨_,λ_=>rfl⟩;simp only[hg];clear hg t1 t2 t4 t6 t7 t24 t25 t37 t38 t39 hsz t;cases m with
  |zero=>
   have hiI:((i:Int)< ((obP h p).length:Int))=False:=Zl6 (by omega);refine LS.two (LS.regK λK hK=> ?_);go_wp2;refine LS.two (LS.condF rfl (LS.exit rfl (LS.inBlock ?_)));have hw1:=Z4 ((p:Int)+1) (by omega) (by omega);have hdr:(obP h p).drop i=[]:=ZkO (by omega);rw[hdr];clear hdr hiI;refine LS.regK λK hK=> ?_;go_wp2;exact IH.out n _ _ _ (by omega) ⟨p+1,_,by omega,rfl,rfl,rfl,rfl,rfl,rfl,rfl,by simp,hS⟩
  |succ m=>
   have hil:i< (obP h p).length:=by omega
   obtain⟨o,ho⟩:∃o,(obP h p)[i]?=some o:=⟨_,Zh8 hil⟩;have hiI:((i:Int)< ((obP h p).length:Int))=True:=eq_true (by omega);obtain⟨g5,o5,cap5,e5,hc5,hm5,hg5,hcell⟩|⟨a9,c9,e9,e10⟩:=HX.out.1
   case inr=>rw[e10]at hil;simp at hil
   injection e5 with e5 _ e6;subst e5;subst e6;obtain⟨v0,v1,v2,v3,v4⟩:=hcell i o ho;have hBb:=hB5.block _ hg5;have y0:W.cell? ⟨g5,o5+i*5,none⟩=some (.int .i64 o.at_):=by rw[Zi7 hBb];exact v0
   have y1:W.cell? ⟨g5,o5+i*5+1,none⟩=some (.int .i64 o.size):=by rw[Zi7 hBb];exact v1
   have y2:W.cell? ⟨g5,o5+i*5+2,none⟩=some (.int .i64 o.ptrs):=by rw[Zi7 hBb];exact v2
   have y3:W.cell? ⟨g5,o5+i*5+3,none⟩=some (.bool o.gone):=by rw[Zi7 hBb];exact v3
   have y4:W.cell? ⟨g5,o5+i*5+4,none⟩=some (.int .u64 o.target):=by rw[Zi7 hBb];exact v4
   clear v0 v1 v2 v3 v4 hBb hcell;have HC:=ZhF hc5;clear hc5;refine LS.two (LS.regK λK hK=> ?_);go_wp2;refine LS.two (LS.condT rfl (LS.skip (LS.two (LS.block (LS.two (LS.regK λK hK=> ?_))))));go_wp2;obtain⟨W6,hW6⟩:∃W6,W6=W.alloc (.cells #[.int .i64 o.at_,.int .i64 o.size,.int .i64 o.ptrs,.bool o.gone,.int .u64 o.target] 68):=⟨_,rfl⟩;obtain⟨bo,hbo⟩:∃bo,bo=W.heap.size:=⟨_,rfl⟩;rw[<-hW6,<-hbo];have hb6:Below W.heap.size W W6:=by rw[hW6];exact(Zi3 _ _).alloc (Zhe _) _
   have q6:W6.heap[bo]?=some (.cells #[.int .i64 o.at_,.int .i64 o.size,.int .i64 o.ptrs,.bool o.gone,.int .u64 o.target] 68 (0,0)):=by rw[hW6,hbo];exact ZhX ..
   have hS6:=hS.below hb6;have hB6:=hB5.trans (hb6.mono hB5.size);clear hW6 hbo hb6 hS hB5 y0 y1 y2 y3 y4 W;have z4:∀j,W6.cell? ⟨b4,j,none⟩=(#[.int .u64 h.base,.int .i64 h.cap,.int .i64 h.to,.int .i64 h.low.length,.int .i64 h.high.length,.int .i64 h.old.length,.int .i64 h.far.length]:Array Value)[j]? :=λj=>Zhs _ _ _ _ _ _ hS6.c4;have zo:∀j,W6.cell? ⟨bo,j,none⟩=(#[.int .i64 o.at_,.int .i64 o.size,.int .i64 o.ptrs,.bool o.gone,.int .u64 o.target]:Array Value)[j]? :=λj=>Zhs _ _ _ _ _ _ q6;have HS:=ZhF (And.intro hS6 (And.intro hB6 q6));clear hS6 hB6 q6;have HA:=ZhF λW=>jV hh.lay ((p:Int)+1) o.at_ W;unfold lyA layH at HA;dsimp only at HA;refine LS.two (LS.regK λK hK=> ?_)
   go_wp2_with (first
    |(go_at_call 57;refine(HA.out _).mono ?_;rintro e W7 ⟨rfl,hb7⟩;have HB7:=ZhF hb7;clear hb7))
   have hS:=HS.out.1.below HB7.out;have hB5:=HS.out.2.1.trans (HB7.out.mono HS.out.2.1.size);have q7:=(HB7.out.block _ (ZH HS.out.2.2)).trans HS.out.2.2;clear z4 zo HS HB7 HA;rename_i W7;clear W6;obtain⟨ha0,hz0,hle⟩:=HX.out.2.2 o (Zhg ho);have hpos:0< (lsH h p).length:=by omega
   obtain⟨bw,ow,ew,hcw,hmw⟩:=ZdU (HF.out.2 p (by omega)) hpos EP.out;subst ew
   have hdr:(obP h p).drop i=o::(obP h p).drop (i+1):=by
    obtain⟨h1,rfl⟩:=Zh9.1 ho;exact ZhZ h1
   rw[hdr];rw[show(((o::(obP h p).drop (i+1)).map (fvV h x p)++fvs h x n (p+1)).map Ev.send)=.send (fvV h x p o)::(((obP h p).drop (i+1)).map (fvV h x p)++fvs h x n (p+1)).map .send from rfl];clear hdr ho hiI;have zo:∀j,W7.drew.cell? ⟨bo,j,none⟩=(#[.int .i64 o.at_,.int .i64 o.size,.int .i64 o.ptrs,.bool o.gone,.int .u64 o.target]:Array Value)[j]? :=λj=>Zhs _ _ _ _ _ _ (show W7.drew.heap[bo]?=_ from q7);have hl6:=ZaF hh p;have hw1:=Z4 (o.at_+1) (by omega) (by omega);have hw2:=Z4 (o.at_+1+o.size) (by omega) (by omega);have hs1:(0:Int)<=o.at_+1:=by omega
   have hs2:o.at_+1<=o.at_+1+o.size:=by omega
   have hs3:o.at_+1+o.size<=(kp:Int):=by omega
   obtain⟨av,nv,cv,hSV⟩:∃av nv cv,.slice av nv cv=sliV (x p) (o.at_+1).toNat o.size.toNat:=by rw[EP.out];exact⟨_,_,_,rfl⟩
   have hsl:∀W,(Instr.slice 23 (.slice (some ⟨bw,ow,none⟩) (lsH h p).length kp) (some (.int .i64 (o.at_+1))) (some (.int .i64 (o.at_+1+o.size))) none).run Sol.prog W=.ok (.slice av nv cv) W:=by
    intro W;have hT:Sol.prog.underlying 23=some (.slice 22):=by kernel_rfl
    rw[hSV,EP.out,Zbd hT (by simp) hs1 hs2 hs3,show o.at_+1+o.size- (o.at_+1)=o.size by omega]
   clear hs1 hs2 hs3 zo;have zo:∀j,W7.drew.cell? ⟨bo,j,none⟩=(#[.int .i64 o.at_,.int .i64 o.size,.int .i64 o.ptrs,.bool o.gone,.int .u64 o.target]:Array Value)[j]? :=λj=>Zhs _ _ _ _ _ _ (show W7.drew.heap[bo]?=_ from q7);have HV:=ZhF hSV;clear hSV;have HS:=ZhF (And.intro hS hB5);clear hS hB5 q7;refine LS.send (n:=16) follows (by kernel_rfl) rfl rfl rfl rfl rfl rfl ?_;simp only[Zkm,Zl8];change wpStill Sol.prog _ W7.drew _ _ _
   repeat still_step
   refine wpStill_nil ⟨rfl,?_,?_⟩
   ·unfold fvV;rw[<-HV.out];rfl
   ·refine LS.inBlock ?_;have hw3:=Z4 ((i:Int)+1) (by omega) (by omega);refine LS.regK λK hK=> ?_;go_wp2;exact IH2.out m _ _ _ (by omega) ⟨i+1,_,by omega,rfl,rfl,rfl,rfl,rfl,rfl,rfl,rfl,rfl,rfl,rfl,rfl,by simp,SSt.below HS.out.1 (Zi3 _ _).drew,HS.out.2.drew⟩
end Vm
end
section
namespace Vm
open Go Go.Proofs Go.Conc
open Go.RowKit (Below)
section
section
variable {c:Ctx}{B:Nat}{G Kf:Nat->Prop}{s:St}{a:Act}{w w0:World}{h:GH}{S:SS}{n0:Nat}{fix:List Nat}{T0:Array Value}{t:Nat}{v:Value}{x:V}
def Yi{p:Nat}(hp:p≠t):(a.put (some t) v).tmps[p]?=a.tmps[p]? :=by
 simp[Act.put,ZhO,Zjd hp]
def UZ(ht:t<a.tmps.size):(a.put (some t) v).tmps[t]?=some v:=by
 simp[Act.put,ZhO,ht]
theorem Xr:(a.put (some t) v).tmps.size=a.tmps.size:=by simp[Act.put]
theorem Zb7{p:Nat}{k:OT}{u:Value}{T1 T2:Nat->Option Value}(hk:RelK c.P B s w h T1 p u (KS c p k)):RelK c.P B s w h T2 p u (KS c p k):=by
 cases k<;>exact hk
def RelG.set(hr:RelG c B G s a w h (Y1 c S))(hS:S.at t=none):RelG c B G s (a.put (some t) v) w h (Y1 c S):=by
 refine⟨hr.ok,λp hp hk=> ?_,λp hp=> ?_⟩
 ·by_cases e:p=t
  ·subst e;rw[Zk,hS]at hk;cases hk
  ·obtain⟨u,hu,hrel⟩:=hr.at_ p hp hk;refine⟨u,by simp_all[Yi],?_⟩;rw[Zk]at hrel⊢;cases e2:S.at p with
   |none=>rw[Zk,e2]at hk;cases hk
   |some k=>grind [Zb7]
 ·refine absurd ?_ hp;rw[Zk];cases S.at p<;>exact Y5 _
def RelS.set(hr:RelS Kf fix T0 c B G w0 n0 s a w S)(hS:S.at t=none):RelS Kf fix (a.put (some t) v).tmps c B G w n0 s (a.put (some t) v) w S:=by
 obtain⟨⟨h,h1,h2⟩,h3,h4,h5,h6⟩:=hr;exact⟨⟨h,h1.set hS,h2⟩,h3,.refl _ _,by grind [Xr],h6⟩
def RelS.base(hr:RelS Kf fix T0 c B G w0 n0 s a w S):RelS Kf fix a.tmps c B G w n0 s a w S:=by
 obtain⟨h1,h3,h4,h5⟩:=hr;exact⟨h1,h3,.refl _ _,h5⟩
def RelS.put(hr:RelS Kf fix T0 c B G w0 n0 s a w S)(hS:S.at t=none)(hix:∀y∈S,c.ix y.1≠c.ix t)(hlt:t<n0)(hv:Rd w G x v):RelS Kf fix (a.put (some t) v).tmps c B G w n0 (putS s (c.ix t) (.v x)) (a.put (some t) v) w ((t,.fz)::S):=by
 obtain⟨⟨h,h1,h2⟩,h3,h4,h5,h6⟩:=hr;refine⟨⟨h,⟨h1.ok,λp hp hk=> ?_,λp hp=> ?_⟩,h2⟩,λp hp=> ?_,.refl _ _,by grind [Xr],h6⟩
 ·rw[Zk]at hk⊢;by_cases e:t=p
  ·subst e;simp only[SS.at,ZhR];exact⟨v,UZ (by omega),x,by simp[eval,Zo],hv.mono λb hb=>GH.ext_F (h1.ok.g_F b hb)⟩
  ·simp only[SS.at,if_neg e]at hk⊢;have hag:=(h1.set (v:=v) hS).agree (t:=putS s (c.ix t) (.v x)) λy hy=>by rw[Zo,if_neg (hix y hy)]
   cases e2:S.at p with
   |none=>rw[e2]at hk;cases hk
   |some k=>
    have:=hag.at_ p (by grind [Zk,Y5]) (by simp_all[Zk]);simp_all[Zk]
 ·refine absurd ?_ hp;rw[Zk];split<;>exact Y5 _
 ·by_cases e:t=p
  ·simp_all[SS.at]
  ·simp only[SS.at,if_neg e]at hp;rw[Zo,if_neg (hix _ (Um hp))];exact h3 p hp
end
noncomputable def cV:Ctx:= {P:=Sol.prog,ix:=(vf Sol.prog).ix,own:=λ_=>false,fresh,sig:=sigV,tr:=[3],n:=82}
def Ql{code:Code}{S:SS}{st:Stm}{fl:Flow}{B:Nat}{G Kf:Nat->Prop}{s:St}{a:Act}{w w0:World}{T0:Array Value}{N:St->Prop}{X:Nat->St->Prop}{Rt:St->Prop}(hc:comp (vf Sol.prog) code S=some (st,fl))(hr:RelS Kf [4,23] T0 cV B G w0 82 s a w S)(hw:wpS Sol.prog st s N X Rt):
  code.wp Sol.prog (Post Kf [4,23] T0 cV B G w0 82 fl N X Rt) a w:=
 SE (fc:=vf Sol.prog) follows (λp hp q hq he=>Z17 (ZiS _ hp) (ZiS _ hq) he) rfl rfl rfl (Zhe _) code (Qz (λ_=>trivial) code) hc hr hw
noncomputable def bodyC:Code:=cAt ofC [1,1,1,1,1,1,1,0,1,0,0]
noncomputable def ops9:Array Oper:=Z6v (cAt ofC [1,1,1,1,1,1,1,0,1,0,0,0])
def Zfg:bodyC=.seq (.region 9 ops9 false) (cAt ofC [1,1,1,1,1,1,1,0,1,0,0,1]):=by kernel_rfl
def Zb9:cAt ofC [1,1,1,1]=.seq (cAt ofC [1,1,1,1,0]) (.seq (cAt ofC [1,1,1,1,1,0]) (.seq (cAt ofC [1,1,1,1,1,1,0]) (.seq (.seq (cAt ofC [1,1,1,1,1,1,1,0,0]) (.block 0 (.loop bodyC))) (cAt ofC [1,1,1,1,1,1,1,1])))):=by kernel_rfl
noncomputable def ops8:Array Oper:=Z6v (cAt ofC [1,1,1,1,1,1,1,0,0])
def ZfU:cAt ofC [1,1,1,1,1,1,1,0,0]=.region 8 ops8 false:=by kernel_rfl
def zF:Value:=.agg #[.int .i64 0,.int .i64 0,.int .i64 0,.bool false,.int .u64 0,.int .u64 0,.slice none 0 0]
def ZdC:∃t ch d inf o,ops9[0]?=some o/\o.guard=none/\o.dst=some 24/\o.op=.recv t ch true/\ch=.tmp 23/\Sol.prog.underlying t=some (.chan d 70)/\Sol.prog.info? 70=some inf/\inf.zero=some zF:=
 ⟨_,_,_,_,_,rfl,rfl,rfl,rfl,rfl,rfl,rfl,rfl⟩
def ZdD:∃o,ops9[1]?=some o/\o.guard=none/\o.dst=some 25/\o.op=.extract (.tmp 24) 1:=⟨_,rfl,rfl,rfl,rfl⟩
def Z6t:ops9.size=2:=rfl
def rLS:SS:=[(1,.mem [.fz,.fz,.fz,.fz,.fz,.fz,.fz,.fz,.fz,.fz]),(2,.mem [.fz,.fz]),(3,.fz),(5,.own 70),(6,.mem [.own 63]),(7,.mem [.own 64])]
structure AtL (B:Nat) (G:Nat->Prop) (wS:World) (c:Nat) (st:Vw) (hc:List V) (s:St) (a:Act) (w:World):Prop where
 rel:∃T0 w0,RelS G [4,23] T0 cV B G w0 82 s a w rLS
 same:Same G wS w
 ch:a.tmps[23]?=some (.chan (some c))
 s1:get s 1=.m hc
 s6:get s 6=.v (.sl (st.ns.map foV))
 s7:get s 7=.m [mpA vi st.nm]
 s8:get s 8=.m [mpA vu st.tm]
def AtL.put{B:Nat}{G:Nat->Prop}{wS:World}{c:Nat}{st:Vw}{hc:List V}{s:St}{a:Act}{w:World}(h:AtL B G wS c st hc s a w){v:Value}{x:V}{b:Bool}(hv:Rd wS G x v):
  ∃a2 s2 T0 w0,a2=(a.put (some 24) (.tuple #[v,.bool b])).put (some 25) (.bool b)/\RelS G [4,23] T0 cV B G w0 82 s2 a2 w rDS/\a2.tmps[23]?=some (.chan (some c))/\get s2 1=.m hc/\get s2 6=.v (.sl (st.ns.map foV))/\get s2 7=.m [mpA vi st.nm]/\get s2 8=.m [mpA vu st.tm]/\get s2 12=.v (.tup [x,.bool b])/\get s2 10=.v (.bool b):=by
 obtain⟨T0,w0,hr⟩:=h.rel
 have hv':Rd w G (.tup [x,.bool b]) (.tuple #[v,.bool b]):=by
  refine .tup _ _ rfl λi c hi=> ?_
  match i,hi with
  |0,hi=>cases hi;exact hv.keep h.same λ_ q=>q
  |1,hi=>cases hi;exact .bool _
 have h1:=hr.put (t:=24) rfl (by decide+kernel) (by omega) hv';have h2:=h1.put (t:=25) (v:=.bool b) (x:=.bool b) rfl (by decide+kernel) (by omega) (.bool _);have i24:cV.ix 24=12:=by decide+kernel
 have i25:cV.ix 25=10:=by decide+kernel
 rw[i24,i25]at h2;refine⟨_,_,_,_,rfl,h2.weak (R:=rDS) (by kernel_rfl),?_,?_,?_,?_,?_,?_,?_⟩
 ·rw[Yi (by omega),Yi (by omega)];exact h.ch
 all_goals simp[Zo,h.s1,h.s6,h.s7,h.s8]
def Z6M{B:Nat}{G:Nat->Prop}{wS:World}{c:Nat}{hc:List V}{k:List Item}{b:Frame}{Post:Frame->List Frame->World->Prop}(fin:Vw)
  (hz:Rd wS G (foV ⟨⟨0,0,0,false,0⟩,0,[]⟩) zF)
  (hend:∀s a w T0 w0,RelS G [4,23] T0 cV B G w0 82 s a w rDX->get s 1=.m hc->get s 6=.v (.sl (fin.ns.map foV))->get s 7=.m [mpA vi fin.nm]->get s 8=.m [mpA vu fin.tm]->LS Sol.prog c Post [] (b.at a k) [] w):
  ∀(fs:List (Fo×Value)) (st:Vw),(∀y∈fs,Rd wS G (foV y.1) y.2)->st.ns.length+fs.length<=4000000->(fs.map (·.1)).foldl Vw.put st=fin->∀s a w,AtL B G wS c st hc s a w->
   LS Sol.prog c Post (fs.map (λy=>.recv y.2)++[.closed zF]) (b.at a (.code bodyC:: .inLoop bodyC:: .inBlock 0::k)) [] w:=by
 obtain⟨t,ch,d,inf,o,o1,o2,o3,o4,o5,o6,o7,o8⟩:=ZdC;obtain⟨o',p1,p2,p3,p4⟩:=ZdD
 have ext:∀(a:Act) (w:World) (v:Value) (b:Bool),a.tmps[24]?=some (.tuple #[v,.bool b])->(execOp a.eval o').run Sol.prog w=.ok (.value (.bool b)) w:=λa w v b h=>by
  have he:a.eval (.tmp 24)=.tuple #[v,.bool b]:=Act.eval_tmp a 24 _ h;unfold execOp;simp only[p4,he];rfl
 have enter:∀ {es:List Ev} {e:Ev} {v:Value} {fl:Bool} {s:St} {st:Vw} {a:Act} {w:World},e.val=.tuple #[v,.bool fl]->((∃v,e=.recv v)\/e=.closed zF)->AtL B G wS c st hc s a w->
   LS Sol.prog c Post es (b.at ((a.put (some 24) (.tuple #[v,.bool fl])).put (some 25) (.bool fl)) (.code (cAt ofC [1,1,1,1,1,1,1,0,1,0,0,1]):: .inLoop bodyC:: .inBlock 0::k)) [] w->
   LS Sol.prog c Post (e::es) (b.at a (.code bodyC:: .inLoop bodyC:: .inBlock 0::k)) [] w:=λ{es e v fl s st a w} hev hcl hA hk=>by
  obtain⟨T0,w0,hr⟩:=hA.rel;have hsz:a.tmps.size=82:=hr.2.2.2.1;rw[show(Item.code bodyC)=.code (.seq (.region 9 ops9 false) (cAt ofC [1,1,1,1,1,1,1,0,1,0,0,1]))by rfl];refine LS.two (LS.region ?_);rw[Z6t,show List.range 2=[0,1]from rfl];refine LS.event (i:=0) o1 (by simp[Region.wanted,o2]) ?_ ?_
  ·obtain⟨v,rfl⟩|rfl:=hcl
   ·exact⟨t,ch,d,_,inf,zF,o4,by rw[o5];rfl,by rw[o5];exact Act.eval_tmp a 23 _ hA.ch,o6,o7,o8,λz' e=>by cases e⟩
   ·exact⟨t,ch,d,_,inf,zF,o4,by rw[o5];rfl,by rw[o5];exact Act.eval_tmp a 23 _ hA.ch,o6,o7,o8,λz' e=>by grind⟩
  ·rw[o3,hev];refine LS.value (i:=1) p1 (by simp[Region.wanted,p2]) (ext _ w v fl (UZ (by omega))) ?_;simp_all[LS.regEnd]
 intro fs
 induction fs with
 |nil=>
  intro st hfs hn hfin s a w hA;refine enter (v:=zF) (fl:=false) rfl (.inr rfl) hA ?_;obtain⟨a2,s2,T0,w0,rfl,hr,h23,h1,h6,h7,h8,h12,h10⟩:=hA.put (b:=false) hz;refine LS.wp (Ql rDc hr (ZdQ (N:=λ_=>False) (R:=λ_=>False) (X:=λid s'=>id=0/\s'=s2) h10 ⟨rfl,rfl⟩)) λe a' w' hp=> ?_;cases e with
  |normal=>obtain⟨_,_,_,h,_⟩:=hp;grind
  |exit id=>
   obtain⟨s',S',hx,⟨rfl,rfl⟩,hr'⟩:=hp;have hS:S'=rDX:=by simpa using hx
   subst hS;refine⟨k,rfl,?_⟩
   grind
  |ret=>obtain⟨_,_,_,h,_⟩:=hp;grind
  |_=>exact hp.elim
 |cons y fs ih=>
  intro st hfs hn hfin s a w hA;simp only[Zib]at hn;refine enter (v:=y.2) (fl:=true) rfl (.inl ⟨_,rfl⟩) hA ?_;obtain⟨a2,s2,T0,w0,rfl,hr,h23,h1,h6,h7,h8,h12,h10⟩:=hA.put (b:=true) (hfs y (by simp));refine LS.wp (Ql rDc hr.base (ZfW (X:=λ_ _=>False) (R:=λ_=>False) (N:=λs'=>get s' 6=.v (.sl ((st.put y.1).ns.map foV))/\get s' 7=.m [mpA vi (st.put y.1).nm]/\get s' 8=.m [mpA vu (st.put y.1).tm]/\get s' 1=.m hc) h6 h7 h8 h12 h10 (by omega) λs' q6 q7 q8 q1 _ _=>⟨q6,q7,q8,q1.trans h1⟩)) λe a' w' hp=> ?_;cases e with
  |normal=>
   obtain⟨s',S',hS,⟨q6,q7,q8,q1⟩,hr'⟩:=hp;cases hS;refine LS.inLoop (ih (st.put y.1) (λz hz=>hfs z (by simp[hz])) ?_ hfin s' a' w' ⟨⟨_,_,hr'.weak (R:=rLS) (by kernel_rfl)⟩,hA.same.trans hr'.2.2.1.same,?_,q1,q6,q7,q8⟩)
   ·grind [Vw.put]
   ·rw[hr'.2.2.1.fix 23 (by simp)];exact h23
  |exit id=>obtain⟨_,_,_,h,_⟩:=hp;grind
  |ret=>obtain⟨_,_,_,h,_⟩:=hp;grind
  |_=>exact hp.elim
def ZbC(b:Frame)(D:World->Nat->Prop)(r:V)(fr:Frame)(cs:List Frame)(w:World):Prop:=
 cs=[]/\∃(a:Act) (todo:List Item),fr= {b.at a todo with mode:=.returning}/\a.defers=[]/\∃v,(results Tryz.f10 a.tmps).run Sol.prog w=.ok v w/\Rd w (D w) r v
def Z1D{code:Code}{S:SS}{st:Stm}{S2:SS}{B:Nat}{G Kf:Nat->Prop}{s:St}{a:Act}{w w0:World}{T0:Array Value}{N:St->Prop}{c:Nat}{Pst:Frame->List Frame->World->Prop}{es:List Ev}{b:Frame}{k:List Item}(hc:comp (vf Sol.prog) code S=some (st,⟨some S2,[],[]⟩))(hr:RelS Kf [4,23] T0 cV B G w0 82 s a w S)
  (hw:wpS Sol.prog st s N (λ_ _=>False) (λ_=>False)) (hk:∀s' a' w',N s'->RelS Kf [4,23] T0 cV B G w0 82 s' a' w' S2->LS Sol.prog c Pst es (b.at a' k) [] w'):LS Sol.prog c Pst es (b.at a (.code code::k)) [] w:=
 LS.wp (Ql hc hr hw) λe a' w' hp=>by
  cases e with
  |normal=>obtain⟨s',S',hS,hN,hr'⟩:=hp;cases hS;exact hk _ _ _ hN hr'
  |exit id=>obtain⟨_,_,_,h,_⟩:=hp;grind
  |ret=>obtain⟨_,_,_,h,_⟩:=hp;grind
  |_=>exact hp.elim
def ZdB:∃o,ops8[0]?=some o/\o.guard=none/\o.dst=some 23/\o.op=.move (.tmp 4):=⟨_,rfl,rfl,rfl,rfl⟩
def Z6s:ops8.size=1:=rfl
def ZaU{B:Nat}{G:Nat->Prop}{c:Nat}{b:Frame}{s:St}{a:Act}{w w0:World}{T0:Array Value}{bs cp tt y sc x5 x6 x7 x8:V}{roots:List Int}{fs:List (Fo×Value)}{fin:Vw}(hr:RelS G [4,23] T0 cV B G w0 82 s a w r5S)(hch:a.tmps[4]?=some (.chan (some c)))(h1:get s 1=.m [bs,cp,tt,y,sc,x5,x6,x7,x8,.sl (roots.map vu)])
  (hfs:∀y∈fs,Rd w G (foV y.1) y.2) (hn:fs.length<=4000000) (hfin:(fs.map (·.1)).foldl Vw.put ⟨[],[],[]⟩=fin) (hs:fin.sm roots):
  LS Sol.prog c (ZbC b (λw' x=>G x\/(B<=x/\x<w'.heap.size)) (YI (fin.gr roots))) (fs.map (λy=>.recv y.2)++[.closed zF]) (b.at a [.code (cAt ofC [1,1,1,1])]) [] w:=by
 rw[Zb9];refine LS.two (Z1D r5c hr.base (N:=λs'=>get s' 6=.v (.sl [])/\get s' 1=get s 1) (by simp[r5,Zo]) λs1 a1 w1 ⟨q6,q1⟩ hr1=> ?_);refine LS.two (Z1D r6c hr1.base (N:=λs'=>get s' 7=.m [mpA vi []]/\get s' 6=.v (.sl [])/\get s' 1=get s 1) (by simp[r6,Zo,q6,q1];rfl) λs2 a2 w2 ⟨t7,t6,t1⟩ hr2=> ?_);refine LS.two (Z1D r7c hr2.base (N:=λs'=>get s' 8=.m [mpA vu []]/\get s' 7=.m [mpA vi []]/\get s' 6=.v (.sl [])/\get s' 1=get s 1) (by simp[r7,Zo,t7,t6,t1];rfl) λs3 a3 w3 ⟨u8,u7,u6,u1⟩ hr3=> ?_)
 have hch3:a3.tmps[4]?=some (.chan (some c)):=by
  rw[hr3.2.2.1.fix 4 (by simp),hr2.2.2.1.fix 4 (by simp),hr1.2.2.1.fix 4 (by simp)];exact hch
 have hsame:Same G w w3:=(hr1.2.2.1.same.trans hr2.2.2.1.same).trans hr3.2.2.1.same;refine LS.two (LS.two ?_);rw[ZfU];refine LS.region ?_;rw[Z6s,show List.range 1=[0]from rfl];obtain⟨o,o1,o2,o3,o4⟩:=ZdB;have hev:a3.eval (.tmp 4)=.chan (some c):=Act.eval_tmp a3 4 _ hch3;refine LS.value (v:=.chan (some c)) (w':=w3) o1 (by simp[Region.wanted,o2]) (by simp_all[execOp]) (LS.regEnd ?_);rw[o3];have hr4:=hr3.set (t:=23) (v:=.chan (some c)) rfl;have hsz:a3.tmps.size=82:=hr3.2.2.2.1;refine LS.block (LS.steps (.one step_loop) ?_);refine Z6M (hc:=[bs,cp,tt,y,sc,x5,x6,x7,x8,.sl (roots.map vu)]) fin (wS:=w) (B:=B) (G:=G) ?_ ?_ fs ⟨[],[],[]⟩ hfs (by grind) hfin s3 _ w3 ⟨⟨_,_,hr4.weak (R:=rLS) (by kernel_rfl)⟩,hsame,UZ (by omega),u1.trans h1,u6,u7,u8⟩
 ·refine .agg _ _ rfl (by simp) λi x hi=> ?_
  match i,hi with
  |0,hi=>cases hi;exact .int _ _
  |1,hi=>cases hi;exact .int _ _
  |2,hi=>cases hi;exact .int _ _
  |3,hi=>cases hi;exact .bool _
  |4,hi=>cases hi;exact .int _ _
  |5,hi=>cases hi;exact .int _ _
  |6,hi=>cases hi;exact .nil _ _ (Zim _)
 ·intro s5 a5 w5 T5 w05 hr5 v1 v6 v7 v8;refine LS.wp (Ql rCc ((hr5.weak (R:=rCS) (by kernel_rfl)).base) (ZfV (N:=λ_=>False) (X:=λ_ _=>False) (R:=λs'=>resV s' [(2,.ag 2),(3,.v)]=some (YI (fin.gr roots))) hs v1 v6 v7 v8 λs' h=>h)) λe a' w' hp=> ?_;cases e with
  |normal=>obtain⟨_,_,_,h,_⟩:=hp;grind
  |exit id=>obtain⟨_,_,_,h,_⟩:=hp;grind
  |ret=>
   obtain⟨s',S',hS,hR,hr'⟩:=hp;have hS:S'=rCR:=by simpa using hS
   subst hS;obtain⟨⟨h,k1,k2⟩,k3,k4,k5,k6⟩:=hr';intro todo
   obtain⟨v,hv,hvr⟩:=WS (c:=cV) (f:=Tryz.f10) (D:=λx=>G x\/(B<=x/\x<w'.heap.size)) k1 k3 (λx hx=>by
    obtain h1|h1:=k1.ok.f_or x hx
    ·grind
    ·exact .inr ⟨h1,k1.ok.f_lt x hx⟩) (λr hr=>⟨Zhm.1 (show(Tryz.f10.results.toList.all (j4 Sol.prog rCR))=true by kernel_rfl) r hr,λi x hx=>.inr ⟨(k1.ok.b_lt _ _ x hx).1,(k1.ok.b_lt _ _ x hx).2.1⟩⟩) (x:=YI (fin.gr roots)) (by rw[<-hR];rfl)
   exact LS.now ⟨rfl,a',todo,rfl,k6,v,hv,hvr⟩
  |_=>exact hp.elim
end
section
def Z52:∃o ats,clOps[1]?=some o/\o.guard=none/\o.dst=none/\o.op=.call ⟨.builtin .close, #[.tmp 70],ats⟩:=⟨_,_,rfl,rfl,rfl,rfl⟩
section
variable {b:Frame}{a:Act}{c:Nat}{w:World}
def Z3q{cs:List Frame}(hb:b.fn=27)(hk:b.kind≠.early)(ha:a.tmps[70]?=some (.chan (some c))){s r:Nat}{tm:Bool}(hc:w.heap[c]?=some (.chan 0 #[] false s r tm)):
  stepG Tryz.prog false (G (b.at a [.inRegion clOps [1]]) cs) w=.go (G (b.at a [.inRegion clOps []]) cs) (cput w c (.chan 0 #[] true s r tm)) #[⟨.obj c,false,true⟩,⟨.obj c,true,true⟩]:=by
 obtain⟨o,ats,h1,h2,h3,h4⟩:=Z52;have hev:a.eval (.tmp 70)=.chan (some c):=Act.eval_tmp a 70 _ ha
 have e0:execOp a.eval o=(do pure (.value (<-Builtin.close_ ats o.type #[.chan (some c)])):Sem Next):=by
  unfold execOp;simp only[h4];simp[resolve,builtin,hev];rfl
 have hr:(execOp a.eval o).run Tryz.prog w=.ok (.value (.tuple #[])) (cput w c (.chan 0 #[] true s r tm)):=by
  rw[e0];simp only[ZhE,run_close_open ats o.type hc,ZhC];rfl
 have he:(execOp a.eval o).events Tryz.prog w #[]=#[⟨.obj c,false,true⟩,⟨.obj c,true,true⟩]:=by
  rw[e0]
  have h2:(Builtin.close_ ats o.type #[.chan (some c)]).runT Tryz.prog w #[]=(.ok (.tuple #[]) (cput w c (.chan 0 #[] true s r tm)), #[⟨.obj c,false,true⟩,⟨.obj c,true,true⟩]):=by
   refine Zjq ?_ (events_close_open ats o.type hc);rw[ZiN];exact run_close_open ats o.type hc
  show((Sem.bind _ _).runT Tryz.prog w #[]).2=_;rw[ZiV,h2];rfl
 rw[stepG_value h1 (by simp[Region.wanted,h2]) hk hr];have e1:a.put o.dst (.tuple #[])=a:=by rw[h3];rfl
 rw[e1];unfold listed;rw[he,seen_eq (by rw[hb,Tryz.func27];rfl) (by simp)]
noncomputable def bornF:Frame:= {(default:Frame)with fn:=Tryz.prog.funcs.size,defers:=[],mode:=.panicking [goexitEntry]}
def Z4d(hb:b= {base 27 with kind:=.deferred})(hd:a.defers=[]):QuitsIn Tryz.prog 4 (G (b.at a [.inRegion clOps []]) [bornF]):=by
 subst hb;refine .ctl (g':=G (({base 27 with kind:=.deferred}:Frame).at a []) [bornF]) rfl (λw=>by simp[G,stepG,stepG.exec,Frame.at]) ?_;refine .ctl (g':=G {(({base 27 with kind:=.deferred}:Frame).at a [])with mode:=.returning} [bornF]) rfl (λw=>by simp[G,stepG,stepG.exec,Frame.at]) ?_;refine .ctl (g':=G bornF []) rfl (λw=> ?_) ?_
 ·have hf:=Tryz.func27;simp[G,stepG,unwind,Frame.at,hd,base,hf,results,Tryz.results27,doReturn,bornF,goexitEntry];rfl
 ·refine .ctl (g':= {(G bornF [])with status:=.finished}) rfl (λw=> ?_) rfl;simp[G,stepG,unwind,bornF,goexitEntry,Frame.catches];rfl
end
def Z3T(l:List Int):NoM (.sl (l.map vu)):=.sl _ λc hc=>by
 have:flat (l.map vu)=l.map vu:=YC λx hx=>by obtain⟨y,_,rfl⟩:=Zhq.1 hx;rfl
 rw[this]at hc;obtain⟨y,_,rfl⟩:=Zhq.1 hc;exact .int _ _
def Zag{n:Nat}{v:Value}(h:FixV n v)(lo m:Nat):FixV n (sliV v lo m):=by
 intro ρ hρ;have h1:=h ρ hρ;unfold sliV;split
 ·rename_i b o q k c;simp only[ren,Zhp,renA,Value.slice.injEq,Zh6,Addr.mk.injEq,and_true]at h1;split<;>simp[ren,renA,h1]
 ·exact h1
def Z9p{n:Nat}{h:Hp}{x:Nat->Value}{p:Nat}(hx:FixV n (x p))(o:Ob):FixV n (fvV h x p o):=by
 intro ρ hρ;have:=Zag hx (o.at_+1).toNat o.size.toNat ρ hρ;unfold fvV;rw[Yc];simp[ZV,Yu,this]
def Z0m{h:Hp}{x:Nat->Value}{v:Value}:∀ {n p:Nat},v∈fvs h x n p->∃q o,q<p+n/\v=fvV h x q o
 |0,p,hv=>by simp[fvs]at hv
 |n+1,p,hv=>by
  simp only[fvs,Zhx,Zhq]at hv;obtain⟨o,_,rfl⟩|hv:=hv
  ·exact⟨p,o,by omega,rfl⟩
  ·obtain⟨q,o,h1,h2⟩:=Z0m hv;exact⟨q,o,by omega,h2⟩
def bD:Frame:= {base 27 with kind:=.deferred}
def Z0g(args:Array Value):Frame.enter Tryz.prog 27 args .deferred=bD.at {tmps:=args++Array.replicate (71-args.size) undef,defers:=[]} [.code seC]:=by
 simp[Frame.enter,Frame.at,Tryz.func27,Z2E,bD,base,Tryz.ntmps27]
def Z9O:ZQ Sol.prog false seC=true:=by kernel_rfl
def Z4S:Sol.prog.funcs[Tryz.prog.funcs.size]?=none:=by
 apply Zjm;simp[Sol.prog,VI]
def Z3p{c n0:Nat}{h:Hp}{x:Nat->Value}{K:Nat->Prop}{w:World}(hh:h.ok)(hn0:w.heap.size<=n0)(hc:c<n0)(hK:∀b,K b->∃cs e fr,w.heap[b]?=some (.cells cs e fr))(hKf:∀b o,w.heap[b]?=some o->K b->FixO n0 o)
  (hx:∀j,j<5->FixV n0 (x j)) (hr:∀j,j<5->Rd w K (.sl ((lsH h j).map vu)) (x j))
  (hob:∀p,p<4->(obP h p).length<=1000000/\∀o∈obP h p,0<=o.at_/\0<=o.size/\o.at_+1+o.size<=(lsH h p).length):
  Play Tryz.prog false c K (XL Tryz.prog c) ((fvs h x 4 0).map .send) (λ_=>False) (born Tryz.prog {target:=.fn (.func 27) #[],args:=#[hpA h x,.chan (some c)]}) w:=by
 have hKl:∀b,K b->b<w.heap.size:=λb hb=>by obtain⟨_,_,_,e⟩:=hK b hb;exact(Zhd.1 e).1
 have hst:∀w1:World,stepG Tryz.prog false (born Tryz.prog {target:=.fn (.func 27) #[],args:=#[hpA h x,.chan (some c)]}) w1=.go (G (Frame.enter Tryz.prog 27 #[hpA h x,.chan (some c)] .deferred) [bornF]) w1 #[]:=λw1=>by
  have hn:¬Tryz.f27.name= "runtime.NumGoroutine" :=by decide+kernel
  have hb:¬Tryz.f27.body=none:=by rw[Z2E];simp
  simp[stepG,born,unwind,callDeferred,invoke,callFunc,G,bornF,hn,hb];rfl
 refine .step (λw1 hw1=>⟨_,_,_,_,hst w1,Zhe _,Zhe _,rfl,rfl,λ_ _ _=>rfl,λe he=>by simp at he⟩) λw1 g' w' es' hw1 e=> ?_;have e:=(hst w1).symm.trans e;injection e with e1 e2 e3;subst e1 e2;have hg:(grow (λ_=>False) w1 w1:Nat->Prop)=λ_=>False:=funext λb=>propext ⟨λhb=>by obtain hb|hb:=hb;exact hb;omega,λhb=>hb.elim⟩;rw[hg];refine Play.rely ?_ hw1
 let X:Cx:=cxS Tryz.prog Sol.prog n0 K (λ_=>False)
 have hXP:X.P=Tryz.prog:=Sol.sub.P n0 K (λ_=>False)
 have hargs:∀v∈ #[hpA h x,.chan (some c)],FixV n0 v:=λv hv=>by
  have:v=hpA h x\/v=.chan (some c):=by simpa using hv
  obtain rfl|rfl:=this
  ·intro ρ hρ;unfold hpA;rw[Yc];simp[ZV,Yu,hx 0 (by omega) ρ hρ,hx 1 (by omega) ρ hρ,hx 2 (by omega) ρ hρ,hx 3 (by omega) ρ hρ,hx 4 (by omega) ρ hρ]
  ·intro ρ hρ;simp[ren,hρ c hc]
 have hbf:∀ρ,renF ρ bornF=bornF:=λρ=>by
  simp[renF,bornF,renM,jo,goexitEntry,Xc];exact⟨by show Array.map (ren ρ) #[]=#[];simp,rfl,rfl⟩
 have hw:=Zbr X (Sol.sub.ok n0 K (λ_=>False)) (c:=c) (es:=(fvs h x 4 0).map .send) (fr:=Frame.enter Tryz.prog 27 #[hpA h x,.chan (some c)] .deferred) (cs:=[bornF]) (ds:=[]) (main:=false) (wc:=w)
  (λe he=>by
   obtain⟨v,hv,rfl⟩:=Zhq.1 he;obtain⟨q,o,hq,rfl⟩:=Z0m hv;exact⟨Z9p (hx q (by omega)) o,hc⟩)
  (λρ=>by
   rw[Z0g];refine⟨⟨λi hi=> ?_,λd hd=>by simp[Frame.at]at hd,.inr rfl,.inl ⟨_,seC,Sol.func27,Tryz.func27,Z2E,Z9O⟩⟩,λf hf=> ?_,rfl⟩
   ·have:i=.code seC:=by simpa[Frame.at]using hi
    subst this;exact Z9O
   ·have:f=bornF:=by simpa using hf
    subst this;exact⟨λi hi=>(by cases hi),λd hd=>(by cases hd),.inl rfl,.inr (.inl ⟨Z4S,Zjm (Zhe _)⟩)⟩)
  (λf hf=>by
   have:f=Frame.enter Tryz.prog 27 #[hpA h x,.chan (some c)] .deferred\/f=bornF:=by simpa using hf
   obtain rfl|rfl:=this
   ·rw[Z0g];intro ρ hρ
    have e1:(#[hpA h x,.chan (some c)]++Array.replicate (71- (#[hpA h x,.chan (some c)]:Array Value).size) undef).map (ren ρ)=#[hpA h x,.chan (some c)]++Array.replicate (71- (#[hpA h x,.chan (some c)]:Array Value).size) undef:=by
     rw[Zj2,VW hargs ρ hρ];simp[Xc]
    simp only[renF,Frame.at,e1];simp[renI,renM,bD,base]
   ·exactλρ _=>hbf ρ)
  (λb o ho hO=>by
   obtain hO|hO:=hO
   ·exact hO.elim
   ·exact hKf b o ho hO)
  (Post:=λwl=>AtCl c bD [bornF])
  (λt=>by
   rw[Z0g]
   exact Zbf bD [bornF] (X.mask w t) h hh x c K (λb hb=>by simpa[Cx.mask,X,cxS]using Zhj (hKl b hb) hn0)
    (λj hj=>Z6K (X:=X) (λb h=>h) (λb c e fr hg hc=>hg) hn0 (hr j hj) (Z3T _)) hob)
 have hw:Play Tryz.prog false c K _ ((fvs h x 4 0).map .send) (λ_=>False) (G (Frame.enter Tryz.prog 27 #[hpA h x,.chan (some c)] .deferred) ([bornF]++[])) w:=hXP▸hw;refine hw.mono λO g w' ⟨ρ,t,fr',cs',wl',fc,cc,hg,hid,⟨hcs,a,hfr,h70,hd⟩,hwv⟩=> ?_;subst hg hcs hfr;have htop:fc=renF ρ (bD.at a [.inRegion clOps [1]]):=hwv.top;have hund:cc=[bornF].map (renF ρ)++[]:=hwv.under
 have e1:fc=bD.at {tmps:=a.tmps.map (ren ρ),defers:=[]} [.inRegion clOps [1]]:=by
  rw[htop];simp[renF,Frame.at,hd,renM,renI,bD,base]
 have e2:cc=[bornF]:=by rw[hund];simp[hbf]
 rw[e1,e2]
 have h70':(a.tmps.map (ren ρ))[70]?=some (.chan (some c)):=by
  rw[Zhv,h70];simp[ren,hid c hc]
 refine⟨rfl,?_,_,4,λs r tm hcc=>Z3q rfl (by simp[bD]) h70' hcc,Z4d rfl rfl⟩;obtain⟨o,ats,o1,o2,o3,o4⟩:=Z52;simp[mayWake,G,Frame.at,bD,base,o1,o4]
end
inductive NoZ:V->Prop where
 |int (k:IntKind) (n:Int):NoZ (.int k n)
 |bool (b:Bool):NoZ (.bool b)
 |sl (l:List V):(∀y∈l,y.cells≠[])->(∀c∈flat l,NoZ c)->NoZ (.sl l)
 |agg (l:List V):(∀c∈l,NoZ c)->NoZ (.agg l)
 |tup (l:List V):(∀c∈l,NoZ c)->NoZ (.tup l)
def NoZ.m{x:V}(h:NoZ x):NoM x:=by
 induction h with
 |int k n=>exact .int k n
 |bool b=>exact .bool b
 |sl l _ _ ih=>exact .sl l ih
 |agg l _ ih=>exact .agg l ih
 |tup l _ ih=>exact .tup l ih
def ZfX{w:World}{D:Nat->Prop}{x:V}{v:Value}(h:Rd w D x v)(hm:NoZ x):Rd w (λb=>D b/\b<w.heap.size) x v:=by
 induction h with
 |int k n=>exact .int k n
 |bool b=>exact .bool b
 |nil a cap hc=>exact .nil a cap hc
 |sl l b o cap k vs h1 h2 h3 h4 h5 h6 ih=>
  cases hm with
  |sl _ hz hm=>
   cases l with
   |nil=>exact .nil _ cap h2
   |cons y l=>
    have hk:0<k:=by
     rw[<-(h4 y (by simp)).1];exact ZjM.2 (hz y (by simp))
    have hlt:=LZ (h5 0 (by simp_all));exact .sl _ b o cap k vs h1 h2 ⟨h3,hlt⟩ h4 h5 λi c hi=>ih i c hi (hm c (TR hi))
 |agg cs vs h1 h2 _ ih=>
  cases hm with
  |agg _ hm=>exact .agg cs vs h1 h2 λi c hi=>ih i c hi (hm c (Zhg hi))
 |tup l vs h1 _ ih=>
  cases hm with
  |tup _ hm=>exact .tup l vs h1 λi c hi=>ih i c hi (hm c (Zhg hi))
 |_=>cases hm
def Zb6{w:World}{D:Nat->Prop}{x:V}{v:Value}(h:Rd w D x v)(hm:NoZ x):Rd w (λb=>D b/\∃cs e fr,w.heap[b]?=some (.cells cs e fr)) x v:=by
 induction h with
 |int k n=>exact .int k n
 |bool b=>exact .bool b
 |nil a cap hc=>exact .nil a cap hc
 |sl l b o cap k vs h1 h2 h3 h4 h5 h6 ih=>
  cases hm with
  |sl _ hz hm=>
   cases l with
   |nil=>exact .nil _ cap h2
   |cons y l=>
    have hk:0<k:=by
     rw[<-(h4 y (by simp)).1];exact ZjM.2 (hz y (by simp))
    obtain⟨_,c,e,fr,hb,_⟩:=WF (h5 0 (by simp_all));exact .sl _ b o cap k vs h1 h2 ⟨h3,c,e,fr,hb⟩ h4 h5 λi c hi=>ih i c hi (hm c (TR hi))
 |agg cs vs h1 h2 _ ih=>
  cases hm with
  |agg _ hm=>exact .agg cs vs h1 h2 λi c hi=>ih i c hi (hm c (Zhg hi))
 |tup l vs h1 _ ih=>
  cases hm with
  |tup _ hm=>exact .tup l vs h1 λi c hi=>ih i c hi (hm c (Zhg hi))
 |_=>cases hm
def Zdm(l:List Int):NoZ (.sl (l.map vu)):=.sl _ (λy hy=>by obtain⟨z,_,rfl⟩:=Zhq.1 hy;simp) λc hc=>by
 rw[YC λx hx=>by obtain⟨y,_,rfl⟩:=Zhq.1 hx;rfl]at hc;obtain⟨y,_,rfl⟩:=Zhq.1 hc;exact .int _ _
def Zdl(l:List Int):NoZ (.sl (l.map vi)):=.sl _ (λy hy=>by obtain⟨z,_,rfl⟩:=Zhq.1 hy;simp) λc hc=>by
 rw[YC λx hx=>by obtain⟨y,_,rfl⟩:=Zhq.1 hx;rfl]at hc;obtain⟨y,_,rfl⟩:=Zhq.1 hc;exact .int _ _
def Z9x(g:Gr):NoZ (grV g):=.agg _ λc hc=>by
 have:c=.sl (g.nodes.map ndV)\/c=.sl (g.roots.map vi):=by simpa using hc
 obtain rfl|rfl:=this
 ·refine .sl _ (λy hy=>by obtain⟨z,_,rfl⟩:=Zhq.1 hy;simp) λc hc=> ?_;obtain⟨y,hy,hc⟩:=ZiQ.1 hc;obtain⟨n,_,rfl⟩:=Zhq.1 hy;have:c=.sl (n.ptrs.map vi)\/c=.sl (n.data.map vu):=by simpa using hc
  obtain rfl|rfl:=this
  ·exact Zdl _
  ·exact Zdm _
 ·exact Zdl _
def qW(g:Gr):NoZ (YI g):=by
 unfold YI;split
 all_goals
  refine .tup _ λc hc=> ?_;simp only[Zho,Zil,ZjD]at hc;obtain rfl|rfl:=hc
  ·exact Z9x _
  ·exact .int _ _
def S8(h:Hp):NoM (hpV h):=.agg _ λc hc=>by
 simp only[Zho,Zil,ZjD]at hc;obtain rfl|rfl|rfl|rfl|rfl|rfl|rfl|rfl|rfl|rfl:=hc
 all_goals first|exact .int _ _|exact .bool _|exact Z3T _
noncomputable def ops4:Array Oper:=Z6v (cAt ofC [1,1,1,0])
def ZaW:(ops4.all λo=>okOp Sol.prog false o.op)=true:=by kernel_rfl
def Zba:ZQ Sol.prog false (cAt ofC [1,1,1,1])=true:=by kernel_rfl
def Zdq:Sol.prog.funcs[10]?=some (refF Tryz.f10):=by
 have:=Tryz.func10;simp only[Sol.prog,VI,Zk3,this,Zhp];rfl
def Z2g{X:Cx}{w:World}{t:Nat->Question->Nat}{b:Nat}{cs:Array Value}{T:TypeId}(h:w.heap[b]?=some (.cells cs T (0,0)))(hO:X.O b)(hb:b<X.n0):(X.mask w t).heap[b]?=some (.cells cs T (0,0)):=by
 rw[zt,if_pos hb,h];unfold Cx.maskO;dsimp only;rw[if_pos hO,if_pos ⟨trivial,λc e fr e2=>by grind⟩]
def Z6O{B b1 b2:Nat}{a:Act}{T1 T2:TypeId}{K:Nat->Prop}{h:Hp}{x:Nat->Value}{wl:World}
  (hsz:a.tmps.size=82) (hd:a.defers=[]) (t1:a.tmps[1]?=some (.pointer (some ⟨b1,0,none⟩))) (t2:a.tmps[2]?=some (.pointer (some ⟨b2,0,none⟩))) (t3:a.tmps[3]?=some (.int .i64 0))
  (hb1:wl.heap[b1]?=some (.cells #[.int .u64 h.base,.int .i64 h.cap,.int .i64 h.to,.bool h.cycle,.int .i64 h.scan,x 0,x 1,x 2,x 3,x 4] T1 (0,0))) (hb2:wl.heap[b2]?=some (.cells #[.slice none 0 0,.slice none 0 0] T2 (0,0)))
  (hB1:B<=b1) (hB2:B<=b2) (h12:b1≠b2) (k1:¬K b1) (k2:¬K b2) (hK:∀b,K b->b<wl.heap.size) (hr:∀j,j<5->Rd wl K (.sl ((lsH h j).map vu)) (x j)):
  RelS K [4,23] a.tmps cV B K wl 82 [.no,.m [vu h.base,vi h.cap,vi h.to,.bool h.cycle,vi h.scan,.sl (h.low.map vu),.sl (h.high.map vu),.sl (h.old.map vu),.sl (h.far.map vu),.sl (h.roots.map vu)],.m [.sl [],.sl []],.v (vi 0)] a wl r5S:=by
 have l1:=(Zhd.1 hb1).1;have l2:=(Zhd.1 hb2).1;have i1:cV.ix 1=1:=by decide+kernel
 have i2:cV.ix 2=2:=by decide+kernel
 have i3:cV.ix 3=3:=by decide+kernel
 refine⟨⟨{F:=K,bl:=λt i=>if t=1/\i=0 then some b1 else if t=2/\i=0 then some b2 else none,K:=K},⟨⟨by omega,hK,λb hb=>.inl hb,λb hb=>hb,λt i b hb=> ?_,λt i u j b hb hb'=> ?_,hK,λt i b hb=> ?_,λb hb=>.inl hb⟩,λt _ hk=> ?_,λt hh=> ?_⟩,rfl⟩,λp hp=> ?_,.refl _ _,hsz,hd⟩
 ·grind
 ·grind
 ·grind
 ·rw[Zk]at hk⊢;by_cases e1:t=1
  ·subst e1;refine⟨_,t1,b1,_,T1,rfl,rfl,hb1,rfl,λi y hi=> ?_⟩;have hi10:i<10:=(Zh9.1 hi).1
   match i,hi10 with
   |0,_=>cases hi;exact⟨_,by rfl,rfl,.int _ _⟩
   |1,_=>cases hi;exact⟨_,by rfl,rfl,.int _ _⟩
   |2,_=>cases hi;exact⟨_,by rfl,rfl,.int _ _⟩
   |3,_=>cases hi;exact⟨_,by rfl,rfl,.bool _⟩
   |4,_=>cases hi;exact⟨_,by rfl,rfl,.int _ _⟩
   |5,_=>cases hi;exact⟨_,by rfl,rfl,hr 0 (by omega)⟩
   |6,_=>cases hi;exact⟨_,by rfl,rfl,hr 1 (by omega)⟩
   |7,_=>cases hi;exact⟨_,by rfl,rfl,hr 2 (by omega)⟩
   |8,_=>cases hi;exact⟨_,by rfl,rfl,hr 3 (by omega)⟩
   |9,_=>cases hi;exact⟨_,by rfl,rfl,hr 4 (by omega)⟩
   |i+10,h=>omega
  ·by_cases e2:t=2
   ·subst e2;refine⟨_,t2,b2,_,T2,rfl,rfl,hb2,rfl,λi y hi=> ?_⟩;have hi2:i<2:=(Zh9.1 hi).1
    match i,hi2 with
    |0,_=>cases hi;exact⟨_,by rfl,rfl,.nil _ _ (Zim _)⟩
    |1,_=>cases hi;exact⟨_,by rfl,rfl,.nil _ _ (Zim _)⟩
    |i+2,h=>omega
   ·by_cases e3:t=3
    ·subst e3;exact⟨_,t3,_,by rfl,.int _ _⟩
    simp_all[r5S,SS.at,Zjd,TK.isNo]
 ·refine absurd ?_ hh;rw[Zk];split<;>exact Y5 _
 grind [r5S,SS.at]
def EndM(cs:List Frame)(r:V)(D:Nat->Prop)(g:Goroutine)(w:World):Prop:=
 ∃fr,g=G fr cs/\fr.fn=10/\fr.mode=.returning/\fr.defers=[]/\fr.kind=.normal/\∀d,∃v,(results Tryz.f10 fr.tmps).run Tryz.prog (w.at d)=.ok v (w.at d)/\Rd (w.at d) (λb=>D b/\b<w.heap.size) r v
def Z64{c n0 B b1 b2:Nat}{a:Act}{T1 T2:TypeId}{K:Nat->Prop}{h:Hp}{x:Nat->Value}{w:World}{cs:List Frame}{fs:List (Fo×Value)}{fin:Vw}(hh:h.ok)
  (hsz:a.tmps.size=82) (hd:a.defers=[]) (t1:a.tmps[1]?=some (.pointer (some ⟨b1,0,none⟩))) (t2:a.tmps[2]?=some (.pointer (some ⟨b2,0,none⟩))) (t3:a.tmps[3]?=some (.int .i64 0)) (t4:a.tmps[4]?=some (.chan (some c)))
  (hb1:w.heap[b1]?=some (.cells #[.int .u64 h.base,.int .i64 h.cap,.int .i64 h.to,.bool h.cycle,.int .i64 h.scan,x 0,x 1,x 2,x 3,x 4] T1 (0,0))) (hb2:w.heap[b2]?=some (.cells #[.slice none 0 0,.slice none 0 0] T2 (0,0)))
  (hBw:B<=w.heap.size) (hB1:B<=b1) (hB2:B<=b2) (h12:b1≠b2) (k1:¬K b1) (k2:¬K b2) (hn0:w.heap.size<=n0) (hc:c<n0)
  (hK:∀b,K b->∃cs e fr,w.heap[b]?=some (.cells cs e fr)) (hKf:∀(b:Nat) (cs:Array Value) (e:TypeId) (fr:Nat×Nat),w.heap[b]?=some (Obj.cells cs e fr)->FixO n0 (Obj.cells cs e fr)) (hfT:∀v∈a.tmps,FixV n0 v) (hx:∀j,j<5->FixV n0 (x j))
  (hr:∀j,j<5->Rd w K (.sl ((lsH h j).map vu)) (x j)) (hfs:∀y∈fs,Rd w K (foV y.1) y.2/\NoM (foV y.1)) (hev:fs.map (·.2)=fvs h x 4 0) (hn:fs.length<=4000000) (hfin:(fs.map (·.1)).foldl Vw.put ⟨[],[],[]⟩=fin) (hs:fin.sm h.roots):
  Play Tryz.prog true c K (λ_=>EndM cs (YI (fin.gr h.roots)) (λb=>K b\/B<=b)) ((fvs h x 4 0).map .recv++[.closed zF]) (λb=>b=b1\/b=b2) (G ((base 10).at a [.inRegion ops4 [],.code (cAt ofC [1,1,1,1])]) cs) w:=by
 have hKl:∀b,K b->b<w.heap.size:=λb hb=>by grind
 have l1:=(Zhd.1 hb1).1;have l2:=(Zhd.1 hb2).1
 let X:Cx:=cxS Tryz.prog Sol.prog n0 K (λb=>b=b1\/b=b2)
 have hXP:∀ρ,(X.at ρ).P=Tryz.prog:=λρ=>Sol.sub.same.symm;have hmz:∀t,(X.mask w t).heap.size=n0:=λt=>by simp[Cx.mask,X,cxS]
 have hes:(fvs h x 4 0).map Ev.recv=fs.map λy=>.recv y.2:=by rw[<-hev,ZjO];rfl
 have hOK:∀b,(b=b1\/b=b2)->¬K b:=λb hb=>by grind
 have hw:=Zbr X (Sol.sub.ok n0 K (λb=>b=b1\/b=b2)) (c:=c) (es:=(fvs h x 4 0).map .recv++[.closed zF]) (fr:=(base 10).at a [.inRegion ops4 [],.code (cAt ofC [1,1,1,1])]) (cs:=[]) (ds:=cs) (main:=true) (wc:=w)
  (λe he=>by
   obtain he|he:=Zhx.1 he
   ·obtain⟨v,hv,rfl⟩:=Zhq.1 he;obtain⟨q,o,hq,rfl⟩:=Z0m hv;exact⟨Z9p (hx q (by omega)) o,hc⟩
   ·have:e=.closed zF:=by simpa using he
    subst this;exact⟨λρ _=>by simp_all[zF,Yc,ren],hc⟩)
  (λρ=>by
   refine⟨⟨λi hi=> ?_,λd hd'=> ?_,.inl rfl,.inr (.inr ⟨_,_,Zdq,Tryz.func10,rfl⟩)⟩,λf hf=>by simp at hf,rfl⟩
   ·have:i=.inRegion ops4 []\/i=.code (cAt ofC [1,1,1,1]):=by simpa[Frame.at]using hi
    obtain rfl|rfl:=this
    ·exact ZaW
    ·exact Zba
   ·rw[show((base 10).at a [.inRegion ops4 [],.code (cAt ofC [1,1,1,1])]).defers=a.defers from rfl,hd]at hd';simp at hd')
  (λf hf=>by
   have:f=(base 10).at a [.inRegion ops4 [],.code (cAt ofC [1,1,1,1])]:=by simpa using hf
   subst this;intro ρ hρ;simp only[renF,Frame.at,VW hfT ρ hρ,hd];rfl)
  (λb o ho hO=>by
   obtain hO|hO:=hO
   ·obtain rfl|rfl:=hO
    ·rw[hb1]at ho;cases ho;exact hKf _ _ _ _ hb1
    ·rw[hb2]at ho;cases ho;exact hKf _ _ _ _ hb2
   ·obtain⟨cs,e,fr,he⟩:=hK b hO;rw[ho]at he;cases he;exact hKf _ _ _ _ ho)
  (Post:=λwl=>ZbC (base 10) (λw' b=>K b\/(B<=b/\b<w'.heap.size)) (YI (fin.gr h.roots)))
  (λt=>by
   rw[hes]
   have hrm:∀ {y:V} {v:Value},Rd w K y v->NoM y->Rd (X.mask w t) K y v:=λ{y v} h1 h2=>by
    clear hfs
    induction h1 with
    |int k n=>exact .int k n
    |bool b=>exact .bool b
    |str s=>exact .str s
    |nil a cap h=>exact .nil a cap h
    |sl l b o cap k vs q1 q2 hb hf hc' _ ih=>
     cases h2 with
     |sl _ hm=>exact .sl l b o cap k vs q1 q2 hb hf (λi hi=>S4 (λho=>hOK b ho hb) (λc e fr _=>hb) hn0 (hc' i hi)) λi c hi=>ih i c hi (hm c (TR hi))
    |agg cs vs q1 q2 _ ih=>
     cases h2 with
     |agg _ hm=>exact .agg cs vs q1 q2 λi c hi=>ih i c hi (hm c (Zhg hi))
    |tup l vs q1 _ ih=>
     cases h2 with
     |tup _ hm=>exact .tup l vs q1 λi c hi=>ih i c hi (hm c (Zhg hi))
    |ptr cs b o vs hb q1 hc' _ ih=>
     cases h2 with
     |ptr _ hm=>exact .ptr cs b o vs hb q1 (λi hi=>S4 (λho=>hOK b ho hb) (λc e fr _=>hb) hn0 (hc' i hi)) λi c hi=>ih i c hi (hm c (Zhg hi))
    |fn f=>exact .fn f
    |clo f cs vs q1 _ ih=>
     cases h2 with
     |clo _ _ hm=>exact .clo f cs vs q1 λi c hi=>ih i c hi (hm c (Zhg hi))
    |nul0=>exact .nul0
    |nul1=>exact .nul1
    |nomp=>cases h2
    |mp=>cases h2
   refine LS.regEnd (ZaU (G:=K) (B:=B) (Z6O hsz hd t1 t2 t3 (Z2g hb1 (.inl rfl) (by show b1<n0;omega)) (Z2g hb2 (.inr rfl) (by show b2<n0;omega)) hB1 hB2 h12 k1 k2 (λb hb=>by grind) λj hj=>hrm (hr j hj) (Z3T _)) t4 rfl (λy hy=>hrm (hfs y hy).1 (hfs y hy).2) hn hfin hs))
 have hw:Play Tryz.prog true c K _ ((fvs h x 4 0).map .recv++[.closed zF]) (λb=>b=b1\/b=b2) (G ((base 10).at a [.inRegion ops4 [],.code (cAt ofC [1,1,1,1])]) ([]++cs)) w:=(hXP id)▸hw;refine hw.mono λO g w' ⟨ρ,t,fr',cs',wl',fc,cc,hg,hid,⟨hcs,a',todo,hfr,hd',v,hv,hvr⟩,hwv⟩=> ?_;subst hg hcs hfr;have htop:fc=renF ρ {(base 10).at a' todo with mode:=.returning}:=hwv.top;have hund:cc=cs:=hwv.under;subst hund;refine⟨fc,rfl,by rw[htop];rfl,by rw[htop];rfl,by rw[htop];show a'.defers.map _=_;grind,by rw[htop];rfl,λd=> ?_⟩;have hwr:(X.at ρ).WR wl' (w'.at d):=ZbG hwv.wr d;have hlook:=RE Tryz.f10 (a'.tmps.map (ren ρ));have hwd:wdR ((results Tryz.f10 (a'.tmps.map (ren ρ))).run Tryz.prog (w'.at d))=w'.at d:=hlook.world _
 have htold:=(Tf (X:=X.at ρ) (V:=[]) Tryz.f10 a'.tmps).run wl' (w'.at d) #[] hwr (λr hr=>by simp at hr)
  (λj hj=>by
   rw[hXP ρ]at hj;have e:(wdR ((results Tryz.f10 (a'.tmps.map (ren (X.at ρ).ρ))).run Tryz.prog (w'.at d))).drawn=(w'.at d).drawn:=Ziu World.drawn hwd;omega)
  (λj hj=>by
   rw[hXP ρ]at hj;have e:(wdR ((results Tryz.f10 (a'.tmps.map (ren (X.at ρ).ρ))).run Tryz.prog (w'.at d))).heap.size=(w'.at d).heap.size:=Ziu (λw=>w.heap.size) hwd;omega)
 have h5':(results Tryz.f10 a'.tmps).run (X.at ρ).Q wl'=.ok v wl':=hv;rw[h5',hXP ρ]at htold;obtain⟨b,wc',es',he,hb',haf⟩:=htold
 have hrun:(results Tryz.f10 (a'.tmps.map (ren ρ))).run Tryz.prog (w'.at d)=.ok b wc':=by
  have:=Ziu Prod.fst he;rw[ZiN]at this;exact this
 have hwc:wc'=w'.at d:=by
  have:=hwd;rw[hrun]at this;exact this
 subst hwc;have hb'':b=ren ρ v:=hb';refine⟨b,by rw[htop];exact hrun,?_⟩;rw[hb''];refine(ZfX (Z9K hwr hvr (qW _).m) (qW _)).mono λb' hb1'=> ?_;obtain⟨⟨z,hz,rfl⟩,hlt⟩:=hb1';refine⟨?_,hlt⟩;by_cases hzn:z<n0
 ·have e:(X.at ρ).ρ z=z:=hid z hzn
  grind
 ·obtain hz|hz:=hz
  ·grind
  ·right;have:=hwv.new z (Nat.le_of_not_lt hzn) hz.2;omega
def foP(h:Hp)(p:Nat)(o:Ob):Fo:=⟨o,(ZI (layH h) ((p:Int)+1) o.at_).1,((lsH h p).drop (o.at_+1).toNat).take o.size.toNat⟩
def fos(h:Hp):Nat->Nat->List Fo
 |0,_=>[]
 |n+1,p=>(obP h p).map (foP h p)++fos h n (p+1)
def frs(h:Hp)(x:Nat->Value):Nat->Nat->List (Fo×Value)
 |0,_=>[]
 |n+1,p=>(obP h p).map (λo=>(foP h p o,fvV h x p o))++frs h x n (p+1)
def Z0l(h:Hp)(x:Nat->Value):∀(n p:Nat),(frs h x n p).map (·.1)=fos h n p
 |0,p=>rfl
 |n+1,p=>by simp_all[frs,fos,Zic,ZjO,Z0l]
def Z5m(h:Hp)(x:Nat->Value):∀(n p:Nat),(frs h x n p).map (·.2)=fvs h x n p
 |0,p=>rfl
 |n+1,p=>by simp_all[frs,fvs,Zic,ZjO,Z5m]
def Z5l{h:Hp}{x:Nat->Value}{y:Fo×Value}:∀ {n p:Nat},y∈frs h x n p->∃q o,q<p+n/\o∈obP h q/\y=(foP h q o,fvV h x q o)
 |0,p,hv=>by simp[frs]at hv
 |n+1,p,hv=>by
  simp only[frs,Zhx,Zhq]at hv;obtain⟨o,ho,rfl⟩|hv:=hv
  ·exact⟨p,o,by omega,ho,rfl⟩
  ·obtain⟨q,o,h1,h2⟩:=Z5l hv;exact⟨q,o,by omega,h2⟩
def V0(h:Hp):Vw:=(fos h 4 0).foldl Vw.put ⟨[],[],[]⟩
def ofR(h:Hp):V:=if Yp h=true then YI ((V0 h).gr h.roots)else .tup [grV noGr,vi 1]
structure OfOk (h:Hp):Prop where
 ob:∀p,p<4->(obP h p).length<=1000000/\∀o∈obP h p,0<=o.at_/\0<=o.size/\o.at_+1+o.size<=(lsH h p).length
 n:(fos h 4 0).length<=4000000
 sm:(V0 h).sm h.roots
def ZdT{w:World}{K:Nat->Prop}{l:List Int}{v:Value}(h:Rd w K (.sl (l.map vu)) v){lo n:Nat}(h0:0<l.length)(hn:lo+n<=l.length):Rd w K (.sl (((l.drop lo).take n).map vu)) (sliV v lo n):=by
 generalize hL:l.map vu=L at h;have hlen:L.length=l.length:=by rw[<-hL,Zi1]
 cases h with
 |nil a cap hc=>simp_all
 |sl _ b o cap k vs h1 h2 h3 h4 h5 h6=>
  have hk:k=1:=by
   have hm:vu (l[0]'h0)∈L:=by rw[<-hL];exact List.mem_map_of_mem (Zhi h0)
   have:=(h4 _ hm).1;simpa[vu,V.cells]using this.symm
  subst hk;unfold sliV;dsimp only;have hl2:(((l.drop lo).take n).map vu).length=n:=by simp;omega
  by_cases hz:n=0
  ·subst hz;simp only[Zl8,Zja];exact .nil _ _ (by omega)
  ·rw[if_neg (by omega)]
   have:=Rd.sl (w:=w) (G:=K) (((l.drop lo).take n).map vu) b (o+lo) (cap-lo) 1 (λi=>vs (lo+i)) (by omega) (by omega) h3 (λx hx=>by grind)
    (λi hi=>by grind)
    (λi c hi=>by
     rw[YC λx hx=>by obtain⟨y,_,rfl⟩:=Zhq.1 hx;rfl,Zhr,ZhN]at hi;split at hi
     ·rw[ZhU]at hi;exact h6 (lo+i) c (by rw[<-hL,YC λx hx=>by obtain⟨y,_,rfl⟩:=Zhq.1 hx;rfl,Zhr];exact hi)
     ·cases hi)
   simp_all
def Zdj(f:Fo):NoM (foV f):=.agg _ λc hc=>by
 simp only[Zho,Zil,ZjD]at hc;obtain rfl|rfl|rfl|rfl|rfl|rfl|rfl:=hc
 all_goals first|exact .int _ _|exact .bool _|exact Z3T _
def ZcZ{w:World}{K:Nat->Prop}{h:Hp}{x:Nat->Value}(hk:OfOk h)(hr:∀j,j<5->Rd w K (.sl ((lsH h j).map vu)) (x j)):∀y∈frs h x 4 0,Rd w K (foV y.1) y.2/\NoM (foV y.1):=by
 intro y hy;obtain⟨q,o,hq,ho,rfl⟩:=Z5l hy;refine⟨?_,Zdj _⟩;obtain⟨h1,h2,h3⟩:=(hk.ob q (by omega)).2 o ho;refine .agg _ _ rfl (by simp) λi c hi=> ?_
 match i,hi with
 |0,hi=>cases hi;exact .int _ _
 |1,hi=>cases hi;exact .int _ _
 |2,hi=>cases hi;exact .int _ _
 |3,hi=>cases hi;exact .bool _
 |4,hi=>cases hi;exact .int _ _
 |5,hi=>cases hi;exact .int _ _
 |6,hi=>cases hi;exact ZdT (hr q (by omega)) (by omega) (by omega)
noncomputable def cB:Ctx:= {P:=bes Tryz.prog,ix:=(vf (bes Tryz.prog)).ix,own:=λ_=>false,fresh,sig:=sigV,tr:=[3],n:=82}
def Z1K{P:Program}:∀ {c:Code},Kd P c=true->TA (Lg.fit (bes P)) c:=by
 intro c
 induction c with
 |region id ops d=>exactλh o ho=>(Zj3.1 h) o ho
 |seq x y hx hy=>intro h;simp only[Kd,Zhb]at h;exact⟨hx h.1,hy h.2⟩
 |cond c x y hx hy=>intro h;simp only[Kd,Zhb]at h;exact⟨hx h.1,hy h.2⟩
 |block id x hx=>exact hx
 |loop x hx=>exact hx
 |scope x hx=>exact hx
 |_=>intro h;first|trivial|cases h
def Qb:(bes Tryz.prog).follows .mixedOrders=true:=by kernel_rfl
def qZ{code:Code}{S:SS}{st:Stm}{fl:Flow}{B:Nat}{G Kf:Nat->Prop}{s:St}{a:Act}{w w0:World}{T0:Array Value}{N:St->Prop}{X:Nat->St->Prop}{Rt:St->Prop}(hf:Kd Tryz.prog code=true)(hc:comp (vf (bes Tryz.prog)) code S=some (st,fl))(hr:RelS Kf [4,23] T0 cB B G w0 82 s a w S)(hw:wpS (bes Tryz.prog) st s N X Rt):
  wpB Tryz.prog code (Post Kf [4,23] T0 cB B G w0 82 fl N X Rt) a w:=
 letI:Lg (vf (bes Tryz.prog)).P:=besI Tryz.prog
 SE (fc:=vf (bes Tryz.prog)) Qb (λp hp q hq he=>Z17 (ZiS _ hp) (ZiS _ hq) he) rfl rfl rfl (Zhe _) code (Z1K hf) hc hr hw
def Zdp:Tryz.f10.body=some ofC:=by kernel_rfl
def ZaT:ofC=.seq (cAt ofC [0]) (.seq (cAt ofC [1,0]) (.seq (cAt ofC [1,1,0]) (.seq (cAt ofC [1,1,1,0]) (cAt ofC [1,1,1,1])))):=by kernel_rfl
noncomputable def ops3:Array Oper:=Z6v (cAt ofC [1,1,0])
def ZfS:cAt ofC [1,1,0]=.region 3 ops3 false:=by kernel_rfl
def ZfT:cAt ofC [1,1,1,0]=.region 4 ops4 false:=by kernel_rfl
def Zdw:∃o,ops3[0]?=some o/\o.guard=none/\o.dst=some 18/\o.op=.makeChan 60 (.const (.int .i64 0)):=⟨_,rfl,rfl,rfl,rfl⟩
def Zdx:∃o,ops3[1]?=some o/\o.guard=none/\o.dst=some 4/\o.op=.assign (.tmp 18):=⟨_,rfl,rfl,rfl,rfl⟩
def Zdy:∃o,ops4[0]?=some o/\o.guard=none/\o.dst=some 19/\o.op=.load 25 (.tmp 1):=⟨_,rfl,rfl,rfl,rfl⟩
def Zdz:∃o,ops4[1]?=some o/\o.guard=none/\o.dst=some 20/\o.op=.move (.tmp 4):=⟨_,rfl,rfl,rfl,rfl⟩
def ZdA:∃o ats,ops4[2]?=some o/\o.guard=none/\o.dst=none/\o.op=.go ⟨.value (.func 27), #[.tmp 19,.tmp 20],ats⟩:=⟨_,_,rfl,rfl,rfl,rfl⟩
def j7:ops3.size=2/\ops4.size=3:=⟨rfl,rfl⟩
def Z7Q:∃d inf,Tryz.prog.underlying 60=some (.chan d 70)/\Tryz.prog.info? 70=some inf:=⟨_,_,rfl,rfl⟩
def Z7L{B:Nat}{w w':World}(h:Below B w w')(d:Nat):Below B w (w'.at d):=⟨h.os,h.tape,h.output,h.size,h.block⟩
def Zal{b:Frame}{k:List Item}{cs:List Frame}{a:Act}{hv:Value}{c:Nat}(hk:b.kind≠.early)(h19:a.tmps[19]?=some hv)(h20:a.tmps[20]?=some (.chan (some c)))(w:World):
  stepG Tryz.prog true (G (b.at a (.inRegion ops4 [2]::k)) cs) w=.spawn (G (b.at a (.inRegion ops4 []::k)) cs) (born Tryz.prog {target:=.fn (.func 27) #[],args:=#[hv,.chan (some c)]}) w #[]:=by
 obtain⟨o,ats,o1,o2,o3,o4⟩:=ZdA;have e1:=Act.eval_tmp a 19 _ h19;have e2:=Act.eval_tmp a 20 _ h20
 have e0:execOp a.eval o=(pure (.spawn {target:=.fn (.func 27) #[],args:=#[hv,.chan (some c)]}):Sem Next):=by
  unfold execOp;simp only[o4];simp[resolve,Deferred.ofValue,Act.eval,h19,h20]
 have:=stepG_spawn (P:=Tryz.prog) (main:=true) (b:=b) (a:=a) (k:=k) (cs:=cs) (w:=w) (i:=2) (rest:=[]) o1 (by simp[Region.wanted,o2]) hk (by rw[e0];rfl) rfl;rw[o3]at this;rw[this];unfold listed;rw[e0];rfl
def Z8t{h:Hp}{B:Nat}{G:Nat->Prop}{s:St}{a:Act}{w w0:World}{T0:Array Value}(hr:RelS G [4,23] T0 cB B G w0 82 s a w rXN)(q1:get s 1=.m [vu h.base,vi h.cap,vi h.to,.bool h.cycle,vi h.scan,.sl (h.low.map vu),.sl (h.high.map vu),.sl (h.old.map vu),.sl (h.far.map vu),.sl (h.roots.map vu)])(q3:get s 3=.v (vi 0)):
  ∃(F:Nat->Prop) (b1 b2:Nat) (T1 T2:TypeId) (x:Nat->Value),(∀b,F b->G b\/B<=b)/\¬F b1/\¬F b2/\B<=b1/\B<=b2/\b1≠b2/\B<=w.heap.size/\a.tmps[1]?=some (.pointer (some ⟨b1,0,none⟩))/\a.tmps[2]?=some (.pointer (some ⟨b2,0,none⟩))/\a.tmps[3]?=some (.int .i64 0)/\
   w.heap[b1]?=some (.cells #[.int .u64 h.base,.int .i64 h.cap,.int .i64 h.to,.bool h.cycle,.int .i64 h.scan,x 0,x 1,x 2,x 3,x 4] T1 (0,0))/\w.heap[b2]?=some (.cells #[.slice none 0 0,.slice none 0 0] T2 (0,0))/\
   (∀j,j<5->Rd w F (.sl ((lsH h j).map vu)) (x j)):=by
 obtain⟨⟨h1,k1,k2⟩,k3,k4,k5,k6⟩:=hr;have i1:cB.ix 1=1:=by decide+kernel
 have i3:cB.ix 3=3:=by decide+kernel
 obtain⟨u1,t1,b1,vs1,T1,f1,rfl,f3,f4⟩:=k1.at_ 1 (by rw[Zk];exact Y5 _) (by rfl);obtain⟨u2,t2,b2,vs2,T2,g1,rfl,g3,g4⟩:=k1.at_ 2 (by rw[Zk];exact Y5 _) (by rfl);obtain⟨u3,t3,hk3⟩:=k1.at_ 3 (by rw[Zk];exact Y5 _) (by rfl);obtain⟨y3,hy3,hr3⟩:∃y,eval s (.s (cB.ix 3))=some y/\Rd w (h1.ext []) y u3:=hk3;rw[i3]at hy3;simp only[eval,q3,Zh6]at hy3;subst hy3;have e3:=Vq hr3;subst e3;have hs1:vs1.size=10:=f4.1;have hs2:vs2.size=2:=g4.1
 have hc:∀(i:Nat) (y:V),[vu h.base,vi h.cap,vi h.to,.bool h.cycle,vi h.scan,.sl (h.low.map vu),.sl (h.high.map vu),.sl (h.old.map vu),.sl (h.far.map vu),.sl (h.roots.map vu)][i]?=some y->Rd w h1.F y (vs1.getD i undef):=λi y hi=>by
  have hi10:i<10:=(Zh9.1 hi).1
  have:=f4.2 i (.fz,.m (cB.ix 1) i) (by
   match i,hi10 with
   |0,_=>rfl
   |1,_=>rfl
   |2,_=>rfl
   |3,_=>rfl
   |4,_=>rfl
   |5,_=>rfl
   |6,_=>rfl
   |7,_=>rfl
   |8,_=>rfl
   |9,_=>rfl
   |i+10,h=>omega)
  obtain⟨z,z1,z2,z3⟩:=this;rw[i1]at z1;simp only[eval,q1,hi,Zhh]at z1;obtain⟨rfl,_⟩:=X5 z1;exact z3
 have hn:∀i,i<2->vs2.getD i undef=.slice none 0 0:=λi hi=>by
  have:=g4.2 i (.nil,.m (cB.ix 2) i) (by
   grind)
  exact this.1
 have ev1:vs1=#[.int .u64 h.base,.int .i64 h.cap,.int .i64 h.to,.bool h.cycle,.int .i64 h.scan,vs1.getD 5 undef,vs1.getD 6 undef,vs1.getD 7 undef,vs1.getD 8 undef,vs1.getD 9 undef]:=by
  refine ZkS (by omega) λi q w'=> ?_;have hi:i<10:=by simpa using w'
  have e:vs1[i]=vs1.getD i undef:=by simp[Array.getD,q]
  rw[e]
  match i,hi with
  |0,_=>exact Vq (hc 0 _ rfl)
  |1,_=>exact Vq (hc 1 _ rfl)
  |2,_=>exact Vq (hc 2 _ rfl)
  |3,_=>exact Z2u (hc 3 _ rfl)
  |4,_=>exact Vq (hc 4 _ rfl)
  |5,_=>rfl
  |6,_=>rfl
  |7,_=>rfl
  |8,_=>rfl
  |9,_=>rfl
  |i+10,h=>omega
 have ev2:vs2=#[.slice none 0 0,.slice none 0 0]:=by
  refine ZkS (by omega) λi q w'=> ?_;have hi:i<2:=by simpa using w'
  have e:vs2[i]=vs2.getD i undef:=by simp[Array.getD,q]
  rw[e,hn i hi]
  match i,hi with
  |0,_=>rfl
  |1,_=>rfl
  |i+2,h=>omega
 obtain⟨m1,m2,m3⟩:=k1.ok.b_lt 1 0 b1 f1;obtain⟨n1,n2,n3⟩:=k1.ok.b_lt 2 0 b2 g1;refine⟨h1.F,b1,b2,T1,T2,λj=>vs1.getD (5+j) undef,k1.ok.f_or,m3,n3,m1,n1,λe=> ?_,k1.ok.base,t1,t2,t3,by grind,by grind,λj hj=> ?_⟩
 ·grind
 ·match j,hj with
  |0,_=>exact hc 5 _ rfl
  |1,_=>exact hc 6 _ rfl
  |2,_=>exact hc 7 _ rfl
  |3,_=>exact hc 8 _ rfl
  |4,_=>exact hc 9 _ rfl
  |j+5,h=>omega
def ZbD{h:Hp}(hh:h.ok)(hk:Yp h=true->OfOk h):VC (bes Tryz.prog) 10 false [hpV h] (ofR h):=by
 refine⟨by kernel_rfl,λw G vs hG hsz hrd cs Stop hK=> ?_⟩;have hright:VC (bes Tryz.prog) 19 false [hpV h] (.bool (Yp h)):=Z5T Sol.sub (Zfc hh) (λy hy=>by rw[Zia.1 hy];exact S8 h) (.bool _);have hs1:vs.size=1:=hsz;have hv0:Rd w G (hpV h) (vs.getD 0 undef):=hrd 0 _ rfl
 have hent:Frame.enter Tryz.prog 10 vs .normal=(base 10).at {tmps:=vs++Array.replicate (82-vs.size) undef,defers:=[]} [.code ofC]:=by
  rw[enter_at vs Tryz.func10 Zdp,Tryz.ntmps10]
 show Walk Tryz.prog Stop (Frame.enter Tryz.prog 10 vs .normal) cs w;rw[hent,ZaT];clear hent;have i0:cB.ix 0=0:=by decide+kernel
 generalize ha0:({tmps:=vs++Array.replicate (82-vs.size) undef,defers:=[]}:Act)=a0
 have t0:a0.tmps[0]?=some (vs.getD 0 undef):=by
  rw[<-ha0];simp only;rw[Zj0 (by omega)];simp[Zhc,hs1]
 have hr0:RelS G [4,23] a0.tmps cB w.heap.size G w 82 [.v (hpV h)] a0 w r0S:=by
  refine⟨⟨{F:=G,bl:=λ_ _=>none,K:=G},⟨⟨Zhe _,hG,λb hb=>.inl hb,λb hb=>hb,λt i b hb=>(by cases hb),λt i u j b hb=>(by cases hb),hG,λt i b hb=>(by cases hb),λb hb=>.inl hb⟩,λt _ hk=> ?_,λt hh=> ?_⟩,rfl⟩,λp hp=> ?_,.refl _ _,by rw[<-ha0];simp[hs1],by rw[<-ha0]⟩
  ·rw[Zk]at hk⊢;by_cases e:t=0
   ·subst e;exact⟨_,t0,hpV h,by rw[i0];rfl,hv0.mono λb hb=>.inl hb⟩
   ·simp[r0S,SS.at,Zjd e,TK.isNo]at hk
  ·refine absurd ?_ hh;rw[Zk];split<;>exact Y5 _
  ·simp only[r0S,SS.at]at hp;split at hp<;>cases hp
 refine .two (qZ (by kernel_rfl) r0c hr0 (N:=λs'=>get s' 1=.m [vu h.base,vi h.cap,vi h.to,.bool h.cycle,vi h.scan,.sl (h.low.map vu),.sl (h.high.map vu),.sl (h.old.map vu),.sl (h.far.map vu),.sl (h.roots.map vu)]/\get s' 2=.m [.sl [],.sl []]/\get s' 3=.v (vi 0)) (X:=λ_ _=>False) (Rt:=λ_=>False) (by simp[r0]) (base 10) _ cs Stop (by simp[base]) λe a1 w1 hp=> ?_);cases e with
 |exit id=>obtain⟨_,_,_,h,_⟩:=hp;exact h.elim
 |ret=>obtain⟨_,_,_,h,_⟩:=hp;exact h.elim
 |normal=>
  obtain⟨s1,S1,hS1,⟨q1,q2,q3⟩,hr1⟩:=hp;cases hS1;have hb1:Below w.heap.size w w1:=hr1.2.2.1.below;refine .two (qZ (by kernel_rfl) rXc hr1.base (N:=λs'=>Yp h=true/\get s' 1=get s1 1/\get s' 3=get s1 3) (X:=λ_ _=>False) (Rt:=λs'=>Yp h=false/\resV s' [(2,.ag 2),(3,.v)]=some (.tup [grV noGr,vi 1])) ?_ (base 10) _ cs Stop (by simp[base]) λe a2 w2 hp=> ?_)
  ·simp[rX,q1];refine Z0 hright (by simp) ?_;cases hrr:Yp h
   ·simp[Zo,resV,Si,JL,noGr,grV]
   ·simp[Zo,q1]
  ·cases e with
   |exit id=>obtain⟨_,_,_,h,_⟩:=hp;exact h.elim
   |ret=>
    obtain⟨s2,S2,hS2,⟨e1,e2⟩,hr2⟩:=hp;have hS2:S2=rXR:=by simpa using hS2
    subst hS2;have hb2:Below w.heap.size w w2:=hb1.trans hr2.2.2.1.below;intro todo;refine hK _ w2 rfl ⟨rfl,hr2.2.2.2.2,rfl,_,Tryz.func10,λd=> ?_⟩;obtain⟨⟨h2,k1,k2⟩,k3,k4,k5,k6⟩:=hr2.sim d
    obtain⟨v,hv,hvr⟩:=WS (c:=cB) (f:=Tryz.f10) (D:=λb=>(false=false/\G b)\/(w.heap.size<=b/\b< (w2.at d).heap.size)) k1 k3 (λb hb=>by
     obtain h1|h1:=k1.ok.f_or b hb
     ·exact .inl ⟨rfl,h1⟩
     ·exact .inr ⟨h1,k1.ok.f_lt b hb⟩) (λr hr=>⟨Zhm.1 (show(Tryz.f10.results.toList.all (j4 (bes Tryz.prog) rXR))=true by kernel_rfl) r hr,λi b hb=>.inr ⟨(k1.ok.b_lt _ _ b hb).1,(k1.ok.b_lt _ _ b hb).2.1⟩⟩) (x:=.tup [grV noGr,vi 1]) (by rw[<-e2];exact Ziu (resV s2) (by kernel_rfl))
    refine⟨v,hv,v,rfl,Z7L hb2 d,?_⟩;unfold ofR;rw[if_neg (by rw[e1];simp)];exact hvr
   |normal=>
    obtain⟨s2,S2,hS2,⟨e1,e2,e3⟩,hr2⟩:=hp;cases hS2;have hb2:Below w.heap.size w w2:=hb1.trans hr2.2.2.1.below;have hok:=hk e1;obtain⟨F,b1,b2,T1,T2,x,hF,nF1,nF2,hB1,hB2,h12,hBw,t1,t2,t3,hw1,hw2,hrx⟩:=Z8t (h:=h) hr2 (e2.trans q1) (e3.trans q3);have hsz2:a2.tmps.size=82:=hr2.2.2.2.1;have hd2:a2.defers=[]:=hr2.2.2.2.2;have l1:=(Zhd.1 hw1).1;have l2:=(Zhd.1 hw2).1;obtain⟨o,o1,o2,o3,o4⟩:=Zdw;obtain⟨o',p1,p2,p3,p4⟩:=Zdx;obtain⟨dir,inf,hty,hinf⟩:=Z7Q;refine .two ?_;rw[ZfS];refine .region ?_;rw[j7.1,show List.range 2=[0,1]from rfl];refine Walk.chan (i:=0) o1 (by simp[Region.wanted,o2]) (by simp[base]) o4 hty hinf ?_;rw[o3];generalize hc:w2.heap.size=c;obtain⟨w3,hw3⟩:∃w3,w3=w2.alloc (.chan 0 #[] false 0 0 false):=⟨_,rfl⟩;rw[<-hw3];have ev18:((a2.put (some 18) (.chan (some c))).eval (.tmp 18))=.chan (some c):=Act.eval_tmp _ 18 _ (UZ (by omega));refine Walk.val (i:=1) (v:=.chan (some c)) p1 (by simp[Region.wanted,p2]) (by simp[base]) (by rw[p4];rfl) (λw' _=>by unfold execOp;simp only[p4,ev18];rfl) (.regEnd ?_);rw[p3];have z3:w3.heap.size=c+1:=by rw[hw3,<-hc];simp
    have hch:w3.heap[c]?=some (.chan 0 #[] false 0 0 false):=by rw[hw3,<-hc];exact ZhX ..
    have ho3:∀b,b<c->w3.heap[b]?=w2.heap[b]? :=λb hb=>by rw[hw3];exact Zif _ _ _ (by omega)
    have hb3:Below w.heap.size w w3:=by rw[hw3];exact hb2.alloc (by omega) _
    have m1:w3.heap[b1]?=_:=(ho3 b1 (by omega)).trans hw1;have m2:w3.heap[b2]?=_:=(ho3 b2 (by omega)).trans hw2;obtain⟨o0,a1',a2',a3',a4'⟩:=Zdy;obtain⟨o9,c1',c2',c3',c4'⟩:=Zdz;refine .two ?_;rw[ZfT];refine .region ?_;rw[j7.2,show List.range 3=[0,1,2]from rfl];generalize hA3:(a2.put (some 18) (.chan (some c))).put (some 4) (.chan (some c))=a3;have g1:a3.tmps[1]?=some (.pointer (some ⟨b1,0,none⟩)):=by rw[<-hA3,Yi (by omega),Yi (by omega)];exact t1
    have g4:a3.tmps[4]?=some (.chan (some c)):=by rw[<-hA3];exact UZ (by rw[Xr];omega)
    have gs:a3.tmps.size=82:=by rw[<-hA3,Xr,Xr];exact hsz2
    have ev1:a3.eval (.tmp 1)=.pointer (some ⟨b1,0,none⟩):=Act.eval_tmp _ 1 _ g1;refine Walk.val (i:=0) (v:=hpA h x) a1' (by simp[Region.wanted,a2']) (by simp[base]) (by rw[a4'];rfl) (λw' he=> ?_) ?_
    ·have hl:=Sm (P:=Tryz.prog) (w:=w') (T:=25) (by kernel_rfl) (by kernel_rfl) (b:=b1) (o:=0) [.int .u64 h.base,.int .i64 h.cap,.int .i64 h.to,.bool h.cycle,.int .i64 h.scan,x 0,x 1,x 2,x 3,x 4] (by kernel_rfl) (λi u hi=>by
      rw[Zi2,Zhs w' b1 i _ T1 (0,0) (by rw[he];exact m1)];simpa using hi)
     unfold execOp;simp only[a4',ev1];rw[ZhE,hl];rfl
    rw[a3'];have ev4:(a3.put (some 19) (hpA h x)).eval (.tmp 4)=.chan (some c):=Act.eval_tmp _ 4 _ (by rw[Yi (by omega)];exact g4);refine Walk.val (i:=1) (v:=.chan (some c)) c1' (by simp[Region.wanted,c2']) (by simp[base]) (by rw[c4'];rfl) (λw' _=>by unfold execOp;simp only[c4',ev4];rfl) ?_;rw[c3'];generalize hA5:(a3.put (some 19) (hpA h x)).put (some 20) (.chan (some c))=a5;have u1:a5.tmps[1]?=some (.pointer (some ⟨b1,0,none⟩)):=by rw[<-hA5,Yi (by omega),Yi (by omega)];exact g1
    have u4:a5.tmps[4]?=some (.chan (some c)):=by rw[<-hA5,Yi (by omega),Yi (by omega)];exact g4
    have us:a5.tmps.size=82:=by rw[<-hA5,Xr,Xr];exact gs
    have u2:a5.tmps[2]?=some (.pointer (some ⟨b2,0,none⟩)):=by rw[<-hA5,Yi (by omega),Yi (by omega),<-hA3,Yi (by omega),Yi (by omega)];exact t2
    have u3:a5.tmps[3]?=some (.int .i64 0):=by rw[<-hA5,Yi (by omega),Yi (by omega),<-hA3,Yi (by omega),Yi (by omega)];exact t3
    have u19:a5.tmps[19]?=some (hpA h x):=by rw[<-hA5,Yi (by omega)];exact UZ (by omega)
    have u20:a5.tmps[20]?=some (.chan (some c)):=by rw[<-hA5];exact UZ (by rw[Xr];omega)
    have ud:a5.defers=[]:=by rw[<-hA5,<-hA3];exact hd2
    let K:Nat->Prop:=λb=>F b/\∃cs e fr,w3.heap[b]?=some (.cells cs e fr)
    have hrK:∀j,j<5->Rd w3 K (.sl ((lsH h j).map vu)) (x j):=λj hj=>by
     have h1:=Zb6 (hrx j hj) (Zdm _);refine h1.keep (λb hb=>ho3 b ?_) λb hb=>⟨hb.1,?_⟩
     ·obtain⟨_,cs,e,fr,hb⟩:=hb;have:=(Zhd.1 hb).1;omega
     ·obtain⟨_,cs,e,fr,hb⟩:=hb;exact⟨cs,e,fr,by rw[ho3 b (by have:=(Zhd.1 hb).1;omega)];exact hb⟩
    obtain⟨n0,hn0,hfv,hfo⟩:=yZ w3 (a5.tmps++ #[x 0,x 1,x 2,x 3,x 4])
    have hx:∀j,j<5->FixV n0 (x j):=λj hj=>by
     refine hfv _ (ZiC.2 (.inr ?_))
     match j,hj with
     |0,_=>simp
     |1,_=>simp
     |2,_=>simp
     |3,_=>simp
     |4,_=>simp
     |j+5,h=>omega
    have hcn:c<n0:=by omega
    have nK1:¬K b1:=λh=>nF1 h.1;have nK2:¬K b2:=λh=>nF2 h.1;have hKl:∀b,K b->b<w3.heap.size:=λb ⟨_,_,_,_,hb⟩=>(Zhd.1 hb).1;have nKc:¬K c:=λ⟨_,_,_,_,hb⟩=>by rw[hch]at hb;cases hb
    refine Walk.meet (KA:=K) (KB:=K) (OA0:=λb=>b=b1\/b=b2) (c:=c) (λw=>Zal (by simp[base]) u19 u20 w)
     (Z64 (fs:=frs h x 4 0) (fin:=V0 h) hh us ud u1 u2 u3 u4 m1 m2 (by omega) hB1 hB2 h12 nK1 nK2 hn0 hcn (λb hb=>hb.2) (λb cs e fr hb=>hfo b cs e fr hb) (λv hv=>hfv v (ZiC.2 (.inl hv))) hx hrK (ZcZ hok hrK) (Z5m h x 4 0) (by
      have:=hok.n;rw[<-Z0l h x 4 0,Zi1]at this;exact this) (by rw[Z0l];rfl) hok.sm)
     (Z3p hh hn0 hcn (λb hb=>hb.2) (λb o ho hb=>by
      obtain⟨_,cs,e,fr,he⟩:=hb;rw[ho]at he;cases he;exact hfo b cs e fr ho) hx hrK hok.ob) hch (λb hb=>by obtain rfl|rfl:=hb<;>omega) hKl hKl (λb hb=>by obtain rfl|rfl:=hb<;>assumption) (λhb=>by obtain hb|hb:=hb<;>omega) nKc nKc ?_
    rintro OA g w' ⟨fr,rfl,hfn,hm,hd,hkd,hres⟩ hsw htape hos hOA hfr;refine⟨fr,cs,rfl,hK fr w' hfn ⟨hm,hd,hkd,_,by rw[hfn];exact Tryz.func10,λd=> ?_⟩⟩;obtain⟨v,hv,hvr⟩:=hres d;refine⟨v,hv,v,rfl,⟨(Ziu Prod.fst hos).trans hb3.os,htape.trans hb3.tape,(Ziu Prod.snd hos).trans hb3.output,Zht hb3.size hsw,λb hb=>(hfr b (by have:=hb3.size;omega) (λhb'=>by obtain rfl|rfl:=hb'<;>omega) (by omega)).trans (hb3.block b hb)⟩,?_⟩;unfold ofR;rw[if_pos e1];refine hvr.mono λb hb=> ?_;obtain⟨hb,hlt⟩:=hb;obtain hb|hb:=hb
    ·obtain h1|h1:=hF b hb.1
     ·exact .inl ⟨rfl,h1⟩
     ·exact .inr ⟨h1,hlt⟩
    ·exact .inr ⟨hb,hlt⟩
   |_=>exact hp.elim
 |_=>exact hp.elim
#print axioms ZbD
end Vm
end
section
namespace Vm
open Go Go.Proofs
def WK(l:List Ob):List (Int×Int):=(l.filter λo=>o.gone).map λo=>(o.size,o.ptrs)
def Z2S{ws:List Int}{shs:List (Int×Int)}{old:Bool}:∀(l:List Ob) (f a tk:Nat) (acc:List Ob),Tiles ws old a l->ws.length<f+a->0<f->shs.drop tk=WK l->YQ ws shs old f a tk acc=(acc++l,0)
 | [],f,a,tk,acc,ht,hf,h0,hs=>by
   obtain⟨f,rfl⟩:∃f',f=f'+1:=⟨f-1,by omega⟩;have:ws.length<=a:=ht;have h2:shs.length<=tk:=List.drop_eq_nil_iff.1 hs;rw[YQ,Zih this];simp only;rw[if_neg (by omega),Zix]
 |o::l,f,a,tk,acc,ht,hf,h0,hs=>by
  obtain⟨f,rfl⟩:∃f',f=f'+1:=⟨f-1,by omega⟩;obtain⟨h1,h2,h3⟩:=ht;obtain⟨w,hw,hc⟩:=h2.word;have hsh:=Zb.1 h2.shape;have hfit:=h2.fits;have hsl:=h2.slots;rw[h1]at hw hfit hsl;simp only[ZhV]at hw hsl
  have hrec:∀tk':Nat,shs.drop tk'=WK l->YQ ws shs old f (a+1+o.size.toNat) tk' (acc++[o])=(acc++o::l,0):=λtk' hs'=>by
   rw[Z2S l f _ tk' _ h3 (by omega) (by omega) hs'];simp
  have hobj:∃tk',objR shs old a tk w=some (o,tk')/\shs.drop tk'=WK l:=by
   unfold objR;cases hg:o.gone
   ·rw[hg]at hc;simp only[Zhk,ZhT]at hc;rw[if_neg (λh=>hc.1 h.1 h.2),hc.2.1];refine⟨tk,?_,?_⟩
    ·simp only[ZhR];obtain⟨oa,os,op,og,ot⟩:=o;simp only at hg h1 hc⊢;rw[hg,h1,hc.2.2]
    ·rw[hs];simp[WK,hg]
   ·rw[hg]at hc;simp only[ZhR]at hc;rw[if_pos ⟨hc.1,hc.2.1⟩];have hd:shs.drop tk=(o.size,o.ptrs)::WK l:=by rw[hs];simp[WK,hg]
    have hlt:tk<shs.length:=by
     have:=Ziu List.length hd;simp at this;omega
    rw[ZhZ hlt]at hd;have e1:=(List.cons.inj hd).1;have e2:=(List.cons.inj hd).2;rw[Zh8 hlt,e1];simp only[h2.shape,ZhR];refine⟨tk+1,?_,e2⟩;obtain⟨oa,os,op,og,ot⟩:=o;simp only at hg h1 hc⊢;rw[hg,h1,hc.2.2]
  obtain⟨tk',ho,hs'⟩:=hobj;rw[YQ,hw];simp only;rw[ho];simp only;rw[if_neg (by omega),if_neg (by rw[hsl];simp)];exact hrec tk' hs'
def Qu{ws:List Int}{shs:List (Int×Int)}{old:Bool}{l:List Ob}(ht:Tiles ws old 0 l)(hs:shs=WK l):Zp ws shs old=(l,0):=by
 unfold Zp;rw[Z2S l (ws.length+1) 0 0 [] ht (by omega) (by omega) (by simpa using hs),Zir]
def yh(h:Hp)(low l:List Ob):Prop:=∀o∈l,o.gone=true->∃q,atR h 1 low o.target=some q/\q.size=o.size/\q.ptrs=o.ptrs
def UG{h:Hp}{ws:List Int}{low:List Ob}:∀(l:List Ob) (f i:Nat) (acc:List (Int×Int)),Tiles ws true i l->ws.length<f+i->0<f->yh h low l->ZW h ws low f i acc=some (acc++WK l)
 | [],f,i,acc,ht,hf,h0,hg=>by
   obtain⟨f,rfl⟩:∃f',f=f'+1:=⟨f-1,by omega⟩;have:ws.length<=i:=ht;rw[ZW,Zih this];simp[WK]
 |o::l,f,i,acc,ht,hf,h0,hg=>by
  obtain⟨f,rfl⟩:∃f',f=f'+1:=⟨f-1,by omega⟩;obtain⟨h1,h2,h3⟩:=ht;obtain⟨w,hw,hc⟩:=h2.word;have hsh:=Zb.1 h2.shape;have hfit:=h2.fits;rw[h1]at hw hfit;simp only[ZhV]at hw;have hg':yh h low l:=λq hq=>hg q (ZhB _ hq);rw[ZW,hw];simp only;cases hgo:o.gone
  ·rw[hgo]at hc;simp only[Zhk,ZhT,true_implies]at hc;rw[if_neg hc.1,hc.2.1];simp only[ZhR];rw[UG l f _ acc h3 (by omega) (by omega) hg'];simp[WK,hgo]
  ·rw[hgo]at hc;simp only[ZhR,true_and]at hc;rw[if_pos hc.1];obtain⟨q,hq,e1,e2⟩:=hg o (.head _) hgo;rw[<-hc.2,hq];simp only;rw[e1,e2,UG l f _ _ h3 (by omega) (by omega) hg'];simp[WK,hgo]
def Z8A{h:Hp}{p:Pts}(h1:Tiles h.low false 0 p.low)(h2:Tiles h.high false 0 p.high)(h3:Tiles h.old true 0 p.old)(h4:Tiles h.far true 0 p.far)(g3:yh h p.low p.old)(g4:yh h p.low p.far):ZT h=some p:=by
 have ng:∀ {ws:List Int} {a:Nat} {l:List Ob},Tiles ws false a l->WK l=[]:=λ{ws a l} ht=>by
  unfold WK;rw[List.map_eq_nil_iff,List.filter_eq_nil_iff];intro o ho hg;obtain⟨w,_,hc⟩:=(ht.stands o ho).1.word;rw[if_pos hg]at hc;cases hc.1
 unfold ZT;rw[Qu h1 (ng h1).symm,Qu h2 (ng h2).symm];unfold ZX;simp only[ne_eq,not_true_eq_false,or_self,ZhT];rw[UG p.old _ 0 [] h3 (by omega) (by omega) g3,UG p.far _ 0 [] h4 (by omega) (by omega) g4];simp only[Zir,ZhL];rw[Qu h3 rfl,Qu h4 rfl];simp
def Z8N{h:Hp}{p:Pts}(hn:numR h=true)(hp:ZT h=some p)(hr:Sj h p=true):Yp h=true:=by
 unfold Yp;rw[hn,hp];simpa using hr
def ZbJ{h:Hp}{k:Int}{l:List Ob}{o:Ob}(ho:o∈l)(hd:∀q∈l,ZA h k q.at_=ZA h k o.at_->q=o):atR h k l (ZA h k o.at_)=some o:=by
 unfold atR
 induction l with
 |nil=>simp at ho
 |cons x l ih=>
  rw[Zkk];by_cases hx:ZA h k x.at_=ZA h k o.at_
  ·rw[hd x (.head _) hx];simp
  ·have:(ZA h k x.at_==ZA h k o.at_)=false:=by simpa using hx
   rw[this];obtain rfl|ho:=Zho.1 ho
   ·exact absurd rfl hx
   ·exact ih ho λq hq=>hd q (ZhB _ hq)
def Z33{h:Hp}{k:Int}{l:List Ob}{a:Int}:(atR h k l a).isSome=true↔ ∃o∈l,ZA h k o.at_=a:=by
 unfold atR;rw[List.find?_isSome];simp
section
structure Tld (h:Hp) (p:Pts):Prop where
 lay:Zl (layH h)=true
 tiles:∀k:Int,1<=k/\k<=4->Tiles (Zh h k) (decide (2<k)) 0 (p.at k)
def Gos(h:Hp)(p:Pts)(w one two:Int):Prop:=w=0\/∃k o,(k=one\/k=two)/\o∈p.at k/\w=refR (layH h) k o.at_
def yl(h:Hp)(p:Pts)(k:Int)(i:Nat)(w:Int):Prop:=if 2<k then Gos h p w 3 4 else if k=1/\h.scan<=i then Gos h p w 1 2\/Gos h p w 3 4 else Gos h p w 1 2
section
variable {h:Hp}{p:Pts}
def Tld.ob(t:Tld h p){k:Int}(hk:1<=k/\k<=4){o:Ob}(ho:o∈p.at k):∃a n m:Nat,o.at_=a/\o.size=n/\o.ptrs=m/\a+(n+1)<=(Zh h k).length/\n<=255/\m<=n:=by
 have hs:=((t.tiles k hk).stands o ho).1;have h1:=Zb.1 hs.shape;obtain⟨a,ha⟩:=Zhl hs.nat;obtain⟨n,hn⟩:=Zhl h1.1;obtain⟨m,hm⟩:=Zhl h1.2.2.1;have:=hs.fits;exact⟨a,n,m,ha,hn,hm,by omega,by omega,by omega⟩
def Tld.start(t:Tld h p){k:Int}(hk:1<=k/\k<=4){o:Ob}(ho:o∈p.at k):ZA h k o.at_=fstL (layH h) k+o.at_:=by
 obtain⟨a,n,m,ha,_,_,hl,_⟩:=t.ob hk ho;unfold ZA;rw[jX t.lay hk (by rw[WV hk];omega)]
def Tld.same_at(t:Tld h p){k:Int}(hk:1<=k/\k<=4){o q:Ob}(ho:o∈p.at k)(hq:q∈p.at k)(e:q.at_=o.at_):q=o:=by
 rcases(t.tiles k hk).apart q hq o ho with h1|h1|h1
 ·exact h1
 ·have:=Zb.1 ((t.tiles k hk).stands q hq).1.shape;omega
 ·have:=Zb.1 ((t.tiles k hk).stands o ho).1.shape;omega
def Tld.find(t:Tld h p){k:Int}(hk:1<=k/\k<=4){o:Ob}(ho:o∈p.at k):atR h k (p.at k) (fstL (layH h) k+o.at_)=some o:=by
 rw[<-t.start hk ho];refine ZbJ ho λq hq e=>t.same_at hk ho hq ?_;rw[t.start hk ho,t.start hk hq]at e;omega
def Tld.inj(t:Tld h p){k j:Int}(hk:1<=k/\k<=4)(hj:1<=j/\j<=4){o q:Ob}(ho:o∈p.at k)(hq:q∈p.at j)(e:refR (layH h) k o.at_=refR (layH h) j q.at_):k=j/\o=q:=by
 obtain⟨a,n,m,ha,_,_,hl,_⟩:=t.ob hk ho;obtain⟨b,n',m',hb,_,_,hl',_⟩:=t.ob hj hq;obtain⟨e1,e2⟩:=Z8M t.lay hk hj (by rw[WV hk];omega) (by rw[WV hj];omega) e;subst e1;exact⟨rfl,t.same_at hk hq ho e2⟩
def Tld.adr(t:Tld h p){k:Int}(hk:1<=k/\k<=4){o:Ob}(ho:o∈p.at k):adr (refR (layH h) k o.at_)=(fstL (layH h) k+o.at_,0):=by
 obtain⟨a,n,m,ha,_⟩:=t.ob hk ho;exact Z9Y t.lay (by omega)
def Tld.at_iff(t:Tld h p){k:Int}(hk:1<=k/\k<=4){w:Int}(h0:(Vm.adr w).2=0):(atR h k (p.at k) (Vm.adr w).1).isSome=true↔ ∃o∈p.at k,w=refR (layH h) k o.at_:=by
 rw[Z33];constructor
 ·rintro⟨o,ho,e⟩;rw[t.start hk ho]at e;exact⟨o,ho,Zbs h0 e.symm⟩
 ·rintro⟨o,ho,rfl⟩;exact⟨o,ho,by rw[t.adr hk ho,t.start hk ho]⟩
def Tld.goes_iff(t:Tld h p){i j:Int}(hi:1<=i/\i<=4)(hj:1<=j/\j<=4){w:Int}:YG h p w i j=true↔Gos h p w i j:=by
 unfold YG Gos;by_cases h0:w=0
 ·simp[h0]
 by_cases h1:(Vm.adr w).2=0
 ·simp only[h0,h1,Zko,Zlc,ZjQ,Zk9,Zhn,false_or,t.at_iff hi h1,t.at_iff hj h1];constructor
  ·rintro(⟨o,ho,e⟩|⟨o,ho,e⟩)
   ·exact⟨i,o,.inl rfl,ho,e⟩
   ·exact⟨j,o,.inr rfl,ho,e⟩
  ·rintro⟨k,o,rfl|rfl,ho,e⟩
   ·exact .inl ⟨o,ho,e⟩
   ·exact .inr ⟨o,ho,e⟩
 ·simp only[h0,h1,Zlc,Bool.false_and,Bool.or_self,Zhk,false_or,false_iff];rintro⟨k,o,hk,ho,rfl⟩;have hk4:1<=k/\k<=4:=by obtain rfl|rfl:=hk<;>assumption
  exact h1 (by rw[t.adr hk4 ho])
def RV:∀ {l:List Int} {ptrs:Int} {i:Nat},ZN l true ptrs i=true->∀w∈l,w=0
 | [],_,_,_,w,hw=>by simp at hw
 |y::l,ptrs,i,hs,w,hw=>by
  simp only[ZN,Zhb]at hs;obtain rfl|hw:=Zho.1 hw
  ·have h1:=hs.1;simp at h1;exact h1.1
  ·exact RV hs.2 w hw
def Tld.slot(t:Tld h p){k:Int}(hk:1<=k/\k<=4){o:Ob}(ho:o∈p.at k){j:Nat}(hj:(j:Int)<o.size):∃w,(Zh h k)[o.at_.toNat+1+j]?=some w/\(o.gone=true->w=0):=by
 obtain⟨a,n,m,ha,hn,hm,hl,_⟩:=t.ob hk ho;have hlt:a+1+j< (Zh h k).length:=by omega
 refine⟨(Zh h k)[a+1+j],by rw[ha,ZhV];exact Zh8 hlt,λhg=> ?_⟩;have hs:=((t.tiles k hk).stands o ho).1.slots;rw[hg]at hs;refine RV hs _ ?_;rw[ha,hn,ZhV,ZhV];refine Zhg (i:=j) ?_;rw[ZjN (by omega),ZhU];exact Zh8 hlt
end
structure Body (h:Hp) (p:Pts):Prop extends Tld h p where
 gone:∀k:Int,3<=k/\k<=4->∀o∈p.at k,o.gone=true->∃q∈p.low,o.target=fstL (layH h) 1+q.at_/\q.size=o.size/\q.ptrs=o.ptrs
 ptr:∀k:Int,1<=k/\k<=4->∀o∈p.at k,o.gone=false->∀j:Nat,(j:Int)<o.ptrs->∀w,(Zh h k)[o.at_.toNat+1+j]?=some w->yl h p k (o.at_.toNat+1+j) w
 room:(h.low.length:Int)+h.high.length+yf p<=h.cap
structure Rt (h:Hp) (p:Pts):Prop extends Body h p where
 nroots:h.roots.length<=16
 scan0:0<=h.scan
 scanL:h.scan<=h.low.length
 cyc:h.cycle=true->h.scan<h.low.length
 rest:h.cycle=false->h.scan=h.low.length/\h.old=[]/\h.far=[]
 once:h.cycle=true->∀o∈p.low,jF p (fstL (layH h) 1+o.at_)=1
 roots:∀w∈h.roots,Gos h p w 1 2
section
variable {h:Hp}{p:Pts}
def ym(t:Tld h p){k:Int}{i:Nat}{w:Int}(hw:(Zh h k)[i]?=some w):Wg h p k i=true↔yl h p k i w:=by
 unfold Wg yl;simp only[hw,ZhL];split
 ·exact t.goes_iff (by omega) (by omega)
 split
 ·rw[Zhn,t.goes_iff (by omega) (by omega),t.goes_iff (by omega) (by omega)]
 ·exact t.goes_iff (by omega) (by omega)
def Z2Z(k:Int)(i:Nat):yl h p k i 0:=by
 unfold yl;split
 ·exact .inl rfl
 split
 ·exact .inl (.inl rfl)
 ·exact .inl rfl
def Z2t(t:Tld h p){k:Int}(hk:1<=k/\k<=4):Xf h p k=true↔ ∀o∈p.at k,o.gone=false->∀j:Nat,(j:Int)<o.ptrs->∀w,(Zh h k)[o.at_.toNat+1+j]?=some w->yl h p k (o.at_.toNat+1+j) w:=by
 unfold Xf S9;simp only[Zhm,Zjl];constructor
 ·intro hp o ho _ j hj w hw;exact(ym t hw).1 (hp o ho j (by omega))
 ·intro hp o ho j hj;obtain⟨a,n,m,ha,hn,hm,hl,_⟩:=t.ob hk ho;obtain⟨w,hw,hz⟩:=t.slot hk ho (j:=j) (by omega);refine(ym t hw).2 ?_;cases hg:o.gone
  ·exact hp o ho hg j (by omega) w hw
  ·rw[hz hg];exact Z2Z _ _
def RightH.tld(r:RightH h p):Tld h p:=⟨r.lay,λk hk=>r.tiles hk⟩
def RightH.rt(r:RightH h p):Rt h p:=by
 have t:=r.tld;have hn:=r.num;have ho:=r.ok;unfold numR at hn;unfold Sj at ho;simp only[Zhb,Zhw]at hn ho;obtain⟨⟨⟨⟨n1,n2⟩,n3⟩,n4⟩,n5⟩:=hn;obtain⟨⟨⟨⟨⟨⟨o1,o2⟩,o3⟩,o4⟩,o5⟩,o6⟩,o7⟩:=ho
 have hptr:∀k:Int,1<=k/\k<=4->Xf h p k=true:=λk hk=>by
  have:k=1\/k=2\/k=3\/k=4:=by omega
  obtain rfl|rfl|rfl|rfl:=this<;>assumption
 refine⟨⟨t,λk hk o ho hg=> ?_,λk hk=>(Z2t t hk).1 (hptr k hk),o7⟩,n2,n3,n4,λhc=> ?_,λhc=> ?_,λhc o ho=> ?_,λw hw=> ?_⟩
 ·obtain⟨q,hq,e,e1,e2⟩:=r.gone_low hk ho hg;exact⟨q,hq,by rw[<-e,t.start (k:=1) (by omega) hq],e1,e2⟩
 ·rw[hc]at n5;simpa using n5
 ·rw[hc]at n5;simp at n5;exact⟨n5.1.1,n5.1.2,n5.2⟩
 ·rw[hc]at o1;simp only[ZjR,ZjQ,Zhm]at o1;have:=o1 o ho;unfold tgOk at this;rw[t.start (k:=1) (by omega) ho]at this;simpa using this
 ·exact(t.goes_iff (by omega) (by omega)).1 (Zhm.1 o2 w hw)
def Rt.parts(r:Rt h p):ZT h=some p:=by
 have g:∀k:Int,3<=k/\k<=4->yh h p.low (p.at k):=λk hk o ho hg=>by
  obtain⟨q,hq,e,e1,e2⟩:=r.gone k hk o ho hg;exact⟨q,by rw[e];exact r.toTld.find (k:=1) (by omega) hq,e1,e2⟩
 exact Z8A (r.tiles 1 (by omega)) (r.tiles 2 (by omega)) (r.tiles 3 (by omega)) (r.tiles 4 (by omega)) (g 3 (by omega)) (g 4 (by omega))
def Rt.right(r:Rt h p):Yp h=true:=by
 have t:=r.toTld;refine Z8N ?_ r.parts ?_
 ·unfold numR;simp only[Zhb,Zhw];refine⟨⟨⟨⟨r.lay,r.nroots⟩,r.scan0⟩,r.scanL⟩,?_⟩;cases hc:h.cycle
  ·obtain⟨e1,e2,e3⟩:=r.rest hc;simp[e1,e2,e3]
  ·simp[r.cyc hc]
 ·unfold Sj;simp only[Zhb,Zhw];have hp:=λk hk=>(Z2t t hk).2 (r.ptr k hk);refine⟨⟨⟨⟨⟨⟨?_,?_⟩,hp 1 (by omega)⟩,hp 2 (by omega)⟩,hp 3 (by omega)⟩,hp 4 (by omega)⟩,r.room⟩
  ·cases hc:h.cycle
   ·rfl
   ·simp only[ZjR,ZjQ,Zhm];intro o ho;unfold tgOk;rw[t.start (k:=1) (by omega) ho,Zhw];exact r.once hc o ho
  ·rw[Zhm];exactλw hw=>(t.goes_iff (by omega) (by omega)).2 (r.roots w hw)
def jr:Yp h=true↔ ∃p,Rt h p:=
 ⟨λhr=>by obtain⟨p,r⟩:=Z6R hr;exact⟨p,r.rt⟩,λ⟨p,r⟩=>r.right⟩
def Rt.objs(r:Rt h p){k:Int}(hk:1<=k/\k<=4):Q3 h k=(p.at k,0):=by
 unfold Q3;rw[if_pos ⟨r.right,hk⟩,r.parts];rfl
end
end
def szL(l:List Ob):Nat:=(l.map λo=>1+o.size.toNat).sum
def Tiles.sum{ws:List Int}{old:Bool}:∀ {a:Nat} {l:List Ob},Tiles ws old a l->a<=ws.length->a+szL l=ws.length
 |a,[],h,ha=>by have:ws.length<=a:=h;simp[szL];omega
 |a,o::l,h,ha=>by
  have hs:=Zb.1 h.2.1.shape;have hf:=h.2.1.fits;rw[h.1]at hf;have:=Tiles.sum h.2.2 (by omega);simp[szL]at this⊢;omega
section
section
variable {h:Hp}{p:Pts}
def Sb(h:Hp){q:Nat}(hq:q<4):Zh h ((q:Int)+1)=lsH h q:=by
 have:q=0\/q=1\/q=2\/q=3:=by omega
 obtain rfl|rfl|rfl|rfl:=this<;>rfl
def Rt.obQ(r:Rt h p){q:Nat}(hq:q<4):obP h q=p.at ((q:Int)+1):=by
 unfold Vm.obP;rw[r.objs (by omega)]
def SL{f:Fo}:∀ {n q:Nat},f∈fos h n q->∃k o,q<=k/\k<q+n/\o∈obP h k/\f=foP h k o
 |0,q,hf=>by simp[fos]at hf
 |n+1,q,hf=>by
  simp only[fos,Zhx,Zhq]at hf;obtain⟨o,ho,rfl⟩|hf:=hf
  ·exact⟨q,o,by omega,by omega,ho,rfl⟩
  ·obtain⟨k,o,h1,h2,h3⟩:=SL hf;exact⟨k,o,by omega,by omega,h3⟩
def R1{k:Nat}{o:Ob}(ho:o∈obP h k):∀ {n q:Nat},q<=k->k<q+n->foP h k o∈fos h n q
 |0,q,h1,h2=>by omega
 |n+1,q,h1,h2=>by
  simp only[fos,Zhx,Zhq];by_cases e:k=q
  ·subst e;exact .inl ⟨o,ho,rfl⟩
  ·exact .inr (R1 ho (by omega) (by omega))
def ZdN(s:Vw)(f:Fo):(s.put f).ns=s.ns++if f.ob.gone then []else [f]:=by
 unfold Vw.put;split<;>simp
def Z5k:∀(l:List Fo) (s:Vw),(l.foldl Vw.put s).ns=s.ns++l.filter λf=> !f.ob.gone
 | [],s=>by simp
 |f::l,s=>by
  rw[Zjf,Z5k l,ZdN];cases hg:f.ob.gone<;>simp[hg]
def Z1x(h:Hp):(V0 h).ns=(fos h 4 0).filter λf=> !f.ob.gone:=by
 unfold V0;rw[Z5k];rfl
def qX(r:Rt h p){q:Nat}(hq:q<4):(obP h q).length<=(lsH h q).length:=by
 have t:=r.tiles ((q:Int)+1) (by omega);have:=t.sum (Zim _);rw[Sb h hq,<-r.obQ hq]at this
 have hle:(obP h q).length<=szL (obP h q):=by
  generalize obP h q=l
  induction l with
  |nil=>simp
  |cons o l ih=>simp only[szL,ZhA,List.sum_cons,Zib]at ih⊢;omega
 omega
def Rt.len4(r:Rt h p){q:Nat}(hq:q<4):(lsH h q).length<=4096:=by
 obtain⟨h1,h2,_,_,_,⟨_,_,h5,h6⟩,⟨_,_,h7,h8⟩⟩:=Yr.1 r.lay;simp only[layH]at*;have:q=0\/q=1\/q=2\/q=3:=by omega
 obtain rfl|rfl|rfl|rfl:=this
 ·show h.low.length<=4096;omega
 ·show h.high.length<=4096;omega
 ·show h.old.length<=4096;omega
 ·show h.far.length<=4096;omega
def Rt.ob4(r:Rt h p){q:Nat}(hq:q<4){o:Ob}(ho:o∈obP h q):∃a n m:Nat,o.at_=a/\o.size=n/\o.ptrs=m/\a+(n+1)<=(lsH h q).length/\n<=255/\m<=n:=by
 rw[r.obQ hq]at ho;have:=r.toTld.ob (by omega) ho;rwa[Sb h hq]at this
def lsW(hh:h.ok){q:Nat}(hq:q<4):∀w∈lsH h q,U64 w:=by
 have:q=0\/q=1\/q=2\/q=3:=by omega
 obtain rfl|rfl|rfl|rfl:=this
 ·exact hh.lowW
 ·exact hh.highW
 ·exact hh.oldW
 ·exact hh.farW
def Z5j(r:Rt h p){q:Nat}(hq:q<4){o:Ob}(ho:o∈obP h q):(foP h q o).sl.length=o.size.toNat:=by
 obtain⟨a,n,m,h1,h2,h3,h4,_⟩:=r.ob4 hq ho;simp only[foP,Zik,ZjI];omega
def Rt.ofOk(r:Rt h p)(hh:h.ok):OfOk h:=by
 have hl:(fos h 4 0).length<=16384:=by
  have h0:=qX r (q:=0) (by omega);have h1:=qX r (q:=1) (by omega);have h2:=qX r (q:=2) (by omega);have h3:=qX r (q:=3) (by omega);have k0:=r.len4 (q:=0) (by omega);have k1:=r.len4 (q:=1) (by omega);have k2:=r.len4 (q:=2) (by omega);have k3:=r.len4 (q:=3) (by omega);simp only[fos,Zin,Zi1,ZiO,Zi2,Nat.reduceAdd];omega
 refine⟨λq hq=>⟨by have:=qX r hq;have:=r.len4 hq;omega,λo ho=> ?_⟩,by omega,⟨?_,λf hf=> ?_,by have:=r.nroots;omega,hh.rootsW⟩⟩
 ·obtain⟨a,n,m,h1,h2,h3,h4,_⟩:=r.ob4 hq ho;omega
 ·rw[Z1x];have:=Zjw (λf:Fo=> !f.ob.gone) (fos h 4 0);omega
 ·rw[Z1x]at hf;obtain⟨k,o,_,hk,ho,rfl⟩:=SL (ZjV.1 hf).1;obtain⟨a,n,m,h1,h2,h3,h4,h5,h6⟩:=r.ob4 (by omega) ho;have e:=Z5j r (by omega) ho;refine⟨by show 0<=o.ptrs;omega,by show o.ptrs<=_;rw[e];omega,by rw[e];omega,λw hw=>lsW hh (q:=k) (by omega) w ?_⟩;exact Zis (Zhz hw)
def ofOk(hh:h.ok)(hr:Yp h=true):OfOk h:=by
 obtain⟨p,r⟩:=jr.1 hr;exact r.ofOk hh
end
def ZbE{h:Hp}(hh:h.ok):VC (bes Tryz.prog) 10 false [hpV h] (ofR h):=ZbD hh (ofOk hh)
end
section
structure VwI (d:List Fo) (s:Vw):Prop where
 ns:s.ns=d.filter λf=> !f.ob.gone
 n1:∀a j,getA s.nm a=some j->∃i:Nat,j=i/\∃f,s.ns[i]?=some f/\f.ad=a
 n2:∀f∈s.ns,(getA s.nm f.ad).isSome=true
 t1:∀a t,getA s.tm a=some t->∃f∈d,f.ob.gone=true/\f.ad=a/\f.ob.target=t
 t2:∀f∈d,f.ob.gone=true->(getA s.tm f.ad).isSome=true
def Ur{α:Type}{l:List (Int×α)}{k j:Int}{x:α}(h:k=j\/(getA l j).isSome=true):(getA (putA l k x) j).isSome=true:=by
 rw[Ve];split
 ·rfl
 ·rename_i hn;obtain h|h:=h
  ·exact absurd h hn
  ·exact h
def VwI.put{d:List Fo}{s:Vw}{f:Fo}(i:VwI d s):VwI (d++[f]) (s.put f):=by
 cases hg:f.ob.gone
 ·have e:s.put f= {s with ns:=s.ns++[f],nm:=putA s.nm f.ad s.ns.length}:=by simp[Vw.put,hg]
  rw[e];refine⟨by simp[i.ns,hg],λa j hj=> ?_,λx hx=> ?_,λa t ht=> ?_,λx hx hxg=> ?_⟩
  ·simp only[Ve]at hj;split at hj
   ·rename_i ha;exact⟨s.ns.length,by simpa using hj.symm,f,by simp,ha⟩
   ·obtain⟨m,e1,g,e2,e3⟩:=i.n1 a j hj;exact⟨m,e1,g,by simp only[Zi0 (Zh9.1 e2).1,e2],e3⟩
  ·obtain hx|hx:=Zhx.1 hx
   ·exact Ur (.inr (i.n2 x hx))
   ·rw[Zia.1 hx];exact Ur (.inl rfl)
  ·obtain⟨g,h1,h2⟩:=i.t1 a t ht;exact⟨g,by simp[h1],h2⟩
  ·obtain hx|hx:=Zhx.1 hx
   ·exact i.t2 x hx hxg
   ·rw[Zia.1 hx,hg]at hxg;exact absurd hxg (by simp)
 ·have e:s.put f= {s with tm:=putA s.tm f.ad f.ob.target}:=by simp[Vw.put,hg]
  rw[e];refine⟨by simp[i.ns,hg],i.n1,i.n2,λa t ht=> ?_,λx hx hxg=> ?_⟩
  ·simp only[Ve]at ht;split at ht
   ·rename_i ha;exact⟨f,by simp,hg,ha,by simpa using ht⟩
   ·obtain⟨g,h1,h2⟩:=i.t1 a t ht;exact⟨g,by simp[h1],h2⟩
  ·obtain hx|hx:=Zhx.1 hx
   ·exact Ur (.inr (i.t2 x hx hxg))
   ·rw[Zia.1 hx];exact Ur (.inl rfl)
def VwI.fold:∀ {l d:List Fo} {s:Vw},VwI d s->VwI (d++l) (l.foldl Vw.put s)
 | [],d,s,i=>by simpa using i
 |f::l,d,s,i=>by
  have:=VwI.fold (l:=l) (i.put (f:=f));rwa[Ziy]at this
def Z4y(h:Hp):VwI (fos h 4 0) (V0 h):=by
 have:VwI [] ⟨[],[],[]⟩:=⟨rfl,by simp[getA],by simp,by simp[getA],by simp⟩;exact this.fold (l:=fos h 4 0)
section
variable {h:Hp}{p:Pts}
def KY(r:Rt h p){q:Nat}(hq:q<4){o:Ob}(ho:o∈obP h q):(foP h q o).ad=fstL (layH h) ((q:Int)+1)+o.at_:=by
 obtain⟨a,n,m,h1,h2,h3,h4,_⟩:=r.ob4 hq ho;show(ZI (layH h) ((q:Int)+1) o.at_).1=_;rw[jX r.lay (by omega) (by rw[WV (by omega),Sb h hq];omega)]
def qb(r:Rt h p){f g:Fo}(hf:f∈fos h 4 0)(hg:g∈fos h 4 0)(e:f.ad=g.ad):f=g:=by
 obtain⟨k,o,_,hk,ho,rfl⟩:=SL hf;obtain⟨j,q,_,hj,hq,rfl⟩:=SL hg;rw[KY r (by omega) ho,KY r (by omega) hq]at e;have ho':=ho;have hq':=hq;rw[r.obQ (by omega)]at ho' hq';obtain⟨e1,e2⟩:=r.toTld.inj (by omega) (by omega) ho' hq' (by unfold refR;omega);have:k=j:=by omega
 subst this;rw[e2]
def Z69{f:Fo}:f∈(V0 h).ns↔f∈fos h 4 0/\f.ob.gone=false:=by
 rw[(Z4y h).ns];simp
def Rt.to_nm(r:Rt h p){f:Fo}(hf:f∈fos h 4 0)(hg:f.ob.gone=false):∃i:Nat,getA (V0 h).nm f.ad=some (i:Int)/\(V0 h).ns[i]?=some f:=by
 obtain⟨j,hj⟩:=Zid.1 ((Z4y h).n2 f (Z69.2 ⟨hf,hg⟩));obtain⟨i,rfl,g,h1,h2⟩:=(Z4y h).n1 _ _ hj;have:=qb r (Z69.1 (Zhg h1)).1 hf h2;subst this;exact⟨i,hj,h1⟩
def Rt.live12(r:Rt h p){q:Nat}(hq:q<2){o:Ob}(ho:o∈obP h q):o.gone=false:=by
 rw[r.obQ (by omega)]at ho;obtain⟨w,_,hw⟩:=((r.tiles ((q:Int)+1) (by omega)).stands o ho).1.word;cases hg:o.gone
 ·rfl
 ·rw[hg,if_pos rfl]at hw;have:=hw.1;simp at this;omega
def Rt.gos(r:Rt h p){w i j:Int}(hi:1<=i/\i<=4)(hj:1<=j/\j<=4)(hw:Gos h p w i j)(h0:w≠0):∃(q:Nat) (o:Ob),q<4/\(((q:Int)+1=i)\/((q:Int)+1=j))/\o∈obP h q/\w=2*(foP h q o).ad+1/\(adr w).1=(foP h q o).ad:=by
 obtain rfl|⟨k,o,hk,ho,rfl⟩:=hw
 ·exact absurd rfl h0
 obtain⟨q,rfl,hq⟩:∃q:Nat,k=(q:Int)+1/\q<4:=⟨(k-1).toNat,by omega,by omega⟩;have ho':o∈obP h q:=by rw[r.obQ hq];exact ho
 refine⟨q,o,hq,hk,ho',?_,?_⟩
 ·rw[KY r hq ho'];rfl
 ·rw[r.toTld.adr (by omega) ho,KY r hq ho']
def Zb5{k:Int}{i:Nat}{w:Int}(hw:yl h p k i w):∃a b:Int,(1<=a/\a<=4)/\(1<=b/\b<=4)/\Gos h p w a b:=by
 unfold yl at hw;split at hw
 ·exact⟨3,4,by omega,by omega,hw⟩
 ·split at hw
  ·obtain hw|hw:=hw
   ·exact⟨1,2,by omega,by omega,hw⟩
   ·exact⟨3,4,by omega,by omega,hw⟩
  ·exact⟨1,2,by omega,by omega,hw⟩
end
end
end Vm
end
section
namespace Vm
open Go
open Go.Proofs
def p5:Fn:=⟨9,[0,1,2,3,4,5,6,7,8],
pQ [pR [pV 0 pF],.reg ⟨[],[([],.ag [pU 10,pI 5,pI 0,pF,pI 2,.lit [pU 2,pU 6],pN,pN,pN,.lit [pU 21,pU 0]])],[(1,.m [pU 10,pI 5,pI 0,pF,pI 2,.lit [pU 2,pU 6],pN,pN,pN,.lit [pU 21,pU 0]])]⟩,pC [pK 9 10 [.mm 1 0 10]] [(2,pM (.sz (.ext (.s 9) 0) 2) 2),pV 3 (.fl (.ext (.s 9) 1))],pC [pK 10 10 [pY]] [(4,pM (.sz (.ext (.s 10) 0) 2) 2),pV 5 (.ext (.s 10) 1)],.reg ⟨[],[([],.ag [pU 10,pI 5,pI 1,pT,pI 0,.lit [pU 2,pU 6],pN,.lit [pU 31,pU 0],pN,.lit [pU 31,pU 0]])],[(6,.m [pU 10,pI 5,pI 1,pT,pI 0,.lit [pU 2,pU 6],pN,.lit [pU 31,pU 0],pN,.lit [pU 31,pU 0]])]⟩,pC [pK 11 10 [.mm 6 0 10]] [(7,pM (.sz (.ext (.s 11) 0) 2) 2),pV 8 (.fl (.ext (.s 11) 1))],.reg ⟨[.lt 12 [] (.bin .eql (.s 3) (pI 0)),.call 13 [(12,true)] (.id 12) false false [.mm 2 0 2,.ag [.lit [.ag [pN,.lit [pU 6]]],.lit [pI 0,pI (-1)]]],.lt 14 [] (.ite (.s 12) (.s 13) pF),.lt 15 [] (.ite (.s 14) (.bin .eql (.s 5) (pI 1)) pF),.lt 16 [] (.ite (.s 15) (.bin .eql (.s 8) (pI 0)) pF),.call 17 [(16,true)] (.id 12) false false [.mm 7 0 2,.mm 2 0 2],.lt 18 [] (.ite (.s 16) (.s 17) pF),.call 19 [(18,true)] (.id 13) false false [.mm 1 0 10],.lt 20 [] (.ite (.s 18) (.bin .eql (.s 19) (pI 2)) pF),.call 21 [(20,true)] (.id 13) false false [pY]],[([(14,true)],.bin .eql (.s 5) (pI 1)),([(15,true)],.bin .eql (.s 8) (pI 0)),([(18,true)],.bin .eql (.s 19) (pI 2)),([(20,true)],.bin .eql (.s 21) (pI 0))],[pV 0 (.ite (.s 20) (.bin .eql (.s 21) (pI 0)) pF)]⟩] .ret,[(0,.v)]⟩
def c5:Za (bes Tryz.prog) fresh sig [] [] Tryz.f5=some p5:=by kernel_rfl
def p13:Fn:=⟨6,[0,1,2,3,4,11],
pQ [pR [(1,pS 0 10),pV 2 (pI 0)],pC [pK 6 10 [.mm 1 0 10]] [(3,pM (.sz (.ext (.s 6) 0) 2) 2),pV 4 (.ext (.s 6) 1)],pQ [pR [pV 5 (.bin .neq (.s 4) (pI 0))]] (.cond (.s 5) (pQ [pR [pV 2 (pI 0)]] .ret) .skip),pC [pK 7 36 [.mm 3 0 2]] [pV 2 (.s 7)]] .ret,[(2,.v)]⟩
def c13:Za (bes Tryz.prog) fresh sig [.fz] [] Tryz.f13=some p13:=by kernel_rfl
end Vm
end
