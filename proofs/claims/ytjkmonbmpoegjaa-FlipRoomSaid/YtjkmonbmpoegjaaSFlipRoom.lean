/-
  The law FlipRoom holds of the given program, for every input.
-/
import Derived.ScopeJumps
import Derived.WalkMore
import Derived.Deep.CutRange
import Derived.Deep.DeepCutAuto
import Derived.Deep.LoopGhost
import Derived.Test.YtjkmonbmpoegjaaRows
import Derived.Test.YtjkmonbmpoegjaaSFlipRoom6
set_option linter.unusedSimpArgs false
set_option linter.unusedVariables false
section
namespace Vm
open Go Go.Proofs
set_option maxRecDepth 100000
def Once(h:Hp)(p:Pts):Prop:= ∀o∈p.low,targR p (fstL (layH h) 1+o.at_)=1
section
variable {h g:Hp} {p q:Pts}
theorem tg_go{l:List Ob}{o:Ob}{t b:Int}(hn:l.Pairwise fun x y=>x.at_<y.at_)(ho:o∈l)(hg:o.gone=false):tgL (l.map (goOb o.at_ t)) b=tgL l b+if t=b then 1 else 0:=by
 induction l with
 |nil=>simp at ho
 |cons x l ih=>
  rw[List.pairwise_cons]at hn
  have e: ∀(y:Ob) (r:List Ob),tgL (y::r) b=(if y.gone=true∧y.target=b then 1 else 0)+tgL r b:=fun y r=>by
   unfold tgL
   rw[List.filter_cons]
   by_cases c:y.gone=true∧y.target=b
   ·rw[if_pos c,if_pos (by simp[c]),List.length_cons,Nat.add_comm]
   ·rw[if_neg c,if_neg (by simpa using c),Nat.zero_add]
  rw[List.map_cons,e,e]
  rcases List.mem_cons.1 ho with rfl|ho
  ·have:l.map (goOb o.at_ t)=l:=by
    conv=>rhs;rw[←List.map_id l]
    refine List.map_congr_left fun y hy=>goOb_ne ?_
    have:=hn.1 y hy
    omega
   rw[this,goOb_eq rfl]
   simp[hg]
   omega
  ·have h1:=hn.1 o ho
   rw[ih hn.2 ho,goOb_ne (by omega)]
   omega
theorem tg_low(r:Body h p){b:Int}(hb:h.low.length≤b):targR p (fstL (layH h) 1+b)=0:=by
 have key: ∀k:Int,3≤k∧k≤4→tgL (p.at k) (fstL (layH h) 1+b)=0:=fun k hk=>by
  unfold tgL
  rw[List.length_eq_zero_iff,List.filter_eq_nil_iff]
  intro o ho hg
  simp only[Bool.and_eq_true,decide_eq_true_eq]at hg
  obtain⟨y,hy,e,_⟩:=r.gone k hk o ho hg.1
  have:=r.toTld.low_at hy
  omega
 have h3:=key 3 (by omega)
 have h4:=key 4 (by omega)
 simp only[Pts.at3,Pts.at4]at h3 h4
 unfold targR
 omega
theorem targ_mv(r:Body h p){k:Int}(hk:3≤k∧k≤4){o:Ob}(ho:o∈p.at k)(hg:o.gone=false){L:Nat}{t b:Int}:targR (p.mv k o L t) b=targR p b+if t=b then 1 else 0:=by
 have h1:=tg_go (t:=t) (b:=b) (r.tiles k (by omega)).pairwise ho hg
 unfold targR
 have hk2:k=3∨k=4:=by omega
 rcases hk2 with rfl|rfl
 ·simp only[Pts.at3]at h1
  simp only[Pts.mv,if_true]
  omega
 ·simp only[Pts.at4]at h1
  simp only[Pts.mv,show ¬(4:Int)=3 by omega,if_false]
  omega
structure Ext (h:Hp) (p:Pts) (g:Hp) (q:Pts):Prop where
 low: ∃ws,g.low=h.low++ws
 high:g.high=h.high
 base:g.base=h.base
 cap:g.cap=h.cap
 tos:g.to=h.to
 cycle:g.cycle=h.cycle
 scan:g.scan=h.scan
 roots:g.roots=h.roots
 oldL:g.old.length=h.old.length
 farL:g.far.length=h.far.length
 obsL: ∃r,q.low=p.low++r
 obsH:q.high=p.high
 obsO: ∀k:Int,3≤k∧k≤4→(q.at k).map (fun o=>(o.at_,o.size,o.ptrs))=(p.at k).map (fun o=>(o.at_,o.size,o.ptrs))
 gone: ∀k:Int,3≤k∧k≤4→ ∀(i:Nat) (o o':Ob),(p.at k)[i]? =some o→(q.at k)[i]? =some o'→(o.gone=true→o'=o)∧(o'.gone=false→o'=o∧ ∀j:Nat,(j:Int)≤o.size→(partH g k)[o.at_.toNat+j]? =(partH h k)[o.at_.toNat+j]?)
 room:(g.low.length:Int)+waitR q=h.low.length+waitR p
theorem Ext.refl(h:Hp)(p:Pts):Ext h p h p:=
 ⟨⟨[],by simp⟩,rfl,rfl,rfl,rfl,rfl,rfl,rfl,rfl,rfl,⟨[],by simp⟩,rfl,fun _ _=>rfl,fun k hk i o o' h1 h2=>by rw[h1]at h2;cases h2;exact⟨fun _=>rfl,fun _=>⟨rfl,fun _ _=>rfl⟩⟩,rfl⟩
theorem Ext.trans{f:Hp}{s:Pts}(a:Ext h p g q)(b:Ext g q f s):Ext h p f s:=by
 obtain⟨w1,e1⟩:=a.low
 obtain⟨w2,e2⟩:=b.low
 obtain⟨r1,f1⟩:=a.obsL
 obtain⟨r2,f2⟩:=b.obsL
 refine⟨⟨w1++w2,by rw[e2,e1,List.append_assoc]⟩,b.high.trans a.high,b.base.trans a.base,b.cap.trans a.cap,b.tos.trans a.tos,b.cycle.trans a.cycle,b.scan.trans a.scan,b.roots.trans a.roots,b.oldL.trans a.oldL,b.farL.trans a.farL,⟨r1++r2,by rw[f2,f1,List.append_assoc]⟩,b.obsH.trans a.obsH,fun k hk=>(b.obsO k hk).trans (a.obsO k hk),fun k hk i o o'' h1 h2=> ?_,b.room.trans a.room⟩
 have hl:(q.at k).length=(p.at k).length:=by have:=congrArg List.length (a.obsO k hk);simpa using this
 have hi:=(List.getElem?_eq_some_iff.1 h1).1
 have h3:(q.at k)[i]? =some ((q.at k)[i]'(by omega)):=List.getElem?_eq_getElem _
 generalize (q.at k)[i]'(by omega)=o' at h3
 obtain⟨c1,c2⟩:=a.gone k hk i o o' h1 h3
 obtain⟨d1,d2⟩:=b.gone k hk i o' o'' h3 h2
 refine⟨fun hg=> ?_,fun hg=> ?_⟩
 ·have:=c1 hg
  subst this
  exact d1 hg
 ·obtain⟨k1,k2⟩:=d2 hg
  subst k1
  obtain⟨k3,k4⟩:=c2 hg
  subst k3
  exact⟨rfl,fun j hj=>(k2 j hj).trans (k4 j hj)⟩
theorem Ext.fst(e:Ext h p g q)(k a:Int)(hk:k=1∨k=3∨k=4∨k=2):refR (layH g) k a=refR (layH h) k a:=by
 unfold refR fstL layH
 simp only[e.base,e.cap,e.tos,e.high,e.farL]
theorem Ext.mem(e:Ext h p g q){j:Int}(hj:1≤j∧j≤4){o:Ob}(ho:o∈p.at j): ∃o'∈q.at j,o'.at_=o.at_∧o'.size=o.size∧o'.ptrs=o.ptrs:=by
 have h4:j=1∨j=2∨j=3∨j=4:=by omega
 rcases h4 with rfl|rfl|h3
 ·obtain⟨r,hr⟩:=e.obsL
  exact⟨o,by show o∈q.low;rw[hr];exact List.mem_append_left _ ho,rfl,rfl,rfl⟩
 ·exact⟨o,by show o∈q.high;rw[e.obsH];exact ho,rfl,rfl,rfl⟩
 ·have:=e.obsO j (by omega)
  have hm:(o.at_,o.size,o.ptrs)∈(q.at j).map (fun o=>(o.at_,o.size,o.ptrs)):=by rw[this];exact List.mem_map_of_mem ho
  obtain⟨o',h1,h2⟩:=List.mem_map.1 hm
  simp only[Prod.mk.injEq]at h2
  exact⟨o',h1,h2⟩
theorem Ext.gos(e:Ext h p g q){w i j:Int}(hi:1≤i∧i≤4)(hj:1≤j∧j≤4)(hg:Gos h p w i j):Gos g q w i j:=by
 rcases hg with rfl| ⟨m,o,hm,ho,rfl⟩
 ·exact .inl rfl
 ·have hm4:1≤m∧m≤4:=by rcases hm with rfl|rfl<;>assumption
  obtain⟨o',ho',e1,_⟩:=e.mem hm4 ho
  exact .inr ⟨m,o',hm,ho',by rw[e.fst _ _ (by omega),e1]⟩
theorem Body.ext(r:Body h p)(hsc:h.scan≤h.low.length){k:Int}(hk:3≤k∧k≤4){o:Ob}(ho:o∈p.at k)(hg:o.gone=false){a n:Nat}(ea:o.at_=a)(en:o.size=n):
  Ext h p (movH h k a (n+1)) (p.mv k o h.low.length (fstL (layH h) 1+h.low.length)):=by
 obtain⟨a',n',m,ea',en',em,hal,hn5,hmn⟩:=r.toTld.ob (k:=k) (by omega) ho
 have:a'=a:=by omega
 subst this
 have:n'=n:=by omega
 subst this
 obtain⟨m1,m2,m3,m4,m5,m6,m7,m8,m9,m10⟩:=movH_parts h hk a' (n'+1)
 obtain⟨e1,e2,e3,e4⟩:=mv_at (p:=p) hk o h.low.length (fstL (layH h) 1+h.low.length)
 have l3:(movH h k a' (n'+1)).old.length=h.old.length:=movH_len (j:=3) hk (by omega)
 have l4:(movH h k a' (n'+1)).far.length=h.far.length:=movH_len (j:=4) hk (by omega)
 refine⟨⟨_,m1⟩,m2,m9,m8,m10,m7,m6,m5,l3,l4,⟨_,e1⟩,e2,fun j hj=> ?_,fun j hj i x x' h1 h2=> ?_,?_⟩
 ·by_cases jk:j=k
  ·subst jk
   rw[e3,List.map_map]
   refine List.map_congr_left fun x _=> ?_
   obtain⟨g1,g2,g3⟩:=goOb_same o.at_ (fstL (layH h) 1+h.low.length) x
   simp only[Function.comp,g1,g2,g3]
  ·have:j=7-k:=by omega
   subst this
   rw[e4]
 ·by_cases jk:j=k
  ·subst jk
   rw[e3,List.getElem?_map,h1]at h2
   simp at h2
   subst h2
   have hxm:=List.mem_of_getElem? h1
   by_cases e:x.at_=o.at_
   ·have:x=o:=r.toTld.same_at (by omega) ho hxm e
    subst this
    rw[goOb_eq rfl]
    exact⟨fun h=>(by rw[hg]at h;cases h),fun h=>(by cases h)⟩
   ·rw[goOb_ne e]
    refine⟨fun _=>rfl,fun _=>⟨rfl,fun i hi=>movH_word hk (by omega) hj (.inr ?_)⟩⟩
    obtain⟨b,l,_,eb,el,_⟩:=r.toTld.ob (k:=j) (by omega) hxm
    rcases(r.tiles j (by omega)).apart x hxm o ho with e'|e'|e'
    ·rw[e']at e;exact absurd rfl e
    ·left;omega
    ·right;omega
  ·have:j=7-k:=by omega
   subst this
   rw[e4,h1]at h2
   cases h2
   exact⟨fun _=>rfl,fun _=>⟨rfl,fun i _=>by rw[m4]⟩⟩
 ·have h1:=(r.tiles k (by omega)).pairwise
  have hw:=wt_go (t:=fstL (layH h) 1+h.low.length) h1 ho hg
  rw[en,Int.toNat_natCast]at hw
  have hlow:=movH_low hk hal
  unfold waitR
  have hk2:k=3∨k=4:=by omega
  rcases hk2 with rfl|rfl
  ·simp only[Pts.at3]at hw
   simp only[Pts.mv,if_true]
   omega
  ·simp only[Pts.at4]at hw
   simp only[Pts.mv,show ¬(4:Int)=3 by omega,if_false]
   omega
theorem once_move(r:Body h p)(ho1:Once h p)(hsc:h.scan≤h.low.length){k:Int}(hk:3≤k∧k≤4){o:Ob}(ho:o∈p.at k)(hg:o.gone=false){a n:Nat}(ea:o.at_=a)(en:o.size=n):
  Once (movH h k a (n+1)) (p.mv k o h.low.length (fstL (layH h) 1+h.low.length)):=by
 have e:=r.ext hsc hk ho hg ea en
 have hf:fstL (layH (movH h k a (n+1))) 1=fstL (layH h) 1:=by
  have:=e.fst 1 0 (.inl rfl)
  unfold refR at this
  omega
 intro x hx
 rw[targ_mv r hk ho hg,hf]
 rcases List.mem_append.1 hx with hx|hx
 ·have:=r.toTld.low_at hx
  rw[ho1 x hx,if_neg (by omega)]
 ·simp at hx
  subst hx
  simp only
  rw[tg_low r (Int.le_refl _)]
  simp
def Res(g:Hp)(q:Pts)(w v:Int):Prop:=(w=0∧v=0)∨ ∃k o,(k=3∨k=4)∧o∈q.at k∧w=refR (layH g) k o.at_∧o.gone=true∧v=2*o.target+1
theorem Res.ext{w v:Int}(r:Res h p w v)(e:Ext h p g q):Res g q w v:=by
 rcases r with r| ⟨k,o,hk,ho,e1,e2,e3⟩
 ·exact .inl r
 ·obtain⟨i,hi⟩:=List.getElem?_of_mem ho
  have hl:(q.at k).length=(p.at k).length:=by have:=congrArg List.length (e.obsO k (by omega));simpa using this
  have hil:=(List.getElem?_eq_some_iff.1 hi).1
  have h2:(q.at k)[i]? =some ((q.at k)[i]'(by omega)):=List.getElem?_eq_getElem _
  have:=(e.gone k (by omega) i o _ hi h2).1 e2
  rw[this]at h2
  exact .inr ⟨k,o,hk,List.mem_of_getElem? h2,by rw[e.fst _ _ (by omega)];exact e1,e2,e3⟩
structure FwdTo (h:Hp) (p:Pts) (w v:Int) (g:Hp) (q:Pts):Prop where
 fwd:fwd h w=(v,g,0)
 body:Body g q
 once:Once g q
 ext:Ext h p g q
 tgo:Gos g q v 1 2
 zero:v=0↔w=0
 res:(Gos h p w 1 2∧v=w∧g=h∧q=p)∨Res g q w v
theorem Body.forward(r:Body h p)(ho1:Once h p)(hsc:h.scan≤h.low.length){w:Int}(hw:Gos h p w 1 2∨Gos h p w 3 4): ∃v g q,FwdTo h p w v g q:=by
 by_cases h0:w=0
 ·subst h0
  exact⟨0,h,p,fwd_null r.lay,r,ho1,.refl h p,.inl rfl,by simp,.inr (.inl ⟨rfl,rfl⟩)⟩
 have hw': ∃k o,1≤k∧k≤4∧o∈p.at k∧w=refR (layH h) k o.at_:=by
  rcases hw with (h1| ⟨k,o,hk,ho,e⟩) | (h1| ⟨k,o,hk,ho,e⟩)
  ·exact absurd h1 h0
  ·exact⟨k,o,by omega,by omega,ho,e⟩
  ·exact absurd h1 h0
  ·exact⟨k,o,by omega,by omega,ho,e⟩
 obtain⟨k,o,k1,k4,ho,rfl⟩:=hw'
 by_cases h2:k≤2
 ·exact⟨_,h,p,r.fwd_here ⟨k1,h2⟩ ho,r,ho1,.refl h p,.inr ⟨k,o,by omega,ho,rfl⟩,Iff.rfl,.inl ⟨.inr ⟨k,o,by omega,ho,rfl⟩,rfl,rfl,rfl⟩⟩
 have hk:3≤k∧k≤4:=by omega
 cases hg:o.gone
 ·obtain⟨a,n,m,ea,en,em,hal,_⟩:=r.toTld.ob ⟨k1,k4⟩ ho
  obtain⟨f1,_⟩:=r.fwd_wait hk ho hg ea en
  have e:=r.ext hsc hk ho hg ea en
  have b:=r.move hsc hk ho hg ea en
  have hin:(⟨h.low.length,o.size,o.ptrs,false,0⟩:Ob)∈(p.mv k o h.low.length (fstL (layH h) 1+h.low.length)).low:=List.mem_append_right _ (.head _)
  have hrf:refR (layH h) 1 h.low.length=refR (layH (movH h k a (n+1))) 1 h.low.length:=(e.fst 1 _ (.inl rfl)).symm
  exact⟨_,_,_,f1,b,once_move r ho1 hsc hk ho hg ea en,e,.inr ⟨1,_,.inl rfl,hin,hrf⟩,iff_of_false (refR_ne r.lay (by omega)) h0,.inr (.inr ⟨k,_,by omega,by rw[(mv_at hk o _ _).2.2.1];exact List.mem_map_of_mem ho,by rw[e.fst _ _ (by omega),(goOb_same _ _ _).1],by rw[goOb_eq rfl],by rw[goOb_eq rfl];rfl⟩)⟩
 ·obtain⟨y,hy,e,_⟩:=r.gone k hk o ho hg
  have hv:2*o.target+1=refR (layH h) 1 y.at_:=by unfold refR;omega
  have hyl:=r.toTld.low_at hy
  refine⟨_,h,p,r.fwd_gone hk ho hg,r,ho1,.refl h p,.inr ⟨1,y,.inl rfl,hy,hv⟩,?_,.inr (.inr ⟨k,o,by omega,ho,rfl,hg,rfl⟩)⟩
  rw[hv]
  exact iff_of_false (refR_ne r.lay hyl.1) h0
end
end Vm
end
section
namespace Vm
open Go Go.Proofs
set_option maxRecDepth 100000
def flip0(h:Hp):Hp:=⟨h.base,h.cap,1-h.to,false,0,[],[],h.low,h.high,h.roots⟩
def flipS(g:Hp)(i:Nat):Hp:= {(fwd g ((g.roots[i]?).getD 0)).2.1 with roots:=(fwd g ((g.roots[i]?).getD 0)).2.1.roots.set i (fwd g ((g.roots[i]?).getD 0)).1}
def flipL(g:Hp):Nat→Hp
 |0=>g
 |i+1=>flipS (flipL g i) i
def flipE(g:Hp):Hp:=if 0<g.low.length then {g with cycle:=true}else {g with cycle:=false,old:= [],far:= []}
def flipH(h:Hp):Hp:=flipE (flipL (flip0 h) h.roots.length)
def flipR(h:Hp):Hp×Int:=if rightR h=false then(Hp.zero,1)else if h.cycle then(Hp.zero,10)else(flipH h,0)
def restR(h:Hp):Hp:=if h.cycle=true∨rightR h=false then Hp.zero else h
theorem Stands.old{ws:List Int}{o:Ob}(s:Stands ws false o):Stands ws true o:=by
 obtain⟨w,hw,hc⟩:=s.word
 have hg:o.gone=false:=by
  cases hg:o.gone
  ·rfl
  ·rw[if_pos hg]at hc;cases hc.1
 refine⟨s.nat,s.shape,s.fits,s.slots,w,hw,?_⟩
 rw[if_neg (by simp[hg])]at hc⊢
 exact⟨fun _=>adr_unpk (by rw[hc.2.1]),hc.2⟩
theorem Tiles.old{ws:List Int}: ∀ {a:Nat} {l:List Ob},Tiles ws false a l→Tiles ws true a l
 |_,[],h=>h
 |_,_::_,h=>⟨h.1,h.2.1.old,Tiles.old h.2.2⟩
theorem wt_all{l:List Ob}(h: ∀o∈l,o.gone=false):wtL l=szL l:=by
 have:=wt_gn l
 have:gnL l=0:=sum_zero fun o ho=>by rw[h o ho];rfl
 omega
def flipP(p:Pts):Pts:=⟨[],[],p.low,p.high⟩
section
variable {h:Hp} {p:Pts}
theorem flip_ref(h:Hp)(k a:Int)(hk:k=1∨k=2):refR (layH (flip0 h)) (k+2) a=refR (layH h) k a:=by
 rcases hk with rfl|rfl
 ·show 2*(h.base+(1- (1-h.to))*h.cap+a)+1=2*(h.base+h.to*h.cap+a)+1
  rw[show 1- (1-h.to)=h.to by omega]
 ·show 2*(h.base+(1- (1-h.to))*h.cap+(h.cap-h.high.length)+a)+1=2*(h.base+h.to*h.cap+(h.cap-h.high.length)+a)+1
  rw[show 1- (1-h.to)=h.to by omega]
theorem flip_gos{w:Int}(hg:Gos h p w 1 2):Gos (flip0 h) (flipP p) w 3 4:=by
 rcases hg with rfl| ⟨k,o,hk,ho,rfl⟩
 ·exact .inl rfl
 ·rcases hk with rfl|rfl
  ·exact .inr ⟨3,o,.inl rfl,ho,(flip_ref h 1 _ (.inl rfl)).symm⟩
  ·exact .inr ⟨4,o,.inr rfl,ho,(flip_ref h 2 _ (.inr rfl)).symm⟩
theorem flip_body(r:Rt h p)(hc:h.cycle=false):Body (flip0 h) (flipP p):=by
 have hl:=rightL_iff.1 r.lay
 have t1:=r.tiles 1 (by omega)
 have t2:=r.tiles 2 (by omega)
 simp only[partH1,partH2,Pts.at1,Pts.at2]at t1 t2
 refine⟨⟨rightL_iff.2 ?_,fun k hk=> ?_⟩,fun k hk o ho hg=> ?_,fun k hk o ho hg j hj w hw=> ?_,?_⟩
 ·have e1:(layH h).cap=h.cap:=rfl
  have e2:(layH h).base=h.base:=rfl
  have e3:(layH h).to=h.to:=rfl
  have e4:(layH h).low=h.low.length:=rfl
  have e5:(layH h).high=h.high.length:=rfl
  simp only[layH,flip0,List.length_nil]
  omega
 ·have h4:k=1∨k=2∨k=3∨k=4:=by omega
  rcases h4 with rfl|rfl|rfl|rfl
  ·exact Nat.le_refl 0
  ·exact Nat.le_refl 0
  ·exact t1.old
  ·exact t2.old
 ·have h4:k=3∨k=4:=by omega
  rcases h4 with rfl|rfl
  ·have:=t1.no_gone o ho;rw[hg]at this;cases this
  ·have:=t2.no_gone o ho;rw[hg]at this;cases this
 ·have h4:k=1∨k=2∨k=3∨k=4:=by omega
  rcases h4 with rfl|rfl|rfl|rfl
  ·cases ho
  ·cases ho
  ·have:=r.ptr 1 (by omega) o ho hg j hj w hw
   obtain⟨a,n,m,ea,en,em,hal,_⟩:=r.toTld.ob (k:=1) (by omega) ho
   simp only[partH1]at hal
   unfold PtrAt at this⊢
   rw[if_neg (by omega),if_neg (by rw[(r.rest hc).1];omega)]at this
   rw[if_pos (by omega)]
   exact flip_gos this
  ·have:=r.ptr 2 (by omega) o ho hg j hj w hw
   unfold PtrAt at this⊢
   rw[if_neg (by omega),if_neg (by omega)]at this
   rw[if_pos (by omega)]
   exact flip_gos this
 ·have h1:=t1.sum (Nat.zero_le _)
  have h2:=t2.sum (Nat.zero_le _)
  have w1:=wt_all t1.no_gone
  have w2:=wt_all t2.no_gone
  have hrm:=r.room
  simp only[waitR,flipP,flip0,List.length_nil]
  omega
structure FlipI (h:Hp) (p:Pts) (i:Nat) (g:Hp) (q:Pts):Prop where
 body:Body g q
 once:Once g q
 ext:Ext (flip0 h) (flipP p) {g with roots:=h.roots} q
 len:g.roots.length=h.roots.length
 rest: ∀j,i≤j→g.roots[j]? =h.roots[j]?
 did: ∀j:Nat,j<i→ ∀w v,h.roots[j]? =some w→g.roots[j]? =some v→Gos g q v 1 2∧Res g q w v
theorem Body.roots(r:Body h p)(l:List Int):Body {h with roots:=l} p:=⟨⟨r.lay,r.tiles⟩,r.gone,r.ptr,r.room⟩
theorem flip_step(r:Rt h p){i:Nat}(hi:i<h.roots.length){g:Hp}{q:Pts}(I:FlipI h p i g q):(∃v g' q',FwdTo g q (h.roots[i]) v g' q')∧ ∃q',FlipI h p (i+1) (flipS g i) q'∧(fwd g ((g.roots[i]?).getD 0)).2.2=0:=by
 have hr:g.roots[i]? =some h.roots[i]:=by rw[I.rest i (Nat.le_refl _)];exact List.getElem?_eq_getElem hi
 have hw:Gos g q h.roots[i] 3 4:=by
  have h1:=I.ext.gos (i:=3) (j:=4) (by omega) (by omega) (flip_gos (r.roots _ (List.getElem_mem hi)))
  exact h1
 have hsc:g.scan≤g.low.length:=by
  have:g.scan=0:=I.ext.scan
  omega
 obtain⟨v,g',q',f⟩:=I.body.forward I.once hsc (.inr hw)
 refine⟨⟨v,g',q',f⟩,q',?_,by rw[hr,Option.getD_some,f.fwd]⟩
 have e:flipS g i= {g' with roots:=g'.roots.set i v}:=by
  unfold flipS
  rw[hr,Option.getD_some,f.fwd]
 have er:g'.roots=g.roots:=f.ext.roots
 have hres:Res g' q' h.roots[i] v:=by
  rcases f.res with ⟨hg,e1,e2,e3⟩ |hr
  ·rcases hw with h0| ⟨k,o,hk,ho,e4⟩
   ·exact .inl ⟨h0,e1.trans h0⟩
   ·rcases hg with h0| ⟨k',o',hk',ho',e5⟩
    ·exact .inl ⟨h0,e1.trans h0⟩
    ·obtain⟨ee,_⟩:=I.body.toTld.inj (by omega) (by omega) ho ho' (e4.symm.trans e5)
     omega
  ·exact hr
 rw[e]
 refine⟨f.body.roots _,f.once,I.ext.trans ⟨f.ext.low,f.ext.high,f.ext.base,f.ext.cap,f.ext.tos,f.ext.cycle,f.ext.scan,rfl,f.ext.oldL,f.ext.farL,f.ext.obsL,f.ext.obsH,f.ext.obsO,f.ext.gone,f.ext.room⟩,?_,fun j hj=> ?_,fun j hj w u hw' hu=> ?_⟩
 ·simp only[List.length_set,er];exact I.len
 ·simp only
  rw[List.getElem?_set_ne (by omega),er]
  exact I.rest j (by omega)
 ·simp only at hu
  by_cases hji:j=i
  ·subst hji
   rw[List.getElem?_set_self (by rw[er,I.len];exact hi)]at hu
   cases hu
   rw[List.getElem?_eq_getElem hi]at hw'
   cases hw'
   exact⟨f.tgo,hres⟩
  ·rw[List.getElem?_set_ne (by omega),er]at hu
   obtain⟨h1,h2⟩:=I.did j (by omega) w u hw' hu
   exact⟨(show Gos g' q' u 1 2 from f.ext.gos (by omega) (by omega) h1),(show Res g' q' w u from h2.ext f.ext)⟩
theorem flip_upto(r:Rt h p)(hc:h.cycle=false): ∀i,i≤h.roots.length→ ∃q,FlipI h p i (flipL (flip0 h) i) q
 |0,_=>⟨flipP p,flip_body r hc,fun o ho=>(by cases ho),.refl _ _,rfl,fun _ _=>rfl,fun j hj=>(by omega)⟩
 |i+1,hi=>by
  obtain⟨q,I⟩:=flip_upto r hc i (by omega)
  obtain⟨_,q',I',_⟩:=flip_step r (by omega) I
  exact⟨q',I'⟩
theorem flip_end(r:Rt h p)(hc:h.cycle=false): ∃g q,FlipI h p h.roots.length g q∧flipH h=flipE g∧Rt (flipE g) (if 0<g.low.length then q else⟨[],[],[],[]⟩)∧(¬0<g.low.length→g.low= []∧q.low= []∧q.high= []∧ ∀w∈g.roots,w=0):=by
 obtain⟨q,I⟩:=flip_upto r hc h.roots.length (Nat.le_refl _)
 refine⟨_,q,I,rfl,?_⟩
 generalize flipL (flip0 h) h.roots.length=g at*
 have hscan:g.scan=0:=I.ext.scan
 have hhigh:g.high= []:=I.ext.high
 have hqh:q.high= []:=I.ext.obsH
 have hroots: ∀w∈g.roots,Gos g q w 1 2:=fun w hw=>by
  obtain⟨j,hj⟩:=List.getElem?_of_mem hw
  have hl:=(List.getElem?_eq_some_iff.1 hj).1
  rw[I.len]at hl
  exact(I.did j hl _ w (List.getElem?_eq_getElem hl) hj).1
 have hn:g.roots.length≤16:=by rw[I.len];exact r.nroots
 by_cases h0:0<g.low.length
 ·refine⟨?_,fun h=>absurd h0 h⟩
  rw[if_pos h0]
  unfold flipE
  rw[if_pos h0]
  have b:=I.body
  exact⟨⟨⟨b.lay,b.tiles⟩,b.gone,b.ptr,b.room⟩,hn,by show 0≤g.scan;omega,by show g.scan≤g.low.length;omega,fun _=>(by show g.scan<g.low.length;omega),fun h=>(by cases h),fun _=>I.once,hroots⟩
 ·have hlow:g.low= []:=List.length_eq_zero_iff.1 (by omega)
  have hql:q.low= []:=by
   have:=I.body.tiles 1 (by omega)
   simp only[partH1,Pts.at1,hlow]at this
   exact this.nil
  have hz: ∀w∈g.roots,w=0:=fun w hw=>by
   rcases hroots w hw with h| ⟨k,o,hk,ho,_⟩
   ·exact h
   ·rcases hk with rfl|rfl
    ·simp only[Pts.at1,hql]at ho;cases ho
    ·simp only[Pts.at2,hqh]at ho;cases ho
  refine⟨?_,fun _=>⟨hlow,hql,hqh,hz⟩⟩
  rw[if_neg h0]
  unfold flipE
  rw[if_neg h0]
  have hl:=rightL_iff.1 I.body.lay
  have hat: ∀k,(⟨[],[],[],[]⟩:Pts).at k= []:=fun k=>by unfold Pts.at;split<;>(try split)<;>(try split)<;>rfl
  have hpa: ∀k,partH {g with cycle:=false,old:= [],far:= []} k= []:=fun k=>by unfold partH;simp only[hlow,hhigh];split<;>(try split)<;>(try split)<;>rfl
  refine⟨⟨⟨rightL_iff.2 ?_,fun k hk=> ?_⟩,fun k hk o ho=> ?_,fun k hk o ho=> ?_,?_⟩,hn,by show 0≤g.scan;omega,by show g.scan≤g.low.length;omega,fun h=>(by cases h),fun _=>⟨by show g.scan=g.low.length;rw[hlow,hscan];rfl,rfl,rfl⟩,fun h=>(by cases h),fun w hw=> .inl (hz w hw)⟩
  ·simp only[layH,List.length_nil]at hl⊢
   omega
  ·rw[hat,hpa];exact Nat.le_refl _
  ·rw[hat]at ho;cases ho
  ·rw[hat]at ho;cases ho
  ·show(g.low.length:Int)+g.high.length+waitR ⟨[],[],[],[]⟩≤g.cap
   rw[hlow,hhigh]
   simp only[layH]at hl
   simp[waitR,wtL]
   omega
end
end Vm
end
section
namespace Vm
open Go Go.Proofs Go.RowKit
set_option maxHeartbeats 40000000
set_option maxRecDepth 100000
def FlipPost(w:World)(r:Hp×Int)(e:Ending)(w':World):Prop:=
 ∃x,e= .returned (.tuple #[hpA r.1 x,.int .i64 r.2])∧Below w.heap.size w w'∧ ∀j,j<5→Rd w' (fun c=>w.heap.size≤c∧c<w'.heap.size) (.sl ((lsH r.1 j).map vu)) (x j)
theorem rightT_calls{w:World}{G:Nat→Prop}{h:Hp}{x:Nat→Value}(hh:h.ok)(hG: ∀b,G b→b<w.heap.size)(hr: ∀j,j<5→Rd w G (.sl ((lsH h j).map vu)) (x j)):
  Calls Try.prog 33 #[hpA h x] w fun e w'=>e= .returned (.bool (rightR h))∧Below w.heap.size w w':=by
 refine Calls.mono ((CR_vc hh).2 w G _ hG rfl ?_) ?_
 ·intro i y hy
  match i,hy with
  |0,hy=>cases hy;exact hp_rd hr
 ·rintro e w' ⟨v,rfl,hb,hv⟩
  exact⟨by rw[rd_bool_inv hv],hb⟩
theorem Flip_e1(w:World)(G:Nat→Prop)(hG: ∀b,G b→b<w.heap.size)(h:Hp)(hh:h.ok)(src:Nat→Value)(hs: ∀j,j<5→Rd w G (.sl ((lsH h j).map vu)) (src j))(hr:rightR h=false):
  Calls Try.prog 17 #[hpA h src] w (FlipPost w (Hp.zero,1)):=by
 have hR: ∀W,Below w.heap.size w W→Calls Try.prog 33 #[hpA h src] W fun e w'=>e= .returned (.bool (rightR h))∧Below W.heap.size W w':=fun W hb=>
  rightT_calls (w:=W) (G:=G) (x:=src) hh (fun b hb'=>Nat.lt_of_lt_of_le (hG b hb') hb.size) (fun j hj=>(hs j hj).keep (fun b hb'=>hb.block b (hG b hb')) fun _ q=>q)
 rw[hr]at hR
 have HR:=Lib.hid hR
 clear hR
 clear hs hr
 unfold hpA
 go_enter Try.func17,Try.ntmps17
 go_wp2
 refine wp_scope_jumps 0 (fun _ _=>False) (fun _ _=>0) rfl ?_ (fun _ _ h=>h.elim)
 go_upto_region 2 with (first
  | (go_at_call 33;refine(HR.out _ ?_).mono ?_;rotate_left;rintro e wa ⟨rfl,hba⟩
     have bA:wa.heap[w.heap.size]? =some (.cells #[.int .u64 h.base,.int .i64 h.cap,.int .i64 h.to,.bool h.cycle,.int .i64 h.scan,src 0,src 1,src 2,src 3,src 4] 25 (0,0)):=(hba.block _ (by simp;omega)).trans ((Below.heap_alloc _ _ _ (by simp)).trans (heap_alloc_new w _))
     have bZ:wa.heap[w.heap.size+1]? =some (.cells zeroA 25 (0,0)):=(hba.block _ (by simp)).trans (zero_new w _)
     have ya: ∀j,wa.cell? ⟨w.heap.size,j,none⟩=(#[.int .u64 h.base,.int .i64 h.cap,.int .i64 h.to,.bool h.cycle,.int .i64 h.scan,src 0,src 1,src 2,src 3,src 4]:Array Value)[j]? :=fun j=>cell_of_row _ _ _ _ _ _ bA
     have yz: ∀j,wa.cell? ⟨w.heap.size+1,j,none⟩=zeroA[j]? :=fun j=>cell_of_row _ _ _ _ _ _ bZ
     unfold zeroA at yz
     have fz: ∀j,wa.frozen? ⟨w.heap.size+1,j,none⟩=false:=fun j=>frz_of bZ
     have HBA:=Lib.hid hba
     have HBZ:=Lib.hid (And.intro bA bZ)
     clear hba bA bZ))
 case refine_1=>exact((Below.refl _ w).alloc (Nat.le_refl _) _).alloc (by simp) _
 go_wp2
 simp only[Exit.jump]
 have hz:=put10_cells HBZ.out.2 (.int .u64 0) (.int .i64 0) (.int .i64 0) (.bool false) (.int .i64 0) (.slice none 0 0) (.slice none 0 0) (.slice none 0 0) (.slice none 0 0) (.slice none 0 0)
 refine bodyPost_ret (v:= .tuple #[.agg zeroA,.int .i64 1]) ?_ rfl ?_
 ·simp[results,Try.results17,go_sem,hz,zeroA]
 ·exact⟨fun _=> .slice none 0 0,rfl,put10_below (Below.trans (((Below.refl _ w).alloc (Nat.le_refl _) _).alloc (by simp) _) (HBA.out.mono (by simp;omega))) (by omega) _ _ _ _ _ _ _ _ _ _,zero_rd _ _⟩
theorem Flip_e2(w:World)(G:Nat→Prop)(hG: ∀b,G b→b<w.heap.size)(h:Hp)(hh:h.ok)(src:Nat→Value)(hs: ∀j,j<5→Rd w G (.sl ((lsH h j).map vu)) (src j))(hr:rightR h=true)(hc:h.cycle=true):
  Calls Try.prog 17 #[hpA h src] w (FlipPost w (Hp.zero,10)):=by
 have hR: ∀W,Below w.heap.size w W→Calls Try.prog 33 #[hpA h src] W fun e w'=>e= .returned (.bool (rightR h))∧Below W.heap.size W w':=fun W hb=>
  rightT_calls (w:=W) (G:=G) (x:=src) hh (fun b hb'=>Nat.lt_of_lt_of_le (hG b hb') hb.size) (fun j hj=>(hs j hj).keep (fun b hb'=>hb.block b (hG b hb')) fun _ q=>q)
 rw[hr]at hR
 unfold hpA at hR
 rw[hc]at hR
 have HR:=Lib.hid hR
 clear hR
 clear hs hr
 unfold hpA
 rw[hc]
 clear hc
 go_enter Try.func17,Try.ntmps17
 go_wp2
 refine wp_scope_jumps 0 (fun _ _=>False) (fun _ _=>0) rfl ?_ (fun _ _ h=>h.elim)
 go_upto_region 4 with (first
  | (go_at_call 33;refine(HR.out _ ?_).mono ?_;rotate_left;rintro e wa ⟨rfl,hba⟩
     have bA:wa.heap[w.heap.size]? =some (.cells #[.int .u64 h.base,.int .i64 h.cap,.int .i64 h.to,.bool true,.int .i64 h.scan,src 0,src 1,src 2,src 3,src 4] 25 (0,0)):=(hba.block _ (by simp;omega)).trans ((Below.heap_alloc _ _ _ (by simp)).trans (heap_alloc_new w _))
     have bZ:wa.heap[w.heap.size+1]? =some (.cells zeroA 25 (0,0)):=(hba.block _ (by simp)).trans (zero_new w _)
     have ya: ∀j,wa.cell? ⟨w.heap.size,j,none⟩=(#[.int .u64 h.base,.int .i64 h.cap,.int .i64 h.to,.bool true,.int .i64 h.scan,src 0,src 1,src 2,src 3,src 4]:Array Value)[j]? :=fun j=>cell_of_row _ _ _ _ _ _ bA
     have yz: ∀j,wa.cell? ⟨w.heap.size+1,j,none⟩=zeroA[j]? :=fun j=>cell_of_row _ _ _ _ _ _ bZ
     unfold zeroA at yz
     have fz: ∀j,wa.frozen? ⟨w.heap.size+1,j,none⟩=false:=fun j=>frz_of bZ
     have HBA:=Lib.hid hba
     have HBZ:=Lib.hid (And.intro bA bZ)
     clear hba bA bZ))
 case refine_1=>exact((Below.refl _ w).alloc (Nat.le_refl _) _).alloc (by simp) _
 go_wp2
 simp only[Exit.jump]
 have hz:=put10_cells HBZ.out.2 (.int .u64 0) (.int .i64 0) (.int .i64 0) (.bool false) (.int .i64 0) (.slice none 0 0) (.slice none 0 0) (.slice none 0 0) (.slice none 0 0) (.slice none 0 0)
 refine bodyPost_ret (v:= .tuple #[.agg zeroA,.int .i64 10]) ?_ rfl ?_
 ·simp[results,Try.results17,go_sem,hz,zeroA]
 ·exact⟨fun _=> .slice none 0 0,rfl,put10_below (Below.trans (((Below.refl _ w).alloc (Nat.le_refl _) _).alloc (by simp) _) (HBA.out.mono (by simp;omega))) (by omega) _ _ _ _ _ _ _ _ _ _,zero_rd _ _⟩
end Vm
end
section
namespace Vm
open Go Go.Proofs Go.RowKit
set_option maxHeartbeats 1000000
set_option maxRecDepth 100000
theorem scope_jumps{P:Program}{a:Act}{w:World}{Q:Exit→Act→World→Prop}{c rest:Code}(l:Nat)(J:Act→World→Prop)(μ:Act→World→Nat)(hf:findLabel c l=some (.seq .skip rest))
  (pass: ∀a w,J a w→rest.wp P (Exit.jump l (fun a' w'=>J a' w'∧μ a' w'<μ a w) Q) a w)
  (first:(∀a w,J a w→rest.wp P (Exit.jump l J Q) a w)→c.wp P (Exit.jump l J Q) a w):(Code.scope c).wp P Q a w:=
 wp_scope_jumps l J μ hf (first fun a w hJ=>Code.wp_mono (fun e a' w' h=>by
  cases e<;>first
   |exact h
   |exact⟨h.1,h.2.1⟩) (pass a w hJ)) fun a w hJ=>wp_seq (wp_skip (pass a w hJ))
theorem act_map{t:Array Value}{n:Nat}(h:t.size=n):t=((List.range n).map fun i=>t.getD i undef).toArray:=by
 apply Array.ext
 ·simp[h]
 ·intro i h1 h2
  simp[Array.getD,h1]
theorem putg_blk{w2:World}{b:Nat}{T:TypeId}{a0 a1 a2 a3 a4 a5 a6 a7 a8 a9:Value}(hb:w2.heap[b]? =some (.cells #[a0,a1,a2,a3,a4,a5,a6,a7,a8,a9] T (0,0))) (v0 v1 v2 v3 v4 v5 v6 v7 v8 v9:Value):((((((((((w2.setCell ⟨b,0,none⟩ v0).setCell ⟨b,1,none⟩ v1).setCell ⟨b,2,none⟩ v2).setCell ⟨b,3,none⟩ v3).setCell ⟨b,4,none⟩ v4).setCell ⟨b,5,none⟩ v5).setCell ⟨b,6,none⟩ v6).setCell ⟨b,7,none⟩ v7).setCell ⟨b,8,none⟩ v8).setCell ⟨b,9,none⟩ v9).heap[b]? =some (.cells #[v0,v1,v2,v3,v4,v5,v6,v7,v8,v9] T (0,0)):=by
 simp[World.setCell,Array.getElem?_modify,hb]
def hpC(h:Hp)(x:Nat→Value):Array Value:= #[.int .u64 h.base,.int .i64 h.cap,.int .i64 h.to,.bool h.cycle,.int .i64 h.scan,x 0,x 1,x 2,x 3,x 4]
structure FlI (w W:World) (c:Nat) (g:Hp) (x:Nat→Value):Prop where
 below:Below w.heap.size w W
 rb:W.heap[w.heap.size+1]? =some (.cells zeroA 25 (0,0))
 le:w.heap.size+2≤c
 nb:W.heap[c]? =some (.cells (hpC g x) 25 (0,0))
 rd: ∀j,j<5→Rd W (fun b=>w.heap.size+2≤b∧b<W.heap.size∧b≠c) (.sl ((lsH g j).map vu)) (x j)
theorem fit_to{n:Int}(h:n=0∨n=1):Fit (1-n):=by unfold Fit;omega
theorem flip0_ok{h:Hp}(hh:h.ok)(ht:h.to=0∨h.to=1):(flip0 h).ok:=by
 obtain⟨a1,a2,a3,a4,a5,a6,a7,a8,a9,b1,b2,b3,b4,b5⟩:=hh
 exact⟨a1,a2,fit_to ht,⟨by show _≤(0:Int);omega,by show(0:Int)≤_;omega⟩,Nat.zero_le _,Nat.zero_le _,a5,a6,a9,fun w hw=>(by cases hw),fun w hw=>(by cases hw),b1,b2,b5⟩
theorem roots_ok{h:Hp}(hh:h.ok){k:Nat}{v:Int}(hv:U64 v):({h with roots:=h.roots.set k v}:Hp).ok:=by
 obtain⟨a1,a2,a3,a4,a5,a6,a7,a8,a9,b1,b2,b3,b4,b5⟩:=hh
 refine⟨a1,a2,a3,a4,a5,a6,a7,a8,by simp only[List.length_set];exact a9,b1,b2,b3,b4,fun w hw=> ?_⟩
 rcases List.mem_or_eq_of_mem_set hw with hw|rfl
 ·exact b5 w hw
 ·exact hv
theorem getD_u64{l:List Int}(h: ∀w∈l,U64 w)(i:Nat):U64 ((l[i]?).getD 0):=by
 cases e:l[i]? with
 |none=>exact⟨by decide,by decide⟩
 |some x=>exact h x (List.mem_of_getElem? e)
theorem flipL_ok{h:Hp}(hh:h.ok)(ht:h.to=0∨h.to=1): ∀k,(flipL (flip0 h) k).ok
 |0=>flip0_ok hh ht
 |k+1=>by
  have ih:=flipL_ok hh ht k
  have f:=fwd_ok ih (getD_u64 ih.rootsW k)
  exact roots_ok f.1 f.2
def frs(i:Nat):Nat:=if i<7 then 39+i else if i=7 then 38 else if i=8 then 46 else if i=9 then 47 else if i=10 then 48 else if i=11 then 7 else if i=12 then 6 else if i=14 then 8 else 0
theorem frs_all: ∀i,i<15→ ∀j,j<15→i≠j→frs i≠frs j:=by decide
def frE(c:Nat)(g:Hp)(x:Nat→Value)(k:Nat)(ea:Value)(u:Int):Nat→Value
 |0=> .agg (hpC g x)
 |1=> .pointer (some ⟨c,9,none⟩)
 |2=>x 4
 |3=> .int .i64 k
 |4=>ea
 |_=> .int .u64 u
def frT(fv:Int)(g':Hp)(x':Nat→Value):Value:= .tuple #[.int .u64 fv,.agg (hpC g' x'),.int .i64 0]
def FrV(E:Nat→Value)(fv:Int)(g':Hp)(O:(Nat→Value)→Prop)(i:Nat)(val:Value):Prop:=
 if i<6 then val=E i else if i=6∨i=7 then ∃x',val=frT fv g' x'∧O x' else if i=9 then ∃x',val= .agg (hpC g' x')∧O x' else if i=8∨i=12 then val= .int .u64 fv else val= .int .i64 0
theorem FrV.mono{E:Nat→Value}{fv:Int}{g':Hp}{O O':(Nat→Value)→Prop}{i:Nat}{val:Value}(h:FrV E fv g' O i val)(ho: ∀x,O x→O' x):FrV E fv g' O' i val:=by
 unfold FrV at*
 split
 ·rename_i c;rw[if_pos c]at h;exact h
 rename_i c;rw[if_neg c]at h
 split
 ·rename_i c;rw[if_pos c]at h;obtain⟨x,e,o⟩:=h;exact⟨x,e,ho x o⟩
 rename_i c;rw[if_neg c]at h
 split
 ·rename_i c;rw[if_pos c]at h;obtain⟨x,e,o⟩:=h;exact⟨x,e,ho x o⟩
 rename_i c;rw[if_neg c]at h
 exact h
structure FrO (W0 W:World) (L:Nat→Bool) (v:Nat→Value) (g':Hp) (x':Nat→Value):Prop where
 own:HOwn W0.heap.size W g' x'
 far: ∀j,j<5→ ∀b,(x' j).ownBlock=some b→L 11=true→v 7≠ .pointer (some ⟨b,0,none⟩)
structure FrC (W0:World) (E:Nat→Value) (fv:Int) (g':Hp) (L:Nat→Bool) (v:Nat→Value) (W:World):Prop where
 b:Below W0.heap.size W0 W
 val: ∀i,i<15→i≠11→i≠13→L i=true→FrV E fv g' (FrO W0 W L v g') i (v (frs i))
 new:L 11=true→ ∃c,v 7= .pointer (some ⟨c,0,none⟩)∧W0.heap.size≤c∧c<W.heap.size∧(L 13=false→W.heap[c]? =some (.cells zeroA 25 (0,0)))
 put:L 13=true→ ∃c x',v 7= .pointer (some ⟨c,0,none⟩)∧W.heap[c]? =some (.cells (hpC g' x') 25 (0,0))∧FrO W0 W L v g' x'
 c13:L 13=true→L 11=true
section
variable {W0 W W':World} {E:Nat→Value} {fv:Int} {g':Hp} {L:Nat→Bool} {v:Nat→Value}
theorem FrO.keep{L':Nat→Bool}{v':Nat→Value}{x':Nat→Value}(o:FrO W0 W L v g' x')(hs: ∀j,j<5→ ∀b,(x' j).ownBlock=some b→W'.heap[b]? =W.heap[b]?)(hz:W.heap.size≤W'.heap.size)
  (hf: ∀j,j<5→ ∀b,(x' j).ownBlock=some b→L' 11=true→v' 7≠ .pointer (some ⟨b,0,none⟩)):FrO W0 W' L' v' g' x':=
 ⟨⟨fun j hj=>owns_block (o.own.own j hj) fun b hb=>hs j hj b hb,o.own.apart⟩,hf⟩
theorem FrC.step(C:FrC W0 E fv g' L v W){i s:Nat}(hi:i<15)(h11:i≠11)(h13:i≠13)(hs:s=frs i){x:Value}(hb:Below W.heap.size W W')
  (hv:FrV E fv g' (FrO W0 W' L v g') i x):FrC W0 E fv g' (add L i) (setV v s x) W':=by
 subst hs
 have a11:add L i 11=L 11:=add_ne (by omega)
 have a13:add L i 13=L 13:=add_ne (by omega)
 have v7:setV v (frs i) x 7=v 7:=setV_ne v x (show frs 11≠frs i from frs_all 11 (by omega) i hi (Ne.symm h11))
 have kp: ∀x',FrO W0 W L v g' x'→FrO W0 W' (add L i) (setV v (frs i) x) g' x':=fun x' o=>o.keep (fun j hj b hb'=>hb.block b ((o.own.own j hj).lt b hb').2) hb.size (fun j hj b hb'=>by rw[a11,v7];exact o.far j hj b hb')
 have kp': ∀x',FrO W0 W' L v g' x'→FrO W0 W' (add L i) (setV v (frs i) x) g' x':=fun x' o=>o.keep (fun _ _ _ _=>rfl) (Nat.le_refl _) (fun j hj b hb'=>by rw[a11,v7];exact o.far j hj b hb')
 refine⟨C.b.trans (hb.mono C.b.size),fun j hj j11 j13 hL=> ?_,fun hL=> ?_,fun hL=> ?_,fun hL=> ?_⟩
 ·by_cases e:j=i
  ·subst e
   rw[setV_self]
   exact hv.mono kp'
  ·rw[add_ne e]at hL
   rw[setV_ne v x (frs_all j hj i hi e)]
   exact(C.val j hj j11 j13 hL).mono kp
 ·rw[a11]at hL
  obtain⟨c,e1,e2,e3,e4⟩:=C.new hL
  refine⟨c,by rw[v7];exact e1,e2,Nat.lt_of_lt_of_le e3 hb.size,fun h0=> ?_⟩
  rw[a13]at h0
  exact(hb.block c e3).trans (e4 h0)
 ·rw[a13]at hL
  obtain⟨c,x',e1,e2,e3⟩:=C.put hL
  exact⟨c,x',by rw[v7];exact e1,(hb.block c (heap_lt e2)).trans e2,kp x' e3⟩
 ·rw[a13]at hL
  rw[a11]
  exact C.c13 hL
theorem FrC.call(C:FrC W0 E fv g' L v W){x':Nat→Value}(hb:Below W.heap.size W W')(ho:HOwn W.heap.size W' g' x'):FrC W0 E fv g' (add L 6) (setV v 45 (frT fv g' x')) W':=by
 refine C.step (by omega) (by omega) (by omega) rfl hb ?_
 unfold FrV
 rw[if_neg (by omega),if_pos (.inl rfl)]
 refine⟨x',rfl,⟨fun j hj=>own_up (ho.own j hj) fun b h1 h2=>⟨Nat.le_trans C.b.size h1,h2⟩,ho.apart⟩,fun j hj b hb' hL e=> ?_⟩
 obtain⟨c,e1,_,e3,_⟩:=C.new hL
 rw[e1]at e
 cases e
 have:=((ho.own j hj).lt b hb').1
 omega
theorem FrC.alloc(C:FrC W0 E fv g' L v W)(h11:L 11=false):FrC W0 E fv g' (add L 11) (setV v 7 (.pointer (some ⟨W.heap.size,0,none⟩))) (W.alloc (.cells zeroA 25)):=by
 have h13:L 13=false:=by
  cases e:L 13 with
  |false=>rfl
  |true=>have:=C.c13 e;rw[h11]at this;cases this
 have hb:Below W.heap.size W (W.alloc (.cells zeroA 25)):=(Below.refl _ _).alloc (Nat.le_refl _) _
 have hz:(W.alloc (.cells zeroA 25)).heap.size=W.heap.size+1:=by simp
 have kp: ∀x',FrO W0 W L v g' x'→FrO W0 (W.alloc (.cells zeroA 25)) (add L 11) (setV v 7 (.pointer (some ⟨W.heap.size,0,none⟩))) g' x':=fun x' o=>o.keep (fun j hj b hb'=>hb.block b ((o.own.own j hj).lt b hb').2) hb.size (fun j hj b hb' _=>by
  rw[setV_self]
  intro e
  cases e
  have:=((o.own.own j hj).lt _ hb').2
  omega)
 refine⟨C.b.trans (hb.mono C.b.size),fun j hj j11 j13 hL=> ?_,fun hL=> ?_,fun hL=> ?_,fun hL=> ?_⟩
 ·rw[add_ne j11]at hL
  rw[setV_ne v _ (s:=7) (t:=frs j) (show frs j≠7 from frs_all j hj 11 (by omega) j11)]
  exact(C.val j hj j11 j13 hL).mono kp
 ·exact⟨W.heap.size,setV_self _ _ _,C.b.size,by omega,fun _=>heap_alloc_new W _⟩
 ·rw[add_ne (by omega),h13]at hL
  cases hL
 ·exact add_self _ _
theorem FrC.store(C:FrC W0 E fv g' L v W){c:Nat}(hc:v 7= .pointer (some ⟨c,0,none⟩)){y:Nat→Value}(hy:FrO W0 W L v g' y)(h11:L 11=true)(hn:L 13=false)(hz:W.heap[c]? =some (.cells zeroA 25 (0,0)))
  (hW: ∀b,b≠c→W'.heap[b]? =W.heap[b]?) (hs:W'.heap.size=W.heap.size) (hp:W'.heap[c]? =some (.cells (hpC g' y) 25 (0,0))) (hb:Below W0.heap.size W W'):FrC W0 E fv g' (add L 13) v W':=by
 have a11:add L 13 11=L 11:=add_ne (by omega)
 have kp: ∀x',FrO W0 W L v g' x'→FrO W0 W' (add L 13) v g' x':=fun x' o=>o.keep (fun j hj b hb'=>hW b (fun e=>by subst e;exact o.far j hj b hb' h11 hc)) (by omega) (fun j hj b hb' _=>o.far j hj b hb' h11)
 obtain⟨c',e1,e2,e3,_⟩:=C.new h11
 rw[hc]at e1
 cases e1
 refine⟨C.b.trans hb,fun j hj j11 j13 hL=> ?_,fun hL=> ?_,fun hL=> ?_,fun hL=>by rw[a11];exact h11⟩
 ·rw[add_ne j13]at hL
  exact(C.val j hj j11 j13 hL).mono kp
 ·refine⟨c,hc,e2,by omega,fun h0=> ?_⟩
  rw[add_self]at h0
  cases h0
 ·exact⟨c,y,hc,hp,kp y hy⟩
theorem FrC.e(C:FrC W0 E fv g' L v W)(i:Nat)(hi:i<6)(hL:L i=true):v (frs i)=E i:=by
 have:=C.val i (by omega) (by omega) (by omega) hL
 unfold FrV at this
 rwa[if_pos hi]at this
theorem FrC.t(C:FrC W0 E fv g' L v W)(i:Nat)(hi:i=6∨i=7)(hL:L i=true): ∃x',v (frs i)=frT fv g' x'∧FrO W0 W L v g' x':=by
 have:=C.val i (by omega) (by omega) (by omega) hL
 unfold FrV at this
 rwa[if_neg (by omega),if_pos hi]at this
theorem FrC.a(C:FrC W0 E fv g' L v W)(hL:L 9=true): ∃x',v 47= .agg (hpC g' x')∧FrO W0 W L v g' x':=by
 have:=C.val 9 (by omega) (by omega) (by omega) hL
 unfold FrV at this
 rwa[if_neg (by omega),if_neg (by omega),if_pos rfl]at this
theorem FrC.f(C:FrC W0 E fv g' L v W)(i:Nat)(hi:i=8∨i=12)(hL:L i=true):v (frs i)= .int .u64 fv:=by
 have:=C.val i (by omega) (by omega) (by omega) hL
 unfold FrV at this
 rwa[if_neg (by omega),if_neg (by omega),if_neg (by omega),if_pos hi]at this
theorem FrC.z(C:FrC W0 E fv g' L v W)(i:Nat)(hi:i=10∨i=14)(hL:L i=true):v (frs i)= .int .i64 0:=by
 have:=C.val i (by omega) (by omega) (by omega) hL
 unfold FrV at this
 rwa[if_neg (by omega),if_neg (by omega),if_neg (by omega),if_neg (by omega)]at this
theorem FrC.pe(C:FrC W0 E fv g' L v W)(i:Nat)(hi:i<6){s:Nat}(hs:s=frs i):FrC W0 E fv g' (add L i) (setV v s (E i)) W:=
 C.step (by omega) (by omega) (by omega) hs (Below.refl _ _) (by unfold FrV;rw[if_pos hi])
theorem FrC.pt(C:FrC W0 E fv g' L v W){x':Nat→Value}(o:FrO W0 W L v g' x'):FrC W0 E fv g' (add L 7) (setV v 38 (frT fv g' x')) W:=
 C.step (by omega) (by omega) (by omega) rfl (Below.refl _ _) (by unfold FrV;rw[if_neg (by omega),if_pos (.inr rfl)];exact⟨x',rfl,o⟩)
theorem FrC.pa(C:FrC W0 E fv g' L v W){x':Nat→Value}(o:FrO W0 W L v g' x'):FrC W0 E fv g' (add L 9) (setV v 47 (.agg (hpC g' x'))) W:=
 C.step (by omega) (by omega) (by omega) rfl (Below.refl _ _) (by unfold FrV;rw[if_neg (by omega),if_neg (by omega),if_pos rfl];exact⟨x',rfl,o⟩)
theorem FrC.pf(C:FrC W0 E fv g' L v W)(i:Nat)(hi:i=8∨i=12){s:Nat}(hs:s=frs i):FrC W0 E fv g' (add L i) (setV v s (.int .u64 fv)) W:=
 C.step (by omega) (by omega) (by omega) hs (Below.refl _ _) (by unfold FrV;rw[if_neg (by omega),if_neg (by omega),if_neg (by omega),if_pos hi])
theorem FrC.pz(C:FrC W0 E fv g' L v W)(i:Nat)(hi:i=10∨i=14){s:Nat}(hs:s=frs i):FrC W0 E fv g' (add L i) (setV v s (.int .i64 0)) W:=
 C.step (by omega) (by omega) (by omega) hs (Below.refl _ _) (by unfold FrV;rw[if_neg (by omega),if_neg (by omega),if_neg (by omega),if_neg (by omega)])
end
theorem rd_elt{W:World}{G:Nat→Prop}{l:List Int}{y:Value}(h:Rd W G (.sl (l.map vu)) y){k:Nat}{u:Int}(hu:l[k]? =some u): ∃b o cap,y= .slice (some ⟨b,o,none⟩) l.length cap∧W.cell? ⟨b,o+k,none⟩=some (.int .u64 u)∧G b:=by
 have hkl:=(List.getElem?_eq_some_iff.1 hu).1
 generalize hL:l.map vu=L at h
 cases h with
 |nil=>simp at hL;subst hL;simp at hkl
 |sl _ b o cap kk vs h1 h2 h3 h4 h5 h6=>
  have hlen:L.length=l.length:=by rw[←hL,List.length_map]
  have hkk:kk=1:=by
   have:=(h4 (vu u) (by rw[←hL];exact List.mem_map_of_mem (List.mem_of_getElem? hu))).1
   simpa using this.symm
  subst hkk
  refine⟨b,o,cap,by rw[hlen],?_,h3⟩
  rw[h5 k (by omega)]
  have hf:(flat L)[k]? =some (vu u):=by rw[←hL,flat_ints,List.getElem?_map,hu];rfl
  rw[rd_int_inv (h6 k _ hf)]
end Vm
end
section
namespace Vm
open Go Go.Proofs Go.RowKit
set_option maxHeartbeats 40000000
set_option maxRecDepth 100000
theorem Flip_ok(w:World)(G:Nat→Prop)(hG: ∀b,G b→b<w.heap.size)(h:Hp)(hh:h.ok)(src:Nat→Value)(hs: ∀j,j<5→Rd w G (.sl ((lsH h j).map vu)) (src j)){p:Pts}(r:Rt h p)(hc:h.cycle=false):
  Calls Try.prog 17 #[hpA h src] w (FlipPost w (flipH h,0)):=by
 have hR: ∀W,Below w.heap.size w W→Calls Try.prog 33 #[hpA h src] W fun e w'=>e= .returned (.bool (rightR h))∧Below W.heap.size W w':=fun W hb=>
  rightT_calls (w:=W) (G:=G) (x:=src) hh (fun b hb'=>Nat.lt_of_lt_of_le (hG b hb') hb.size) (fun j hj=>(hs j hj).keep (fun b hb'=>hb.block b (hG b hb')) fun _ q=>q)
 rw[r.right]at hR
 unfold hpA at hR
 rw[hc]at hR
 have HR:=Lib.hid hR
 have HS:=Lib.hid hs
 have HH:=Lib.hid hh
 have HRT:=Lib.hid r
 have HC:=Lib.hid hc
 have hto:h.to=0∨h.to=1:=by have:=rightL_iff.1 r.lay;exact this.2.2.2.2.1
 have wto:=wrap_i (1-h.to) (by omega) (by omega)
 clear hR hs hh r hto
 unfold hpA
 rw[hc]
 clear hc
 go_enter Try.func17,Try.ntmps17
 go_wp2
 refine scope_jumps 0 (fun a W=> ∃(c k:Nat) (x:Nat→Value),a.defers= []∧a.tmps.size=72∧a.tmps.getD 2 undef= .pointer (some ⟨w.heap.size+1,0,none⟩)∧a.tmps.getD 4 undef= .pointer (some ⟨c,0,none⟩)∧a.tmps.getD 5 undef= .int .i64 k∧k≤h.roots.length∧FlI w W c (flipL (flip0 h) k) x) (fun a _=>h.roots.length- (intOf (a.tmps.getD 5 undef)).toNat) rfl ?_ ?_
 ·rintro a W ⟨c,k,x,hd,hsz,h2,h4,h5,hk,HI⟩
  obtain⟨t,d⟩:=a
  simp only at hd hsz h2 h4 h5
  subst hd
  obtain⟨u,hu⟩: ∃u:Nat→Value,∀i,t.getD i undef=u i:=⟨fun i=>t.getD i undef,fun _=>rfl⟩
  have et:t= #[u 0,u 1,u 2,u 3,u 4,u 5,u 6,u 7,u 8,u 9,u 10,u 11,u 12,u 13,u 14,u 15,u 16,u 17,u 18,u 19,u 20,u 21,u 22,u 23,u 24,u 25,u 26,u 27,u 28,u 29,u 30,u 31,u 32,u 33,u 34,u 35,u 36,u 37,u 38,u 39,u 40,u 41,u 42,u 43,u 44,u 45,u 46,u 47,u 48,u 49,u 50,u 51,u 52,u 53,u 54,u 55,u 56,u 57,u 58,u 59,u 60,u 61,u 62,u 63,u 64,u 65,u 66,u 67,u 68,u 69,u 70,u 71]:=(act_map hsz).trans (by
   have e0:(fun i=>t.getD i undef)=u:=funext hu
   rw[e0]
   rfl)
  rw[hu]at h2 h4 h5
  rw[h2,h4,h5]at et
  clear hu hsz h2 h4 h5
  subst et
  have HIH:=Lib.hid HI
  clear HI
  by_cases hlt:k<h.roots.length
  ·have hto:h.to=0∨h.to=1:=by have:=rightL_iff.1 HRT.out.lay;exact this.2.2.2.2.1
   obtain⟨q,I⟩:=flip_upto HRT.out HC.out k (by omega)
   obtain⟨⟨fv,g',q',f⟩,_⟩:=flip_step HRT.out hlt I
   have gok:=flipL_ok HH.out hto k
   have hroot:(flipL (flip0 h) k).roots[k]? =some h.roots[k]:=by rw[I.rest k (Nat.le_refl _)];exact List.getElem?_eq_getElem hlt
   have hstep:flipL (flip0 h) (k+1)= {g' with roots:=g'.roots.set k fv}:=by
    show flipS (flipL (flip0 h) k) k=_
    unfold flipS
    rw[hroot,Option.getD_some,f.fwd]
   have hgl:(flipL (flip0 h) k).roots.length=h.roots.length:=I.len
   have er:g'.roots=(flipL (flip0 h) k).roots:=f.ext.roots
   have gok':g'.ok∧U64 fv:=by have:=fwd_ok gok (HH.out.rootsW _ (List.getElem_mem hlt));rw[f.fwd]at this;exact this
   have hfwd:=f.fwd
   have hu0:=HH.out.rootsW _ (List.getElem_mem hlt)
   clear I f
   generalize flipL (flip0 h) k=g at*
   generalize h.roots[k]=u0 at*
   obtain⟨gb,go,cap,hx4,hcell,hgG⟩:=rd_elt (HIH.out.rd 4 (by omega)) hroot
   rw[show(lsH g 4).length=g.roots.length from rfl,hgl]at hx4
   have hF: ∀W',Below W.heap.size W W'→Calls Try.prog 39 #[.agg #[.int .u64 g.base,.int .i64 g.cap,.int .i64 g.to,.bool g.cycle,.int .i64 g.scan,x 0,x 1,x 2,x 3,.slice (some ⟨gb,go,none⟩) h.roots.length cap],.int .u64 u0] W' (FwdPost W' (fv,g',0)):=fun W' hb=>by
    have:=Forward_walk W' (fun b=>w.heap.size+2≤b∧b<W.heap.size∧b≠c) (fun b hb'=>Nat.lt_of_lt_of_le hb'.2.1 hb.size) g gok x (fun j hj=>(HIH.out.rd j hj).keep (fun b hb'=>hb.block b hb'.2.1) fun _ q=>q) u0 hu0
    rw[hfwd]at this
    unfold hpA at this
    rw[hx4]at this
    exact this
   have HF:=Lib.hid hF
   have hnb:=HIH.out.nb
   unfold hpC at hnb
   rw[hx4]at hnb
   have yc: ∀j,W.cell? ⟨c,j,none⟩=(#[.int .u64 g.base,.int .i64 g.cap,.int .i64 g.to,.bool g.cycle,.int .i64 g.scan,x 0,x 1,x 2,x 3,.slice (some ⟨gb,go,none⟩) h.roots.length cap]:Array Value)[j]? :=fun j=>cell_of_row _ _ _ _ _ _ hnb
   have hcl:=heap_lt hnb
   have hltI:((k:Int) < (h.roots.length:Int))=True:=eq_true (by omega)
   have HM:=Lib.hid (And.intro hstep (And.intro er (And.intro gok' (And.intro hgG (And.intro hnb hgl)))))
   clear hF hnb hgl hx4 hstep er gok' hroot hfwd gok hgG
   go_upto_region 8 with fail
   refine region_putF [39,40,41,42,43,44,45,38,46,47,48,7,6,8] (FrC W (frE c g (fun j=>if j=4 then .slice (some ⟨gb,go,none⟩) h.roots.length cap else x j) k (.pointer (some ⟨gb,go+k,none⟩)) u0) fv g') follows (by kernel_rfl) ⟨u,by simp only[putF,putL,List.map_cons,List.map_nil,List.foldl_cons,List.foldl_nil,List.setIfInBounds_toArray,List.set_cons_succ,List.set_cons_zero],?_⟩ ?_ ?_
   ·exact⟨(Below.refl _ _).drew,fun i _ _ _ h=>(by cases h),fun h=>(by cases h),fun h=>(by cases h),fun h=>(by cases h)⟩
   ·intro L i o v W1 ho hi hj C
    have HX:=Lib.hid C
    have hz:W.heap.size≤W1.heap.size:=C.b.size
    have yd: ∀j,W1.cell? ⟨c,j,none⟩=(#[.int .u64 g.base,.int .i64 g.cap,.int .i64 g.to,.bool g.cycle,.int .i64 g.scan,x 0,x 1,x 2,x 3,.slice (some ⟨gb,go,none⟩) h.roots.length cap]:Array Value)[j]? :=fun j=>(C.b.cell (p:=⟨c,j,none⟩) hcl).trans (yc j)
    have hcell1:W1.cell? ⟨gb,go+k,none⟩=some (.int .u64 u0):=(C.b.cell (p:=⟨gb,go+k,none⟩) HM.out.2.2.2.1.2.1).trans hcell
    clear C
    have h15:i<15:=(Array.getElem?_eq_some_iff.1 ho).1
    simp only[putF,putL,List.map_cons,List.map_nil,List.foldl_cons,List.foldl_nil,List.setIfInBounds_toArray,List.set_cons_succ,List.set_cons_zero]
    have:i=0∨i=1∨i=2∨i=3∨i=4∨i=5∨i=6∨i=7∨i=8∨i=9∨i=10∨i=11∨i=12∨i=13∨i=14:=by omega
    rcases this with rfl|rfl|rfl|rfl|rfl|rfl|rfl|rfl|rfl|rfl|rfl|rfl|rfl|rfl|rfl
    ·cases ho
     go_wp2
     try simp only[QN]
     refine⟨setV v 39 (.agg #[.int .u64 g.base,.int .i64 g.cap,.int .i64 g.to,.bool g.cycle,.int .i64 g.scan,x 0,x 1,x 2,x 3,.slice (some ⟨gb,go,none⟩) h.roots.length cap]),rfl,?_⟩
     exact HX.out.pe 0 (by omega) rfl
    ·cases ho
     go_wp2
     try simp only[QN]
     refine⟨setV v 40 (.pointer (some ⟨c,9,none⟩)),rfl,?_⟩
     exact HX.out.pe 1 (by omega) rfl
    ·cases ho
     have e1:v 40= .pointer (some ⟨c,9,none⟩):=HX.out.e 1 (by omega) (hj 1 (by decide))
     have E1:=Lib.hid e1
     go_wp2
     try simp only[QN]
     refine⟨setV (setV v 40 (.pointer (some ⟨c,9,none⟩))) 41 (.slice (some ⟨gb,go,none⟩) h.roots.length cap),rfl,?_⟩
     rw[setV_same (v:=v) E1.out]
     exact HX.out.pe 2 (by omega) rfl
    ·cases ho
     go_wp2
     try simp only[QN]
     refine⟨setV v 42 (.int .i64 k),rfl,?_⟩
     exact HX.out.pe 3 (by omega) rfl
    ·cases ho
     have e2:v 41= .slice (some ⟨gb,go,none⟩) h.roots.length cap:=HX.out.e 2 (by omega) (hj 2 (by decide))
     have E2:=Lib.hid e2
     have e3:v 42= .int .i64 k:=HX.out.e 3 (by omega) (hj 3 (by decide))
     have E3:=Lib.hid e3
     go_wp2
     try simp only[QN]
     refine⟨setV (setV (setV v 41 (.slice (some ⟨gb,go,none⟩) h.roots.length cap)) 42 (.int .i64 k)) 43 (.pointer (some ⟨gb,go+k,none⟩)),rfl,?_⟩
     rw[setV_same (v:=v) E2.out,setV_same (v:=v) E3.out]
     exact HX.out.pe 4 (by omega) rfl
    ·cases ho
     have e4:v 43= .pointer (some ⟨gb,go+k,none⟩):=HX.out.e 4 (by omega) (hj 4 (by decide))
     have E4:=Lib.hid e4
     go_wp2
     try simp only[QN]
     refine⟨setV (setV v 43 (.pointer (some ⟨gb,go+k,none⟩))) 44 (.int .u64 u0),rfl,?_⟩
     rw[setV_same (v:=v) E4.out]
     exact HX.out.pe 5 (by omega) rfl
    ·cases ho
     have e0:v 39= .agg #[.int .u64 g.base,.int .i64 g.cap,.int .i64 g.to,.bool g.cycle,.int .i64 g.scan,x 0,x 1,x 2,x 3,.slice (some ⟨gb,go,none⟩) h.roots.length cap]:=HX.out.e 0 (by omega) (hj 0 (by decide))
     have E0:=Lib.hid e0
     have e5:v 44= .int .u64 u0:=HX.out.e 5 (by omega) (hj 5 (by decide))
     have E5:=Lib.hid e5
     go_wp2_with (go_at_call 39;refine(HF.out _ HX.out.b).mono ?_;rintro e w9 ⟨x9,rfl,hb9,ho9⟩;have HB9:=Lib.hid (And.intro hb9 ho9);clear hb9 ho9)
     try simp only[QN]
     refine⟨setV (setV (setV v 39 (.agg #[.int .u64 g.base,.int .i64 g.cap,.int .i64 g.to,.bool g.cycle,.int .i64 g.scan,x 0,x 1,x 2,x 3,.slice (some ⟨gb,go,none⟩) h.roots.length cap])) 44 (.int .u64 u0)) 45 (frT fv g' x9),rfl,?_⟩
     rw[setV_same (v:=v) E0.out,setV_same (v:=v) E5.out]
     exact HX.out.call HB9.out.1 HB9.out.2
    ·cases ho
     obtain⟨x9,e0,o9⟩:=HX.out.t 6 (.inl rfl) (hj 6 (by decide))
     have e0:v 45=frT fv g' x9:=e0
     have E0:=Lib.hid e0
     have O9:=Lib.hid o9
     clear o9
     go_wp2
     try simp only[QN]
     refine⟨setV (setV v 45 (frT fv g' x9)) 38 (frT fv g' x9),rfl,?_⟩
     rw[setV_same (v:=v) E0.out]
     exact HX.out.pt O9.out
    ·cases ho
     obtain⟨x9,e0,o9⟩:=HX.out.t 7 (.inr rfl) (hj 7 (by decide))
     have e0:v 38= .tuple #[.int .u64 fv,.agg (hpC g' x9),.int .i64 0]:=e0
     have E0:=Lib.hid e0
     have O9:=Lib.hid o9
     clear o9
     go_wp2
     try simp only[QN]
     refine⟨setV (setV v 38 (.tuple #[.int .u64 fv,.agg (hpC g' x9),.int .i64 0])) 46 (.int .u64 fv),rfl,?_⟩
     rw[setV_same (v:=v) E0.out]
     exact HX.out.pf 8 (.inl rfl) rfl
    ·cases ho
     obtain⟨x9,e0,o9⟩:=HX.out.t 7 (.inr rfl) (hj 7 (by decide))
     have e0:v 38= .tuple #[.int .u64 fv,.agg (hpC g' x9),.int .i64 0]:=e0
     have E0:=Lib.hid e0
     have O9:=Lib.hid o9
     clear o9
     go_wp2
     try simp only[QN]
     refine⟨setV (setV v 38 (.tuple #[.int .u64 fv,.agg (hpC g' x9),.int .i64 0])) 47 (.agg (hpC g' x9)),rfl,?_⟩
     rw[setV_same (v:=v) E0.out]
     exact HX.out.pa O9.out
    ·cases ho
     obtain⟨x9,e0,o9⟩:=HX.out.t 7 (.inr rfl) (hj 7 (by decide))
     have e0:v 38= .tuple #[.int .u64 fv,.agg (hpC g' x9),.int .i64 0]:=e0
     have E0:=Lib.hid e0
     have O9:=Lib.hid o9
     clear o9
     go_wp2
     try simp only[QN]
     refine⟨setV (setV v 38 (.tuple #[.int .u64 fv,.agg (hpC g' x9),.int .i64 0])) 48 (.int .i64 0),rfl,?_⟩
     rw[setV_same (v:=v) E0.out]
     exact HX.out.pz 10 (.inl rfl) rfl
    ·cases ho
     go_wp2
     try simp only[QN]
     exact⟨setV v 7 (.pointer (some ⟨W1.heap.size,0,none⟩)),rfl,HX.out.alloc hi⟩
    ·cases ho
     have e0:v 46= .int .u64 fv:=HX.out.f 8 (.inl rfl) (hj 8 (by decide))
     have E0:=Lib.hid e0
     go_wp2
     try simp only[QN]
     refine⟨setV (setV v 46 (.int .u64 fv)) 6 (.int .u64 fv),rfl,?_⟩
     rw[setV_same (v:=v) E0.out]
     exact HX.out.pf 12 (.inr rfl) rfl
    ·cases ho
     obtain⟨c7,e7,hc1,hc2,hc3⟩:=HX.out.new (hj 11 (by decide))
     obtain⟨x9,e47,o9⟩:=HX.out.a (hj 9 (by decide))
     have hc3:=hc3 hi
     have y4: ∀j,W1.cell? ⟨c7,j,none⟩=zeroA[j]? :=fun j=>cell_of_row _ _ _ _ _ _ hc3
     unfold zeroA at y4
     have y5: ∀j,W1.frozen? ⟨c7,j,none⟩=false:=fun j=>frz_of hc3
     have H3:=Lib.hid hc3
     have E7:=Lib.hid e7
     obtain⟨a0,q0,f0⟩:=own_form (o9.own.own 0 (by omega))
     obtain⟨a1,q1,f1⟩:=own_form (o9.own.own 1 (by omega))
     obtain⟨a2,q2,f2⟩:=own_form (o9.own.own 2 (by omega))
     obtain⟨a3,q3,f3⟩:=own_form (o9.own.own 3 (by omega))
     obtain⟨a4,q4,f4⟩:=own_form (o9.own.own 4 (by omega))
     have hfl:hpC g' x9= #[.int .u64 g'.base,.int .i64 g'.cap,.int .i64 g'.to,.bool g'.cycle,.int .i64 g'.scan,.slice a0 (lsH g' 0).length q0,.slice a1 (lsH g' 1).length q1,.slice a2 (lsH g' 2).length q2,.slice a3 (lsH g' 3).length q3,.slice a4 (lsH g' 4).length q4]:=by
      unfold hpC
      rw[f0,f1,f2,f3,f4]
     rw[hfl]at e47
     have HFL:=Lib.hid (And.intro hfl (And.intro e47 o9))
     clear hc3 o9 f0 f1 f2 f3 f4 hfl
     go_wp2
     try simp only[QN]
     refine⟨setV (setV v 7 (.pointer (some ⟨c7,0,none⟩))) 47 (.agg #[.int .u64 g'.base,.int .i64 g'.cap,.int .i64 g'.to,.bool g'.cycle,.int .i64 g'.scan,.slice a0 (lsH g' 0).length q0,.slice a1 (lsH g' 1).length q1,.slice a2 (lsH g' 2).length q2,.slice a3 (lsH g' 3).length q3,.slice a4 (lsH g' 4).length q4]),rfl,?_⟩
     rw[setV_same (v:=v) E7.out,setV_same (v:=v) HFL.out.2.1]
     refine HX.out.store E7.out HFL.out.2.2 (hj 11 (by decide)) hi H3.out (fun b hb=> ?_) ?_ ?_ ?_
     ·exact put10_other hb _ _ _ _ _ _ _ _ _ _
     ·simp[World.setCell]
     ·rw[HFL.out.1];exact put10_blk H3.out _ _ _ _ _ _ _ _ _ _
     ·exact put10_below (Below.refl _ _) hc1 _ _ _ _ _ _ _ _ _ _
    ·cases ho
     have e0:v 48= .int .i64 0:=HX.out.z 10 (.inl rfl) (hj 10 (by decide))
     have E0:=Lib.hid e0
     go_wp2
     try simp only[QN]
     refine⟨setV (setV v 48 (.int .i64 0)) 8 (.int .i64 0),rfl,?_⟩
     rw[setV_same (v:=v) E0.out]
     exact HX.out.pz 14 (.inr rfl) rfl
   ·intro L v W1 hL C
    have e6:v 6= .int .u64 fv:=C.f 12 (.inr rfl) (hL 12 (by decide))
    have e8:v 8= .int .i64 0:=C.z 14 (.inr rfl) (hL 14 (by decide))
    obtain⟨c7,x9,e7,hb7,o9⟩:=C.put (hL 13 (by decide))
    have hbel:=C.b
    have hsz:=hbel.size
    have hgl':g'.roots.length=h.roots.length:=by rw[HM.out.2.1,HM.out.2.2.2.2.2]
    obtain⟨a0,q0,f0⟩:=own_form (o9.own.own 0 (by omega))
    obtain⟨a1,q1,f1⟩:=own_form (o9.own.own 1 (by omega))
    obtain⟨a2,q2,f2⟩:=own_form (o9.own.own 2 (by omega))
    obtain⟨a3,q3,f3⟩:=own_form (o9.own.own 3 (by omega))
    obtain⟨a4,q4,f4⟩:=own_form (o9.own.own 4 (by omega))
    obtain⟨g4,rfl⟩:=own_addr (o9.own.own 4 (by omega)) f4 (by show 0<g'.roots.length;omega)
    rw[show(lsH g' 4).length=g'.roots.length from rfl,hgl']at f4
    have hfl:hpC g' x9= #[.int .u64 g'.base,.int .i64 g'.cap,.int .i64 g'.to,.bool g'.cycle,.int .i64 g'.scan,.slice a0 (lsH g' 0).length q0,.slice a1 (lsH g' 1).length q1,.slice a2 (lsH g' 2).length q2,.slice a3 (lsH g' 3).length q3,.slice (some ⟨g4,0,none⟩) h.roots.length q4]:=by
     unfold hpC
     rw[f0,f1,f2,f3,f4]
    rw[hfl]at hb7
    have hbc:=(hbel.block c hcl).trans HM.out.2.2.2.2.1
    have y7: ∀j,W1.cell? ⟨c7,j,none⟩=(#[.int .u64 g'.base,.int .i64 g'.cap,.int .i64 g'.to,.bool g'.cycle,.int .i64 g'.scan,.slice a0 (lsH g' 0).length q0,.slice a1 (lsH g' 1).length q1,.slice a2 (lsH g' 2).length q2,.slice a3 (lsH g' 3).length q3,.slice (some ⟨g4,0,none⟩) h.roots.length q4]:Array Value)[j]? :=fun j=>cell_of_row _ _ _ _ _ _ hb7
    have yd: ∀j,W1.cell? ⟨c,j,none⟩=(#[.int .u64 g.base,.int .i64 g.cap,.int .i64 g.to,.bool g.cycle,.int .i64 g.scan,x 0,x 1,x 2,x 3,.slice (some ⟨gb,go,none⟩) h.roots.length cap]:Array Value)[j]? :=fun j=>cell_of_row _ _ _ _ _ _ hbc
    have fd: ∀j,W1.frozen? ⟨c,j,none⟩=false:=fun j=>frz_of hbc
    have HO:=Lib.hid (And.intro o9.own (And.intro hbel (And.intro hfl (And.intro f4 (And.intro hgl' hbc)))))
    have hg4:W.heap.size≤g4∧g4<W1.heap.size:=(o9.own.own 4 (by omega)).lt g4 (by rw[f4];rfl)
    clear C o9 hbel hfl f0 f1 f2 f3 f4 hgl' hb7 hbc hL
    simp only[putF,putL,List.map_cons,List.map_nil,List.foldl_cons,List.foldl_nil,List.setIfInBounds_toArray,List.set_cons_succ,List.set_cons_zero]
    go_upto_region 12 with fail
    obtain⟨W2,hW2⟩: ∃W2,W2=((((((((((W1.setCell ⟨c,0,none⟩ (.int .u64 g'.base)).setCell ⟨c,1,none⟩ (.int .i64 g'.cap)).setCell ⟨c,2,none⟩ (.int .i64 g'.to)).setCell ⟨c,3,none⟩ (.bool g'.cycle)).setCell ⟨c,4,none⟩ (.int .i64 g'.scan)).setCell ⟨c,5,none⟩ (.slice a0 (lsH g' 0).length q0)).setCell ⟨c,6,none⟩ (.slice a1 (lsH g' 1).length q1)).setCell ⟨c,7,none⟩ (.slice a2 (lsH g' 2).length q2)).setCell ⟨c,8,none⟩ (.slice a3 (lsH g' 3).length q3)).setCell ⟨c,9,none⟩ (.slice (some ⟨g4,0,none⟩) h.roots.length q4)):=⟨_,rfl⟩
    rw[←hW2]
    have hb2:W2.heap[c]? =some (.cells #[.int .u64 g'.base,.int .i64 g'.cap,.int .i64 g'.to,.bool g'.cycle,.int .i64 g'.scan,.slice a0 (lsH g' 0).length q0,.slice a1 (lsH g' 1).length q1,.slice a2 (lsH g' 2).length q2,.slice a3 (lsH g' 3).length q3,.slice (some ⟨g4,0,none⟩) h.roots.length q4] 25 (0,0)):=by rw[hW2];exact putg_blk HO.out.2.2.2.2.2 _ _ _ _ _ _ _ _ _ _
    have hot: ∀b,b≠c→W2.heap[b]? =W1.heap[b]? :=fun b hb=>by rw[hW2];exact put10_other hb _ _ _ _ _ _ _ _ _ _
    have hz2:W2.heap.size=W1.heap.size:=by rw[hW2];simp[World.setCell]
    have hbl2:Below w.heap.size W1 W2:=by rw[hW2];exact put10_below (Below.refl _ _) (by have:=HIH.out.le;omega) _ _ _ _ _ _ _ _ _ _
    clear hW2
    have hown2:HOwn W.heap.size W2 g' x9:=⟨fun j hj=>owns_block (HO.out.1.own j hj) fun b hb=>hot b (by have:=((HO.out.1.own j hj).lt b hb).1;omega),HO.out.1.apart⟩
    have ho4:=hown2.own 4 (by omega)
    rw[HO.out.2.2.2.1,show(lsH g' 4).length=h.roots.length from HO.out.2.2.2.2.1]at ho4
    have y2: ∀j,W2.cell? ⟨c,j,none⟩=(#[.int .u64 g'.base,.int .i64 g'.cap,.int .i64 g'.to,.bool g'.cycle,.int .i64 g'.scan,.slice a0 (lsH g' 0).length q0,.slice a1 (lsH g' 1).length q1,.slice a2 (lsH g' 2).length q2,.slice a3 (lsH g' 3).length q3,.slice (some ⟨g4,0,none⟩) h.roots.length q4]:Array Value)[j]? :=fun j=>cell_of_row _ _ _ _ _ _ hb2
    obtain⟨z0,hz0⟩: ∃z0,g'.roots[k]? =some z0:=⟨_,List.getElem?_eq_getElem (by rw[HO.out.2.2.2.2.1];exact hlt)⟩
    have ec:W2.cell? ⟨g4,k,none⟩=some (.int .u64 z0):=by
     rw[ho4.cellAt k (by omega)]
     simp[nums,lsH,hz0]
    have ef:W2.frozen? ⟨g4,k,none⟩=false:=ho4.frozenAt k
    have wk:=wrap_i ((k:Int)+1) (by have:=HH.out.roots;omega) (by have:=HH.out.roots;omega)
    have HQ:=Lib.hid (And.intro hb2 (And.intro hot (And.intro hz2 (And.intro hbl2 (And.intro hown2 ho4)))))
    clear hb2 hot hz2 hbl2 hown2 ho4 y7 yd fd hz0
    go_wp2
    go_step3
    simp only[Exit.then,Exit.inBlock]
    refine⟨rfl,⟨c,k+1,x9,rfl,rfl,rfl,rfl,?_,by omega,?_⟩,?_⟩
    ·show Value.int .i64 ((k:Int)+1)=_
     congr 1
    ·rw[HM.out.1]
     obtain⟨hb2,hot,hz2,hbl2,hown2,ho4⟩:=HQ.out
     obtain⟨hs1,hs2⟩:=ho4.stored k (.int .u64 fv)
     have hg4c:g4≠c:=by omega
     have oth: ∀b,b≠g4→(W2.setCell ⟨g4,k,none⟩ (.int .u64 fv)).heap[b]? =W2.heap[b]? :=fun b hb=>Below.heap_setCell _ _ _ _ hb
     have hz3:(W2.setCell ⟨g4,k,none⟩ (.int .u64 fv)).heap.size=W2.heap.size:=by simp[World.setCell]
     have hle:=HIH.out.le
     have hrb:=HIH.out.rb
     refine⟨(HIH.out.below.trans ((HO.out.2.1.mono HIH.out.below.size).trans hbl2)).setCell (by show w.heap.size≤g4;have:=HIH.out.below.size;omega) _,?_,hle,?_,fun j hj=> ?_⟩
     ·have:=heap_lt hrb
      rw[oth _ (by omega),hot _ (by omega),HO.out.2.1.block _ this]
      exact hrb
     ·rw[oth c (by omega),hb2,←HO.out.2.2.1]
      rfl
     ·have hin: ∀b,W.heap.size≤b→b< (W2.setCell ⟨g4,k,none⟩ (.int .u64 fv)).heap.size→w.heap.size+2≤b∧b< (W2.setCell ⟨g4,k,none⟩ (.int .u64 fv)).heap.size∧b≠c:=fun b h1 h2=>⟨by omega,h2,by omega⟩
      by_cases e:j=4
      ·subst e
       have hn:nums .u64 (g'.roots.set k fv)=(nums .u64 (lsH g' 4)).set k (.int .u64 fv):=nums_set _ _ _ _
       rw[←hn]at hs1
       show Rd _ _ (.sl ((g'.roots.set k fv).map vu)) (x9 4)
       rw[HO.out.2.2.2.1]
       have hl4:h.roots.length=(g'.roots.set k fv).length:=by rw[List.length_set,HO.out.2.2.2.2.1]
       have hs3:(W2.setCell ⟨g4,k,none⟩ (.int .u64 fv)).ownsRow W.heap.size 22 1 (.slice (some ⟨g4,0,none⟩) h.roots.length q4) (g'.roots.set k fv).length (nums .u64 (g'.roots.set k fv)):=by rw[←hl4];exact hs1
       exact own_rd hs3 hin
      ·have hj4:lsH {g' with roots:=g'.roots.set k fv} j=lsH g' j:=by
        have:j=0∨j=1∨j=2∨j=3:=by omega
        rcases this with rfl|rfl|rfl|rfl<;>rfl
       rw[hj4]
       refine own_rd (owns_block (hown2.own j hj) fun b hb=>oth b fun e2=> ?_) hin
       exact hown2.apart j 4 (by omega) (by omega) b hb (by rw[e2,HO.out.2.2.2.1];rfl)
    ·simp[intOf]
     omega
  ·have hkn:k=h.roots.length:=by omega
   subst hkn
   obtain⟨q,I⟩:=flip_upto HRT.out HC.out h.roots.length (Nat.le_refl _)
   have hgl:(flipL (flip0 h) h.roots.length).roots.length=h.roots.length:=I.len
   clear I
   have hfl:flipH h=flipE (flipL (flip0 h) h.roots.length):=rfl
   rw[hfl]
   clear hfl
   generalize flipL (flip0 h) h.roots.length=g at*
   obtain⟨a0,q0,f0⟩:=Rd.slfT (HIH.out.rd 0 (by omega))
   obtain⟨a1,q1,f1⟩:=Rd.slfT (HIH.out.rd 1 (by omega))
   obtain⟨a2,q2,f2⟩:=Rd.slfT (HIH.out.rd 2 (by omega))
   obtain⟨a3,q3,f3⟩:=Rd.slfT (HIH.out.rd 3 (by omega))
   obtain⟨a4,q4,f4⟩:=Rd.slfT (HIH.out.rd 4 (by omega))
   rw[List.length_map,show(lsH g 0).length=g.low.length from rfl]at f0
   rw[List.length_map,show(lsH g 1).length=g.high.length from rfl]at f1
   rw[List.length_map,show(lsH g 2).length=g.old.length from rfl]at f2
   rw[List.length_map,show(lsH g 3).length=g.far.length from rfl]at f3
   rw[List.length_map,show(lsH g 4).length=g.roots.length from rfl,hgl]at f4
   have hnb:=HIH.out.nb
   have hpc:hpC g x= #[.int .u64 g.base,.int .i64 g.cap,.int .i64 g.to,.bool g.cycle,.int .i64 g.scan,.slice a0 g.low.length q0,.slice a1 g.high.length q1,.slice a2 g.old.length q2,.slice a3 g.far.length q3,.slice a4 h.roots.length q4]:=by
    unfold hpC
    rw[f0,f1,f2,f3,f4]
   rw[hpc]at hnb
   have hrb:=HIH.out.rb
   have hle:=HIH.out.le
   have hcl:=heap_lt hnb
   have yc: ∀j,W.cell? ⟨c,j,none⟩=(#[.int .u64 g.base,.int .i64 g.cap,.int .i64 g.to,.bool g.cycle,.int .i64 g.scan,.slice a0 g.low.length q0,.slice a1 g.high.length q1,.slice a2 g.old.length q2,.slice a3 g.far.length q3,.slice a4 h.roots.length q4]:Array Value)[j]? :=fun j=>cell_of_row _ _ _ _ _ _ hnb
   have fc: ∀j,W.frozen? ⟨c,j,none⟩=false:=fun j=>frz_of hnb
   have yz: ∀j,W.cell? ⟨w.heap.size+1,j,none⟩=zeroA[j]? :=fun j=>cell_of_row _ _ _ _ _ _ hrb
   unfold zeroA at yz
   have fz: ∀j,W.frozen? ⟨w.heap.size+1,j,none⟩=false:=fun j=>frz_of hrb
   have hne: ¬w.heap.size+1=c:=by omega
   have hne2: ¬c=w.heap.size+1:=by omega
   have HP:=Lib.hid (And.intro hpc (And.intro hnb (And.intro hrb (And.intro f0 (And.intro f1 (And.intro f2 (And.intro f3 f4)))))))
   clear hpc hnb hrb f0 f1 f2 f3 f4 hgl
   by_cases hlow:0<g.low.length
   ·have hlowI:((0:Int) < (g.low.length:Int))=True:=eq_true (by omega)
    go_wp2
    simp only[Exit.jump]
    obtain⟨W3,hW3⟩: ∃W3,W3=W.setCell ⟨c,3,none⟩ (.bool true):=⟨_,rfl⟩
    rw[←hW3]
    have oth: ∀b,b≠c→W3.heap[b]? =W.heap[b]? :=fun b hb=>by
     rw[hW3]
     simp[World.setCell,Array.getElem?_modify,Ne.symm hb]
    have hz3:W3.heap.size=W.heap.size:=by rw[hW3];simp[World.setCell]
    have bel3:Below w.heap.size W W3:=by
     rw[hW3]
     exact(Below.refl _ _).setCell (by show w.heap.size≤c;omega) _
    have y:=put10_cells ((oth _ hne).trans HP.out.2.2.1) (.int .u64 g.base) (.int .i64 g.cap) (.int .i64 g.to) (.bool true) (.int .i64 g.scan) (.slice a0 g.low.length q0) (.slice a1 g.high.length q1) (.slice a2 g.old.length q2) (.slice a3 g.far.length q3) (.slice a4 h.roots.length q4)
    have hfe:flipE g= {g with cycle:=true}:=if_pos hlow
    rw[hfe]
    clear hW3
    refine bodyPost_ret (v:= .tuple #[.agg #[.int .u64 g.base,.int .i64 g.cap,.int .i64 g.to,.bool true,.int .i64 g.scan,.slice a0 g.low.length q0,.slice a1 g.high.length q1,.slice a2 g.old.length q2,.slice a3 g.far.length q3,.slice a4 h.roots.length q4],.int .i64 0]) ?_ rfl ?_
    ·simp[results,Try.results17,go_sem,y]
    ·refine⟨x,?_,put10_below (HIH.out.below.trans bel3) (by omega) _ _ _ _ _ _ _ _ _ _,fun j hj=> ?_⟩
     ·have e0:=HP.out.2.2.2.1
      have e1:=HP.out.2.2.2.2.1
      have e2:=HP.out.2.2.2.2.2.1
      have e3:=HP.out.2.2.2.2.2.2.1
      have e4:=HP.out.2.2.2.2.2.2.2
      rw[←e0,←e1,←e4,←e2,←e3]
      rfl
     ·have hl:lsH {g with cycle:=true} j=lsH g j:=rfl
      rw[hl]
      exact(HIH.out.rd j hj).keep (fun b hb=>(put10_other (by have:=hb.1;omega) _ _ _ _ _ _ _ _ _ _).trans (oth b hb.2.2)) fun b hb=>⟨by have:=hb.1;omega,by simp[World.setCell,hz3];exact hb.2.1⟩
   ·have hlowI:((0:Int) < (g.low.length:Int))=False:=eq_false (by omega)
    go_wp2
    simp only[Exit.jump]
    obtain⟨W3,hW3⟩: ∃W3,W3=((W.setCell ⟨c,3,none⟩ (.bool false)).setCell ⟨c,7,none⟩ (.slice none 0 0)).setCell ⟨c,8,none⟩ (.slice none 0 0):=⟨_,rfl⟩
    rw[←hW3]
    have oth: ∀b,b≠c→W3.heap[b]? =W.heap[b]? :=fun b hb=>by
     rw[hW3]
     simp[World.setCell,Array.getElem?_modify,Ne.symm hb]
    have hz3:W3.heap.size=W.heap.size:=by rw[hW3];simp[World.setCell]
    have bel3:Below w.heap.size W W3:=by
     rw[hW3]
     exact(((Below.refl _ _).setCell (by show w.heap.size≤c;omega) _).setCell (by show w.heap.size≤c;omega) _).setCell (by show w.heap.size≤c;omega) _
    have y:=put10_cells ((oth _ hne).trans HP.out.2.2.1) (.int .u64 g.base) (.int .i64 g.cap) (.int .i64 g.to) (.bool false) (.int .i64 g.scan) (.slice a0 g.low.length q0) (.slice a1 g.high.length q1) (.slice none 0 0) (.slice none 0 0) (.slice a4 h.roots.length q4)
    have hfe:flipE g= {g with cycle:=false,old:= [],far:= []}:=if_neg hlow
    rw[hfe]
    clear hW3
    refine bodyPost_ret (v:= .tuple #[.agg #[.int .u64 g.base,.int .i64 g.cap,.int .i64 g.to,.bool false,.int .i64 g.scan,.slice a0 g.low.length q0,.slice a1 g.high.length q1,.slice none 0 0,.slice none 0 0,.slice a4 h.roots.length q4],.int .i64 0]) ?_ rfl ?_
    ·simp[results,Try.results17,go_sem,y]
    ·refine⟨(fun j=>if j=2∨j=3 then .slice none 0 0 else x j),?_,put10_below (HIH.out.below.trans bel3) (by omega) _ _ _ _ _ _ _ _ _ _,fun j hj=> ?_⟩
     ·have e0:=HP.out.2.2.2.1
      have e1:=HP.out.2.2.2.2.1
      have e2:=HP.out.2.2.2.2.2.1
      have e3:=HP.out.2.2.2.2.2.2.1
      have e4:=HP.out.2.2.2.2.2.2.2
      rw[←e0,←e1,←e4]
      rfl
     ·have:j=2∨j=3∨(j≠2∧j≠3):=by omega
      rcases this with rfl|rfl| ⟨h2,h3⟩
      ·exact .nil _ _ (by unfold maxLen;omega)
      ·exact .nil _ _ (by unfold maxLen;omega)
      ·have hl:lsH {g with cycle:=false,old:= [],far:= []} j=lsH g j:=by
        have:j=0∨j=1∨j=4:=by omega
        rcases this with rfl|rfl|rfl<;>rfl
       rw[hl]
       simp only[h2,h3,or_self,if_false]
       exact(HIH.out.rd j hj).keep (fun b hb=>(put10_other (by have:=hb.1;omega) _ _ _ _ _ _ _ _ _ _).trans (oth b hb.2.2)) fun b hb=>⟨by have:=hb.1;omega,by simp[World.setCell,hz3];exact hb.2.1⟩
 intro hrest
 go_upto_region 5 with (first
  | (go_at_call 33;refine(HR.out _ ?_).mono ?_;rotate_left;rintro e wa ⟨rfl,hba⟩
     have bA:wa.heap[w.heap.size]? =some (.cells #[.int .u64 h.base,.int .i64 h.cap,.int .i64 h.to,.bool false,.int .i64 h.scan,src 0,src 1,src 2,src 3,src 4] 25 (0,0)):=(hba.block _ (by simp;omega)).trans ((Below.heap_alloc _ _ _ (by simp)).trans (heap_alloc_new w _))
     have bZ:wa.heap[w.heap.size+1]? =some (.cells zeroA 25 (0,0)):=(hba.block _ (by simp)).trans (zero_new w _)
     have ya: ∀j,wa.cell? ⟨w.heap.size,j,none⟩=(#[.int .u64 h.base,.int .i64 h.cap,.int .i64 h.to,.bool false,.int .i64 h.scan,src 0,src 1,src 2,src 3,src 4]:Array Value)[j]? :=fun j=>cell_of_row _ _ _ _ _ _ bA
     have HBA:=Lib.hid hba
     have HBZ:=Lib.hid (And.intro bA bZ)
     clear hba bA bZ))
 case refine_1=>exact((Below.refl _ w).alloc (Nat.le_refl _) _).alloc (by simp) _
 have hba:Below w.heap.size w wa:=Below.trans (((Below.refl _ w).alloc (Nat.le_refl _) _).alloc (by simp) _) (HBA.out.mono (by simp;omega))
 have hsa:w.heap.size+2≤wa.heap.size:=by have:=HBA.out.size;simp at this;omega
 have HWA:=Lib.hid hba
 clear hba HBA
 have HSW:=Lib.hid (fun(W:World) (hW:Below wa.heap.size wa W) (j:Nat) (hj:j<5)=>(HS.out j hj).keep (fun b hb'=>(hW.block b (by have:=hG b hb';omega)).trans (HWA.out.block b (hG b hb'))) fun _ q=>q)
 refine region_putF [16,17,18,19,20,21,22,23,24,25,26,27,28,29,30,31,32,4] (FlC wa w.heap.size h src) follows (by kernel_rfl) ⟨fun _=>undef,by simp only[putF,putL,List.map_cons,List.map_nil,List.foldl_cons,List.foldl_nil,List.setIfInBounds_toArray,List.set_cons_succ,List.set_cons_zero],?_⟩ ?_ ?_
 ·exact⟨(Below.refl _ _).drew,fun i _ h=>(by cases h),fun i _ h=>(by cases h),fun h=>(by cases h),fun h=>(by cases h),fun h=>(by cases h),fun h=>(by cases h)⟩
 ·intro L i o v W ho hi hj C
  have HC:=Lib.hid C
  have hz:wa.heap.size≤W.heap.size:=C.b.size
  have ya: ∀j,W.cell? ⟨w.heap.size,j,none⟩=(#[.int .u64 h.base,.int .i64 h.cap,.int .i64 h.to,.bool false,.int .i64 h.scan,src 0,src 1,src 2,src 3,src 4]:Array Value)[j]? :=fun j=>(C.b.cell (p:=⟨w.heap.size,j,none⟩) (by show w.heap.size<wa.heap.size;omega)).trans (ya j)
  clear C
  have h19:i<19:=(Array.getElem?_eq_some_iff.1 ho).1
  simp only[putF,putL,List.map_cons,List.map_nil,List.foldl_cons,List.foldl_nil,List.setIfInBounds_toArray,List.set_cons_succ,List.set_cons_zero]
  have:i=0∨i=1∨i=2∨i=3∨i=4∨i=5∨i=6∨i=7∨i=8∨i=9∨i=10∨i=11∨i=12∨i=13∨i=14∨i=15∨i=16∨i=17∨i=18:=by omega
  rcases this with rfl|rfl|rfl|rfl|rfl|rfl|rfl|rfl|rfl|rfl|rfl|rfl|rfl|rfl|rfl|rfl|rfl|rfl|rfl
  ·cases ho
   go_wp2
   try simp only[QN]
   exact⟨setV v 16 (flEx w.heap.size h src 0),rfl,HC.out.pure (by unfold flS;omega) rfl rfl⟩
  ·cases ho
   have e0:=HC.out.eq 0 (by unfold flS;omega) (hj 0 (by decide))
   have E0:=Lib.hid e0
   simp only[flEx]at e0
   go_wp2
   try simp only[QN]
   exact⟨setV (setV v 16 (flEx w.heap.size h src 0)) 17 (flEx w.heap.size h src 1),rfl,(by rw[setV_same E0.out];exact HC.out.pure (by unfold flS;omega) rfl rfl)⟩
  ·cases ho
   go_wp2
   try simp only[QN]
   exact⟨setV v 18 (flEx w.heap.size h src 2),rfl,HC.out.pure (by unfold flS;omega) rfl rfl⟩
  ·cases ho
   have e0:=HC.out.eq 2 (by unfold flS;omega) (hj 2 (by decide))
   have E0:=Lib.hid e0
   simp only[flEx]at e0
   go_wp2
   try simp only[QN]
   exact⟨setV (setV v 18 (flEx w.heap.size h src 2)) 19 (flEx w.heap.size h src 3),rfl,(by rw[setV_same E0.out];exact HC.out.pure (by unfold flS;omega) rfl rfl)⟩
  ·cases ho
   go_wp2
   try simp only[QN]
   exact⟨setV v 20 (flEx w.heap.size h src 4),rfl,HC.out.pure (by unfold flS;omega) rfl rfl⟩
  ·cases ho
   have e0:=HC.out.eq 4 (by unfold flS;omega) (hj 4 (by decide))
   have E0:=Lib.hid e0
   simp only[flEx]at e0
   go_wp2
   try simp only[QN]
   exact⟨setV (setV v 20 (flEx w.heap.size h src 4)) 21 (flEx w.heap.size h src 5),rfl,(by rw[setV_same E0.out];exact HC.out.pure (by unfold flS;omega) rfl rfl)⟩
  ·cases ho
   have e0:=HC.out.eq 5 (by unfold flS;omega) (hj 5 (by decide))
   have E0:=Lib.hid e0
   simp only[flEx]at e0
   go_wp2
   try simp only[QN]
   exact⟨setV (setV v 21 (flEx w.heap.size h src 5)) 22 (flEx w.heap.size h src 6),rfl,(by rw[setV_same E0.out];exact HC.out.pure (by unfold flS;omega) rfl rfl)⟩
  ·cases ho
   go_wp2
   try simp only[QN]
   exact⟨setV v 23 (flEx w.heap.size h src 7),rfl,HC.out.pure (by unfold flS;omega) rfl rfl⟩
  ·cases ho
   have e0:=HC.out.eq 7 (by unfold flS;omega) (hj 7 (by decide))
   have E0:=Lib.hid e0
   simp only[flEx]at e0
   go_wp2
   try simp only[QN]
   exact⟨setV (setV v 23 (flEx w.heap.size h src 7)) 24 (flEx w.heap.size h src 8),rfl,(by rw[setV_same E0.out];exact HC.out.pure (by unfold flS;omega) rfl rfl)⟩
  ·cases ho
   have e0:=HC.out.eq 8 (by unfold flS;omega) (hj 8 (by decide))
   have E0:=Lib.hid e0
   simp only[flEx]at e0
   go_wp2_with (go_at_call 38;refine(fresh_calls _ (l:=h.low) (G:=G) HH.out.low (HSW.out _ HC.out.b 0 (by omega))).mono ?_;rintro e w9 ⟨y,rfl,hb9,hr9⟩;have HB9:=Lib.hid (And.intro hb9 hr9);clear hb9 hr9)
   try simp only[QN]
   exact⟨setV (setV v 24 (flEx w.heap.size h src 8)) 25 y,rfl,(by rw[setV_same E0.out];exact HC.out.call (by unfold flR;omega) rfl HB9.out.1 HB9.out.2)⟩
  ·cases ho
   go_wp2
   try simp only[QN]
   exact⟨setV v 26 (flEx w.heap.size h src 10),rfl,HC.out.pure (by unfold flS;omega) rfl rfl⟩
  ·cases ho
   have e0:=HC.out.eq 10 (by unfold flS;omega) (hj 10 (by decide))
   have E0:=Lib.hid e0
   simp only[flEx]at e0
   go_wp2
   try simp only[QN]
   exact⟨setV (setV v 26 (flEx w.heap.size h src 10)) 27 (flEx w.heap.size h src 11),rfl,(by rw[setV_same E0.out];exact HC.out.pure (by unfold flS;omega) rfl rfl)⟩
  ·cases ho
   have e0:=HC.out.eq 11 (by unfold flS;omega) (hj 11 (by decide))
   have E0:=Lib.hid e0
   simp only[flEx]at e0
   go_wp2_with (go_at_call 38;refine(fresh_calls _ (l:=h.high) (G:=G) HH.out.high (HSW.out _ HC.out.b 1 (by omega))).mono ?_;rintro e w9 ⟨y,rfl,hb9,hr9⟩;have HB9:=Lib.hid (And.intro hb9 hr9);clear hb9 hr9)
   try simp only[QN]
   exact⟨setV (setV v 27 (flEx w.heap.size h src 11)) 28 y,rfl,(by rw[setV_same E0.out];exact HC.out.call (by unfold flR;omega) rfl HB9.out.1 HB9.out.2)⟩
  ·cases ho
   go_wp2
   try simp only[QN]
   exact⟨setV v 29 (flEx w.heap.size h src 13),rfl,HC.out.pure (by unfold flS;omega) rfl rfl⟩
  ·cases ho
   have e0:=HC.out.eq 13 (by unfold flS;omega) (hj 13 (by decide))
   have E0:=Lib.hid e0
   simp only[flEx]at e0
   go_wp2
   try simp only[QN]
   exact⟨setV (setV v 29 (flEx w.heap.size h src 13)) 30 (flEx w.heap.size h src 14),rfl,(by rw[setV_same E0.out];exact HC.out.pure (by unfold flS;omega) rfl rfl)⟩
  ·cases ho
   have e0:=HC.out.eq 14 (by unfold flS;omega) (hj 14 (by decide))
   have E0:=Lib.hid e0
   simp only[flEx]at e0
   go_wp2_with (go_at_call 38;refine(fresh_calls _ (l:=h.roots) (G:=G) HH.out.roots (HSW.out _ HC.out.b 4 (by omega))).mono ?_;rintro e w9 ⟨y,rfl,hb9,hr9⟩;have HB9:=Lib.hid (And.intro hb9 hr9);clear hb9 hr9)
   try simp only[QN]
   exact⟨setV (setV v 30 (flEx w.heap.size h src 14)) 31 y,rfl,(by rw[setV_same E0.out];exact HC.out.call (by unfold flR;omega) rfl HB9.out.1 HB9.out.2)⟩
  ·cases ho
   have e0:=HC.out.eq 1 (by unfold flS;omega) (hj 1 (by decide))
   have E0:=Lib.hid e0
   simp only[flEx]at e0
   have e1:=HC.out.eq 3 (by unfold flS;omega) (hj 3 (by decide))
   have E1:=Lib.hid e1
   simp only[flEx]at e1
   have e2:=HC.out.eq 6 (by unfold flS;omega) (hj 6 (by decide))
   have E2:=Lib.hid e2
   simp only[flEx]at e2
   obtain⟨a9,c9,f9⟩:=Rd.slfT (HC.out.rd 9 (by unfold flR;omega) (hj 9 (by decide)))
   rw[show(List.map vu (flX h 9)).length=h.low.length from List.length_map _]at f9
   simp only[Nat.reduceAdd]at f9
   have F9:=Lib.hid f9
   obtain⟨a12,c12,f12⟩:=Rd.slfT (HC.out.rd 12 (by unfold flR;omega) (hj 12 (by decide)))
   rw[show(List.map vu (flX h 12)).length=h.high.length from List.length_map _]at f12
   simp only[Nat.reduceAdd]at f12
   have F12:=Lib.hid f12
   obtain⟨a15,c15,f15⟩:=Rd.slfT (HC.out.rd 15 (by unfold flR;omega) (hj 15 (by decide)))
   rw[show(List.map vu (flX h 15)).length=h.roots.length from List.length_map _]at f15
   simp only[Nat.reduceAdd]at f15
   have F15:=Lib.hid f15
   go_wp2
   try simp only[QN]
   refine⟨setV (setV (setV (setV (setV (setV (setV v 17 (flEx w.heap.size h src 1)) 19 (flEx w.heap.size h src 3)) 22 (flEx w.heap.size h src 6)) 25 (.slice a9 h.low.length c9)) 28 (.slice a12 h.high.length c12)) 31 (.slice a15 h.roots.length c15)) 32 (.agg #[.int .u64 h.base,.int .i64 h.cap,.int .i64 (1-h.to),.bool false,.int .i64 0,.slice none 0 0,.slice none 0 0,.slice a9 h.low.length c9,.slice a12 h.high.length c12,.slice a15 h.roots.length c15]),rfl,?_⟩
   rw[setV_same (v:=v) E0.out,setV_same (v:=v) E1.out,setV_same (v:=v) E2.out,setV_same (v:=v) F9.out,setV_same (v:=v) F12.out,setV_same (v:=v) F15.out]
   have hx:((.agg #[.int .u64 h.base,.int .i64 h.cap,.int .i64 (1-h.to),.bool false,.int .i64 0,.slice none 0 0,.slice none 0 0,.slice a9 h.low.length c9,.slice a12 h.high.length c12,.slice a15 h.roots.length c15]):Value)= .agg (flA h fun i=>v (16+i)):=by
    unfold flA
    simp only[Nat.reduceAdd]
    rw[F9.out,F12.out,F15.out]
   rw[hx]
   exact HC.out.built (hj 9 (by decide)) (hj 12 (by decide)) (hj 15 (by decide))
  ·cases ho
   go_wp2
   try simp only[QN]
   exact⟨setV v 4 (.pointer (some ⟨W.heap.size,0,none⟩)),rfl,HC.out.alloc hi⟩
  ·cases ho
   obtain⟨c,e4,hc1,hc2,hc3⟩:=HC.out.new (hj 17 (by decide))
   obtain⟨y,e32,hy⟩:=HC.out.agg (hj 16 (by decide))
   have hc3:=hc3 hi
   have y4: ∀j,W.cell? ⟨c,j,none⟩=zeroA[j]? :=fun j=>cell_of_row _ _ _ _ _ _ hc3
   unfold zeroA at y4
   have y5: ∀j,W.frozen? ⟨c,j,none⟩=false:=fun j=>frz_of hc3
   have H3:=Lib.hid hc3
   have E4:=Lib.hid e4
   have E32:=Lib.hid e32
   obtain⟨a9,c9,f9⟩:=Rd.slfT (hy 9 (by unfold flR;omega))
   obtain⟨a12,c12,f12⟩:=Rd.slfT (hy 12 (by unfold flR;omega))
   obtain⟨a15,c15,f15⟩:=Rd.slfT (hy 15 (by unfold flR;omega))
   rw[show(List.map vu (flX h 9)).length=h.low.length from List.length_map _]at f9
   rw[show(List.map vu (flX h 12)).length=h.high.length from List.length_map _]at f12
   rw[show(List.map vu (flX h 15)).length=h.roots.length from List.length_map _]at f15
   have hfl:flA h y= #[.int .u64 h.base,.int .i64 h.cap,.int .i64 (1-h.to),.bool false,.int .i64 0,.slice none 0 0,.slice none 0 0,.slice a9 h.low.length c9,.slice a12 h.high.length c12,.slice a15 h.roots.length c15]:=by
    unfold flA
    rw[f9,f12,f15]
   rw[hfl]at e32
   have HFL:=Lib.hid (And.intro hfl e32)
   clear hc3 hy f9 f12 f15 hfl
   go_wp2
   try simp only[QN]
   refine⟨setV (setV v 4 (.pointer (some ⟨c,0,none⟩))) 32 (.agg #[.int .u64 h.base,.int .i64 h.cap,.int .i64 (1-h.to),.bool false,.int .i64 0,.slice none 0 0,.slice none 0 0,.slice a9 h.low.length c9,.slice a12 h.high.length c12,.slice a15 h.roots.length c15]),rfl,?_⟩
   rw[setV_same (v:=v) E4.out,setV_same HFL.out.2]
   refine HC.out.store E4.out E32.out (hj 17 (by decide)) (hj 16 (by decide)) hi H3.out (fun b hb=> ?_) ?_ ?_ ?_
   ·exact put10_other hb _ _ _ _ _ _ _ _ _ _
   ·simp[World.setCell]
   ·rw[HFL.out.1];exact put10_blk H3.out _ _ _ _ _ _ _ _ _ _
   ·exact put10_below (Below.refl _ _) hc1 _ _ _ _ _ _ _ _ _ _
 ·intro L v W hL C
  obtain⟨c,y,e4,hc1,hcb,hy⟩:=C.put (hL 18 (by decide))
  have HCB:=Lib.hid C.b
  have HY:=Lib.hid (And.intro hcb hy)
  have HRS:=Lib.hid hrest
  have H17:=Lib.hid (And.intro (hL 17 (by decide)) e4)
  clear C hcb hy hL hrest
  simp only[putF,putL,List.map_cons,List.map_nil,List.foldl_cons,List.foldl_nil,List.setIfInBounds_toArray,List.set_cons_succ,List.set_cons_zero]
  go_wp2
  go_step3
  simp only[Exit.then]
  rename_i hKK
  refine hKK _ _ (HRS.out _ _ ?_)
  refine⟨c,0,fun j=>if j=2 then y 9 else if j=3 then y 12 else if j=4 then y 15 else .slice none 0 0,rfl,rfl,rfl,H17.out.2,rfl,Nat.zero_le _,?_⟩
  have hsz:=HCB.out.size
  have hG: ∀b,flG wa W L v b→w.heap.size+2≤b∧b<W.heap.size∧b≠c:=fun b hb=>⟨by have:=hb.1;omega,hb.2.1,fun e=>hb.2.2 H17.out.1 (by rw[e];exact H17.out.2)⟩
  refine⟨HWA.out.trans (HCB.out.mono (by omega)),(HCB.out.block _ (by omega)).trans HBZ.out.2,by omega,HY.out.1,fun j hj=> ?_⟩
  have:j=0∨j=1∨j=2∨j=3∨j=4:=by omega
  rcases this with rfl|rfl|rfl|rfl|rfl
  ·exact .nil _ _ (by unfold maxLen;omega)
  ·exact .nil _ _ (by unfold maxLen;omega)
  ·exact(HY.out.2 9 (by unfold flR;omega)).mono hG
  ·exact(HY.out.2 12 (by unfold flR;omega)).mono hG
  ·exact(HY.out.2 15 (by unfold flR;omega)).mono hG
end Vm
end
section
namespace Vm
open Go
open Go.Proofs
set_option maxRecDepth 100000
def p3:Fn:=⟨24,[0,1,2,3,4,5,6,10,11,12,13,25,14,15,67,66,68,17,65,18,19,20,21,97],
(.seq
(.reg ⟨[],[],[(5,.m [(.fld (.sz (.s 0) 10) 0),(.fld (.sz (.s 0) 10) 1),(.fld (.sz (.s 0) 10) 2),(.fld (.sz (.s 0) 10) 3),(.fld (.sz (.s 0) 10) 4),(.fld (.sz (.s 0) 10) 5),(.fld (.sz (.s 0) 10) 6),(.fld (.sz (.s 0) 10) 7),(.fld (.sz (.s 0) 10) 8),(.fld (.sz (.s 0) 10) 9)]),(6,.m [(.fld (.sz (.s 1) 7) 0),(.fld (.sz (.s 1) 7) 1),(.fld (.sz (.s 1) 7) 2),(.fld (.sz (.s 1) 7) 3),(.fld (.sz (.s 1) 7) 4),(.fld (.sz (.s 1) 7) 5),(.fld (.sz (.s 1) 7) 6)]),(7,.v (.c (.bool false)))]⟩)
(.seq
(.reg ⟨[.call 24 [] (.id 11) false false []],[],[(8,.v (.s 24))]⟩)
(.seq
(.reg ⟨[],[],[(9,.m [(.fld (.mm 5 0 10) 0),(.fld (.mm 5 0 10) 1),(.fld (.mm 5 0 10) 2),(.fld (.mm 5 0 10) 3),(.fld (.mm 5 0 10) 4),(.fld (.mm 5 0 10) 5),(.fld (.mm 5 0 10) 6),(.fld (.mm 5 0 10) 7),(.fld (.mm 5 0 10) 8),(.fld (.mm 5 0 10) 9)])]⟩)
(.seq
(.seq
(.reg ⟨[],[],[(10,.v (.c (.int .i64 (1))))]⟩)
(.block 0
 (.loop [0,1,2,3,4,5,6,7,8,9,10]
  (.seq
  (.seq
  (.reg ⟨[],[],[(11,.v (.bin .leq (.s 10) (.c (.int .i64 (4)))))]⟩)
  (.cond (.s 11)
   .skip
   (.exit 0)))
  (.seq
  (.block 1
   (.reg ⟨[.call 25 [] (.id 13) false false [(.mm 9 0 10),(.s 10)],.call 26 [] (.id 13) false false [(.mm 9 0 10),(.s 10)],.call 27 [] (.id 12) false false [(.mm 9 0 10),(.s 10),(.slc (.s 25) (.c (.int .i64 (0))) (.mn (.len (.s 26)) (.c (.int .i64 (12)))) 1)]],[],[(9,.m [(.fld (.sz (.s 27) 10) 0),(.fld (.sz (.s 27) 10) 1),(.fld (.sz (.s 27) 10) 2),(.fld (.sz (.s 27) 10) 3),(.fld (.sz (.s 27) 10) 4),(.fld (.sz (.s 27) 10) 5),(.fld (.sz (.s 27) 10) 6),(.fld (.sz (.s 27) 10) 7),(.fld (.sz (.s 27) 10) 8),(.fld (.sz (.s 27) 10) 9)])]⟩))
  (.reg ⟨[],[],[(10,.v (.bin .add (.s 10) (.c (.int .i64 (1)))))]⟩))))))
(.seq
(.reg ⟨[],[],[(9,.m [(.m 9 0),(.m 9 1),(.m 9 2),(.m 9 3),(.m 9 4),(.m 9 5),(.m 9 6),(.m 9 7),(.m 9 8),(.slc (.m 5 9) (.c (.int .i64 (0))) (.mn (.len (.m 5 9)) (.c (.int .i64 (20)))) 1)])]⟩)
(.seq
(.reg ⟨[.call 28 [] (.id 14) false false [(.mm 6 0 7)]],[],[(12,.m [(.fld (.sz (.s 28) 10) 0),(.fld (.sz (.s 28) 10) 1),(.fld (.sz (.s 28) 10) 2),(.fld (.sz (.s 28) 10) 3),(.fld (.sz (.s 28) 10) 4),(.fld (.sz (.s 28) 10) 5),(.fld (.sz (.s 28) 10) 6),(.fld (.sz (.s 28) 10) 7),(.fld (.sz (.s 28) 10) 8),(.fld (.sz (.s 28) 10) 9)])]⟩)
(.seq
(.reg ⟨[.call 29 [] (.id 15) false false [(.mm 6 0 7)]],[],[(13,.m [(.fld (.sz (.s 29) 10) 0),(.fld (.sz (.s 29) 10) 1),(.fld (.sz (.s 29) 10) 2),(.fld (.sz (.s 29) 10) 3),(.fld (.sz (.s 29) 10) 4),(.fld (.sz (.s 29) 10) 5),(.fld (.sz (.s 29) 10) 6),(.fld (.sz (.s 29) 10) 7),(.fld (.sz (.s 29) 10) 8),(.fld (.sz (.s 29) 10) 9)])]⟩)
(.seq
(.seq
(.reg ⟨[.call 30 [] (.id 16) false false [(.mm 12 0 10),(.s 2),(.s 3),(.s 4)],.call 31 [] (.id 16) false false [(.mm 13 0 10),(.s 2),(.s 3),(.s 4)]],[],[(14,.v (.c (.int .i64 (0)))),(15,.v (.len (.lit [(.mm 9 0 10),(.mm 12 0 10),(.mm 13 0 10),(.sz (.s 30) 10),(.sz (.s 31) 10)]))),(18,.v (.lit [(.mm 9 0 10),(.mm 12 0 10),(.mm 13 0 10),(.sz (.s 30) 10),(.sz (.s 31) 10)]))]⟩)
(.block 2
 (.loop [0,1,2,3,4,5,6,7,8,9,10,11,12,13,14,15,18]
  (.seq
  (.reg ⟨[],[],[(16,.v (.bin .lss (.s 14) (.s 15)))]⟩)
  (.seq
  (.cond (.s 16)
   .skip
   (.exit 2))
  (.seq
  (.block 3
   (.seq
   (.reg ⟨[],[],[(17,.m [(.fld (.flds (.idx (.s 18) (.s 14) 10) 0 10) 0),(.fld (.flds (.idx (.s 18) (.s 14) 10) 0 10) 1),(.fld (.flds (.idx (.s 18) (.s 14) 10) 0 10) 2),(.fld (.flds (.idx (.s 18) (.s 14) 10) 0 10) 3),(.fld (.flds (.idx (.s 18) (.s 14) 10) 0 10) 4),(.fld (.flds (.idx (.s 18) (.s 14) 10) 0 10) 5),(.fld (.flds (.idx (.s 18) (.s 14) 10) 0 10) 6),(.fld (.flds (.idx (.s 18) (.s 14) 10) 0 10) 7),(.fld (.flds (.idx (.s 18) (.s 14) 10) 0 10) 8),(.fld (.flds (.idx (.s 18) (.s 14) 10) 0 10) 9)])]⟩)
   (.seq
   (.reg ⟨[.call 32 [] (.id 17) false false [(.mm 17 0 10)]],[],[(19,.m [(.fld (.sz (.ext (.s 32) 0) 10) 0),(.fld (.sz (.ext (.s 32) 0) 10) 1),(.fld (.sz (.ext (.s 32) 0) 10) 2),(.fld (.sz (.ext (.s 32) 0) 10) 3),(.fld (.sz (.ext (.s 32) 0) 10) 4),(.fld (.sz (.ext (.s 32) 0) 10) 5),(.fld (.sz (.ext (.s 32) 0) 10) 6),(.fld (.sz (.ext (.s 32) 0) 10) 7),(.fld (.sz (.ext (.s 32) 0) 10) 8),(.fld (.sz (.ext (.s 32) 0) 10) 9)]),(20,.v (.ext (.s 32) 1))]⟩)
   (.seq
   (.reg ⟨[.call 33 [] (.id 18) false false [(.mm 17 0 10)]],[],[(21,.m [(.fld (.sz (.ext (.s 33) 0) 10) 0),(.fld (.sz (.ext (.s 33) 0) 10) 1),(.fld (.sz (.ext (.s 33) 0) 10) 2),(.fld (.sz (.ext (.s 33) 0) 10) 3),(.fld (.sz (.ext (.s 33) 0) 10) 4),(.fld (.sz (.ext (.s 33) 0) 10) 5),(.fld (.sz (.ext (.s 33) 0) 10) 6),(.fld (.sz (.ext (.s 33) 0) 10) 7),(.fld (.sz (.ext (.s 33) 0) 10) 8),(.fld (.sz (.ext (.s 33) 0) 10) 9)]),(22,.v (.ext (.s 33) 1))]⟩)
   (.seq
   (.reg ⟨[.lt 34 [] (.bin .neq (.s 20) (.s 22)),.call 35 [(34,false)] (.id 19) false false [(.mm 19 0 10),(.mm 21 0 10)],.lt 36 [] (.ite (.s 34) (.c (.bool true)) (.un .not (.s 35))),.call 37 [(36,false)] (.id 20) false false [(.mm 17 0 10)],.call 38 [(36,false)] (.id 21) false false [(.mm 17 0 10)],.call 39 [(36,false)] (.id 19) false false [(.s 37),(.s 38)]],[([(34,false)],(.un .not (.s 35))),([(36,false)],(.un .not (.s 39)))],[(23,.v (.ite (.s 36) (.c (.bool true)) (.un .not (.s 39))))]⟩)
   (.cond (.s 23)
    (.seq
    (.reg ⟨[],[],[(7,.v (.c (.bool false)))]⟩)
    .ret)
    .skip))))))
  (.reg ⟨[],[],[(14,.v (.bin .add (.s 14) (.c (.int .i64 (1)))))]⟩)))))))
(.seq
(.reg ⟨[],[],[(7,.v (.s 8))]⟩)
.ret))))))))),
[(7,.v)]⟩
theorem c3:compFn Try.prog fresh sig [.fz,.fz,.fz,.fz,.fz] [] Try.f3=some p3:=by kernel_rfl
def p4:Fn:=⟨14,[0,1,2,3,4,5,6,27,7,32,47,8,50,75],
(.seq
(.reg ⟨[],[],[(1,.m [(.fld (.sz (.s 0) 7) 0),(.fld (.sz (.s 0) 7) 1),(.fld (.sz (.s 0) 7) 2),(.fld (.sz (.s 0) 7) 3),(.fld (.sz (.s 0) 7) 4),(.fld (.sz (.s 0) 7) 5),(.fld (.sz (.s 0) 7) 6)]),(2,.v (.c (.bool false)))]⟩)
(.seq
(.reg ⟨[.call 14 [] (.id 11) false false []],[],[(3,.v (.s 14))]⟩)
(.seq
(.reg ⟨[.call 15 [] (.id 15) false false [(.mm 1 0 7)]],[],[(4,.m [(.fld (.sz (.s 15) 10) 0),(.fld (.sz (.s 15) 10) 1),(.fld (.sz (.s 15) 10) 2),(.fld (.sz (.s 15) 10) 3),(.fld (.sz (.s 15) 10) 4),(.fld (.sz (.s 15) 10) 5),(.fld (.sz (.s 15) 10) 6),(.fld (.sz (.s 15) 10) 7),(.fld (.sz (.s 15) 10) 8),(.fld (.sz (.s 15) 10) 9)])]⟩)
(.seq
(.reg ⟨[.call 16 [] (.id 17) false false [(.mm 4 0 10)]],[],[(5,.m [(.fld (.sz (.ext (.s 16) 0) 10) 0),(.fld (.sz (.ext (.s 16) 0) 10) 1),(.fld (.sz (.ext (.s 16) 0) 10) 2),(.fld (.sz (.ext (.s 16) 0) 10) 3),(.fld (.sz (.ext (.s 16) 0) 10) 4),(.fld (.sz (.ext (.s 16) 0) 10) 5),(.fld (.sz (.ext (.s 16) 0) 10) 6),(.fld (.sz (.ext (.s 16) 0) 10) 7),(.fld (.sz (.ext (.s 16) 0) 10) 8),(.fld (.sz (.ext (.s 16) 0) 10) 9)]),(6,.v (.ext (.s 16) 1))]⟩)
(.seq
(.seq
(.reg ⟨[.lt 17 [] (.bin .neq (.s 6) (.c (.int .i64 (0))))],[([(17,false)],(.bin .neq (.len (.m 5 9)) (.len (.m 4 9))))],[(7,.v (.ite (.s 17) (.c (.bool true)) (.bin .neq (.len (.m 5 9)) (.len (.m 4 9)))))]⟩)
(.cond (.s 7)
 (.seq
 (.reg ⟨[],[],[(2,.v (.c (.bool false)))]⟩)
 .ret)
 .skip))
(.seq
(.seq
(.reg ⟨[],[],[(8,.v (.c (.int .i64 (0))))]⟩)
(.block 0
 (.loop [0,1,2,3,4,5,6,7,8]
  (.seq
  (.seq
  (.reg ⟨[],[],[(9,.v (.bin .lss (.s 8) (.len (.m 4 9))))]⟩)
  (.cond (.s 9)
   .skip
   (.exit 0)))
  (.seq
  (.block 1
   (.seq
   (.seq
   (.reg ⟨[],[],[(10,.v (.eqv true (.bin .eql (.fld (.idx (.m 5 9) (.s 8) 1) 0) (.c (.int .u64 (0)))) (.bin .eql (.fld (.idx (.m 4 9) (.s 8) 1) 0) (.c (.int .u64 (0))))))]⟩)
   (.cond (.s 10)
    (.seq
    (.reg ⟨[],[],[(2,.v (.c (.bool false)))]⟩)
    .ret)
    .skip))
   (.seq
   (.reg ⟨[],[],[(11,.v (.c (.int .i64 (0))))]⟩)
   (.block 2
    (.loop [0,1,2,3,4,5,6,7,8,9,10,11]
     (.seq
     (.seq
     (.reg ⟨[],[],[(12,.v (.bin .lss (.s 11) (.s 8)))]⟩)
     (.cond (.s 12)
      .skip
      (.exit 2)))
     (.seq
     (.block 3
      (.seq
      (.reg ⟨[],[],[(13,.v (.eqv true (.bin .eql (.fld (.idx (.m 5 9) (.s 8) 1) 0) (.fld (.idx (.m 5 9) (.s 11) 1) 0)) (.bin .eql (.fld (.idx (.m 4 9) (.s 8) 1) 0) (.fld (.idx (.m 4 9) (.s 11) 1) 0))))]⟩)
      (.cond (.s 13)
       (.seq
       (.reg ⟨[],[],[(2,.v (.c (.bool false)))]⟩)
       .ret)
       .skip)))
     (.reg ⟨[],[],[(11,.v (.bin .add (.s 11) (.c (.int .i64 (1)))))]⟩))))))))
  (.reg ⟨[],[],[(8,.v (.bin .add (.s 8) (.c (.int .i64 (1)))))]⟩))))))
(.seq
(.reg ⟨[],[],[(2,.v (.s 3))]⟩)
.ret))))))),
[(2,.v)]⟩
theorem c4:compFn Try.prog fresh sig [.fz] [] Try.f4=some p4:=by kernel_rfl
def p5:Fn:=⟨26,[0,1,2,3,4,5,6,7,61,8,9,68,71,101,10,103,11,12,13,14,120,15,124,16,151,180],
(.seq
(.reg ⟨[],[],[(1,.m [(.fld (.sz (.s 0) 7) 0),(.fld (.sz (.s 0) 7) 1),(.fld (.sz (.s 0) 7) 2),(.fld (.sz (.s 0) 7) 3),(.fld (.sz (.s 0) 7) 4),(.fld (.sz (.s 0) 7) 5),(.fld (.sz (.s 0) 7) 6)]),(2,.v (.c (.bool false)))]⟩)
(.seq
(.reg ⟨[.call 26 [] (.id 11) false false []],[],[(3,.v (.s 26))]⟩)
(.seq
(.reg ⟨[.call 27 [] (.id 15) false false [(.mm 1 0 7)]],[],[(4,.m [(.fld (.sz (.s 27) 10) 0),(.fld (.sz (.s 27) 10) 1),(.fld (.sz (.s 27) 10) 2),(.fld (.sz (.s 27) 10) 3),(.fld (.sz (.s 27) 10) 4),(.fld (.sz (.s 27) 10) 5),(.fld (.sz (.s 27) 10) 6),(.fld (.sz (.s 27) 10) 7),(.fld (.sz (.s 27) 10) 8),(.fld (.sz (.s 27) 10) 9)])]⟩)
(.seq
(.reg ⟨[],[],[(5,.m [(.fld (.mm 4 0 10) 0),(.fld (.mm 4 0 10) 1),(.fld (.mm 4 0 10) 2),(.fld (.mm 4 0 10) 3),(.fld (.mm 4 0 10) 4),(.fld (.mm 4 0 10) 5),(.fld (.mm 4 0 10) 6),(.fld (.mm 4 0 10) 7),(.fld (.mm 4 0 10) 8),(.fld (.mm 4 0 10) 9)])]⟩)
(.seq
(.reg ⟨[],[],[(5,.m [(.m 5 0),(.m 5 1),(.m 5 2),(.m 5 3),(.m 5 4),(.m 5 5),(.m 5 6),(.m 5 7),(.m 5 8),(.mk (.int .u64 (0)) (.len (.m 4 9)))])]⟩)
(.seq
(.reg ⟨[.call 28 [] (.id 17) false false [(.mm 5 0 10)]],[],[(6,.m [(.fld (.sz (.ext (.s 28) 0) 10) 0),(.fld (.sz (.ext (.s 28) 0) 10) 1),(.fld (.sz (.ext (.s 28) 0) 10) 2),(.fld (.sz (.ext (.s 28) 0) 10) 3),(.fld (.sz (.ext (.s 28) 0) 10) 4),(.fld (.sz (.ext (.s 28) 0) 10) 5),(.fld (.sz (.ext (.s 28) 0) 10) 6),(.fld (.sz (.ext (.s 28) 0) 10) 7),(.fld (.sz (.ext (.s 28) 0) 10) 8),(.fld (.sz (.ext (.s 28) 0) 10) 9)]),(7,.v (.fl (.ext (.s 28) 1)))]⟩)
(.seq
(.seq
(.reg ⟨[.lt 29 [] (.bin .neq (.s 7) (.c (.int .i64 (0)))),.lt 30 [] (.ite (.s 29) (.c (.bool true)) (.m 6 3)),.lt 31 [] (.ite (.s 30) (.c (.bool true)) (.bin .neq (.bin .add (.bin .add (.bin .add (.len (.m 6 5)) (.len (.m 6 6))) (.len (.m 6 7))) (.len (.m 6 8))) (.c (.int .i64 (0))))),.call 32 [(31,false)] (.id 20) false false [(.mm 6 0 10)],.call 33 [(31,false)] (.id 19) false false [(.s 32),(.mm 6 0 10)]],[([(29,false)],(.m 6 3)),([(30,false)],(.bin .neq (.bin .add (.bin .add (.bin .add (.len (.m 6 5)) (.len (.m 6 6))) (.len (.m 6 7))) (.len (.m 6 8))) (.c (.int .i64 (0))))),([(31,false)],(.un .not (.s 33)))],[(8,.v (.ite (.s 31) (.c (.bool true)) (.un .not (.s 33))))]⟩)
(.cond (.s 8)
 (.seq
 (.reg ⟨[],[],[(2,.v (.c (.bool false)))]⟩)
 .ret)
 .skip))
(.seq
(.reg ⟨[.call 34 [] (.id 17) false false [(.mm 4 0 10)]],[],[(9,.m [(.fld (.sz (.ext (.s 34) 0) 10) 0),(.fld (.sz (.ext (.s 34) 0) 10) 1),(.fld (.sz (.ext (.s 34) 0) 10) 2),(.fld (.sz (.ext (.s 34) 0) 10) 3),(.fld (.sz (.ext (.s 34) 0) 10) 4),(.fld (.sz (.ext (.s 34) 0) 10) 5),(.fld (.sz (.ext (.s 34) 0) 10) 6),(.fld (.sz (.ext (.s 34) 0) 10) 7),(.fld (.sz (.ext (.s 34) 0) 10) 8),(.fld (.sz (.ext (.s 34) 0) 10) 9)]),(10,.v (.ext (.s 34) 1))]⟩)
(.seq
(.seq
(.reg ⟨[],[],[(11,.v (.bin .neq (.s 10) (.c (.int .i64 (0)))))]⟩)
(.cond (.s 11)
 (.seq
 (.reg ⟨[],[],[(2,.v (.c (.bool false)))]⟩)
 .ret)
 .skip))
(.seq
(.seq
(.reg ⟨[],[],[(12,.v (.un .not (.m 9 3)))]⟩)
(.cond (.s 12)
 (.seq
 (.reg ⟨[.lt 35 [] (.s 3),.call 36 [(35,true)] (.id 20) false false [(.mm 9 0 10)],.call 37 [(35,true)] (.id 19) false false [(.s 36),(.mm 9 0 10)]],[],[(2,.v (.ite (.s 35) (.s 37) (.c (.bool false))))]⟩)
 .ret)
 .skip))
(.seq
(.seq
(.reg ⟨[.lt 38 [] (.bin .neq (.len (.m 9 7)) (.len (.m 4 5))),.lt 39 [] (.ite (.s 38) (.c (.bool true)) (.bin .neq (.len (.m 9 8)) (.len (.m 4 6)))),.call 40 [(39,false)] (.id 20) false false [(.mm 9 0 10)],.call 41 [(39,false)] (.id 19) false false [(.s 40),(.ag [(.c (.int .u64 (0))),(.c (.int .i64 (0))),(.c (.int .i64 (0))),(.c (.bool false)),(.c (.int .i64 (0))),(.c (.sl [])),(.c (.sl [])),(.c (.sl [])),(.c (.sl [])),(.c (.sl []))])]],[([(38,false)],(.bin .neq (.len (.m 9 8)) (.len (.m 4 6)))),([(39,false)],(.un .not (.s 41)))],[(13,.v (.ite (.s 39) (.c (.bool true)) (.un .not (.s 41))))]⟩)
(.cond (.s 13)
 (.seq
 (.reg ⟨[],[],[(2,.v (.c (.bool false)))]⟩)
 .ret)
 .skip))
(.seq
(.seq
(.reg ⟨[],[],[(14,.v (.c (.int .i64 (3))))]⟩)
(.block 0
 (.loop [0,1,2,3,4,5,6,7,8,9,10,11,12,13,14]
  (.seq
  (.seq
  (.reg ⟨[],[],[(15,.v (.bin .leq (.s 14) (.c (.int .i64 (4)))))]⟩)
  (.cond (.s 15)
   .skip
   (.exit 0)))
  (.seq
  (.block 1
   (.seq
   (.reg ⟨[.call 42 [] (.id 22) false false [(.mm 9 0 10),(.s 14)]],[],[(16,.v (.ext (.s 42) 0)),(17,.v (.ext (.s 42) 1))]⟩)
   (.seq
   (.reg ⟨[.call 43 [] (.id 13) false false [(.mm 4 0 10),(.bin .sub (.s 14) (.c (.int .i64 (2))))]],[],[(18,.v (.s 43))]⟩)
   (.seq
   (.reg ⟨[.call 44 [] (.id 13) false false [(.mm 9 0 10),(.s 14)]],[],[(19,.v (.s 44))]⟩)
   (.seq
   (.seq
   (.reg ⟨[],[],[(20,.v (.bin .neq (.s 17) (.c (.int .i64 (0)))))]⟩)
   (.cond (.s 20)
    (.seq
    (.reg ⟨[],[],[(2,.v (.c (.bool false)))]⟩)
    .ret)
    .skip))
   (.seq
   (.reg ⟨[],[],[(21,.v (.c (.int .i64 (0))))]⟩)
   (.block 2
    (.loop [0,1,2,3,4,5,6,7,8,9,10,11,12,13,14,15,16,17,18,19,20,21]
     (.seq
     (.seq
     (.reg ⟨[],[],[(22,.v (.bin .lss (.s 21) (.len (.s 16))))]⟩)
     (.cond (.s 22)
      .skip
      (.exit 2)))
     (.seq
     (.block 3
      (.seq
      (.reg ⟨[],[],[(23,.m [(.fld (.flds (.idx (.s 16) (.s 21) 5) 0 5) 0),(.fld (.flds (.idx (.s 16) (.s 21) 5) 0 5) 1),(.fld (.flds (.idx (.s 16) (.s 21) 5) 0 5) 2),(.fld (.flds (.idx (.s 16) (.s 21) 5) 0 5) 3),(.fld (.flds (.idx (.s 16) (.s 21) 5) 0 5) 4)])]⟩)
      (.seq
      (.seq
      (.reg ⟨[.lt 45 [] (.bin .lss (.m 23 0) (.c (.int .i64 (0)))),.lt 46 [] (.ite (.s 45) (.c (.bool true)) (.bin .lss (.m 23 1) (.c (.int .i64 (0)))))],[([(45,false)],(.bin .lss (.m 23 1) (.c (.int .i64 (0))))),([(46,false)],(.bin .gtr (.bin .add (.bin .add (.m 23 0) (.c (.int .i64 (1)))) (.m 23 1)) (.len (.s 18))))],[(24,.v (.ite (.s 46) (.c (.bool true)) (.bin .gtr (.bin .add (.bin .add (.m 23 0) (.c (.int .i64 (1)))) (.m 23 1)) (.len (.s 18)))))]⟩)
      (.cond (.s 24)
       (.seq
       (.reg ⟨[],[],[(2,.v (.c (.bool false)))]⟩)
       .ret)
       .skip))
      (.seq
      (.reg ⟨[.lt 47 [] (.un .not (.m 23 3)),.call 48 [(47,true)] (.id 23) false false [(.slc (.s 18) (.m 23 0) (.bin .add (.bin .add (.m 23 0) (.c (.int .i64 (1)))) (.m 23 1)) 1),(.slc (.s 19) (.m 23 0) (.bin .add (.bin .add (.m 23 0) (.c (.int .i64 (1)))) (.m 23 1)) 1)]],[([(47,true)],(.un .not (.s 48)))],[(25,.v (.ite (.s 47) (.un .not (.s 48)) (.c (.bool false))))]⟩)
      (.cond (.s 25)
       (.seq
       (.reg ⟨[],[],[(2,.v (.c (.bool false)))]⟩)
       .ret)
       .skip)))))
     (.reg ⟨[],[],[(21,.v (.bin .add (.s 21) (.c (.int .i64 (1)))))]⟩)))))))))))
  (.reg ⟨[],[],[(14,.v (.bin .add (.s 14) (.c (.int .i64 (1)))))]⟩))))))
(.seq
(.reg ⟨[],[],[(2,.v (.s 3))]⟩)
.ret))))))))))))),
[(2,.v)]⟩
theorem c5:compFn Try.prog fresh sig [.fz] [] Try.f5=some p5:=by kernel_rfl
def p6:Fn:=⟨10,[0,1,2,3,4,5,6,17,7,27],
(.seq
(.reg ⟨[],[],[(1,.m [(.fld (.sz (.s 0) 7) 0),(.fld (.sz (.s 0) 7) 1),(.fld (.sz (.s 0) 7) 2),(.fld (.sz (.s 0) 7) 3),(.fld (.sz (.s 0) 7) 4),(.fld (.sz (.s 0) 7) 5),(.fld (.sz (.s 0) 7) 6)]),(2,.v (.c (.bool false)))]⟩)
(.seq
(.reg ⟨[.call 10 [] (.id 11) false false []],[],[(3,.v (.s 10))]⟩)
(.seq
(.reg ⟨[.call 11 [] (.id 15) false false [(.mm 1 0 7)]],[],[(4,.m [(.fld (.sz (.s 11) 10) 0),(.fld (.sz (.s 11) 10) 1),(.fld (.sz (.s 11) 10) 2),(.fld (.sz (.s 11) 10) 3),(.fld (.sz (.s 11) 10) 4),(.fld (.sz (.s 11) 10) 5),(.fld (.sz (.s 11) 10) 6),(.fld (.sz (.s 11) 10) 7),(.fld (.sz (.s 11) 10) 8),(.fld (.sz (.s 11) 10) 9)])]⟩)
(.seq
(.reg ⟨[.call 12 [] (.id 17) false false [(.mm 4 0 10)]],[],[(5,.m [(.fld (.sz (.ext (.s 12) 0) 10) 0),(.fld (.sz (.ext (.s 12) 0) 10) 1),(.fld (.sz (.ext (.s 12) 0) 10) 2),(.fld (.sz (.ext (.s 12) 0) 10) 3),(.fld (.sz (.ext (.s 12) 0) 10) 4),(.fld (.sz (.ext (.s 12) 0) 10) 5),(.fld (.sz (.ext (.s 12) 0) 10) 6),(.fld (.sz (.ext (.s 12) 0) 10) 7),(.fld (.sz (.ext (.s 12) 0) 10) 8),(.fld (.sz (.ext (.s 12) 0) 10) 9)]),(6,.v (.ext (.s 12) 1))]⟩)
(.seq
(.seq
(.reg ⟨[],[],[(7,.v (.bin .neq (.s 6) (.c (.int .i64 (0)))))]⟩)
(.cond (.s 7)
 (.seq
 (.reg ⟨[],[],[(2,.v (.c (.bool false)))]⟩)
 .ret)
 .skip))
(.seq
(.reg ⟨[],[],[(8,.v (.bin .add (.len (.m 4 5)) (.len (.m 4 6))))]⟩)
(.seq
(.seq
(.reg ⟨[],[],[(9,.v (.un .not (.m 5 3)))]⟩)
(.cond (.s 9)
 (.seq
 (.reg ⟨[.lt 13 [] (.s 3),.lt 14 [] (.ite (.s 13) (.bin .eql (.bin .add (.len (.m 5 5)) (.len (.m 5 6))) (.c (.int .i64 (0)))) (.c (.bool false))),.call 15 [(14,true)] (.id 25) false false [(.mm 5 0 10)],.call 16 [(14,true)] (.id 24) false false [(.s 15)],.lt 17 [] (.ite (.s 14) (.bin .eql (.s 16) (.m 4 1)) (.c (.bool false)))],[([(13,true)],(.bin .eql (.bin .add (.len (.m 5 5)) (.len (.m 5 6))) (.c (.int .i64 (0))))),([(14,true)],(.bin .eql (.s 16) (.m 4 1))),([(17,true)],(.bin .eql (.m 5 2) (.bin .sub (.c (.int .i64 (1))) (.m 4 2))))],[(2,.v (.ite (.s 17) (.bin .eql (.m 5 2) (.bin .sub (.c (.int .i64 (1))) (.m 4 2))) (.c (.bool false))))]⟩)
 .ret)
 .skip))
(.seq
(.reg ⟨[.lt 18 [] (.s 3),.call 19 [(18,true)] (.id 26) false false [(.mm 5 0 10)],.lt 20 [] (.ite (.s 18) (.bin .eql (.bin .add (.len (.m 5 5)) (.s 19)) (.s 8)) (.c (.bool false))),.call 21 [(20,true)] (.id 25) false false [(.mm 5 0 10)],.call 22 [(20,true)] (.id 24) false false [(.s 21)],.lt 23 [] (.ite (.s 20) (.bin .eql (.s 22) (.bin .sub (.m 4 1) (.len (.m 5 5)))) (.c (.bool false))),.lt 24 [] (.ite (.s 23) (.bin .eql (.m 5 2) (.bin .sub (.c (.int .i64 (1))) (.m 4 2))) (.c (.bool false))),.lt 25 [] (.ite (.s 24) (.bin .eql (.m 5 1) (.m 4 1)) (.c (.bool false)))],[([(18,true)],(.bin .eql (.bin .add (.len (.m 5 5)) (.s 19)) (.s 8))),([(20,true)],(.bin .eql (.s 22) (.bin .sub (.m 4 1) (.len (.m 5 5))))),([(23,true)],(.bin .eql (.m 5 2) (.bin .sub (.c (.int .i64 (1))) (.m 4 2)))),([(24,true)],(.bin .eql (.m 5 1) (.m 4 1))),([(25,true)],(.bin .eql (.m 5 0) (.m 4 0)))],[(2,.v (.ite (.s 25) (.bin .eql (.m 5 0) (.m 4 0)) (.c (.bool false))))]⟩)
.ret)))))))),
[(2,.v)]⟩
theorem c6:compFn Try.prog fresh sig [.fz] [] Try.f6=some p6:=by kernel_rfl
def p11:Fn:=⟨11,[0,1,2,3,4,5,6,7,8,9,10],
(.seq
(.reg ⟨[],[],[(0,.v (.c (.bool false)))]⟩)
(.seq
(.reg ⟨[],[([],(.ag [(.c (.int .u64 (10))),(.c (.int .i64 (5))),(.c (.int .i64 (0))),(.c (.bool false)),(.c (.int .i64 (2))),(.lit [(.c (.int .u64 (2))),(.c (.int .u64 (6)))]),(.c (.sl [])),(.c (.sl [])),(.c (.sl [])),(.lit [(.c (.int .u64 (21)))])]))],[(1,.m [(.c (.int .u64 (10))),(.c (.int .i64 (5))),(.c (.int .i64 (0))),(.c (.bool false)),(.c (.int .i64 (2))),(.lit [(.c (.int .u64 (2))),(.c (.int .u64 (6)))]),(.c (.sl [])),(.c (.sl [])),(.c (.sl [])),(.lit [(.c (.int .u64 (21)))])])]⟩)
(.seq
(.reg ⟨[.call 11 [] (.id 17) false false [(.mm 1 0 10)]],[],[(2,.m [(.fld (.sz (.ext (.s 11) 0) 10) 0),(.fld (.sz (.ext (.s 11) 0) 10) 1),(.fld (.sz (.ext (.s 11) 0) 10) 2),(.fld (.sz (.ext (.s 11) 0) 10) 3),(.fld (.sz (.ext (.s 11) 0) 10) 4),(.fld (.sz (.ext (.s 11) 0) 10) 5),(.fld (.sz (.ext (.s 11) 0) 10) 6),(.fld (.sz (.ext (.s 11) 0) 10) 7),(.fld (.sz (.ext (.s 11) 0) 10) 8),(.fld (.sz (.ext (.s 11) 0) 10) 9)]),(3,.v (.fl (.ext (.s 11) 1)))]⟩)
(.seq
(.reg ⟨[.call 12 [] (.id 17) false false [(.mm 2 0 10)]],[],[(4,.m [(.fld (.sz (.ext (.s 12) 0) 10) 0),(.fld (.sz (.ext (.s 12) 0) 10) 1),(.fld (.sz (.ext (.s 12) 0) 10) 2),(.fld (.sz (.ext (.s 12) 0) 10) 3),(.fld (.sz (.ext (.s 12) 0) 10) 4),(.fld (.sz (.ext (.s 12) 0) 10) 5),(.fld (.sz (.ext (.s 12) 0) 10) 6),(.fld (.sz (.ext (.s 12) 0) 10) 7),(.fld (.sz (.ext (.s 12) 0) 10) 8),(.fld (.sz (.ext (.s 12) 0) 10) 9)]),(5,.v (.ext (.s 12) 1))]⟩)
(.seq
(.reg ⟨[.call 13 [] (.id 17) false false [(.ag [(.c (.int .u64 (0))),(.c (.int .i64 (0))),(.c (.int .i64 (0))),(.c (.bool false)),(.c (.int .i64 (0))),(.c (.sl [])),(.c (.sl [])),(.c (.sl [])),(.c (.sl [])),(.c (.sl []))])]],[],[(6,.m [(.fld (.sz (.ext (.s 13) 0) 10) 0),(.fld (.sz (.ext (.s 13) 0) 10) 1),(.fld (.sz (.ext (.s 13) 0) 10) 2),(.fld (.sz (.ext (.s 13) 0) 10) 3),(.fld (.sz (.ext (.s 13) 0) 10) 4),(.fld (.sz (.ext (.s 13) 0) 10) 5),(.fld (.sz (.ext (.s 13) 0) 10) 6),(.fld (.sz (.ext (.s 13) 0) 10) 7),(.fld (.sz (.ext (.s 13) 0) 10) 8),(.fld (.sz (.ext (.s 13) 0) 10) 9)]),(7,.v (.ext (.s 13) 1))]⟩)
(.seq
(.reg ⟨[],[],[(8,.m [(.fld (.mm 1 0 10) 0),(.fld (.mm 1 0 10) 1),(.fld (.mm 1 0 10) 2),(.fld (.mm 1 0 10) 3),(.fld (.mm 1 0 10) 4),(.fld (.mm 1 0 10) 5),(.fld (.mm 1 0 10) 6),(.fld (.mm 1 0 10) 7),(.fld (.mm 1 0 10) 8),(.fld (.mm 1 0 10) 9)])]⟩)
(.seq
(.reg ⟨[],[],[(8,.m [(.m 8 0),(.m 8 1),(.m 8 2),(.m 8 3),(.m 8 4),(.m 8 5),(.m 8 6),(.m 8 7),(.m 8 8),(.lit [(.c (.int .u64 (0)))])])]⟩)
(.seq
(.reg ⟨[.call 14 [] (.id 17) false false [(.mm 8 0 10)]],[],[(9,.m [(.fld (.sz (.ext (.s 14) 0) 10) 0),(.fld (.sz (.ext (.s 14) 0) 10) 1),(.fld (.sz (.ext (.s 14) 0) 10) 2),(.fld (.sz (.ext (.s 14) 0) 10) 3),(.fld (.sz (.ext (.s 14) 0) 10) 4),(.fld (.sz (.ext (.s 14) 0) 10) 5),(.fld (.sz (.ext (.s 14) 0) 10) 6),(.fld (.sz (.ext (.s 14) 0) 10) 7),(.fld (.sz (.ext (.s 14) 0) 10) 8),(.fld (.sz (.ext (.s 14) 0) 10) 9)]),(10,.v (.fl (.ext (.s 14) 1)))]⟩)
(.seq
(.reg ⟨[.lt 15 [] (.bin .eql (.s 3) (.c (.int .i64 (0)))),.call 16 [(15,true)] (.id 19) false false [(.mm 2 0 10),(.ag [(.c (.int .u64 (10))),(.c (.int .i64 (5))),(.c (.int .i64 (1))),(.c (.bool true)),(.c (.int .i64 (0))),(.lit [(.c (.int .u64 (2))),(.c (.int .u64 (6)))]),(.c (.sl [])),(.lit [(.c (.int .u64 (31))),(.c (.int .u64 (0)))]),(.c (.sl [])),(.lit [(.c (.int .u64 (31)))])])],.lt 17 [] (.ite (.s 15) (.s 16) (.c (.bool false))),.lt 18 [] (.ite (.s 17) (.bin .eql (.s 5) (.c (.int .i64 (10)))) (.c (.bool false))),.lt 19 [] (.ite (.s 18) (.bin .eql (.s 7) (.c (.int .i64 (1)))) (.c (.bool false))),.lt 20 [] (.ite (.s 19) (.bin .eql (.s 10) (.c (.int .i64 (0)))) (.c (.bool false))),.call 21 [(20,true)] (.id 19) false false [(.mm 9 0 10),(.ag [(.c (.int .u64 (10))),(.c (.int .i64 (5))),(.c (.int .i64 (1))),(.c (.bool false)),(.c (.int .i64 (0))),(.c (.sl [])),(.c (.sl [])),(.c (.sl [])),(.c (.sl [])),(.lit [(.c (.int .u64 (0)))])])],.lt 22 [] (.ite (.s 20) (.s 21) (.c (.bool false))),.call 23 [(22,true)] (.id 20) false false [(.mm 1 0 10)],.call 24 [(22,true)] (.id 19) false false [(.s 23),(.mm 1 0 10)],.lt 25 [] (.ite (.s 22) (.s 24) (.c (.bool false))),.call 26 [(25,true)] (.id 20) false false [(.mm 2 0 10)],.call 27 [(25,true)] (.id 19) false false [(.s 26),(.ag [(.c (.int .u64 (0))),(.c (.int .i64 (0))),(.c (.int .i64 (0))),(.c (.bool false)),(.c (.int .i64 (0))),(.c (.sl [])),(.c (.sl [])),(.c (.sl [])),(.c (.sl [])),(.c (.sl []))])]],[([(17,true)],(.bin .eql (.s 5) (.c (.int .i64 (10))))),([(18,true)],(.bin .eql (.s 7) (.c (.int .i64 (1))))),([(19,true)],(.bin .eql (.s 10) (.c (.int .i64 (0)))))],[(0,.v (.ite (.s 25) (.s 27) (.c (.bool false))))]⟩)
.ret))))))))),
[(0,.v)]⟩
theorem c11:compFn Try.prog fresh sig [] [] Try.f11=some p11:=by kernel_rfl
def p18:Fn:=⟨14,[0,1,2,3,4,13,16,5,6,37,8,7,9,68],
(.seq
(.reg ⟨[],[],[(1,.m [(.fld (.sz (.s 0) 10) 0),(.fld (.sz (.s 0) 10) 1),(.fld (.sz (.s 0) 10) 2),(.fld (.sz (.s 0) 10) 3),(.fld (.sz (.s 0) 10) 4),(.fld (.sz (.s 0) 10) 5),(.fld (.sz (.s 0) 10) 6),(.fld (.sz (.s 0) 10) 7),(.fld (.sz (.s 0) 10) 8),(.fld (.sz (.s 0) 10) 9)]),(2,.m [(.c (.int .u64 (0))),(.c (.int .i64 (0))),(.c (.int .i64 (0))),(.c (.bool false)),(.c (.int .i64 (0))),(.c (.sl [])),(.c (.sl [])),(.c (.sl [])),(.c (.sl [])),(.c (.sl []))]),(3,.v (.c (.int .i64 (0))))]⟩)
(.seq
(.reg ⟨[.call 14 [] (.id 40) false false [(.mm 1 0 10)]],[],[(4,.v (.s 14))]⟩)
(.seq
(.seq
(.reg ⟨[],[],[(5,.v (.un .not (.s 4)))]⟩)
(.cond (.s 5)
 (.seq
 (.reg ⟨[],[([],(.ag [(.c (.int .u64 (0))),(.c (.int .i64 (0))),(.c (.int .i64 (0))),(.c (.bool false)),(.c (.int .i64 (0))),(.c (.sl [])),(.c (.sl [])),(.c (.sl [])),(.c (.sl [])),(.c (.sl []))]))],[(2,.m [(.c (.int .u64 (0))),(.c (.int .i64 (0))),(.c (.int .i64 (0))),(.c (.bool false)),(.c (.int .i64 (0))),(.c (.sl [])),(.c (.sl [])),(.c (.sl [])),(.c (.sl [])),(.c (.sl []))]),(3,.v (.c (.int .i64 (1))))]⟩)
 .ret)
 .skip))
(.seq
(.seq
(.reg ⟨[],[],[(6,.v (.m 1 3))]⟩)
(.cond (.s 6)
 (.seq
 (.reg ⟨[],[([],(.ag [(.c (.int .u64 (0))),(.c (.int .i64 (0))),(.c (.int .i64 (0))),(.c (.bool false)),(.c (.int .i64 (0))),(.c (.sl [])),(.c (.sl [])),(.c (.sl [])),(.c (.sl [])),(.c (.sl []))]))],[(2,.m [(.c (.int .u64 (0))),(.c (.int .i64 (0))),(.c (.int .i64 (0))),(.c (.bool false)),(.c (.int .i64 (0))),(.c (.sl [])),(.c (.sl [])),(.c (.sl [])),(.c (.sl [])),(.c (.sl []))]),(3,.v (.c (.int .i64 (10))))]⟩)
 .ret)
 .skip))
(.seq
(.reg ⟨[],[([],(.ag [(.m 1 0),(.m 1 1),(.bin .sub (.c (.int .i64 (1))) (.m 1 2)),(.c (.bool false)),(.c (.int .i64 (0))),(.c (.sl [])),(.c (.sl [])),(.m 1 5),(.m 1 6),(.app (.c (.sl [])) (.m 1 9) 1)]))],[(7,.m [(.m 1 0),(.m 1 1),(.bin .sub (.c (.int .i64 (1))) (.m 1 2)),(.c (.bool false)),(.c (.int .i64 (0))),(.c (.sl [])),(.c (.sl [])),(.m 1 5),(.m 1 6),(.app (.c (.sl [])) (.m 1 9) 1)])]⟩)
(.seq
(.seq
(.reg ⟨[],[],[(8,.v (.c (.int .i64 (0))))]⟩)
(.block 0
 (.loop [0,1,2,3,4,5,6,7,8]
  (.seq
  (.seq
  (.reg ⟨[],[],[(9,.v (.bin .lss (.s 8) (.len (.m 1 9))))]⟩)
  (.cond (.s 9)
   .skip
   (.exit 0)))
  (.seq
  (.block 1
   (.seq
   (.reg ⟨[.call 15 [] (.id 41) false false [(.mm 7 0 10),(.fld (.idx (.m 1 9) (.s 8) 1) 0)]],[],[(10,.m [(.fld (.sz (.ext (.s 15) 1) 10) 0),(.fld (.sz (.ext (.s 15) 1) 10) 1),(.fld (.sz (.ext (.s 15) 1) 10) 2),(.fld (.sz (.ext (.s 15) 1) 10) 3),(.fld (.sz (.ext (.s 15) 1) 10) 4),(.fld (.sz (.ext (.s 15) 1) 10) 5),(.fld (.sz (.ext (.s 15) 1) 10) 6),(.fld (.sz (.ext (.s 15) 1) 10) 7),(.fld (.sz (.ext (.s 15) 1) 10) 8),(.fld (.sz (.ext (.s 15) 1) 10) 9)]),(11,.v (.ext (.s 15) 0)),(12,.v (.ext (.s 15) 2))]⟩)
   (.seq
   (.reg ⟨[],[],[(10,.m [(.m 10 0),(.m 10 1),(.m 10 2),(.m 10 3),(.m 10 4),(.m 10 5),(.m 10 6),(.m 10 7),(.m 10 8),(.app (.c (.sl [])) (.m 10 9) 1)])]⟩)
   (.seq
   (.reg ⟨[],[([],(.idx (.m 10 9) (.s 8) 1))],[(10,.m [(.m 10 0),(.m 10 1),(.m 10 2),(.m 10 3),(.m 10 4),(.m 10 5),(.m 10 6),(.m 10 7),(.m 10 8),(.upd (.m 10 9) (.s 8) 0 (.one (.s 11)))])]⟩)
   (.reg ⟨[],[],[(7,.m [(.fld (.mm 10 0 10) 0),(.fld (.mm 10 0 10) 1),(.fld (.mm 10 0 10) 2),(.fld (.mm 10 0 10) 3),(.fld (.mm 10 0 10) 4),(.fld (.mm 10 0 10) 5),(.fld (.mm 10 0 10) 6),(.fld (.mm 10 0 10) 7),(.fld (.mm 10 0 10) 8),(.fld (.mm 10 0 10) 9)])]⟩)))))
  (.reg ⟨[],[],[(8,.v (.bin .add (.s 8) (.c (.int .i64 (1)))))]⟩))))))
(.seq
(.reg ⟨[],[],[(7,.m [(.m 7 0),(.m 7 1),(.m 7 2),(.bin .gtr (.len (.m 7 5)) (.c (.int .i64 (0)))),(.m 7 4),(.m 7 5),(.m 7 6),(.m 7 7),(.m 7 8),(.m 7 9)])]⟩)
(.seq
(.seq
(.reg ⟨[],[],[(13,.v (.un .not (.m 7 3)))]⟩)
(.cond (.s 13)
 (.seq
 (.reg ⟨[],[],[(7,.m [(.m 7 0),(.m 7 1),(.m 7 2),(.m 7 3),(.m 7 4),(.m 7 5),(.m 7 6),(.c (.sl [])),(.m 7 8),(.m 7 9)])]⟩)
 (.reg ⟨[],[],[(7,.m [(.m 7 0),(.m 7 1),(.m 7 2),(.m 7 3),(.m 7 4),(.m 7 5),(.m 7 6),(.m 7 7),(.c (.sl [])),(.m 7 9)])]⟩))
 .skip))
(.seq
(.reg ⟨[],[],[(2,.m [(.fld (.mm 7 0 10) 0),(.fld (.mm 7 0 10) 1),(.fld (.mm 7 0 10) 2),(.fld (.mm 7 0 10) 3),(.fld (.mm 7 0 10) 4),(.fld (.mm 7 0 10) 5),(.fld (.mm 7 0 10) 6),(.fld (.mm 7 0 10) 7),(.fld (.mm 7 0 10) 8),(.fld (.mm 7 0 10) 9)]),(3,.v (.c (.int .i64 (0))))]⟩)
.ret))))))))),
[(2,(.ag 10)),(3,.v)]⟩
theorem c18:compFn Try.prog fresh sig [.fz] [] Try.f18=some p18:=by kernel_rfl
def p20:Fn:=⟨4,[0,1,2,9],
(.seq
(.reg ⟨[],[],[(1,.m [(.fld (.sz (.s 0) 10) 0),(.fld (.sz (.s 0) 10) 1),(.fld (.sz (.s 0) 10) 2),(.fld (.sz (.s 0) 10) 3),(.fld (.sz (.s 0) 10) 4),(.fld (.sz (.s 0) 10) 5),(.fld (.sz (.s 0) 10) 6),(.fld (.sz (.s 0) 10) 7),(.fld (.sz (.s 0) 10) 8),(.fld (.sz (.s 0) 10) 9)]),(2,.m [(.c (.int .u64 (0))),(.c (.int .i64 (0))),(.c (.int .i64 (0))),(.c (.bool false)),(.c (.int .i64 (0))),(.c (.sl [])),(.c (.sl [])),(.c (.sl [])),(.c (.sl [])),(.c (.sl []))])]⟩)
(.seq
(.seq
(.reg ⟨[.lt 4 [] (.m 1 3),.call 5 [(4,false)] (.id 33) false false [(.mm 1 0 10)]],[([(4,false)],(.un .not (.s 5)))],[(3,.v (.ite (.s 4) (.c (.bool true)) (.un .not (.s 5))))]⟩)
(.cond (.s 3)
 (.seq
 (.reg ⟨[],[([],(.ag [(.c (.int .u64 (0))),(.c (.int .i64 (0))),(.c (.int .i64 (0))),(.c (.bool false)),(.c (.int .i64 (0))),(.c (.sl [])),(.c (.sl [])),(.c (.sl [])),(.c (.sl [])),(.c (.sl []))]))],[(2,.m [(.c (.int .u64 (0))),(.c (.int .i64 (0))),(.c (.int .i64 (0))),(.c (.bool false)),(.c (.int .i64 (0))),(.c (.sl [])),(.c (.sl [])),(.c (.sl [])),(.c (.sl [])),(.c (.sl []))])]⟩)
 .ret)
 .skip))
(.seq
(.reg ⟨[.call 6 [] (.id 38) false false [(.m 1 5)],.call 7 [] (.id 38) false false [(.m 1 6)],.call 8 [] (.id 38) false false [(.m 1 9)]],[([],(.ag [(.m 1 0),(.m 1 1),(.m 1 2),(.c (.bool false)),(.m 1 4),(.one (.s 6)),(.one (.s 7)),(.c (.sl [])),(.c (.sl [])),(.one (.s 8))]))],[(2,.m [(.m 1 0),(.m 1 1),(.m 1 2),(.c (.bool false)),(.m 1 4),(.one (.s 6)),(.one (.s 7)),(.c (.sl [])),(.c (.sl [])),(.one (.s 8))])]⟩)
.ret))),
[(2,(.ag 10))]⟩
theorem c20:compFn Try.prog fresh sig [.fz] [] Try.f20=some p20:=by kernel_rfl
end Vm
end
section
namespace Vm
open Go Go.Proofs Go.RowKit
set_option maxHeartbeats 1000000
set_option maxRecDepth 100000
theorem Flip_walk(w:World)(G:Nat→Prop)(hG: ∀b,G b→b<w.heap.size)(h:Hp)(hh:h.ok)(src:Nat→Value)(hs: ∀j,j<5→Rd w G (.sl ((lsH h j).map vu)) (src j)):
  Calls Try.prog 17 #[hpA h src] w (FlipPost w (flipR h)):=by
 cases hr:rightR h with
 |false=>
  rw[show flipR h=(Hp.zero,1)by unfold flipR;rw[if_pos hr]]
  exact Flip_e1 w G hG h hh src hs hr
 |true=>
  cases hc:h.cycle with
  |true=>
   rw[show flipR h=(Hp.zero,10)by unfold flipR;rw[if_neg (by rw[hr];simp),if_pos hc]]
   exact Flip_e2 w G hG h hh src hs hr hc
  |false=>
   obtain⟨p,r⟩:=right_iff.1 hr
   rw[show flipR h=(flipH h,0)by unfold flipR;rw[if_neg (by rw[hr];simp),if_neg (by rw[hc];simp)]]
   exact Flip_ok w G hG h hh src hs r hc
theorem Flip_vc{h:Hp}(hh:h.ok):VC Try.prog 17 false [hpV h] (.tup [hpV (flipR h).1,vi (flipR h).2]):=by
 refine⟨by kernel_rfl,fun w G vs hG hsz hvs=> ?_⟩
 have r0:=hvs 0 _ rfl
 have he:vs= #[vs.getD 0 undef]:=by
  have hs3:vs.size=1:=hsz
  apply Array.ext
  ·simp[hs3]
  ·intro i h1 h2
   have hi:i<1:=by omega
   match i,hi with
   |0,_=>simp[Array.getD,hs3]
 obtain⟨src,e0,hs⟩:=hp_src r0
 rw[he,e0]
 refine(Flip_walk w G hG h hh src hs).mono ?_
 rintro e w' ⟨x,rfl,hb',hr⟩
 refine⟨_,rfl,hb',?_⟩
 refine .tup _ _ rfl ?_
 intro i y hy
 match i,hy with
 |0,hy=>cases hy;exact hp_rd fun j hj=>(hr j hj).mono fun b hb=> .inr hb
 |1,hy=>cases hy;exact .int _ _
theorem fresh_vc14{l:List Int}(hl:l.length≤1000000):VC Try.prog 38 false [.sl (l.map vu)] (.sl (l.map vu)):=by
 refine⟨by kernel_rfl,fun w G vs hG hsz hvs=> ?_⟩
 have r0:=hvs 0 _ rfl
 have he:vs= #[vs.getD 0 undef]:=by
  have hs3:vs.size=1:=hsz
  apply Array.ext
  ·simp[hs3]
  ·intro i h1 h2
   have hi:i<1:=by omega
   match i,hi with
   |0,_=>simp[Array.getD,hs3]
 rw[he]
 refine(fresh_calls w hl r0).mono ?_
 rintro e w' ⟨v,rfl,hb,hr⟩
 exact⟨v,rfl,hb,hr.mono fun b hb=> .inr hb⟩
theorem Rest_vc{h:Hp}(hh:h.ok):VC Try.prog 20 false [hpV h] (hpV (restR h)):=by
 refine vc_of_wp Try.func20 follows (by kernel_rfl) c20 rfl ?_
 have k1:=CR_vc hh
 have f1:=fresh_vc14 hh.low
 have f2:=fresh_vc14 hh.high
 have f3:=fresh_vc14 hh.roots
 simp only[hpV]at k1
 unfold restR
 simp[p20]
 cases hc:h.cycle
 ·simp[hc]at k1
  simp[hc]
  refine callW_of k1 (by simp) ?_
  cases hr:rightR h
  ·simp[hpV,Hp.zero]
  simp
  refine callW_of f1 (by simp) ?_
  simp
  refine callW_of f2 (by simp) ?_
  simp
  refine callW_of f3 (by simp) ?_
  obtain⟨p,r⟩:=right_iff.1 hr
  obtain⟨_,e2,e3⟩:=r.rest hc
  simp[hpV,e2,e3,hc]
 ·simp[hc,hpV,Hp.zero]
end Vm
end
section
namespace Vm
open Go Go.Proofs Go.RowKit
set_option maxHeartbeats 1000000
set_option maxRecDepth 100000
def ex14:Hp:=⟨10,5,0,false,2,[2,6],[],[],[],[21]⟩
def ey14:Hp:=⟨10,5,1,true,0,[2,6],[],[31,0],[],[31]⟩
def ez14:Hp:=⟨10,5,0,false,2,[2,6],[],[],[],[0]⟩
def eu14:Hp:=⟨10,5,1,false,0,[],[],[],[],[0]⟩
theorem ex14_ok:ex14.ok:=by refine⟨?_,?_,?_,?_,?_,?_,?_,?_,?_,?_,?_,?_,?_,?_⟩<;>simp[ex14,U64,Fit]
theorem ey14_ok:ey14.ok:=by refine⟨?_,?_,?_,?_,?_,?_,?_,?_,?_,?_,?_,?_,?_,?_⟩<;>simp[ey14,U64,Fit]
theorem ez14_ok:ez14.ok:=by refine⟨?_,?_,?_,?_,?_,?_,?_,?_,?_,?_,?_,?_,?_,?_⟩<;>simp[ez14,U64,Fit]
theorem eu14_ok:eu14.ok:=by refine⟨?_,?_,?_,?_,?_,?_,?_,?_,?_,?_,?_,?_,?_,?_⟩<;>simp[eu14,U64,Fit]
theorem zero_ok14:Hp.zero.ok:=by refine⟨?_,?_,?_,?_,?_,?_,?_,?_,?_,?_,?_,?_,?_,?_⟩<;>simp[Hp.zero,U64,Fit]
theorem awake14_vc:VC Try.prog 11 false [] (.bool true):=by
 refine vc_of_wp Try.func11 follows (by kernel_rfl) c11 rfl ?_
 have r1:flipR ex14=(ey14,0):=by decide+kernel
 have r2:flipR ey14=(Hp.zero,10):=by decide+kernel
 have r3:flipR Hp.zero=(Hp.zero,1):=by decide+kernel
 have r4:flipR ez14=(eu14,0):=by decide+kernel
 have r5:restR ex14=ex14:=by decide+kernel
 have r6:restR ey14=Hp.zero:=by decide+kernel
 have m1:=Flip_vc ex14_ok
 have m2:=Flip_vc ey14_ok
 have m3:=Flip_vc zero_ok14
 have m4:=Flip_vc ez14_ok
 have m5:=Rest_vc ex14_ok
 have m6:=Rest_vc ey14_ok
 have s1:=sameH_vc (b:=ey14) ey14_ok
 have s2:=sameH_vc (b:=eu14) eu14_ok
 have s3:=sameH_vc (b:=ex14) ex14_ok
 have s4:=sameH_vc (b:=Hp.zero) zero_ok14
 rw[r1]at m1
 rw[r2]at m2
 rw[r3]at m3
 rw[r4]at m4
 rw[r5]at m5
 rw[r6]at m6
 simp only[hpV,ex14,ey14,ez14,eu14,Hp.zero,List.map_cons,List.map_nil]at m1 m2 m3 m4 m5 m6 s1 s2 s3 s4
 simp[p11]
 refine callW_of m1 (by simp) ?_
 simp
 refine callW_of m2 (by simp) ?_
 simp
 refine callW_of m3 (by simp) ?_
 simp
 refine callW_of m4 (by simp) ?_
 simp
 refine callW_of s1 (by simp) ?_
 simp
 refine callW_of s2 (by simp) ?_
 simp
 refine callW_of m5 (by simp) ?_
 simp
 refine callW_of s3 (by simp) ?_
 simp
 refine callW_of m6 (by simp) ?_
 simp
 refine callW_of s4 (by simp) ?_
 simp
end Vm
end
section
namespace Vm
open Go Go.Proofs
set_option maxRecDepth 100000
set_option maxHeartbeats 1000000
structure Made (b:Bt) (x:Rw):Prop where
 pl:Placed b x
 lay:rightL (layH b.h)=true
 nine: ∀n∈b.g.nodes,sizN n≤9
 cyc:b.h.cycle=true→ ∀i,i<b.g.nodes.length→(hereAt b i).part=1→(oldAt b i).part≠0
 scan:0≤b.h.scan∧b.h.scan≤b.h.low.length∧(if b.h.cycle then b.h.scan<b.h.low.length else b.h.scan=b.h.low.length∧b.h.old= []∧b.h.far= [])
 room:(b.h.low.length:Int)+b.h.high.length+((wtL (obs b 3)+wtL (obs b 4):Nat):Int)≤b.h.cap
 fit:Fit b.h.scan
def ptsB(b:Bt):Pts:=⟨obs b 1,obs b 2,obs b 3,obs b 4⟩
theorem ptsB_at(b:Bt){k:Int}(hk:1≤k∧k≤4):(ptsB b).at k=obs b k:=by
 have h1:k=1∨k=2∨k=3∨k=4:=by omega
 rcases h1 with rfl|rfl|rfl|rfl<;>rfl
section
variable {b:Bt} {x:Rw}
theorem Made.fill(m:Made b x):(fillH x b).ok∧layH (fillH x b)=layH b.h∧(fillH x b).scan=b.h.scan∧(fillH x b).cycle=b.h.cycle:=fillH_ok m.pl.ok m.fit
theorem Made.tiles(m:Made b x){k:Int}(hk:1≤k∧k≤4):Tiles (partH (fillH x b) k) (decide (2<k)) 0 (obs b k):=obs_tile m.pl m.lay m.nine hk
theorem Made.start(m:Made b x){k a:Int}(hk:1≤k∧k≤4)(ha:0≤a∧a<sizL (layH b.h) k):startR (fillH x b) k a=fstL (layH b.h) k+a:=by
 unfold startR
 rw[m.fill.2.1,addr_in m.lay hk ha]
theorem sizN_pos(n:Nd):1≤sizN n:=by unfold sizN;omega
theorem Made.ob_here(m:Made b x){i:Nat}(hi:i<b.g.nodes.length)(hp:(hereAt b i).part≠0): ∃o∈obs b (hereAt b i).part,o.at_=(hereAt b i).at_∧o.size=((ndAt b i).ptrs.length:Int)+(ndAt b i).data.length∧o.ptrs=(ndAt b i).ptrs.length∧o.gone=false:=
 ⟨_,mem_obs.2 ⟨i,hi,by unfold obAt;rw[if_pos rfl];exact .head _⟩,rfl,rfl,rfl,rfl⟩
theorem Made.ob_old(m:Made b x){i:Nat}(hi:i<b.g.nodes.length)(hp:(oldAt b i).part≠0): ∃o∈obs b (oldAt b i).part,o.at_=(oldAt b i).at_:=by
 obtain⟨h1,h2,h3,h4⟩:=m.pl.old_in hi hp
 have hne: ¬(hereAt b i).part=(oldAt b i).part:=by
  by_cases h0:(hereAt b i).part=0
  ·omega
  ·have:=(m.pl.here_in hi h0).1;omega
 by_cases h0:(hereAt b i).part=0
 ·exact⟨_,mem_obs.2 ⟨i,hi,by unfold obAt;rw[if_neg hne,if_pos rfl,if_pos h0];exact .head _⟩,rfl⟩
 ·exact⟨_,mem_obs.2 ⟨i,hi,by unfold obAt;rw[if_neg hne,if_pos rfl,if_neg h0];exact .head _⟩,rfl⟩
theorem Made.to_here(m:Made b x){i:Nat}(hi:i<b.g.nodes.length):goesR (fillH x b) (ptsB b) (refB b.h (hereAt b i)) 1 2=true:=by
 by_cases h0:(hereAt b i).part=0
 ·have:refB b.h (hereAt b i)=0:=by unfold refB;rw[if_pos h0]
  rw[this]
  simp[goesR]
 ·obtain⟨h1,h2,h3⟩:=m.pl.here_in hi h0
  have hs:=sizN_pos (ndAt b i)
  obtain⟨o,ho,ha,_⟩:=m.ob_here hi h0
  rw[m.pl.ref_here m.lay hi h0]
  unfold goesR
  rw[adr_ref m.lay (by omega)]
  have:(atR (fillH x b) (hereAt b i).part (obs b (hereAt b i).part) (fstL (layH b.h) (hereAt b i).part+(hereAt b i).at_)).isSome=true:=by
   refine atR_isSome.2 ⟨o,ho,?_⟩
   rw[ha,m.start (by omega) ⟨by omega,by omega⟩]
  rcases h1 with h|h
  ·rw[h]at this
   rw[h]
   simp only[ptsB_at b (show 1≤(1:Int)∧(1:Int)≤4 by omega),this]
   simp
  ·rw[h]at this
   rw[h]
   simp only[ptsB_at b (show 1≤(2:Int)∧(2:Int)≤4 by omega),this]
   simp
theorem Made.to_old(m:Made b x){i:Nat}(hi:i<b.g.nodes.length):goesR (fillH x b) (ptsB b) (refB b.h (oldAt b i)) 3 4=true:=by
 by_cases h0:(oldAt b i).part=0
 ·have:refB b.h (oldAt b i)=0:=by unfold refB;rw[if_pos h0]
  rw[this]
  simp[goesR]
 ·obtain⟨h1,h2,_,h3⟩:=m.pl.old_in hi h0
  have hs:=sizN_pos (ndAt b i)
  obtain⟨o,ho,ha⟩:=m.ob_old hi h0
  rw[m.pl.ref_old m.lay hi h0]
  unfold goesR
  rw[adr_ref m.lay (by omega)]
  have:(atR (fillH x b) (oldAt b i).part (obs b (oldAt b i).part) (fstL (layH b.h) (oldAt b i).part+(oldAt b i).at_)).isSome=true:=by
   refine atR_isSome.2 ⟨o,ho,?_⟩
   rw[ha,m.start (by omega) ⟨by omega,by omega⟩]
  rcases h1 with h|h
  ·rw[h]at this
   rw[h]
   simp only[ptsB_at b (show 1≤(3:Int)∧(3:Int)≤4 by omega),this]
   simp
  ·rw[h]at this
   rw[h]
   simp only[ptsB_at b (show 1≤(4:Int)∧(4:Int)≤4 by omega),this]
   simp
theorem Made.same_at(m:Made b x){k:Int}(hk:1≤k∧k≤4){o q:Ob}(ho:o∈obs b k)(hq:q∈obs b k)(h:q.at_=o.at_):q=o:=by
 have ht:=m.tiles hk
 rcases ht.apart q hq o ho with h1|h1|h1
 ·exact h1
 ·have:=shapeOk_iff.1 (ht.stands q hq).1.shape;omega
 ·have:=shapeOk_iff.1 (ht.stands o ho).1.shape;omega
theorem Made.ob_in(m:Made b x){k:Int}(hk:1≤k∧k≤4){o:Ob}(ho:o∈obs b k):0≤o.at_∧o.at_<sizL (layH b.h) k:=by
 have hs:=((m.tiles hk).stands o ho).1
 have h1:=shapeOk_iff.1 hs.shape
 have h2:=hs.fits
 have h3:=hs.nat
 have:sizL (layH b.h) k=(partH (fillH x b) k).length:=by rw[←m.fill.2.1,sizL_part _ hk]
 omega
theorem Made.find(m:Made b x){k:Int}(hk:1≤k∧k≤4){o:Ob}(ho:o∈obs b k):atR (fillH x b) k (obs b k) (fstL (layH b.h) k+o.at_)=some o:=by
 rw[←m.start hk (m.ob_in hk ho)]
 refine atR_of ho fun q hq e=>m.same_at hk ho hq ?_
 rw[m.start hk (m.ob_in hk ho),m.start hk (m.ob_in hk hq)]at e
 omega
theorem mem_obAt_gone{k:Int}{i:Nat}{o:Ob}(h:o∈obAt b k i)(hg:o.gone=true): ¬(hereAt b i).part=k∧(oldAt b i).part=k∧ ¬(hereAt b i).part=0∧o=⟨(oldAt b i).at_,((ndAt b i).ptrs.length:Int)+(ndAt b i).data.length,(ndAt b i).ptrs.length,true,(adr (refB b.h (hereAt b i))).1⟩:=by
 unfold obAt at h
 split at h
 ·simp at h;subst h;simp at hg
 rename_i h1
 split at h
 ·rename_i h2
  split at h
  ·simp at h;subst h;simp at hg
  ·rename_i h3
   simp at h
   exact⟨h1,h2,h3,h⟩
 ·simp at h
theorem Made.gone(m:Made b x){k:Int}(hk:3≤k∧k≤4):GoneOk (fillH x b) (obs b 1) (obs b k):=by
 intro o ho hg
 obtain⟨i,hi,hoi⟩:=mem_obs.1 ho
 obtain⟨h1,h2,h3,rfl⟩:=mem_obAt_gone hoi hg
 obtain⟨u1,u2,u3⟩:=m.pl.here_in hi h3
 have hn2:=(m.pl.old_in hi (by omega)).2.2.1
 have hp1:(hereAt b i).part=1:=by omega
 obtain⟨q,hq,q1,q2,q3,_⟩:=m.ob_here hi h3
 rw[hp1]at hq
 refine⟨q,?_,q2,q3⟩
 simp only
 rw[m.pl.ref_here m.lay hi h3,adr_ref m.lay (by omega),hp1,←q1]
 exact m.find (by omega) hq
theorem Made.parts(m:Made b x):partsR (fillH x b)=some (ptsB b):=
 parts_of (m.tiles (k:=1) (by omega)) (m.tiles (k:=2) (by omega)) (m.tiles (k:=3) (by omega)) (m.tiles (k:=4) (by omega)) (m.gone (by omega)) (m.gone (by omega))
theorem tgL_append(l r:List Ob)(a:Int):tgL (l++r) a=tgL l a+tgL r a:=by simp[tgL]
theorem tg_at(b:Bt)(k:Int)(j:Nat)(a:Int):tgL (obAt b k j) a=if ¬(hereAt b j).part=k∧(oldAt b j).part=k∧ ¬(hereAt b j).part=0∧(adr (refB b.h (hereAt b j))).1=a then 1 else 0:=by
 unfold obAt
 by_cases h1:(hereAt b j).part=k
 ·rw[if_pos h1,if_neg (fun h=>h.1 h1)]
  simp[tgL]
 rw[if_neg h1]
 by_cases h2:(oldAt b j).part=k
 ·rw[if_pos h2]
  by_cases h3:(hereAt b j).part=0
  ·rw[if_pos h3,if_neg (fun h=>h.2.2.1 h3)]
   simp[tgL]
  ·rw[if_neg h3]
   by_cases h4:(adr (refB b.h (hereAt b j))).1=a
   ·rw[if_pos ⟨h1,h2,h3,h4⟩]
    simp[tgL,h4]
   ·rw[if_neg (fun h=>h4 h.2.2.2)]
    simp[tgL,h4]
 ·rw[if_neg h2,if_neg (fun h=>h2 h.2.1)]
  simp[tgL]
theorem Made.once(m:Made b x)(hc:b.h.cycle=true){i:Nat}(hi:i<b.g.nodes.length)(hp:(hereAt b i).part=1):targR (ptsB b) (fstL (layH b.h) 1+(hereAt b i).at_)=1:=by
 have key: ∀j,j≤b.g.nodes.length→tgL ((List.range j).flatMap (obAt b 3)) (fstL (layH b.h) 1+(hereAt b i).at_)+tgL ((List.range j).flatMap (obAt b 4)) (fstL (layH b.h) 1+(hereAt b i).at_)=if i<j then 1 else 0:=by
  intro j
  induction j with
  |zero=>intro _;simp[tgL]
  |succ j ih=>
   intro hj
   have ih:=ih (by omega)
   have hjl:j<b.g.nodes.length:=by omega
   rw[List.range_succ,List.flatMap_append,List.flatMap_append,tgL_append,tgL_append]
   simp only[List.flatMap_cons,List.flatMap_nil,List.append_nil]
   have hone:tgL (obAt b 3 j) (fstL (layH b.h) 1+(hereAt b i).at_)+tgL (obAt b 4 j) (fstL (layH b.h) 1+(hereAt b i).at_)=if j=i then 1 else 0:=by
    rw[tg_at,tg_at]
    by_cases h0:(hereAt b j).part=0
    ·have: ¬j=i:=fun e=>by subst e;omega
     rw[if_neg this,if_neg (fun h=>h.2.2.1 h0),if_neg (fun h=>h.2.2.1 h0)]
    obtain⟨u1,u2,u3⟩:=m.pl.here_in hjl h0
    by_cases hj1:(hereAt b j).part=1
    ·have ho:=m.cyc hc j hjl hj1
     obtain⟨v1,_⟩:=m.pl.old_in hjl ho
     have htg:(adr (refB b.h (hereAt b j))).1=fstL (layH b.h) 1+(hereAt b j).at_:=by rw[m.pl.ref_here m.lay hjl h0,adr_ref m.lay (by omega),hj1]
     have heq:(fstL (layH b.h) 1+(hereAt b j).at_=fstL (layH b.h) 1+(hereAt b i).at_)↔j=i:=by
      constructor
      ·intro e
       obtain⟨w1,w2,w3⟩:=m.pl.here_in hi (by omega)
       rw[hj1]at u2
       rw[hp]at w2
       have hs1:=sizN_pos (ndAt b i)
       have hs2:=sizN_pos (ndAt b j)
       have bi:(blk b x 1 i).length=sizN (ndAt b i):=by unfold blk;rw[if_pos hp];exact laidN_len _ _ _ _
       have bj:(blk b x 1 j).length=sizN (ndAt b j):=by unfold blk;rw[if_pos hj1];exact laidN_len _ _ _ _
       by_cases hlt:j<i
       ·obtain⟨r,hr⟩:=cat_mono b x 1 (show j+1≤i by omega)
        rw[cat_succ]at hr
        have:=congrArg List.length hr
        simp[bj]at this
        omega
       ·by_cases hgt:i<j
        ·obtain⟨r,hr⟩:=cat_mono b x 1 (show i+1≤j by omega)
         rw[cat_succ]at hr
         have:=congrArg List.length hr
         simp[bi]at this
         omega
        ·omega
      ·rintro rfl;rfl
     rw[htg]
     rcases v1 with v|v
     ·rw[if_neg (show ¬(¬(hereAt b j).part=4∧(oldAt b j).part=4∧_)from fun h=>by have:=h.2.1;omega)]
      by_cases hji:j=i
      ·rw[if_pos hji,if_pos ⟨by omega,v,h0,heq.2 hji⟩]
      ·rw[if_neg hji,if_neg (fun h=>hji (heq.1 h.2.2.2))]
     ·rw[if_neg (show ¬(¬(hereAt b j).part=3∧(oldAt b j).part=3∧_)from fun h=>by have:=h.2.1;omega)]
      by_cases hji:j=i
      ·rw[if_pos hji,if_pos ⟨by omega,v,h0,heq.2 hji⟩]
      ·rw[if_neg hji,if_neg (fun h=>hji (heq.1 h.2.2.2))]
    ·have hp2:(hereAt b j).part=2:=by omega
     have hold:(oldAt b j).part=0:=by
      by_cases h:(oldAt b j).part=0
      ·exact h
      ·exact absurd hp2 (m.pl.old_in hjl h).2.2.1
     have: ¬j=i:=fun e=>by subst e;omega
     rw[if_neg this,if_neg (fun h=>by have:=h.2.1;omega),if_neg (fun h=>by have:=h.2.1;omega)]
   by_cases hji:j=i
   ·subst hji
    rw[if_pos rfl]at hone
    rw[if_neg (Nat.lt_irrefl _)]at ih
    rw[if_pos (Nat.lt_succ_self _)]
    omega
   ·rw[if_neg hji]at hone
    by_cases hij:i<j
    ·rw[if_pos hij]at ih
     rw[if_pos (show i<j+1 by omega)]
     omega
    ·rw[if_neg hij]at ih
     rw[if_neg (show ¬i<j+1 by omega)]
     omega
 have:=key b.g.nodes.length (Nat.le_refl _)
 rw[if_pos hi]at this
 exact this
end
end Vm
end
section
namespace Vm
open Go Go.Proofs
set_option maxRecDepth 100000
set_option maxHeartbeats 1000000
section
variable {b:Bt} {x:Rw}
theorem Made.word(m:Made b x){k:Int}(hk:1≤k∧k≤4){i t:Nat}(hi:i<b.g.nodes.length)(ht:t< (blk b x k i).length):(partH (fillH x b) k)[(cat b x k i).length+t]? =(blk b x k i)[t]? :=by
 rw[fill_parts m.pl hk]
 obtain⟨r,hr⟩:=cat_mono b x k (show i+1≤b.g.nodes.length by omega)
 rw[hr,cat_succ,List.append_assoc,List.getElem?_append_right (by omega),Nat.add_sub_cancel_left,List.getElem?_append_left ht]
theorem laidN_slot{p:Pl}{n:Nd}{tw:Int}{j:Nat}(hj:j<n.ptrs.length): ∃q∈n.ptrs,(laidN b p n tw)[1+j]? =some (slotB b ⟨p.part,((p.at_.toNat+1+j:Nat):Int)⟩ q (IntKind.i64.wrap (tw+j))):=by
 refine⟨n.ptrs[j],List.getElem_mem hj,?_⟩
 unfold laidN
 rw[Nat.add_comm 1 j,List.getElem?_cons_succ,List.getElem?_append_left (by simp[slotsB];exact hj)]
 simp[slotsB,hj]
theorem goes_zero(h:Hp)(p:Pts)(k j:Int):goesR h p 0 k j=true:=by simp[goesR]
theorem Made.ptr_ok(m:Made b x)(hp: ∀n∈b.g.nodes,∀q∈n.ptrs,-1≤q∧q< (b.g.nodes.length:Int)){i:Nat}(hi:i<b.g.nodes.length){k:Int}{p:Pl}(hk:p.part=k){a:Nat}{tq_ tw:Int}(hto:tq_∈(ndAt b i).ptrs)(hw:((partH (fillH x b) k)[a]?).getD 0=slotB b ⟨p.part,(a:Int)⟩ tq_ tw):ptrOk (fillH x b) (ptsB b) k a=true:=by
 have hb:=hp (ndAt b i) (by unfold ndAt;rw[List.getElem?_eq_getElem hi];exact List.getElem_mem hi) tq_ hto
 unfold ptrOk
 simp only[hw]
 unfold slotB
 rw[hk]
 by_cases h0:tq_<0
 ·rw[if_pos h0]
  simp[goes_zero]
 obtain⟨t,rfl⟩:=Int.eq_ofNat_of_zero_le (show 0≤tq_ by omega)
 have ht:t<b.g.nodes.length:=by omega
 rw[if_neg h0]
 have g1:=m.to_here (i:=t) ht
 have g2:=m.to_old (i:=t) ht
 unfold hereAt at g1
 unfold oldAt at g2
 simp only[Int.toNat_natCast]
 by_cases h2:2<k
 ·rw[if_pos h2,if_pos h2]
  exact g2
 rw[if_neg h2,if_neg h2]
 rw[m.fill.2.2.1]
 by_cases h3:k=1∧b.h.scan≤(a:Int)
 ·rw[if_pos h3]
  split
  ·rw[g2];simp
  ·rw[g1];simp
 ·rw[if_neg h3,if_neg (fun h=>h3 ⟨h.1,h.2.1⟩)]
  exact g1
theorem Made.ptrs(m:Made b x)(hp: ∀n∈b.g.nodes,∀q∈n.ptrs,-1≤q∧q< (b.g.nodes.length:Int)){k:Int}(hk:1≤k∧k≤4):ptrsR (fillH x b) (ptsB b) k=true:=by
 unfold ptrsR
 rw[ptsB_at b hk,List.all_eq_true]
 intro o ho
 obtain⟨i,hi,hoi⟩:=mem_obs.1 ho
 unfold obPtrs
 rw[List.all_eq_true]
 intro j hj
 rw[List.mem_range]at hj
 unfold obAt at hoi
 split at hoi
 ·rename_i h1
  simp at hoi
  subst hoi
  simp only[Int.toNat_natCast]at hj
  obtain⟨_,q2,_⟩:=m.pl.here_in hi (by omega)
  rw[h1]at q2
  have hb:blk b x k i=laidN b (hereAt b i) (ndAt b i) (IntKind.i64.wrap (x.slack+i)):=by unfold blk;rw[if_pos h1]
  obtain⟨q,hq,hs⟩:=laidN_slot (b:=b) (p:=hereAt b i) (tw:=IntKind.i64.wrap (x.slack+i)) hj
  have hw:=m.word hk hi (t:=1+j) (by rw[hb,laidN_len];unfold sizN;omega)
  rw[hb,hs]at hw
  simp only
  refine m.ptr_ok hp hi h1 (tw:=IntKind.i64.wrap (IntKind.i64.wrap (x.slack+i)+j)) hq ?_
  rw[q2]at hw⊢
  simp only[Int.toNat_natCast]at hw⊢
  rw[←Nat.add_assoc]at hw
  rw[hw]
  rfl
 rename_i h1
 split at hoi
 ·rename_i h2
  obtain⟨_,q2,_⟩:=m.pl.old_in hi (by omega)
  rw[h2]at q2
  split at hoi
  ·rename_i h3
   simp at hoi
   subst hoi
   simp only[Int.toNat_natCast]at hj
   have hb:blk b x k i=laidN b (oldAt b i) (ndAt b i) 0:=by unfold blk;rw[if_neg h1,if_pos h2,if_pos h3]
   obtain⟨q,hq,hs⟩:=laidN_slot (b:=b) (p:=oldAt b i) (tw:=0) hj
   have hw:=m.word hk hi (t:=1+j) (by rw[hb,laidN_len];unfold sizN;omega)
   rw[hb,hs]at hw
   simp only
   refine m.ptr_ok hp hi h2 (tw:=IntKind.i64.wrap (0+j)) hq ?_
   rw[q2]at hw⊢
   simp only[Int.toNat_natCast]at hw⊢
   rw[←Nat.add_assoc]at hw
   rw[hw]
   rfl
  ·rename_i h3
   simp at hoi
   subst hoi
   simp only[Int.toNat_natCast]at hj
   have hb:blk b x k i=goneN b (hereAt b i) (ndAt b i):=by unfold blk;rw[if_neg h1,if_pos h2,if_neg h3]
   have hw:=m.word hk hi (t:=1+j) (by rw[hb,goneN_len];unfold sizN;omega)
   have hz:(goneN b (hereAt b i) (ndAt b i))[1+j]? =some 0:=by
    unfold goneN
    rw[Nat.add_comm 1 j,List.getElem?_cons_succ,List.getElem?_replicate,if_pos (by unfold sizN;omega)]
   rw[hb,hz]at hw
   unfold ptrOk
   simp only
   rw[q2,Int.toNat_natCast,show(cat b x k i).length+1+j=(cat b x k i).length+(1+j)by omega,hw]
   simp[goes_zero]
 ·simp at hoi
theorem Made.right(m:Made b x)(hp: ∀n∈b.g.nodes,∀q∈n.ptrs,-1≤q∧q< (b.g.nodes.length:Int)):rightR (fillH x b)=true:=by
 have hl:=m.fill.2.1
 have hlow:(fillH x b).low.length=b.h.low.length:=by have:=congrArg Ly.low hl;simp only[layH]at this;omega
 have hhigh:(fillH x b).high.length=b.h.high.length:=by have:=congrArg Ly.high hl;simp only[layH]at this;omega
 have hold:(fillH x b).old.length=b.h.old.length:=by have:=congrArg Ly.old hl;simp only[layH]at this;omega
 have hfar:(fillH x b).far.length=b.h.far.length:=by have:=congrArg Ly.far hl;simp only[layH]at this;omega
 have hcap:(fillH x b).cap=b.h.cap:=congrArg Ly.cap hl
 refine right_of ?_ m.parts ?_
 ·unfold numR
  have hs:=m.scan
  have hrl:=m.pl.ok.rl
  have hro:(fillH x b).roots.length≤5:=by simp only[fillH,List.length_map];exact hrl
  rw[hl,m.lay,m.fill.2.2.1,m.fill.2.2.2,hlow,hold,hfar]
  obtain⟨s1,s2,s3⟩:=hs
  cases hc:b.h.cycle
  ·rw[hc]at s3
   simp only[Bool.false_eq_true,if_false]at s3
   simp[s1,s2,s3]
   omega
  ·rw[hc]at s3
   simp only[if_true]at s3
   simp[s1,s2,s3]
   omega
 ·unfold rightP
  simp only[Bool.and_eq_true,decide_eq_true_eq]
  refine⟨⟨⟨⟨⟨⟨?_,?_⟩,m.ptrs hp (by omega)⟩,m.ptrs hp (by omega)⟩,m.ptrs hp (by omega)⟩,m.ptrs hp (by omega)⟩,?_⟩
  ·rw[m.fill.2.2.2]
   cases hc:b.h.cycle
   ·rfl
   ·simp only[Bool.not_true,Bool.false_or,List.all_eq_true]
    intro o ho
    obtain⟨i,hi,hoi⟩:=mem_obs.1 ho
    have h1:(hereAt b i).part=1∧o.at_=(hereAt b i).at_:=by
     unfold obAt at hoi
     split at hoi
     ·rename_i h1;simp at hoi;subst hoi;exact⟨h1,rfl⟩
     split at hoi
     ·rename_i h2
      have:=(m.pl.old_in hi (by omega)).1
      omega
     ·simp at hoi
    have hin:=m.ob_in (k:=1) (by omega) ho
    unfold tgOk
    rw[m.start (by omega) hin,h1.2,decide_eq_true_eq]
    exact m.once hc hi h1.1
  ·rw[List.all_eq_true]
   intro w hw
   simp only[fillH,List.mem_map]at hw
   obtain⟨r,hr,rfl⟩:=hw
   have hrl:=m.pl.ok.rts r hr
   by_cases h0:0≤r
   ·rw[if_pos h0]
    have hlk:=like_N (x:=x) m.pl.ok b.g.nodes.length (Nat.le_refl _)
    rw[refB_like hlk]
    obtain⟨t,rfl⟩:=Int.eq_ofNat_of_zero_le h0
    exact m.to_here (i:=t) (by omega)
   ·rw[if_neg h0]
    exact goes_zero _ _ _ _
  ·rw[hlow,hhigh,hcap]
   exact m.room
end
end Vm
end
section
namespace Vm
open Go Go.Proofs
set_option maxRecDepth 100000
set_option maxHeartbeats 1000000
theorem wtL_append(l r:List Ob):wtL (l++r)=wtL l+wtL r:=by simp[wtL]
section
variable {x:Rw} {c:Bool}
theorem wt_one{b:Bt}(hpl:Placed b x){i:Nat}(hi:i<b.g.nodes.length):wtL (obAt b 3 i)+wtL (obAt b 4 i)=if(hereAt b i).part=0 then sizN (ndAt b i)else 0:=by
 have hz:((1:Nat)+(((ndAt b i).ptrs.length:Int)+(ndAt b i).data.length).toNat)=sizN (ndAt b i):=by unfold sizN;omega
 rcases hpl.here i hi with ⟨h1,k,hk,hok⟩ | ⟨h1,_⟩
 ·have h0:(hereAt b i).part=0:=by rw[h1]
  rw[if_pos h0]
  rcases hk with rfl|rfl<;>simp[obAt,h0,hok,wtL,wtO,hz]
 ·have e0: ¬(hereAt b i).part=0:=by omega
  have e3: ¬(hereAt b i).part=3:=by omega
  have e4: ¬(hereAt b i).part=4:=by omega
  have: ∀k:Int,¬(hereAt b i).part=k→wtL (obAt b k i)=0:=fun k hk=>by
   unfold obAt
   rw[if_neg hk,if_neg e0]
   split<;>simp[wtL,wtO]
  rw[if_neg e0,this 3 e3,this 4 e4]
theorem wt_upto(hx:x.ok): ∀j,j≤(mkG x.nodes x.roots).nodes.length→wtL ((List.range j).flatMap (obAt (standB x c) 3))+wtL ((List.range j).flatMap (obAt (standB x c) 4))=(stN x c (mkG x.nodes x.roots) j).wt
 |0,_=>rfl
 |j+1,hj=>by
  have ih:=wt_upto hx j (by omega)
  have h1:=wt_one (stand_placed (c:=c) hx) (i:=j) (by rw[standB_g];omega)
  rw[here_is (by omega)]at h1
  have hn:ndAt (standB x c) j=((mkG x.nodes x.roots).nodes[j]?).getD default:=rfl
  rw[hn]at h1
  rw[List.range_succ,List.flatMap_append,List.flatMap_append,wtL_append,wtL_append,stN]
  simp only[List.flatMap_cons,List.flatMap_nil,List.append_nil]
  generalize ((mkG x.nodes x.roots).nodes[j]?).getD default=n at*
  unfold hereF at h1
  simp only[stStep]
  rcases clsK_range x j c with h0|h0| ⟨h0,rfl⟩
  ·simp[h0]at h1⊢;omega
  ·simp[h0]at h1⊢;omega
  ·simp[h0]at h1⊢;omega
theorem mkG_ptrB(x:Rw)(c:Bool): ∀n∈(standB x c).g.nodes,∀q∈n.ptrs,-1≤q∧q< ((standB x c).g.nodes.length:Int):=by
 rw[standB_g]
 exact mkG_ptr x.nodes x.roots
theorem nofar(hc:c=false): ∀j,(stN x c (mkG x.nodes x.roots) j).n3=0∧(stN x c (mkG x.nodes x.roots) j).n4=0
 |0=>⟨rfl,rfl⟩
 |j+1=>by
  have:=nofar hc j
  subst hc
  simpa[stN,stStep]using this
theorem made(hx:x.ok)(hc:c=true→(standB x true).h.low.length≠0):Made (standB x c) x:=by
 obtain⟨k1,k2,k3⟩:=stand_ok hx c
 refine⟨stand_placed hx,k3,?_,?_,?_,?_,k2⟩
 ·rw[standB_g];exact sz9 x
 ·intro hcy i hi h1
  have hct:c=true:=hcy
  subst hct
  rw[standB_g]at hi
  rw[here_is hi]at h1
  rw[old_is hi]
  unfold hereF at h1
  unfold oldF
  rcases clsK_range x i true with h0|h0| ⟨h0,_⟩
  ·simp[h0]at h1
  ·simp[h0]
   cases clsF x i<;>simp
  ·simp[h0]at h1
 ·have hlow:(standB x c).h.low.length=(stN x c (mkG x.nodes x.roots) (mkG x.nodes x.roots).nodes.length).n1:=by simp[standB]
  cases c
  ·obtain⟨e3,e4⟩:=nofar (x:=x) (c:=false) rfl (mkG x.nodes x.roots).nodes.length
   rw[hlow]
   have hs:(standB x false).h.scan=((stN x false (mkG x.nodes x.roots) (mkG x.nodes x.roots).nodes.length).n1:Int):=by simp[standB]
   have hcy:(standB x false).h.cycle=false:=rfl
   rw[hs,hcy]
   simp only[Bool.false_eq_true,if_false]
   refine⟨by omega,by omega,trivial,?_,?_⟩<;>simp[standB,e3,e4]
  ·have h0:=hc rfl
   rw[hlow]at h0
   rw[hlow]
   have hs:(standB x true).h.scan=pick x.scan (stN x true (mkG x.nodes x.roots) (mkG x.nodes x.roots).nodes.length).n1:=by
    simp only[standB]
    rw[if_pos ⟨trivial,by omega⟩]
   have hcy:(standB x true).h.cycle=true:=rfl
   have hp:=pick_lt (c:=x.scan) (n:=((stN x true (mkG x.nodes x.roots) (mkG x.nodes x.roots).nodes.length).n1:Int)) (by omega)
   rw[hs,hcy]
   simp only[if_true]
   omega
 ·have hw:=wt_upto (c:=c) hx (mkG x.nodes x.roots).nodes.length (Nat.le_refl _)
  have hl:(standB x c).h.low.length=(stN x c (mkG x.nodes x.roots) (mkG x.nodes x.roots).nodes.length).n1:=by simp[standB]
  have hh:(standB x c).h.high.length=(stN x c (mkG x.nodes x.roots) (mkG x.nodes x.roots).nodes.length).n2:=by simp[standB]
  have hcap:(standB x c).h.cap=max (((stN x c (mkG x.nodes x.roots) (mkG x.nodes x.roots).nodes.length).n1:Int)+(stN x c (mkG x.nodes x.roots) (mkG x.nodes x.roots).nodes.length).n2+(stN x c (mkG x.nodes x.roots) (mkG x.nodes x.roots).nodes.length).wt) (((stN x c (mkG x.nodes x.roots) (mkG x.nodes x.roots).nodes.length).n3:Int)+(stN x c (mkG x.nodes x.roots) (mkG x.nodes x.roots).nodes.length).n4)+pick x.slack 12:=rfl
  have hp:=pick_lt (c:=x.slack) (n:=12) (by omega)
  unfold obs
  rw[standB_g,hw,hl,hh,hcap]
  omega
theorem stillX_made(hx:x.ok):Made (standB x false) x:=made hx (by simp)
theorem stillX_right(hx:x.ok):rightR (stillX x)=true:=(stillX_made hx).right (mkG_ptrB x false)
theorem stillX_ok(hx:x.ok):(stillX x).ok∧(stillX x).cycle=false∧(stillX x).roots.length≤5:=
 ⟨(fillH_ok (stand_ok hx false).1 (stand_ok hx false).2.1).1,(fillH_ok (stand_ok hx false).1 (stand_ok hx false).2.1).2.2.2,by
   have:=(stand_ok hx false).1.rl
   simp only[stillX,fillH,List.length_map]
   exact this⟩
end
end Vm
end
section
namespace Vm
open Go Go.Proofs
set_option maxRecDepth 100000
set_option maxHeartbeats 1000000
theorem flip_words{h:Hp}{p:Pts}(r:Rt h p):((waitR (flipP p):Nat):Int)=h.low.length+h.high.length:=by
 have t1:=r.tiles 1 (by omega)
 have t2:=r.tiles 2 (by omega)
 simp only[partH1,partH2,Pts.at1,Pts.at2]at t1 t2
 have h1:=t1.sum (Nat.zero_le _)
 have h2:=t2.sum (Nat.zero_le _)
 have w1:=wt_all t1.no_gone
 have w2:=wt_all t2.no_gone
 simp only[waitR,flipP]
 omega
theorem flipH_ok{h:Hp}(hh:h.ok)(ht:h.to=0∨h.to=1):(flipH h).ok:=by
 have:=flipL_ok hh ht h.roots.length
 unfold flipH flipE
 obtain⟨a1,a2,a3,a4,a5,a6,a7,a8,a9,b1,b2,b3,b4,b5⟩:=this
 split
 ·exact⟨a1,a2,a3,a4,a5,a6,a7,a8,a9,b1,b2,b3,b4,b5⟩
 ·exact⟨a1,a2,a3,a4,a5,a6,Nat.zero_le _,Nat.zero_le _,a9,b1,b2,fun w hw=>(by cases hw),fun w hw=>(by cases hw),b5⟩
theorem law14Room{x:Rw}(hx:x.ok):VC Try.prog 6 false [rwV x] (.bool true):=by
 refine vc_of_wp Try.func6 follows (by kernel_rfl) c6 rfl ?_
 simp[p6]
 refine callW_of awake14_vc (by simp) ?_
 simp
 have kh:=Still_vc hx
 unfold rwV at kh
 refine callW_of kh (by simp) ?_
 obtain⟨hh,hc,hro⟩:=stillX_ok hx
 obtain⟨p,r⟩:=right_iff.1 (stillX_right hx)
 generalize stillX x=h at*
 have hl:=r.lay
 have hto:h.to=0∨h.to=1:=by have:=rightL_iff.1 hl;exact this.2.2.2.2.1
 have k1:=Flip_vc hh
 have hfR:flipR h=(flipH h,0):=by unfold flipR;rw[if_neg (by rw[r.right];simp),if_neg (by rw[hc];simp)]
 rw[hfR]at k1
 have okf:=flipH_ok hh hto
 obtain⟨g0,q,I,hE,rE,_⟩:=flip_end r hc
 have wto:=wrap_i (1-h.to) (by omega) (by omega)
 have hlen1:=hh.low
 have hlen2:=hh.high
 have wus:=wrap_i ((h.low.length:Int)+h.high.length) (by omega) (by omega)
 have hrm:=I.ext.room
 have hwd:=flip_words r
 have hgh:g0.high= []:=I.ext.high
 have hgb:g0.base=h.base:=I.ext.base
 have hgc:g0.cap=h.cap:=I.ext.cap
 have hgt:g0.to=1-h.to:=I.ext.tos
 have kl:=refLayout_vc (h:=flipE g0)
 rw[hE]at k1 okf
 have kr:=roomL_vc okf.lay
 have kw:=CW_vc okf
 have hcap:=rightL_iff.1 hl
 have hdec:(g0.low.length:Int)+waitR q=h.low.length+h.high.length:=by
  have:(flip0 h).low= []:=rfl
  simp only[this,List.length_nil]at hrm
  omega
 have wq:=wrap_i ((g0.low.length:Int)+waitR q) (by omega) (by omega)
 have hcc:0≤h.cap∧h.cap≤4096:=⟨hcap.1,hcap.2.1⟩
 have hlc:(h.low.length:Int)+h.high.length≤h.cap:=by have:=hcap.2.2.2.2.2.1;simp only[layH]at this;omega
 have wc:=wrap_i (h.cap- (g0.low.length:Int)) (by omega) (by omega)
 clear hrm I hcap
 simp
 by_cases hlow:0<g0.low.length
 ·have hfe:flipE g0= {g0 with cycle:=true}:=if_pos hlow
  rw[hfe]at k1 kl kr kw rE
  rw[if_pos hlow]at rE
  rw[rE.wait]at kw
  have hrl:roomL (layH {g0 with cycle:=true})=h.cap-g0.low.length:=by unfold roomL;rw[if_pos rE.lay];simp[layH,hgh,hgc]
  rw[hrl]at kr
  simp only[hpV,lyV,layH,hgh,hgb,hgc,hgt]at k1 kl kr kw
  refine callW_of k1 (by simp) ?_
  simp[wus]
  refine callW_of kw (by simp) ?_
  simp[hdec,wus]
  refine callW_of kl (by simp) ?_
  simp
  refine callW_of kr (by simp) ?_
  simp[wc,wto]
 ·have hfe:flipE g0= {g0 with cycle:=false,old:= [],far:= []}:=if_neg hlow
  have hnil:g0.low= []:=List.length_eq_zero_iff.1 (by omega)
  rw[hfe]at k1 kl kr kw rE
  have hrl:roomL (layH {g0 with cycle:=false,old:= [],far:= []})=h.cap:=by unfold roomL;rw[if_pos rE.lay];simp[layH,hgh,hgc,hnil]
  rw[hrl]at kr
  simp only[hpV,lyV,layH,hgh,hgb,hgc,hgt,hnil,List.map_nil,List.length_nil]at k1 kl kr kw
  refine callW_of k1 (by simp) ?_
  have w0:=wrap_i (0:Int) (by omega) (by omega)
  simp[wus,w0]
  refine callW_of kl (by simp) ?_
  simp
  refine callW_of kr (by simp) ?_
  simp[wto]
end Vm
end
section
namespace Go.Proofs.Ytjkmonbmpoegjaa
open Vm Go.ChangeShapes Go.WideShapes Go.ChangeAt Go.RowKit
set_option maxRecDepth 100000
theorem flipRoom_law(xs:List V)(hl:xs.length=Try.f6.params.toList.length)(ht: ∀(i:Nat) (t:TypeId) (x:V),Try.f6.params.toList[i]? =some t→xs[i]? =some x→tyV Try.prog 8 t x):
  VC Try.prog 6 false xs (.bool true):=by
 rw[Try.params6]at hl ht
 match xs,hl with
 | [x0],_=>
   obtain⟨x,rfl,hx⟩:=ty_rw (ht 0 _ x0 rfl rfl)
   exact law14Room hx
theorem flipRoom_lifted(os:Os)(started:os.Started)(H:Type)(enc:TypeId×Value→H):
  ReturnsInHanded {} Try.checked os 6 .any (Rows.flipRoomSpec.pre6 enc Try.prog Try.f6 Rows.flipRoomRow.domain false) (Rows.flipRoomSpec.post enc Try.prog Try.f6 false true false false):=by
 refine returnsInHanded_of_change (C:=Try.checked) own started (by kernel_rfl) Try.func6
  (ChangeSpec.witness6 (enc:=enc) (C:=Try.checked) false ⟨#[], #[.agg #[.slice none 0 0,.slice none 0 0,.slice none 0 0,.int .u64 0,.int .i64 0,.int .i64 0,.int .i64 0]],[]⟩ 8 (by kernel_rfl) (by kernel_rfl) (by kernel_rfl) (by kernel_rfl)) ?_
 intro W base args ds gs before hval hW _ _
 exact law_contract (tb:=4) 8 laidOut (by kernel_rfl) (by kernel_rfl) rfl (by kernel_rfl) Try.underlying4 (fun H ds hd=>by
  rw[Try.params6]at hd
  match ds,hd with
  | [_],_=>rfl) flipRoom_law H enc W base args ds gs before hval hW
theorem flipRoom_holds:Rows.FlipRoomSaid:=
 OpenClaim.holds_of_wide 6 Try.f6 rfl rfl rfl rfl rfl rfl rfl ⟨rfl,rfl,rfl,rfl,rfl⟩ rfl rfl rfl rfl rfl (by kernel_rfl) Try.func6 (by kernel_rfl)
  (of_decide_eq_true (by kernel_rfl)) (by unfold Func.isWrapper;first| (rw[if_pos (by decide+kernel)];kernel_rfl) | (rw[if_neg (by decide+kernel)];exact⟨rfl,rfl⟩))
  (fun os started H enc _=>flipRoom_lifted os started H enc)
#print axioms flipRoom_holds
end Go.Proofs.Ytjkmonbmpoegjaa
end
