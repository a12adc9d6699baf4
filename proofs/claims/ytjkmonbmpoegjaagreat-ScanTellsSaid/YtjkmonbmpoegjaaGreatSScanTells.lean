/-
  The law ScanTells holds of the given program, for every input.
-/
import Derived.ScopeJumps
import Derived.WalkMore
import Derived.Deep.CutRange
import Derived.Deep.DeepCutAuto
import Derived.Deep.LoopGhost
import Derived.RangeFuncWrites
import Derived.Scope
import Derived.Laws.EntriesVeiled
import Derived.Test.YtjkmonbmpoegjaaGreatRows
import Derived.Test.YtjkmonbmpoegjaaGreatSScanTells6
set_option linter.unusedSimpArgs false
set_option linter.unusedVariables false
section
namespace Vm
open Go Go.Proofs Go.RowKit
set_option maxHeartbeats 40000000
set_option maxRecDepth 100000
end Vm
end
section
namespace Vm
open Go Go.Proofs Go.RowKit
set_option maxHeartbeats 1000000
set_option maxRecDepth 100000
theorem jM{w2:World}{b:Nat}{T:TypeId}{a0 a1 a2 a3 a4 a5 a6 a7 a8 a9:Value}(hb:w2.heap[b]? =some (.cells #[a0,a1,a2,a3,a4,a5,a6,a7,a8,a9] T (0,0))) (v0 v1 v2 v3 v4 v5 v6 v7 v8 v9:Value):((((((((((w2.setCell ⟨b,0,none⟩ v0).setCell ⟨b,1,none⟩ v1).setCell ⟨b,2,none⟩ v2).setCell ⟨b,3,none⟩ v3).setCell ⟨b,4,none⟩ v4).setCell ⟨b,5,none⟩ v5).setCell ⟨b,6,none⟩ v6).setCell ⟨b,7,none⟩ v7).setCell ⟨b,8,none⟩ v8).setCell ⟨b,9,none⟩ v9).heap[b]? =some (.cells #[v0,v1,v2,v3,v4,v5,v6,v7,v8,v9] T (0,0)):=by
 simp[World.setCell,Array.getElem?_modify,hb]
def hpC(h:Hp)(x:Nat→Value):Array Value:= #[.int .u64 h.base,.int .i64 h.cap,.int .i64 h.to,.bool h.cycle,.int .i64 h.scan,x 0,x 1,x 2,x 3,x 4]
theorem Qq{W:World}{G:Nat→Prop}{l:List Int}{y:Value}(h:Rd W G (.sl (l.map vu)) y){k:Nat}{u:Int}(hu:l[k]? =some u): ∃b o cap,y= .slice (some ⟨b,o,none⟩) l.length cap∧W.cell? ⟨b,o+k,none⟩=some (.int .u64 u)∧G b:=by
 have hkl:=(List.getElem?_eq_some_iff.1 hu).1
 generalize hL:l.map vu=L at h
 cases h with
 |nil=>simp at hL;subst hL;simp at hkl
 |sl _ b o cap kk vs h1 h2 h3 h4 h5 h6=>
  have hlen:L.length=l.length:=by rw[←hL,List.length_map]
  have hkk:kk=1:=by
   have:=(h4 (vu u) (by rw[←hL];exact List.mem_map_of_mem (List.mem_of_getElem? hu))).1
   simpa using this.symm
  subst hkk
  refine⟨b,o,cap,by rw[hlen],?_,h3⟩
  rw[h5 k (by omega)]
  have hf:(flat L)[k]? =some (vu u):=by rw[←hL,VW,List.getElem?_map,hu];rfl
  rw[Yt (h6 k _ hf)]
end Vm
end
section
namespace Vm
open Go Go.Proofs
set_option maxRecDepth 100000
def Y5(l:List Ob)(i:Int):Bool:=l.any fun o=>decide (o.at_<i)&&decide (i≤o.at_+o.ptrs)
def Yd(g:Hp):Hp:=if g.scan=g.low.length then {g with cycle:=false,old:= [],far:= []}else g
def YA(h:Hp):Hp:=
 Yd (if Y5 (Zg h.low [] false).1 h.scan=true then
  {(fwd h ((h.low[h.scan.toNat]?).getD 0)).2.1 with low:=(fwd h ((h.low[h.scan.toNat]?).getD 0)).2.1.low.set h.scan.toNat (fwd h ((h.low[h.scan.toNat]?).getD 0)).1,scan:=h.scan+1}
 else {h with scan:=h.scan+1})
def Zr(h:Hp):Nat→Hp
 |0=>h
 |k+1=>if h.cycle then Zr (YA h) k else h
section
variable {h g:Hp} {p q:Pts}
theorem Yr{l:List Ob}{i:Int}:Y5 l i=true↔ ∃o∈l,o.at_<i∧i≤o.at_+o.ptrs:=by
 unfold Y5
 simp
theorem Rt.walk(r:Rt h p):Zg h.low [] false=(p.low,0):=by
 have t:=r.tiles 1 (by omega)
 simp only[Xe,Pts.at1]at t
 refine U8 t ?_
 unfold XB
 have:p.low.filter (fun o=>o.gone)= []:=by
  rw[List.filter_eq_nil_iff]
  intro o ho
  rw[t.no_gone o ho]
  simp
 rw[this]
 rfl
theorem zW(t:Tld h p){w:Int}(hg:Gos h p w 1 2):Va w=true:=by
 unfold Va
 rcases hg.odd t (by omega) (by omega)with h0| ⟨k,_,_,_,o,_,h1,_⟩
 ·simp[h0]
 ·simp[h1]
theorem Body.set_low(b:Body g q){i:Nat}(hs:g.scan=i)(hi:i<g.low.length){v:Int}(hv:Gos g q v 1 2)(hp:Y5 q.low i=true):Body {g with low:=g.low.set i v,scan:=(i:Int)+1} q:=by
 obtain⟨o,ho,h1,h2⟩:=Yr.1 hp
 obtain⟨a,n,m,ea,en,em,hal,_,hmn⟩:=b.toTld.ob (k:=1) (by omega) ho
 simp only[Xe]at hal
 have hl:layH {g with low:=g.low.set i v,scan:=(i:Int)+1}=layH g:=by
  unfold layH
  simp
 have gos: ∀ {w i' j'},Gos {g with low:=g.low.set i v,scan:=(i:Int)+1} q w i' j'↔Gos g q w i' j':=zK hl
 have t1:=b.tiles 1 (by omega)
 simp only[Xe,Pts.at1]at t1
 have hword: ∀x∈q.low,∀j:Nat,(j:Int)≤x.size→x.at_.toNat+j=i→x=o∧0<j∧(j:Int)≤x.ptrs:=by
  intro x hx j hj e
  obtain⟨c,d,d',ec,ed,ed',_⟩:=b.toTld.ob (k:=1) (by omega) hx
  rcases t1.apart x hx o ho with e1|e1|e1
  ·subst e1
   exact⟨rfl,by omega,by omega⟩
  ·omega
  ·omega
 refine⟨⟨by rw[hl];exact b.lay,fun k hk=> ?_⟩,by rw[hl];exact b.gone,fun k hk x hx hg j hj w hw=> ?_,?_⟩
 ·by_cases k1:k=1
  ·subst k1
   show Tiles (g.low.set i v) _ 0 q.low
   refine t1.congr (by simp) fun x hx=> ?_
   have hst:=(t1.stands x hx).1
   have hsh:=Z2.1 hst.shape
   obtain⟨c,d,d',ec,ed,ed',hcl,_⟩:=b.toTld.ob (k:=1) (by omega) hx
   have hg:=t1.no_gone x hx
   have h0:(g.low.set i v)[x.at_.toNat]? =g.low[x.at_.toNat]? :=by
    refine List.getElem?_set_ne fun e=> ?_
    have:=(hword x hx 0 (by omega) (by omega)).2.1
    omega
   refine⟨hst.nat,hst.shape,by simpa using hst.fits,X6 fun j w hj=>⟨fun h=>(by rw[hg]at h;cases h),fun hp=> ?_⟩,by rw[h0];exact hst.word⟩
   have hlt:j<x.size.toNat:=by
    have:=(List.getElem?_eq_some_iff.1 hj).1
    simp at this
    omega
   rw[List.getElem?_take_of_lt hlt,List.getElem?_drop]at hj
   by_cases e:x.at_.toNat+1+j=i
   ·rw[e,List.getElem?_set_self hi]at hj
    cases hj
    exact zW b.toTld hv
   ·rw[List.getElem?_set_ne (fun h=>e h.symm)]at hj
    refine(XL hst.slots j w ?_).2 hp
    rw[List.getElem?_take_of_lt hlt,List.getElem?_drop]
    exact hj
  ·have:=b.tiles k hk
   have e:Z5 {g with low:=g.low.set i v,scan:=(i:Int)+1} k=Z5 g k:=by unfold Z5;rw[if_neg k1,if_neg k1]
   rw[e]
   exact this
 ·unfold Wn
  by_cases k1:k=1
  ·subst k1
   simp only[Xe]at hw
   rw[if_neg (by omega)]
   by_cases e:x.at_.toNat+1+j=i
   ·rw[e,List.getElem?_set_self hi]at hw
    cases hw
    rw[if_neg (by rw[e];simp only;omega)]
    exact gos.2 hv
   ·rw[List.getElem?_set_ne (fun h=>e h.symm)]at hw
    have:=b.ptr 1 hk x hx hg j hj w hw
    unfold Wn at this
    rw[if_neg (by omega)]at this
    by_cases c:g.scan≤((x.at_.toNat+1+j:Nat):Int)
    ·rw[if_pos ⟨rfl,c⟩]at this
     rw[if_pos ⟨rfl,by simp only;omega⟩]
     exact this.imp gos.2 gos.2
    ·rw[if_neg (fun h=>c h.2)]at this
     rw[if_neg (by simp only;omega)]
     exact gos.2 this
  ·have e:Z5 {g with low:=g.low.set i v,scan:=(i:Int)+1} k=Z5 g k:=by unfold Z5;rw[if_neg k1,if_neg k1]
   rw[e]at hw
   have:=b.ptr k hk x hx hg j hj w hw
   unfold Wn at this
   by_cases c:2<k
   ·rw[if_pos c]at this⊢;exact gos.2 this
   ·rw[if_neg c,if_neg (fun h=>k1 h.1)]at this
    rw[if_neg c,if_neg (fun h=>k1 h.1)]
    exact gos.2 this
 ·have:=b.room
  simpa using this
theorem Body.pass(b:Body g q){i:Nat}(hs:g.scan=i)(hp: ¬Y5 q.low i=true):Body {g with scan:=(i:Int)+1} q:=by
 refine⟨⟨b.lay,b.tiles⟩,b.gone,fun k hk x hx hg j hj w hw=> ?_,b.room⟩
 have:=b.ptr k hk x hx hg j hj w hw
 unfold Wn at this⊢
 by_cases c:2<k
 ·rw[if_pos c]at this⊢;exact this
 rw[if_neg c]at this⊢
 by_cases k1:k=1
 ·subst k1
  by_cases c:g.scan≤((x.at_.toNat+1+j:Nat):Int)
  ·rw[if_pos ⟨rfl,c⟩]at this
   have hne:x.at_.toNat+1+j≠i:=fun e=>hp (Yr.2 ⟨x,hx,by
    obtain⟨a,n,m,ea,en,em,_⟩:=b.toTld.ob (k:=1) (by omega) hx
    omega⟩)
   rw[if_pos ⟨rfl,by simp only;omega⟩]
   exact this
  ·rw[if_neg (fun h=>c h.2)]at this
   rw[if_neg (by simp only;omega)]
   exact this
 ·rw[if_neg (fun h=>k1 h.1)]at this⊢
  exact this
theorem Body.stop(b:Body g q)(hs:g.scan=g.low.length):Body {g with cycle:=false,old:= [],far:= []} ⟨q.low,q.high,[],[]⟩:=by
 have hl:=Zp.1 b.lay
 have hf: ∀k a:Int,(k=1∨k=2)→refR (layH {g with cycle:=false,old:= [],far:= []}) k a=refR (layH g) k a:=fun k a hk=>by
  rcases hk with rfl|rfl<;>rfl
 have gos: ∀ {w:Int},Gos g q w 1 2→Gos {g with cycle:=false,old:= [],far:= []} ⟨q.low,q.high,[],[]⟩ w 1 2:=fun {w} hg=>by
  rcases hg with rfl| ⟨k,o,hk,ho,rfl⟩
  ·exact .inl rfl
  ·refine .inr ⟨k,o,hk,?_,(hf k _ hk).symm⟩
   rcases hk with rfl|rfl<;>exact ho
 refine⟨⟨Zp.2 ?_,fun k hk=> ?_⟩,fun k hk o ho=> ?_,fun k hk x hx hg j hj w hw=> ?_,?_⟩
 ·simp only[layH,List.length_nil]at hl⊢
  omega
 ·have h4:k=1∨k=2∨k=3∨k=4:=by omega
  rcases h4 with rfl|rfl|rfl|rfl
  ·exact b.tiles 1 (by omega)
  ·exact b.tiles 2 (by omega)
  ·exact Nat.le_refl 0
  ·exact Nat.le_refl 0
 ·have h4:k=3∨k=4:=by omega
  rcases h4 with rfl|rfl<;>cases ho
 ·have h4:k=1∨k=2∨k=3∨k=4:=by omega
  rcases h4 with rfl|rfl|rfl|rfl
  ·have:=b.ptr 1 (by omega) x hx hg j hj w hw
   obtain⟨a,n,m,ea,en,em,hal,_,hmn⟩:=b.toTld.ob (k:=1) (by omega) hx
   simp only[Xe]at hal
   unfold Wn at this⊢
   rw[if_neg (by omega),if_neg (by omega)]at this
   rw[if_neg (by omega),if_neg (by simp only;omega)]
   exact gos this
  ·have:=b.ptr 2 (by omega) x hx hg j hj w hw
   unfold Wn at this⊢
   rw[if_neg (by omega),if_neg (by omega)]at this⊢
   exact gos this
  ·cases hx
  ·cases hx
 ·have:=b.room
  show(g.low.length:Int)+g.high.length+YL ⟨q.low,q.high,[],[]⟩≤g.cap
  simp[YL,wtL]
  omega
structure ScanTo (h:Hp) (p:Pts) (g:Hp) (q:Pts):Prop where
 eq:YA h=g
 rt:Rt g q
 low: ∃ws,g.low.length=h.low.length+ws∧ ∀j:Nat,(j:Int) <h.scan→g.low[j]? =h.low[j]?
 high:g.high=h.high
 roots:g.roots=h.roots
 num:g.base=h.base∧g.cap=h.cap∧g.to=h.to∧g.scan=h.scan+1
 obsL: ∃r,q.low=p.low++r
 obsH:q.high=p.high
 room:g.cycle=true→(g.low.length:Int)+YL q=h.low.length+YL p
 roomE:(g.low.length:Int)≤h.low.length+YL p
theorem Rt.scan(r:Rt h p)(hc:h.cycle=true): ∃g q,ScanTo h p g q:=by
 obtain⟨i,hi⟩:=Int.eq_ofNat_of_zero_le r.scan0
 have hil:i<h.low.length:=by have:=r.cyc hc;omega
 have hwk:=r.walk
 have fin: ∀(f:Hp) (s:Pts),Body f s→Once f s→f.scan=(i:Int)+1→f.cycle=true→(i:Int)+1≤f.low.length→(∀w∈f.roots,Gos f s w 1 2)→f.roots.length≤16→ ∃q,Rt (Yd f) q∧(q.low=s.low∧q.high=s.high)∧((Yd f).cycle=true→q=s):=by
  intro f s b o hs hcy hl hr hn
  unfold Yd
  by_cases e:f.scan=f.low.length
  ·rw[if_pos e]
   have b':=b.stop e
   refine⟨_,⟨b',hn,by show 0≤f.scan;omega,by show f.scan≤f.low.length;omega,fun h=>(by cases h),fun _=>⟨e,rfl,rfl⟩,fun h=>(by cases h),fun w hw=> ?_⟩,⟨rfl,rfl⟩,fun h=>(by cases h)⟩
   rcases hr w hw with rfl| ⟨k,o,hk,ho,rfl⟩
   ·exact .inl rfl
   ·refine .inr ⟨k,o,hk,?_,?_⟩
    ·rcases hk with rfl|rfl<;>exact ho
    ·rcases hk with rfl|rfl<;>rfl
  ·rw[if_neg e]
   exact⟨s,⟨b,hn,by omega,by omega,fun _=>by omega,fun h=>(by rw[hcy]at h;cases h),fun _=>o,hr⟩,⟨rfl,rfl⟩,fun _=>rfl⟩
 have endp: ∀f:Hp,(Yd f).low=f.low∧(Yd f).high=f.high∧(Yd f).roots=f.roots∧(Yd f).base=f.base∧(Yd f).cap=f.cap∧(Yd f).to=f.to∧(Yd f).scan=f.scan:=fun f=>by
  unfold Yd
  split<;>exact⟨rfl,rfl,rfl,rfl,rfl,rfl,rfl⟩
 have hw:h.low[i]? =some h.low[i]:=List.getElem?_eq_getElem hil
 generalize h.low[i]=w at hw
 by_cases hp:Y5 p.low i=true
 ·obtain⟨o,ho,h1,h2⟩:=Yr.1 hp
  obtain⟨a,n,m,ea,en,em,hal,_⟩:=r.toTld.ob (k:=1) (by omega) ho
  have hgw:Gos h p w 1 2∨Gos h p w 3 4:=by
   have t1:=r.tiles 1 (by omega)
   have:=r.ptr 1 (by omega) o ho (t1.no_gone o ho) (i-a-1) (by omega) w (by simp only[Xe];rw[ea,show(a:Int).toNat+1+(i-a-1)=i by omega];exact hw)
   unfold Wn at this
   rw[if_neg (by omega),if_pos ⟨rfl,by omega⟩]at this
   exact this
  obtain⟨v,g,q,f⟩:=r.toBody.forward (r.once hc) r.scanL hgw
  have hs:g.scan=i:=f.ext.scan.trans hi
  obtain⟨ws,hws⟩:=f.ext.low
  obtain⟨rs,hrs⟩:=f.ext.obsL
  have hil2:i<g.low.length:=by rw[hws,List.length_append];omega
  have hp2:Y5 q.low i=true:=Yr.2 ⟨o,by rw[hrs];exact List.mem_append_left _ ho,h1,h2⟩
  have b:=f.body.set_low hs hil2 f.tgo hp2
  have eq:YA h=Yd {g with low:=g.low.set i v,scan:=(i:Int)+1}:=by
   unfold YA
   rw[hwk,hi,if_pos hp]
   simp only[Int.toNat_natCast,hw,Option.getD_some,f.fwd]
  have hcy:g.cycle=true:=f.ext.cycle.trans hc
  have hl:layH {g with low:=g.low.set i v,scan:=(i:Int)+1}=layH g:=by unfold layH;simp
  have on:Once {g with low:=g.low.set i v,scan:=(i:Int)+1} q:=by
   have:=f.once
   unfold Once at this⊢
   rw[hl]
   exact this
  obtain⟨s,rt,⟨s1,s2⟩,s3⟩:=fin _ q b on rfl hcy (by simp;omega) (fun w hw=>(zK hl).2 (f.ext.gos (by omega) (by omega) (r.roots w (by rw[←f.ext.roots];exact hw)))) (by show g.roots.length≤16;rw[f.ext.roots];exact r.nroots)
  obtain⟨k1,k2,k3,k4,k5,k6,k7⟩:=endp {g with low:=g.low.set i v,scan:=(i:Int)+1}
  rw[←eq]at rt k1 k2 k3 k4 k5 k6 k7 s3
  have hlen:(YA h).low.length=g.low.length:=by rw[k1];simp
  refine⟨_,s,rfl,rt,⟨ws.length,by rw[hlen,hws,List.length_append],fun j hj=> ?_⟩,k2.trans f.ext.high,k3.trans f.ext.roots,⟨k4.trans f.ext.base,k5.trans f.ext.cap,k6.trans f.ext.tos,by rw[k7,hi]⟩,⟨rs,by rw[s1,hrs]⟩,s2.trans f.ext.obsH,fun h=> ?_,?_⟩
  ·rw[k1]
   simp only
   rw[List.getElem?_set_ne (by omega),hws,List.getElem?_append_left (by omega)]
  ·rw[s3 h,hlen];exact f.ext.room
  ·rw[hlen]
   have:=f.ext.room
   omega
 ·have b:=r.toBody.pass hi hp
  have eq:YA h=Yd {h with scan:=(i:Int)+1}:=by
   unfold YA
   rw[hwk,hi,if_neg hp]
  obtain⟨s,rt,⟨s1,s2⟩,s3⟩:=fin _ p b (r.once hc) rfl hc (by simp only;omega) r.roots r.nroots
  obtain⟨k1,k2,k3,k4,k5,k6,k7⟩:=endp {h with scan:=(i:Int)+1}
  rw[←eq]at rt k1 k2 k3 k4 k5 k6 k7 s3
  refine⟨_,s,rfl,rt,⟨0,by rw[k1];rfl,fun j hj=>by rw[k1]⟩,k2,k3,⟨k4,k5,k6,by rw[k7,hi]⟩,⟨[],by rw[s1,List.append_nil]⟩,s2,fun h=> ?_,?_⟩
  ·rw[s3 h,k1]
  ·rw[k1];simp only;omega
end
end Vm
end
section
namespace Vm
open Go Go.Proofs Go.RowKit
set_option maxHeartbeats 40000000
set_option maxRecDepth 100000
structure NowI (B:Nat→Prop) (W:World) (b:Nat) (g:Hp) (x:Nat→Value):Prop where
 le:B b
 nb:W.heap[b]? =some (.cells (hpC g x) 25 (0,0))
 rd: ∀j,j<5→Rd W (fun c=>B c∧c<W.heap.size∧c≠b) (.sl ((lsH g j).map vu)) (x j)
def TW(B:Nat→Prop)(W:World)(b:Nat)(g':Hp)(e:Ending)(W':World):Prop:=e= .returned (.int .i64 0)∧W.grownBy W' (some b)∧ ∃x',NowI B W' b g' x'
theorem KN(W:World)(B:Nat→Prop)(b:Nat)(g:Hp)(x:Nat→Value)(S:NowI B W b g x)(gok:g.ok)(i:Nat)(hi:g.scan=i)(hil:i<g.low.length)(pt:Bool)(h0:pt=false∨g.low[i]? =some 0):
  Calls Tryz.prog 45 #[.bool pt,.pointer (some ⟨b,0,none⟩)] W (TW B W b (Yd {g with scan:=(i:Int)+1})):=by
 obtain⟨u,hu⟩: ∃u,g.low[i]? =some u:=⟨_,List.getElem?_eq_getElem hil⟩
 obtain⟨gb,go,cap,hx0,hcell,hgG⟩:=Qq (S.rd 0 (by omega)) hu
 rw[show(lsH g 0).length=g.low.length from rfl]at hx0
 have hnb:=S.nb
 unfold hpC at hnb
 rw[hx0,hi]at hnb
 have yb: ∀j,W.cell? ⟨b,j,none⟩=(#[.int .u64 g.base,.int .i64 g.cap,.int .i64 g.to,.bool g.cycle,.int .i64 i,.slice (some ⟨gb,go,none⟩) g.low.length cap,x 1,x 2,x 3,x 4]:Array Value)[j]? :=fun j=>cell_of_row _ _ _ _ _ _ hnb
 have fb: ∀j,W.frozen? ⟨b,j,none⟩=false:=fun j=>Zl hnb
 have hll:=gok.low
 have wi:=Z1 ((i:Int)+1) (by omega) (by omega)
 have hilI:((i:Int) < (g.low.length:Int))=True:=eq_true (by omega)
 have HS:=Lib.hid S
 have HN:=Lib.hid (And.intro hnb (And.intro hx0 (And.intro hgG hi)))
 have h00:pt=false∨pt=true∧u=0:=by
  rcases h0 with h|h
  ·exact .inl h
  ·rw[hu]at h
   cases pt
   ·exact .inl rfl
   ·exact .inr ⟨rfl,Option.some.inj h⟩
 clear S hnb hx0 hgG h0 hi
 go_enter Tryz.func45,Tryz.ntmps45
 have hsize: ∀c v,(W.setCell c v).heap.size=W.heap.size:=fun c v=>by simp[World.setCell]
 by_cases hend:i+1=g.low.length
 ·have hendI:((i:Int)+1==(g.low.length:Int))=true:=by simp;omega
  have HEND:=Lib.hid hend
  clear hend
  have fin:TW B W b (Yd {g with scan:=(i:Int)+1}) (.returned (.int .i64 0)) ((((W.setCell ⟨b,4,none⟩ (.int .i64 ((i:Int)+1))).setCell ⟨b,3,none⟩ (.bool false)).setCell ⟨b,7,none⟩ (.slice none 0 0)).setCell ⟨b,8,none⟩ (.slice none 0 0)):=by
   have he:Yd {g with scan:=(i:Int)+1}= {g with scan:=(i:Int)+1,cycle:=false,old:= [],far:= []}:=by
    unfold Yd
    rw[if_pos (by show(i:Int)+1=(g.low.length:Int);have:=HEND.out;omega)]
   rw[he]
   have hot: ∀c,c≠b→((((W.setCell ⟨b,4,none⟩ (.int .i64 ((i:Int)+1))).setCell ⟨b,3,none⟩ (.bool false)).setCell ⟨b,7,none⟩ (.slice none 0 0)).setCell ⟨b,8,none⟩ (.slice none 0 0)).heap[c]? =W.heap[c]? :=fun c hc=>by
    simp[World.setCell,Array.getElem?_modify,Ne.symm hc]
   have hz:((((W.setCell ⟨b,4,none⟩ (.int .i64 ((i:Int)+1))).setCell ⟨b,3,none⟩ (.bool false)).setCell ⟨b,7,none⟩ (.slice none 0 0)).setCell ⟨b,8,none⟩ (.slice none 0 0)).heap.size=W.heap.size:=by simp[World.setCell]
   refine⟨rfl,⟨rfl,rfl,rfl,Nat.le_of_eq hz.symm,fun c _ hc=>hot c (fun e=>hc (by rw[e]))⟩,fun j=>if j=2∨j=3 then .slice none 0 0 else x j,HS.out.le,?_,fun j hj=> ?_⟩
   ·have:=HN.out.1
    have e0:=HN.out.2.1
    simp[World.setCell,Array.getElem?_modify,this,hpC,e0]
   ·have:j=2∨j=3∨(j≠2∧j≠3):=by omega
    rcases this with rfl|rfl| ⟨h2,h3⟩
    ·exact .nil _ _ (by unfold maxLen;omega)
    ·exact .nil _ _ (by unfold maxLen;omega)
    ·have hl:lsH {g with scan:=(i:Int)+1,cycle:=false,old:= [],far:= []} j=lsH g j:=by
      have:j=0∨j=1∨j=4:=by omega
      rcases this with rfl|rfl|rfl<;>rfl
     rw[hl]
     simp only[h2,h3,or_self,if_false]
     exact(HS.out.rd j hj).keep (fun c hc=>hot c hc.2.2) fun c hc=>⟨hc.1,by rw[hz];exact hc.2.1,hc.2.2⟩
  rcases h00 with rfl| ⟨rfl,rfl⟩
  all_goals
   go_wp2
   exact bodyPost_ret (v:= .int .i64 0) (by simp[results,Tryz.results45,go_sem]) rfl fin
 ·have hendI:((i:Int)+1==(g.low.length:Int))=false:=by simp;omega
  have HEND:=Lib.hid hend
  clear hend
  have fin:TW B W b (Yd {g with scan:=(i:Int)+1}) (.returned (.int .i64 0)) (W.setCell ⟨b,4,none⟩ (.int .i64 ((i:Int)+1))):=by
   have he:Yd {g with scan:=(i:Int)+1}= {g with scan:=(i:Int)+1}:=by
    unfold Yd
    rw[if_neg (by show ¬(i:Int)+1=(g.low.length:Int);have:=HEND.out;omega)]
   rw[he]
   have hot: ∀c,c≠b→(W.setCell ⟨b,4,none⟩ (.int .i64 ((i:Int)+1))).heap[c]? =W.heap[c]? :=fun c hc=>Below.heap_setCell _ _ _ _ hc
   have hz:=hsize ⟨b,4,none⟩ (.int .i64 ((i:Int)+1))
   refine⟨rfl,⟨rfl,rfl,rfl,Nat.le_of_eq hz.symm,fun c _ hc=>hot c (fun e=>hc (by rw[e]))⟩,x,HS.out.le,?_,fun j hj=> ?_⟩
   ·have:=HN.out.1
    have e0:=HN.out.2.1
    simp[World.setCell,Array.getElem?_modify,this,hpC,e0]
   ·exact(HS.out.rd j hj).keep (fun c hc=>hot c hc.2.2) fun c hc=>⟨hc.1,by rw[hz];exact hc.2.1,hc.2.2⟩
  rcases h00 with rfl| ⟨rfl,rfl⟩
  all_goals
   go_wp2
   exact bodyPost_ret (v:= .int .i64 0) (by simp[results,Tryz.results45,go_sem]) rfl fin
end Vm
end
section
namespace Vm
open Go Go.Proofs Go.RowKit
set_option maxHeartbeats 40000000
set_option maxRecDepth 100000
theorem Z0i{B:Nat→Prop}{W:World}{b:Nat}{g:Hp}{x:Nat→Value}(S:NowI B W b g x)(n:Int):W.grownBy (W.setCell ⟨b,4,none⟩ (.int .i64 n)) (some b)∧NowI B (W.setCell ⟨b,4,none⟩ (.int .i64 n)) b {g with scan:=n} x:=by
 have hot: ∀c,c≠b→(W.setCell ⟨b,4,none⟩ (.int .i64 n)).heap[c]? =W.heap[c]? :=fun c hc=>Below.heap_setCell _ _ _ _ hc
 have hz:(W.setCell ⟨b,4,none⟩ (.int .i64 n)).heap.size=W.heap.size:=by simp[World.setCell]
 refine⟨⟨rfl,rfl,rfl,Nat.le_of_eq hz.symm,fun c _ hc=>hot c (fun e=>hc (by rw[e]))⟩,S.le,?_,fun j hj=> ?_⟩
 ·have:=S.nb
  unfold hpC at this
  simp[World.setCell,Array.getElem?_modify,this,hpC]
 ·exact(S.rd j hj).keep (fun c hc=>hot c hc.2.2) fun c hc=>⟨hc.1,by rw[hz];exact hc.2.1,hc.2.2⟩
theorem jL{B:Nat→Prop}{W:World}{b:Nat}{g:Hp}{x:Nat→Value}(S:NowI B W b g x):W.grownBy (((W.setCell ⟨b,3,none⟩ (.bool false)).setCell ⟨b,7,none⟩ (.slice none 0 0)).setCell ⟨b,8,none⟩ (.slice none 0 0)) (some b)∧
  NowI B (((W.setCell ⟨b,3,none⟩ (.bool false)).setCell ⟨b,7,none⟩ (.slice none 0 0)).setCell ⟨b,8,none⟩ (.slice none 0 0)) b {g with cycle:=false,old:= [],far:= []} (fun j=>if j=2∨j=3 then .slice none 0 0 else x j):=by
 have hot: ∀c,c≠b→(((W.setCell ⟨b,3,none⟩ (.bool false)).setCell ⟨b,7,none⟩ (.slice none 0 0)).setCell ⟨b,8,none⟩ (.slice none 0 0)).heap[c]? =W.heap[c]? :=fun c hc=>by
  simp[World.setCell,Array.getElem?_modify,Ne.symm hc]
 have hz:(((W.setCell ⟨b,3,none⟩ (.bool false)).setCell ⟨b,7,none⟩ (.slice none 0 0)).setCell ⟨b,8,none⟩ (.slice none 0 0)).heap.size=W.heap.size:=by simp[World.setCell]
 refine⟨⟨rfl,rfl,rfl,Nat.le_of_eq hz.symm,fun c _ hc=>hot c (fun e=>hc (by rw[e]))⟩,S.le,?_,fun j hj=> ?_⟩
 ·have:=S.nb
  unfold hpC at this
  simp[World.setCell,Array.getElem?_modify,this,hpC]
 ·have:j=2∨j=3∨(j≠2∧j≠3):=by omega
  rcases this with rfl|rfl| ⟨h2,h3⟩
  ·exact .nil _ _ (by unfold maxLen;omega)
  ·exact .nil _ _ (by unfold maxLen;omega)
  ·have hl:lsH {g with cycle:=false,old:= [],far:= []} j=lsH g j:=by
    have:j=0∨j=1∨j=4:=by omega
    rcases this with rfl|rfl|rfl<;>rfl
   rw[hl]
   simp only[h2,h3,or_self,if_false]
   exact(S.rd j hj).keep (fun c hc=>hot c hc.2.2) fun c hc=>⟨hc.1,by rw[hz];exact hc.2.1,hc.2.2⟩
theorem Z0H(W:World)(B:Nat→Prop)(b:Nat)(hBW: ∀c,W.heap.size≤c→B c)(g:Hp)(x:Nat→Value)(S:NowI B W b g x)(gok:g.ok)(i:Nat)(hi:g.scan=i)(hil:i<g.low.length){u:Int}(hu:g.low[i]? =some u)(hu0: ¬u=0){v:Int}{g1:Hp}(hf:fwd g u=(v,g1,0))(h1l:i<g1.low.length)(h1s:g1.scan=i):
  Calls Tryz.prog 45 #[.bool true,.pointer (some ⟨b,0,none⟩)] W (TW B W b (Yd {g1 with low:=g1.low.set i v,scan:=(i:Int)+1})):=by
 obtain⟨gb,go,cap,hx0,hcell,hgG⟩:=Qq (S.rd 0 (by omega)) hu
 rw[show(lsH g 0).length=g.low.length from rfl]at hx0
 have hnb:=S.nb
 unfold hpC at hnb
 rw[hx0,hi]at hnb
 have yb: ∀j,W.cell? ⟨b,j,none⟩=(#[.int .u64 g.base,.int .i64 g.cap,.int .i64 g.to,.bool g.cycle,.int .i64 i,.slice (some ⟨gb,go,none⟩) g.low.length cap,x 1,x 2,x 3,x 4]:Array Value)[j]? :=fun j=>cell_of_row _ _ _ _ _ _ hnb
 have hll:=gok.low
 have uu:=gok.lowW u (List.mem_of_getElem? hu)
 have wi:=Z1 ((i:Int)+1) (by omega) (by omega)
 have hilI:((i:Int) < (g.low.length:Int))=True:=eq_true (by omega)
 have hF: ∀W',Below W.heap.size W W'→Calls Tryz.prog 46 #[.agg #[.int .u64 g.base,.int .i64 g.cap,.int .i64 g.to,.bool g.cycle,.int .i64 i,.slice (some ⟨gb,go,none⟩) g.low.length cap,x 1,x 2,x 3,x 4],.int .u64 u] W' (Ud W' (v,g1,0)):=fun W' hb=>by
  have:=QQ W' (fun c=>B c∧c<W.heap.size∧c≠b) (fun c hc=>Nat.lt_of_lt_of_le hc.2.1 hb.size) g gok x (fun j hj=>(S.rd j hj).keep (fun c hc=>hb.block c hc.2.1) fun _ q=>q) u uu
  rw[hf]at this
  unfold hpA at this
  rw[hx0,hi]at this
  exact this
 have HF:=Lib.hid hF
 have HBW:=Lib.hid hBW
 have HS:=Lib.hid S
 have HN:=Lib.hid (And.intro hnb (And.intro hx0 (And.intro hgG hi)))
 have g1ok:=(zB gok uu)
 rw[hf]at g1ok
 have HG1:=Lib.hid g1ok
 have hbl:=Zj hnb
 clear S hnb hx0 hgG hi hF hf g1ok hBW
 go_enter Tryz.func45,Tryz.ntmps45
 go_upto_region 6 with (go_at_call 46;refine(HF.out _ (Below.refl _ _)).mono ?_;rintro e w9 ⟨x9,rfl,hb9,ho9⟩;obtain⟨a0,q0,f0⟩:=Zd (ho9.own 0 (by omega));obtain⟨a1,q1,f1⟩:=Zd (ho9.own 1 (by omega));obtain⟨a2,q2,f2⟩:=Zd (ho9.own 2 (by omega));obtain⟨a3,q3,f3⟩:=Zd (ho9.own 3 (by omega));obtain⟨a4,q4,f4⟩:=Zd (ho9.own 4 (by omega));obtain⟨g4,rfl⟩:=Rr (ho9.own 0 (by omega)) f0 (by show 0<g1.low.length;omega);rw[show(lsH g1 0).length=g1.low.length from rfl]at f0;unfold hpA;rw[f0,f1,f2,f3,f4];have HO:=Lib.hid (And.intro hb9 (And.intro ho9 (And.intro f0 (And.intro f1 (And.intro f2 (And.intro f3 f4))))));clear hb9 ho9 f0 f1 f2 f3 f4)
 have hz9:=HO.out.1.size
 have hw2:Below W.heap.size W (w9.alloc (.cells #[.int .u64 g1.base,.int .i64 g1.cap,.int .i64 g1.to,.bool g1.cycle,.int .i64 i,.slice (some ⟨g4,0,none⟩) g1.low.length q0,.slice a1 (lsH g1 1).length q1,.slice a2 (lsH g1 2).length q2,.slice a3 (lsH g1 3).length q3,.slice a4 (lsH g1 4).length q4] 25)):=HO.out.1.alloc hz9 _
 have b72:=heap_alloc_new w9 (.cells #[.int .u64 g1.base,.int .i64 g1.cap,.int .i64 g1.to,.bool g1.cycle,.int .i64 i,.slice (some ⟨g4,0,none⟩) g1.low.length q0,.slice a1 (lsH g1 1).length q1,.slice a2 (lsH g1 2).length q2,.slice a3 (lsH g1 3).length q3,.slice a4 (lsH g1 4).length q4] 25)
 have hz2:(w9.alloc (.cells #[.int .u64 g1.base,.int .i64 g1.cap,.int .i64 g1.to,.bool g1.cycle,.int .i64 i,.slice (some ⟨g4,0,none⟩) g1.low.length q0,.slice a1 (lsH g1 1).length q1,.slice a2 (lsH g1 2).length q2,.slice a3 (lsH g1 3).length q3,.slice a4 (lsH g1 4).length q4] 25)).heap.size=w9.heap.size+1:=by simp
 have hown2:HOwn W.heap.size (w9.alloc (.cells #[.int .u64 g1.base,.int .i64 g1.cap,.int .i64 g1.to,.bool g1.cycle,.int .i64 i,.slice (some ⟨g4,0,none⟩) g1.low.length q0,.slice a1 (lsH g1 1).length q1,.slice a2 (lsH g1 2).length q2,.slice a3 (lsH g1 3).length q3,.slice a4 (lsH g1 4).length q4] 25)) g1 x9:=⟨fun j hj=>Zq (HO.out.2.1.own j hj) fun c hc=>Below.heap_alloc w9 _ c ((HO.out.2.1.own j hj).lt c hc).2,HO.out.2.1.apart⟩
 have hg4:W.heap.size≤g4∧g4<w9.heap.size:=(HO.out.2.1.own 0 (by omega)).lt g4 (by rw[HO.out.2.2.1];rfl)
 obtain⟨W2,hW2⟩: ∃W2,W2=w9.alloc (.cells #[.int .u64 g1.base,.int .i64 g1.cap,.int .i64 g1.to,.bool g1.cycle,.int .i64 i,.slice (some ⟨g4,0,none⟩) g1.low.length q0,.slice a1 (lsH g1 1).length q1,.slice a2 (lsH g1 2).length q2,.slice a3 (lsH g1 3).length q3,.slice a4 (lsH g1 4).length q4] 25):=⟨_,rfl⟩
 rw[←hW2]at hw2 b72 hz2 hown2⊢
 clear hW2
 have hb2:=(hw2.block b hbl).trans HN.out.1
 have y7: ∀j,W2.cell? ⟨w9.heap.size,j,none⟩=(#[.int .u64 g1.base,.int .i64 g1.cap,.int .i64 g1.to,.bool g1.cycle,.int .i64 i,.slice (some ⟨g4,0,none⟩) g1.low.length q0,.slice a1 (lsH g1 1).length q1,.slice a2 (lsH g1 2).length q2,.slice a3 (lsH g1 3).length q3,.slice a4 (lsH g1 4).length q4]:Array Value)[j]? :=fun j=>cell_of_row _ _ _ _ _ _ b72
 have yb2: ∀j,W2.cell? ⟨b,j,none⟩=(#[.int .u64 g.base,.int .i64 g.cap,.int .i64 g.to,.bool g.cycle,.int .i64 i,.slice (some ⟨gb,go,none⟩) g.low.length cap,x 1,x 2,x 3,x 4]:Array Value)[j]? :=fun j=>cell_of_row _ _ _ _ _ _ hb2
 have fb2: ∀j,W2.frozen? ⟨b,j,none⟩=false:=fun j=>Zl hb2
 have HW2:=Lib.hid (And.intro hw2 (And.intro hown2 (And.intro hz2 hb2)))
 clear hw2 hown2 hz2 hb2 b72
 go_upto_region 7 with fail
 obtain⟨W3,hW3⟩: ∃W3,W3=((((((((((W2.setCell ⟨b,0,none⟩ (.int .u64 g1.base)).setCell ⟨b,1,none⟩ (.int .i64 g1.cap)).setCell ⟨b,2,none⟩ (.int .i64 g1.to)).setCell ⟨b,3,none⟩ (.bool g1.cycle)).setCell ⟨b,4,none⟩ (.int .i64 i)).setCell ⟨b,5,none⟩ (.slice (some ⟨g4,0,none⟩) g1.low.length q0)).setCell ⟨b,6,none⟩ (.slice a1 (lsH g1 1).length q1)).setCell ⟨b,7,none⟩ (.slice a2 (lsH g1 2).length q2)).setCell ⟨b,8,none⟩ (.slice a3 (lsH g1 3).length q3)).setCell ⟨b,9,none⟩ (.slice a4 (lsH g1 4).length q4)):=⟨_,rfl⟩
 rw[←hW3]
 have hb3:W3.heap[b]? =some (.cells #[.int .u64 g1.base,.int .i64 g1.cap,.int .i64 g1.to,.bool g1.cycle,.int .i64 i,.slice (some ⟨g4,0,none⟩) g1.low.length q0,.slice a1 (lsH g1 1).length q1,.slice a2 (lsH g1 2).length q2,.slice a3 (lsH g1 3).length q3,.slice a4 (lsH g1 4).length q4] 25 (0,0)):=by rw[hW3];exact jM HW2.out.2.2.2 _ _ _ _ _ _ _ _ _ _
 have hot3: ∀c,c≠b→W3.heap[c]? =W2.heap[c]? :=fun c hc=>by rw[hW3];exact XZ hc _ _ _ _ _ _ _ _ _ _
 have hz3:W3.heap.size=W2.heap.size:=by rw[hW3];simp[World.setCell]
 have hbz:Below 0 W2 W3:=by rw[hW3];exact ZE (Below.refl _ _) (Nat.zero_le _) _ _ _ _ _ _ _ _ _ _
 have hgr3:W2.grownBy W3 (some b):=⟨hbz.os,hbz.tape,hbz.output,hbz.size,fun c _ hc=>hot3 c (fun e=>hc (by rw[e]))⟩
 clear hW3
 have hown3:HOwn W.heap.size W3 g1 x9:=⟨fun j hj=>Zq (HW2.out.2.1.own j hj) fun c hc=>hot3 c (by have:=((HW2.out.2.1.own j hj).lt c hc).1;omega),HW2.out.2.1.apart⟩
 have ho4:=hown3.own 0 (by omega)
 rw[HO.out.2.2.1,show(lsH g1 0).length=g1.low.length from rfl]at ho4
 obtain⟨z0,hz0⟩: ∃z0,g1.low[i]? =some z0:=⟨_,List.getElem?_eq_getElem h1l⟩
 have ec:W3.cell? ⟨g4,i,none⟩=some (.int .u64 z0):=by
  rw[ho4.cellAt i (by omega)]
  simp[nums,lsH,hz0]
 have ef:W3.frozen? ⟨g4,i,none⟩=false:=ho4.frozenAt i
 have y3: ∀j,W3.cell? ⟨b,j,none⟩=(#[.int .u64 g1.base,.int .i64 g1.cap,.int .i64 g1.to,.bool g1.cycle,.int .i64 i,.slice (some ⟨g4,0,none⟩) g1.low.length q0,.slice a1 (lsH g1 1).length q1,.slice a2 (lsH g1 2).length q2,.slice a3 (lsH g1 3).length q3,.slice a4 (lsH g1 4).length q4]:Array Value)[j]? :=fun j=>cell_of_row _ _ _ _ _ _ hb3
 have hi1:((i:Int) < (g1.low.length:Int))=True:=eq_true (by omega)
 have HW3:=Lib.hid (And.intro hb3 (And.intro hot3 (And.intro hz3 (And.intro hgr3 (And.intro hown3 ho4)))))
 clear hb3 hot3 hz3 hgr3 hown3 ho4 y7 yb2 fb2 hz0
 go_upto_region 8 with fail
 have hg4b:g4≠b:=by omega
 obtain⟨hs1,hs2⟩:=HW3.out.2.2.2.2.2.stored i (.int .u64 v)
 have oth4: ∀c,c≠g4→(W3.setCell ⟨g4,i,none⟩ (.int .u64 v)).heap[c]? =W3.heap[c]? :=fun c hc=>Below.heap_setCell _ _ _ _ hc
 have hz4:(W3.setCell ⟨g4,i,none⟩ (.int .u64 v)).heap.size=W3.heap.size:=by simp[World.setCell]
 have hb4:=(oth4 b (Ne.symm hg4b)).trans HW3.out.1
 have S4:NowI B (W3.setCell ⟨g4,i,none⟩ (.int .u64 v)) b {g1 with low:=g1.low.set i v} x9:=by
  refine⟨HS.out.le,?_,fun j hj=> ?_⟩
  ·rw[hb4]
   unfold hpC
   rw[HO.out.2.2.1,HO.out.2.2.2.1,HO.out.2.2.2.2.1,HO.out.2.2.2.2.2.1,HO.out.2.2.2.2.2.2]
   simp only[h1s]
  ·have hin: ∀c,W.heap.size≤c→c< (W3.setCell ⟨g4,i,none⟩ (.int .u64 v)).heap.size→B c∧c< (W3.setCell ⟨g4,i,none⟩ (.int .u64 v)).heap.size∧c≠b:=fun c h1 h2=>⟨HBW.out c h1,h2,by omega⟩
   by_cases e:j=0
   ·subst e
    have hn:nums .u64 (g1.low.set i v)=(nums .u64 (lsH g1 0)).set i (.int .u64 v):=Rp _ _ _ _
    rw[←hn]at hs1
    show Rd _ _ (.sl ((g1.low.set i v).map vu)) (x9 0)
    rw[HO.out.2.2.1]
    have hl4:g1.low.length=(g1.low.set i v).length:=by rw[List.length_set]
    have hs3:(W3.setCell ⟨g4,i,none⟩ (.int .u64 v)).ownsRow W.heap.size 22 1 (.slice (some ⟨g4,0,none⟩) g1.low.length q0) (g1.low.set i v).length (nums .u64 (g1.low.set i v)):=by rw[←hl4];exact hs1
    exact Kj hs3 hin
   ·have hj4:lsH {g1 with low:=g1.low.set i v} j=lsH g1 j:=by
     have:j=1∨j=2∨j=3∨j=4:=by omega
     rcases this with rfl|rfl|rfl|rfl<;>rfl
    rw[hj4]
    refine Kj (Zq (HW3.out.2.2.2.2.1.own j hj) fun c hc=>oth4 c fun e2=> ?_) hin
    exact HW3.out.2.2.2.2.1.apart 0 j (by omega) hj c (by rw[e2,HO.out.2.2.1];rfl) hc
 have G4:W.grownBy (W3.setCell ⟨g4,i,none⟩ (.int .u64 v)) (some b):=by
  have g2:=Yz HW2.out.1 (some b)
  have g3:=Y2 g2 HW3.out.2.2.2.1
  refine⟨g3.os,g3.tape,g3.output,by rw[hz4];exact g3.size,fun c hc hn=> ?_⟩
  rw[oth4 c (by omega)]
  exact g3.block c hc hn
 obtain⟨W4,hW4⟩: ∃W4,W4=W3.setCell ⟨g4,i,none⟩ (.int .u64 v):=⟨_,rfl⟩
 rw[←hW4]at S4 G4 hb4⊢
 clear hW4 oth4 hz4 hs1 hs2
 have y4: ∀j,W4.cell? ⟨b,j,none⟩=(#[.int .u64 g1.base,.int .i64 g1.cap,.int .i64 g1.to,.bool g1.cycle,.int .i64 i,.slice (some ⟨g4,0,none⟩) g1.low.length q0,.slice a1 (lsH g1 1).length q1,.slice a2 (lsH g1 2).length q2,.slice a3 (lsH g1 3).length q3,.slice a4 (lsH g1 4).length q4]:Array Value)[j]? :=fun j=>cell_of_row _ _ _ _ _ _ hb4
 have fb4: ∀j,W4.frozen? ⟨b,j,none⟩=false:=fun j=>Zl hb4
 have HS4:=Lib.hid (And.intro S4 G4)
 clear S4 G4 hb4 ec ef y3
 by_cases hend:i+1=g1.low.length
 ·have hendI:((i:Int)+1==(g1.low.length:Int))=true:=by simp;omega
  have HEND:=Lib.hid hend
  clear hend
  go_wp2
  refine bodyPost_ret (v:= .int .i64 0) (by simp[results,Tryz.results45,go_sem]) rfl ?_
  have he:Yd {g1 with low:=g1.low.set i v,scan:=(i:Int)+1}= {g1 with low:=g1.low.set i v,scan:=(i:Int)+1,cycle:=false,old:= [],far:= []}:=by
   unfold Yd
   rw[if_pos (by show(i:Int)+1=((g1.low.set i v).length:Int);rw[List.length_set];have:=HEND.out;omega)]
  rw[he]
  obtain⟨p1,p2⟩:=Z0i HS4.out.1 ((i:Int)+1)
  obtain⟨p3,p4⟩:=jL p2
  exact⟨rfl,Y2 (Y2 HS4.out.2 p1) p3,_,p4⟩
 ·have hendI:((i:Int)+1==(g1.low.length:Int))=false:=by simp;omega
  have HEND:=Lib.hid hend
  clear hend
  go_wp2
  refine bodyPost_ret (v:= .int .i64 0) (by simp[results,Tryz.results45,go_sem]) rfl ?_
  have he:Yd {g1 with low:=g1.low.set i v,scan:=(i:Int)+1}= {g1 with low:=g1.low.set i v,scan:=(i:Int)+1}:=by
   unfold Yd
   rw[if_neg (by show ¬(i:Int)+1=((g1.low.set i v).length:Int);rw[List.length_set];have:=HEND.out;omega)]
  rw[he]
  obtain⟨p1,p2⟩:=Z0i HS4.out.1 ((i:Int)+1)
  exact⟨rfl,Y2 HS4.out.2 p1,_,p2⟩
end Vm
end
section
namespace Vm
open Go Go.Proofs Go.RowKit
set_option maxHeartbeats 1000000
set_option maxRecDepth 100000
theorem KR{g:Hp}{p:Pts}(r:Rt g p){i:Nat}(hi:g.scan=i)(hp:Y5 p.low i=true){u:Int}(hu:g.low[i]? =some u):Gos g p u 1 2∨Gos g p u 3 4:=by
 obtain⟨o,ho,h1,h2⟩:=Yr.1 hp
 obtain⟨a,n,m,ea,en,em,hal,_,hmn⟩:=r.toTld.ob (k:=1) (by omega) ho
 have hg:o.gone=false:=(r.tiles 1 (by omega)).no_gone o ho
 obtain⟨j,hj⟩: ∃j,i=a+1+j:=⟨i-a-1,by omega⟩
 have:=r.ptr 1 (by omega) o ho hg j (by omega) u (by rw[ea,Int.toNat_natCast,←hj];exact hu)
 unfold Wn at this
 rw[if_neg (by omega),if_pos ⟨rfl,by rw[ea,Int.toNat_natCast,←hj];omega⟩]at this
 exact this
theorem Z0d{l:List Int}{i:Nat}{u:Int}(h:l[i]? =some u):l.set i u=l:=by
 apply List.ext_getElem?
 intro j
 rw[List.getElem?_set]
 by_cases e:i=j
 ·subst e
  rw[if_pos rfl,h,if_pos (List.getElem?_eq_some_iff.1 h).1]
 ·rw[if_neg e]
theorem qP(W:World)(B:Nat→Prop)(b:Nat)(hBW: ∀c,W.heap.size≤c→B c)(g:Hp)(x:Nat→Value)(S:NowI B W b g x)(gok:g.ok){p:Pts}(r:Rt g p)(hc:g.cycle=true):
  Calls Tryz.prog 45 #[.bool (Y5 p.low g.scan),.pointer (some ⟨b,0,none⟩)] W (TW B W b (YA g)):=by
 obtain⟨i,hi⟩:=Int.eq_ofNat_of_zero_le r.scan0
 have hil:i<g.low.length:=by have:=r.cyc hc;omega
 have hw:=r.walk
 obtain⟨u,hu⟩: ∃u,g.low[i]? =some u:=⟨_,List.getElem?_eq_getElem hil⟩
 have hgd:(g.low[g.scan.toNat]?).getD 0=u:=by rw[hi,Int.toNat_natCast,hu];rfl
 cases hp:Y5 p.low g.scan with
 |false=>
  have he:YA g=Yd {g with scan:=(i:Int)+1}:=by
   unfold YA
   rw[hw,if_neg (by rw[hp];simp),hi]
  rw[he]
  exact KN W B b g x S gok i hi hil false (.inl rfl)
 |true=>
  have he:YA g=Yd {(fwd g u).2.1 with low:=(fwd g u).2.1.low.set i (fwd g u).1,scan:=(i:Int)+1}:=by
   unfold YA
   rw[hw,if_pos hp,hgd,hi,Int.toNat_natCast]
  by_cases hu0:u=0
  ·subst hu0
   have:YA g=Yd {g with scan:=(i:Int)+1}:=by
    rw[he,L3 r.lay]
    simp only
    rw[Z0d hu]
   rw[this]
   exact KN W B b g x S gok i hi hil true (.inr hu)
  ·obtain⟨v,g1,q1,f⟩:=r.toBody.forward (r.once hc) r.scanL (KR r hi (by rw[←hi];exact hp) hu)
   rw[he,f.fwd]
   obtain⟨ws,hws⟩:=f.ext.low
   exact Z0H W B b hBW g x S gok i hi hil hu hu0 f.fwd (by rw[hws,List.length_append];omega) (by rw[f.ext.scan];exact hi)
end Vm
end
section
namespace Vm
open Go Go.Proofs Go.RowKit
def SeqS{α:Type}(F:Fence)(n:Nat)(P:Program)(g:Nat)(lb:Array Value)(encs:α→Array Value)(Kp:World→World→Prop)(Px:List α→α→World→Prop)(S:List α→World→Prop)(N:Nat)(Ex:List α→World→Prop)(w:World):Prop:=
 ∀(l:Nat) (J Jx:List α→World→Prop) (W:World),Below w.heap.size w W→(∀pre W,J pre W→Ex pre W)→AbidesFrom W.heap.size J→AbidesFrom W.heap.size Jx→
  (∀pre x W1,J pre W1→Px pre x W1→pre.length<N→YieldAt F (n-1) P l (encs x) W1 fun e W'=>
   (e= .returned (.bool true)∧J (pre++ [x]) W'∧Kp W1 W')∨(e= .returned (.bool false)∧Jx (pre++ [x]) W'))→
  J [] W→
  CallsIn F n P g (#[.func (.yield l) #[] #[]]++lb) W fun e W'=>(∃v,e= .returned v)∧((∃xs,S xs W'∧J xs W')∨(∃pre,Jx pre W'))
variable {F:Fence} {n:Nat} {P:Program}
theorem UN{α:Type}{g:Operand}{ps:Array Tmp}{assign body:Code}{Q:Exit→Act→World→Prop}{a:Act}{w:World}
  (hro:F.round=none) (h1:1≤n) {gf:Nat} {lb:Array Value} (hg:a.eval g= .func (.func gf) #[] lb) (hFg:F.fn gf) (eg: ∀args w,(callFunc gf args).run P w= .ok (.enter gf args) w)
  {encs:α→Array Value} {Kp:World→World→Prop} {Px:List α→α→World→Prop} {S:List α→World→Prop} {N:Nat} {Ex:List α→World→Prop} {w0:World} (hseq:SeqS F (n-1) P gf lb encs Kp Px S N Ex w0)
  (hKt: ∀ {A B C:World},Kp A B→Kp B C→Kp A C) (hKb: ∀(W:World) (l:Nat) (o o':Obj),w.heap.size≤l→W.heap[l]? =some o→o.isCells=false→o.isWalk=false→Kp W (W.putObj l o')) (hb0:Below w0.heap.size w0 w) (hps: ∀x,(encs x).size=ps.size)
  (I:List α→World→Prop) (Ix:Code→List α→World→Prop) (hI:OwnFrom w.heap.size I) (hEx: ∀pre W,I pre W→Ex pre W) (hIx: ∀c,OwnFrom w.heap.size (Ix c)) (hPx: ∀pre x,OwnFrom w.heap.size (fun(_:Unit) W=>Px pre x W)) (hS:OwnFrom w.heap.size S) (h0:I [] w) (a₁:α→Act)
  (hassign: ∀(l:Nat) (x:α) (W:World) (K:Act→World→Prop),K (a₁ x) W→
   assign.wpIn (F.inRound l) (n-1-1) P (Exit.then K (fun _ _ _=>False)) {tmps:=(ps.zip (encs x)).foldl (fun t (p,v)=>t.setIfInBounds p v) a.tmps,defers:= []} W)
  (hbody: ∀(l:Nat) (pre:List α) (x:α) (W:World),I pre W→Px pre x W→pre.length<N→body.wpIn (F.inRound l) (n-1-1) P (ownPostG w.heap.size Kp I Ix (pre++ [x]) W) (a₁ x) W)
  (hdone: ∀(D:Nat) (xs:List α) (W:World),w.heap.size≤D→S xs W→I xs W→W.heap[D]? =some (.deferred (some []))→Q .normal {a with defers:= {target:= .collected D,args:= #[]}::a.defers} W)
  (hstop: ∀(D:Nat) (c:Code) (pre:List α) (W:World),w.heap.size≤D→Ix c pre W→W.heap[D]? =some (.deferred (some []))→c.wpIn F n P Q {a with defers:= {target:= .collected D,args:= #[]}::a.defers} W):
  (Code.rangeFunc g ps assign body).wpIn F n P Q a w:=by
 refine wpIn_rangeFunc fun fn hfn=> ?_
 rw[hro]
 obtain⟨rec,hrec⟩: ∃rec:LoopState→Option Code→Loop,rec=fun st pe=> {state:=st,pending:=pe,fn,tmps:=a.tmps,params:=ps,assign,body,defers:=w.heap.size}:=⟨_,rfl⟩
 obtain⟨W1,hW1⟩: ∃W1,(w.alloc (.deferred (some []))).alloc (.loop (rec .ready none))=W1:=⟨_,rfl⟩
 have hL1:W1.heap[w.heap.size+1]? =some (.loop (rec .ready none)):=by
  have:=World.alloc_heap_new (w.alloc (.deferred (some []))) (.loop (rec .ready none))
  rw[World.size_alloc]at this
  rw[←hW1];exact this
 have hK1:W1.heap[w.heap.size]? =some (.deferred (some [])):=by
  rw[←hW1];exact(Below.heap_alloc _ _ _ (by simp)).trans (World.alloc_heap_new w _)
 have hI1:I [] W1:=by rw[←hW1];exact hI.alloc _ (hI.alloc _ h0)
 have hb1:Below w0.heap.size w0 W1:=by
  rw[←hW1];exact hb0.trans ((((Below.refl _ w).alloc (Nat.le_refl _) _).alloc (by simp) _).mono hb0.size)
 refine⟨w.heap.size+1,[{target:= .collected w.heap.size,args:= #[]}],W1,{target:= .fn (.func gf) lb,args:= #[.func (.yield (w.heap.size+1)) #[] #[]]},W1,gf,
  #[.func (.yield (w.heap.size+1)) #[] #[]]++lb,W1,?_,?_,?_,?_,fun _=>h1,?_⟩
 ·rw[←hW1,hrec];exact run_enterLoop_outer _ _ _ _ _
 ·simp only[resolve,hg]
  simp[go_sem]
 ·intro f' hf';simp[Target.leads]at hf';subst hf';exact hFg
 ·simp[invoke,go_sem,eg]
 have hnw: ∀ {A B:World} {row:Option Nat},(∀r,row=some r→W1.heap.size≤r∧ ∃o:Obj,A.heap[r]? =some o∧o.isWalk=true)→(∀r,row=some r→w.heap.size≤r∧ ∃o:Obj,A.heap[r]? =some o∧o.isCells=false):=
  fun hr r e=>by obtain⟨hB,o,ho,hw⟩:=hr r e;exact⟨by rw[←hW1]at hB;simp at hB;omega,o,ho,Obj.not_cells_of_walk hw⟩
 refine(hseq (w.heap.size+1)
  (fun pre W=>I pre W∧W.heap[w.heap.size+1]? =some (.loop (rec .ready none))∧W.heap[w.heap.size]? =some (.deferred (some [])))
  (fun pre W=> ∃c,Ix c pre W∧W.heap[w.heap.size+1]? =some (.loop (rec .done (some c)))∧W.heap[w.heap.size]? =some (.deferred (some [])))
  W1 hb1 (fun pre W h=>hEx pre W h.1)
  (fun s A B row hs hg' hr=>⟨hI s A B row hs.1 hg' (hnw (B:=B) hr),(grownBy_keeps hg' (fun r e=>(hr r e).2) hs.2.1 rfl).trans hs.2.1,(grownBy_keeps hg' (fun r e=>(hr r e).2) hs.2.2 rfl).trans hs.2.2⟩)
  (fun s A B row hs hg' hr=>by
   obtain⟨c,hc,hl,hk⟩:=hs
   exact⟨c,hIx c s A B row hc hg' (hnw (B:=B) hr),(grownBy_keeps hg' (fun r e=>(hr r e).2) hl rfl).trans hl,(grownBy_keeps hg' (fun r e=>(hr r e).2) hk rfl).trans hk⟩)
  ?_ ⟨hI1,hL1,hK1⟩).mono ?_
 ·rintro pre x W ⟨hi,hl,hk⟩ hpx hlen
  have hlt:w.heap.size+1<W.heap.size:=(Array.getElem?_eq_some_iff.1 hl).1
  have hy:=run_yield (P:=P) (args:=encs x) hl (by rw[hrec];exact hps x)
  rw[hrec]at hy
  refine⟨fn,_,assign,body,hy,roundIn_of_wpIn hfn (hassign _ x W _ ⟨_,run_beginRound hl (by rw[hrec]),?_⟩)⟩
  have hl2:(W.putObj (w.heap.size+1) (.loop {rec .ready none with state:= .busy})).heap[w.heap.size+1]? =some (.loop {rec .ready none with state:= .busy}):=World.putObj_heap_same hlt
  have hk2:(W.putObj (w.heap.size+1) (.loop {rec .ready none with state:= .busy})).heap[w.heap.size]? =some (.deferred (some [])):=(World.putObj_heap_other (by omega)).trans hk
  have hw2:Kp W (W.putObj (w.heap.size+1) (.loop {rec .ready none with state:= .busy})):=hKb _ _ _ _ (by omega) hl rfl rfl
  refine wpIn_mono (hbody _ pre x _ (hI.putObj _ hi (by omega) hl rfl) ((hPx pre x).putObj (s:=()) _ hpx (by omega) hl rfl) hlen) ?_
  have fin: ∀(jump:Option Code) (W3:World),KeepsFrom w.heap.size (W.putObj (w.heap.size+1) (.loop {rec .ready none with state:= .busy})) W3→
    (Instr.endRound (w.heap.size+1) jump).run P W3= .ok (.bool jump.isNone) (W3.putObj (w.heap.size+1) (.loop (rec (if jump.isNone then .ready else .done) jump)))∧
    W3.heap[w.heap.size+1]? =some (.loop {rec .ready none with state:= .busy})∧
    (W3.putObj (w.heap.size+1) (.loop (rec (if jump.isNone then .ready else .done) jump))).heap[w.heap.size+1]? =some (.loop (rec (if jump.isNone then .ready else .done) jump))∧
    (W3.putObj (w.heap.size+1) (.loop (rec (if jump.isNone then .ready else .done) jump))).heap[w.heap.size]? =some (.deferred (some [])):=fun jump W3 hk3=>by
   have hl3:=hk3.same _ _ (by omega) hl2 rfl
   have:=run_endRound (P:=P) jump hl3
   rw[hrec]at this⊢
   exact⟨this,by rw[hrec]at hl3;exact hl3,World.putObj_heap_same (Array.getElem?_eq_some_iff.1 hl3).1,(World.putObj_heap_other (by omega)).trans (hk3.same _ _ (Nat.le_refl _) hk2 rfl)⟩
  rintro e a3 W3 hp
  cases e with
  |normal=>
   obtain⟨hk3,hkp3,hi3⟩:=hp
   obtain⟨hr,hl3,hl4,hk4⟩:=fin none W3 hk3
   exact⟨_,_,hr,.inl ⟨rfl,⟨hI.putObj _ hi3 (by omega) hl3 rfl,hl4,hk4⟩,hKt (hKt hw2 hkp3) (hKb _ _ _ _ (by omega) hl3 rfl rfl)⟩⟩
  |ret=>
   obtain⟨hk3,hi3⟩:=hp
   obtain⟨hr,hl3,hl4,hk4⟩:=fin (some .ret) W3 hk3
   exact⟨_,_,hr,.inr ⟨rfl,.ret,(hIx _).putObj _ hi3 (by omega) hl3 rfl,hl4,hk4⟩⟩
  |exit id=>
   obtain⟨hk3,hi3⟩:=hp
   obtain⟨hr,hl3,hl4,hk4⟩:=fin (some (.exit id)) W3 hk3
   exact⟨_,_,hr,.inr ⟨rfl,.exit id,(hIx _).putObj _ hi3 (by omega) hl3 rfl,hl4,hk4⟩⟩
  |goto t=>
   obtain⟨hk3,hi3⟩:=hp
   obtain⟨hr,hl3,hl4,hk4⟩:=fin (some (.goto t)) W3 hk3
   exact⟨_,_,hr,.inr ⟨rfl,.goto t,(hIx _).putObj _ hi3 (by omega) hl3 rfl,hl4,hk4⟩⟩
  |panic ch=>exact hp.elim
  |outgrown=>exact hp.elim
 ·rintro e W2 ⟨⟨v,rfl⟩,(⟨xs,hSx,hi,hl,hk⟩ | ⟨pre,c,hi,hl,hk⟩)⟩
  ·exact⟨none,_,by have:=run_endLoop (P:=P) hl (by rw[hrec];simp);rw[hrec]at this;exact this,hdone _ xs _ (Nat.le_refl _) (hS.putObj _ hSx (by omega) hl rfl) (hI.putObj _ hi (by omega) hl rfl) ((World.putObj_heap_other (by omega)).trans hk)⟩
  ·exact⟨some c,_,by have:=run_endLoop (P:=P) hl (by rw[hrec];simp);rw[hrec]at this;exact this,hstop _ c pre _ (Nat.le_refl _) ((hIx c).putObj _ hi (by omega) hl rfl) ((World.putObj_heap_other (by omega)).trans hk)⟩
end Vm
end
section
namespace Vm
open Go Go.Proofs Go.RowKit
set_option maxHeartbeats 1000000
set_option maxRecDepth 100000
theorem JV{W:World}{G G':Nat→Prop}{l l':List Int}{y:Value}(h:Rd W G (.sl (l.map vu)) y)(h':Rd W G' (.sl (l'.map vu)) y):l=l':=by
 obtain⟨a,c,e⟩:=Rd.slfT h
 obtain⟨a',c',e'⟩:=Rd.slfT h'
 have hl:l.length=l'.length:=by rw[e]at e';simp at e';exact e'.2.1
 apply List.ext_getElem?
 intro k
 cases hu:l[k]? with
 |none=>rw[List.getElem?_eq_none_iff]at hu;rw[List.getElem?_eq_none (by omega)]
 |some u=>
  have hk:=(List.getElem?_eq_some_iff.1 hu).1
  obtain⟨u',hu'⟩: ∃u',l'[k]? =some u':=⟨_,List.getElem?_eq_getElem (by omega)⟩
  obtain⟨b,o,cap,e1,c1,_⟩:=Qq h hu
  obtain⟨b',o',cap',e1',c1',_⟩:=Qq h' hu'
  rw[e1]at e1'
  simp at e1'
  obtain⟨⟨rfl,rfl⟩,_,_⟩:=e1'
  rw[c1]at c1'
  cases c1'
  exact hu'.symm
theorem qW{W W':World}{B:Nat→Prop}{b:Nat}{row:Option Nat}{l:List Int}{y:Value}(h:Rd W (fun c=>B c∧c<W.heap.size∧c≠b) (.sl (l.map vu)) y)(hg:W.grownBy W' row)(hr: ∀r,row=some r→ ∃o:Obj,W.heap[r]? =some o∧o.isCells=false):
  Rd W' (fun c=>B c∧c<W'.heap.size∧c≠b) (.sl (l.map vu)) y:=by
 generalize hL:l.map vu=L at h⊢
 cases h with
 |nil a cap hc=>exact .nil a cap hc
 |sl _ d o cap k vs h1 h2 h3 h4 h5 h6=>
  refine .sl _ d o cap k vs h1 h2 ⟨h3.1,Nat.lt_of_lt_of_le h3.2.1 hg.size,h3.2.2⟩ h4 (fun i hi=> ?_) (fun i c hc=> ?_)
  ·have hc:=h5 i hi
   rw[←hc]
   refine World.cell?_of_block (a:=⟨d,o+i,none⟩) (hg.block d h3.2.1 fun e=> ?_)
   obtain⟨ob,ho,hn⟩:=hr d e.symm
   unfold World.cell? at hc
   rw[ho]at hc
   cases ob<;>simp_all [Obj.isCells]
  ·have h7:=h6 i c hc
   rw[←hL,VW,List.getElem?_map]at hc
   cases hu:l[i]? with
   |none=>rw[hu]at hc;cases hc
   |some u=>
    rw[hu]at hc
    cases hc
    rw[Yt h7]
    exact .int _ _
theorem NowI.abide{B:Nat→Prop}{W W':World}{b:Nat}{g:Hp}{x:Nat→Value}{row:Option Nat}(S:NowI B W b g x)(hg:W.grownBy W' row)(hr: ∀r,row=some r→ ∃o:Obj,W.heap[r]? =some o∧o.isCells=false):NowI B W' b g x:=
 ⟨S.le,(hg.block b (Zj S.nb) fun e=>by obtain⟨o,ho,hn⟩:=hr b e.symm;rw[S.nb]at ho;cases ho;cases hn).trans S.nb,fun j hj=>qW (S.rd j hj) hg hr⟩
theorem NowI.uniq{B B':Nat→Prop}{W:World}{b:Nat}{g g':Hp}{x x':Nat→Value}(S:NowI B W b g x)(S':NowI B' W b g' x'):g'=g:=by
 have e:=S.nb.symm.trans S'.nb
 unfold hpC at e
 simp at e
 obtain⟨e0,e1,e2,e3,e4,e5,e6,e7,e8,e9⟩:=e
 have q: ∀j,j<5→lsH g' j=lsH g j:=fun j hj=>by
  have h1:=S.rd j hj
  have h2:=S'.rd j hj
  have ex:x j=x' j:=by
   have:j=0∨j=1∨j=2∨j=3∨j=4:=by omega
   rcases this with rfl|rfl|rfl|rfl|rfl<;>assumption
  rw[ex]at h1
  exact JV h2 h1
 have q0:=q 0 (by omega)
 have q1:=q 1 (by omega)
 have q2:=q 2 (by omega)
 have q3:=q 3 (by omega)
 have q4:=q 4 (by omega)
 cases g
 cases g'
 simp[lsH]at*
 simp_all
def InBox(B:Nat→Prop)(b:Nat)(p:Pts)(W:World):Prop:= ∃g x,NowI B W b g x∧g.ok∧Rt g p
theorem InBox.abide{B:Nat→Prop}{W W':World}{b:Nat}{p:Pts}{row:Option Nat}(S:InBox B b p W)(hg:W.grownBy W' row)(hr: ∀r,row=some r→ ∃o:Obj,W.heap[r]? =some o∧o.isCells=false):InBox B b p W':=by
 obtain⟨g,x,h1,h2,h3⟩:=S
 exact⟨g,x,h1.abide hg hr,h2,h3⟩
theorem InBox.low{B B':Nat→Prop}{W:World}{b:Nat}{p p':Pts}(S:InBox B b p W)(S':InBox B' b p' W):p'.low=p.low:=by
 obtain⟨g,x,h1,h2,h3⟩:=S
 obtain⟨g',x',h1',h2',h3'⟩:=S'
 have:=h1.uniq h1'
 subst this
 exact Tiles.uniq0 (h3.tiles 1 (by omega)) (h3'.tiles 1 (by omega))
structure KpN (B:Nat→Prop) (b kb:Nat) (A C:World):Prop where
 size:A.heap.size≤C.heap.size
 same: ∀(c:Nat) (o:Obj),A.heap[c]? =some o→o.isCells=true→c≠b→c≠kb→C.heap[c]? =some o
 low: ∀p,InBox B b p A→ ∃q r,InBox B b q C∧q.low=p.low++r
theorem KpN.trans{B:Nat→Prop}{b kb:Nat}{X Y Z:World}(h:KpN B b kb X Y)(k:KpN B b kb Y Z):KpN B b kb X Z:=
 ⟨Nat.le_trans h.size k.size,fun c o h1 h2 h3 h4=>k.same c o (h.same c o h1 h2 h3 h4) h2 h3 h4,fun p hp=>by
  obtain⟨q,r,h1,h2⟩:=h.low p hp
  obtain⟨s,t,k1,k2⟩:=k.low q h1
  exact⟨s,r++t,k1,by rw[k2,h2,List.append_assoc]⟩⟩
theorem KpN.put{B:Nat→Prop}{b kb:Nat}{W:World}{l:Nat}{o:Obj}(o':Obj)(hl:W.heap[l]? =some o)(ho:o.isCells=false):KpN B b kb W (W.putObj l o'):=by
 have hg:=grownBy_putObj' W l o'
 have hr: ∀r,some l=some r→ ∃o:Obj,W.heap[r]? =some o∧o.isCells=false:=fun r e=>by cases e;exact⟨o,hl,ho⟩
 refine⟨hg.size,fun c q h1 h2 _ _=>(World.putObj_heap_other (fun e=> ?_)).trans h1,fun p hp=>⟨p,[],hp.abide hg hr,by simp⟩⟩
 subst e
 rw[hl]at h1
 cases h1
 rw[ho]at h2
 cases h2
theorem Lv{ws:List Int}{l:List Ob}(t:Tiles ws false 0 l){o:Ob}(ho:o∈l){i:Int}(h1:o.at_≤i)(h2:i≤o.at_+o.size):Y5 l i=(decide (o.at_<i)&&decide (i≤o.at_+o.ptrs)):=by
 rw[Bool.eq_iff_iff,Yr]
 simp only[Bool.and_eq_true,decide_eq_true_eq]
 constructor
 ·rintro⟨x,hx,k1,k2⟩
  have hs:=Z2.1 (t.stands x hx).1.shape
  rcases t.apart x hx o ho with e|e|e
  ·subst e;exact⟨k1,k2⟩
  ·omega
  ·omega
 ·exact fun h=>⟨o,ho,h⟩
def kwA(x:Nat×Bool):Array Value:= #[.int .i64 (x.1:Nat),.bool x.2]
def PxN(B:Nat→Prop)(b:Nat)(pre:List (Nat×Bool))(x:Nat×Bool)(W:World):Prop:= ∃p,InBox B b p W∧x=(pre.length,Y5 p.low pre.length)
def SN(B:Nat→Prop)(b:Nat)(xs:List (Nat×Bool))(W:World):Prop:= ∃g x,NowI B W b g x∧g.low.length≤xs.length
structure KnI (B:Nat→Prop) (b bk:Nat) (q:Pts) (W:World):Prop where
 bx:W.heap[bk]? =some (.cells #[.pointer (some ⟨b,0,none⟩)] 104 (0,0))
 inb:InBox B b q W
theorem KnI.grown{B:Nat→Prop}{b bk:Nat}{q:Pts}{W W':World}(h:KnI B b bk q W)(hg:W.grownBy W' none):KnI B b bk q W':=
 ⟨(hg.block _ (Zj h.bx) (by simp)).trans h.bx,h.inb.abide hg (fun r e=>by cases e)⟩
end Vm
end
section
namespace Vm
open Go Go.Proofs Go.RowKit Go.Shelf
set_option maxHeartbeats 4000000
set_option maxRecDepth 100000
theorem LF(n:Nat){w:World}{B:Nat→Prop}{b bk kb:Nat}{p0:Pts}(hI:KnI B b bk p0 w)(hbb:bk≠b)(hbkb:bk≠kb)(hb:b<w.heap.size)(hkb:kb<w.heap.size):
  SeqS Fence.wide n Tryz.prog 75 #[.pointer (some ⟨bk,0,none⟩)] kwA (KpN B b kb) (PxN B b) (SN B b) 1000001 (fun _ _=>True) w:=by
 intro l J Jx W hW _ hJ hJx hY h0
 refine callsIn_of_wp Tryz.func75 rfl trivial ?_ rfl
 simp only[Tryz.ntmps75,List.size_toArray,List.length_cons,List.length_nil,Nat.reduceAdd,Nat.reduceSub,Array.replicate_succ,Array.replicate_zero,List.push_toArray,List.append_toArray,List.nil_append,List.cons_append]
 have HI0:=Lib.hid (hI.grown (Yz hW none))
 have HW0:=hW.size
 have HJ0:=Lib.hid h0
 have hkn: ∀ {A:World},w.heap.size≤A.heap.size→A.heap.size≠b∧A.heap.size≠kb:=fun h=>⟨by omega,by omega⟩
 clear h0
 gi_wp2
 gi_loopw [3] (fun p wr=> ∃(a:Nat),p= .int .i64 a∧Hid (∃(pre:List (Nat×Bool)) (q:Pts) (n:Nat),J pre wr∧KnI B b bk q wr∧W.heap.size≤wr.heap.size∧n≤q.low.length∧a=szL (q.low.take n)∧pre.length=a))
  (fun p _=>1000001- (intOf p).toNat)
 case atStart=>exact⟨0,rfl,Lib.hid ⟨[],p0,0,HJ0.out,HI0.out,Nat.le_refl _,by omega,rfl,rfl⟩⟩
 case round=>
  obtain⟨a,rfl,HI⟩:=hrel
  obtain⟨pre,q,n1,hJ1,hK1,hs1,hn1,ha1,hp1⟩:=HI.out
  obtain⟨g,x,S,gok,r⟩:=hK1.inb
  obtain⟨sa,sc,hx0⟩:=Rd.slfT (S.rd 0 (by omega))
  rw[List.length_map,show(lsH g 0).length=g.low.length from rfl]at hx0
  have hnb:=S.nb
  unfold hpC at hnb
  rw[hx0]at hnb
  have y0:wr.cell? ⟨bk,0,none⟩=some (.pointer (some ⟨b,0,none⟩)):=by rw[cell_of_row _ _ _ _ _ _ hK1.bx];rfl
  have yb: ∀j,wr.cell? ⟨b,j,none⟩=(#[.int .u64 g.base,.int .i64 g.cap,.int .i64 g.to,.bool g.cycle,.int .i64 g.scan,.slice sa g.low.length sc,x 1,x 2,x 3,x 4]:Array Value)[j]? :=fun j=>cell_of_row _ _ _ _ _ _ hnb
  have t1:=r.tiles 1 (by omega)
  simp only[Xe,Pts.at1]at t1
  have hll:=gok.low
  have hsum:=t1.sum (Nat.zero_le _)
  by_cases hlt:a<g.low.length
  ·have hltI:((a:Int) < (g.low.length:Int))=True:=eq_true (by omega)
   obtain⟨o,ho⟩: ∃o,q.low[n1]? =some o:=by
    refine⟨_,List.getElem?_eq_getElem (Nat.lt_of_le_of_ne hn1 fun e=> ?_)⟩
    rw[e,List.take_length]at ha1
    omega
   have hoa:=t1.place ho
   rw[Nat.zero_add,←ha1]at hoa
   have hom:=List.mem_of_getElem? ho
   have hst:=(t1.stands o hom).1
   have hsh:=Z2.1 hst.shape
   have hgone:=t1.no_gone o hom
   have hfit:=hst.fits
   obtain⟨u,hu,hun⟩:=hst.word
   rw[hgone,if_neg (by simp)]at hun
   replace hun:=hun.2.1
   rw[hoa,Int.toNat_natCast]at hu
   have huu:=gok.lowW u (List.mem_of_getElem? hu)
   obtain⟨gb,go,cap,hx1,hcell,hgG⟩:=Qq (S.rd 0 (by omega)) hu
   rw[hx0]at hx1
   rw[show(lsH g 0).length=g.low.length from rfl]at hx1
   simp only[Value.slice.injEq,true_and]at hx1
   obtain⟨rfl,rfl⟩:=hx1
   have huc:=X5 huu
   rw[hun]at huc
   obtain⟨m,hm⟩: ∃m:Nat,o.size=m:=⟨o.size.toNat,by omega⟩
   obtain⟨pt,hpt⟩: ∃pt:Nat,o.ptrs=pt:=⟨o.ptrs.toNat,by omega⟩
   rw[hm]at huc hfit hsh
   rw[hpt]at huc hsh
   have HUC:=Lib.hid huc
   have HO:=Lib.hid (And.intro hom (And.intro hoa (And.intro hm (And.intro hpt (And.intro t1 (And.intro ho (And.intro hp1 hs1)))))))
   have HFit:=Lib.hid hfit
   have HK1:=Lib.hid (And.intro hJ1 hK1)
   have HHL:=Lib.hid hll
   have q1:IntKind.i64.wrap ((m:Int)+1)=((m+1:Nat):Int):=by rw[Z1 _ (by omega) (by omega)];omega
   clear huc hnb t1 hom hoa hun hu huu hx0 hgG hm hpt hfit ho hst hgone ha1 hsum S r hJ1 hK1 hp1 hs1 hll
   gi_wp2
   refine⟨trivial,fun h=>(by cases h),(callsIn_wide.2 (HUC.out _)).mono ?_⟩
   rintro e w1 ⟨rfl,hb1⟩
   have HB1:=Lib.hid hb1
   clear hb1
   gi_wp2
   have hz1:=HB1.out.size
   have hgA:wr.grownBy (w1.alloc (.cells #[.int .i64 m,.int .i64 pt] 48)) none:=Y2 (Yz HB1.out none) (World.grownBy_alloc _ _ _)
   have HA:=Lib.hid (And.intro (hJ _ _ _ _ HK1.out.1 hgA (fun r e=>by cases e)) (And.intro (HK1.out.2.grown hgA) (And.intro (heap_alloc_new w1 (.cells #[.int .i64 m,.int .i64 pt] 48)) hgA.size)))
   have hT:W.heap.size≤w1.heap.size:=by have:=HO.out.2.2.2.2.2.2.2;omega
   have hTk:=hkn (A:=w1) (by omega)
   have hT2:W.heap.size≤(w1.alloc (.cells #[.int .i64 m,.int .i64 pt] 48)).heap.size:=by simp;omega
   clear hgA
   generalize hw2:w1.alloc (.cells #[.int .i64 m,.int .i64 pt] 48)=w2 at*
   have HFitI:=HFit.out
   have HLL:=HHL.out
   gi_loopw [30] (fun iv wi=> ∃i:Nat,iv= .int .i64 i∧Hid (∃(pre':List (Nat×Bool)) (q':Pts) (r':List Ob),J pre' wi∧KnI B b bk q' wi∧w2.heap.size≤wi.heap.size∧q'.low=q.low++r'∧pre'.length=a+i∧i≤m+1∧wi.heap[w1.heap.size]? =some (.cells #[.int .i64 m,.int .i64 pt] 48 (0,0)))) (fun iv _=>m+1- (intOf iv).toNat)
   case atStart=>exact⟨0,rfl,Lib.hid ⟨pre,q,[],HA.out.1,HA.out.2.1,Nat.le_refl _,by simp,by have:=HO.out.2.2.2.2.2.2.1;omega,by omega,HA.out.2.2.1⟩⟩
   case round=>
    obtain⟨i,rfl,HJ⟩:=hrel
    obtain⟨pre',q',r',hJ2,hK2,hs2,hq2,hp2,hi2,hb4⟩:=HJ.out
    have d0:wr.cell? ⟨w1.heap.size,0,none⟩=some (.int .i64 m):=by rw[cell_of_row _ _ _ _ _ _ hb4];rfl
    have d1:wr.cell? ⟨w1.heap.size,1,none⟩=some (.int .i64 pt):=by rw[cell_of_row _ _ _ _ _ _ hb4];rfl
    by_cases him:i=m+1
    ·subst him
     have hil:(((m+1:Nat):Int) < (m:Int)+1)=False:=eq_false (by omega)
     have q2:IntKind.i64.wrap ((a:Int)+((m:Int)+1))=((a+(m+1):Nat):Int):=by rw[Z1 _ (by omega) (by omega)];omega
     clear hK2 hb4 hJ2
     gi_wp2
     obtain⟨k1,k2,k3,k4,k5,k6,k7⟩:=HO.out
     obtain⟨pre',q',r',hJ2,hK2,hs2,hq2,hp2,hi2,hb4⟩:=HJ.out
     have hlen:n1+1≤q.low.length:=by have:=(List.getElem?_eq_some_iff.1 k6).1;omega
     refine⟨⟨a+(m+1),by simp,Lib.hid ⟨pre',q',n1+1,hJ2,hK2,by omega,by rw[hq2,List.length_append];omega,?_,by omega⟩⟩,by simp[intOf];omega⟩
     rw[hq2,List.take_append_of_le_length hlen,T2 k6,k3]
     have:=k5.place k6
     omega
    ·have hil:((i:Int) < (m:Int)+1)=True:=eq_true (by omega)
     obtain⟨k1,k2,k3,k4,k5,k6,k7,k8⟩:=HO.out
     have hx:PxN B b pre' (a+i,Y5 q'.low ((a+i:Nat):Int)) wr:=⟨q',hK2.inb,by rw[hp2]⟩
     obtain⟨fn,tmps,assign,body,hy,hR⟩:=hY pre' _ wr hJ2 hx (by omega)
     have hq:Y5 q'.low ((a+i:Nat):Int)=(decide (0<i)&&decide (i≤pt)):=by
      obtain⟨g',x',_,_,r2⟩:=hK2.inb
      have t2:=r2.tiles 1 (by omega)
      simp only[Xe,Pts.at1]at t2
      rw[Lv t2 (o:=o) (by rw[hq2];exact List.mem_append_left _ k1) (by omega) (by omega),k2,k4]
      congr 1
      ·exact decide_eq_decide.2 (by omega)
      ·exact decide_eq_decide.2 (by omega)
     unfold kwA at hy
     simp only[hq]at hy
     have HQ:=Lib.hid (And.intro hq (And.intro hR (And.intro hs2 (And.intro hq2 (And.intro hp2 (And.intro hb4 hK2))))))
     have q2:IntKind.i64.wrap ((a:Int)+(i:Int))=((a+i:Nat):Int):=by rw[Z1 _ (by omega) (by omega)];omega
     have q3:IntKind.i64.wrap ((i:Int)+1)=((i+1:Nat):Int):=by rw[Z1 _ (by omega) (by omega)];omega
     clear hx hJ2 hK2 hq hR hb4 k1 k2 k3 k4 k5 k6 k7 k8 hq2 hp2
     have h3:(i=0∧(0<i)=False)∨(((0:Int) < (i:Int))=True∧(0<i)=True∧((i:Int)≤(pt:Int))=True∧(i≤pt)=True)∨(((0:Int) < (i:Int))=True∧(0<i)=True∧((i:Int)≤(pt:Int))=False∧(i≤pt)=False):=by
      by_cases h0:i=0
      ·exact .inl ⟨h0,eq_false (by omega)⟩
      ·by_cases h1:i≤pt
       ·exact .inr (.inl ⟨eq_true (by omega),eq_true (by omega),eq_true (by omega),eq_true h1⟩)
       ·exact .inr (.inr ⟨eq_true (by omega),eq_true (by omega),eq_false (by omega),eq_false h1⟩)
     rcases h3 with ⟨h0,h1⟩ | ⟨h0,h1,h2,h3⟩ | ⟨h0,h1,h2,h3⟩
     ·subst h0
      simp only[h1,decide_true,decide_false,Bool.and_true,Bool.true_and,Bool.and_false,Bool.false_and,Nat.add_zero,Int.natCast_add]at hy
      gi_wp2
      refine⟨fun h=>(by cases h),HQ.out.2.1.mono ?_⟩
      rintro e W3 (⟨rfl,hJ3,hk3⟩ | ⟨rfl,hJx3⟩)
      ·have HJ3:=Lib.hid (And.intro hJ3 hk3)
       clear hJ3 hk3
       gi_wp2
       obtain⟨c1,c2,c3,c4,c5,c6,c7⟩:=HQ.out
       obtain⟨q2',r2',i1,i2⟩:=HJ3.out.2.low q' c7.inb
       refine⟨⟨1,by simp,Lib.hid ⟨pre'++ [_],q2',r'++r2',HJ3.out.1,⟨HJ3.out.2.same _ _ c7.bx rfl hbb hbkb,i1⟩,Nat.le_trans c3 HJ3.out.2.size,by rw[i2,c4,List.append_assoc],by simp<;>omega,by omega,HJ3.out.2.same _ _ c6 rfl hTk.1 hTk.2⟩⟩,by simp[intOf]<;>omega⟩
      ·have HX3:=Lib.hid hJx3
       clear hJx3
       gi_wp2
       refine bodyPost_ret (results_none rfl _ _ _) rfl ?_
       exact⟨⟨_,rfl⟩,.inr ⟨_,HX3.out⟩⟩
     ·simp only[h1,h3,decide_true,decide_false,Bool.and_true,Bool.true_and,Bool.and_false,Bool.false_and,Nat.add_zero,Int.natCast_add]at hy
      gi_wp2
      refine⟨fun h=>(by cases h),HQ.out.2.1.mono ?_⟩
      rintro e W3 (⟨rfl,hJ3,hk3⟩ | ⟨rfl,hJx3⟩)
      ·have HJ3:=Lib.hid (And.intro hJ3 hk3)
       clear hJ3 hk3
       gi_wp2
       obtain⟨c1,c2,c3,c4,c5,c6,c7⟩:=HQ.out
       obtain⟨q2',r2',i1,i2⟩:=HJ3.out.2.low q' c7.inb
       refine⟨⟨i+1,by simp,Lib.hid ⟨pre'++ [_],q2',r'++r2',HJ3.out.1,⟨HJ3.out.2.same _ _ c7.bx rfl hbb hbkb,i1⟩,Nat.le_trans c3 HJ3.out.2.size,by rw[i2,c4,List.append_assoc],by simp<;>omega,by omega,HJ3.out.2.same _ _ c6 rfl hTk.1 hTk.2⟩⟩,by simp[intOf];omega⟩
      ·have HX3:=Lib.hid hJx3
       clear hJx3
       gi_wp2
       refine bodyPost_ret (results_none rfl _ _ _) rfl ?_
       exact⟨⟨_,rfl⟩,.inr ⟨_,HX3.out⟩⟩
     ·simp only[h1,h3,decide_true,decide_false,Bool.and_true,Bool.true_and,Bool.and_false,Bool.false_and,Nat.add_zero,Int.natCast_add]at hy
      gi_wp2
      refine⟨fun h=>(by cases h),HQ.out.2.1.mono ?_⟩
      rintro e W3 (⟨rfl,hJ3,hk3⟩ | ⟨rfl,hJx3⟩)
      ·have HJ3:=Lib.hid (And.intro hJ3 hk3)
       clear hJ3 hk3
       gi_wp2
       obtain⟨c1,c2,c3,c4,c5,c6,c7⟩:=HQ.out
       obtain⟨q2',r2',i1,i2⟩:=HJ3.out.2.low q' c7.inb
       refine⟨⟨i+1,by simp,Lib.hid ⟨pre'++ [_],q2',r'++r2',HJ3.out.1,⟨HJ3.out.2.same _ _ c7.bx rfl hbb hbkb,i1⟩,Nat.le_trans c3 HJ3.out.2.size,by rw[i2,c4,List.append_assoc],by simp<;>omega,by omega,HJ3.out.2.same _ _ c6 rfl hTk.1 hTk.2⟩⟩,by simp[intOf];omega⟩
      ·have HX3:=Lib.hid hJx3
       clear hJx3
       gi_wp2
       refine bodyPost_ret (results_none rfl _ _ _) rfl ?_
       exact⟨⟨_,rfl⟩,.inr ⟨_,HX3.out⟩⟩
  ·have hltI:((a:Int) < (g.low.length:Int))=False:=eq_false (by omega)
   have HE:Hid (J pre wr∧SN B b pre wr):=Lib.hid ⟨hJ1,g,x,S,by omega⟩
   clear hnb hJ1 S
   gi_wp2
   go_end0
   exact⟨⟨_,rfl⟩,.inl ⟨pre,HE.out.2,HE.out.1⟩⟩
end Vm
end
section
namespace Vm
open Go Go.Proofs Go.RowKit
set_option maxHeartbeats 40000000
set_option maxRecDepth 100000
end Vm
end
section

end
section
namespace Vm
open Go Go.Proofs Go.RowKit
set_option maxHeartbeats 1000000
set_option maxRecDepth 100000
end Vm
end
section
namespace Vm
open Go Go.Proofs Go.RowKit
set_option maxHeartbeats 1000000
set_option maxRecDepth 100000
end Vm
end
section
namespace Vm
open Go
open Go.Proofs
set_option maxRecDepth 100000
def p5:Fn:=⟨16,[0,1,2,3,4,5,6,7,8,9,10,11,12,13,14,15],
(.seq
(.reg ⟨[],[],[(0,.v (.c (.bool false)))]⟩)
(.seq
(.reg ⟨[],[([],(.ag [(.c (.int .u64 (10))),(.c (.int .i64 (5))),(.c (.int .i64 (1))),(.c (.bool true)),(.c (.int .i64 (0))),(.lit [(.c (.int .u64 (2))),(.c (.int .u64 (6)))]),(.c (.sl [])),(.lit [(.c (.int .u64 (31))),(.c (.int .u64 (0)))]),(.c (.sl [])),(.lit [(.c (.int .u64 (31)))])]))],[(1,.m [(.c (.int .u64 (10))),(.c (.int .i64 (5))),(.c (.int .i64 (1))),(.c (.bool true)),(.c (.int .i64 (0))),(.lit [(.c (.int .u64 (2))),(.c (.int .u64 (6)))]),(.c (.sl [])),(.lit [(.c (.int .u64 (31))),(.c (.int .u64 (0)))]),(.c (.sl [])),(.lit [(.c (.int .u64 (31)))])])]⟩)
(.seq
(.reg ⟨[.call 16 [] (.id 14) false false [(.mm 1 0 10),(.c (.int .i64 (1)))]],[],[(2,.m [(.fld (.sz (.ext (.s 16) 0) 10) 0),(.fld (.sz (.ext (.s 16) 0) 10) 1),(.fld (.sz (.ext (.s 16) 0) 10) 2),(.fld (.sz (.ext (.s 16) 0) 10) 3),(.fld (.sz (.ext (.s 16) 0) 10) 4),(.fld (.sz (.ext (.s 16) 0) 10) 5),(.fld (.sz (.ext (.s 16) 0) 10) 6),(.fld (.sz (.ext (.s 16) 0) 10) 7),(.fld (.sz (.ext (.s 16) 0) 10) 8),(.fld (.sz (.ext (.s 16) 0) 10) 9)]),(3,.v (.fl (.ext (.s 16) 1)))]⟩)
(.seq
(.reg ⟨[.call 17 [] (.id 14) false false [(.mm 1 0 10),(.c (.int .i64 (2)))]],[],[(4,.m [(.fld (.sz (.ext (.s 17) 0) 10) 0),(.fld (.sz (.ext (.s 17) 0) 10) 1),(.fld (.sz (.ext (.s 17) 0) 10) 2),(.fld (.sz (.ext (.s 17) 0) 10) 3),(.fld (.sz (.ext (.s 17) 0) 10) 4),(.fld (.sz (.ext (.s 17) 0) 10) 5),(.fld (.sz (.ext (.s 17) 0) 10) 6),(.fld (.sz (.ext (.s 17) 0) 10) 7),(.fld (.sz (.ext (.s 17) 0) 10) 8),(.fld (.sz (.ext (.s 17) 0) 10) 9)]),(5,.v (.ext (.s 17) 1))]⟩)
(.seq
(.reg ⟨[.call 18 [] (.id 10) false false [(.mm 2 0 10)]],[],[(6,.m [(.fld (.sz (.ext (.s 18) 0) 10) 0),(.fld (.sz (.ext (.s 18) 0) 10) 1),(.fld (.sz (.ext (.s 18) 0) 10) 2),(.fld (.sz (.ext (.s 18) 0) 10) 3),(.fld (.sz (.ext (.s 18) 0) 10) 4),(.fld (.sz (.ext (.s 18) 0) 10) 5),(.fld (.sz (.ext (.s 18) 0) 10) 6),(.fld (.sz (.ext (.s 18) 0) 10) 7),(.fld (.sz (.ext (.s 18) 0) 10) 8),(.fld (.sz (.ext (.s 18) 0) 10) 9)]),(7,.v (.ext (.s 18) 1))]⟩)
(.seq
(.reg ⟨[.call 19 [] (.id 14) false false [(.mm 1 0 10),(.c (.int .i64 (-1)))]],[],[(8,.m [(.fld (.sz (.ext (.s 19) 0) 10) 0),(.fld (.sz (.ext (.s 19) 0) 10) 1),(.fld (.sz (.ext (.s 19) 0) 10) 2),(.fld (.sz (.ext (.s 19) 0) 10) 3),(.fld (.sz (.ext (.s 19) 0) 10) 4),(.fld (.sz (.ext (.s 19) 0) 10) 5),(.fld (.sz (.ext (.s 19) 0) 10) 6),(.fld (.sz (.ext (.s 19) 0) 10) 7),(.fld (.sz (.ext (.s 19) 0) 10) 8),(.fld (.sz (.ext (.s 19) 0) 10) 9)]),(9,.v (.ext (.s 19) 1))]⟩)
(.seq
(.reg ⟨[.call 20 [] (.id 10) false false [(.ag [(.c (.int .u64 (0))),(.c (.int .i64 (0))),(.c (.int .i64 (0))),(.c (.bool false)),(.c (.int .i64 (0))),(.c (.sl [])),(.c (.sl [])),(.c (.sl [])),(.c (.sl [])),(.c (.sl []))])]],[],[(10,.m [(.fld (.sz (.ext (.s 20) 0) 10) 0),(.fld (.sz (.ext (.s 20) 0) 10) 1),(.fld (.sz (.ext (.s 20) 0) 10) 2),(.fld (.sz (.ext (.s 20) 0) 10) 3),(.fld (.sz (.ext (.s 20) 0) 10) 4),(.fld (.sz (.ext (.s 20) 0) 10) 5),(.fld (.sz (.ext (.s 20) 0) 10) 6),(.fld (.sz (.ext (.s 20) 0) 10) 7),(.fld (.sz (.ext (.s 20) 0) 10) 8),(.fld (.sz (.ext (.s 20) 0) 10) 9)]),(11,.v (.ext (.s 20) 1))]⟩)
(.seq
(.reg ⟨[],[],[(12,.m [(.fld (.mm 1 0 10) 0),(.fld (.mm 1 0 10) 1),(.fld (.mm 1 0 10) 2),(.fld (.mm 1 0 10) 3),(.fld (.mm 1 0 10) 4),(.fld (.mm 1 0 10) 5),(.fld (.mm 1 0 10) 6),(.fld (.mm 1 0 10) 7),(.fld (.mm 1 0 10) 8),(.fld (.mm 1 0 10) 9)])]⟩)
(.seq
(.reg ⟨[],[],[(12,.m [(.m 12 0),(.m 12 1),(.m 12 2),(.m 12 3),(.c (.int .i64 (1))),(.m 12 5),(.m 12 6),(.m 12 7),(.m 12 8),(.m 12 9)])]⟩)
(.seq
(.reg ⟨[],[([],(.ag [(.c (.int .u64 (10))),(.c (.int .i64 (5))),(.c (.int .i64 (1))),(.c (.bool false)),(.c (.int .i64 (2))),(.lit [(.c (.int .u64 (2))),(.c (.int .u64 (6)))]),(.c (.sl [])),(.c (.sl [])),(.c (.sl [])),(.lit [(.c (.int .u64 (31)))])]))],[(13,.m [(.c (.int .u64 (10))),(.c (.int .i64 (5))),(.c (.int .i64 (1))),(.c (.bool false)),(.c (.int .i64 (2))),(.lit [(.c (.int .u64 (2))),(.c (.int .u64 (6)))]),(.c (.sl [])),(.c (.sl [])),(.c (.sl [])),(.lit [(.c (.int .u64 (31)))])])]⟩)
(.seq
(.reg ⟨[.call 21 [] (.id 14) false false [(.mm 13 0 10),(.c (.int .i64 (9)))]],[],[(14,.m [(.fld (.sz (.ext (.s 21) 0) 10) 0),(.fld (.sz (.ext (.s 21) 0) 10) 1),(.fld (.sz (.ext (.s 21) 0) 10) 2),(.fld (.sz (.ext (.s 21) 0) 10) 3),(.fld (.sz (.ext (.s 21) 0) 10) 4),(.fld (.sz (.ext (.s 21) 0) 10) 5),(.fld (.sz (.ext (.s 21) 0) 10) 6),(.fld (.sz (.ext (.s 21) 0) 10) 7),(.fld (.sz (.ext (.s 21) 0) 10) 8),(.fld (.sz (.ext (.s 21) 0) 10) 9)]),(15,.v (.fl (.ext (.s 21) 1)))]⟩)
(.seq
(.reg ⟨[.lt 22 [] (.bin .eql (.s 3) (.c (.int .i64 (0)))),.call 23 [(22,true)] (.id 12) false false [(.mm 2 0 10),(.mm 12 0 10)],.lt 24 [] (.ite (.s 22) (.s 23) (.c (.bool false))),.lt 25 [] (.ite (.s 24) (.bin .eql (.s 5) (.c (.int .i64 (0)))) (.c (.bool false))),.call 26 [(25,true)] (.id 12) false false [(.mm 4 0 10),(.mm 13 0 10)],.lt 27 [] (.ite (.s 25) (.s 26) (.c (.bool false))),.lt 28 [] (.ite (.s 27) (.bin .eql (.s 7) (.c (.int .i64 (0)))) (.c (.bool false))),.call 29 [(28,true)] (.id 12) false false [(.mm 6 0 10),(.mm 13 0 10)],.lt 30 [] (.ite (.s 28) (.s 29) (.c (.bool false))),.lt 31 [] (.ite (.s 30) (.bin .eql (.s 9) (.c (.int .i64 (1)))) (.c (.bool false))),.lt 32 [] (.ite (.s 31) (.bin .eql (.s 11) (.c (.int .i64 (1)))) (.c (.bool false))),.lt 33 [] (.ite (.s 32) (.bin .eql (.s 15) (.c (.int .i64 (0)))) (.c (.bool false))),.call 34 [(33,true)] (.id 12) false false [(.mm 14 0 10),(.mm 13 0 10)]],[([(24,true)],(.bin .eql (.s 5) (.c (.int .i64 (0))))),([(27,true)],(.bin .eql (.s 7) (.c (.int .i64 (0))))),([(30,true)],(.bin .eql (.s 9) (.c (.int .i64 (1))))),([(31,true)],(.bin .eql (.s 11) (.c (.int .i64 (1))))),([(32,true)],(.bin .eql (.s 15) (.c (.int .i64 (0)))))],[(0,.v (.ite (.s 33) (.s 34) (.c (.bool false))))]⟩)
.ret)))))))))))),
[(0,.v)]⟩
theorem c5:Z8 Tryz.prog fresh sig [] [] Tryz.f5=some p5:=by kernel_rfl
def p10:Fn:=⟨5,[0,1,2,3,6],
(.seq
(.reg ⟨[],[],[(1,.m [(.fld (.sz (.s 0) 10) 0),(.fld (.sz (.s 0) 10) 1),(.fld (.sz (.s 0) 10) 2),(.fld (.sz (.s 0) 10) 3),(.fld (.sz (.s 0) 10) 4),(.fld (.sz (.s 0) 10) 5),(.fld (.sz (.s 0) 10) 6),(.fld (.sz (.s 0) 10) 7),(.fld (.sz (.s 0) 10) 8),(.fld (.sz (.s 0) 10) 9)]),(2,.m [(.c (.int .u64 (0))),(.c (.int .i64 (0))),(.c (.int .i64 (0))),(.c (.bool false)),(.c (.int .i64 (0))),(.c (.sl [])),(.c (.sl [])),(.c (.sl [])),(.c (.sl [])),(.c (.sl []))]),(3,.v (.c (.int .i64 (0))))]⟩)
(.seq
(.seq
(.reg ⟨[.call 5 [] (.id 26) false false [(.mm 1 0 10)]],[],[(4,.v (.un .not (.s 5)))]⟩)
(.cond (.s 4)
 (.seq
 (.reg ⟨[],[([],(.ag [(.c (.int .u64 (0))),(.c (.int .i64 (0))),(.c (.int .i64 (0))),(.c (.bool false)),(.c (.int .i64 (0))),(.c (.sl [])),(.c (.sl [])),(.c (.sl [])),(.c (.sl [])),(.c (.sl []))]))],[(2,.m [(.c (.int .u64 (0))),(.c (.int .i64 (0))),(.c (.int .i64 (0))),(.c (.bool false)),(.c (.int .i64 (0))),(.c (.sl [])),(.c (.sl [])),(.c (.sl [])),(.c (.sl [])),(.c (.sl []))]),(3,.v (.c (.int .i64 (1))))]⟩)
 .ret)
 .skip))
(.seq
(.reg ⟨[.call 6 [] (.id 27) false false [(.mm 1 0 10),(.c (.int .i64 (9223372036854775807)))]],[],[(2,.m [(.fld (.sz (.ext (.s 6) 0) 10) 0),(.fld (.sz (.ext (.s 6) 0) 10) 1),(.fld (.sz (.ext (.s 6) 0) 10) 2),(.fld (.sz (.ext (.s 6) 0) 10) 3),(.fld (.sz (.ext (.s 6) 0) 10) 4),(.fld (.sz (.ext (.s 6) 0) 10) 5),(.fld (.sz (.ext (.s 6) 0) 10) 6),(.fld (.sz (.ext (.s 6) 0) 10) 7),(.fld (.sz (.ext (.s 6) 0) 10) 8),(.fld (.sz (.ext (.s 6) 0) 10) 9)]),(3,.v (.ext (.s 6) 1))]⟩)
.ret))),
[(2,(.ag 10)),(3,.v)]⟩
theorem c10:Z8 Tryz.prog fresh sig [.fz] [] Tryz.f10=some p10:=by kernel_rfl
def p13:Fn:=⟨4,[0,1,4,6],
(.seq
(.reg ⟨[],[],[(2,.v (.c (.int .i64 (0))))]⟩)
(.seq
(.seq
(.reg ⟨[],[],[(3,.v (.bin .lss (.s 0) (.c (.int .i64 (0)))))]⟩)
(.cond (.s 3)
 (.reg ⟨[],[],[(0,.v (.un .neg (.bin .add (.s 0) (.c (.int .i64 (1))))))]⟩)
 .skip))
(.seq
(.reg ⟨[],[],[(2,.v (.bin .rem (.s 0) (.s 1)))]⟩)
.ret))),
[(2,.v)]⟩
theorem c13:Z8 Tryz.prog fresh sig [.fz,.fz] [] Tryz.f13=some p13:=by kernel_rfl
def p14:Fn:=⟨6,[0,1,2,4,5,12],
(.seq
(.reg ⟨[],[],[(2,.m [(.fld (.sz (.s 0) 10) 0),(.fld (.sz (.s 0) 10) 1),(.fld (.sz (.s 0) 10) 2),(.fld (.sz (.s 0) 10) 3),(.fld (.sz (.s 0) 10) 4),(.fld (.sz (.s 0) 10) 5),(.fld (.sz (.s 0) 10) 6),(.fld (.sz (.s 0) 10) 7),(.fld (.sz (.s 0) 10) 8),(.fld (.sz (.s 0) 10) 9)]),(3,.m [(.c (.int .u64 (0))),(.c (.int .i64 (0))),(.c (.int .i64 (0))),(.c (.bool false)),(.c (.int .i64 (0))),(.c (.sl [])),(.c (.sl [])),(.c (.sl [])),(.c (.sl [])),(.c (.sl []))]),(4,.v (.c (.int .i64 (0))))]⟩)
(.seq
(.seq
(.reg ⟨[.lt 6 [] (.bin .lss (.s 1) (.c (.int .i64 (0)))),.call 7 [(6,false)] (.id 26) false false [(.mm 2 0 10)]],[([(6,false)],(.un .not (.s 7)))],[(5,.v (.ite (.s 6) (.c (.bool true)) (.un .not (.s 7))))]⟩)
(.cond (.s 5)
 (.seq
 (.reg ⟨[],[([],(.ag [(.c (.int .u64 (0))),(.c (.int .i64 (0))),(.c (.int .i64 (0))),(.c (.bool false)),(.c (.int .i64 (0))),(.c (.sl [])),(.c (.sl [])),(.c (.sl [])),(.c (.sl [])),(.c (.sl []))]))],[(3,.m [(.c (.int .u64 (0))),(.c (.int .i64 (0))),(.c (.int .i64 (0))),(.c (.bool false)),(.c (.int .i64 (0))),(.c (.sl [])),(.c (.sl [])),(.c (.sl [])),(.c (.sl [])),(.c (.sl []))]),(4,.v (.c (.int .i64 (1))))]⟩)
 .ret)
 .skip))
(.seq
(.reg ⟨[.call 8 [] (.id 27) false false [(.mm 2 0 10),(.s 1)]],[],[(3,.m [(.fld (.sz (.ext (.s 8) 0) 10) 0),(.fld (.sz (.ext (.s 8) 0) 10) 1),(.fld (.sz (.ext (.s 8) 0) 10) 2),(.fld (.sz (.ext (.s 8) 0) 10) 3),(.fld (.sz (.ext (.s 8) 0) 10) 4),(.fld (.sz (.ext (.s 8) 0) 10) 5),(.fld (.sz (.ext (.s 8) 0) 10) 6),(.fld (.sz (.ext (.s 8) 0) 10) 7),(.fld (.sz (.ext (.s 8) 0) 10) 8),(.fld (.sz (.ext (.s 8) 0) 10) 9)]),(4,.v (.ext (.s 8) 1))]⟩)
.ret))),
[(3,(.ag 10)),(4,.v)]⟩
theorem c14:Z8 Tryz.prog fresh sig [.fz,.fz] [] Tryz.f14=some p14:=by kernel_rfl
def p44:Fn:=⟨3,[0,1,2],
(.seq
(.reg ⟨[],[],[(1,.m [(.fld (.sz (.s 0) 10) 0),(.fld (.sz (.s 0) 10) 1),(.fld (.sz (.s 0) 10) 2),(.fld (.sz (.s 0) 10) 3),(.fld (.sz (.s 0) 10) 4),(.fld (.sz (.s 0) 10) 5),(.fld (.sz (.s 0) 10) 6),(.fld (.sz (.s 0) 10) 7),(.fld (.sz (.s 0) 10) 8),(.fld (.sz (.s 0) 10) 9)]),(2,.m [(.c (.int .u64 (0))),(.c (.int .i64 (0))),(.c (.int .i64 (0))),(.c (.bool false)),(.c (.int .i64 (0))),(.c (.sl [])),(.c (.sl [])),(.c (.sl [])),(.c (.sl [])),(.c (.sl []))])]⟩)
(.seq
(.reg ⟨[.call 3 [] (.id 70) false false [(.m 1 5)],.call 4 [] (.id 70) false false [(.m 1 6)]],[],[(1,.m [(.m 1 0),(.m 1 1),(.m 1 2),(.m 1 3),(.m 1 4),(.one (.s 3)),(.one (.s 4)),(.m 1 7),(.m 1 8),(.m 1 9)])]⟩)
(.seq
(.reg ⟨[.call 5 [] (.id 70) false false [(.m 1 7)],.call 6 [] (.id 70) false false [(.m 1 8)]],[],[(1,.m [(.m 1 0),(.m 1 1),(.m 1 2),(.m 1 3),(.m 1 4),(.m 1 5),(.m 1 6),(.one (.s 5)),(.one (.s 6)),(.m 1 9)])]⟩)
(.seq
(.reg ⟨[.call 7 [] (.id 70) false false [(.m 1 9)]],[],[(1,.m [(.m 1 0),(.m 1 1),(.m 1 2),(.m 1 3),(.m 1 4),(.m 1 5),(.m 1 6),(.m 1 7),(.m 1 8),(.one (.s 7))])]⟩)
(.seq
(.reg ⟨[],[],[(2,.m [(.fld (.mm 1 0 10) 0),(.fld (.mm 1 0 10) 1),(.fld (.mm 1 0 10) 2),(.fld (.mm 1 0 10) 3),(.fld (.mm 1 0 10) 4),(.fld (.mm 1 0 10) 5),(.fld (.mm 1 0 10) 6),(.fld (.mm 1 0 10) 7),(.fld (.mm 1 0 10) 8),(.fld (.mm 1 0 10) 9)])]⟩)
.ret))))),
[(2,(.ag 10))]⟩
theorem c44:Z8 Tryz.prog fresh sig [.fz] [] Tryz.f44=some p44:=by kernel_rfl
end Vm
end
section
namespace Vm
open Go Go.Proofs Go.RowKit
set_option maxHeartbeats 1000000
set_option maxRecDepth 100000
theorem VI{l:List Int}(hl:l.length≤1000000):VC Tryz.prog 70 false [.sl (l.map vu)] (.sl (l.map vu)):=by
 refine⟨by kernel_rfl,fun w G vs hG hsz hvs=> ?_⟩
 have r0:=hvs 0 _ rfl
 have he:vs= #[vs.getD 0 undef]:=by
  have hs3:vs.size=1:=hsz
  apply Array.ext
  ·simp[hs3]
  ·intro i h1 h2
   have hi:i<1:=by omega
   match i,hi with
   |0,_=>simp[Array.getD,hs3]
 rw[he]
 refine(JJ w hG hl r0).mono ?_
 rintro e w' ⟨v,rfl,hb,hr⟩
 exact⟨v,rfl,hb,hr.mono fun b hb=> .inr hb⟩
theorem Z2G{h:Hp}(hh:h.ok):VC Tryz.prog 44 false [hpV h] (hpV h):=by
 refine Z3 Tryz.func44 follows (by kernel_rfl) c44 rfl ?_
 have f1:=VI hh.low
 have f2:=VI hh.high
 have f3:=VI hh.old
 have f4:=VI hh.far
 have f5:=VI hh.roots
 simp[p44,hpV]
 refine Z0 f1 (by simp) ?_
 simp
 refine Z0 f2 (by simp) ?_
 simp
 refine Z0 f3 (by simp) ?_
 simp
 refine Z0 f4 (by simp) ?_
 simp
 refine Z0 f5 (by simp) ?_
 simp
theorem yW(w:World)(G:Nat→Prop)(hG: ∀b,G b→b<w.heap.size)(h:Hp)(hh:h.ok)(src:Nat→Value)(hs: ∀j,j<5→Rd w G (.sl ((lsH h j).map vu)) (src j)):
  Calls Tryz.prog 44 #[hpA h src] w fun e w'=> ∃x,e= .returned (hpA h x)∧Below w.heap.size w w'∧ ∀j,j<5→Rd w' (fun c=>G c∨(w.heap.size≤c∧c<w'.heap.size)) (.sl ((lsH h j).map vu)) (x j):=by
 refine((Z2G hh).2 w G #[hpA h src] hG rfl fun i x hx=> ?_).mono ?_
 ·match i,hx with
  |0,hx=>cases hx;exact Z1Y hs
 ·rintro e w' ⟨v,rfl,hb,hr⟩
  obtain⟨x,rfl,hx⟩:=Z0n hr
  exact⟨x,rfl,hb,fun j hj=>(hx j hj).mono fun b hb=>hb.imp (fun q=>q.2) id⟩
end Vm
end
section
namespace Vm
open Go Go.Proofs
set_option maxRecDepth 100000
theorem YN{h:Hp}(hc:h.cycle=false): ∀k,Zr h k=h
 |0=>rfl
 |k+1=>by unfold Zr;rw[hc];simp
theorem Yh(h:Hp): ∀k,Zr h (k+1)=if(Zr h k).cycle then YA (Zr h k)else Zr h k
 |0=>by unfold Zr;cases hc:h.cycle<;>simp[Zr,hc]
 |k+1=>by
  cases hc:h.cycle with
  |false=>rw[YN hc,YN hc,hc];simp
  |true=>
   have e: ∀j,Zr h (j+1)=Zr (YA h) j:=fun j=>by rw[Zr.eq_2,hc];simp
   rw[e (k+1),e k]
   exact Yh (YA h) k
theorem Ws(h:Hp)(a:Nat): ∀b,Zr h (a+b)=Zr (Zr h a) b
 |0=>rfl
 |b+1=>by rw[←Nat.add_assoc,Yh,Yh,Ws h a b]
structure ScansTo (h:Hp) (p:Pts) (k:Nat) (g:Hp) (q:Pts):Prop where
 rt:Rt g q
 len:h.low.length≤g.low.length
 keep: ∀j:Nat,(j:Int) <h.scan→g.low[j]? =h.low[j]?
 high:g.high=h.high
 roots:g.roots=h.roots
 num:g.base=h.base∧g.cap=h.cap∧g.to=h.to
 scan:h.scan≤g.scan∧g.scan≤h.scan+k
 obsL: ∃r,q.low=p.low++r
 obsH:q.high=p.high
 cyc:g.cycle=true→h.cycle=true∧g.scan=h.scan+k∧(g.low.length:Int)+YL q=h.low.length+YL p
 roomE:(g.low.length:Int)≤h.low.length+YL p
 whole:g.cycle=false→h.cycle=true→g.scan=g.low.length
theorem Rt.scans{h:Hp}{p:Pts}(r:Rt h p): ∀k,∃q,ScansTo h p k (Zr h k) q
 |0=>⟨p,r,Nat.le_refl _,fun _ _=>rfl,rfl,rfl,⟨rfl,rfl,rfl⟩,⟨by show h.scan≤h.scan;omega,by show h.scan≤h.scan+((0:Nat):Int);omega⟩,⟨[],by simp⟩,rfl,fun hc=>⟨hc,by show h.scan=h.scan+((0:Nat):Int);omega,rfl⟩,by show(h.low.length:Int)≤_;omega,fun hc hc'=>(by rw[show Zr h 0=h from rfl,hc']at hc;cases hc)⟩
 |k+1=>by
  obtain⟨q,s⟩:=r.scans k
  rw[Yh]
  generalize Zr h k=g at*
  have hs1:=s.scan.1
  have hs2:=s.scan.2
  cases hc:g.cycle with
  |false=>
   simp only[Bool.false_eq_true,if_false]
   exact⟨q,s.rt,s.len,s.keep,s.high,s.roots,s.num,⟨hs1,by omega⟩,s.obsL,s.obsH,fun h=>(by rw[hc]at h;cases h),s.roomE,fun _ h=>s.whole hc h⟩
  |true=>
   simp only[if_true]
   obtain⟨g',q',f⟩:=s.rt.scan hc
   obtain⟨c1,c2,c3⟩:=s.cyc hc
   rw[f.eq]
   obtain⟨ws,hws,hkp⟩:=f.low
   obtain⟨r1,e1⟩:=s.obsL
   obtain⟨r2,e2⟩:=f.obsL
   obtain⟨n1,n2,n3,n4⟩:=f.num
   refine⟨q',f.rt,by have:=s.len;omega,fun j hj=>(hkp j (by omega)).trans (s.keep j hj),f.high.trans s.high,f.roots.trans s.roots,⟨n1.trans s.num.1,n2.trans s.num.2.1,n3.trans s.num.2.2⟩,⟨by omega,by omega⟩,⟨r1++r2,by rw[e2,e1,List.append_assoc]⟩,f.obsH.trans s.obsH,fun h2=>⟨c1,by omega,by have:=f.room h2;omega⟩,by have:=f.roomE;omega,fun h2 _=>(f.rt.rest h2).1⟩
theorem qU{h:Hp}{p:Pts}(hh:h.ok)(r:Rt h p)(hc:h.cycle=true):(YA h).ok:=by
 have hw:=r.walk
 obtain⟨i,hi⟩:=Int.eq_ofNat_of_zero_le r.scan0
 have hil:i<h.low.length:=by have:=r.cyc hc;omega
 obtain⟨u,hu⟩: ∃u,h.low[i]? =some u:=⟨_,List.getElem?_eq_getElem hil⟩
 have hll:=hh.low
 have he: ∀g:Hp,g.ok→(Yd g).ok:=fun g hg=>by
  unfold Yd
  split
  ·exact⟨hg.base,hg.cap,hg.to,hg.scan,hg.low,hg.high,by simp,by simp,hg.roots,hg.lowW,hg.highW,by simp,by simp,hg.rootsW⟩
  ·exact hg
 have hf:Fit (h.scan+1):=⟨by omega,by omega⟩
 unfold YA
 rw[hi,Int.toNat_natCast,hu,Option.getD_some]
 rw[hi]at hf
 have f:=zB hh (hh.lowW u (List.mem_of_getElem? hu))
 split
 ·refine he _ ?_
  obtain⟨f,fu⟩:=f
  exact⟨f.base,f.cap,f.to,hf,by simp;exact f.low,f.high,f.old,f.far,f.roots,fun w hw=>by
   rcases List.mem_or_eq_of_mem_set hw with h1|h1
   ·exact f.lowW w h1
   ·rw[h1];exact fu,f.highW,f.oldW,f.farW,f.rootsW⟩
 ·exact he _ ⟨hh.base,hh.cap,hh.to,hf,hh.low,hh.high,hh.old,hh.far,hh.roots,hh.lowW,hh.highW,hh.oldW,hh.farW,hh.rootsW⟩
theorem Xu{h:Hp}{p:Pts}(hh:h.ok)(r:Rt h p): ∀k,(Zr h k).ok
 |0=>hh
 |k+1=>by
  obtain⟨q,s⟩:=r.scans k
  have:=Xu hh r k
  rw[Yh]
  generalize Zr h k=g at*
  cases hc:g.cycle with
  |false=>simpa using this
  |true=>simpa using qU this s.rt hc
end Vm
end
section
namespace Vm
open Go Go.Proofs Go.RowKit Go.Shelf
attribute [local go_sem] Oper.semAt_some
set_option maxHeartbeats 1000000
set_option maxRecDepth 100000
theorem Ls{n:Nat}{P:Program}{c:Code}{Q:Exit→Act→World→Prop}{a:Act}{w:World}(h:c.wpIn Fence.wide n P (Exit.noGoto Q) a w):(Code.scope c).wpIn Fence.wide n P Q a w:=
 wpIn_wide.2 (wp_scope_straight (wpIn_wide.1 h))
theorem Z1n{W W':World}{B:Nat→Prop}{b r:Nat}{l:List Int}{y:Value}(h:Rd W (fun c=>B c∧c<W.heap.size∧c≠b) (.sl (l.map vu)) y)(hg:W.grownBy W' (some r))(hr: ¬B r):
  Rd W' (fun c=>B c∧c<W'.heap.size∧c≠b) (.sl (l.map vu)) y:=
 (h.keep (fun c hc=>hg.block c hc.2.1 fun e=>hr (by cases e;exact hc.1)) fun c hc=>hc).mono fun c hc=>⟨hc.1,Nat.lt_of_lt_of_le hc.2.1 hg.size,hc.2.2⟩
theorem NowI.kept{B:Nat→Prop}{W W':World}{b r:Nat}{g:Hp}{x:Nat→Value}(S:NowI B W b g x)(hg:W.grownBy W' (some r))(hr: ¬B r):NowI B W' b g x:=
 ⟨S.le,(hg.block b (Zj S.nb) fun e=>by cases e;exact hr S.le).trans S.nb,fun j hj=>Z1n (S.rd j hj) hg hr⟩
def ze10:Array Value:= #[.int .u64 0,.int .i64 0,.int .i64 0,.bool false,.int .i64 0,.slice none 0 0,.slice none 0 0,.slice none 0 0,.slice none 0 0,.slice none 0 0]
structure ScI (B:Nat→Prop) (w:World) (b:Nat) (h:Hp) (k done:Nat) (W:World):Prop where
 now: ∃x,NowI B W b (Zr h done) x
 le:done≤k
 kb:W.heap[w.heap.size+1]? =some (.cells #[.int .i64 ((k:Int) - (done:Nat))] 3 (0,0))
 r0:W.heap[w.heap.size+2]? =some (.cells ze10 25 (0,0))
 r1:W.heap[w.heap.size+3]? =some (.cells #[.int .i64 0] 36 (0,0))
 fn:W.heap[b+1]? =some (.cells #[.func (.func 45) #[] #[.pointer (some ⟨b,0,none⟩)]] 100 (0,0))
 gr:w.grownBy W none
theorem ScI.abide{B:Nat→Prop}{w:World}{b:Nat}{h:Hp}{k done:Nat}{W W':World}{row:Option Nat}(S:ScI B w b h k done W)(hg:W.grownBy W' row)(hr: ∀r,row=some r→w.heap.size≤r∧ ∃o:Obj,W.heap[r]? =some o∧o.isCells=false):ScI B w b h k done W':=by
 obtain⟨x,hx⟩:=S.now
 have q: ∀(c:Nat) (o:Obj),W.heap[c]? =some o→o.isCells=true→W'.heap[c]? =some o:=fun c o h1 h2=>(hg.block c (Zj h1) fun e=>by
  obtain⟨_,o',h3,h4⟩:=hr c e.symm
  rw[h1]at h3
  cases h3
  rw[h2]at h4
  cases h4).trans h1
 exact⟨⟨x,hx.abide hg fun r e=>(hr r e).2⟩,S.le,q _ _ S.kb rfl,q _ _ S.r0 rfl,q _ _ S.r1 rfl,q _ _ S.fn rfl,Yf S.gr hg fun r e=> .inr (hr r e).1⟩
theorem Jg(W:World)(b:Nat):Calls Tryz.prog 47 #[.pointer (some ⟨b,0,none⟩)] W fun e w'=>e= .returned (.func (.func 75) #[] #[.pointer (some ⟨W.heap.size,0,none⟩)])∧w'=W.alloc (.cells #[.pointer (some ⟨b,0,none⟩)] 104):=by
 have hmf: ∀(fn:Go.Fn) (first cap:Array Value) (w:World),(Instr.makeFunc fn first cap).run Tryz.prog w= .ok (.func fn first cap) w:=fun _ _ _ _=>rfl
 go_enter Tryz.func47,Tryz.ntmps47
 go_wp2
 exact bodyPost_ret (v:= .func (.func 75) #[] #[.pointer (some ⟨W.heap.size,0,none⟩)]) (by simp[results,Tryz.results47,go_sem]) rfl ⟨rfl,rfl⟩
theorem zt(w:World)(o0 o1 o2 o3:Obj): ∃W,(((w.alloc o0).alloc o1).alloc o2).alloc o3=W∧W.heap.size=w.heap.size+4∧w.grownBy W none∧W.heap[w.heap.size+1]? =some o1∧W.heap[w.heap.size+2]? =some o2∧W.heap[w.heap.size+3]? =some o3:=by
 refine⟨_,rfl,by simp,⟨rfl,rfl,rfl,by simp;omega,fun k hk _=> ?_⟩,?_,?_,?_⟩
 ·rw[Below.heap_alloc _ _ _ (by simp;omega),Below.heap_alloc _ _ _ (by simp;omega),Below.heap_alloc _ _ _ (by simp;omega),Below.heap_alloc _ _ _ hk]
 ·rw[Below.heap_alloc _ _ _ (by simp),Below.heap_alloc _ _ _ (by simp)]
  have:=World.alloc_heap_new (w.alloc o0) o1
  rwa[World.size_alloc]at this
 ·rw[Below.heap_alloc _ _ _ (by simp)]
  have:=World.alloc_heap_new ((w.alloc o0).alloc o1) o2
  simpa using this
 ·have:=World.alloc_heap_new (((w.alloc o0).alloc o1).alloc o2) o3
  simpa using this
theorem Lw{w w0 w1:World}{G:Nat→Prop}(hG: ∀b,G b→b<w.heap.size){h:Hp}(hh:h.ok){p:Pts}(r:Rt h p){k:Nat}{x1:Nat→Value}(hz0:w0.heap.size=w.heap.size+4)(hg0:w.grownBy w0 none)
  (k1:w0.heap[w.heap.size+1]? =some (.cells #[.int .i64 k] 3 (0,0))) (k2:w0.heap[w.heap.size+2]? =some (.cells ze10 25 (0,0))) (k3:w0.heap[w.heap.size+3]? =some (.cells #[.int .i64 0] 36 (0,0)))
  (hb:Below w0.heap.size w0 w1) (hx: ∀j,j<5→Rd w1 (fun c=>G c∨(w0.heap.size≤c∧c<w1.heap.size)) (.sl ((lsH h j).map vu)) (x1 j)):
  ∃w3,((w1.alloc (.cells (hpC h x1) 25)).alloc (.cells #[.func (.func 45) #[] #[.pointer (some ⟨w1.heap.size,0,none⟩)]] 100)).alloc (.cells #[.pointer (some ⟨w1.heap.size,0,none⟩)] 104)=w3∧
   w3.heap.size=w1.heap.size+3∧w0.heap.size≤w1.heap.size∧ScI (fun c=>G c∨w.heap.size+4≤c) w w1.heap.size h k 0 w3∧KnI (fun c=>G c∨w.heap.size+4≤c) w1.heap.size (w1.heap.size+2) p w3:=by
 refine⟨_,rfl,by simp,hb.size,?_⟩
 have hkp: ∀c,c<w1.heap.size→(((w1.alloc (.cells (hpC h x1) 25)).alloc (.cells #[.func (.func 45) #[] #[.pointer (some ⟨w1.heap.size,0,none⟩)]] 100)).alloc (.cells #[.pointer (some ⟨w1.heap.size,0,none⟩)] 104)).heap[c]? =w1.heap[c]? :=fun c hc=>by
  rw[Below.heap_alloc _ _ _ (by simp;omega),Below.heap_alloc _ _ _ (by simp;omega),Below.heap_alloc _ _ _ hc]
 have hsz:(((w1.alloc (.cells (hpC h x1) 25)).alloc (.cells #[.func (.func 45) #[] #[.pointer (some ⟨w1.heap.size,0,none⟩)]] 100)).alloc (.cells #[.pointer (some ⟨w1.heap.size,0,none⟩)] 104)).heap.size=w1.heap.size+3:=by simp
 have h0:(((w1.alloc (.cells (hpC h x1) 25)).alloc (.cells #[.func (.func 45) #[] #[.pointer (some ⟨w1.heap.size,0,none⟩)]] 100)).alloc (.cells #[.pointer (some ⟨w1.heap.size,0,none⟩)] 104)).heap[w1.heap.size]? =some (.cells (hpC h x1) 25 (0,0)):=by
  rw[Below.heap_alloc _ _ _ (by simp;omega),Below.heap_alloc _ _ _ (by simp)]
  exact World.alloc_heap_new _ _
 have h1:(((w1.alloc (.cells (hpC h x1) 25)).alloc (.cells #[.func (.func 45) #[] #[.pointer (some ⟨w1.heap.size,0,none⟩)]] 100)).alloc (.cells #[.pointer (some ⟨w1.heap.size,0,none⟩)] 104)).heap[w1.heap.size+1]? =some (.cells #[.func (.func 45) #[] #[.pointer (some ⟨w1.heap.size,0,none⟩)]] 100 (0,0)):=by
  rw[Below.heap_alloc _ _ _ (by simp)]
  have:=World.alloc_heap_new (w1.alloc (.cells (hpC h x1) 25)) (.cells #[.func (.func 45) #[] #[.pointer (some ⟨w1.heap.size,0,none⟩)]] 100)
  rwa[World.size_alloc]at this
 have h2:(((w1.alloc (.cells (hpC h x1) 25)).alloc (.cells #[.func (.func 45) #[] #[.pointer (some ⟨w1.heap.size,0,none⟩)]] 100)).alloc (.cells #[.pointer (some ⟨w1.heap.size,0,none⟩)] 104)).heap[w1.heap.size+2]? =some (.cells #[.pointer (some ⟨w1.heap.size,0,none⟩)] 104 (0,0)):=by
  have:=World.alloc_heap_new ((w1.alloc (.cells (hpC h x1) 25)).alloc (.cells #[.func (.func 45) #[] #[.pointer (some ⟨w1.heap.size,0,none⟩)]] 100)) (.cells #[.pointer (some ⟨w1.heap.size,0,none⟩)] 104)
  simpa using this
 have hs1:=hb.size
 have hgr:w1.grownBy (((w1.alloc (.cells (hpC h x1) 25)).alloc (.cells #[.func (.func 45) #[] #[.pointer (some ⟨w1.heap.size,0,none⟩)]] 100)).alloc (.cells #[.pointer (some ⟨w1.heap.size,0,none⟩)] 104)) none:=⟨rfl,rfl,rfl,by omega,fun c hc _=>hkp c hc⟩
 generalize ((w1.alloc (.cells (hpC h x1) 25)).alloc (.cells #[.func (.func 45) #[] #[.pointer (some ⟨w1.heap.size,0,none⟩)]] 100)).alloc (.cells #[.pointer (some ⟨w1.heap.size,0,none⟩)] 104)=w3 at*
 have hnow:NowI (fun c=>G c∨w.heap.size+4≤c) w3 w1.heap.size h x1:=by
  refine⟨.inr (by omega),h0,fun j hj=>((hx j hj).keep (fun c hc=>hkp c ?_) fun c hc=>hc).mono fun c hc=> ?_⟩
  ·rcases hc with hc|hc
   ·have:=hG c hc;omega
   ·exact hc.2
  ·rcases hc with hc|hc
   ·have:=hG c hc;exact⟨.inl hc,by omega,by omega⟩
   ·exact⟨.inr (by omega),by omega,by omega⟩
 have q: ∀c o,w0.heap[c]? =some o→w3.heap[c]? =some o:=fun c o hc=>by
  have hl:=Zj hc
  rw[hkp c (by omega),hb.block c hl]
  exact hc
 exact⟨⟨⟨x1,hnow⟩,Nat.zero_le _,by rw[q _ _ k1];simp,q _ _ k2,q _ _ k3,h1,Y2 hg0 (Y2 (Yz hb none) hgr)⟩,h2,h,x1,hnow,hh,r⟩
theorem ScI.step{B:Nat→Prop}{w:World}{b:Nat}{h:Hp}{p q:Pts}{k done:Nat}{W W':World}(hh:h.ok)(r:Rt h p)(S:ScI B w b h k done W)(hr:Rt (Zr h done) q)(hc:(Zr h done).cycle=true)(hB: ¬B (w.heap.size+1))(hb:w.heap.size+4≤b)(hk:done<k)(hg:W.grownBy W' (some b))(hn: ∃x,NowI B W' b (YA (Zr h done)) x):
  ScI B w b h k (done+1) (W'.setCell ⟨w.heap.size+1,0,none⟩ (.int .i64 ((k:Int) - (done:Nat) -1)))∧KpN B b (w.heap.size+1) W (W'.setCell ⟨w.heap.size+1,0,none⟩ (.int .i64 ((k:Int) - (done:Nat) -1)))∧
   W.grownBy W' (some b)∧W'.grownBy (W'.setCell ⟨w.heap.size+1,0,none⟩ (.int .i64 ((k:Int) - (done:Nat) -1))) (some (w.heap.size+1)):=by
 have hs:=grownBy_setCell' W' (w.heap.size+1) (.int .i64 ((k:Int) - (done:Nat) -1))
 obtain⟨x,hx⟩:=hn
 have hx2:=hx.kept hs hB
 have e1:Zr h (done+1)=YA (Zr h done):=by rw[Yh,hc];simp
 have ho: ∀(c:Nat) (o:Obj),W.heap[c]? =some o→c≠b→c≠w.heap.size+1→(W'.setCell ⟨w.heap.size+1,0,none⟩ (.int .i64 ((k:Int) - (done:Nat) -1))).heap[c]? =some o:=fun c o h1 h2 h3=>
  (Below.heap_setCell _ _ _ _ h3).trans ((hg.block c (Zj h1) (fun e=>h2 (by cases e;rfl))).trans h1)
 have hkb:W'.heap[w.heap.size+1]? =some (.cells #[.int .i64 ((k:Int) - (done:Nat))] 3 (0,0)):=(hg.block _ (Zj S.kb) (fun e=>by cases e;omega)).trans S.kb
 refine⟨⟨⟨x,by rw[e1];exact hx2⟩,by omega,?_,ho _ _ S.r0 (by omega) (by omega),ho _ _ S.r1 (by omega) (by omega),ho _ _ S.fn (by omega) (by omega),?_⟩,⟨Nat.le_trans hg.size hs.size,fun c o h1 _ h3 h4=>ho c o h1 h3 h4,fun p' hp'=> ?_⟩,hg,hs⟩
 ·have:(k:Int) - ((done+1:Nat):Int)=(k:Int) - (done:Nat) -1:=by omega
  rw[this]
  simp[World.setCell,Array.getElem?_modify,hkb]
 ·exact Yf (Yf S.gr hg fun r e=> .inr (by cases e;omega)) hs fun r e=> .inr (by cases e;omega)
 ·obtain⟨y,hy⟩:=S.now
  have hin:InBox B b q W:=⟨_,y,hy,Xu hh r done,hr⟩
  obtain⟨g',q',f⟩:=hr.scan hc
  obtain⟨rr,hrr⟩:=f.obsL
  refine⟨q',rr,⟨_,x,hx2,?_,?_⟩,?_⟩
  ·have:=Xu hh r (done+1)
   rwa[e1]at this
  ·rw[f.eq];exact f.rt
  ·rw[hrr,hin.low hp']
def zO(w:World)(G:Nat→Prop)(g:Hp)(e:Ending)(w':World):Prop:= ∃x,e= .returned (.tuple #[hpA g x,.int .i64 0])∧Below w.heap.size w w'∧ ∀j,j<5→Rd w' (fun c=>G c∨(w.heap.size≤c∧c<w'.heap.size)) (.sl ((lsH g j).map vu)) (x j)
theorem jv{B G:Nat→Prop}{w:World}{b:Nat}{h g:Hp}{k done:Nat}{W W8:World}{y:Nat→Value}{D:Nat}(S:ScI B w b h k done W)(hgd:Zr h done=g)(hfin:done=k∨(Zr h done).cycle=false)(hn:NowI B W b g y)(hB:B=fun c=>G c∨w.heap.size+4≤c)(hG: ∀c,G c→c<w.heap.size)
  (hD:w.heap.size+4≤D) (hD2:W.heap[D]? =some (.deferred (some []))) (h8b:Below w.heap.size W W8) (h8s:W8.heap.size=W.heap.size) (h8o: ∀c,c≠w.heap.size+1+1→W8.heap[c]? =W.heap[c]?) (h8:W8.heap[w.heap.size+1+1]? =some (.cells (hpC g y) 25 (0,0))):
  (W8.setCell ⟨w.heap.size+1+1+1,0,none⟩ (.int .i64 0)).heap[D]? =some (.deferred (some []))∧(∀j,((W8.setCell ⟨w.heap.size+1+1+1,0,none⟩ (.int .i64 0)).putObj D (.deferred none)).cell? ⟨w.heap.size+1+1,j,none⟩=(hpC g y)[j]?)∧((W8.setCell ⟨w.heap.size+1+1+1,0,none⟩ (.int .i64 0)).putObj D (.deferred none)).cell? ⟨w.heap.size+1+1+1,0,none⟩=some (.int .i64 0)∧
   zO w G (Zr h k) (.returned (.tuple #[hpA g y,.int .i64 0])) ((W8.setCell ⟨w.heap.size+1+1+1,0,none⟩ (.int .i64 0)).putObj D (.deferred none)):=by
 have hg9:=grownBy_setCell' W8 (w.heap.size+1+1+1) (.int .i64 0)
 have hr1:=S.r1
 have e1:(W8.setCell ⟨w.heap.size+1+1+1,0,none⟩ (.int .i64 0)).heap[w.heap.size+1+1+1]? =some (.cells #[.int .i64 0] 36 (0,0)):=
  Boxed.set _ (show Boxed W8 (w.heap.size+1+1+1) 36 (.int .i64 0)from(h8o _ (by omega)).trans hr1)
 have e0:(W8.setCell ⟨w.heap.size+1+1+1,0,none⟩ (.int .i64 0)).heap[w.heap.size+1+1]? =some (.cells (hpC g y) 25 (0,0)):=(Below.heap_setCell _ _ _ _ (by show w.heap.size+1+1≠w.heap.size+1+1+1;omega)).trans h8
 have hoth: ∀c,c≠w.heap.size+1+1→c≠w.heap.size+1+1+1→(W8.setCell ⟨w.heap.size+1+1+1,0,none⟩ (.int .i64 0)).heap[c]? =W.heap[c]? :=fun c h1 h2=>(Below.heap_setCell _ _ _ _ h2).trans (h8o c h1)
 have hsz:(W8.setCell ⟨w.heap.size+1+1+1,0,none⟩ (.int .i64 0)).heap.size=W.heap.size:=by rw[←h8s];simp[World.setCell]
 have b9:Below w.heap.size W (W8.setCell ⟨w.heap.size+1+1+1,0,none⟩ (.int .i64 0)):=h8b.trans ⟨hg9.os,hg9.tape,hg9.output,hg9.size,fun c hc=>hg9.block c (by have:=Zj hr1;omega) (fun e=>by cases e;omega)⟩
 generalize W8.setCell ⟨w.heap.size+1+1+1,0,none⟩ (.int .i64 0)=W9 at*
 have hD9:W9.heap[D]? =some (.deferred (some [])):=(hoth D (by omega) (by omega)).trans hD2
 have hz4:=S.gr.size
 have hlt:=Zj hr1
 have f0:(W9.putObj D (.deferred none)).heap[w.heap.size+1+1]? =some (.cells (hpC g y) 25 (0,0)):=(World.putObj_heap_other (by omega)).trans e0
 have f1:(W9.putObj D (.deferred none)).heap[w.heap.size+1+1+1]? =some (.cells #[.int .i64 0] 36 (0,0)):=(World.putObj_heap_other (by omega)).trans e1
 have hg:=grownBy_putObj' W9 D (.deferred none)
 have heq:Zr h k=g:=by
  rcases hfin with e|e
  ·rw[←e,hgd]
  ·obtain⟨d,hd⟩: ∃d,k=done+d:=⟨k-done,by have:=S.le;omega⟩
   rw[hd,Ws,YN e,hgd]
 have hkp: ∀c,c≠w.heap.size+1+1→c≠w.heap.size+1+1+1→c≠D→(W9.putObj D (.deferred none)).heap[c]? =W.heap[c]? :=fun c h1 h2 h3=>(World.putObj_heap_other (by omega)).trans (hoth c h1 h2)
 refine⟨hD9,fun j=>cell_of_row _ _ j _ _ _ f0,by rw[cell_of_row _ _ _ _ _ _ f1];rfl,y,by rw[heq],⟨?_,?_,?_,?_,fun c hc=> ?_⟩,fun j hj=> ?_⟩
 ·rw[hg.os,b9.os];exact S.gr.os
 ·rw[hg.tape,b9.tape];exact S.gr.tape
 ·rw[hg.output,b9.output];exact S.gr.output
 ·have:=hg.size;omega
 ·rw[hkp c (by omega) (by omega) (by omega)]
  exact S.gr.block c hc (by simp)
 ·rw[heq]
  have h1:=hn.rd j hj
  have hW:W.heap.size≤(W9.putObj D (.deferred none)).heap.size:=by have:=hg.size;omega
  generalize hL:(lsH g j).map vu=L at h1⊢
  generalize y j=yj at h1⊢
  cases h1 with
  |nil a cap hc=>exact .nil a cap hc
  |sl _ d o cap k' vs q1 q2 q3 q4 q5 q6=>
   have hB':G d∨w.heap.size+4≤d:=by have:=q3.1;rw[hB]at this;exact this
   have hG':G d→d<w.heap.size:=hG d
   have hflat: ∀i c,(flat L)[i]? =some c→Rd (W9.putObj D (.deferred none)) (fun c=>G c∨(w.heap.size≤c∧c< (W9.putObj D (.deferred none)).heap.size)) c (vs i):=fun i c hc=>by
    have h7:=q6 i c hc
    rw[←hL,VW,List.getElem?_map]at hc
    cases hu:(lsH g j)[i]? with
    |none=>rw[hu]at hc;cases hc
    |some u=>
     rw[hu]at hc
     cases hc
     rw[Yt h7]
     exact .int _ _
   by_cases hdD:d=D
   ·subst hdD
    have hL0:L.length*k'=0:=by
     cases hl0:L.length*k' with
     |zero=>rfl
     |succ n=>
      have:=q5 0 (by omega)
      unfold World.cell? at this
      rw[hD2]at this
      cases this
    refine .sl _ d o cap k' vs q1 q2 ?_ q4 (fun i hi=>by omega) hflat
    rcases hB' with q|q
    ·exact .inl q
    ·exact .inr ⟨by omega,by have:=Zj hD2;omega⟩
   ·refine .sl _ d o cap k' vs q1 q2 ?_ q4 (fun i hi=> ?_) hflat
    ·rcases hB' with q|q
     ·exact .inl q
     ·exact .inr ⟨by omega,by have:=q3.2.1;omega⟩
    ·rw[←q5 i hi]
     refine World.cell?_of_block (a:=⟨d,o+i,none⟩) (hkp d ?_ ?_ hdD)
     ·rcases hB' with q|q
      ·have:=hG' q;omega
      ·omega
     ·rcases hB' with q|q
      ·have:=hG' q;omega
      ·omega
theorem SF{B G:Nat→Prop}{w:World}{b:Nat}{h g:Hp}{k done:Nat}{W:World}{y:Nat→Value}{D:Nat}(S:ScI B w b h k done W)(hgd:Zr h done=g)(hfin:done=k∨(Zr h done).cycle=false)(hn:NowI B W b g y)(hB:B=fun c=>G c∨w.heap.size+4≤c)(hG: ∀c,G c→c<w.heap.size)
  (hD:w.heap.size+4≤D) (hD2:W.heap[D]? =some (.deferred (some []))):
  (((((((((((W.setCell ⟨w.heap.size+1+1,0,none⟩ (.int .u64 g.base)).setCell ⟨w.heap.size+1+1,1,none⟩ (.int .i64 g.cap)).setCell ⟨w.heap.size+1+1,2,none⟩ (.int .i64 g.to)).setCell ⟨w.heap.size+1+1,3,none⟩ (.bool g.cycle)).setCell ⟨w.heap.size+1+1,4,none⟩ (.int .i64 g.scan)).setCell ⟨w.heap.size+1+1,5,none⟩ (y 0)).setCell ⟨w.heap.size+1+1,6,none⟩ (y 1)).setCell ⟨w.heap.size+1+1,7,none⟩ (y 2)).setCell ⟨w.heap.size+1+1,8,none⟩ (y 3)).setCell ⟨w.heap.size+1+1,9,none⟩ (y 4)).setCell ⟨w.heap.size+1+1+1,0,none⟩ (.int .i64 0)).heap[D]? =some (.deferred (some []))∧(∀j,((((((((((((W.setCell ⟨w.heap.size+1+1,0,none⟩ (.int .u64 g.base)).setCell ⟨w.heap.size+1+1,1,none⟩ (.int .i64 g.cap)).setCell ⟨w.heap.size+1+1,2,none⟩ (.int .i64 g.to)).setCell ⟨w.heap.size+1+1,3,none⟩ (.bool g.cycle)).setCell ⟨w.heap.size+1+1,4,none⟩ (.int .i64 g.scan)).setCell ⟨w.heap.size+1+1,5,none⟩ (y 0)).setCell ⟨w.heap.size+1+1,6,none⟩ (y 1)).setCell ⟨w.heap.size+1+1,7,none⟩ (y 2)).setCell ⟨w.heap.size+1+1,8,none⟩ (y 3)).setCell ⟨w.heap.size+1+1,9,none⟩ (y 4)).setCell ⟨w.heap.size+1+1+1,0,none⟩ (.int .i64 0)).putObj D (.deferred none)).cell? ⟨w.heap.size+1+1,j,none⟩=(hpC g y)[j]?)∧((((((((((((W.setCell ⟨w.heap.size+1+1,0,none⟩ (.int .u64 g.base)).setCell ⟨w.heap.size+1+1,1,none⟩ (.int .i64 g.cap)).setCell ⟨w.heap.size+1+1,2,none⟩ (.int .i64 g.to)).setCell ⟨w.heap.size+1+1,3,none⟩ (.bool g.cycle)).setCell ⟨w.heap.size+1+1,4,none⟩ (.int .i64 g.scan)).setCell ⟨w.heap.size+1+1,5,none⟩ (y 0)).setCell ⟨w.heap.size+1+1,6,none⟩ (y 1)).setCell ⟨w.heap.size+1+1,7,none⟩ (y 2)).setCell ⟨w.heap.size+1+1,8,none⟩ (y 3)).setCell ⟨w.heap.size+1+1,9,none⟩ (y 4)).setCell ⟨w.heap.size+1+1+1,0,none⟩ (.int .i64 0)).putObj D (.deferred none)).cell? ⟨w.heap.size+1+1+1,0,none⟩=some (.int .i64 0)∧
    zO w G (Zr h k) (.returned (.tuple #[hpA g y,.int .i64 0])) ((((((((((((W.setCell ⟨w.heap.size+1+1,0,none⟩ (.int .u64 g.base)).setCell ⟨w.heap.size+1+1,1,none⟩ (.int .i64 g.cap)).setCell ⟨w.heap.size+1+1,2,none⟩ (.int .i64 g.to)).setCell ⟨w.heap.size+1+1,3,none⟩ (.bool g.cycle)).setCell ⟨w.heap.size+1+1,4,none⟩ (.int .i64 g.scan)).setCell ⟨w.heap.size+1+1,5,none⟩ (y 0)).setCell ⟨w.heap.size+1+1,6,none⟩ (y 1)).setCell ⟨w.heap.size+1+1,7,none⟩ (y 2)).setCell ⟨w.heap.size+1+1,8,none⟩ (y 3)).setCell ⟨w.heap.size+1+1,9,none⟩ (y 4)).setCell ⟨w.heap.size+1+1+1,0,none⟩ (.int .i64 0)).putObj D (.deferred none)):=by
 have q1:=ZE (Below.refl w.heap.size W) (b:=w.heap.size+1+1) (by omega) (.int .u64 g.base) (.int .i64 g.cap) (.int .i64 g.to) (.bool g.cycle) (.int .i64 g.scan) (y 0) (y 1) (y 2) (y 3) (y 4)
 have q2:=fun c (hc:c≠w.heap.size+1+1)=>XZ (w2:=W) hc (.int .u64 g.base) (.int .i64 g.cap) (.int .i64 g.to) (.bool g.cycle) (.int .i64 g.scan) (y 0) (y 1) (y 2) (y 3) (y 4)
 have q3:=Qo (w2:=W) (b:=w.heap.size+1+1) (T:=25) S.r0 (.int .u64 g.base) (.int .i64 g.cap) (.int .i64 g.to) (.bool g.cycle) (.int .i64 g.scan) (y 0) (y 1) (y 2) (y 3) (y 4)
 have q4:((((((((((W.setCell ⟨w.heap.size+1+1,0,none⟩ (.int .u64 g.base)).setCell ⟨w.heap.size+1+1,1,none⟩ (.int .i64 g.cap)).setCell ⟨w.heap.size+1+1,2,none⟩ (.int .i64 g.to)).setCell ⟨w.heap.size+1+1,3,none⟩ (.bool g.cycle)).setCell ⟨w.heap.size+1+1,4,none⟩ (.int .i64 g.scan)).setCell ⟨w.heap.size+1+1,5,none⟩ (y 0)).setCell ⟨w.heap.size+1+1,6,none⟩ (y 1)).setCell ⟨w.heap.size+1+1,7,none⟩ (y 2)).setCell ⟨w.heap.size+1+1,8,none⟩ (y 3)).setCell ⟨w.heap.size+1+1,9,none⟩ (y 4)).heap.size=W.heap.size:=by simp[World.setCell]
 generalize ((((((((((W.setCell ⟨w.heap.size+1+1,0,none⟩ (.int .u64 g.base)).setCell ⟨w.heap.size+1+1,1,none⟩ (.int .i64 g.cap)).setCell ⟨w.heap.size+1+1,2,none⟩ (.int .i64 g.to)).setCell ⟨w.heap.size+1+1,3,none⟩ (.bool g.cycle)).setCell ⟨w.heap.size+1+1,4,none⟩ (.int .i64 g.scan)).setCell ⟨w.heap.size+1+1,5,none⟩ (y 0)).setCell ⟨w.heap.size+1+1,6,none⟩ (y 1)).setCell ⟨w.heap.size+1+1,7,none⟩ (y 2)).setCell ⟨w.heap.size+1+1,8,none⟩ (y 3)).setCell ⟨w.heap.size+1+1,9,none⟩ (y 4))=W8 at*
 exact jv S hgd hfin hn hB hG hD hD2 q1 q4 q2 q3
theorem RR(w:World)(G:Nat→Prop)(hG: ∀b,G b→b<w.heap.size)(h:Hp)(hh:h.ok)(src:Nat→Value)(hs: ∀j,j<5→Rd w G (.sl ((lsH h j).map vu)) (src j)){p:Pts}(r:Rt h p){k:Nat}(hk:(k:Int) <9223372036854775808):
  Calls Tryz.prog 27 #[hpA h src,.int .i64 k] w (zO w G (Zr h k)):=by
 refine(callsIn_wide (n:=5)).1 ?_
 have hmf: ∀(fn:Go.Fn) (first cap:Array Value) (w:World),(Instr.makeFunc fn first cap).run Tryz.prog w= .ok (.func fn first cap) w:=fun _ _ _ _=>rfl
 refine callsIn_of_wp_marks Tryz.func27 rfl trivial ?_ rfl
 simp only[Tryz.ntmps27,List.size_toArray,List.length_cons,List.length_nil,Nat.reduceAdd,Nat.reduceSub,Array.replicate_succ,Array.replicate_zero,List.push_toArray,List.append_toArray,List.nil_append,List.cons_append]
 have HO:=fun W (hb:Below w.heap.size w W)=>yW W G (fun b q=>Nat.lt_of_lt_of_le (hG b q) hb.size) h hh src fun j hj=>(hs j hj).keep (fun b hb'=>hb.block b (hG b hb')) fun _ q=>q
 have HO':=Lib.hid HO
 clear HO
 unfold hpA
 gi_wp2
 refine Ls ?_
 gi_wp2
 refine⟨trivial,(callsIn_wide.2 (HO'.out _ (((((Below.refl _ _).alloc (Nat.le_refl _) _).alloc (by simp) _).alloc (by simp;omega) _).alloc (by simp;omega) _))).mono ?_⟩
 rintro e w1 ⟨x1,rfl,hb1,hx1⟩
 obtain⟨a0,c0,e0⟩:=Rd.slfT (hx1 0 (by omega))
 obtain⟨a1,c1,e1⟩:=Rd.slfT (hx1 1 (by omega))
 obtain⟨a2,c2,e2⟩:=Rd.slfT (hx1 2 (by omega))
 obtain⟨a3,c3,e3⟩:=Rd.slfT (hx1 3 (by omega))
 obtain⟨a4,c4,e4⟩:=Rd.slfT (hx1 4 (by omega))
 have HB1:=Lib.hid (And.intro hb1 hx1)
 clear hb1 hx1
 unfold hpA
 gi_wp2
 refine wpIn_label ?_
 gi_wp2
 refine⟨trivial,(callsIn_wide.2 (Jg _ _)).mono ?_⟩
 rintro e w3 ⟨rfl,hw3⟩
 obtain⟨w0,hw0,hz0,hg0,k1,k2,k3⟩:=zt w (.cells #[.int .u64 h.base,.int .i64 h.cap,.int .i64 h.to,.bool h.cycle,.int .i64 h.scan,src 0,src 1,src 2,src 3,src 4] 25) (.cells #[.int .i64 k] 3) (.cells ze10 25) (.cells #[.int .i64 0] 36)
 have hC:hpC h x1= #[.int .u64 h.base,.int .i64 h.cap,.int .i64 h.to,.bool h.cycle,.int .i64 h.scan,.slice a0 (lsH h 0).length c0,.slice a1 (lsH h 1).length c1,.slice a2 (lsH h 2).length c2,.slice a3 (lsH h 3).length c3,.slice a4 (lsH h 4).length c4]:=by
  simp only[hpC,e0,e1,e2,e3,e4,List.length_map]
 have HB2:=HB1.out
 unfold ze10 at hw0
 rw[hw0]at HB2
 obtain⟨w3',hw3',hz3,hz1,hSc,hKn⟩:=Lw hG hh r hz0 hg0 k1 k2 k3 HB2.1 HB2.2
 rw[hC]at hw3'
 rw[hw3']at hw3
 subst hw3
 clear HB1 HB2 hw3' hC e0 e1 e2 e3 e4 hw0 k1 k2 k3 HO'
 simp only[World.size_alloc]
 gi_wp2
 have hb4:w.heap.size+4≤w1.heap.size:=by omega
 have hBk: ¬(G (w.heap.size+1)∨w.heap.size+4≤w.heap.size+1):=fun h=>by
  rcases h with h|h
  ·have:=hG _ h;omega
  ·omega
 generalize hbb:w1.heap.size=b at*
 obtain⟨B,hB⟩: ∃B:Nat→Prop,B=fun c=>G c∨w.heap.size+4≤c:=⟨_,rfl⟩
 rw[←hB]at hSc hKn
 have hBk': ¬B (w.heap.size+1):=by rw[hB];exact hBk
 have hBW: ∀c,w.heap.size+4≤c→B c:=fun c hc=>by rw[hB];exact .inr hc
 have HBd:=Lib.hid hB
 clear hB hBk
 have hseq:=LF 4 (B:=B) (b:=b) (bk:=b+2) (kb:=w.heap.size+1) hKn (by omega) (by omega) (by omega) (by omega)
 refine UN rfl (by omega) (gf:=75) (lb:= #[.pointer (some ⟨b+2,0,none⟩)]) ?hg trivial (enters_of Tryz.func75 (by kernel_rfl) rfl)
  hseq KpN.trans (fun W l o o' _ h2 h3 _=>KpN.put o' h2 h3) (Below.refl _ _) (fun _=>rfl)
  (fun pre W=> ∃done,ScI B w b h k done W∧(pre.length:Int)≤(Zr h done).scan)
  (fun c pre W=>c= .exit 0∧ ∃done,ScI B w b h k done W∧(done=k∨(Zr h done).cycle=false))
  ?hI (fun _ _ _=>trivial) ?hIx ?hPx ?hS ⟨0,hSc,by have:=r.scan0;show((0:Nat):Int)≤h.scan;omega⟩
  (fun x=> {tmps:= #[.agg #[.int .u64 h.base,.int .i64 h.cap,.int .i64 h.to,.bool h.cycle,.int .i64 h.scan,src 0,src 1,src 2,src 3,src 4],.int .i64 k,.pointer (some ⟨w.heap.size,0,none⟩),.pointer (some ⟨w.heap.size+1,0,none⟩),.pointer (some ⟨w.heap.size+1+1,0,none⟩),.pointer (some ⟨w.heap.size+1+1+1,0,none⟩),.pointer (some ⟨b,0,none⟩),.pointer (some ⟨b+1,0,none⟩),.int .i64 (x.1:Nat),.bool x.2,undef,
    .agg #[.int .u64 h.base,.int .i64 h.cap,.int .i64 h.to,.bool h.cycle,.int .i64 h.scan,src 0,src 1,src 2,src 3,src 4],.agg #[.int .u64 h.base,.int .i64 h.cap,.int .i64 h.to,.bool h.cycle,.int .i64 h.scan,.slice a0 (lsH h 0).length c0,.slice a1 (lsH h 1).length c1,.slice a2 (lsH h 2).length c2,.slice a3 (lsH h 3).length c3,.slice a4 (lsH h 4).length c4],
    .func (.func 45) #[] #[.pointer (some ⟨b,0,none⟩)],.func (.func 75) #[] #[.pointer (some ⟨b+2,0,none⟩)],.int .i64 (x.1:Nat),.bool x.2,undef,undef,undef,undef,undef,undef,undef,undef,undef,undef,undef,undef,undef,undef,undef,undef,undef,undef,undef,undef,undef,undef,undef],defers:= []})
  ?assign ?body ?done ?stop
 case hg=>rfl
 case hI=>
  rintro pre X Y row ⟨done,S,hl⟩ hg hr
  exact⟨done,S.abide hg fun r e=>⟨by have:=(hr r e).1;omega,(hr r e).2⟩,hl⟩
 case hIx=>
  rintro c pre X Y row ⟨hc,done,S,hl⟩ hg hr
  exact⟨hc,done,S.abide hg fun r e=>⟨by have:=(hr r e).1;omega,(hr r e).2⟩,hl⟩
 case hPx=>
  rintro pre x _ X Y row ⟨p',hp',hx⟩ hg hr
  exact⟨p',hp'.abide hg fun r e=>(hr r e).2,hx⟩
 case hS=>
  rintro xs X Y row ⟨g,x,hx,hl⟩ hg hr
  exact⟨g,x,hx.abide hg fun r e=>(hr r e).2,hl⟩
 case assign=>
  rintro l x W K2 hK2
  simp only[List.zip_cons_cons,Array.zip,kwA]
  gi_wp2
  exact hK2
 case body=>
  rintro l pre x W ⟨done,S,hle⟩ ⟨p',hin,hx⟩ hlen
  obtain⟨q,sc⟩:=r.scans done
  have gok:=Xu hh r done
  obtain⟨y,hn⟩:=S.now
  have rq:Rt (Zr h done) p'∧x=(pre.length,Y5 p'.low pre.length):=by
   obtain⟨g',x',h1,h2,h3⟩:=hin
   have:=hn.uniq h1
   subst this
   exact⟨h3,hx⟩
  obtain⟨rg,hxe⟩:=rq
  subst hxe
  obtain⟨g,hgd⟩: ∃g,Zr h done=g:=⟨_,rfl⟩
  have hnb:=hn.nb
  have hONE:=qP W B b (fun c hc=>hBW c (by have:=Zj hnb;omega)) _ y hn gok rg
  rw[hgd]at hle gok rg hnb hONE
  unfold hpC at hnb
  have yb: ∀j,W.cell? ⟨b,j,none⟩=(#[.int .u64 g.base,.int .i64 g.cap,.int .i64 g.to,.bool g.cycle,.int .i64 g.scan,y 0,y 1,y 2,y 3,y 4]:Array Value)[j]? :=fun j=>cell_of_row _ _ _ _ _ _ hnb
  have ykb:=cell_of_row _ _ 0 _ _ _ S.kb
  have yfn:=cell_of_row _ _ 0 _ _ _ S.fn
  simp only[List.getElem?_toArray,List.getElem?_cons_zero]at ykb yfn
  have fkb:W.frozen? ⟨w.heap.size+1,0,none⟩=false:=Zl S.kb
  by_cases hend:done=k∨g.cycle=false
  ·have HE:=Lib.hid (And.intro S (And.intro hend hgd))
   have hor:((k:Int) - (done:Nat)==0)=true∨(((k:Int) - (done:Nat)==0)=false∧g.cycle=false):=by
    rcases hend with e|e
    ·exact .inl (by simp;omega)
    ·by_cases e2:done=k
     ·exact .inl (by simp;omega)
     ·exact .inr ⟨by simp;omega,e⟩
   clear hn S hnb hend hgd hin hONE
   rcases hor with hq| ⟨hq,hcf⟩
   ·gi_wp2
    exact⟨KeepsFrom.refl _ _,rfl,done,HE.out.1,by rw[HE.out.2.2];exact HE.out.2.1⟩
   ·gi_wp2
    exact⟨KeepsFrom.refl _ _,rfl,done,HE.out.1,by rw[HE.out.2.2];exact HE.out.2.1⟩
  ·have hd:done<k:=by have:=S.le;omega
   have hct:g.cycle=true:=by cases hcc:g.cycle<;>simp_all
   have hq:((k:Int) - (done:Nat)==0)=false:=by simp;omega
   have hscan:=rg.scanL
   have HH:=Lib.hid (And.intro S (And.intro hn (And.intro hgd (And.intro rg hd))))
   have HOn:=Lib.hid (hONE hct)
   have ylow:=hn.rd 0 (by omega)
   by_cases hlt:pre.length<g.scan
   ·have hltI:((pre.length:Int) <g.scan)=True:=eq_true hlt
    clear hn S hnb hend hgd hin hONE rg ylow
    gi_wp2
    exact⟨KeepsFrom.refl _ _,⟨Nat.le_refl _,fun _ _ h _ _ _=>h,fun p hp=>⟨p,[],hp,by simp⟩⟩,done,HH.out.1,by rw[HH.out.2.2.1];simp;omega⟩
   ·have hltI:((pre.length:Int) <g.scan)=False:=eq_false hlt
    have hpe:(pre.length:Int)=g.scan:=by omega
    clear hn S hnb hend hgd hin hONE rg ylow
    gi_wp2
    refine⟨trivial,(CallsIn.inRound l (callsIn_wide.2 HOn.out)).mono ?_⟩
    rintro e W2 ⟨rfl,hg2,hn2⟩
    have w1k:=Z1 ((k:Int) - (done:Nat) -1) (by omega) (by omega)
    obtain⟨s1,s2,s3,s4,s5⟩:=HH.out
    rw[←s3]at hn2
    have hst:=s1.step hh r (by rw[s3];exact s4) (by rw[s3];exact hct) hBk' hb4 s5 hg2 hn2
    have hkb2:W2.heap[w.heap.size+1]? =some (.cells #[.int .i64 ((k:Int) - (done:Nat))] 3 (0,0)):=(hg2.block _ (Zj s1.kb) (fun e=>by cases e;omega)).trans s1.kb
    have ykb2:=cell_of_row _ _ 0 _ _ _ hkb2
    simp only[List.getElem?_toArray,List.getElem?_cons_zero]at ykb2
    have fkb2:W2.frozen? ⟨w.heap.size+1,0,none⟩=false:=Zl hkb2
    have HST:=Lib.hid hst
    have HPE:=Lib.hid hpe
    clear s1 s2 s3 s4 s5 hg2 hn2 hst hkb2 hpe
    gi_wp2
    obtain⟨t1,t2,t3,t4⟩:=HST.out
    obtain⟨s1,s2,s3,s4,s5⟩:=HH.out
    have hz3:=s1.gr.size
    refine⟨(KeepsFrom.of_grownBy t3 fun j e=>by cases e;omega).trans (KeepsFrom.of_grownBy t4 fun j e=>by cases e;omega),t2,done+1,t1,?_⟩
    obtain⟨g',q',f⟩:=s4.scan hct
    rw[Yh,s3,hct]
    simp only[if_true]
    rw[f.eq,f.num.2.2.2]
    have:=HPE.out
    simp
    omega
 case done=>
  rintro D xs W hD ⟨g0,x0,hn0,hl0⟩ ⟨done,S,hle⟩ hD2
  have hfin:done=k∨(Zr h done).cycle=false:=by
   obtain⟨q,sc⟩:=r.scans done
   obtain⟨y,hn⟩:=S.now
   have:=hn.uniq hn0
   subst this
   cases hcc:(Zr h done).cycle with
   |false=>exact .inr rfl
   |true=>have:=sc.rt.cyc hcc;omega
  obtain⟨y,hn⟩:=S.now
  have HF:=Lib.hid (And.intro S (And.intro hfin hn))
  have hnb:=hn.nb
  obtain⟨d0,f0,g0'⟩:=Rd.slfT (hn.rd 0 (by omega))
  obtain⟨d1,f1,g1⟩:=Rd.slfT (hn.rd 1 (by omega))
  obtain⟨d2,f2,g2⟩:=Rd.slfT (hn.rd 2 (by omega))
  obtain⟨d3,f3,g3⟩:=Rd.slfT (hn.rd 3 (by omega))
  obtain⟨d4,f4,g4⟩:=Rd.slfT (hn.rd 4 (by omega))
  unfold hpC at hnb
  rw[g0',g1,g2,g3,g4]at hnb
  have yb: ∀j,W.cell? ⟨b,j,none⟩=_:=fun j=>cell_of_row _ _ _ _ _ _ hnb
  have yr0: ∀j,W.cell? ⟨w.heap.size+1+1,j,none⟩=_:=fun j=>cell_of_row _ _ _ _ _ _ S.r0
  have yr1: ∀j,W.cell? ⟨w.heap.size+1+1+1,j,none⟩=_:=fun j=>cell_of_row _ _ _ _ _ _ S.r1
  have fr0: ∀j,W.frozen? ⟨w.heap.size+1+1,j,none⟩=false:=fun j=>Zl S.r0
  have fr1: ∀j,W.frozen? ⟨w.heap.size+1+1+1,j,none⟩=false:=fun j=>Zl S.r1
  unfold ze10 at yr0
  have k0:=SF (G:=G) S rfl hfin hn HBd.out hG (by omega) hD2
  unfold hpC hpA at k0
  rw[g0',g1,g2,g3,g4]at k0
  simp only[List.length_map]at k0
  obtain⟨k1,k2,k4,k3⟩:=k0
  have HK:=Lib.hid k3
  clear hn0 hl0 hle hfin hn hnb S g0' g1 g2 g3 g4 k3
  gi_wp2
  refine⟨by simp,.inl ⟨D,_,rfl,run_takeDeferred k1,?_⟩⟩
  refine⟨_,?_,HK.out⟩
  clear HK HF k1
  generalize World.putObj _ D (.deferred none)=W10 at k2 k4⊢
  simp[results,Tryz.results27,go_sem,k2,k4]
 case stop=>
  rintro D c pre W hD ⟨rfl,done,S,hfin⟩ hD2
  obtain⟨y,hn⟩:=S.now
  have HF:=Lib.hid (And.intro S (And.intro hfin hn))
  have hnb:=hn.nb
  obtain⟨d0,f0,g0'⟩:=Rd.slfT (hn.rd 0 (by omega))
  obtain⟨d1,f1,g1⟩:=Rd.slfT (hn.rd 1 (by omega))
  obtain⟨d2,f2,g2⟩:=Rd.slfT (hn.rd 2 (by omega))
  obtain⟨d3,f3,g3⟩:=Rd.slfT (hn.rd 3 (by omega))
  obtain⟨d4,f4,g4⟩:=Rd.slfT (hn.rd 4 (by omega))
  unfold hpC at hnb
  rw[g0',g1,g2,g3,g4]at hnb
  have yb: ∀j,W.cell? ⟨b,j,none⟩=_:=fun j=>cell_of_row _ _ _ _ _ _ hnb
  have yr0: ∀j,W.cell? ⟨w.heap.size+1+1,j,none⟩=_:=fun j=>cell_of_row _ _ _ _ _ _ S.r0
  have yr1: ∀j,W.cell? ⟨w.heap.size+1+1+1,j,none⟩=_:=fun j=>cell_of_row _ _ _ _ _ _ S.r1
  have fr0: ∀j,W.frozen? ⟨w.heap.size+1+1,j,none⟩=false:=fun j=>Zl S.r0
  have fr1: ∀j,W.frozen? ⟨w.heap.size+1+1+1,j,none⟩=false:=fun j=>Zl S.r1
  unfold ze10 at yr0
  have k0:=SF (G:=G) S rfl hfin hn HBd.out hG (by omega) hD2
  unfold hpC hpA at k0
  rw[g0',g1,g2,g3,g4]at k0
  simp only[List.length_map]at k0
  obtain⟨k1,k2,k4,k3⟩:=k0
  have HK:=Lib.hid k3
  clear hfin hn hnb S g0' g1 g2 g3 g4 k3
  gi_wp2
  refine⟨by simp,.inl ⟨D,_,rfl,run_takeDeferred k1,?_⟩⟩
  refine⟨_,?_,HK.out⟩
  clear HK HF k1
  generalize World.putObj _ D (.deferred none)=W10 at k2 k4⊢
  simp[results,Tryz.results27,go_sem,k2,k4]
end Vm
end
section
namespace Vm
open Go Go.Proofs
set_option maxRecDepth 100000
set_option maxHeartbeats 1000000
end Vm
end
section
namespace Vm
open Go Go.Proofs
set_option maxRecDepth 100000
set_option maxHeartbeats 1000000
end Vm
end
section
namespace Vm
open Go Go.Proofs
set_option maxRecDepth 100000
set_option maxHeartbeats 1000000
end Vm
end
section
namespace Vm
open Go Go.Proofs
set_option maxRecDepth 100000
set_option maxHeartbeats 1000000
def Wq:Prop:= ∀(h:Hp) (p:Pts) (k:Int),h.ok→Rt h p→0≤k→Fit k→VC Tryz.prog 27 false [hpV h,vi k] (.tup [hpV (Zr h k.toNat),vi 0])
def YR(h:Hp)(k:Int):Hp×Int:=if k<0∨ZY h=false then(Hp.zero,1)else(Zr h k.toNat,0)
def finR(h:Hp):Hp×Int:=if ZY h=false then(Hp.zero,1)else(Zr h 9223372036854775807,0)
theorem XO(hS:Wq){h:Hp}(hh:h.ok){k:Int}(hk:Fit k):VC Tryz.prog 14 false [hpV h,vi k] (.tup [hpV (YR h k).1,vi (YR h k).2]):=by
 refine Z3 Tryz.func14 follows (by kernel_rfl) c14 rfl ?_
 have k1:=Z2g hh
 simp only[hpV]at k1
 unfold YR
 simp[p14]
 by_cases hk0:0≤k
 case neg=>simp[hk0,show k<0 by omega,hpV,Hp.zero]
 have hk1: ¬k<0:=by omega
 simp only[hk0,hk1,if_true,false_or]
 refine Z0 k1 (by simp) ?_
 cases hr:ZY h
 ·simp[hpV,Hp.zero]
 obtain⟨p,r⟩:=XH.1 hr
 have k2:=hS h p k hh r (by omega) hk
 simp only[hpV]at k2⊢
 simp
 refine Z0 k2 (by simp) ?_
 simp
theorem TC(hS:Wq){h:Hp}(hh:h.ok):VC Tryz.prog 10 false [hpV h] (.tup [hpV (finR h).1,vi (finR h).2]):=by
 refine Z3 Tryz.func10 follows (by kernel_rfl) c10 rfl ?_
 have k1:=Z2g hh
 simp only[hpV]at k1
 unfold finR
 simp[p10]
 refine Z0 k1 (by simp) ?_
 cases hr:ZY h
 ·simp[hpV,Hp.zero]
 obtain⟨p,r⟩:=XH.1 hr
 have k2:=hS h p 9223372036854775807 hh r (by omega) ⟨by omega,by omega⟩
 simp only[hpV]at k2⊢
 simp
 refine Z0 k2 (by simp) ?_
 simp
def ex15:Hp:=⟨10,5,1,true,0,[2,6],[],[31,0],[],[31]⟩
def ey15:Hp:=⟨10,5,1,true,1,[2,6],[],[31,0],[],[31]⟩
def ez15:Hp:=⟨10,5,1,false,2,[2,6],[],[],[],[31]⟩
theorem JY:ex15.ok:=by refine⟨?_,?_,?_,?_,?_,?_,?_,?_,?_,?_,?_,?_,?_,?_⟩<;>simp[ex15,U64,Fit]
theorem zP:ey15.ok:=by refine⟨?_,?_,?_,?_,?_,?_,?_,?_,?_,?_,?_,?_,?_,?_⟩<;>simp[ey15,U64,Fit]
theorem yr:ez15.ok:=by refine⟨?_,?_,?_,?_,?_,?_,?_,?_,?_,?_,?_,?_,?_,?_⟩<;>simp[ez15,U64,Fit]
theorem S1:Hp.zero.ok:=by refine⟨?_,?_,?_,?_,?_,?_,?_,?_,?_,?_,?_,?_,?_,?_⟩<;>simp[Hp.zero,U64,Fit]
theorem Lj(hS:Wq):VC Tryz.prog 5 false [] (.bool true):=by
 refine Z3 Tryz.func5 follows (by kernel_rfl) c5 rfl ?_
 have y1:ZY ex15=true:=by decide+kernel
 have y2:ZY ey15=true:=by decide+kernel
 have y3:ZY Hp.zero=false:=by decide+kernel
 have y4:ZY ez15=true:=by decide+kernel
 have r1:YR ex15 1=(ey15,0):=by
  unfold YR
  rw[y1,if_neg (by simp)]
  have:Zr ex15 (1:Int).toNat=ey15:=by decide+kernel
  rw[this]
 have r2:YR ex15 2=(ez15,0):=by
  unfold YR
  rw[y1,if_neg (by simp)]
  have:Zr ex15 (2:Int).toNat=ez15:=by decide+kernel
  rw[this]
 have r3:finR ey15=(ez15,0):=by
  unfold finR
  rw[y2,if_neg (by simp),show(9223372036854775807:Nat)=1+9223372036854775806 from rfl,Ws]
  have:Zr ey15 1=ez15:=by decide+kernel
  rw[this,YN rfl]
 have r4:YR ex15 (-1)=(Hp.zero,1):=by unfold YR;rw[if_pos (by simp)]
 have r5:finR Hp.zero=(Hp.zero,1):=by unfold finR;rw[y3,if_pos rfl]
 have r6:YR ez15 9=(ez15,0):=by
  unfold YR
  rw[y4,if_neg (by simp),YN rfl]
 have m1:=XO hS JY (k:=1) ⟨by omega,by omega⟩
 have m2:=XO hS JY (k:=2) ⟨by omega,by omega⟩
 have m3:=TC hS zP
 have m4:=XO hS JY (k:= -1) ⟨by omega,by omega⟩
 have m5:=TC hS S1
 have m6:=XO hS yr (k:=9) ⟨by omega,by omega⟩
 have s1:=UR (b:=ey15) zP
 have s2:=UR (b:=ez15) yr
 rw[r1]at m1
 rw[r2]at m2
 rw[r3]at m3
 rw[r4]at m4
 rw[r5]at m5
 rw[r6]at m6
 simp only[hpV,ex15,ey15,ez15,Hp.zero,List.map_cons,List.map_nil]at m1 m2 m3 m4 m5 m6 s1 s2
 simp[p5]
 refine Z0 m1 (by simp) ?_
 simp
 refine Z0 m2 (by simp) ?_
 simp
 refine Z0 m3 (by simp) ?_
 simp
 refine Z0 m4 (by simp) ?_
 simp
 refine Z0 m5 (by simp) ?_
 simp
 refine Z0 m6 (by simp) ?_
 simp
 refine Z0 s1 (by simp) ?_
 simp
 refine Z0 s2 (by simp) ?_
 simp
 refine Z0 s2 (by simp) ?_
 simp
 refine Z0 s2 (by simp) ?_
 simp
theorem qR{c n:Int}(hc:Fit c)(hn:0<n):VC Tryz.prog 13 false [vi c,vi n] (vi (pick c n)):=by
 refine Z3 Tryz.func13 follows (by kernel_rfl) c13 rfl ?_
 obtain⟨h1,h2⟩:=hc
 by_cases h:c<0
 ·simp[p13,h]
  simp(disch:=omega) only[Z1]
  refine⟨by omega,?_⟩
  unfold pick
  rw[if_pos h,Int.tmod_eq_emod_of_nonneg (by omega)]
 ·simp[p13,h]
  refine⟨by omega,?_⟩
  unfold pick
  rw[if_neg h,Int.tmod_eq_emod_of_nonneg (by omega)]
end Vm
end
section
namespace Vm
open Go Go.Proofs Go.RowKit
set_option maxRecDepth 100000
theorem yL:Wq:=by
 intro h p k hh r hk hf
 obtain⟨n,rfl⟩:=Int.eq_ofNat_of_zero_le hk
 rw[Int.toNat_natCast]
 refine⟨by kernel_rfl,fun w G vs hG hsz hvs=> ?_⟩
 have r0:=hvs 0 _ rfl
 have r1:=hvs 1 _ rfl
 have he:vs= #[vs.getD 0 undef,vs.getD 1 undef]:=by
  have hs3:vs.size=2:=hsz
  apply Array.ext
  ·simp[hs3]
  ·intro i h1 h2
   have hi:i<2:=by omega
   match i,hi with
   |0,_=>simp[Array.getD,hs3]
   |1,_=>simp[Array.getD,hs3]
 obtain⟨src,e0,hs⟩:=Z0n r0
 have e1:=Yt r1
 rw[he,e0,e1]
 refine(RR w G hG h hh src hs r (by have:=hf.2;omega)).mono ?_
 rintro e w' ⟨x,rfl,hb',hr⟩
 refine⟨_,rfl,hb',?_⟩
 refine .tup _ _ rfl ?_
 intro i y hy
 match i,hy with
 |0,hy=>cases hy;exact Z1Y fun j hj=>(hr j hj).mono fun b hb=>hb.imp (fun q=>⟨rfl,q⟩) id
 |1,hy=>cases hy;exact .int _ _
end Vm
end
section
namespace Vm
open Go Go.Proofs
set_option maxRecDepth 100000
def Ve(o:Ob)(k:Nat):List Int:=(List.range k).map fun(j:Nat)=>if(j:Int) <o.ptrs then 2 else 3
def YE(l:List Ob):List Int:=l.flatMap fun o=>1::Ve o o.size.toNat
theorem WW(o:Ob)(k:Nat):(Ve o k).length=k:=by simp[Ve]
theorem Tl(o:Ob)(k:Nat):Ve o (k+1)=Ve o k++ [if(k:Int) <o.ptrs then 2 else 3]:=by simp[Ve,List.range_succ]
theorem Vi{l:List Ob}{i:Nat}{o:Ob}(ho:l[i]? =some o):YE (l.take (i+1))=YE (l.take i)++1::Ve o o.size.toNat:=by
 rw[List.take_add_one,ho]
 simp[YE]
theorem WT{ws:List Int}{l:List Ob}(t:Tiles ws false 0 l): ∀n,n≤l.length→(YE (l.take n)).length=szL (l.take n)
 |0,_=>rfl
 |n+1,hn=>by
  obtain⟨o,ho⟩: ∃o,l[n]? =some o:=⟨_,List.getElem?_eq_getElem (by omega)⟩
  have hs:=Z2.1 (t.stands o (List.mem_of_getElem? ho)).1.shape
  have:=t.place ho
  rw[Vi ho,T2 ho,List.length_append,List.length_cons,WW,WT t n (by omega)]
  omega
theorem ya{ws:List Int}{l:List Ob}(t:Tiles ws false 0 l){n:Nat}{o:Ob}(ho:l[n]? =some o){a:Nat}(ha:o.at_=a){j:Nat}(hj:(j:Int)≤o.size):(YE l)[a+j]? =some (if j=0 then 1 else if(j:Int)≤o.ptrs then 2 else 3):=by
 have hn:=(List.getElem?_eq_some_iff.1 ho).1
 have hp:=t.place ho
 have hk:=WT t n (by omega)
 have hs:=Z2.1 (t.stands o (List.mem_of_getElem? ho)).1.shape
 have e:YE l=YE (l.take (n+1))++YE (l.drop (n+1)):=by
  conv=>lhs;rw[←List.take_append_drop (n+1) l]
  unfold YE
  rw[List.flatMap_append]
 have hl:(YE (l.take n)).length=a:=by omega
 rw[e,Vi ho,List.getElem?_append_left (by simp only[List.length_append,List.length_cons,WW];omega),List.getElem?_append_right (by omega),hl,Nat.add_sub_cancel_left]
 cases j with
 |zero=>rfl
 |succ j=>
  rw[List.getElem?_cons_succ]
  unfold Ve
  rw[List.getElem?_map,List.getElem?_range (by omega)]
  simp only[Option.map_some,Nat.succ_ne_zero,if_false]
  by_cases c:(j:Int) <o.ptrs
  ·rw[if_pos c,if_pos (by omega)]
  ·rw[if_neg c,if_neg (by omega)]
theorem Tiles.whose{ws:List Int}{l:List Ob}(t:Tiles ws false 0 l): ∀(n:Nat),n≤l.length→ ∀i,i<szL (l.take n)→ ∃m o a,m<n∧l[m]? =some o∧o.at_=(a:Nat)∧a≤i∧(i:Int)≤a+o.size
 |0,_,i,hi=>by simp[szL]at hi
 |n+1,hn,i,hi=>by
  obtain⟨o,ho⟩: ∃o,l[n]? =some o:=⟨_,List.getElem?_eq_getElem (by omega)⟩
  have hs:=Z2.1 (t.stands o (List.mem_of_getElem? ho)).1.shape
  have hp:=t.place ho
  have e:=T2 ho
  by_cases c:i<szL (l.take n)
  ·obtain⟨m,o',a,h1,h2,h3,h4,h5⟩:=Tiles.whose t n (by omega) i c
   exact⟨m,o',a,by omega,h2,h3,h4,h5⟩
  ·exact⟨n,o,szL (l.take n),by omega,ho,by omega,by omega,by omega⟩
theorem Lk{ws:List Int}{l:List Ob}(t:Tiles ws false 0 l){i:Nat}(hi:i<ws.length): ∃v,(YE l)[i]? =some v∧(v=2↔Y5 l i=true):=by
 have hsum:=t.sum (Nat.zero_le _)
 obtain⟨m,o,a,h1,h2,h3,h4,h5⟩:=t.whose l.length (Nat.le_refl _) i (by rw[List.take_length];omega)
 obtain⟨j,rfl⟩: ∃j,i=a+j:=⟨i-a,by omega⟩
 have hk:=ya t h2 h3 (j:=j) (by omega)
 refine⟨_,hk,?_⟩
 have hom:=List.mem_of_getElem? h2
 have hs:=Z2.1 (t.stands o hom).1.shape
 have e:Y5 l ((a+j:Nat):Int)=true↔(0<j∧(j:Int)≤o.ptrs):=by
  rw[Yr]
  constructor
  ·rintro⟨x,hx,k1,k2⟩
   have hsx:=Z2.1 (t.stands x hx).1.shape
   rcases t.apart x hx o hom with e|e|e
   ·subst e;omega
   ·omega
   ·omega
  ·exact fun h=>⟨o,hom,by omega,by omega⟩
 rw[e]
 by_cases c:j=0
 ·simp[c]
 ·rw[if_neg c]
  by_cases c2:(j:Int)≤o.ptrs
  ·simp[c2];omega
  ·simp[c2]
end Vm
end
section
namespace Vm
open Go
open Go.Proofs
set_option maxRecDepth 100000
def p3:Fn:=⟨34,[0,1,2,3,4,5,6,7,12,13,14,15,32,16,66,65,67,18,64,19,20,21,22,88,95,94,96,24,93,25,26,27,28,119],
(.seq
(.reg ⟨[],[],[(6,.m [(.fld (.sz (.s 0) 10) 0),(.fld (.sz (.s 0) 10) 1),(.fld (.sz (.s 0) 10) 2),(.fld (.sz (.s 0) 10) 3),(.fld (.sz (.s 0) 10) 4),(.fld (.sz (.s 0) 10) 5),(.fld (.sz (.s 0) 10) 6),(.fld (.sz (.s 0) 10) 7),(.fld (.sz (.s 0) 10) 8),(.fld (.sz (.s 0) 10) 9)]),(7,.m [(.fld (.sz (.s 1) 7) 0),(.fld (.sz (.s 1) 7) 1),(.fld (.sz (.s 1) 7) 2),(.fld (.sz (.s 1) 7) 3),(.fld (.sz (.s 1) 7) 4),(.fld (.sz (.s 1) 7) 5),(.fld (.sz (.s 1) 7) 6)]),(8,.v (.c (.bool false)))]⟩)
(.seq
(.reg ⟨[.call 34 [] (.id 5) false false []],[],[(9,.v (.s 34))]⟩)
(.seq
(.reg ⟨[],[],[(10,.m [(.fld (.mm 6 0 10) 0),(.fld (.mm 6 0 10) 1),(.fld (.mm 6 0 10) 2),(.fld (.mm 6 0 10) 3),(.fld (.mm 6 0 10) 4),(.fld (.mm 6 0 10) 5),(.fld (.mm 6 0 10) 6),(.fld (.mm 6 0 10) 7),(.fld (.mm 6 0 10) 8),(.fld (.mm 6 0 10) 9)])]⟩)
(.seq
(.seq
(.reg ⟨[],[],[(11,.v (.c (.int .i64 (1))))]⟩)
(.block 0
 (.loop [0,1,2,3,4,5,6,7,8,9,10,11]
  (.seq
  (.seq
  (.reg ⟨[],[],[(12,.v (.bin .leq (.s 11) (.c (.int .i64 (4)))))]⟩)
  (.cond (.s 12)
   .skip
   (.exit 0)))
  (.seq
  (.block 1
   (.reg ⟨[.call 35 [] (.id 7) false false [(.mm 10 0 10),(.s 11)],.call 36 [] (.id 7) false false [(.mm 10 0 10),(.s 11)],.call 37 [] (.id 6) false false [(.mm 10 0 10),(.s 11),(.slc (.s 35) (.c (.int .i64 (0))) (.mn (.len (.s 36)) (.c (.int .i64 (12)))) 1)]],[],[(10,.m [(.fld (.sz (.s 37) 10) 0),(.fld (.sz (.s 37) 10) 1),(.fld (.sz (.s 37) 10) 2),(.fld (.sz (.s 37) 10) 3),(.fld (.sz (.s 37) 10) 4),(.fld (.sz (.s 37) 10) 5),(.fld (.sz (.s 37) 10) 6),(.fld (.sz (.s 37) 10) 7),(.fld (.sz (.s 37) 10) 8),(.fld (.sz (.s 37) 10) 9)])]⟩))
  (.reg ⟨[],[],[(11,.v (.bin .add (.s 11) (.c (.int .i64 (1)))))]⟩))))))
(.seq
(.reg ⟨[],[],[(10,.m [(.m 10 0),(.m 10 1),(.m 10 2),(.m 10 3),(.m 10 4),(.m 10 5),(.m 10 6),(.m 10 7),(.m 10 8),(.slc (.m 6 9) (.c (.int .i64 (0))) (.mn (.len (.m 6 9)) (.c (.int .i64 (20)))) 1)])]⟩)
(.seq
(.reg ⟨[.call 38 [] (.id 8) false false [(.mm 7 0 7)]],[],[(13,.m [(.fld (.sz (.s 38) 10) 0),(.fld (.sz (.s 38) 10) 1),(.fld (.sz (.s 38) 10) 2),(.fld (.sz (.s 38) 10) 3),(.fld (.sz (.s 38) 10) 4),(.fld (.sz (.s 38) 10) 5),(.fld (.sz (.s 38) 10) 6),(.fld (.sz (.s 38) 10) 7),(.fld (.sz (.s 38) 10) 8),(.fld (.sz (.s 38) 10) 9)])]⟩)
(.seq
(.seq
(.reg ⟨[.call 39 [] (.id 9) false false [(.mm 13 0 10),(.s 2),(.s 3),(.s 4)]],[],[(14,.v (.c (.int .i64 (0)))),(15,.v (.len (.lit [(.mm 10 0 10),(.mm 13 0 10),(.sz (.s 39) 10)]))),(18,.v (.lit [(.mm 10 0 10),(.mm 13 0 10),(.sz (.s 39) 10)]))]⟩)
(.block 2
 (.loop [0,1,2,3,4,5,6,7,8,9,10,11,12,13,14,15,18]
  (.seq
  (.reg ⟨[],[],[(16,.v (.bin .lss (.s 14) (.s 15)))]⟩)
  (.seq
  (.cond (.s 16)
   .skip
   (.exit 2))
  (.seq
  (.block 3
   (.seq
   (.reg ⟨[],[],[(17,.m [(.fld (.flds (.idx (.s 18) (.s 14) 10) 0 10) 0),(.fld (.flds (.idx (.s 18) (.s 14) 10) 0 10) 1),(.fld (.flds (.idx (.s 18) (.s 14) 10) 0 10) 2),(.fld (.flds (.idx (.s 18) (.s 14) 10) 0 10) 3),(.fld (.flds (.idx (.s 18) (.s 14) 10) 0 10) 4),(.fld (.flds (.idx (.s 18) (.s 14) 10) 0 10) 5),(.fld (.flds (.idx (.s 18) (.s 14) 10) 0 10) 6),(.fld (.flds (.idx (.s 18) (.s 14) 10) 0 10) 7),(.fld (.flds (.idx (.s 18) (.s 14) 10) 0 10) 8),(.fld (.flds (.idx (.s 18) (.s 14) 10) 0 10) 9)])]⟩)
   (.seq
   (.reg ⟨[.call 40 [] (.id 10) false false [(.mm 17 0 10)]],[],[(19,.m [(.fld (.sz (.ext (.s 40) 0) 10) 0),(.fld (.sz (.ext (.s 40) 0) 10) 1),(.fld (.sz (.ext (.s 40) 0) 10) 2),(.fld (.sz (.ext (.s 40) 0) 10) 3),(.fld (.sz (.ext (.s 40) 0) 10) 4),(.fld (.sz (.ext (.s 40) 0) 10) 5),(.fld (.sz (.ext (.s 40) 0) 10) 6),(.fld (.sz (.ext (.s 40) 0) 10) 7),(.fld (.sz (.ext (.s 40) 0) 10) 8),(.fld (.sz (.ext (.s 40) 0) 10) 9)]),(20,.v (.ext (.s 40) 1))]⟩)
   (.seq
   (.reg ⟨[.call 41 [] (.id 11) false false [(.mm 17 0 10)]],[],[(21,.m [(.fld (.sz (.ext (.s 41) 0) 10) 0),(.fld (.sz (.ext (.s 41) 0) 10) 1),(.fld (.sz (.ext (.s 41) 0) 10) 2),(.fld (.sz (.ext (.s 41) 0) 10) 3),(.fld (.sz (.ext (.s 41) 0) 10) 4),(.fld (.sz (.ext (.s 41) 0) 10) 5),(.fld (.sz (.ext (.s 41) 0) 10) 6),(.fld (.sz (.ext (.s 41) 0) 10) 7),(.fld (.sz (.ext (.s 41) 0) 10) 8),(.fld (.sz (.ext (.s 41) 0) 10) 9)]),(22,.v (.ext (.s 41) 1))]⟩)
   (.seq
   (.seq
   (.reg ⟨[.lt 42 [] (.bin .neq (.s 20) (.s 22)),.call 43 [(42,false)] (.id 12) false false [(.mm 19 0 10),(.mm 21 0 10)]],[([(42,false)],(.un .not (.s 43)))],[(23,.v (.ite (.s 42) (.c (.bool true)) (.un .not (.s 43))))]⟩)
   (.cond (.s 23)
    (.seq
    (.reg ⟨[],[],[(8,.v (.c (.bool false)))]⟩)
    .ret)
    .skip))
   (.seq
   (.reg ⟨[.call 44 [] (.id 13) false false [(.s 5),(.c (.int .i64 (60)))]],[],[(24,.v (.c (.int .i64 (0)))),(25,.v (.len (.lit [(.one (.s 5)),(.bin .sub (.s 44) (.c (.int .i64 (2))))]))),(28,.v (.lit [(.one (.s 5)),(.bin .sub (.s 44) (.c (.int .i64 (2))))]))]⟩)
   (.block 4
    (.loop [0,1,2,3,4,5,6,7,8,9,10,11,12,13,14,15,16,17,18,19,20,21,22,23,24,25,28]
     (.seq
     (.reg ⟨[],[],[(26,.v (.bin .lss (.s 24) (.s 25)))]⟩)
     (.seq
     (.cond (.s 26)
      .skip
      (.exit 4))
     (.seq
     (.block 5
      (.seq
      (.reg ⟨[],[],[(27,.v (.fld (.idx (.s 28) (.s 24) 1) 0))]⟩)
      (.seq
      (.reg ⟨[.call 45 [] (.id 14) false false [(.mm 17 0 10),(.s 27)]],[],[(29,.m [(.fld (.sz (.ext (.s 45) 0) 10) 0),(.fld (.sz (.ext (.s 45) 0) 10) 1),(.fld (.sz (.ext (.s 45) 0) 10) 2),(.fld (.sz (.ext (.s 45) 0) 10) 3),(.fld (.sz (.ext (.s 45) 0) 10) 4),(.fld (.sz (.ext (.s 45) 0) 10) 5),(.fld (.sz (.ext (.s 45) 0) 10) 6),(.fld (.sz (.ext (.s 45) 0) 10) 7),(.fld (.sz (.ext (.s 45) 0) 10) 8),(.fld (.sz (.ext (.s 45) 0) 10) 9)]),(30,.v (.ext (.s 45) 1))]⟩)
      (.seq
      (.reg ⟨[.call 46 [] (.id 15) false false [(.mm 17 0 10),(.s 27)]],[],[(31,.m [(.fld (.sz (.ext (.s 46) 0) 10) 0),(.fld (.sz (.ext (.s 46) 0) 10) 1),(.fld (.sz (.ext (.s 46) 0) 10) 2),(.fld (.sz (.ext (.s 46) 0) 10) 3),(.fld (.sz (.ext (.s 46) 0) 10) 4),(.fld (.sz (.ext (.s 46) 0) 10) 5),(.fld (.sz (.ext (.s 46) 0) 10) 6),(.fld (.sz (.ext (.s 46) 0) 10) 7),(.fld (.sz (.ext (.s 46) 0) 10) 8),(.fld (.sz (.ext (.s 46) 0) 10) 9)]),(32,.v (.ext (.s 46) 1))]⟩)
      (.seq
      (.reg ⟨[.lt 47 [] (.bin .neq (.s 30) (.s 32)),.call 48 [(47,false)] (.id 12) false false [(.mm 29 0 10),(.mm 31 0 10)]],[([(47,false)],(.un .not (.s 48)))],[(33,.v (.ite (.s 47) (.c (.bool true)) (.un .not (.s 48))))]⟩)
      (.cond (.s 33)
       (.seq
       (.reg ⟨[],[],[(8,.v (.c (.bool false)))]⟩)
       .ret)
       .skip))))))
     (.reg ⟨[],[],[(24,.v (.bin .add (.s 24) (.c (.int .i64 (1)))))]⟩))))))))))))
  (.reg ⟨[],[],[(14,.v (.bin .add (.s 14) (.c (.int .i64 (1)))))]⟩)))))))
(.seq
(.reg ⟨[],[],[(8,.v (.s 9))]⟩)
.ret)))))))),
[(8,.v)]⟩
theorem c3:Z8 Tryz.prog fresh sig [.fz,.fz,.fz,.fz,.fz,.fz] [] Tryz.f3=some p3:=by kernel_rfl
def p11:Fn:=⟨8,[0,1,2,3,4,9,5,13],
(.seq
(.reg ⟨[],[],[(1,.m [(.fld (.sz (.s 0) 10) 0),(.fld (.sz (.s 0) 10) 1),(.fld (.sz (.s 0) 10) 2),(.fld (.sz (.s 0) 10) 3),(.fld (.sz (.s 0) 10) 4),(.fld (.sz (.s 0) 10) 5),(.fld (.sz (.s 0) 10) 6),(.fld (.sz (.s 0) 10) 7),(.fld (.sz (.s 0) 10) 8),(.fld (.sz (.s 0) 10) 9)]),(2,.m [(.c (.int .u64 (0))),(.c (.int .i64 (0))),(.c (.int .i64 (0))),(.c (.bool false)),(.c (.int .i64 (0))),(.c (.sl [])),(.c (.sl [])),(.c (.sl [])),(.c (.sl [])),(.c (.sl []))]),(3,.v (.c (.int .i64 (0))))]⟩)
(.seq
(.reg ⟨[.call 8 [] (.id 28) false false [(.mm 1 0 10)]],[],[(4,.v (.s 8))]⟩)
(.seq
(.seq
(.reg ⟨[],[],[(5,.v (.un .not (.s 4)))]⟩)
(.cond (.s 5)
 (.seq
 (.reg ⟨[],[([],(.ag [(.c (.int .u64 (0))),(.c (.int .i64 (0))),(.c (.int .i64 (0))),(.c (.bool false)),(.c (.int .i64 (0))),(.c (.sl [])),(.c (.sl [])),(.c (.sl [])),(.c (.sl [])),(.c (.sl []))]))],[(2,.m [(.c (.int .u64 (0))),(.c (.int .i64 (0))),(.c (.int .i64 (0))),(.c (.bool false)),(.c (.int .i64 (0))),(.c (.sl [])),(.c (.sl [])),(.c (.sl [])),(.c (.sl [])),(.c (.sl []))]),(3,.v (.c (.int .i64 (1))))]⟩)
 .ret)
 .skip))
(.seq
(.reg ⟨[],[],[(6,.m [(.fld (.mm 1 0 10) 0),(.fld (.mm 1 0 10) 1),(.fld (.mm 1 0 10) 2),(.fld (.mm 1 0 10) 3),(.fld (.mm 1 0 10) 4),(.fld (.mm 1 0 10) 5),(.fld (.mm 1 0 10) 6),(.fld (.mm 1 0 10) 7),(.fld (.mm 1 0 10) 8),(.fld (.mm 1 0 10) 9)])]⟩)
(.seq
(.block 0
 (.loop [0,1,2,3,4,5,6]
  (.seq
  (.seq
  (.reg ⟨[],[],[(7,.v (.m 6 3))]⟩)
  (.cond (.s 7)
   .skip
   (.exit 0)))
  (.block 1
   (.reg ⟨[.call 9 [] (.id 29) false false [(.mm 6 0 10)]],[],[(6,.m [(.fld (.sz (.s 9) 10) 0),(.fld (.sz (.s 9) 10) 1),(.fld (.sz (.s 9) 10) 2),(.fld (.sz (.s 9) 10) 3),(.fld (.sz (.s 9) 10) 4),(.fld (.sz (.s 9) 10) 5),(.fld (.sz (.s 9) 10) 6),(.fld (.sz (.s 9) 10) 7),(.fld (.sz (.s 9) 10) 8),(.fld (.sz (.s 9) 10) 9)])]⟩)))))
(.seq
(.reg ⟨[],[],[(2,.m [(.fld (.mm 6 0 10) 0),(.fld (.mm 6 0 10) 1),(.fld (.mm 6 0 10) 2),(.fld (.mm 6 0 10) 3),(.fld (.mm 6 0 10) 4),(.fld (.mm 6 0 10) 5),(.fld (.mm 6 0 10) 6),(.fld (.mm 6 0 10) 7),(.fld (.mm 6 0 10) 8),(.fld (.mm 6 0 10) 9)]),(3,.v (.c (.int .i64 (0))))]⟩)
.ret)))))),
[(2,(.ag 10)),(3,.v)]⟩
theorem c11:Z8 Tryz.prog fresh sig [.fz] [] Tryz.f11=some p11:=by kernel_rfl
def p15:Fn:=⟨10,[0,1,2,4,5,6,16,7,8,25],
(.seq
(.reg ⟨[],[],[(2,.m [(.fld (.sz (.s 0) 10) 0),(.fld (.sz (.s 0) 10) 1),(.fld (.sz (.s 0) 10) 2),(.fld (.sz (.s 0) 10) 3),(.fld (.sz (.s 0) 10) 4),(.fld (.sz (.s 0) 10) 5),(.fld (.sz (.s 0) 10) 6),(.fld (.sz (.s 0) 10) 7),(.fld (.sz (.s 0) 10) 8),(.fld (.sz (.s 0) 10) 9)]),(3,.m [(.c (.int .u64 (0))),(.c (.int .i64 (0))),(.c (.int .i64 (0))),(.c (.bool false)),(.c (.int .i64 (0))),(.c (.sl [])),(.c (.sl [])),(.c (.sl [])),(.c (.sl [])),(.c (.sl []))]),(4,.v (.c (.int .i64 (0))))]⟩)
(.seq
(.reg ⟨[.call 10 [] (.id 28) false false [(.mm 2 0 10)]],[],[(5,.v (.s 10))]⟩)
(.seq
(.seq
(.reg ⟨[.lt 11 [] (.un .not (.s 5))],[([(11,false)],(.bin .lss (.s 1) (.c (.int .i64 (0)))))],[(6,.v (.ite (.s 11) (.c (.bool true)) (.bin .lss (.s 1) (.c (.int .i64 (0))))))]⟩)
(.cond (.s 6)
 (.seq
 (.reg ⟨[],[([],(.ag [(.c (.int .u64 (0))),(.c (.int .i64 (0))),(.c (.int .i64 (0))),(.c (.bool false)),(.c (.int .i64 (0))),(.c (.sl [])),(.c (.sl [])),(.c (.sl [])),(.c (.sl [])),(.c (.sl []))]))],[(3,.m [(.c (.int .u64 (0))),(.c (.int .i64 (0))),(.c (.int .i64 (0))),(.c (.bool false)),(.c (.int .i64 (0))),(.c (.sl [])),(.c (.sl [])),(.c (.sl [])),(.c (.sl [])),(.c (.sl []))]),(4,.v (.c (.int .i64 (1))))]⟩)
 .ret)
 .skip))
(.seq
(.reg ⟨[],[],[(7,.m [(.fld (.mm 2 0 10) 0),(.fld (.mm 2 0 10) 1),(.fld (.mm 2 0 10) 2),(.fld (.mm 2 0 10) 3),(.fld (.mm 2 0 10) 4),(.fld (.mm 2 0 10) 5),(.fld (.mm 2 0 10) 6),(.fld (.mm 2 0 10) 7),(.fld (.mm 2 0 10) 8),(.fld (.mm 2 0 10) 9)])]⟩)
(.seq
(.seq
(.reg ⟨[],[],[(8,.v (.c (.int .i64 (0))))]⟩)
(.block 0
 (.loop [0,1,2,3,4,5,6,7,8]
  (.seq
  (.seq
  (.reg ⟨[.lt 12 [] (.bin .lss (.s 8) (.s 1))],[([(12,true)],(.m 7 3))],[(9,.v (.ite (.s 12) (.m 7 3) (.c (.bool false))))]⟩)
  (.cond (.s 9)
   .skip
   (.exit 0)))
  (.seq
  (.block 1
   (.reg ⟨[.call 13 [] (.id 29) false false [(.mm 7 0 10)]],[],[(7,.m [(.fld (.sz (.s 13) 10) 0),(.fld (.sz (.s 13) 10) 1),(.fld (.sz (.s 13) 10) 2),(.fld (.sz (.s 13) 10) 3),(.fld (.sz (.s 13) 10) 4),(.fld (.sz (.s 13) 10) 5),(.fld (.sz (.s 13) 10) 6),(.fld (.sz (.s 13) 10) 7),(.fld (.sz (.s 13) 10) 8),(.fld (.sz (.s 13) 10) 9)])]⟩))
  (.reg ⟨[],[],[(8,.v (.bin .add (.s 8) (.c (.int .i64 (1)))))]⟩))))))
(.seq
(.reg ⟨[],[],[(3,.m [(.fld (.mm 7 0 10) 0),(.fld (.mm 7 0 10) 1),(.fld (.mm 7 0 10) 2),(.fld (.mm 7 0 10) 3),(.fld (.mm 7 0 10) 4),(.fld (.mm 7 0 10) 5),(.fld (.mm 7 0 10) 6),(.fld (.mm 7 0 10) 7),(.fld (.mm 7 0 10) 8),(.fld (.mm 7 0 10) 9)]),(4,.v (.c (.int .i64 (0))))]⟩)
.ret)))))),
[(3,(.ag 10)),(4,.v)]⟩
theorem c15:Z8 Tryz.prog fresh sig [.fz,.fz] [] Tryz.f15=some p15:=by kernel_rfl
def p29:Fn:=⟨14,[0,1,2,3,4,5,6,7,31,9,8,10,11,64],
(.seq
(.reg ⟨[],[],[(1,.m [(.fld (.sz (.s 0) 10) 0),(.fld (.sz (.s 0) 10) 1),(.fld (.sz (.s 0) 10) 2),(.fld (.sz (.s 0) 10) 3),(.fld (.sz (.s 0) 10) 4),(.fld (.sz (.s 0) 10) 5),(.fld (.sz (.s 0) 10) 6),(.fld (.sz (.s 0) 10) 7),(.fld (.sz (.s 0) 10) 8),(.fld (.sz (.s 0) 10) 9)]),(2,.m [(.c (.int .u64 (0))),(.c (.int .i64 (0))),(.c (.int .i64 (0))),(.c (.bool false)),(.c (.int .i64 (0))),(.c (.sl [])),(.c (.sl [])),(.c (.sl [])),(.c (.sl [])),(.c (.sl []))])]⟩)
(.seq
(.reg ⟨[.call 14 [] (.id 55) false false [(.m 1 5)]],[],[(3,.v (.ext (.s 14) 0)),(4,.v (.ext (.s 14) 1))]⟩)
(.seq
(.reg ⟨[.call 15 [] (.id 56) false false [(.m 1 5),(.s 3)]],[],[(5,.v (.ext (.s 15) 0)),(6,.v (.ext (.s 15) 1))]⟩)
(.seq
(.reg ⟨[],[],[(7,.m [(.fld (.mm 1 0 10) 0),(.fld (.mm 1 0 10) 1),(.fld (.mm 1 0 10) 2),(.fld (.mm 1 0 10) 3),(.fld (.mm 1 0 10) 4),(.fld (.mm 1 0 10) 5),(.fld (.mm 1 0 10) 6),(.fld (.mm 1 0 10) 7),(.fld (.mm 1 0 10) 8),(.fld (.mm 1 0 10) 9)])]⟩)
(.seq
(.seq
(.reg ⟨[],[],[(8,.v (.bin .eql (.fld (.idx (.s 5) (.m 1 4) 1) 0) (.c (.int .i64 (2)))))]⟩)
(.cond (.s 8)
 (.seq
 (.reg ⟨[.call 16 [] (.id 57) false false [(.mm 1 0 10),(.fld (.idx (.m 1 5) (.m 1 4) 1) 0)]],[],[(9,.m [(.fld (.sz (.ext (.s 16) 1) 10) 0),(.fld (.sz (.ext (.s 16) 1) 10) 1),(.fld (.sz (.ext (.s 16) 1) 10) 2),(.fld (.sz (.ext (.s 16) 1) 10) 3),(.fld (.sz (.ext (.s 16) 1) 10) 4),(.fld (.sz (.ext (.s 16) 1) 10) 5),(.fld (.sz (.ext (.s 16) 1) 10) 6),(.fld (.sz (.ext (.s 16) 1) 10) 7),(.fld (.sz (.ext (.s 16) 1) 10) 8),(.fld (.sz (.ext (.s 16) 1) 10) 9)]),(10,.v (.ext (.s 16) 0)),(11,.v (.ext (.s 16) 2))]⟩)
 (.seq
 (.reg ⟨[],[],[(12,.v (.app (.c (.sl [])) (.m 9 5) 1))]⟩)
 (.seq
 (.reg ⟨[],[([],(.idx (.s 12) (.m 1 4) 1))],[(12,.v (.upd (.s 12) (.m 1 4) 0 (.one (.s 10))))]⟩)
 (.seq
 (.reg ⟨[],[],[(7,.m [(.fld (.mm 9 0 10) 0),(.fld (.mm 9 0 10) 1),(.fld (.mm 9 0 10) 2),(.fld (.mm 9 0 10) 3),(.fld (.mm 9 0 10) 4),(.fld (.mm 9 0 10) 5),(.fld (.mm 9 0 10) 6),(.fld (.mm 9 0 10) 7),(.fld (.mm 9 0 10) 8),(.fld (.mm 9 0 10) 9)])]⟩)
 (.reg ⟨[],[],[(7,.m [(.m 7 0),(.m 7 1),(.m 7 2),(.m 7 3),(.m 7 4),(.one (.s 12)),(.m 7 6),(.m 7 7),(.m 7 8),(.m 7 9)])]⟩)))))
 .skip))
(.seq
(.reg ⟨[],[],[(7,.m [(.m 7 0),(.m 7 1),(.m 7 2),(.m 7 3),(.bin .add (.m 1 4) (.c (.int .i64 (1)))),(.m 7 5),(.m 7 6),(.m 7 7),(.m 7 8),(.m 7 9)])]⟩)
(.seq
(.seq
(.reg ⟨[],[],[(13,.v (.bin .eql (.m 7 4) (.len (.m 7 5))))]⟩)
(.cond (.s 13)
 (.seq
 (.reg ⟨[],[],[(7,.m [(.m 7 0),(.m 7 1),(.m 7 2),(.c (.bool false)),(.m 7 4),(.m 7 5),(.m 7 6),(.m 7 7),(.m 7 8),(.m 7 9)])]⟩)
 (.seq
 (.reg ⟨[],[],[(7,.m [(.m 7 0),(.m 7 1),(.m 7 2),(.m 7 3),(.m 7 4),(.m 7 5),(.m 7 6),(.c (.sl [])),(.m 7 8),(.m 7 9)])]⟩)
 (.reg ⟨[],[],[(7,.m [(.m 7 0),(.m 7 1),(.m 7 2),(.m 7 3),(.m 7 4),(.m 7 5),(.m 7 6),(.m 7 7),(.c (.sl [])),(.m 7 9)])]⟩)))
 .skip))
(.seq
(.reg ⟨[],[],[(2,.m [(.fld (.mm 7 0 10) 0),(.fld (.mm 7 0 10) 1),(.fld (.mm 7 0 10) 2),(.fld (.mm 7 0 10) 3),(.fld (.mm 7 0 10) 4),(.fld (.mm 7 0 10) 5),(.fld (.mm 7 0 10) 6),(.fld (.mm 7 0 10) 7),(.fld (.mm 7 0 10) 8),(.fld (.mm 7 0 10) 9)])]⟩)
.ret)))))))),
[(2,(.ag 10))]⟩
theorem c29:Z8 Tryz.prog fresh sig [.fz] [] Tryz.f29=some p29:=by kernel_rfl
def p56:Fn:=⟨13,[0,1,4,5,6,7,13,8,33,9,44,54,65],
(.seq
(.reg ⟨[],[],[(2,.v (.c (.sl []))),(3,.v (.c (.int .i64 (0))))]⟩)
(.seq
(.reg ⟨[],[],[(4,.v (.c (.sl [])))]⟩)
(.seq
(.seq
(.reg ⟨[],[],[(5,.v (.c (.int .i64 (0))))]⟩)
(.block 0
 (.loop [0,1,2,3,4,5]
  (.seq
  (.seq
  (.reg ⟨[],[],[(6,.v (.bin .lss (.s 5) (.len (.s 1))))]⟩)
  (.cond (.s 6)
   .skip
   (.exit 0)))
  (.seq
  (.block 1
   (.seq
   (.reg ⟨[.call 13 [] (.id 82) false false [(.flds (.idx (.s 1) (.s 5) 5) 1 2)]],[],[(7,.v (.s 13))]⟩)
   (.seq
   (.seq
   (.reg ⟨[.lt 14 [] (.un .not (.s 7))],[([(14,false)],(.bin .neq (.fld (.idx (.s 1) (.s 5) 5) 0) (.len (.s 4))))],[(8,.v (.ite (.s 14) (.c (.bool true)) (.bin .neq (.fld (.idx (.s 1) (.s 5) 5) 0) (.len (.s 4)))))]⟩)
   (.cond (.s 8)
    (.seq
    (.reg ⟨[],[],[(3,.v (.c (.int .i64 (1))))]⟩)
    .ret)
    .skip))
   (.seq
   (.reg ⟨[],[],[(4,.v (.app (.s 4) (.lit [(.c (.int .i64 (1)))]) 1))]⟩)
   (.seq
   (.reg ⟨[],[],[(9,.v (.c (.int .i64 (0))))]⟩)
   (.block 2
    (.loop [0,1,2,3,4,5,6,7,8,9]
     (.seq
     (.seq
     (.reg ⟨[],[],[(10,.v (.bin .lss (.s 9) (.fld (.idx (.s 1) (.s 5) 5) 1)))]⟩)
     (.cond (.s 10)
      .skip
      (.exit 2)))
     (.seq
     (.block 3
      (.seq
      (.reg ⟨[],[],[(11,.v (.bin .lss (.s 9) (.fld (.idx (.s 1) (.s 5) 5) 2)))]⟩)
      (.cond (.s 11)
       (.reg ⟨[],[],[(4,.v (.app (.s 4) (.lit [(.c (.int .i64 (2)))]) 1))]⟩)
       (.reg ⟨[],[],[(4,.v (.app (.s 4) (.lit [(.c (.int .i64 (3)))]) 1))]⟩))))
     (.reg ⟨[],[],[(9,.v (.bin .add (.s 9) (.c (.int .i64 (1)))))]⟩))))))))))
  (.reg ⟨[],[],[(5,.v (.bin .add (.s 5) (.c (.int .i64 (1)))))]⟩))))))
(.seq
(.seq
(.reg ⟨[],[],[(12,.v (.bin .neq (.len (.s 4)) (.len (.s 0))))]⟩)
(.cond (.s 12)
 (.seq
 (.reg ⟨[],[],[(3,.v (.c (.int .i64 (1))))]⟩)
 .ret)
 .skip))
(.seq
(.reg ⟨[],[],[(2,.v (.s 4)),(3,.v (.c (.int .i64 (0)))),(4,.no)]⟩)
.ret))))),
[(2,.v),(3,.v)]⟩
theorem c56:Z8 Tryz.prog fresh sig [.fz,.fz] [] Tryz.f56=some p56:=by kernel_rfl
end Vm
end
section
namespace Vm
open Go Go.Proofs
set_option maxRecDepth 100000
set_option maxHeartbeats 1000000
theorem q9: ∀l:List Ob,l.length≤szL l
 | []=>Nat.zero_le _
 |o::l=>by
  have:=q9 l
  simp only[szL,List.map_cons,List.sum_cons,List.length_cons]at*
  omega
theorem jw{ws:List Int}{l:List Ob}(t:Tiles ws false 0 l)(hl:ws.length≤1000000):VC Tryz.prog 56 false [.sl (ws.map vu),.sl (l.map obV)] (.tup [.sl ((YE l).map vi),vi 0]):=by
 refine Z3 Tryz.func56 follows (by kernel_rfl) c56 rfl ?_
 have hsum:=t.sum (Nat.zero_le _)
 have hlen:=WT t l.length (Nat.le_refl _)
 rw[List.take_length]at hlen
 have hle: ∀n,n≤l.length→szL (l.take n)≤ws.length:=fun n hn=>by
  have:=Ld (l.take n) (l.drop n)
  rw[List.take_append_drop]at this
  omega
 have hll:l.length≤ws.length:=by have:=q9 l;omega
 simp[p56]
 refine ZX 5 l.length (fun i=> [(4,.v (.sl ((YE (l.take i)).map vi))),(5,.v (vi i))]) (fun _=>True) (by simp[YE]) (fun i=>by simp) trivial ?_
 rintro i hi-
 have wi:=Z1 ((i:Int)+1) (by omega) (by omega)
 by_cases hlt:i<l.length
 ·obtain⟨o,ho⟩: ∃o,l[i]? =some o:=⟨_,List.getElem?_eq_getElem hlt⟩
  have hs:=(t.stands o (List.mem_of_getElem? ho)).1.shape
  have hsh:=Z2.1 hs
  have hp:=t.place ho
  have hk:=WT t i (by omega)
  have hli:=hle (i+1) (by omega)
  have hsz:=T2 ho
  have k1:=Wu (s:=o.size) (p:=o.ptrs)
  rw[hs]at k1
  unfold shV at k1
  rw[Nat.zero_add,←hk]at hp
  have hkl:(YE (l.take i)).length≤1000000:=by omega
  obtain⟨m,hm⟩: ∃m:Nat,o.size=m:=⟨o.size.toNat,by omega⟩
  rw[hm]at k1
  have hnext:=Vi ho
  rw[hm,Int.toNat_natCast]at hnext
  have hmax:(YE (l.take i)).length+1+m≤1000000:=by omega
  rw[hnext]
  generalize YE (l.take i)=K at*
  simp[hlt,ho,Zh ho,obV,hm]
  refine Z0 k1 (by simp) ?_
  simp[hp,hlt,ho,Zh ho,obV,hm,lim]
  refine⟨by omega,?_⟩
  refine ZX 9 m (fun k=> [(4,.v (.sl ((K++1::Ve o k).map vi))),(9,.v (vi k))]) (fun _=>True) (by simp[Ve]) (fun i=>by simp) trivial ?_
  rintro k hk2-
  have wk:=Z1 ((k:Int)+1) (by omega) (by omega)
  by_cases hkt:k<m
  ·by_cases hkp:(k:Int) <o.ptrs
   ·simp[hlt,ho,Zh ho,obV,hm,hkt,hkp,wk,Tl,lim,WW]
    omega
   ·simp[hlt,ho,Zh ho,obV,hm,hkt,hkp,wk,Tl,lim,WW]
    omega
  have:k=m:=by omega
  subst this
  simp[hlt,ho,Zh ho,obV,hm,wi]
 have:i=l.length:=by omega
 subst this
 rw[List.take_length]
 have:(YE l).length=ws.length:=by omega
 simp[this]
theorem SY{h:Hp}{p:Pts}(hh:h.ok)(r:Rt h p)(hc:h.cycle=true):VC Tryz.prog 29 false [hpV h] (hpV (YA h)):=by
 refine Z3 Tryz.func29 follows (by kernel_rfl) c29 rfl ?_
 have k1:=U9 hh.low hh.lowW
 have hw:=r.walk
 rw[hw]at k1
 have t1:=r.tiles 1 (by omega)
 simp only[Xe,Pts.at1]at t1
 have k2:=jw t1 hh.low
 obtain⟨i,hi⟩:=Int.eq_ofNat_of_zero_le r.scan0
 have hil:i<h.low.length:=by have:=r.cyc hc;omega
 obtain⟨u,hu⟩: ∃u,h.low[i]? =some u:=⟨_,List.getElem?_eq_getElem hil⟩
 obtain⟨kv,hkv,hkp⟩:=Lk t1 hil
 have hkl:=(List.getElem?_eq_some_iff.1 hkv).1
 have k3:=RC hh (hh.lowW u (List.mem_of_getElem? hu))
 have f:=zB hh (hh.lowW u (List.mem_of_getElem? hu))
 have hll:=hh.low
 have wi:=Z1 ((i:Int)+1) (by omega) (by omega)
 have whl:=Z1 (h.low.length:Int) (by omega) (by omega)
 simp only[hpV]at k3⊢
 rw[hi]at k3
 simp[p29,hi]
 refine Z0 k1 (by simp) ?_
 simp
 refine Z0 k2 (by simp) ?_
 by_cases hp:Y5 p.low i=true
 ·have hk2:kv=2:=hkp.2 hp
  subst hk2
  obtain⟨v,g1,q1,fw⟩:=r.toBody.forward (r.once hc) r.scanL (KR r hi hp hu)
  rw[fw.fwd]at k3 f
  obtain⟨ws,hws⟩:=fw.ext.low
  have hil2:i<g1.low.length:=by rw[hws,List.length_append];omega
  have hgl:g1.low.length≤1000000:=f.1.low
  have wgl:=Z1 (g1.low.length:Int) (by omega) (by omega)
  have hgi:g1.low[i]? =some (g1.low[i]'hil2):=List.getElem?_eq_getElem _
  have he:YA h=Yd {g1 with low:=g1.low.set i v,scan:=(i:Int)+1}:=by
   unfold YA
   rw[hw,hi,if_pos hp,Int.toNat_natCast,hu,Option.getD_some,fw.fwd]
  rw[he]
  generalize g1.low[i]=u1 at hgi
  unfold Yd
  simp only[fwO,hpV]at k3
  simp[hkv,hkl,Zh hkv,hil,hu,Zh hu]
  refine Z0 k3 (by simp) ?_
  by_cases hend:(i:Int)+1=g1.low.length
  ·simp[lim,hil2,hgi,Zh hgi,V.put,List.map_set,wi,wgl,hend]
   omega
  ·simp[lim,hil2,hgi,Zh hgi,V.put,List.map_set,wi,wgl,hend]
   omega
 ·have hk2: ¬kv=2:=fun e=>hp (hkp.1 e)
  have he:YA h=Yd {h with scan:=(i:Int)+1}:=by
   unfold YA
   rw[hw,hi,if_neg hp]
  rw[he]
  unfold Yd
  by_cases hend:(i:Int)+1=h.low.length
  ·simp[hkv,hkl,Zh hkv,hk2,wi,whl,hend]
  ·simp[hkv,hkl,Zh hkv,hk2,wi,whl,hend]
def Ss(h:Hp)(p:Pts):Nat:=h.low.length+YL p+1
theorem Ki{h:Hp}{p:Pts}(r:Rt h p){i:Nat}(hc:(Zr h i).cycle=true):i+1≤Ss h p:=by
 obtain⟨q,s⟩:=r.scans i
 obtain⟨_,c2,c3⟩:=s.cyc hc
 have:=s.rt.cyc hc
 have:=r.scan0
 unfold Ss
 omega
theorem RP{h:Hp}(hh:h.ok){k:Int}(hk:Fit k):VC Tryz.prog 15 false [hpV h,vi k] (.tup [hpV (YR h k).1,vi (YR h k).2]):=by
 refine Z3 Tryz.func15 follows (by kernel_rfl) c15 rfl ?_
 have k1:=Tv hh
 simp only[hpV]at k1⊢
 unfold YR
 simp[p15]
 refine Z0 k1 (by simp) ?_
 cases hr:ZY h
 ·simp[hpV,Hp.zero]
 by_cases hk0:k<0
 ·simp[hk0,hpV,Hp.zero]
 obtain⟨n,rfl⟩:=Int.eq_ofNat_of_zero_le (show 0≤k by omega)
 obtain⟨p,r⟩:=XH.1 hr
 have hll:=hh.low
 have hcap:=Zp.1 r.lay
 have hroom:=r.room
 have hfin:Ss h p≤10000:=by unfold Ss;simp only[layH]at hcap;omega
 simp[hk0]
 refine ZX 8 (Ss h p) (fun i=> [(7,.m (hpCs (Zr h i))),(8,.v (vi i))]) (fun i=>i≤n) (by simp[hpCs,Zr]) (fun i=>by simp) (by omega) ?_
 rintro i hi hin
 have wi:=Z1 ((i:Int)+1) (by omega) (by omega)
 by_cases hlt:i<n
 ·have hltI:((i:Int) < (n:Int))=True:=eq_true (by omega)
  cases hc:(Zr h i).cycle with
  |true=>
   obtain⟨q,s⟩:=r.scans i
   have gok:=Xu hh r i
   have k2:=SY gok s.rt hc
   have hb:=Ki r hc
   have e:Zr h (i+1)=YA (Zr h i):=by rw[Yh,hc];simp
   rw[e]
   generalize Zr h i=g at*
   simp only[hpV]at k2
   rw[hc]at k2
   simp[hpCs,hltI,hc]
   refine Z0 k2 (by simp) ?_
   simp[wi]
   omega
  |false=>
   have e:Zr h n=Zr h i:=by
    obtain⟨d,rfl⟩: ∃d,n=i+d:=⟨n-i,by omega⟩
    rw[Ws,YN hc]
   rw[e]
   generalize Zr h i=g at*
   simp[hpCs,hltI,hc,hpV]
 ·have:i=n:=by omega
  subst this
  simp[hpCs,hpV]
def scm(c N:Nat)(t:St):Nat:=match get t c with| .m l=>(match l[4]? with|some (V.int _ k)=>N-k.toNat|_=>0) |_=>0
theorem zF{h:Hp}(hh:h.ok):VC Tryz.prog 11 false [hpV h] (.tup [hpV (finR h).1,vi (finR h).2]):=by
 refine Z3 Tryz.func11 follows (by kernel_rfl) c11 rfl ?_
 have k1:=Tv hh
 simp only[hpV]at k1⊢
 unfold finR
 simp[p11]
 refine Z0 k1 (by simp) ?_
 cases hr:ZY h
 ·simp[hpV,Hp.zero]
 obtain⟨p,r⟩:=XH.1 hr
 have hll:=hh.low
 have hcap:=Zp.1 r.lay
 have hroom:=r.room
 have hfin:Ss h p≤10000:=by unfold Ss;simp only[layH]at hcap;omega
 simp
 refine Zz (fun i:Nat=> [(6,.m (hpCs (Zr h i)))]) (fun i=>i≤Ss h p) (scm 6 (Ss h p)) 0 (by simp[hpCs,Zr]) (by omega) ?_
 rintro i hi
 cases hc:(Zr h i).cycle with
 |true=>
  obtain⟨q,s⟩:=r.scans i
  have gok:=Xu hh r i
  have k2:=SY gok s.rt hc
  have hb:=Ki r hc
  have e:Zr h (i+1)=YA (Zr h i):=by rw[Yh,hc];simp
  obtain⟨g',q',f⟩:=s.rt.scan hc
  have hsc:(YA (Zr h i)).scan=(Zr h i).scan+1:=by rw[f.eq];exact f.num.2.2.2
  have h0:=s.rt.scan0
  obtain⟨_,c2,c3⟩:=s.cyc hc
  have hcy:=s.rt.cyc hc
  have hlw:Ss h p=h.low.length+YL p+1:=rfl
  have e2:=e.symm
  generalize hg:Zr h i=g at*
  generalize YA g=g2 at*
  simp only[hpV]at k2
  rw[hc]at k2
  simp[hpCs,hc]
  refine Z0 k2 (by simp) ?_
  simp
  refine⟨i+1,hb,?_,?_⟩
  ·rw[←e2];simp
  ·rw[←e2];simp[scm];omega
 |false=>
  have e:Zr h 9223372036854775807=Zr h i:=by
   rw[show(9223372036854775807:Nat)=i+(9223372036854775807-i)by omega,Ws,YN hc]
  rw[e]
  generalize Zr h i=g at*
  simp[hpCs,hc,hpV]
end Vm
end
section
namespace Vm
open Go Go.Proofs
set_option maxRecDepth 100000
set_option maxHeartbeats 1000000
theorem zj{h:Hp}(hh:h.ok)(k:Int):(YR h k).1.ok:=by
 unfold YR
 split
 ·exact S1
 rename_i hr
 obtain⟨p,r⟩:=XH.1 (show ZY h=true by cases hrr:ZY h<;>simp_all)
 exact Xu hh r _
theorem Z0T{h:Hp}(hh:h.ok):(finR h).1.ok:=by
 unfold finR
 split
 ·exact S1
 rename_i hr
 obtain⟨p,r⟩:=XH.1 (show ZY h=true by simpa using hr)
 exact Xu hh r _
theorem Lm(hS:Wq){odd:Hp}(ho:odd.raw){x:Rw}(hx:x.ok){which n w k:Int}(hwh:Fit which)(hn:Fit n)(hw:U64 w)(hk:Fit k):
  VC Tryz.prog 3 false [hpV odd,rwV x,vi which,vi n,vu w,vi k] (.bool true):=by
 refine Z3 Tryz.func3 follows (by kernel_rfl) c3 rfl ?_
 simp[p3]
 refine Z0 (Lj hS) (by simp) ?_
 simp
 refine Zz (fun i:Nat=> [(10,.m (hpCs (fewN odd i))),(11,.v (vi ((i:Int)+1)))]) (fun i=>i≤4) (cnt 11 5) 0 (by simp[hpCs,fewN]) (by simp) ?_
 rintro i hi
 by_cases hlt:i<4
 ·have hlt':(i:Int)+1≤4:=by omega
  have k1:=Yq (h:=fewN odd i) (n:=(i:Int)+1)
  have k2:=Tw (h:=fewN odd i) (n:=(i:Int)+1) (l:=(Z5 (fewN odd i) ((i:Int)+1)).take 12)
  have he:Ym (fewN odd i) ((i:Int)+1) ((Z5 (fewN odd i) ((i:Int)+1)).take 12)=fewN odd (i+1):=by rw[fewN];rfl
  rw[he]at k2
  generalize hg2:fewN odd (i+1)=g2 at*
  generalize fewN odd i=g at*
  generalize Z5 g ((i:Int)+1)=ws at*
  unfold hpV at k1 k2
  simp[hlt',hpCs]
  refine Z0 k1 (by simp) ?_
  simp
  refine Z0 k1 (by simp) ?_
  simp
  rw[qu (k:=12) (K:=12) rfl]
  generalize ws.take 12=ws2 at*
  simp only[onO]
  refine Z0 k2 (by simp) ?_
  have hw12:=Z1 ((i:Int)+1+1) (by omega) (by omega)
  simp[hw12]
  exact⟨i+1,by omega,⟨by rw[hg2];simp,by simp⟩,by simp[cnt];omega⟩
 ·have:i=4:=by omega
  subst this
  simp[hpCs]
  rw[qu (k:=20) (K:=20) rfl]
  have hrt:(fewN odd 4).roots=odd.roots:=by simp[fewN]
  obtain⟨few,hfew⟩: ∃few:Hp,few= {fewN odd 4 with roots:=odd.roots.take 20}:=⟨_,rfl⟩
  have fok:few.ok:=by
   rw[hfew]
   exact Z2R ho
  have e5: [vu (fewN odd 4).base,vi (fewN odd 4).cap,vi (fewN odd 4).to,V.bool (fewN odd 4).cycle,vi (fewN odd 4).scan,.sl ((fewN odd 4).low.map vu),.sl ((fewN odd 4).high.map vu),.sl ((fewN odd 4).old.map vu),.sl ((fewN odd 4).far.map vu),.sl ((odd.roots.take 20).map vu)]=hpCs few:=by rw[hfew];rfl
  generalize odd.roots.take 20=rts at*
  generalize fewN odd 4=f4 at*
  have kh:=Z0S hx
  obtain⟨ok1,hr1,hro⟩:=jp hx
  have ok3:=yG ok1 (fun k=>Nat.le_trans (zL hr1 k) (by omega)) (by omega) (which:=which) hn hw
  have kt:=qh ok1 (w:=w) hwh hn
  simp
  unfold rwV at kh
  refine Z0 kh (by simp) ?_
  generalize JP x=own at*
  generalize Qf own which n w=near at*
  unfold hpV at kt
  simp
  refine Z0 kt (by simp) ?_
  simp
  have hall: ∀h∈ [few,own,near],h.ok:=by
   intro h hh
   simp at hh
   rcases hh with rfl|rfl|rfl<;>assumption
  have e6: [V.agg [V.int IntKind.u64 f4.base,V.int IntKind.i64 f4.cap,V.int IntKind.i64 f4.to,V.bool f4.cycle,V.int IntKind.i64 f4.scan,V.sl (List.map vu f4.low),V.sl (List.map vu f4.high),V.sl (List.map vu f4.old),V.sl (List.map vu f4.far),V.sl (List.map vu rts)],V.agg [vu own.base,vi own.cap,vi own.to,V.bool own.cycle,vi own.scan,V.sl (List.map vu own.low),V.sl (List.map vu own.high),V.sl (List.map vu own.old),V.sl (List.map vu own.far),V.sl (List.map vu own.roots)],V.agg [vu near.base,vi near.cap,vi near.to,V.bool near.cycle,vi near.scan,V.sl (List.map vu near.low),V.sl (List.map vu near.high),V.sl (List.map vu near.old),V.sl (List.map vu near.far),V.sl (List.map vu near.roots)]]= [few,own,near].map hpV:=by
   simp only[List.map_cons,List.map_nil,hpV]
   rw[show few= {f4 with roots:=rts}from hfew]
  rw[e6]
  have hl5: [few,own,near].length=3:=rfl
  generalize [few,own,near]=hs at*
  refine Yn 14 3 (fun _=>True) (by simp) (by simp) trivial ?_
  intro i hi _
  have hwi:=Z1 ((i:Int)+1) (by omega) (by omega)
  by_cases hlt:i<3
  case neg=>
   have:i=3:=by omega
   subst this
   simp
  have hx5:i<hs.length:=by omega
  have hxi:hs[i]? =some hs[i]:=List.getElem?_eq_getElem hx5
  have hok:=hall _ (List.getElem_mem hx5)
  generalize hs[i]=h at*
  have hlt':(i:Int) <3:=by omega
  have f1:=TC hS hok
  have f2:=zF hok
  have f3:=UR (b:=(finR h).1) (Z0T hok)
  have f4':=qR hk (n:=60) (by omega)
  have hp60:=YW (c:=k) (n:=60) (by omega)
  generalize pick k 60=q at*
  have wq:=Z1 (q-2) (by omega) (by omega)
  unfold hpV at f1 f2 f3
  simp[hlt,hlt',hx5,hxi,Zh hxi,hwi]
  refine Z0 f1 (by simp) ?_
  simp
  refine Z0 f2 (by simp) ?_
  simp
  refine Z0 f3 (by simp) ?_
  simp
  refine Z0 f4' (by simp) ?_
  simp[wq]
  have hms: ∀m∈ [k,q-2],Fit m:=by
   intro m hm
   simp at hm
   rcases hm with rfl|rfl
   ·exact hk
   ·exact⟨by omega,by omega⟩
  have e7: [vi k,vi (q-2)]= [k,q-2].map vi:=rfl
  rw[e7]
  have hl2: [k,q-2].length=2:=rfl
  generalize [k,q-2]=ms at*
  refine Yn 24 2 (fun _=>True) (by simp) (by simp) trivial ?_
  intro j hj _
  have hwj:=Z1 ((j:Int)+1) (by omega) (by omega)
  by_cases hjt:j<2
  case neg=>
   have:j=2:=by omega
   subst this
   simp[hlt,hlt',hwi]
  have hj2:j<ms.length:=by omega
  have hmj:ms[j]? =some ms[j]:=List.getElem?_eq_getElem hj2
  have hfit:=hms _ (List.getElem_mem hj2)
  generalize ms[j]=m at*
  have hjt':(j:Int) <2:=by omega
  have g1:=XO hS hok hfit
  have g2:=RP hok hfit
  have g3:=UR (b:=(YR h m).1) (zj hok m)
  unfold hpV at g1 g2 g3
  simp[hjt,hjt',hj2,hmj,Zh hmj,hlt,hlt',hx5,hxi,Zh hxi]
  refine Z0 g1 (by simp) ?_
  simp
  refine Z0 g2 (by simp) ?_
  simp
  refine Z0 g3 (by simp) ?_
  simp[hwj]
end Vm
end
section
namespace Go.Proofs.YtjkmonbmpoegjaaGreat
open Vm Go.ChangeShapes Go.WideShapes Go.ChangeAt Go.RowKit
set_option maxRecDepth 100000
theorem scanTells_law(xs:List V)(hl:xs.length=Tryz.f3.params.toList.length)(ht: ∀(i:Nat) (t:TypeId) (x:V),Tryz.f3.params.toList[i]? =some t→xs[i]? =some x→tyV Tryz.prog 8 t x):
  VC Tryz.prog 3 false xs (.bool true):=by
 rw[Tryz.params3]at hl ht
 match xs,hl with
 | [x0,x1,x2,x3,x4,x5],_=>
   obtain⟨o,rfl,ho⟩:=Z4m (ht 0 _ x0 rfl rfl)
   obtain⟨x,rfl,hx⟩:=Z4L (ht 1 _ x1 rfl rfl)
   obtain⟨h,rfl,hh⟩:=Sj (ht 2 _ x2 rfl rfl)
   obtain⟨n,rfl,hn⟩:=Sj (ht 3 _ x3 rfl rfl)
   obtain⟨w,rfl,hw⟩:=jf (ht 4 _ x4 rfl rfl)
   obtain⟨k,rfl,hk⟩:=Sj (ht 5 _ x5 rfl rfl)
   exact Lm yL ho hx hh hn hw hk
theorem scanTells_lifted(os:Os)(started:os.Started)(H:Type)(enc:TypeId×Value→H):
  ReturnsInHanded {} Tryz.checked os 3 .any (Rows.scanTellsSpec.pre6 enc Tryz.prog Tryz.f3 Rows.scanTellsRow.domain false) (Rows.scanTellsSpec.post enc Tryz.prog Tryz.f3 false true false false):=by
 refine returnsInHanded_of_change (C:=Tryz.checked) own started (by kernel_rfl) Tryz.func3
  (ChangeSpec.witness6 (enc:=enc) (C:=Tryz.checked) false ⟨#[], #[.agg #[.int .u64 0,.int .i64 0,.int .i64 0,.bool false,.int .i64 0,.slice none 0 0,.slice none 0 0,.slice none 0 0,.slice none 0 0,.slice none 0 0],.agg #[.slice none 0 0,.slice none 0 0,.slice none 0 0,.int .u64 0,.int .i64 0,.int .i64 0,.int .i64 0],.int .i64 0,.int .i64 0,.int .u64 0,.int .i64 0],[]⟩ 8 (by kernel_rfl) (by kernel_rfl) (by kernel_rfl) (by kernel_rfl)) ?_
 intro W base args ds gs before hval hW _ _
 exact Qt (tb:=4) 8 laidOut (by kernel_rfl) (by kernel_rfl) rfl (by kernel_rfl) Tryz.underlying4 (fun H ds hd=>by
  rw[Tryz.params3]at hd
  match ds,hd with
  | [_,_,_,_,_,_],_=>rfl) scanTells_law H enc W base args ds gs before hval hW
theorem scanTells_holds:Rows.ScanTellsSaid:=
 OpenClaim.holds_of_wide 3 Tryz.f3 rfl rfl rfl rfl rfl rfl rfl ⟨rfl,rfl,rfl,rfl,rfl⟩ rfl rfl rfl rfl rfl (by kernel_rfl) Tryz.func3 (by kernel_rfl)
  (of_decide_eq_true (by kernel_rfl)) (by unfold Func.isWrapper;first| (rw[if_pos (by decide+kernel)];kernel_rfl) | (rw[if_neg (by decide+kernel)];exact⟨rfl,rfl⟩))
  (fun os started H enc _=>scanTells_lifted os started H enc)
#print axioms scanTells_holds
end Go.Proofs.YtjkmonbmpoegjaaGreat
end
