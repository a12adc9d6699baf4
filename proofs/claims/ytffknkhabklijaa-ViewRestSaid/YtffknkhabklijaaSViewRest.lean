/-
  The law ViewRest holds of the given program, for every input.
-/
import Derived.Test.YtffknkhabklijaaRows
import Derived.Conc.LeavingOf
import Derived.Test.YtffknkhabklijaaSViewRest6
set_option linter.unusedSimpArgs false
set_option linter.unusedVariables false
set_option linter.defProp false
set_option maxHeartbeats 1000000
set_option maxRecDepth 100000
section
namespace Vm
open Go Go.Proofs
section
def plv(b:Bt)(i:Nat):Pl:=if(Z6 b i).part=0 then Zt b i else Z6 b i
def Zam(b:Bt)(p:Pl)(to:Int):Bool:=decide (0<=to)&&if 2<p.part then decide ((Zt b to.toNat).part≠0)else if p.part=1/\b.h.scan<=p.at_ then true else decide ((Z6 b to.toNat).part≠0)
def erB(b:Bt)(p:Pl)(to:Int):Int:=if Zam b p to=true then to else-1
def erN(b:Bt)(i:Nat):Nd:=⟨(List.range (ndAt b i).ptrs.length).map λ(j:Nat)=>erB b ⟨(plv b i).part,(((plv b i).at_.toNat+1+j:Nat):Int)⟩ (((ndAt b i).ptrs[j]?).getD 0),(ndAt b i).data⟩
def erG(b:Bt):Gr:=⟨(List.range b.g.nodes.length).map (erN b),b.g.roots.map λr=>if 0<=r/\(Z6 b r.toNat).part≠0 then r else-1⟩
section
variable {h:Hp}{p:Pts}
theorem Rt.gone_same(r:Rt h p){f g:Fo}(hf:f∈fos h 4 0)(hg:f.ob.gone=true)(gf:g∈fos h 4 0)(gg:g.ob.gone=false)(ht:f.ob.target=g.ad){w v:Int}(hw:w≠0)(ha:(adr w).1=f.ad)(hv:v≠0)(hb:(adr v).1=g.ad):(YN h).toA w=(YN h).toA v:=by
 obtain⟨t,e⟩:=ZhY.1 ((yh h).t2 f hf hg);obtain⟨x,k1,k2,k3,k4⟩:=(yh h).t1 _ _ e;rw[qf r k1 hf k3,ht]at k4
 have:getA (YN h).tm g.ad=none:=by
  cases hq:getA (YN h).tm g.ad with
  |none=>rfl
  |some t=>
   obtain⟨y,q1,q2,q3,_⟩:=(yh h).t1 _ _ hq
   grind [qf,absurd]
 simp_all[Vw.toA,if_neg,Zhm,Zkz]
end
section
variable {b:Bt}{x:Rw}
theorem Made.rt(m:Made b x)(hp:∀n∈b.g.nodes,∀q∈n.ptrs,-1<=q/\q< (b.g.nodes.length:Int)):Rt (ZC x b) (ptsB b):=by
 obtain⟨p,r⟩:=JY.1 (m.right hp);have:=r.parts;rw[m.parts]at this;simp_all
def obL(b:Bt)(i:Nat):Ob:=⟨(plv b i).at_,((ndAt b i).ptrs.length:Int)+(ndAt b i).data.length,(ndAt b i).ptrs.length,false,0⟩
theorem Made.plv_in(m:Made b x){i:Nat}(hi:i<b.g.nodes.length):1<=(plv b i).part/\(plv b i).part<=4/\(plv b i).at_=((cat b x (plv b i).part i).length:Nat)/\(plv b i).at_+sizN (ndAt b i)<=sizL (layH b.h) (plv b i).part/\refB b.h (plv b i)=refR (layH b.h) (plv b i).part (plv b i).at_/\obL b i∈obAt b (plv b i).part i/\∃tw,blkB b x (plv b i).part i=Xs b (plv b i) (ndAt b i) tw:=by
 unfold plv obL;by_cases h0:(Z6 b i).part=0
 ·have ho:(Zt b i).part≠0:=by
   rcases m.pl.here i hi with ⟨_,k,hk,e⟩|⟨h1,_⟩
   ·omega
   ·omega
  obtain⟨h1,h2,h3,h4⟩:=m.pl.old_in hi ho;have hne:¬(Z6 b i).part=(Zt b i).part:=by omega
  unfold plv;simp only[if_pos h0];refine⟨by omega,by omega,h2,h4,m.pl.ref_old m.lay hi ho,?_,0,?_⟩
  ·unfold obAt;rw[if_neg hne,if_pos rfl,if_pos h0];exact .head _
  ·unfold blkB;rw[if_neg hne,if_pos rfl,if_pos h0]
 ·obtain⟨h1,h2,h3⟩:=m.pl.here_in hi h0;unfold plv;simp only[if_neg h0];refine⟨by omega,by omega,h2,h3,m.pl.ref_here m.lay hi h0,?_,IntKind.i64.wrap (x.slack+i),?_⟩
  ·unfold obAt;rw[if_pos rfl];exact .head _
  ·unfold blkB;rw[if_pos rfl]
def vN(b:Bt)(x:Rw)(y:Int):Int:=if y<0 then-1 else(YN (ZC x b)).toA (refB b.h (plv b y.toNat))
theorem zR{k:Int}(hk:1<=k/\k<=4):∃q:Nat,q<4/\k=(q:Int)+1:=⟨(k-1).toNat,by omega,by omega⟩
theorem Made.fo_live(m:Made b x)(hp:∀n∈b.g.nodes,∀q∈n.ptrs,-1<=q/\q< (b.g.nodes.length:Int)){i:Nat}(hi:i<b.g.nodes.length){q:Nat}(hq:q<4)(hk:(plv b i).part=(q:Int)+1):obL b i∈obP (ZC x b) q/\foP (ZC x b) q (obL b i)∈fos (ZC x b) 4 0/\refB b.h (plv b i)≠0/\(adr (refB b.h (plv b i))).1=(foP (ZC x b) q (obL b i)).ad:=by
 have r:=m.rt hp;obtain⟨h1,h2,h3,h4,h5,h6,_⟩:=m.plv_in hi
 have ho:obL b i∈obP (ZC x b) q:=by
  rw[r.obQ hq,Tu b (by omega),<-hk];exact U4.2 ⟨i,hi,h6⟩
 refine⟨ho,Jx ho (by omega) (by omega),?_,?_⟩
 ·rw[h5];exact Z6C m.lay (by omega)
 ·rw[Je r hq ho,h5,WC m.lay (by omega),m.fill.2.1,hk];rfl
theorem Made.vN_at(m:Made b x)(hp:∀n∈b.g.nodes,∀q∈n.ptrs,-1<=q/\q< (b.g.nodes.length:Int)){i:Nat}(hi:i<b.g.nodes.length):∃(k q:Nat),vN b x i=k/\q<4/\(plv b i).part=(q:Int)+1/\(YN (ZC x b)).ns[k]?=some (foP (ZC x b) q (obL b i)):=by
 obtain⟨h1,h2,_⟩:=m.plv_in hi;obtain⟨q,hq,hk⟩:=zR ⟨h1,h2⟩;obtain⟨k1,k2,k3,k4⟩:=m.fo_live hp hi hq hk;obtain⟨k,e1,e2⟩:=(m.rt hp).to_live k2 rfl k3 k4;refine⟨k,q,?_,hq,hk,e2⟩;simp_all[vN,if_neg,Zhk]
theorem Z99(b:Bt)(x:Rw)(k:Int){i j:Nat}(h:i<j):(cat b x k i).length+(blkB b x k i).length<=(cat b x k j).length:=by
 obtain⟨r,hr⟩:=Us b x k (show i+1<=j by omega)
 grind [Yx]
theorem Made.plv_inj(m:Made b x){i j:Nat}(hi:i<b.g.nodes.length)(hj:j<b.g.nodes.length)(e:refB b.h (plv b i)=refB b.h (plv b j)):i=j:=by
 obtain⟨h1,h2,h3,h4,h5,_,tw,h6⟩:=m.plv_in hi;obtain⟨k1,k2,k3,k4,k5,_,tv,k6⟩:=m.plv_in hj;have s1:=VF (ndAt b i);have s2:=VF (ndAt b j);rw[h5,k5]at e;obtain⟨e1,e2⟩:=Z2y m.lay ⟨h1,h2⟩ ⟨k1,k2⟩ ⟨by omega,by omega⟩ ⟨by omega,by omega⟩ e;by_cases c1:i<j
 ·have:=Z99 b x (plv b i).part c1
  grind [ZM]
 by_cases c2:j<i
 ·have:=Z99 b x (plv b j).part c2
  grind [ZM]
 omega
theorem Made.to_hereA(m:Made b x){t:Nat}(h0:(Z6 b t).part≠0):(YN (ZC x b)).toA (refB b.h (Z6 b t))=vN b x t:=by
 simp_all[vN,plv,if_neg,Zhk]
theorem Made.to_oldA(m:Made b x)(hp:∀n∈b.g.nodes,∀q∈n.ptrs,-1<=q/\q< (b.g.nodes.length:Int)){t:Nat}(ht:t<b.g.nodes.length)(h0:(Zt b t).part≠0):(YN (ZC x b)).toA (refB b.h (Zt b t))=vN b x t:=by
 by_cases hh:(Z6 b t).part=0
 ·simp_all[vN,plv,if_neg,Zhk,if_pos]
 rw[<-m.to_hereA hh];have r:=m.rt hp;obtain⟨h1,h2,h3,h4⟩:=m.pl.old_in ht h0;obtain⟨g1,g2,g3⟩:=m.pl.here_in ht hh;have s1:=VF (ndAt b t);have hne:¬(Z6 b t).part=(Zt b t).part:=by omega
 have hpl:plv b t=Z6 b t:=by unfold plv;rw[if_neg hh]
 obtain⟨q,hq,hk⟩:=zR (k:=(plv b t).part) (by simp_all);obtain⟨k1,k2,k3,k4⟩:=m.fo_live hp ht hq hk;rw[hpl]at k3 k4;obtain⟨j,hj,hjk⟩:=zR (k:=(Zt b t).part) (by omega);obtain⟨o,ho⟩:∃o:Ob,o=⟨(Zt b t).at_,((ndAt b t).ptrs.length:Int)+(ndAt b t).data.length,(ndAt b t).ptrs.length,true,(adr (refB b.h (Z6 b t))).1⟩:=⟨_,rfl⟩
 have hom:o∈obP (ZC x b) j:=by
  rw[r.obQ hj,Tu b (by omega),<-hjk];refine U4.2 ⟨t,ht,?_⟩;unfold obAt;rw[if_neg hne,if_pos rfl,if_neg hh,ho];exact .head _
 have ho2:refB b.h (Zt b t)=refR (layH b.h) (Zt b t).part (Zt b t).at_:=m.pl.ref_old m.lay ht h0
 have hfa:(adr (refB b.h (Zt b t))).1=(foP (ZC x b) j o).ad:=by
  rw[Je r hj hom,ho2,WC m.lay (by omega),m.fill.2.1,ho,hjk]
 refine r.gone_same (f:=foP (ZC x b) j o) (g:=foP (ZC x b) q (obL b t)) (Jx hom (by omega) (by omega)) (by rw[ho];rfl) k2 rfl ?_ (by rw[ho2];exact Z6C m.lay (by omega)) hfa k3 k4;rw[<-k4,ho];rfl
theorem Z1e{h:Hp}{p:Pl}(h0:p.part=0):refB h p=0:=by unfold refB;omega
theorem jJ(s:Vw):s.toA 0= -1:=by rfl
theorem Made.slot_to(m:Made b x)(hp:∀n∈b.g.nodes,∀q∈n.ptrs,-1<=q/\q< (b.g.nodes.length:Int)){p:Pl}{to tw:Int}(ht: -1<=to/\to<b.g.nodes.length):(YN (ZC x b)).toA (VJ b p to tw)=vN b x (erB b p to):=by
 have hn:vN b x (-1)= -1:=rfl;unfold VJ erB Zam;by_cases h0:to<0
 ·rw[if_pos h0,jJ]
  grind
 obtain⟨t,rfl⟩:=Zhf (show 0<=to by omega);have ht':t<b.g.nodes.length:=by omega
 rw[if_neg h0];have eo:(b.old[((t:Nat):Int).toNat]?).getD ⟨0,0⟩=Zt b t:=rfl;have eh:(b.here[((t:Nat):Int).toNat]?).getD ⟨0,0⟩=Z6 b t:=rfl;rw[eo,eh,Zhk];have hpos:(0:Int)<=(t:Nat):=by omega
 have c1:(Zt b t).part=0->(YN (ZC x b)).toA (refB b.h (Zt b t))= -1:=λe=>by rw[Z1e e,jJ]
 have c2:(Z6 b t).part=0->(YN (ZC x b)).toA (refB b.h (Z6 b t))= -1:=λe=>by rw[Z1e e,jJ]
 have hold:(Z6 b t).part=0->(Zt b t).part≠0:=λe=>by
  rcases m.pl.here t ht' with ⟨_,k,hk,e'⟩|⟨h1,_⟩<;>omega
 by_cases h2:2<p.part
 ·rw[if_pos h2,if_pos h2];by_cases ho:(Zt b t).part=0
  ·simp_all
  ·rw[m.to_oldA hp ht' ho];simp[ho]
 rw[if_neg h2,if_neg h2];by_cases h3:p.part=1/\b.h.scan<=p.at_
 ·rw[if_pos h3];simp only[hpos,ZjQ,Bool.and_true,ZhC];split
  ·rename_i h4;refine m.to_oldA hp ht' ?_;omega
  ·rename_i h4;refine m.to_hereA λe=>h4 ⟨h3.1,h3.2,.inl e⟩
 ·rw[if_neg h3,if_neg λh=>h3 ⟨h.1,h.2.1⟩];by_cases ho:(Z6 b t).part=0
  ·simp_all
  ·rw[m.to_hereA ho];simp[ho]
theorem Made.live_sl(m:Made b x)(hp:∀n∈b.g.nodes,∀q∈n.ptrs,-1<=q/\q< (b.g.nodes.length:Int)){i q:Nat}(hi:i<b.g.nodes.length)(hq:q<4)(hk:(plv b i).part=(q:Int)+1):∃tw,(foP (ZC x b) q (obL b i)).sl=ZY b (plv b i) (plv b i).at_.toNat (ndAt b i).ptrs tw++(ndAt b i).data:=by
 obtain⟨h1,h2,h3,h4,h5,h6,tw,h7⟩:=m.plv_in hi;refine⟨tw,?_⟩;obtain⟨k1,_⟩:=m.fo_live hp hi hq hk;have hl:=Z0m (m.rt hp) hq k1;have hsz:(obL b i).size.toNat=(ndAt b i).ptrs.length+(ndAt b i).data.length:=by simp only[obL];omega
 apply Zjp;intro j;by_cases hj:j< (ndAt b i).ptrs.length+(ndAt b i).data.length
 ·have hw:=m.word ⟨h1,h2⟩ hi (t:=1+j) (by grind [ZM,sizN]);rw[h7]at hw
  have e1:(Xs b (plv b i) (ndAt b i) tw)[1+j]?=(ZY b (plv b i) (plv b i).at_.toNat (ndAt b i).ptrs tw++(ndAt b i).data)[j]? :=by
   unfold Xs;rw[ZjB 1 j,Zj6]
  rw[<-e1,<-hw,hk,Sh _ hq];simp only[foP];rw[Zj0 (by omega),ZhF]
  grind [obL]
 simp_all[ZhT,ZY]
theorem Z54(hr:right b.g=true):right (erG b)=true:=by
 have hb:∀(p:Pl) (to:Int),-1<=to/\to<b.g.nodes.length->inR b.g.nodes.length (erB b p to)=true:=λp to h=>by
  grind [erB,inR]
 have hr':=hr;simp only[right,ZgY,Zh5,Zhc]at hr'⊢;refine⟨⟨by simp_all[erG,ZhG],λnd hnd=> ?_⟩,λz hz=> ?_⟩
 ·simp only[erG,Zh8,Zir]at hnd;obtain⟨i,hi,rfl⟩:=hnd;have hm:ndAt b i∈b.g.nodes:=by unfold ndAt;rw[ZgV hi];exact Zh9 hi
  have h3:=hr'.1.2 _ hm;simp only[U5,ZgY,Zhc,Zh5]at h3⊢;refine⟨by simp_all[erN],λz hz=> ?_⟩;simp only[erN,Zh8,Zir]at hz;obtain⟨j,hj,rfl⟩:=hz;have:(erG b).nodes.length=b.g.nodes.length:=by simp[erG]
  rw[this];refine hb _ _ ?_;rw[ZgV hj];exact XR hr _ hm _ (Zh9 hj)
 ·simp only[erG,Zh8]at hz;obtain⟨w,hw,rfl⟩:=hz;have:=Y1 hr w hw;simp only[erG,ZhG,Zjq,inR,Zhc];omega
theorem Made.view(m:Made b x)(hr:Vm.right b.g=true):Yn (vg (ZC x b))=Yn (erG b):=by
 have hp:=XR hr;have r:=m.rt hp;have hrt:=r.vg_right;have her:=Z54 hr
 have hin:∀y∈order (erG b),∃i:Nat,y=i/\i<b.g.nodes.length:=λy hy=>by
  have:=(X3 her).2 y hy;simp only[erG,ZhG,Zjq]at this;exact⟨y.toNat,by omega,by omega⟩
 refine(yP her hrt (vN b x) rfl (λy hy z hz e=> ?_) (λy hy=> ?_) ?_ λy hy=> ?_).2
 ·obtain⟨i,rfl,hi⟩:=hin y hy;obtain⟨j,rfl,hj⟩:=hin z hz;obtain⟨k,q,e1,hq,hk,e2⟩:=m.vN_at hp hi;obtain⟨k',q',e1',hq',hk',e2'⟩:=m.vN_at hp hj;have:k=k':=by omega
  subst this;rw[e2]at e2';injection e2' with e2';obtain⟨_,_,n1,a1⟩:=m.fo_live hp hi hq hk;obtain⟨_,_,n2,a2⟩:=m.fo_live hp hj hq' hk';obtain⟨p1,p2,p3,p4,p5,_⟩:=m.plv_in hi;obtain⟨q1,q2,q3,q4,q5,_⟩:=m.plv_in hj
  have:i=j:=m.plv_inj hi hj (by
   rw[e2',<-a2]at a1;rw[p5,q5]at a1⊢;rw[WC m.lay (by omega),WC m.lay (by omega)]at a1;simp_all[refR])
  rw[this]
 ·obtain⟨i,rfl,hi⟩:=hin y hy;obtain⟨k,q,e1,_⟩:=m.vN_at hp hi;omega
 ·simp only[vg,Vw.gr,erG,ZC,Zj2];refine ZiA λw hw=> ?_;have hwb:=Y1 hr w hw;have hl:=Lr (x:=x) m.pl.ok b.g.nodes.length (Zh1 _);simp only[Function.comp];by_cases h0:0<=w
  ·obtain⟨t,rfl⟩:=Zhf h0;rw[if_pos h0,Sn hl];have eh:(b.here[((t:Nat):Int).toNat]?).getD ⟨0,0⟩=Z6 b t:=rfl;rw[eh,Zhk];by_cases ho:(Z6 b t).part=0
   ·rw[if_neg λk=>k.2 ho,Z1e ho,jJ];rfl
   ·rw[if_pos ⟨h0,ho⟩];exact m.to_hereA ho
  ·rw[if_neg h0,if_neg λk=>h0 k.1,jJ];rfl
 ·obtain⟨i,rfl,hi⟩:=hin y hy;obtain⟨k,q,e1,hq,hk,e2⟩:=m.vN_at hp hi;obtain⟨tw,hs⟩:=m.live_sl hp hi hq hk;have hm:ndAt b i∈b.g.nodes:=by unfold ndAt;rw[ZgV hi];exact Zh9 hi
  have hgn:(erG b).nodes[i]?=some (erN b i):=by simp[erG,hi]
  rw[e1,Zhk]
  have hv:(vg (ZC x b)).nodes[k]?=some (ndF (YN (ZC x b)) (foP (ZC x b) q (obL b i))):=by
   simp only[vg,Vw.gr,Zhd,e2,Zha]
  rw[hv];unfold outs;rw[Zhk,hgn,Zhm];have hpl:((foP (ZC x b) q (obL b i)).ob.ptrs).toNat=(ndAt b i).ptrs.length:=by simp[foP,obL]
  have hsl:(ZY b (plv b i) (plv b i).at_.toNat (ndAt b i).ptrs tw).length=(ndAt b i).ptrs.length:=by simp[ZY]
  simp only[ndF,hpl,hs,ZgT,Nd.mk.injEq];rw[<-hsl,Zkn,List.drop_left];refine⟨?_,rfl⟩;simp only[ZY,erN,Zj2];refine ZiA λj hj=> ?_;have hj':j< (ndAt b i).ptrs.length:=Zir.1 hj;simp only[Function.comp];refine m.slot_to hp ?_
  grind [List.getElem?_eq_getElem,List.getElem_mem]
end
end
end Vm
end
section
namespace Vm
open Go
open Go.Proofs
def p3:Fn:=⟨13,[0,1,2,3,6,7,8,9,10,11,12,13,14],
pQ [pR [(3,pS 0 7),pV 4 pF],pC [pK 13 13 []] [pV 5 (.s 13)],pR [(6,pM (.mm 3 0 7) 7)],pR [(6,.m [.m 6 0,.m 6 1,.m 6 2,.one (.s 1),.m 6 4,.m 6 5,.m 6 6])],pC [pK 14 14 [.s 2,pI 5]] [(6,.m [.m 6 0,.m 6 1,.m 6 2,.m 6 3,.bin .add (.m 3 4) (.bin .mul (pI 2) (.s 14)),.m 6 5,.m 6 6])],pR [(6,.m [.m 6 0,.m 6 1,.m 6 2,.m 6 3,.m 6 4,.m 6 5,.bin .add (.m 3 6) (pI 1)])],pC [pK 15 16 [.mm 3 0 7],pK 16 15 [.s 15]] [(7,pM (.sz (.ext (.s 16) 0) 2) 2),pV 8 (.ext (.s 16) 1)],pC [pK 17 16 [.mm 6 0 7],pK 18 15 [.s 17]] [(9,pM (.sz (.ext (.s 18) 0) 2) 2),pV 10 (.ext (.s 18) 1)],pC [pK 19 17 [.mm 7 0 2]] [(11,pM (.sz (.ext (.s 19) 0) 2) 2),pV 12 (.ext (.s 19) 1)],.reg ⟨[.lt 20 [] (.s 5),.lt 21 [] (.ite (.s 20) (.bin .eql (.s 8) (pI 0)) pF),.lt 22 [] (.ite (.s 21) (.bin .eql (.s 10) (pI 0)) pF),.lt 23 [] (.ite (.s 22) (.bin .eql (.s 12) (pI 0)) pF),.call 24 [(23,true)] (.id 18) false false [.mm 7 0 2,.mm 9 0 2],.lt 25 [] (.ite (.s 23) (.s 24) pF),.call 26 [(25,true)] (.id 18) false false [.mm 7 0 2,.mm 11 0 2],.lt 27 [] (.ite (.s 25) (.s 26) pF),.call 28 [(27,true)] (.id 19) false false [.mm 7 0 2],.lt 29 [] (.ite (.s 27) (.s 28) pF),.call 30 [(29,true)] (.id 16) false false [.mm 3 0 7],.call 31 [(29,true)] (.id 20) false false [.s 30],.call 32 [(29,true)] (.id 21) false false [.mm 7 0 2]],[([(20,true)],.bin .eql (.s 8) (pI 0)),([(21,true)],.bin .eql (.s 10) (pI 0)),([(22,true)],.bin .eql (.s 12) (pI 0)),([(29,true)],.bin .eql (.s 31) (.s 32))],[pV 4 (.ite (.s 29) (.bin .eql (.s 31) (.s 32)) pF)]⟩] .ret,[(4,.v)]⟩
def c3:Zh (bes Try.prog) fresh sig [.fz,.fz,.fz] [] Try.f3=some p3:=by kernel_rfl
def p14:Fn:=⟨4,[0,1,4,6],
pQ [pR [pV 2 (pI 0)],pQ [pR [pV 3 (.bin .lss (.s 0) (pI 0))]] (.cond (.s 3) (pR [pV 0 (.un .neg (.bin .add (.s 0) (pI 1)))]) .skip),pR [pV 2 (.bin .rem (.s 0) (.s 1))]] .ret,[(2,.v)]⟩
def c14:Zh (bes Try.prog) fresh sig [.fz,.fz] [] Try.f14=some p14:=by kernel_rfl
def p5:Fn:=⟨14,[0,1,2,3,4,10,11,12,13,14,15,16,17,18],
pQ [pR [pV 5 pF],pC [pK 14 13 []] [pV 6 (.s 14)],pC [pK 15 23 [.s 0,.s 1]] [(7,pS 15 2)],.reg ⟨[pK 16 14 [.s 3,pI 2],pK 17 14 [.bin .quo (.s 3) (pI 2),pI 2],pK 18 14 [.s 4,pI 9]],[([],.ag [.one (.s 0),.one (.s 1),.lit [.bin .add (.bin .mul (pI 3) (.s 16)) (.s 17)],.one (.s 2),.one (.s 18),.one (.s 4),.one (.s 4)])],[(8,.m [.one (.s 0),.one (.s 1),.lit [.bin .add (.bin .mul (pI 3) (.s 16)) (.s 17)],.one (.s 2),.one (.s 18),.one (.s 4),.one (.s 4)])]⟩,pC [pK 19 16 [.mm 8 0 7]] [(9,pS 19 10)],pC [pK 20 15 [.mm 9 0 10]] [(10,pM (.sz (.ext (.s 20) 0) 2) 2),pV 11 (.ext (.s 20) 1)],pC [pK 21 17 [.mm 7 0 2]] [(12,pM (.sz (.ext (.s 21) 0) 2) 2),pV 13 (.ext (.s 21) 1)],.reg ⟨[.lt 22 [] (.s 6),.lt 23 [] (.ite (.s 22) (.bin .eql (.s 11) (pI 0)) pF),.lt 24 [] (.ite (.s 23) (.bin .eql (.s 13) (pI 0)) pF),.call 25 [(24,true)] (.id 24) false false [.mm 10 0 2,.mm 7 0 2],.lt 26 [] (.ite (.s 24) (.s 25) pF),.call 27 [(26,true)] (.id 18) false false [.mm 10 0 2,.mm 12 0 2],.lt 28 [] (.ite (.s 26) (.s 27) pF),.call 29 [(28,true)] (.id 25) false false [.mm 9 0 10]],[([(22,true)],.bin .eql (.s 11) (pI 0)),([(23,true)],.bin .eql (.s 13) (pI 0))],[pV 5 (.ite (.s 28) (.s 29) pF)]⟩] .ret,[(5,.v)]⟩
def c5:Zh (bes Try.prog) fresh sig [.fz,.fz,.fz,.fz,.fz] [] Try.f5=some p5:=by kernel_rfl
end Vm
end
section
namespace Vm
open Go Go.Proofs
def Z3v{x:Rw}(hx:x.ok):Yn (vg (S4 x))=if(Zw x true).h.low.length=0 then Yn (erG (Zw x false))else Yn (erG (Zw x true)):=by
 have hr:∀c,right (Zw x c).g=true:=λc=>Jz x.nodes x.roots;unfold S4;split
 ·exact(made hx (by simp)).view (hr false)
 ·rename_i h;exact(made hx λ_=>h).view (hr true)
def Z9d{b:Bt}{x:Rw}(m:Made b x)(hr:right b.g=true)(hall:∀i,i<b.g.nodes.length->(Z6 b i).part≠0):erG b=b.g:=by
 have hk:∀(p:Pl) (to:Int),p.part<=2-> -1<=to/\to<b.g.nodes.length->erB b p to=to:=λp to hp ht=>by
  unfold erB Zam;by_cases h0:0<=to
  ·have:=hall to.toNat (by omega);have h2:¬2<p.part:=by omega
   simp[h0,h2,this]
  ·simp[h0];omega
 refine(?_ :erG b=⟨b.g.nodes,b.g.roots⟩);unfold erG;congr 1
 ·apply Zjp;intro i;by_cases hi:i<b.g.nodes.length
  ·rw[Zhd,ZjA hi,Zha,ZgV hi];have hn:ndAt b i=b.g.nodes[i]:=by unfold ndAt;rw[ZgV hi];rfl
   have hm:ndAt b i∈b.g.nodes:=by rw[hn];exact Zh9 hi
   have hpl:(plv b i).part<=2:=by
    unfold plv;rw[if_neg (hall i hi)];have:=(m.pl.here_in hi (hall i hi)).1;omega
   rw[<-hn];unfold erN;congr 1;refine(?_ :(⟨_,(ndAt b i).data⟩:Nd)=⟨(ndAt b i).ptrs,(ndAt b i).data⟩);congr 1;apply Zjp;intro j;by_cases hj:j< (ndAt b i).ptrs.length
   ·have hk':∀(a to:Int),-1<=to/\to<b.g.nodes.length->erB b ⟨(plv b i).part,a⟩ to=to:=λa to h=>hk ⟨_,a⟩ to hpl h;rw[Zhd,ZjA hj,Zha,ZgV hj,Zhm,hk' _ _ (XR hr _ hm _ (Zh9 hj))]
   ·rw[ZhT (by simp;omega),ZhT (by omega)]
  ·rw[ZhT (by simp;omega),ZhT (by omega)]
 ·refine(ZiA λw hw=> ?_).trans (List.map_id _);have:=Y1 hr w hw;split
  ·rfl
  ·rename_i h0;show-1=w;by_cases h1:0<=w
   ·exact absurd ⟨h1,hall w.toNat (by omega)⟩ h0
   ·omega
def Z6G{x:Rw}(hx:x.ok)(hc:∀i c,clsK x i c=0\/clsK x i c=1):Yn (vg (S4 x))=Yn (mkG x.nodes x.roots):=by
 have hr:∀c,right (Zw x c).g=true:=λc=>Jz x.nodes x.roots
 have hall:∀c i,i< (Zw x c).g.nodes.length->(Z6 (Zw x c) i).part≠0:=λc i hi=>by
  rw[SU hi];unfold ql;rcases hc i c with h|h<;>simp[h]
 rw[Z3v hx];split
 ·rw[Z9d (made hx (by simp)) (hr false) (hall false)];rfl
 ·rename_i h;rw[Z9d (made hx λ_=>h) (hr true) (hall true)];rfl
instance fitPick12:FitF (bes Try.prog) 14:=L9 (P:=Try.prog) Try.func14 rfl (by kernel_rfl)
def JM{c n:Int}(hc:Fit c)(hn:0<n):VC (bes Try.prog) 14 false [vi c,vi n] (vi (pick c n)):=by
 refine Z9 (P:=bes Try.prog) Try.func14 TX (by kernel_rfl) c14 rfl ?_;obtain⟨h1,h2⟩:=hc;by_cases h:c<0
 ·simp[p14,h];simp(disch:=omega) only[Z7];refine⟨by omega,?_⟩;unfold pick;rw[if_pos h,ZhN (by omega)]
 ·simp[p14,h];refine⟨by omega,?_⟩;unfold pick;rw[if_neg h,ZhN (by omega)]
def Z4x{g:Gr}(hg:g.sm)(hr:right g=true):VC (bes Try.prog) 17 false [grV g] (.tup [grV (Yn g),vi 0]):=by
 have h:=Z1D hg;unfold XA at h;rw[if_pos hr]at h
 exact up h (nom1 (Se g)) (.tup _ λc hc=>by
  simp only[Zhe,Zij,ZjL]at hc;rcases hc with rfl|rfl
  ·exact Se _
  ·exact .int _ _)
def Z4v{a b:Gr}(ha:a.sm)(hb:b.sm):VC (bes Try.prog) 24 false [grV a,grV b] (.bool (yq a b)):=up (Z7o ha hb) (nom2 (Se a) (Se b)) (.bool _)
def Zbv{h:Hp}(hh:h.ok):VC (bes Try.prog) 25 false [hpV h] (.bool (YA h)):=up (Zbw hh) (nom1 (Z68 h)) (.bool _)
def Z4y{l:List Nd}{roots:List Int}(hl:∀x∈l,∀p∈x.ptrs,Fit p)(hr:∀p∈roots,Fit p):VC (bes Try.prog) 23 false [.sl (l.map ndV),.sl (roots.map vi)] (grV (mkG l roots)):=up (Z1E hl hr) (nom2 (Z69 l) (Zd9 roots)) (Se _)
instance fitPlaces:FitF (bes Try.prog) 3:=L9 (P:=Try.prog) Try.func3 rfl (by kernel_rfl)
instance fitRest:FitF (bes Try.prog) 5:=L9 (P:=Try.prog) Try.func5 rfl (by kernel_rfl)
def Z5H{l:List Nd}{roots:List Int}{base cls scan:Int}(hlp:∀n∈l,∀p∈n.ptrs,Fit p)(hld:∀n∈l,∀q∈n.data,U64 q)(hr:∀p∈roots,Fit p)(hb:U64 base)(hc:Fit cls)(hs:Fit scan):VC (bes Try.prog) 5 false [.sl (l.map ndV),.sl (roots.map vi),vu base,vi cls,vi scan] (.bool true):=by
 refine Z9 (P:=bes Try.prog) Try.func5 TX (by kernel_rfl) c5 rfl ?_;simp[p5];refine Z1 Z32 (by simp) ?_;simp;refine Z1 (Z4y hlp hr) (by simp) ?_;have hgr:=Jz l roots;have hgs:=Zd2 l roots;have c1:=Xv (c:=cls) (n:=2) (by omega);have c2:=Xv (c:=cls.tdiv 2) (n:=2) (by omega);have c3:=Xv (c:=scan) (n:=9) (by omega)
 have hcd:Fit (cls.tdiv 2):=by
  obtain⟨a1,a2⟩:=hc;rw[Int.tdiv_eq_ediv,show Int.sign 2=1 from rfl];constructor<;>split<;>omega
 have w1:=Z7 (3*pick cls 2) (by omega) (by omega);have w2:=Z7 (3*pick cls 2+pick (cls.tdiv 2) 2) (by omega) (by omega);have w3:=Z7 (cls.tdiv 2) hcd.1 hcd.2;obtain⟨x,hx⟩:∃x:Rw,x=⟨l,roots,[3*pick cls 2+pick (cls.tdiv 2) 2],base,pick scan 9,scan,scan⟩:=⟨_,rfl⟩
 have hxk:x.ok:=by
  rw[hx];exact⟨hlp,hld,hr,λp hp=>by rw[ZhU.1 hp];exact⟨by omega,by omega⟩,hb,⟨by show _<=pick scan 9;omega,by show pick scan 9<=_;omega⟩,hs,hs⟩
 have hcl:∀i c,clsK x i c=0\/clsK x i c=1:=λi c=>by
  have e:rawC x i=3*pick cls 2+pick (cls.tdiv 2) 2:=by
   rw[hx];unfold rawC;simp[Nat.mod_one]
  have e2:pick (rawC x i) 3=pick (cls.tdiv 2) 2:=by
   rw[e];unfold pick at c1 c2⊢;rw[if_neg (by omega)];omega
  unfold clsK;rw[e2,if_neg (by omega)];omega
 have hv:=Z6G hxk hcl;rw[show mkG x.nodes x.roots=mkG l roots by rw[hx]]at hv;have k1:=Z7r hxk;obtain⟨hh1,_⟩:=Z7Q hxk;have hrr:=Z0r hxk;obtain⟨p1,r1⟩:=JY.1 hrr;have o1:=yl hh1;have sm:=Z9p hh1;rw[r1.ofG,hv]at o1 sm;have kq:=Zbv hh1;rw[hrr]at kq;simp only at o1 sm;generalize S4 x=h at*;rw[hx]at k1;simp only[rwV]at k1;generalize mkG l roots=g at*;have kc:=Z4x hgs hgr;have ka:=Z4v sm hgs
 have hal:yq (Yn g) g=true:=by
  unfold yq;rw[JX hgr,hgr,Z0c hgr];simp
 rw[hal]at ka;have ks:=Z1F (a:=Yn g) (b:=Yn g) sm;simp at ks;simp;refine Z1 (JM hc (by omega)) (by simp) ?_;simp[w3];refine Z1 (JM hcd (by omega)) (by simp) ?_;simp[w3];refine Z1 (JM hs (by omega)) (by simp) ?_;simp[w1,w2];refine Z1 k1 (by simp) ?_;simp;refine Z1 o1 (by simp) ?_;simp;refine Z1 kc (by simp) ?_;simp;refine Z1 ka (by simp) ?_;simp;refine Z1 ks (by simp) ?_;simp;refine Z1 kq (by simp) ?_;simp
end Vm
end
section
namespace Go.Proofs.Ytffknkhabklijaa
open Vm Go.ChangeShapes Go.WideShapes Go.ChangeAt Go.RowKit
def viewRest_law(xs:List V)(hl:xs.length=Try.f5.params.toList.length)(ht:∀(i:Nat) (t:TypeId) (x:V),Try.f5.params.toList[i]?=some t->xs[i]?=some x->tyV Try.prog 8 t x):
  VC (bes Try.prog) 5 false xs (.bool true):=by
 rw[Try.params5]at hl ht
 match xs,hl with
 | [x0,x1,x2,x3,x4],_=>
   obtain⟨l,rfl,_,hl⟩:=Zba (ht 0 _ x0 rfl rfl);obtain⟨r,rfl,_,hr⟩:=Z9I (ht 1 _ x1 rfl rfl);obtain⟨b,rfl,hb⟩:=Ze6 (ht 2 _ x2 rfl rfl);obtain⟨c,rfl,hc⟩:=Zbb (ht 3 _ x3 rfl rfl);obtain⟨s,rfl,hs⟩:=Zbb (ht 4 _ x4 rfl rfl);exact Z5H (λn hn=>(hl n hn).1.2) (λn hn=>(hl n hn).2.2) hr hb hc hs
def viewRest_lifted(os:Os)(started:os.Started)(H:Type)(enc:TypeId×Value->H):
  ReturnsInLeavingWide {} Try.checked os 5 .any (Rows.viewRestSpec.pre6 enc Try.prog Try.f5 Rows.viewRestRow.domain false) (Rows.viewRestSpec.post enc Try.prog Try.f5 false true false false):=by
 refine returnsInLeavingWide_of_change_sized (C:=Try.checked) own started Try.func5
  (ChangeSpec.witness6 (enc:=enc) (C:=Try.checked) false ⟨#[], #[.slice none 0 0,.slice none 0 0,.int .u64 0,.int .i64 0,.int .i64 0],[]⟩ 8 (by kernel_rfl) (by kernel_rfl) (by kernel_rfl) (by kernel_rfl)) ?_
 intro W base args ds gs before hval hW _ _ _
 exact zm (P:=Try.prog) (by kernel_rfl) (zA (P:=bes Try.prog) (tb:=4) 8 laidOut (by kernel_rfl) (by kernel_rfl) rfl (by kernel_rfl) Try.underlying4 (λH ds hd=>by
  rw[Try.params5]at hd
  match ds,hd with
  | [_,_,_,_,_],_=>rfl) viewRest_law H enc W base args ds gs before hval hW)
theorem viewRest_holds:Rows.ViewRestSaid:=
 OpenClaim.holds_of_wide_leaving 5 Try.f5 rfl rfl rfl rfl rfl rfl rfl ⟨rfl,rfl,rfl,rfl,rfl⟩ rfl rfl rfl rfl rfl (by kernel_rfl) Try.func5 (by kernel_rfl)
  (Zjr (by kernel_rfl)) (by unfold Func.isWrapper;first|(rw[if_pos (by decide+kernel)];kernel_rfl)|(rw[if_neg (by decide+kernel)];exact⟨rfl,rfl⟩))
  (λos started H enc _=>viewRest_lifted os started H enc)
#print axioms viewRest_holds
end Go.Proofs.Ytffknkhabklijaa
end
