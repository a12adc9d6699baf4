import Derived.Scope
import Derived.Conc.CrowdStepC
import Derived.Conc.Fork
import Derived.Listen
import Derived.Test.YtffknkhabklijaaChecked
import Derived.Test.YtffknkhabklijaaSViewLive3
set_option linter.unusedSimpArgs false
set_option linter.unusedVariables false
set_option linter.defProp false
def ZkK:=@_root_.List.take_zero
def ZjA:=@_root_.List.mem_iff_getElem?
def Zjp:=@_root_.List.mem_filter
def ZkA:=@_root_.List.length_filter_le
def Zij:=@_root_.List.mem_flatMap
def Zir:=@_root_.List.mem_append_left
def Zka:=@_root_.Option.isNone_iff_eq_none
def Zj1:=@_root_.Go.Frame.finish_at
def Zj6:=@_root_.Nat.le_max_left
def ZjE:=@_root_.Nat.le_max_right
def ZiT:=@_root_.Nat.lt_succ_self
def ZkC:=@_root_.List.mem_append_right
def ZiC:=@_root_.Iff.rfl
def Zjy:=@_root_.Array.getElem?_mapIdx
def Zjn:=@_root_.List.getElem?_cons_succ
section
namespace Vm
open Go
open Go.RowKit (Below)
def gL:List XS->Nat->(Nat->Bool)->Gam->Gam
 | [],_,_,g=>g
 |x::xs,k,L,g=>gL xs (k+1) L (if L k then x.os.d++g else g)
def gAll(xs:List XS)(g:Gam):Gam:=xs.foldl (λg x=>x.os.d++g) g
theorem Qb{t:Nat}:∀ {xs:List XS} {k:Nat} {L L':Nat->Bool} {g g':Gam},(∀(i:Nat) (x:XS),xs[i]?=some x->t∈Zz x.os.d->L (k+i)=L' (k+i))->g.at t=g'.at t->(gL xs k L g).at t=(gL xs k L' g').at t
 | [],_,_,_,_,_,_,hg=>hg
 |x::xs,k,L,L',g,g',hx,hg=>by
  simp only[gL];refine Qb (λi y hi ht=> ?_) ?_
  ·have:=hx (i+1) y (by grind) ht
   grind
  ·by_cases ht:t∈Zz x.os.d
   ·have h0:=hx 0 x rfl ht;rw[ZiQ]at h0;rw[<-h0];split
    ·simp_all[Y3,if_pos]
    ·exact hg
   ·have:∀(b:Bool) (g:Gam),Gam.at (if b=true then x.os.d++g else g) t=g.at t:=by
     intro b g;split
     ·rw[Y3,if_neg ht]
     ·rfl
    rw[this,this];exact hg
theorem Z0j{t:Nat}:∀ {xs:List XS} {k:Nat} {L:Nat->Bool} {g:Gam},(∀(i:Nat) (x:XS),xs[i]?=some x->L (k+i)=true->t∉Zz x.os.d)->(gL xs k L g).at t=g.at t
 | [],_,_,_,_=>rfl
 |x::xs,k,L,g,hx=>by
  simp only[gL];rw[Z0j λi y hi hl=>hx (i+1) y (by grind) (by grind)];split
  ·rename_i hk;rw[Y3,if_neg (hx 0 x rfl hk)]
  ·rfl
theorem Z92{t:Nat}:∀ {xs:List XS} {k i:Nat} {L:Nat->Bool} {g:Gam} {x:XS},xs[i]?=some x->L (k+i)=true->t∈Zz x.os.d->(∀(j:Nat) (y:XS),xs[j]?=some y->i<j->L (k+j)=true->t∉Zz y.os.d)->(gL xs k L g).at t=x.os.d.at t
 | [],_,_,_,_,_,hx,_,_,_=>by simp at hx
 |y::xs,k,0,L,g,x,hx,hl,ht,hn=>by
  simp at hx;subst hx;simp only[gL];rw[ZiQ]at hl;rw[hl,if_pos rfl,Z0j λj z hj hlj=>hn (j+1) z (by grind) (by omega) (by grind),Y3,if_pos ht]
 |y::xs,k,i+1,L,g,x,hx,hl,ht,hn=>by
  simp only[gL];exact Z92 (i:=i) (by simpa using hx) (by grind) ht λj z hj hij hlj=>hn (j+1) z (by grind) (by omega) (by grind)
theorem Z56{t:Nat}:∀ {xs:List XS} {k:Nat} {L:Nat->Bool} {g:Gam},(gL xs k L g).at t=g.at t\/∃j y,xs[j]?=some y/\L (k+j)=true/\t∈Zz y.os.d/\(gL xs k L g).at t=y.os.d.at t
 | [],_,_,_=>.inl rfl
 |x::xs,k,L,g=>by
  simp only[gL];rcases Z56 (xs:=xs) (k:=k+1) (L:=L) (g:=if L k=true then x.os.d++g else g) (t:=t)with h|⟨j,y,hj,hl,ht,h⟩
  ·by_cases hk:L k=true
   ·rw[if_pos hk]at h⊢;rw[Y3]at h;split at h
    ·rename_i ht;exact .inr ⟨0,x,rfl,hk,ht,h⟩
    simp_all
   simp_all
  ·exact .inr ⟨j+1,y,by grind,by grind,ht,h⟩
theorem Z0k:∀ {xs:List XS} {k j:Nat} {g:Gam},gL xs k (λi=>decide (i<k+j)) g=gAll (xs.take j) g
 | [],_,_,_=>by simp[gL,gAll]
 |x::xs,k,0,g=>by
  simp only[gL];rw[if_neg (by simp)];simp only[ZkK,gAll,List.foldl_nil]
  have h0:∀(xs:List XS) (k':Nat) (g:Gam),k<=k'->gL xs k' (λi=>decide (i<k+0)) g=g:=by
   intro xs
   induction xs with
   |nil=>intro k' g _;rfl
   |cons y ys ih=>
    intro k' g hk;simp only[gL];rw[if_neg (by simp;omega)];exact ih (k'+1) g (by omega)
  exact h0 xs (k+1) g (by omega)
 |x::xs,k,j+1,g=>by
  simp only[gL];rw[if_pos (by simp)];have h1:=Z0k (xs:=xs) (k:=k+1) (j:=j) (g:=x.os.d++g)
  have h2:(λi=>decide (i<k+1+j))=λi=>decide (i<k+(j+1)):=by
   funext i;congr 1;apply propext;omega
  rw[h2]at h1;rw[h1];simp[gAll]
theorem RS{c:Ctx}{draw:Bool}{lets:List Nat}{ops:Array Oper}:∀ {l:List Oper} {g gf:Gam} {xs0 xs:List XS},Re c draw lets ops l g xs0=some (gf,xs)->
  ∃ys,xs=xs0++ys/\ys.length=l.length/\gf=gAll ys g/\∀(j:Nat) (o:Oper),l[j]?=some o->∃y,ys[j]?=some y/\K5 c lets ops (gAll (ys.take j) g) o=some y.os/\y.R=Jo ops (gAll (ys.take j) g) o/\y.T=Z4k draw (xs0++ys.take j) o/\(draw=true->∀e∈VM o,e<xs0.length+j)
 | [],g,gf,xs0,xs,h=>by
   simp only[Re,ZgH,ZgR]at h;obtain⟨rfl,rfl⟩:=h;exact⟨[],by simp,rfl,rfl,λj o hj=>by simp at hj⟩
 |o::l,g,gf,xs0,xs,h=>by
  simp only[Re]at h;split at h
  ·cases h
  ·rename_i hedge;simp only[ZgI]at h;obtain⟨os,hos,h⟩:=h;obtain⟨ys,rfl,hl,rfl,hall⟩:=RS h;refine⟨{os,R:=Jo ops g o,T:=Z4k draw xs0 o}::ys,by simp,by simp[hl],by simp[gAll],λj o' hj=> ?_⟩;cases j with
   |zero=>
    simp at hj;subst hj;refine⟨_,rfl,by simpa[gAll]using hos,by simp[gAll],by simp,λhd e he=> ?_⟩;simp only[hd,Zkg,ZhD,Zj9,ZgT,Zh1]at hedge;exact hedge e he
   |succ j=>
    obtain⟨y,h1,h2,h3,h4,h5⟩:=hall j o' (by grind);refine⟨y,by simpa using h1,by simpa[gAll]using h2,by simpa[gAll]using h3,by simpa using h4,λhd e he=> ?_⟩;have:=h5 hd e he;simp at this;omega
structure Reg.Fine (c:Ctx) (draw:Bool) (ops:Array Oper) (g0:Gam) (xs:List XS):Prop where
 len:xs.length=ops.size
 at_:∀(i:Nat) (o:Oper) (x:XS),ops[i]?=some o->xs[i]?=some x->K5 c (Z29 ops) ops (gAll (xs.take i) g0) o=some x.os/\x.R=Jo ops (gAll (xs.take i) g0) o/\x.T=Z4k draw (xs.take i) o/\(draw=true->∀e∈VM o,e<i)
 ps:∀(i:Nat) (x:XS),xs[i]?=some x->(∀p∈x.os.ps,p∈Zz x.os.d)/\(∀p∈x.os.fz,p∈Zz x.os.d)/\JJ x.os g0=true/\∀j∈x.T,j<i
 pair:∀(i j:Nat) (x y:XS),xs[i]?=some x->xs[j]?=some y->Z2g x i y j=true
theorem Z9N{c:Ctx}{draw:Bool}{ops:Array Oper}{g0 gf:Gam}{xs:List XS}(h:Re c draw (Z29 ops) ops ops.toList g0 []=some (gf,xs))(hok:zC g0 xs=true):Reg.Fine c draw ops g0 xs/\gf=gAll xs g0:=by
 obtain⟨ys,hys,hl,rfl,hall⟩:=RS h;simp only[ZhM]at hys;subst hys;refine⟨⟨by omega,λi o x ho hx=> ?_,λi x hx=> ?_,λi j x y hx hy=> ?_⟩,rfl⟩
 ·obtain⟨y,h1,h2,h3,h4,h5⟩:=hall i o (by grind);simp_all
 all_goals
  simp only[zC,ZgT,ZgM]at hok;have hm:∀(i:Nat) (x:XS),xs[i]?=some x->(x,i)∈xs.zipIdx:=λi x hx=>ZjA.2 ⟨i,by rw[ZiP,hx];simp⟩
 ·obtain⟨⟨⟨⟨h1,h2⟩,h3⟩,h4⟩,_⟩:=hok (x,i) (hm i x hx);simp_all
 simp_all
section
variable {c:Ctx}{B:Nat}{G:Nat->Prop}{s:St}{a a':Act}{w w' w0:World}{h h':GH}{g0:Gam}{ops:Array Oper}{xs:List XS}{draw:Bool}{L:Nat->Bool}
def KE(xs:List XS)(L:Nat->Bool):Prop:=∀(i:Nat) (x:XS),xs[i]?=some x->L i=true->∀j∈x.T,L j=true
def add(L:Nat->Bool)(i:Nat):Nat->Bool:=λj=>L j||j==i
theorem JC{x y:XS}{i j:Nat}(hp:Z2g x i y j=true)(hne:j≠i)(hT:i∉y.T):JJ x.os y.os.d=true/\(j∉x.T->(∀t∈Zz y.os.d,t∉Zz x.os.d)/\∀t∈Zz y.os.d,t∉x.R):=by
 simp only[Z2g,ZgW,ZgM,Zhq,hne,false_or,Zi6,Zh1,hT]at hp
 grind [Z4v,List.all_eq_true,Bool.not_eq_true',decide_eq_false_iff_not]
theorem RJ{os:OS}{g:Gam}(hq:JJ os g=true){t:Nat}(ht:t∉Zz os.d):calm os.ps os.rb os.fz (g.at t).2=true:=by
 by_cases hm:t∈Zz g
 ·have:=ZgT.1 hq _ (Z1E hm);simp_all
 simp_all[Su,Z04]
theorem Reg.Fine.only(hf:Reg.Fine c draw ops g0 xs)(hcl:KE xs L)(hr:RelG c B G s a w h (gL xs 0 L g0)){i:Nat}{x:XS}(hx:xs[i]?=some x)(hi:L i=false)(hT:∀j∈x.T,L j=true):
  RelG c B G s a w h (only (gAll (xs.take i) g0) x.R):=by
 have hsame:∀t,t∈x.R->(gL xs 0 L g0).at t=(gAll (xs.take i) g0).at t:=by
  intro t ht;have hgt:=Z0k (xs:=xs) (k:=0) (j:=i) (g:=g0);simp only[Zhy]at hgt;rw[<-hgt];refine Qb (λj y hy htd=> ?_) rfl;rw[Zhy];obtain⟨_,_,_,hTy⟩:=hf.ps j y hy;obtain⟨_,_,_,hTx⟩:=hf.ps i x hx;by_cases hji:j=i
  ·simp_all
  ·have hcase:j∉x.T->i∉y.T->False:=λh1 h2=>((JC (hf.pair i j x y hx hy) hji h2).2 h1).2 t htd ht;rcases Zk5 hji with hlt|hgt
   ·grind
   ·cases hL:L j with
    |false=>simp;omega
    |true=>
     exfalso;refine hcase (λhh=>by grind) λhh=> ?_;have:=hcl j y hy hL i hh;simp_all
 refine⟨hr.ok,λt=> ?_,λt=> ?_⟩
 ·rw[zD];split
  ·rename_i ht;rw[<-hsame t ht];exact hr.at_ t
  simp_all[TK.isNo]
 ·rw[zD];split
  ·rename_i ht;rw[<-hsame t ht];exact hr.skip t
  simp_all[absurd,Zb]
theorem Reg.Fine.next(hf:Reg.Fine c draw ops g0 xs)(hcl:KE xs L)(hr:RelG c B G s a w h (gL xs 0 L g0)){i:Nat}{x:XS}(hx:xs[i]?=some x)(hi:L i=false)(hrb:∀t∈x.os.rb,t∈x.os.ps)(hT:∀j∈x.T,L j=true)(hp:OPost c B G s a a' w w' h h' x.os):
  RelG c B G s a' w' h' (gL xs 0 (add L i) g0):=by
 obtain⟨hps,hfz,hq0,hTx⟩:=hf.ps i x hx
 have key:∀t,(holds s (ixC c ((gL xs 0 (add L i) g0).at t).1)->((gL xs 0 (add L i) g0).at t).2.isNo=false->∃v,a'.tmps[t]?=some v/\RelK c.P B s w' h' (λp=>a'.tmps[p]?) t v ((gL xs 0 (add L i) g0).at t).2)/\
   (¬holds s (ixC c ((gL xs 0 (add L i) g0).at t).1)->a'.tmps.getD t undef=undef):=by
  intro t;by_cases ht:t∈Zz x.os.d
  ·have:(gL xs 0 (add L i) g0).at t=x.os.d.at t:=by
    refine Z92 hx (by simp[add]) ht λj y hy hij hl htd=> ?_
    have hlj:L j=true:=by
     simp only[add,Zhy,ZgW,Zhq]at hl;exact hl.resolve_right (by omega)
    have hTi:i∉y.T:=λhh=>by
     have:=hcl j y hy hlj i hh;simp_all
    exact((JC (hf.pair i j x y hx hy) (by omega) hTi).2 λhh=>by grind).1 t htd ht
   rw[this];exact hp.ent t ht
  ·have hsame:(gL xs 0 (add L i) g0).at t=(gL xs 0 L g0).at t:=by
    refine Qb (λj y hy htd=> ?_) rfl;by_cases hji:j=i
    ·simp_all
    ·simp[add,hji]
   rw[hsame];have htp:t∉x.os.ps:=λhh=>ht (hps t hh)
   have hcalm:calm x.os.ps x.os.rb x.os.fz ((gL xs 0 L g0).at t).2=true:=by
    rcases Z56 (xs:=xs) (k:=0) (L:=L) (g:=g0) (t:=t)with h1|⟨j,y,hy,hl,htd,h1⟩
    ·simp_all[RJ]
    ·rw[h1];rw[Zhy]at hl;have hji:j≠i:=λe=>by simp_all
     have hTi:i∉y.T:=λhh=>by
      have:=hcl j y hy hl i hh;simp_all
     exact RJ (JC (hf.pair i j x y hx hy) hji hTi).1 ht
   refine⟨λhC hn=> ?_,λhn=> ?_⟩
   ·obtain⟨v,hv,hk⟩:=hr.at_ t hC hn;exact⟨v,by rw[hp.tm t htp];exact hv,hk.keep hp.step hr.ok hrb htp (λhh=>absurd (hfz t hh) ht) hcalm hp.tm⟩
   ·have:=hr.skip t hn;simp only[ZgN,hp.tm t htp]at this⊢;exact this
 exact⟨hp.ok,λt=>(key t).1,λt=>(key t).2⟩
theorem Z3k(hcl:KE xs L){i:Nat}{x:XS}(hx:xs[i]?=some x)(hT:∀j∈x.T,L j=true):KE xs (add L i):=by
 intro j y hy hl k hk;simp only[add,ZgW,Zhq]at hl⊢;rcases hl with hl|rfl
 ·exact .inl (hcl j y hy hl k hk)
 simp_all
end
end Vm
namespace Vm
open Go
open Go.RowKit (Below)
section
variable {c:Ctx}{B:Nat}{G:Nat->Prop}{s:St}{a a':Act}{w w' w0:World}{h h':GH}{g0:Gam}{ops:Array Oper}{xs:List XS}{draw:Bool}{L:Nat->Bool}{n0:Nat}{ds:List Deferred}
theorem Z6Q{lets:List Nat}{all:Gam}{o:Oper}{os:OS}(hst:K5 c lets ops all o=some os):∀t∈os.rb,t∈os.ps:=by
 unfold K5 at hst;simp only at hst;split at hst
 grind
 ·simp only[ZgI]at hst;obtain⟨C,_,hst⟩:=hst;split at hst
  ·unfold K4 at hst;split at hst
   grind
   ·simp only[ZgI]at hst
    grind
  grind
  split at hst
  ·unfold zV at hst;split at hst
   grind
   ·simp only[ZgK]at hst
    grind
  grind
  ·split at hst
   ·unfold Z6R at hst
    grind
   ·split at hst
    grind
    ·simp only[ZgI]at hst;obtain⟨m,_,hst⟩:=hst;split at hst
     ·rename_i hsub;simp only[ZgM,ZgT,Zi6,Zh1]at hsub;simp only[ZgH]at hst;subst hst;exact hsub.1.2
     grind
structure Frm (Kf:Nat->Prop) (fx:Nat->Prop) (T0:Array Value) (B:Nat) (w0:World) (a:Act) (w:World):Prop where
 below:Below B w0 w
 same:Same Kf w0 w
 fix:∀t,fx t->a.tmps[t]?=T0[t]?
theorem Frm.refl{Kf fx:Nat->Prop}{B:Nat}(a:Act)(w:World):Frm Kf fx a.tmps B w a w:=⟨.refl _ _,.refl _ _,λ_ _=>rfl⟩
theorem Frm.trans{Kf fx:Nat->Prop}{T0:Array Value}{B:Nat}{w0 w w':World}{a a':Act}(h:Frm Kf fx T0 B w0 a w)(h':Frm Kf fx a.tmps B w a' w'):Frm Kf fx T0 B w0 a' w':=
 ⟨h.below.trans h'.below,h.same.trans h'.same,λt ht=>(h'.fix t ht).trans (h.fix t ht)⟩
variable {Kf fx:Nat->Prop}{T0:Array Value}
theorem Step.K_same{ps rb fz:List Nat}(hs:Step B ps rb fz w w' h h')(hok:Ok B G w h):Same h.K w w':=
 λb hb=>hs.same b (hok.k_lt b hb) λp _ i hi=>hok.k_bl p i b hi hb
def RInv(Kf fx:Nat->Prop)(T0:Array Value)(c:Ctx)(B:Nat)(G:Nat->Prop)(s:St)(g0:Gam)(xs:List XS)(w0:World)(n0:Nat)(ds:List Deferred)(L:Nat->Bool)(a:Act)(w:World):Prop:=
 (∃h,RelG c B G s a w h (gL xs 0 L g0)/\h.K=Kf)/\Frm Kf fx T0 B w0 a w/\a.tmps.size=n0/\a.defers=ds/\KE xs L
theorem RelG.drew{g:Gam}(hr:RelG c B G s a w h g)(d:Nat):RelG c B G s a {w with drawn:=d} h g:=by
 have hst:Step B [] [] [] w {w with drawn:=d} h h:=⟨⟨rfl,rfl,rfl,ZgP _,λ_ _=>rfl⟩,λ_ _ _=>rfl,λ_ hb=>hb,λ_ _ _=>rfl,λ_ _=>rfl,λ_ _ _ _ hm=>(by simp at hm),rfl⟩;have hok:Ok B G {w with drawn:=d} h:=⟨hr.ok.base,hr.ok.f_lt,hr.ok.f_or,hr.ok.g_F,hr.ok.b_lt,hr.ok.inj,hr.ok.k_lt,hr.ok.k_bl,hr.ok.k_F⟩;refine⟨hok,λt hC hn=> ?_,hr.skip⟩;obtain⟨v,hv,hk⟩:=hr.at_ t hC hn
 exact⟨v,hv,hk.keep hst hr.ok (λ_ h=>h) (by simp) (λh=>by simp at h) (by
  have:SN [] (g.at t).2=false:=by cases(g.at t).2<;>simp[SN]
  simp[calm,this]) λ_ _=>rfl⟩
theorem RInv.sim(hI:RInv Kf fx T0 c B G s g0 xs w0 n0 ds L a w)(d:Nat):RInv Kf fx T0 c B G s g0 xs w0 n0 ds L a {w with drawn:=d}:=by
 obtain⟨⟨h,hr,hK⟩,hb,h1⟩:=hI;exact⟨⟨h,hr.drew d,hK⟩,hb.trans ⟨⟨rfl,rfl,rfl,ZgP _,λ_ _=>rfl⟩,λ_ _=>rfl,λ_ _=>rfl⟩,h1⟩
theorem RInv.of_sim [Lg c.P]{w1:World}(hI:RInv Kf fx T0 c B G s g0 xs w0 n0 ds L a w)(h:Lg.sim c.P w w1):RInv Kf fx T0 c B G s g0 xs w0 n0 ds L a w1:=by
 rw[Lg.sim_eq h];exact hI.sim _
theorem JN [Lg c.P](hfx:∀o∈ops,∀d,o.dst=some d->¬fx d)(hf:Reg.Fine c draw ops g0 xs)(hs:∀x∈xs,okOS c.P s x.os)(hn:c.n<=n0)(hI:RInv Kf fx T0 c B G s g0 xs w0 n0 ds L a w){i:Nat}{x:XS}(hx:xs[i]?=some x)(hi:L i=false)(hT:∀j∈x.T,L j=true)
  {K:Act->World->Prop} (hK:∀a' w',RInv Kf fx T0 c B G s g0 xs w0 n0 ds (add L i) a' w'->K a' w'):opG c.P ops i K a w:=by
 obtain⟨⟨h,hr,hKf⟩,hb,hsz,hds,hcl⟩:=hI;have hlt:i<ops.size:=by rw[<-hf.len];exact(ZgL.1 hx).1
 obtain⟨e1,e2,e3,e4⟩:=hf.at_ i ops[i] x (Zh5 hlt) hx;have hro:=hf.only hcl hr hx hi hT;have hrb:=Z6Q e1;refine Z4d (R:=x.R) (Zh5 hlt) e2 hro e1 (hs x (ZgQ hx)) (by omega) λa' w' h' hp hput=>hK a' w' ⟨⟨h',hf.next hcl hr hx hi hrb hT hp,hp.step.K.trans hKf⟩,hb.trans ⟨hp.step.below,by rw[<-hKf];exact hp.step.K_same hr.ok,λt ht=> ?_⟩,by rw[hp.size,hsz],by rw[hp.defers,hds],Z3k hcl hx hT⟩;obtain⟨u,rfl⟩:=hput;cases hd:(ops[i]).dst with
 |none=>rfl
 |some d=>grind [JI,Array.getElem_mem]
theorem JO [Lg c.P](hfit:∀o∈ops,Lg.fit c.P o)(hfx:∀o∈ops,∀d,o.dst=some d->¬fx d)(hf:Reg.Fine c false ops g0 xs)(hs:∀x∈xs,okOS c.P s x.os)(hn:c.n<=n0){Q:Exit->Act->World->Prop}(hQ:∀a w,RInv Kf fx T0 c B G s g0 xs w0 n0 ds (λi=>decide (i<ops.size)) a w->Q .normal a w):
  ∀(m k:Nat) (a:Act) (w:World),k+m=ops.size->RInv Kf fx T0 c B G s g0 xs w0 n0 ds (λi=>decide (i<k)) a w->Lg.todo c.P ops Q (List.range' k m) a w
 |0,k,a,w,hk,hI=>by
  have:k=ops.size:=by omega
  subst this;exact Lg.todo_nil (hQ a w hI)
 |m+1,k,a,w,hk,hI=>by
  rw[List.range'_succ];have hlt:k<xs.length:=by rw[hf.len];omega
  have hlt':k<ops.size:=by omega
  obtain⟨_,_,e3,_⟩:=hf.at_ k ops[k] xs[k] (Zh5 hlt') (ZgJ hlt);refine Lg.todo_cons hfit λw1 hw1=> ?_;show opG c.P ops k _ a w1;refine JN hfx hf hs hn (hI.of_sim hw1) (ZgJ hlt) (by simp) (λj hj=> ?_) λa' w' hI'=>JO hfit hfx hf hs hn hQ m (k+1) a' w' (by omega) ?_
  ·rw[e3]at hj;simp only[Z4k,ZgU,Zhr,ZiN,ZhY]at hj;simp;omega
  ·have:add (λi=>decide (i<k)) k=λi=>decide (i<k+1):=by
    funext i;simp only[add];by_cases h1:i<k
    ·grind
    ·grind
   simp_all
def unl(n:Nat)(L:Nat->Bool):Nat:=((List.range n).filter λi=> !L i).length
theorem yN{p q:Nat->Bool}:∀ {l:List Nat},(∀i∈l,q i=true->p i=true)->(∃i∈l,p i=true/\q i=false)->(l.filter q).length< (l.filter p).length
 | [],_,⟨i,hi,_⟩=>by simp at hi
 |x::l,hpq,⟨i,hi,h1,h2⟩=>by
  have hle:∀(l:List Nat),(∀i∈l,q i=true->p i=true)->(l.filter q).length<=(l.filter p).length:=by
   intro l
   induction l with
   |nil=>simp
   |cons y l ih=>
    grind
  have hx:=hpq x (by simp);have hl:=hle l λi hi=>hpq i (by simp[hi]);simp only[List.filter_cons];rcases Zh0.1 hi with rfl|hi
  ·grind
  ·have:=yN (l:=l) (λi hi=>hpq i (by simp[hi])) ⟨i,hi,h1,h2⟩
   grind
theorem ZaV{n:Nat}{L:Nat->Bool}{i:Nat}(hi:i<n)(hl:L i=false):unl n (add L i)<unl n L:=
 yN (λj _ hj=>by simp_all[add,ZhD,Bool.or_eq_false_iff]) ⟨i,by grind,by simp[hl],by simp[add]⟩
theorem Z8G{n:Nat}{L:Nat->Bool}(h:unl n L=0):∀i,i<n->L i=true:=by
 intro i hi;cases hl:L i with
 |true=>rfl
 |false=>
  have:i∈(List.range n).filter λi=> !L i:=by simp[hi,hl]
  have h0:=Zhz h;simp_all
theorem Z5Q{o:Oper}{e:Edge}(he:e∈o.after)(hb:Region.binds .any e=true):e.on∈VM o:=by
 simp only[VM,ZgX,Zjp]
 grind
theorem Z4R{o:Oper}{j:Nat}(hj:j∈VM o):∃e∈o.after,Region.binds .any e=true/\e.on=j:=by
 grind [VM]
theorem Z3Q [Lg c.P](hfx:∀o∈ops,∀d,o.dst=some d->¬fx d)(hf:Reg.Fine c true ops g0 xs)(hs:∀x∈xs,okOS c.P s x.os)(hn:c.n<=n0){Q:Exit->Act->World->Prop}(hQ:∀a w L,(∀i,i<ops.size->L i=true)->RInv Kf fx T0 c B G s g0 xs w0 n0 ds L a w->Q .normal a w):
  ∀(fuel:Nat) (listed:Array Bool) (a:Act) (w:World),listed.size=ops.size->unl ops.size (λi=>listed.getD i false)<=fuel->RInv Kf fx T0 c B G s g0 xs w0 n0 ds (λi=>listed.getD i false) a w->anyG c.P ops Q fuel listed a w:=by
 have hgd:∀(listed:Array Bool) (i:Nat),listed.size=ops.size->i<ops.size->listed.getD i true=listed.getD i false:=by
  intro listed i h1 h2;simp[ZgN,h1,h2]
 have hempty:∀(listed:Array Bool),listed.size=ops.size->Region.ready .any ops listed=[]->∀i,i<ops.size->listed.getD i false=true:=by
  intro listed hsz hr i
  induction i using Nat.strongRecOn with
  |_ i ih=>
   intro hi;cases hl:listed.getD i false with
   |true=>rfl
   |false=>
    have hlx:i<xs.length:=by rw[hf.len];exact hi
    obtain⟨_,_,_,e4⟩:=hf.at_ i ops[i] xs[i] (Zh5 hi) (ZgJ hlx)
    have:i∈Region.ready .any ops listed:=mem_ready.2 ⟨by simp_all,ops[i],Zh5 hi,λe he hb=>by
     have hlt:=e4 rfl e.on (Z5Q he hb)
     grind⟩
    simp_all
 intro fuel
 induction fuel with
 |zero=>
  intro listed a w hsz hu hI;have hall:=Z8G (Nat.le_zero.1 hu);refine⟨?_,hQ a w _ hall hI⟩;cases hr:Region.ready .any ops listed with
  |nil=>rfl
  |cons i r=>
   have:i∈Region.ready .any ops listed:=by rw[hr];simp
   grind [mem_ready,Array.getElem?_eq_some_iff]
 |succ fuel ih=>
  intro listed a w hsz hu hI;refine⟨λhr=>hQ a w _ (hempty listed hsz hr) hI,λi hi w1 hw1=> ?_⟩;obtain⟨h1,o,ho,hall⟩:=mem_ready.1 hi;have hlt:i<ops.size:=(ZgO.1 ho).1;have hlx:i<xs.length:=by rw[hf.len];exact hlt
  rw[hgd listed i hsz hlt]at h1;obtain⟨_,_,e3,e4⟩:=hf.at_ i o xs[i] ho (ZgJ hlx);have hcl:=hI.2.2.2.2
  have hadd:(λj=>(listed.setIfInBounds i true).getD j false)=add (λi=>listed.getD i false) i:=by
   funext j;simp only[add];by_cases hji:j=i
   ·simp_all
   ·simp_all[getD_set_ne,ZiO]
  refine JN hfx hf hs hn (hI.of_sim hw1) (ZgJ hlx) h1 (λj hj=> ?_) λa' w' hI'=>ih _ a' w' (by simp_all) ?_ (by simp_all)
  ·rw[e3]at hj;simp only[Z4k,Zhp,Zjp,ZiN,Zii,ZgW,Zhq,Zi6,Zh1]at hj;obtain⟨_,e,he,hje⟩:=hj;obtain⟨ed,h2,h3,rfl⟩:=Z4R he;have hed:=hall ed h2 h3;rcases hje with rfl|hjT
   ·exact hed
   ·have hlte:=e4 rfl ed.on he;have hlxe:ed.on<xs.length:=by omega
    unfold Tof at hjT;rw[Zhm,if_pos hlte,ZgJ hlxe]at hjT;exact hcl ed.on _ (ZgJ hlxe) hed j hjT
  ·rw[hadd];have:=ZaV (n:=ops.size) (L:=λi=>listed.getD i false) hlt h1;omega
theorem Z3R [Lg c.P](hfit:∀o∈ops,Lg.fit c.P o)(hm:draw=true->c.P.follows .mixedOrders=true){id:Nat}(hf:Reg.Fine c draw ops g0 xs)(hs:∀x∈xs,okOS c.P s x.os)(hn:c.n<=a.tmps.size)(hr:RelG c B G s a w h g0)(hfx:∀o∈ops,∀d,o.dst=some d->¬fx d)
  {Q:Exit->Act->World->Prop} (hQ:∀a' w' h',RelG c B G s a' w' h' (gAll xs g0)->h'.K=h.K->Frm h.K fx a.tmps B w a' w'->a'.tmps.size=a.tmps.size->a'.defers=a.defers->Q .normal a' w'):Lg.wp c.P (.region id ops draw) Q a w:=by
 have hcl0:∀(L:Nat->Bool),(∀i,L i=false)->KE xs L:=λL hL i x _ hi=>by simp_all
 have hg0:∀(L:Nat->Bool),(∀i,L i=false)->∀t,(gL xs 0 L g0).at t=g0.at t:=λL hL t=>Z0j λi x _ hi=>by simp_all
 have hrel0:∀ {w:World} (L:Nat->Bool),(∀i,L i=false)->RelG c B G s a w h g0->RelG c B G s a w h (gL xs 0 L g0):=λL hL hr=>
  ⟨hr.ok,λt=>by rw[hg0 L hL t];exact hr.at_ t,λt=>by rw[hg0 L hL t];exact hr.skip t⟩
 have hfin:∀ {a':Act} {w1 w':World} (L:Nat->Bool),(∀i,i<ops.size->L i=true)->RInv h.K fx a.tmps c B G s g0 xs w1 a.tmps.size a.defers L a' w'->Frm h.K fx a.tmps B w a w1->Q .normal a' w':=by
  rintro a' w1 w' L hL ⟨⟨h',hr',hK'⟩,hb,h1,h2,_⟩ hb0;refine hQ a' w' h' ?_ hK' (hb0.trans hb) h1 h2
  have hg:∀t,(gL xs 0 L g0).at t=(gAll xs g0).at t:=by
   intro t;have:=Z0k (xs:=xs) (k:=0) (j:=xs.length) (g:=g0);rw[Zib]at this;rw[<-this];refine Qb (λi x hx _=> ?_) rfl;have hlt:=(ZgL.1 hx).1;rw[Zhy,hL i (by rw[<-hf.len];exact hlt)];simp[hlt]
  exact⟨hr'.ok,λt=>by rw[<-hg t];exact hr'.at_ t,λt=>by rw[<-hg t];exact hr'.skip t⟩
 cases draw with
 |false=>
  refine Lg.wp_region hfit ?_;rw[List.range_eq_range'];refine JO hfit (Kf:=h.K) (T0:=a.tmps) hfx hf hs hn (w0:=w) (n0:=a.tmps.size) (ds:=a.defers) (λa' w' hI=>hfin _ (λi hi=>by simp[hi]) hI (Frm.refl _ _)) ops.size 0 a w (by omega) ⟨⟨h,hrel0 _ (λi=>by simp) hr,rfl⟩,Frm.refl _ _,rfl,rfl,hcl0 _ λi=>by simp⟩
 |true=>
  refine Z1d hfit (hm rfl) λw1 hw1=> ?_;rw[show({w1 with drawn:=w1.drawn+1}:World)= {w with drawn:=w1.drawn+1}from ZhV (λx:World=> {x with drawn:=w1.drawn+1}) (Lg.sim_eq hw1)];generalize w1.drawn+1=d
  have hL0:∀i,(Array.replicate ops.size false).getD i false=false:=λi=>by
   simp only[ZgN,Array.getElem?_replicate]
   grind
  refine Z3Q (Kf:=h.K) (T0:=a.tmps) hfx hf hs hn (w0:= {w with drawn:=d}) (n0:=a.tmps.size) (ds:=a.defers) (λa' w' L hL hI=>hfin L hL hI ⟨⟨rfl,rfl,rfl,ZgP _,λ_ _=>rfl⟩,λ_ _=>rfl,λ_ _=>rfl⟩) ops.size _ a _ (by simp) ?_ ⟨⟨h,hrel0 _ hL0 (hr.drew d),rfl⟩,Frm.refl _ _,rfl,rfl,hcl0 _ hL0⟩;exact Zhc (ZkA _ _) (by simp)
end
end Vm
namespace Vm
open Go
mutual
theorem Z5{s t:St}:∀(e:E),(∀j,E.asks j e=true->get s j=get t j)->eval s e=eval t e
 |.c v,_=>rfl
 |.s u,h=>by simp only[eval];rw[h u (by simp[E.asks])]
 |.m u i,h=>by simp only[eval];rw[h u (by simp[E.asks])]
 |.mm u i n,h=>by simp only[eval];rw[h u (by simp[E.asks])]
 |.bin op a b,h=>by simp only[eval];rw[Z5 a λj hj=>h j (by simp[E.asks,hj]),Z5 b λj hj=>h j (by simp[E.asks,hj])]
 |.eqv n a b,h=>by simp only[eval];rw[Z5 a λj hj=>h j (by simp[E.asks,hj]),Z5 b λj hj=>h j (by simp[E.asks,hj])]
 |.un op a,h=>by simp only[eval];rw[Z5 a λj hj=>h j (by simp[E.asks,hj])]
 |.conv k a,h=>by simp only[eval];rw[Z5 a λj hj=>h j (by simp[E.asks,hj])]
 |.len a,h=>by simp only[eval];rw[Z5 a λj hj=>h j (by simp[E.asks,hj])]
 |.mn a b,h=>by simp only[eval];rw[Z5 a λj hj=>h j (by simp[E.asks,hj]),Z5 b λj hj=>h j (by simp[E.asks,hj])]
 |.mx a b,h=>by simp only[eval];rw[Z5 a λj hj=>h j (by simp[E.asks,hj]),Z5 b λj hj=>h j (by simp[E.asks,hj])]
 |.ext a i,h=>by simp only[eval];rw[Z5 a λj hj=>h j (by simp[E.asks,hj])]
 |.idx a b k,h=>by simp only[eval];rw[Z5 a λj hj=>h j (by simp[E.asks,hj]),Z5 b λj hj=>h j (by simp[E.asks,hj])]
 |.fld a o,h=>by simp only[eval];rw[Z5 a λj hj=>h j (by simp[E.asks,hj])]
 |.flds a o n,h=>by simp only[eval];rw[Z5 a λj hj=>h j (by simp[E.asks,hj])]
 |.ai a b n k g,h=>by simp only[eval];rw[Z5 a λj hj=>h j (by simp[E.asks,hj]),Z5 b λj hj=>h j (by simp[E.asks,hj])]
 |.slc a b d k,h=>by simp only[eval];rw[Z5 a λj hj=>h j (by simp[E.asks,hj]),Z5 b λj hj=>h j (by simp[E.asks,hj]),Z5 d λj hj=>h j (by simp[E.asks,hj])]
 |.slcl a b k,h=>by simp only[eval];rw[Z5 a λj hj=>h j (by simp[E.asks,hj]),Z5 b λj hj=>h j (by simp[E.asks,hj])]
 |.app a b k,h=>by simp only[eval];rw[Z5 a λj hj=>h j (by simp[E.asks,hj]),Z5 b λj hj=>h j (by simp[E.asks,hj])]
 |.upd a b o d,h=>by simp only[eval];rw[Z5 a λj hj=>h j (by simp[E.asks,hj]),Z5 b λj hj=>h j (by simp[E.asks,hj]),Z5 d λj hj=>h j (by simp[E.asks,hj])]
 |.aput a b n k d,h=>by simp only[eval];rw[Z5 a λj hj=>h j (by simp[E.asks,hj]),Z5 b λj hj=>h j (by simp[E.asks,hj]),Z5 d λj hj=>h j (by simp[E.asks,hj])]
 |.mk z a,h=>by simp only[eval];rw[Z5 a λj hj=>h j (by simp[E.asks,hj])]
 |.lit l,h=>by simp only[eval];rw[Yx l λj hj=>h j (by simp[E.asks,hj])]
 |.ag l,h=>by simp only[eval];rw[Yx l λj hj=>h j (by simp[E.asks,hj])]
 |.pt f l,h=>by simp only[eval];rw[Yx l λj hj=>h j (by simp[E.asks,hj])]
 |.ite a b d,h=>by simp only[eval];rw[Z5 a λj hj=>h j (by simp[E.asks,hj]),Z5 b λj hj=>h j (by simp[E.asks,hj]),Z5 d λj hj=>h j (by simp[E.asks,hj])]
 |.star a,h=>by simp only[eval];rw[Z5 a λj hj=>h j (by simp[E.asks,hj])]
 |.isag a,h=>by simp only[eval];rw[Z5 a λj hj=>h j (by simp[E.asks,hj])]
 |.one a,h=>by simp only[eval];rw[Z5 a λj hj=>h j (by simp[E.asks,hj])]
 |.sz a n,h=>by simp only[eval];rw[Z5 a λj hj=>h j (by simp[E.asks,hj])]
 |.fl a,h=>by simp only[eval];rw[Z5 a λj hj=>h j (by simp[E.asks,hj])]
 |.fls a,h=>by simp only[eval];rw[Z5 a λj hj=>h j (by simp[E.asks,hj])]
 |.lk kc a b z ok,h=>by simp only[eval];rw[Z5 a λj hj=>h j (by simp[E.asks,hj]),Z5 b λj hj=>h j (by simp[E.asks,hj])]
 |.mput kc a b d,h=>by simp only[eval];rw[Z5 a λj hj=>h j (by simp[E.asks,hj]),Z5 b λj hj=>h j (by simp[E.asks,hj]),Z5 d λj hj=>h j (by simp[E.asks,hj])]
 |.mlen a,h=>by simp only[eval];rw[Z5 a λj hj=>h j (by simp[E.asks,hj])]
 |.mclr a,h=>by simp only[eval];rw[Z5 a λj hj=>h j (by simp[E.asks,hj])]
theorem Yx{s t:St}:∀(l:List E),(∀j,E.asksIn j l=true->get s j=get t j)->Yc s l=Yc t l
 | [],_=>rfl
 |e::l,h=>by simp only[Yc];rw[Z5 e λj hj=>h j (by simp[E.asksIn,hj]),Yx l λj hj=>h j (by simp[E.asksIn,hj])]
end
mutual
theorem V.same_eq:∀(a b:V),V.same a b=true->a=b
 | .int k n,b,h=>by
   cases b<;>simp only[V.same]at h<;>first|(cases h;done)|skip
   simp at h;rw[h.1,h.2]
 | .bool x,b,h=>by
   cases b<;>simp only[V.same]at h<;>first|(cases h;done)|skip
   simp at h;rw[h]
 |.str x,b,h=>by cases b<;>simp[V.same]at h
 | .sl l,b,h=>by
   cases b<;>simp only[V.same]at h<;>first|(cases h;done)|skip
   rw[V.sames_eq l _ h]
 | .agg l,b,h=>by
   cases b<;>simp only[V.same]at h<;>first|(cases h;done)|skip
   rw[V.sames_eq l _ h]
 | .tup l,b,h=>by
   cases b<;>simp only[V.same]at h<;>first|(cases h;done)|skip
   rw[V.sames_eq l _ h]
 |.ptr l,b,h=>by cases b<;>simp[V.same]at h
 |.clo f l,b,h=>by cases b<;>simp[V.same]at h
 |.nul k,b,h=>by cases b<;>simp[V.same]at h
 | .fn f,b,h=>by
   cases b<;>simp only[V.same]at h<;>first|(cases h;done)|skip
   simp at h;rw[h]
 | .mp id ks vs,b,h=>by
   cases b<;>simp only[V.same,ZgM,Zhq]at h<;>first|(cases h;done)|skip
   rw[h.1.1,V.sames_eq ks _ h.1.2,V.sames_eq vs _ h.2]
theorem V.sames_eq:∀(a b:List V),V.sames a b=true->a=b
 | [],b,h=>by cases b<;>simp[V.sames]at h⊢
 |x::l,b,h=>by
  cases b with
  |nil=>simp[V.sames]at h
  |cons y r=>
   simp only[V.sames,ZgM]at h;rw[V.same_eq x y h.1,V.sames_eq l r h.2]
end
mutual
theorem E.same_eq:∀(a b:E),E.same a b=true->a=b
 | .c v,b,h=>by
   cases b<;>simp only[E.same]at h<;>first|(cases h;done)|skip
   rw[V.same_eq v _ h]
 | .s u,b,h=>by
   cases b<;>simp only[E.same,Zhq,ZgM]at h<;>first|(cases h;done)|skip
   rw[h]
 | .m u i,b,h=>by
   cases b<;>simp only[E.same,Zhq,ZgM]at h<;>first|(cases h;done)|skip
   rw[h.1,h.2]
 | .mm u i n,b,h=>by
   cases b<;>simp only[E.same,Zhq,ZgM]at h<;>first|(cases h;done)|skip
   rw[h.1.1,h.1.2,h.2]
 | .bin op x y,b,h=>by
   cases b<;>simp only[E.same,Zh1,ZgM]at h<;>first|(cases h;done)|skip
   rw[h.1.1,E.same_eq x _ h.1.2,E.same_eq y _ h.2]
 | .eqv op x y,b,h=>by
   cases b<;>simp only[E.same,Zhq,ZgM]at h<;>first|(cases h;done)|skip
   rw[h.1.1,E.same_eq x _ h.1.2,E.same_eq y _ h.2]
 | .un op x,b,h=>by
   cases b<;>simp only[E.same,Zh1,ZgM]at h<;>first|(cases h;done)|skip
   rw[h.1,E.same_eq x _ h.2]
 | .conv k x,b,h=>by
   cases b<;>simp only[E.same,Zh1,ZgM]at h<;>first|(cases h;done)|skip
   rw[h.1,E.same_eq x _ h.2]
 | .len x,b,h=>by
   cases b<;>simp only[E.same]at h<;>first|(cases h;done)|skip
   rw[E.same_eq x _ h]
 | .mn x y,b,h=>by
   cases b<;>simp only[E.same,ZgM]at h<;>first|(cases h;done)|skip
   rw[E.same_eq x _ h.1,E.same_eq y _ h.2]
 | .mx x y,b,h=>by
   cases b<;>simp only[E.same,ZgM]at h<;>first|(cases h;done)|skip
   rw[E.same_eq x _ h.1,E.same_eq y _ h.2]
 | .ext x i,b,h=>by
   cases b<;>simp only[E.same,Zhq,ZgM]at h<;>first|(cases h;done)|skip
   rw[E.same_eq x _ h.1,h.2]
 | .idx x y k,b,h=>by
   cases b<;>simp only[E.same,Zhq,ZgM]at h<;>first|(cases h;done)|skip
   rw[E.same_eq x _ h.1.1,E.same_eq y _ h.1.2,h.2]
 | .fld x o,b,h=>by
   cases b<;>simp only[E.same,Zhq,ZgM]at h<;>first|(cases h;done)|skip
   rw[E.same_eq x _ h.1,h.2]
 | .flds x o n,b,h=>by
   cases b<;>simp only[E.same,Zhq,ZgM]at h<;>first|(cases h;done)|skip
   rw[E.same_eq x _ h.1.1,h.1.2,h.2]
 | .ai x y n k g,b,h=>by
   cases b<;>simp only[E.same,Zhq,ZgM]at h<;>first|(cases h;done)|skip
   rw[E.same_eq x _ h.1.1.1.1,E.same_eq y _ h.1.1.1.2,h.1.1.2,h.1.2,h.2]
 | .slc x y z k,b,h=>by
   cases b<;>simp only[E.same,Zhq,ZgM]at h<;>first|(cases h;done)|skip
   rw[E.same_eq x _ h.1.1.1,E.same_eq y _ h.1.1.2,E.same_eq z _ h.1.2,h.2]
 | .slcl x y k,b,h=>by
   cases b<;>simp only[E.same,Zhq,ZgM]at h<;>first|(cases h;done)|skip
   rw[E.same_eq x _ h.1.1,E.same_eq y _ h.1.2,h.2]
 | .app x y k,b,h=>by
   cases b<;>simp only[E.same,Zhq,ZgM]at h<;>first|(cases h;done)|skip
   rw[E.same_eq x _ h.1.1,E.same_eq y _ h.1.2,h.2]
 | .upd x y o z,b,h=>by
   cases b<;>simp only[E.same,Zhq,ZgM]at h<;>first|(cases h;done)|skip
   rw[E.same_eq x _ h.1.1.1,E.same_eq y _ h.1.1.2,h.1.2,E.same_eq z _ h.2]
 | .aput x y n k z,b,h=>by
   cases b<;>simp only[E.same,Zhq,ZgM]at h<;>first|(cases h;done)|skip
   rw[E.same_eq x _ h.1.1.1.1,E.same_eq y _ h.1.1.1.2,h.1.1.2,h.1.2,E.same_eq z _ h.2]
 | .mk v x,b,h=>by
   cases b<;>simp only[E.same,ZgM]at h<;>first|(cases h;done)|skip
   rw[V.same_eq v _ h.1,E.same_eq x _ h.2]
 | .lit l,b,h=>by
   cases b<;>simp only[E.same]at h<;>first|(cases h;done)|skip
   rw[E.sames_eq l _ h]
 | .pt f l,b,h=>by
   cases b<;>simp only[E.same,ZgM,Zhq]at h<;>first|(cases h;done)|skip
   rw[h.1,E.sames_eq l _ h.2]
 | .ag l,b,h=>by
   cases b<;>simp only[E.same]at h<;>first|(cases h;done)|skip
   rw[E.sames_eq l _ h]
 | .ite x y z,b,h=>by
   cases b<;>simp only[E.same,ZgM]at h<;>first|(cases h;done)|skip
   rw[E.same_eq x _ h.1.1,E.same_eq y _ h.1.2,E.same_eq z _ h.2]
 | .star x,b,h=>by
   cases b<;>simp only[E.same]at h<;>first|(cases h;done)|skip
   rw[E.same_eq x _ h]
 | .isag x,b,h=>by
   cases b<;>simp only[E.same]at h<;>first|(cases h;done)|skip
   rw[E.same_eq x _ h]
 | .one x,b,h=>by
   cases b<;>simp only[E.same]at h<;>first|(cases h;done)|skip
   rw[E.same_eq x _ h]
 | .sz x n,b,h=>by
   cases b<;>simp only[E.same,Zhq,ZgM]at h<;>first|(cases h;done)|skip
   rw[E.same_eq x _ h.1,h.2]
 | .fl x,b,h=>by
   cases b<;>simp only[E.same]at h<;>first|(cases h;done)|skip
   rw[E.same_eq x _ h]
 | .fls x,b,h=>by
   cases b<;>simp only[E.same]at h<;>first|(cases h;done)|skip
   rw[E.same_eq x _ h]
 | .lk kc x y z ok,b,h=>by
   cases b<;>simp only[E.same,Zhq,Zh1,ZgM]at h<;>first|(cases h;done)|skip
   rw[h.1.1.1.1,E.same_eq x _ h.1.1.1.2,E.same_eq y _ h.1.1.2,V.same_eq z _ h.1.2,h.2]
 | .mput kc x y z,b,h=>by
   cases b<;>simp only[E.same,Zh1,ZgM]at h<;>first|(cases h;done)|skip
   rw[h.1.1.1,E.same_eq x _ h.1.1.2,E.same_eq y _ h.1.2,E.same_eq z _ h.2]
 | .mlen x,b,h=>by
   cases b<;>simp only[E.same]at h<;>first|(cases h;done)|skip
   rw[E.same_eq x _ h]
 | .mclr x,b,h=>by
   cases b<;>simp only[E.same]at h<;>first|(cases h;done)|skip
   rw[E.same_eq x _ h]
theorem E.sames_eq:∀(a b:List E),E.sames a b=true->a=b
 | [],b,h=>by cases b<;>simp[E.sames]at h⊢
 |x::l,b,h=>by
  cases b with
  |nil=>simp[E.sames]at h
  |cons y r=>
   simp only[E.sames,ZgM]at h;rw[E.same_eq x y h.1,E.sames_eq l r h.2]
end
end Vm
namespace Vm
open Go
section
variable {s t:St}
theorem Z8{α β:Type}{x:Option α}{f:α->Option β}(h:∃z,x.bind f=some z):∃y,x=some y:=by
 grind [Option.bind_eq_some_iff]
theorem Zt{α β:Type}{x:Option α}{f:α->Option β}(h:∃z,x.bind f=some z):∃y,x=some y/\∃z,f y=some z:=by
 grind [Option.bind_eq_some_iff]
mutual
theorem Zg{x:E}:∀(e:E),E.has x e=true->(∃v,eval s e=some v)->∃v,eval s x=some v
 | .c v,h,hv=>by
   grind [E.has,E.same_eq]
 | .s u,h,hv=>by
   grind [E.has,E.same_eq]
 | .m u i,h,hv=>by
   grind [E.has,E.same_eq]
 | .mm u i n,h,hv=>by
   grind [E.has,E.same_eq]
 | .bin op a b,h,hv=>by
   simp only[E.has,ZgW]at h;rcases h with (h|h)|h
   ·grind [E.same_eq]
   ·exact Zg a h (Z8 hv)
   ·obtain⟨y,_,hz⟩:=Zt hv;exact Zg b h (Z8 hz)
 | .eqv op a b,h,hv=>by
   simp only[E.has,ZgW]at h;rcases h with (h|h)|h
   ·grind [E.same_eq]
   ·exact Zg a h (Z8 hv)
   ·obtain⟨y,_,hz⟩:=Zt hv;exact Zg b h (Z8 hz)
 | .mn a b,h,hv=>by
   simp only[E.has,ZgW]at h;rcases h with (h|h)|h
   ·grind [E.same_eq]
   ·exact Zg a h (Z8 hv)
   ·obtain⟨y,_,hz⟩:=Zt hv;exact Zg b h (Z8 hz)
 | .mx a b,h,hv=>by
   simp only[E.has,ZgW]at h;rcases h with (h|h)|h
   ·grind [E.same_eq]
   ·exact Zg a h (Z8 hv)
   ·obtain⟨y,_,hz⟩:=Zt hv;exact Zg b h (Z8 hz)
 | .idx a b k,h,hv=>by
   simp only[E.has,ZgW]at h;rcases h with (h|h)|h
   ·grind [E.same_eq]
   ·exact Zg a h (Z8 hv)
   ·obtain⟨y,_,hz⟩:=Zt hv;exact Zg b h (Z8 hz)
 | .ai a b n k g,h,hv=>by
   simp only[E.has,ZgW]at h;rcases h with (h|h)|h
   ·grind [E.same_eq]
   ·exact Zg a h (Z8 hv)
   ·obtain⟨y,_,hz⟩:=Zt hv;exact Zg b h (Z8 hz)
 | .slcl a b k,h,hv=>by
   simp only[E.has,ZgW]at h;rcases h with (h|h)|h
   ·grind [E.same_eq]
   ·exact Zg a h (Z8 hv)
   ·obtain⟨y,_,hz⟩:=Zt hv;exact Zg b h (Z8 hz)
 | .app a b k,h,hv=>by
   simp only[E.has,ZgW]at h;rcases h with (h|h)|h
   ·grind [E.same_eq]
   ·exact Zg a h (Z8 hv)
   ·obtain⟨y,_,hz⟩:=Zt hv;exact Zg b h (Z8 hz)
 | .slc a b d k,h,hv=>by
   simp only[E.has,ZgW]at h;rcases h with ((h|h)|h)|h
   ·grind [E.same_eq]
   ·exact Zg a h (Z8 hv)
   ·obtain⟨y,_,hz⟩:=Zt hv;exact Zg b h (Z8 hz)
   ·obtain⟨y,_,hz⟩:=Zt hv;obtain⟨y',_,hz'⟩:=Zt hz;exact Zg d h (Z8 hz')
 | .upd a b o d,h,hv=>by
   simp only[E.has,ZgW]at h;rcases h with ((h|h)|h)|h
   ·grind [E.same_eq]
   ·exact Zg a h (Z8 hv)
   ·obtain⟨y,_,hz⟩:=Zt hv;exact Zg b h (Z8 hz)
   ·obtain⟨y,_,hz⟩:=Zt hv;obtain⟨y',_,hz'⟩:=Zt hz;exact Zg d h (Z8 hz')
 | .aput a b n k d,h,hv=>by
   simp only[E.has,ZgW]at h;rcases h with ((h|h)|h)|h
   ·grind [E.same_eq]
   ·exact Zg a h (Z8 hv)
   ·obtain⟨y,_,hz⟩:=Zt hv;exact Zg b h (Z8 hz)
   ·obtain⟨y,_,hz⟩:=Zt hv;obtain⟨y',_,hz'⟩:=Zt hz;exact Zg d h (Z8 hz')
 | .un op a,h,hv=>by
   simp only[E.has,ZgW]at h;rcases h with h|h
   ·grind [E.same_eq]
   ·exact Zg a h (Z8 hv)
 | .conv k a,h,hv=>by
   simp only[E.has,ZgW]at h;rcases h with h|h
   ·grind [E.same_eq]
   ·exact Zg a h (Z8 hv)
 | .len a,h,hv=>by
   simp only[E.has,ZgW]at h;rcases h with h|h
   ·grind [E.same_eq]
   ·exact Zg a h (Z8 hv)
 | .ext a i,h,hv=>by
   simp only[E.has,ZgW]at h;rcases h with h|h
   ·grind [E.same_eq]
   ·exact Zg a h (Z8 hv)
 | .fld a o,h,hv=>by
   simp only[E.has,ZgW]at h;rcases h with h|h
   ·grind [E.same_eq]
   ·exact Zg a h (Z8 hv)
 | .flds a o n,h,hv=>by
   simp only[E.has,ZgW]at h;rcases h with h|h
   ·grind [E.same_eq]
   ·exact Zg a h (Z8 hv)
 | .mk z a,h,hv=>by
   simp only[E.has,ZgW]at h;rcases h with h|h
   ·grind [E.same_eq]
   ·exact Zg a h (Z8 hv)
 | .star a,h,hv=>by
   simp only[E.has,ZgW]at h;rcases h with h|h
   ·grind [E.same_eq]
   ·exact Zg a h (Z8 hv)
 | .isag a,h,hv=>by
   simp only[E.has,ZgW]at h;rcases h with h|h
   ·grind [E.same_eq]
   ·exact Zg a h (Z8 hv)
 | .one a,h,hv=>by
   simp only[E.has,ZgW]at h;rcases h with h|h
   ·grind [E.same_eq]
   ·exact Zg a h (Z8 hv)
 | .sz a n,h,hv=>by
   simp only[E.has,ZgW]at h;rcases h with h|h
   ·grind [E.same_eq]
   ·exact Zg a h (Z8 hv)
 | .fl a,h,hv=>by
   simp only[E.has,ZgW]at h;rcases h with h|h
   ·grind [E.same_eq]
   ·exact Zg a h (Z8 hv)
 | .fls a,h,hv=>by
   simp only[E.has,ZgW]at h;rcases h with h|h
   ·grind [E.same_eq]
   ·exact Zg a h (Z8 hv)
 | .mlen a,h,hv=>by
   simp only[E.has,ZgW]at h;rcases h with h|h
   ·grind [E.same_eq]
   ·exact Zg a h (Z8 hv)
 | .mclr a,h,hv=>by
   simp only[E.has,ZgW]at h;rcases h with h|h
   ·grind [E.same_eq]
   ·exact Zg a h (Z8 hv)
 | .lk kc a b z ok,h,hv=>by
   simp only[E.has,ZgW]at h;rcases h with (h|h)|h
   ·grind [E.same_eq]
   ·exact Zg a h (Z8 hv)
   ·obtain⟨y,_,hz⟩:=Zt hv;exact Zg b h (Z8 hz)
 | .mput kc a b d,h,hv=>by
   simp only[E.has,ZgW]at h;rcases h with ((h|h)|h)|h
   ·grind [E.same_eq]
   ·exact Zg a h (Z8 hv)
   ·obtain⟨y,_,hz⟩:=Zt hv;exact Zg b h (Z8 hz)
   ·obtain⟨y,_,hz⟩:=Zt hv;obtain⟨y',_,hz'⟩:=Zt hz;exact Zg d h (Z8 hz')
 | .ite a b d,h,hv=>by
   simp only[E.has,ZgW]at h;rcases h with h|h
   ·grind [E.same_eq]
   ·exact Zg a h (Z8 hv)
 | .lit l,h,hv=>by
   simp only[E.has,ZgW]at h;rcases h with h|h
   ·grind [E.same_eq]
   ·obtain⟨v,hv⟩:=hv;simp only[eval,ZgK]at hv;obtain⟨ys,hys,_⟩:=hv;exact TO l h ⟨ys,hys⟩
 | .pt f l,h,hv=>by
   simp only[E.has,ZgW]at h;rcases h with h|h
   ·grind [E.same_eq]
   ·obtain⟨v,hv⟩:=hv;simp only[eval,ZgI]at hv;obtain⟨ys,hys,_⟩:=hv;exact TO l h ⟨ys,hys⟩
 | .ag l,h,hv=>by
   simp only[E.has,ZgW]at h;rcases h with h|h
   ·grind [E.same_eq]
   ·obtain⟨v,hv⟩:=hv;simp only[eval,ZgK]at hv;obtain⟨ys,hys,_⟩:=hv;exact TO l h ⟨ys,hys⟩
theorem TO{x:E}:∀(l:List E),E.hasIn x l=true->(∃v,Yc s l=some v)->∃v,eval s x=some v
 | [],h,_=>by simp[E.hasIn]at h
 |e::l,h,hv=>by
  obtain⟨v,hv⟩:=hv;simp only[Yc,ZgI,ZgK]at hv;obtain⟨y,hy,ys,hys,_⟩:=hv;simp only[E.hasIn,ZgW]at h;rcases h with h|h
  ·exact Zg e h ⟨y,hy⟩
  ·exact TO l h ⟨ys,hys⟩
end
def Qx(s:St)(l:List (Zi×E)):Prop:=∀x∈l,holds s x.1->∃v,eval s x.2=some v
theorem yZ{C D:Zi}(h:UZ C D=true)(hd:holds s D):holds s C:=λx hx=>by
 have:=ZgT.1 h x hx;exact hd x (by simp_all)
theorem Ti:∀ {l r:List (Zi×E)},Qx s l->Qx s (Z8d l r)->Qx s r
 |l,[],_,_=>λx hx=>by simp at hx
 |l,x::r,hl,hp=>by
  simp only[Z8d]at hp;split at hp
  ·rename_i hc;have hr:=Ti hl hp;intro y hy hh;rcases Zh0.1 hy with rfl|hy
   ·simp only[Z4N,Zii,ZgM]at hc;obtain⟨z,hz,hz1,hz2⟩:=hc
    have hzs:∃v,eval s z.2=some v:=by
     rcases Zh9.1 hz with hz|hz
     ·exact hl z hz (yZ hz1 hh)
     ·exact hp z hz (yZ hz1 hh)
    exact Zg _ hz2 hzs
   ·exact hr y hy hh
  ·have hr:=Ti hl λy hy=>hp y (Zhb _ hy);intro y hy hh;rcases Zh0.1 hy with rfl|hy
   ·exact hp y (Zhj ..) hh
   ·exact hr y hy hh
def putS:St->Nat->SV->St
 | [],0,x=>[x]
 | [],i+1,x=>.no::putS [] i x
 |_::s,0,x=>x::s
 |y::s,i+1,x=>y::putS s i x
theorem Zo:∀(s:St) (i j:Nat) (x:SV),get (putS s i x) j=if j=i then x else get s j
 | [],0,0,x=>rfl
 | [],0,j+1,x=>by simp[putS,get]
 | [],i+1,0,x=>by simp[putS,get]
 | [],i+1,j+1,x=>by
   have:=Zo [] i j x;simp only[get]at this;simp[putS,get,this]
 |y::s,0,0,x=>rfl
 |y::s,0,j+1,x=>by simp[putS,get]
 |y::s,i+1,0,x=>by simp[putS,get]
 |y::s,i+1,j+1,x=>by
  have:=Zo s i j x;simp only[get]at this;simp[putS,get,this]
def Wm(s:St)(C:Zi):Bool:=C.all λx=>match get s x.1 with|.v (.bool b)=>b==x.2|_=>false
theorem XK{C:Zi}:Wm s C=true↔holds s C:=by
 simp only[Wm,ZgT,holds]
 grind
def wpE(P:Program) [Lg P]:List EF->St->(St->Prop)->Prop
 | [],s,K=>K s
 |.lt i C e::l,s,K=>if Wm s C=true then(match eval s e with|some x=>wpE P l (putS s i (.v x)) K|none=>False)else wpE P l s K
 |.call i C f fr fl aq_::l,s,K=>if Wm s C=true then(match Yc s aq_,fnV s f with|some xs,some n=>∃r,VC P n.1 fr (xs++n.2) r/\(fl=true->flV r=some r)/\wpE P l (putS s i (.v r)) K|_,_=>False)else wpE P l s K
 | .callm i C f ks aq_::l,s,K=>if Wm s C=true then(match Yc s aq_,fnOf s f with|some xs,some n=>∃R,VCM P n ks xs R/\wpE P l (putS s i (.v R)) K|_,_=>False)
   else(match oldV s ks aq_ with|some []=>wpE P l s K|some os=>wpE P l (putS s i (.v (.tup (.bool false::os)))) K|none=>False)
theorem Vf{C:Zi}(h:∀j,C.any (λx=>x.1==j)=true->get s j=get t j):holds s C↔holds t C:=by
 have:∀x∈C,get s x.1=get t x.1:=λx hx=>h x.1 (Zii.2 ⟨x,hx,by simp⟩);constructor
 ·intro hs x hx;rw[<-this x hx];exact hs x hx
 ·intro hs x hx;rw[this x hx];exact hs x hx
theorem ZJ{j:Nat}{l r:List E}:E.asksIn j (l++r)=(E.asksIn j l||E.asksIn j r):=by
 induction l with
 |nil=>rfl
 |cons e l ih=>simp[E.asksIn,ih,Bool.or_assoc]
theorem L0{f:FN}(h:∀j,E.asksIn j f.es=true->get s j=get t j):fnOf s f=fnOf t f:=by
 cases f with
 |id n=>rfl
 |e x=>grind [fnOf,Z5,FN.es,E.asksIn]
theorem yR{f:FN}(h:∀j,E.asksIn j f.es=true->get s j=get t j):fnV s f=fnV t f:=by
 cases f with
 |id n=>rfl
 |e x=>grind [fnV,Z5,FN.es,E.asksIn]
theorem SY:∀ {ks:List OT} {aq_:List E},(∀j,E.asksIn j aq_=true->get s j=get t j)->oldV s ks aq_=oldV t ks aq_
 | [],aq_,_=>by simp[oldV]
 |k::ks,[],_=>by cases k<;>simp[oldV]
 |k::ks,e::aq_,h=>by
  have ih:=SY (ks:=ks) (aq_:=aq_) λj hj=>h j (by simp[E.asksIn,hj]);have he:=Z5 e λj hj=>h j (by simp[E.asksIn,hj]);cases k<;>simp only[oldV,ih,he]
theorem Z2S{P:Program} [Lg P]{x:EF}(h:∀j,Yp j x=true->get s j=get t j)(hi:get s (efI x)=get t (efI x))(hs:EFok P s x):EFok P t x:=by
 cases x with
 |lt i C e=>
  intro hh;have h1:=(Vf (s:=s) (t:=t) (C:=C) λj hj=>h j (by simp_all[Yp,ZiH])).2 hh;obtain⟨v,hv,hg⟩:=hs h1;exact⟨v,by rw[<-Z5 e λj hj=>h j (by simp_all[Yp,Zic])];exact hv,by rw[<-hg];exact hi.symm⟩
 |call i C f fr fl aq_=>
  intro hh;have h1:=(Vf (s:=s) (t:=t) (C:=C) λj hj=>h j (by simp_all[Yp,ZiH])).2 hh;obtain⟨xs,n,r,hv,hn,h2,h3,hg⟩:=hs h1;exact⟨xs,n,r,by rw[<-Yx aq_ λj hj=>h j (by simp_all[Yp,ZJ,Zic])];exact hv,by rw[<-yR (f:=f) λj hj=>h j (by simp_all[Yp,ZJ,ZiH,Zic])];exact hn,h2,h3,by rw[<-hg];exact hi.symm⟩
 |callm i C f ks aq_=>
  have hC:=Vf (s:=s) (t:=t) (C:=C) λj hj=>h j (by simp_all[Yp,ZiH]);have ha:=Yx aq_ λj hj=>h j (by simp_all[Yp,ZJ,Zic]);have hf:=L0 (f:=f) λj hj=>h j (by simp_all[Yp,ZJ,ZiH,Zic]);have ho:=SY (ks:=ks) (aq_:=aq_) λj hj=>h j (by simp_all[Yp,ZJ,Zic]);refine⟨λhh=> ?_,λhh=> ?_⟩
  ·obtain⟨xs,n,R,h1,h2,h3,h4⟩:=hs.1 (hC.2 hh);exact⟨xs,n,R,by simp_all,by simp_all,h3,by rw[<-h4];exact hi.symm⟩
  ·obtain⟨os,h1,h2⟩:=hs.2 λh'=>hh (hC.1 h');exact⟨os,by simp_all,λhne=>by rw[<-h2 hne];exact hi.symm⟩
theorem jM{P:Program} [Lg P]{K:St->Prop}:∀ {l:List EF} {s:St},Z86 l=true->wpE P l s K->∃t,K t/\(∀x∈l,EFok P t x)/\∀j,(∀x∈l,efI x≠j)->get t j=get s j
 | [],s,_,h=>⟨s,h,λx hx=>by simp at hx,λ_ _=>rfl⟩
 |x::l,s,hok,h=>by
  simp only[Z86,ZgM,ZhD,ZgT,ZjI,ne_eq]at hok;obtain⟨⟨hself,hl⟩,hok⟩:=hok
  have fin:∀(s1:St),(∀j,j≠efI x->get s1 j=get s j)->EFok P s1 x->wpE P l s1 K->∃t,K t/\(∀y∈x::l,EFok P t y)/\∀j,(∀y∈x::l,efI y≠j)->get t j=get s j:=by
   intro s1 hs1 hx h;obtain⟨t,hK,hall,hag⟩:=jM hok h;refine⟨t,hK,λy hy=> ?_,λj hj=> ?_⟩
   ·rcases Zh0.1 hy with rfl|hy
    ·refine Z2S (s:=s1) (λj hj=>(hag j λy hy e=> ?_).symm) (hag _ λy hy e=>(hl y hy).1 e).symm hx
     grind
    simp_all
   ·grind
  cases x with
  |lt i C e=>
   simp only[wpE]at h
   have hask:∀(v:SV) (j:Nat),Yp j (.lt i C e)=true->get (putS s i v) j=get s j:=λv j hj=>by
    rw[Zo,if_neg];intro e';subst e';exact absurd hj (by rw[show Yp j (.lt j C e)=false from hself];simp)
   split at h
   ·rename_i hh;split at h
    ·rename_i v hv;refine fin (putS s i (.v v)) (λj hj=>by rw[Zo];exact if_neg hj) (λ_=>⟨v,?_,by rw[Zo,if_pos rfl]⟩) h;rw[Z5 e λj hj=>hask _ j (by simp_all[Yp,Zic])];exact hv
    simp_all
   ·rename_i hh;exact fin s (λ_ _=>rfl) (λhc=>absurd (XK.2 hc) hh) h
  |call i C f fr fl aq_=>
   simp only[wpE]at h
   have hask:∀(v:SV) (j:Nat),Yp j (.call i C f fr fl aq_)=true->get (putS s i v) j=get s j:=λv j hj=>by
    rw[Zo,if_neg];intro e';subst e';exact absurd hj (by rw[show Yp j (.call j C f fr fl aq_)=false from hself];simp)
   split at h
   ·rename_i hh;split at h
    ·rename_i xs n hxs hn;obtain⟨r,h1,h2,h3⟩:=h;refine fin (putS s i (.v r)) (λj hj=>by rw[Zo];exact if_neg hj) (λ_=>⟨xs,n,r,?_,?_,h1,h2,by rw[Zo,if_pos rfl]⟩) h3
     ·rw[Yx aq_ λj hj=>hask _ j (by simp_all[Yp,ZJ,Zic])];exact hxs
     ·rw[yR (f:=f) λj hj=>hask _ j (by simp_all[Yp,ZJ,ZiH,Zic])];exact hn
    simp_all
   ·rename_i hh;exact fin s (λ_ _=>rfl) (λhc=>absurd (XK.2 hc) hh) h
  |callm i C f ks aq_=>
   simp only[wpE]at h
   have hask:∀(v:SV) (j:Nat),Yp j (.callm i C f ks aq_)=true->get s j=get (putS s i v) j:=λv j hj=>by
    rw[Zo,if_neg];intro e';subst e';exact absurd hj (by rw[show Yp j (.callm j C f ks aq_)=false from hself];simp)
   have hC:∀v,holds s C↔holds (putS s i v) C:=λv=>Vf λj hj=>hask v j (by simp_all[Yp,ZiH]);have ha:∀v,Yc s aq_=Yc (putS s i v) aq_:=λv=>Yx aq_ λj hj=>hask v j (by simp_all[Yp,ZJ,Zic]);have hf:∀v,fnOf s f=fnOf (putS s i v) f:=λv=>L0 λj hj=>hask v j (by simp_all[Yp,ZJ,ZiH,Zic]);have ho:∀v,oldV s ks aq_=oldV (putS s i v) ks aq_:=λv=>SY λj hj=>hask v j (by simp_all[Yp,ZJ,Zic]);split at h
   ·rename_i hh;split at h
    ·rename_i xs n hxs hn;obtain⟨R,h1,h2⟩:=h;refine fin (putS s i (.v R)) (λj hj=>by rw[Zo];exact if_neg hj) ⟨λ_=>⟨xs,n,R,?_,?_,h1,by rw[Zo,if_pos rfl]⟩,λhc=>absurd ((hC _).1 (XK.1 hh)) hc⟩ h2
     ·grind
     grind
    simp_all
   ·rename_i hh;split at h
    ·rename_i hos;exact fin s (λ_ _=>rfl) ⟨λhc=>absurd (XK.2 hc) hh,λ_=>⟨[],hos,λhne=>absurd rfl hne⟩⟩ h
    ·rename_i os hne hos;refine fin (putS s i (.v (.tup (.bool false::os)))) (λj hj=>by rw[Zo];exact if_neg hj) ⟨λhc=>absurd (XK.2 ((hC _).2 hc)) hh,λ_=>⟨os,?_,λ_=>by rw[Zo,if_pos rfl]⟩⟩ h
     grind
    simp_all
end
end Vm
namespace Vm
open Go
open Go.RowKit (Below)
def ovV(t:St):OV->Option SV
 |.v e=>(eval t e).map .v
 |.m l=>(Yc t l).map .m
 |.no=>some .no
def wpO:List (Nat×OV)->St->St->(St->Prop)->Prop
 | [],_,u,K=>K u
 | (i,o)::l,t,u,K=>match ovV t o with
   |some x=>wpO l t (putS u i x) K
   |none=>False
def wpC(t:St):List (Zi×E)->Prop
 | []=>True
 |(C,e)::l=>(Wm t C=true->(eval t e).isSome=true)/\wpC t l
def wpR(P:Program) [Lg P](r:Reg)(s:St)(K:St->Prop):Prop:=wpE P r.efs s λt=>wpC t r.chks/\wpO r.outs t t K
theorem Z2O{t:St}:∀ {l:List (Zi×E)},wpC t l->Qx t l
 | [],_=>λx hx=>by simp at hx
 | (C,e)::l,h=>λx hx hh=>by
   rcases Zh0.1 hx with rfl|hx
   ·exact ZhN.1 (h.1 (XK.2 hh))
   ·exact Z2O h.2 x hx hh
theorem Z2Q{K:St->Prop}{t:St}:∀ {l:List (Nat×OV)} {u:St},wpO l t u K->∃u',K u'/\(∀x∈l,∃y,ovV t x.2=some y)/\(∀j,(∀x∈l,x.1≠j)->get u' j=get u j)/\
  ∀x∈l,(∀y∈l,y.1=x.1->y.2=x.2)->∀v,ovV t x.2=some v->get u' x.1=v
 | [],u,h=>⟨u,h,λx hx=>by simp at hx,λ_ _=>rfl,λx hx=>by simp at hx⟩
 | (i,o)::l,u,h=>by
   simp only[wpO]at h;split at h
   ·rename_i v hv;obtain⟨u',hK,h1,h2,h3⟩:=Z2Q h;refine⟨u',hK,λx hx=> ?_,λj hj=> ?_,λx hx hun v' hv'=> ?_⟩
    ·grind
    ·rw[h2 j λx hx=>hj x (by simp[hx]),Zo,if_neg];exactλe=>hj (i,o) (by simp) e.symm
    ·by_cases hin:∃y∈l,y.1=x.1
     ·grind
     ·have hxi:x=(i,o):=by
       rcases Zh0.1 hx with h|h
       ·exact h
       ·simp_all
      subst hxi;rw[h2 i λy hy e=>hin ⟨y,hy,e⟩,Zo,if_pos rfl];simp_all
   simp_all
section
variable {c:Ctx}{B:Nat}{G:Nat->Prop}{s t u:St}{a a':Act}{w w':World}{h h':GH}{g:Gam}{S:SS}
theorem RelG.ctx{c':Ctx}(hP:c'.P=c.P)(hix:c'.ix=c.ix)(hr:RelG c B G s a w h g):RelG c' B G s a w h g:=by
 have hC:∀C,ixC c' C=ixC c C:=λC=>by simp[ixC,hix]
 refine⟨hr.ok,λp hh hn=> ?_,λp hh=> ?_⟩
 ·rw[hC]at hh;rw[hP];exact hr.at_ p hh hn
 ·rw[hC]at hh;exact hr.skip p hh
theorem Zk:∀ {S:SS} {p:Nat},(Y0 c S).at p=match S.at p with|some k=>([],KU c p k)|none=>([],.no)
 | [],p=>rfl
 | (q,k)::S,p=>by
   simp only[Y0,Zha,Gam.at,SS.at];by_cases hq:q=p
   ·grind
   ·rw[if_neg hq,if_neg hq];exact Zk (S:=S) (p:=p)
theorem RelC.eval{P:Program}{o:Option Nat}{k:CK}{e e':E}{v:Value}(hr:RelC P B s w h o k e v)(he:∀x,x.one=true->Vm.eval s e=some x->Vm.eval t e'=some x):RelC P B t w h o k e' v:=by
 cases k with
 |fz=>obtain⟨x,h0,h1,h2⟩:=hr;exact⟨x,he x h1 h0,h1,h2⟩
 |own ty=>obtain⟨x,h0,h1⟩:=hr;exact⟨x,he x h1.one h0,h1⟩
 |nil=>exact⟨hr.1,he _ rfl hr.2⟩
 |dead=>exact hr
theorem RelG.agree(hr:RelG c B G s a w h (Y0 c S))(hag:∀x∈S,get t (c.ix x.1)=get s (c.ix x.1)):RelG c B G t a w h (Y0 c S):=by
 have hmem:∀ {S:SS} {p:Nat} {k:OT},S.at p=some k->(p,k)∈S:=by
  intro S p k
  induction S with
  |nil=>intro h;cases h
  |cons x S ih=>
   grind [SS.at,List.mem_cons_of_mem]
 have hcond:∀p,((Y0 c S).at p).1=[]:=λp=>by grind [Zk]
 refine⟨hr.ok,λp _ hn=> ?_,λp hh=>absurd (by simp_all[Zb]) hh⟩;obtain⟨v,hv,hk⟩:=hr.at_ p (by simp_all[Zb]) hn;refine⟨v,hv,?_⟩;rw[Zk]at hk⊢;cases hS:S.at p with
 |none=>trivial
 |some k=>
  rw[hS]at hk;have hg:=hag _ (hmem hS);simp only at hg hk⊢;cases k with
  |fz=>obtain⟨x,h1,h2⟩:=hk;exact⟨x,by simp_all[Vm.eval],h2⟩
  |own ty=>obtain⟨x,h1,h2⟩:=hk;exact⟨x,by simp_all[Vm.eval],h2⟩
  |nil=>exact hk
  |mem l=>
   obtain⟨b,vs,T,h1,h2,h3,h4,h5⟩:=hk;refine⟨b,vs,T,h1,h2,h3,h4,λi ck hi=>(h5 i ck hi).eval λx _ hx=> ?_⟩;simp only[Zh2,ZgK]at hi;obtain⟨y,_,rfl⟩:=hi;simp_all[Vm.eval]
  |clo f caps=>exact hk
theorem Z2j{keep:List Nat}:∀ {p:Nat} {k:OT},(qZ keep g).at p=some k->p∈keep/\(g.at p).1=[]/\outK (g.at p).2=some k:=by
 induction keep with
 |nil=>intro p k h;cases h
 |cons q keep ih=>
  intro p k h;simp only[qZ,Zim]at h;split at h
  ·obtain⟨h1,h2⟩:=ih (p:=p) (k:=k) h;simp_all
  ·rename_i y hy;split at hy
   ·rename_i hc;simp only[ZgK]at hy;obtain⟨k',hk',rfl⟩:=hy;simp only[SS.at]at h;split at h
    ·simp_all
    ·obtain⟨h1,h2⟩:=ih (p:=p) (k:=k) h;simp_all
   ·cases hy
def TK.kept:TK->Bool
 |.val .. |.own .. |.mem _=>true
 |_=>false
theorem Z0W{S0:SS}{p:Nat}(hc:(g.at p).1=[])(hk:(g.at p).2.kept=true):UO c S0 g p=if Sg (c.ix p) (ovK (g.at p).2)=true then none else some (c.ix p,ovK (g.at p).2):=by
 unfold UO;simp only[hc,Zkl,Zhp];cases hs:Sg (c.ix p) (ovK (g.at p).2)
 ·simp only[ZgU,Zhr]
  grind [TK.kept]
 rfl
theorem Z1e{keep sh:List Nat}{S0:SS}(hr:RelG c B G t a w h g)(hsh:∀p∈keep,∀e l,g.at p=([],.val e l)->∀b,h.ext l b->h.F b)
  (hget:∀p∈keep,match UO c S0 g p with|some x=>∃v,ovV t x.2=some v/\get u (c.ix p)=v|none=>get u (c.ix p)=get t (c.ix p)):RelG c B G u a w h (Y0 c (qZ keep g)):=by
 have hcond:∀p,((Y0 c (qZ keep g)).at p).1=[]:=λp=>by grind [Zk,qZ]
 refine⟨hr.ok,λp _ hn=> ?_,λp hh=>absurd (by simp_all[Zb]) hh⟩;rw[Zk]at hn⊢;cases hS:(qZ keep g).at p with
 |none=>simp_all[TK.isNo]
 |some k=>
  obtain⟨hpk,hc0,hk⟩:=Z2j hS;have hno:(g.at p).2.isNo=false:=by cases hkk:(g.at p).2<;>rw[hkk]at hk<;>first|rfl|simp[outK]at hk
  obtain⟨v,hv,hrel⟩:=hr.at_ p (by simp_all[Zb]) hno;refine⟨v,hv,?_⟩
  have hgp:(g.at p).2.kept=true->(Sg (c.ix p) (ovK (g.at p).2)=true/\get u (c.ix p)=get t (c.ix p))\/∃v,ovV t (ovK (g.at p).2)=some v/\get u (c.ix p)=v:=by
   intro hkept;have h1:=hget p hpk;rw[Z0W hc0 hkept]at h1;by_cases hs:Sg (c.ix p) (ovK (g.at p).2)=true
   ·simp_all
   ·simp_all
  simp only;cases hkk:(g.at p).2 with
  |val e l=>
   rw[hkk]at hk hrel hgp;simp only[outK,ZgH]at hk;subst hk;obtain⟨x,hx,hxr⟩:=hrel;have hF:=hsh p hpk e l (by grind);refine⟨x,?_,hxr.mono λb hb=>GH.ext_F (hF b hb)⟩;simp only[Vm.eval];rcases hgp rfl with ⟨hs,hg⟩|⟨v',h1,h2⟩
   ·simp only[ovK]at hs;cases e<;>simp only[Sg]at hs<;>first|(cases hs;done)|skip
    simp_all[Zhq,Vm.eval]
   grind [ovK,ovV,Option.some.injEq]
  |own ty e=>
   rw[hkk]at hk hrel hgp;simp only[outK,ZgH]at hk;subst hk;obtain⟨x,hx,hxr⟩:=hrel;refine⟨x,?_,hxr⟩;simp only[Vm.eval];rcases hgp rfl with ⟨hs,hg⟩|⟨v',h1,h2⟩
   ·simp only[ovK]at hs;cases e<;>simp only[Sg]at hs<;>first|(cases hs;done)|skip
    simp_all[Zhq,Vm.eval]
   grind [ovK,ovV,Option.some.injEq]
  |nil=>
   rw[hkk]at hk hrel;simp only[outK,ZgH]at hk;subst hk;exact hrel
  |mem cs=>
   rw[hkk]at hk hrel hgp;simp only[outK,ZgH]at hk;subst hk;obtain⟨b,vs,T,h1,h2,h3,h4,h5⟩:=hrel;refine⟨b,vs,T,h1,h2,h3,by simpa using h4,λi ck hi=> ?_⟩;simp only[Zh2,ZiP,ZgK]at hi;obtain⟨y,⟨q,⟨ck0,hck0,rfl⟩,rfl⟩,rfl⟩:=hi;refine(h5 i ck0 hck0).eval λx hx1 hx=> ?_;simp only[Zhy,Vm.eval];rcases hgp rfl with ⟨hs,hg⟩|⟨v',e1,e2⟩
   ·simp only[ovK,Sg,ZgT]at hs;have:=hs (ck0.2,i) (ZjA.2 ⟨i,by simp_all⟩);obtain⟨kk,e⟩:=ck0;cases e<;>simp only at this<;>first|(cases this;done)|skip
    simp only[ZgM,Zhq]at this;obtain⟨rfl,rfl⟩:=this;rw[hg];simpa only[Vm.eval]using hx
   ·simp only[ovK,ovV,ZgK]at e1;obtain⟨xs,hxs,rfl⟩:=e1;obtain⟨_,hget⟩:=Yy hxs;obtain⟨z,hz,hze⟩:=hget i ck0.2 (by simp_all);simp_all[ZgS,oneV,if_pos]
  |no=>simp_all[outK]
  |ags cs=>simp_all[outK]
  |ref p=>simp_all[outK]
  |refm p i=>simp_all[outK]
  |pm p o=>simp_all[outK]
  |pc e o sh=>simp_all[outK]
  |pe p i j o k=>simp_all[outK]
  |pa p o j n k=>simp_all[outK]
  |big e sh=>simp_all[outK]
  |clo f caps=>
   rw[hkk]at hk hrel;simp only[outK,ZgH]at hk;subst hk;exact hrel
end
end Vm
namespace Vm
open Go
open Go.RowKit (Below)
def Kg(c:Ctx)(s:St)(S:SS):Prop:=∀p,S.at p=some .nil->get s (c.ix p)=.v (.sl [])
theorem Uf:∀ {S:SS} {p:Nat} {k:OT},S.at p=some k->(p,k)∈S
 | [],p,k,h=>by cases h
 | (q,k')::S,p,k,h=>by
   simp only[SS.at]at h;split at h
   ·rename_i e;subst e;cases h;simp
   ·exact Zhb _ (Uf h)
section
variable {c:Ctx}{B:Nat}{G:Nat->Prop}{s t u:St}{a a':Act}{w w':World}{h h':GH}{g:Gam}{S S':SS}
theorem qY{S0:SS}{p:Nat}{x:Nat×OV}(h:UO c S0 g p=some x):x.1=c.ix p:=by
 grind [UO,ovK,Option.some.injEq]
theorem Sz{l:List E}{xs:List V}(h:Yc t l=some xs):∀e∈l,∃v,eval t e=some v:=by
 intro e he;obtain⟨_,hg⟩:=Yy h
 grind [List.getElem?_of_mem]
theorem Zat{o:OV}{v:SV}(h:ovV t o=some v):∀e∈ovE o,∃v,eval t e=some v:=by
 intro e he;cases o with
 |v e'=>
  grind [ovE,ovV,Option.map_eq_some_iff]
 |m l=>
  simp only[ovV,ZgK]at h;obtain⟨xs,hxs,_⟩:=h;exact Sz hxs e he
 |no=>simp[ovE]at he
theorem Lb{keep:List Nat}{p:Nat}{e:E}{l:List Nat}(hp:p∈keep)(hg:g.at p=([],.val e l)):∀q∈l,q∈W9 keep g:=by
 grind [W9]
theorem Zdu{P:Program} [Lg P]{ix:Nat->Nat}{fresh:FuncId->Bool}{sig:FuncId->Option (List OT)}{tr fix:List Nat}{n:Nat}{keep:List Nat}{draw:Bool}{ops:Array Oper}{r:Reg}(hfit:∀o∈ops,Lg.fit P o)(hm:draw=true->P.follows .mixedOrders=true)(hc:Z09 P ix fresh sig tr fix n keep draw ops S=some (r,S'))
  (hinj:∀p∈keep,∀q∈keep,ix p=ix q->p=q) (hP:c.P=P) (hix:c.ix=ix) (hr:RelG c B G s a w h (Y0 c S)) (hnil:Kg c s S) (hn:n<=a.tmps.size) {K:St->Prop} (hK:wpR P r s K) {id:Nat} {Q:Exit->Act->World->Prop}
  (hQ:∀a' w' s' h',K s'->RelG c B G s' a' w' h' (Y0 c S')->Kg c s' S'->h'.K=h.K->Frm h.K (λt=>t∈fix) a.tmps B w a' w'->a'.tmps.size=a.tmps.size->a'.defers=a.defers->Q .normal a' w'):Lg.wp P (.region id ops draw) Q a w:=by
 unfold Z09 at hc;simp only[ZgI]at hc;obtain⟨⟨gf,xs⟩,hst,hc⟩:=hc;simp only at hc;split at hc
 ·rename_i hcond;simp only[ZgM]at hcond;obtain⟨⟨⟨hfix,hord⟩,hefs⟩,hlets⟩:=hcond;simp only[ZgH,ZgR]at hc;obtain⟨rfl,rfl⟩:=hc;generalize hcc:({P:=P,ix:=ix,own:=λt=>(Z6c ops).contains t,fresh:=fresh,sig:=sig,tr:=tr,n:=n}:Ctx)=cc at*;have hccP:cc.P=P:=by rw[<-hcc]
  have hccix:cc.ix=ix:=by rw[<-hcc]
  have hccn:cc.n=n:=by rw[<-hcc]
  have hent:∀S,Y0 cc S=Y0 c S:=by
   intro S;simp only[Y0];refine ZjR λx _=> ?_;cases x.2<;>simp[KU,hccix,hix]
  clear hcc;subst hccP;obtain⟨hf,rfl⟩:=Z9N hst hord;obtain⟨t,⟨hchk,hout⟩,hef,hag⟩:=jM hefs hK;obtain⟨u,hKu,ho1,ho2,ho3⟩:=Z2Q hout
  have hall:Qx t (xs.flatMap λx=>x.os.chks):=by
   refine Ti (λx hx hh=> ?_) (Z2O hchk);rcases Zh9.1 hx with hx|hx
   ·obtain⟨ef,hef1,hx⟩:=Zij.1 hx;have hefo:=hef ef hef1;cases ef with
    |lt i C e=>
     have:x=(C,e):=by simpa[efE]using hx
     subst this;obtain⟨v,hv,_⟩:=hefo hh
     grind
    |call i C f fr fl aq_=>
     obtain⟨e,he,rfl⟩:=ZgX.1 hx;obtain⟨ys,n,_,hys,hfn,_⟩:=hefo hh;rcases Zh9.1 he with he|he
     ·cases f with
      |id q=>simp[FN.es]at he
      |e q=>
       simp only[FN.es,ZhJ]at he;subst he;simp only[fnV,ZgI]at hfn;obtain⟨v,hv,_⟩:=hfn
       grind
     grind [Sz]
    |callm i C f ks aq_=>
     obtain⟨e,he,rfl⟩:=ZgX.1 hx;obtain⟨ys,n,_,hys,hfn,_⟩:=hefo.1 hh;rcases Zh9.1 he with he|he
     ·cases f with
      |id q=>simp[FN.es]at he
      |e q=>
       grind [FN.es,List.mem_singleton,fnOf]
     grind [Sz]
   ·obtain⟨y,hy,hx⟩:=Zij.1 hx;obtain⟨e,he,rfl⟩:=ZgX.1 hx
    grind [Zat]
  have hos:∀x∈xs,okOS cc.P t x.os:=by
   intro x hx;exact⟨λef hef1=>hef ef (Zij.2 ⟨x,hx,hef1⟩),λy hy=>hall y (Zij.2 ⟨x,hx,hy⟩)⟩
  have hr1:RelG cc B G t a w h (Y0 cc S):=by
   have h1:RelG cc B G s a w h (Y0 cc S):=by
    rw[hent];exact hr.ctx hP.symm (by grind)
   refine h1.agree λx hx=>hag _ λef hef1 he=> ?_;simp only[ZgT,ZjI,ne_eq]at hlets;exact hlets ef hef1 x hx (by grind)
  have hget:∀p∈keep,match UO cc S (frz (W9 keep (gAll xs (Y0 cc S))) (gAll xs (Y0 cc S))) p with|some x=>∃v,ovV t x.2=some v/\get u (cc.ix p)=v|none=>get u (cc.ix p)=get t (cc.ix p):=by
   intro p hp
   have huniq:∀q∈keep,∀y,UO cc S (frz (W9 keep (gAll xs (Y0 cc S))) (gAll xs (Y0 cc S))) q=some y->y.1=cc.ix p->q=p:=λq hq y hy he=>by
    have:=qY hy
    grind
   split
   ·grind [Zdd,frz,W9,gAll,Y0,qY]
   ·rename_i hx;refine ho2 _ λy hy he=> ?_;obtain⟨q,hq,hy'⟩:=Zjq.1 hy
    grind
  have hnil':Kg c u (qZ keep (frz (W9 keep (gAll xs (Y0 cc S))) (gAll xs (Y0 cc S)))):=by
   intro p hp;obtain⟨hpk,hc0,hk⟩:=Z2j hp
   have hkn:((frz (W9 keep (gAll xs (Y0 cc S))) (gAll xs (Y0 cc S))).at p).2=.nil:=by
    cases hkk:((frz (W9 keep (gAll xs (Y0 cc S))) (gAll xs (Y0 cc S))).at p).2<;>rw[hkk]at hk<;>simp[outK]at hk⊢
   have hgp:=hget p hpk
   have hone:UO cc S (frz (W9 keep (gAll xs (Y0 cc S))) (gAll xs (Y0 cc S))) p=if S.at p=some .nil then none else some (cc.ix p,.v (.c (.sl []))):=by
    unfold UO;simp only[hc0,hkn,Zkl,Zhp,ovK,Sg,ZgU,Zhr];cases hSp:S.at p with
    |none=>simp
    |some k=>grind
   rw[hone]at hgp;rw[hix,<-hccix];by_cases hSp:S.at p=some .nil
   ·rw[if_pos hSp]at hgp;simp only at hgp;rw[hgp,hag]
    ·have:=hnil p hSp
     grind
    ·intro ef hef1 he;simp only[ZgT,ZjI,ne_eq]at hlets;exact hlets ef hef1 _ (Uf hSp) (by grind)
   ·rw[if_neg hSp]at hgp
    grind [ovV,eval,Option.some.injEq]
  have hfx:∀o∈ops,∀d,o.dst=some d->¬d∈fix:=λo ho d hd hm=>by
   have:=ZgT.1 hfix o (by grind)
   grind
  have hwp:=Z3R (c:=cc) (id:=id) (Q:=Q) hfit hm hf hos (by omega) hr1 hfx λa' w' h' hrel hKk hb h1 h2=>by
   have hfz:=hrel.frz (W9 keep (gAll xs (Y0 cc S)));refine hQ a' w' u (h'.thaw (W9 keep (gAll xs (Y0 cc S)))) hKu ?_ hnil' hKk hb h1 h2;rw[<-hent];have hfin:=Z1e (u:=u) (keep:=keep) (sh:=[]) (S0:=S) hfz (λp hp e l hg b hbx=> ?_) λp hp=> ?_
   ·exact hfin.ctx hP (by grind)
   ·
    have hsub:∀q∈l,q∈W9 keep (gAll xs (Y0 cc S)):=by
     unfold frz at hg;rw[Y3,Y3]at hg;split at hg
     ·split at hg
      ·grind [Qf]
      ·rename_i hk1 hk2
       have hpf:p∈W9 keep (gAll xs (Y0 cc S)):=by
        simp only[Zz,ZhU,Zh9]at hk1;have:=hk1.resolve_left hk2;have h3:=Vc (fz:=W9 keep (gAll xs (Y0 cc S))) (g:=gAll xs (Y0 cc S));unfold Zz at h3;rw[h3]at this;exact this
       rw[Ui hpf]at hg;simp only[ZgR]at hg;obtain⟨hg1,hg2⟩:=hg;cases hk:((gAll xs (Y0 cc S)).at p).2<;>rw[hk]at hg2<;>simp only[T6]at hg2<;>first|(cases hg2;done)|skip
       ·simp only[TK.val.injEq]at hg2;obtain⟨rfl,rfl⟩:=hg2
        grind [Lb,Prod.ext]
       ·grind
       grind
     ·exact Lb hp hg
    rcases hbx with hbx|⟨q,hq,i,hi⟩
    ·exact hbx
    ·simp only[GH.thaw]at hi
     grind
   grind
  exact hwp
 ·cases hc
end
end Vm
namespace Vm
open Go
open Go.RowKit (Below)
def GH.drop(h:GH)(kp:Nat->Nat->Bool):GH:= {F:=λb=>h.F b\/∃t i,kp t i=false/\i≠0/\h.bl t i=some b,bl:=λt i=>if kp t i=true\/i=0 then h.bl t i else none,K:=h.K}
section
variable {c:Ctx}{B:Nat}{G:Nat->Prop}{s t u:St}{a a':Act}{w w':World}{h h':GH}{g:Gam}{S R:SS}
theorem Zaq(hok:Ok B G w h)(kp:Nat->Nat->Bool):Ok B G w (h.drop kp):=by
 refine⟨hok.base,λb hb=> ?_,λb hb=> ?_,λb hb=>.inl (hok.g_F b hb),λt i b hb=> ?_,λt i u j b hb hb'=> ?_,hok.k_lt,λt i b hb=> ?_,λb hb=> ?_⟩
 ·rcases hb with hb|⟨t,i,_,_,hi⟩
  ·exact hok.f_lt b hb
  ·exact(hok.b_lt t i b hi).2.1
 ·rcases hb with hb|⟨t,i,_,_,hi⟩
  ·exact hok.f_or b hb
  ·exact .inr (hok.b_lt t i b hi).1
 ·simp only[GH.drop]at hb;split at hb
  ·rename_i hk;obtain⟨h1,h2,h3⟩:=hok.b_lt t i b hb;refine⟨h1,h2,λhF=> ?_⟩;rcases hF with hF|⟨t',i',e1,e2,e3⟩
   ·exact h3 hF
   ·obtain⟨rfl,rfl⟩:=hok.inj t i t' i' b hb e3;simp_all
  ·cases hb
 ·simp only[GH.drop]at hb hb';split at hb<;>split at hb'<;>first|(cases hb;done)|(cases hb';done)|exact hok.inj t i u j b hb hb'
 ·simp only[GH.drop]at hb;split at hb
  ·exact hok.k_bl t i b hb
  ·cases hb
 ·rcases hb with hb|⟨t,i,_,_,hi⟩
  ·exact hok.k_F b hb
  ·exact .inr (hok.k_bl t i b hi)
theorem Z5z{P:Program}(hle:leSS P S R=true){p:Nat}{k:OT}(hp:R.at p=some k):∃k0,S.at p=some k0/\leOT P k0 k=true:=by
 have:=ZgT.1 hle _ (Uf hp)
 grind
theorem RelC.weak{P:Program}{o o':Option Nat}{k k':CK}{e:E}{v:Value}(hr:RelC P B s w h o k e v)(hle:leCK P k k'=true)(hF:∀b,h.F b->h'.F b)
  (hown:∀ty ty',k=.own ty->k'=.own ty'->o'=o) (hdrop:(∀ty,k'≠.own ty)->∀b,o=some b->h'.F b) (hnil:∀ty,k=.nil->k'=.own ty->o'=none):RelC P B s w h' o' k' e v:=by
 cases k with
 |fz=>
  cases k'<;>simp only[leCK]at hle<;>first|(cases hle;done)|skip
  ·obtain⟨x,h0,h1,h2⟩:=hr;exact⟨x,h0,h1,h2.mono hF⟩
  ·exact hr.cell
 |own ty=>
  cases k'<;>simp only[leCK]at hle<;>first|(cases hle;done)|skip
  ·obtain⟨x,h0,h1⟩:=hr;exact⟨x,h0,h1.one,h1.rd hF (hdrop (by simp))⟩
  ·rename_i ty';simp only[Zhq]at hle;subst hle;obtain⟨x,h0,h1⟩:=hr;exact⟨x,h0,h1.mono hF (hown ty ty rfl rfl).symm⟩
  ·exact hr.cell
 |nil=>
  obtain⟨rfl,h0⟩:=hr;cases k'<;>simp only[leCK]at hle<;>first|(cases hle;done)|skip
  ·exact⟨_,h0,rfl,.nil _ _ (ZhO _)⟩
  ·rename_i ty;simp only[Zh1]at hle;rw[hnil ty rfl rfl];exact⟨_,h0,.inl ⟨[],[],rfl,hle,λx hx=>by simp at hx,Ziv w B ty _,rfl,λi ck hi=>by simp[flat]at hi⟩⟩
  ·exact⟨rfl,h0⟩
  ·rfl
 |dead=>
  cases k'<;>simp only[leCK]at hle<;>first|(cases hle;done)|skip
  exact hr
def Tb(S R:SS)(t i:Nat):Bool:=
 match S.at t,R.at t with
 |some (.own _),some (.own _)=>true
 |some (.mem a),some (.mem b)=>match a[i-1]?,b[i-1]? with
  |some (.own _),some (.own _)=>true
  |_,_=>false
 |_,_=>false
theorem qq{P:Program}:∀ {a b:List CK},Z3C P a b=true->a.length=b.length/\∀(i:Nat) (x y:CK),a[i]?=some x->b[i]?=some y->leCK P x y=true
 | [],[],_=>⟨rfl,λi x y hx=>by simp at hx⟩
 | [],_::_,h=>by simp[Z3C]at h
 |_::_,[],h=>by simp[Z3C]at h
 |x::a,y::b,h=>by
  simp only[Z3C,ZgM]at h;obtain⟨h1,h2⟩:=qq h.2;refine⟨by simp[h1],λi p q hp hq=> ?_⟩;cases i with
  |zero=>simp at hp hq;subst hp hq;exact h.1
  |succ i=>exact h2 i p q (by simpa using hp) (by simpa using hq)
theorem Ts(hr:RelG c B G s a w h (Y0 c S))(hnil:Kg c s S)(hle:leSS c.P S R=true):RelG c B G s a w (h.drop (Tb S R)) (Y0 c R)/\Kg c s R:=by
 constructor
 ·refine⟨Zaq hr.ok _,λp _ hn=> ?_,λp hh=>absurd (by rw[Zk];cases R.at p<;>exact Zb s c) hh⟩;rw[Zk]at hn⊢;cases hR:R.at p with
  |none=>rw[hR]at hn;simp[TK.isNo]at hn
  |some k'=>
   obtain⟨k,hS,hk⟩:=Z5z hle hR;obtain⟨v,hv,hrel⟩:=hr.at_ p (by rw[Zk,hS];exact Zb s c) (by rw[Zk,hS];cases k<;>rfl);refine⟨v,hv,?_⟩;rw[Zk,hS]at hrel;simp only at hrel⊢;have hF:∀b,h.F b->(h.drop (Tb S R)).F b:=λb hb=>.inl hb;have hFe:∀b,h.ext [] b->(h.drop (Tb S R)).ext [] b:=λb hb=>GH.ext_F (.inl (GH.ext_nil hb));cases k with
   |fz=>
    cases k'<;>simp only[leOT]at hk<;>first|(cases hk;done)|skip
    obtain⟨x,h1,h2⟩:=hrel;exact⟨x,h1,h2.mono hFe⟩
   |own ty=>
    cases k'<;>simp only[leOT]at hk<;>first|(cases hk;done)|skip
    ·obtain⟨x,h1,h2⟩:=hrel;exact⟨x,h1,h2.rd (λb hb=>GH.ext_F (hF b hb)) λb hb=>GH.ext_F (.inr ⟨p,1,by simp[Tb,hS,hR],by omega,hb⟩)⟩
    ·rename_i ty';simp only[Zhq]at hk;subst hk;obtain⟨x,h1,h2⟩:=hrel;exact⟨x,h1,h2.mono hF (by simp[GH.drop,Tb,hS,hR])⟩
   |nil=>
    have hv0:v=.slice none 0 0:=hrel;subst hv0;have hg:=hnil p hS;cases k'<;>simp only[leOT]at hk<;>first|(cases hk;done)|skip
    ·exact⟨.sl [],by simp only[eval,hg],.nil _ _ (ZhO _)⟩
    ·rename_i ty;simp only[Zh1]at hk;exact⟨.sl [],by simp only[eval,hg],.inl ⟨[],[],rfl,hk,λx hx=>by simp at hx,Ziv w B ty _,by simp[GH.drop,Tb,hS,hR,Value.ownBlock],λi ck hi=>by simp[flat]at hi⟩⟩
    ·rfl
   |mem l=>
    cases k'<;>simp only[leOT]at hk<;>first|(cases hk;done)|skip
    rename_i l';obtain⟨hl,hget⟩:=qq hk;obtain⟨b,vs,T,h1,h2,h3,h4,h5⟩:=hrel;refine⟨b,vs,T,by simp[GH.drop,h1],h2,h3,by rw[h4];simp[hl],λi ck hi=> ?_⟩;simp only[Zh2,ZiP,ZgK,Zhy]at hi;obtain⟨y,⟨k2,hk2,rfl⟩,rfl⟩:=hi;have hlt:i<l.length:=by rw[hl];exact(ZgL.1 hk2).1
    have hk1:l[i]?=some l[i]:=ZgJ hlt;have h5i:=h5 i (l[i],.m (c.ix p) i) (by simp[hlt]);refine h5i.weak (hget i _ _ hk1 hk2) hF (λty ty' e1 e2=> ?_) (λhno x hx=>.inr ⟨p,i+1,?_,by omega,hx⟩) λty e1 e2=> ?_
    ·simp only at e1 e2;simp[GH.drop,Tb,hS,hR,hk1,hk2,e1,e2]
    ·simp only at hno;simp only[Tb,hS,hR,Nat.add_sub_cancel,hk1,hk2];cases k2<;>first|(cases l[i]<;>rfl)|exact absurd rfl (hno _)
    ·simp only at e1 e2;simp[GH.drop,Tb,hS,hR,hk1,hk2,e1,e2]
   |clo f caps=>
    cases k'<;>simp only[leOT]at hk<;>first|(cases hk;done)|skip
    simp only[ZgM,Zhq]at hk;obtain⟨rfl,rfl⟩:=hk;obtain⟨vs,h1,h2,h3⟩:=hrel;refine⟨vs,h1,h2,λi p hi=> ?_⟩;obtain⟨b,h4,h5⟩:=h3 i p hi;exact⟨b,by simp[GH.drop,h4],h5⟩
 ·intro p hp;obtain⟨k,hS,hk⟩:=Z5z hle hp;cases k<;>simp only[leOT]at hk<;>first|(cases hk;done)|exact hnil p hS
end
end Vm
namespace Vm
open Go
open Go.RowKit (Below)
def YH:List Nat->St->St
 | [],_=>[]
 |i::l,s=>putS (YH l s) i (get s i)
theorem yV:∀ {keep:List Nat} {s:St} {i:Nat},i∈keep->get (YH keep s) i=get s i
 | [],s,i,hi=>by simp at hi
 |j::l,s,i,hi=>by
  simp only[YH];rw[Zo];split
  ·rename_i e;rw[e]
  ·rename_i e;exact yV ((Zh0.1 hi).resolve_left e)
def wpS(P:Program) [Lg P]:Stm->St->(St->Prop)->(Nat->St->Prop)->(St->Prop)->Prop
 |.reg r,s,N,_,_=>wpR P r s N
 |.skip,s,N,_,_=>N s
 |.seq a b,s,N,X,R=>wpS P a s (λs'=>wpS P b s' N X R) X R
 | .cond c a b,s,N,X,R=>match eval s c with
   |some (.bool true)=>wpS P a s N X R
   |some (.bool false)=>wpS P b s N X R
   |_=>False
 |.block id a,s,N,X,R=>wpS P a s N (λi s'=>if i=id then N s' else X i s') R
 |.loop keep a,s,_,X,R=>∃(I:St->Prop) (μ:St->Nat),I (YH keep s)/\∀s,I s->wpS P a s (λs'=>I (YH keep s')/\μ (YH keep s')<μ s) X R
 |.exit id,s,_,X,_=>X id s
 |.ret,s,_,_,R=>R s
def RelS(Kf:Nat->Prop)(fix:List Nat)(T0:Array Value)(c:Ctx)(B:Nat)(G:Nat->Prop)(w0:World)(n0:Nat)(s:St)(a:Act)(w:World)(S:SS):Prop:=
 (∃h,RelG c B G s a w h (Y0 c S)/\h.K=Kf)/\Kg c s S/\Frm Kf (λt=>t∈fix) T0 B w0 a w/\a.tmps.size=n0/\a.defers=[]
section
variable {c:Ctx}{fc:FC}{B:Nat}{G:Nat->Prop}{s t u:St}{a a':Act}{w w' w0:World}{n0:Nat}{S R:SS}{Kf:Nat->Prop}{fix:List Nat}{T0:Array Value}
theorem RelS.weak(hr:RelS Kf fix T0 c B G w0 n0 s a w S)(hle:leSS c.P S R=true):RelS Kf fix T0 c B G w0 n0 s a w R:=by
 obtain⟨⟨h,h1,hK⟩,h2,h3⟩:=hr;obtain⟨h4,h5⟩:=Ts h1 h2 hle;exact⟨⟨_,h4,hK⟩,h5,h3⟩
theorem zk{P:Program}{S:SS}{M:Option SS}(h:leO P (some S) M=true):∃R,M=some R/\leSS P S R=true:=by
 cases M with
 |none=>cases h
 |some R=>exact⟨R,rfl,h⟩
theorem RelS.only(hr:RelS Kf fix T0 c B G w0 n0 s a w S):RelS Kf fix T0 c B G w0 n0 (YH (S.map λy=>c.ix y.1) s) a w S:=by
 obtain⟨⟨h,h1,hK⟩,h2,h3⟩:=hr;have hag:∀x∈S,get (YH (S.map λy=>c.ix y.1) s) (c.ix x.1)=get s (c.ix x.1):=λx hx=>yV (ZgX.2 ⟨x,hx,rfl⟩);exact⟨⟨h,h1.agree hag,hK⟩,λp hp=>by rw[hag _ (Uf hp)];exact h2 p hp,h3⟩
theorem Rz{p:Nat->Prop}:∀(n:Nat),p n->∃n,p n/\∀m,p m->n<=m:=by
 intro n
 induction n using Nat.strongRecOn with
 |_ n ih=>
  grind
open Classical in
noncomputable def least (p:Nat->Prop):Nat:=if h:∃n,p n/\∀m,p m->n<=m then Classical.choose h else 0
theorem Z3D{p:Nat->Prop}(h:∃n,p n):p (least p):=by
 obtain⟨n,hn⟩:=h;have h':=Rz n hn;unfold least
 grind
theorem Z7M{p:Nat->Prop}{n:Nat}(hn:p n):least p<=n:=by
 have h':=Rz n hn;unfold least
 grind
def Post(Kf:Nat->Prop)(fix:List Nat)(T0:Array Value)(c:Ctx)(B:Nat)(G:Nat->Prop)(w0:World)(n0:Nat)(fl:Flow)(N:St->Prop)(X:Nat->St->Prop)(R:St->Prop)(e:Exit)(a:Act)(w:World):Prop:=
 match e with
 |.normal=>∃s S,fl.n=some S/\N s/\RelS Kf fix T0 c B G w0 n0 s a w S
 |.exit id=>∃s S,(id,S)∈fl.x/\X id s/\RelS Kf fix T0 c B G w0 n0 s a w S
 |.ret=>∃s S,S∈fl.r/\R s/\RelS Kf fix T0 c B G w0 n0 s a w S
 |_=>False
theorem Post.mono{fl fl':Flow}{N N':St->Prop}{X X':Nat->St->Prop}{Rt:St->Prop}{e:Exit}{a:Act}{w:World}(h:Post Kf fix T0 c B G w0 n0 fl N X Rt e a w)
  (hn:∀s S,fl.n=some S->N s->RelS Kf fix T0 c B G w0 n0 s a w S->∃s S,fl'.n=some S/\N' s/\RelS Kf fix T0 c B G w0 n0 s a w S)
  (hx:∀id s S,(id,S)∈fl.x->X id s->RelS Kf fix T0 c B G w0 n0 s a w S->∃s S,(id,S)∈fl'.x/\X' id s/\RelS Kf fix T0 c B G w0 n0 s a w S)
  (hr:∀S,S∈fl.r->S∈fl'.r):Post Kf fix T0 c B G w0 n0 fl' N' X' Rt e a w:=by
 cases e with
 |normal=>obtain⟨s,S,h1,h2,h3⟩:=h;exact hn s S h1 h2 h3
 |exit id=>obtain⟨s,S,h1,h2,h3⟩:=h;exact hx id s S h1 h2 h3
 |ret=>obtain⟨s,S,h1,h2,h3⟩:=h;exact⟨s,S,hr S h1,h2,h3⟩
 |goto l=>exact h.elim
 |panic ch=>exact h.elim
 |outgrown=>exact h.elim
theorem RelS.sim(hr:RelS Kf fix T0 c B G w0 n0 s a w S)(d:Nat):RelS Kf fix T0 c B G w0 n0 s a {w with drawn:=d} S:=by
 obtain⟨⟨h,h1,hK⟩,h2,h3,h4⟩:=hr;exact⟨⟨h,h1.drew d,hK⟩,h2,h3.trans ⟨⟨rfl,rfl,rfl,ZgP _,λ_ _=>rfl⟩,λ_ _=>rfl,λ_ _=>rfl⟩,h4⟩
theorem Sy [Lg fc.P](hm:fc.P.follows .mixedOrders=true)(hinj:∀p∈fc.keep,∀q∈fc.keep,fc.ix p=fc.ix q->p=q)(hP:c.P=fc.P)(hix:c.ix=fc.ix)(hfx:fix=fc.fix)(hn:fc.n<=n0):
  ∀(code:Code) {S:SS} {st:Stm} {fl:Flow} {s:St} {a:Act} {w:World} {N:St->Prop} {X:Nat->St->Prop} {Rt:St->Prop},Tt (Lg.fit fc.P) code->comp fc code S=some (st,fl)->RelS Kf fix T0 c B G w0 n0 s a w S->wpS fc.P st s N X Rt->
   Lg.wp fc.P code (Post Kf fix T0 c B G w0 n0 fl N X Rt) a w:=by
 intro code
 induction code with
 |skip=>
  intro S st fl s a w N X Rt ha hc hr hw;simp only[comp,ZgH,ZgR]at hc;obtain⟨rfl,rfl⟩:=hc;exact Lg.wp_skip ⟨s,S,rfl,hw,hr⟩
 |label l=>
  intro S st fl s a w N X Rt ha hc hr hw;simp only[comp,ZgH,ZgR]at hc;obtain⟨rfl,rfl⟩:=hc;exact Lg.wp_label ⟨s,S,rfl,hw,hr⟩
 |region id ops draw=>
  intro S st fl s a w N X Rt ha hc hr hw;simp only[comp,ZgK,ZgR]at hc;obtain⟨⟨r,S'⟩,hreg,rfl,rfl⟩:=hc;obtain⟨⟨h,h1,hK⟩,h2,h3,h4,h5⟩:=hr;refine Zdu ha (λ_=>hm) hreg hinj hP hix h1 h2 (by rw[h4];exact hn) hw λa' w' s' h' hk hrel hnil hKk hb hs hd=> ?_;rw[hK,<-hfx]at hb;exact⟨s',S',rfl,hk,⟨h',hrel,hKk.trans hK⟩,hnil,h3.trans hb,hs.trans h4,hd.trans h5⟩
 |seq x y ihx ihy=>
  intro S st fl s a w N X Rt ha hc hr hw;simp only[comp,ZgI]at hc;obtain⟨⟨sx,fx⟩,hx,hc⟩:=hc;simp only at hc;split at hc
  ·rename_i hnone;simp only[ZgH,ZgR]at hc;obtain⟨rfl,rfl⟩:=hc;refine Lg.wp_seq (Lg.wp_mono (ihx (N:=N) (X:=X) (Rt:=Rt) ha.1 hx hr hw) λe a' w' hp=> ?_);cases e with
   |normal=>obtain⟨s',S',h1,_⟩:=hp;rw[hnone]at h1;cases h1
   |_=>exact hp
  ·rename_i R hsome;simp only[ZgK,ZgR]at hc;obtain⟨⟨sy,fy⟩,hy,rfl,rfl⟩:=hc;refine Lg.wp_seq (Lg.wp_mono (ihx (N:=λs'=>wpS fc.P sy s' N X Rt) (X:=X) (Rt:=Rt) ha.1 hx hr hw) λe a' w' hp=> ?_);cases e with
   |normal=>
    obtain⟨s',S',h1,h2,h3⟩:=hp;rw[hsome]at h1;cases h1;exact Lg.wp_mono (ihy ha.2 hy h3 h2) λe a' w' hp=>hp.mono (λs S h1 h2 h3=>⟨s,S,h1,h2,h3⟩) (λid s S h1 h2 h3=>⟨s,S,Zh9.2 (.inr h1),h2,h3⟩) λS hS=>Zh9.2 (.inr hS)
   |exit id=>obtain⟨s',S',h1,h2⟩:=hp;exact⟨s',S',Zh9.2 (.inl h1),h2⟩
   |ret=>obtain⟨s',S',h1,h2⟩:=hp;exact⟨s',S',Zh9.2 (.inl h1),h2⟩
   |_=>exact hp.elim
 |exit id=>
  intro S st fl s a w N X Rt ha hc hr hw;simp only[comp,ZgH,ZgR]at hc;obtain⟨rfl,rfl⟩:=hc;exact Lg.wp_exit ⟨s,S,by simp,hw,hr⟩
 |ret=>
  intro S st fl s a w N X Rt ha hc hr hw;simp only[comp,ZgH,ZgR]at hc;obtain⟨rfl,rfl⟩:=hc;exact Lg.wp_ret ⟨s,S,by simp,hw,hr⟩
 |scope x ih=>
  intro S st fl s a w N X Rt ha hc hr hw;refine Lg.wp_scope (Lg.wp_mono (ih ha (by simpa only[comp]using hc) hr hw) λe a' w' hp=> ?_);cases e<;>exact hp
 |cond cnd x y ihx ihy=>
  intro S st fl s a w N X Rt ha hc hr hw;cases cnd with
  |tmp tc=>
   simp only[comp]at hc;split at hc
   ·rename_i hfz;simp only[ZgI]at hc;obtain⟨⟨sx,fx⟩,hx,⟨sy,fy⟩,hy,hc⟩:=hc;simp only at hc;split at hc
    ·rename_i hle;simp only[ZgM]at hle;simp only[ZgH,ZgR]at hc;obtain⟨rfl,rfl⟩:=hc;obtain⟨⟨h,h1,hKk⟩,hrest⟩:=hr;obtain⟨v,hv,hrel⟩:=h1.at_ tc (by rw[Zk,hfz];exact Zb s c) (by rw[Zk,hfz];rfl);rw[Zk,hfz]at hrel;obtain⟨xv,hxv,hxr⟩:=hrel;rw[hix]at hxv;have hav:=Act.eval_tmp a tc v hv
     have weak:∀ {f:Flow} {fl:Flow} {e:Exit} {a':Act} {w':World},leO fc.P f.n fl.n=true->(∀z∈f.x,z∈fl.x)->(∀z∈f.r,z∈fl.r)->Post Kf fix T0 c B G w0 n0 f N X Rt e a' w'->Post Kf fix T0 c B G w0 n0 fl N X Rt e a' w':=by
      intro f fl e a' w' hl hx hr hp;refine hp.mono (λs S h1 h2 h3=> ?_) (λid s S h1 h2 h3=>⟨s,S,hx _ h1,h2,h3⟩) hr;rw[h1]at hl;obtain⟨R,hR,hle⟩:=zk hl;exact⟨s,R,hR,h2,h3.weak (by rw[hP];exact hle)⟩
     simp only[wpS]at hw;split at hw
     ·rename_i hb;rw[hxv]at hb;cases hb;have hvb:v=.bool true:=by cases hxr;rfl
      refine Lg.wp_cond_true (by rw[hav,hvb]) (Lg.wp_mono (ihx ha.1 hx ⟨⟨h,h1,hKk⟩,hrest⟩ hw) λe a' w' hp=> ?_);exact weak hle.1 (λz hz=>Zh9.2 (.inl hz)) (λz hz=>Zh9.2 (.inl hz)) hp
     ·rename_i hb;rw[hxv]at hb;cases hb;have hvb:v=.bool false:=by cases hxr;rfl
      refine Lg.wp_cond_false (by rw[hav,hvb]) (Lg.wp_mono (ihy ha.2 hy ⟨⟨h,h1,hKk⟩,hrest⟩ hw) λe a' w' hp=> ?_);exact weak hle.2 (λz hz=>Zh9.2 (.inr hz)) (λz hz=>Zh9.2 (.inr hz)) hp
     ·exact hw.elim
    ·cases hc
   ·cases hc
  |_=>simp[comp]at hc
 |block id x ih=>
  intro S st fl s a w N X Rt ha hc hr hw;simp only[comp,ZgI]at hc;obtain⟨⟨sx,fx⟩,hx,hc⟩:=hc;simp only at hc;split at hc
  ·rename_i hle;simp only[ZgM,ZgT,ZgW,ZjI,ne_eq]at hle;obtain⟨hle1,hle2⟩:=hle;simp only[ZgH,ZgR]at hc;obtain⟨rfl,rfl⟩:=hc;generalize Z7T fc.P fx.n (Z0L fc.P ((fx.x.filter λy=>y.1==id).map (·.2)))=M at hle1 hle2⊢;refine Lg.wp_block (Lg.wp_mono (ih (N:=N) (X:=λi s'=>if i=id then N s' else X i s') (Rt:=Rt) ha hx hr hw) λe a' w' hp=> ?_);cases e with
   |normal=>
    obtain⟨s',S',h1,h2,h3⟩:=hp;rw[h1]at hle1;obtain⟨R,hR,hl⟩:=zk hle1;exact⟨s',R,hR,h2,h3.weak (by rw[hP];exact hl)⟩
   |exit id'=>
    obtain⟨s',S',h1,h2,h3⟩:=hp;simp only[Exit.inBlock];by_cases hid:id'=id
    ·subst hid;simp only[Zhp]at h2⊢;obtain⟨R,hR,hl⟩:=zk ((hle2 _ h1).resolve_left (by simp));exact⟨s',R,hR,h2,h3.weak (by rw[hP];exact hl)⟩
    ·simp only[if_neg hid]at h2⊢;exact⟨s',S',Zjp.2 ⟨h1,by simpa using hid⟩,h2,h3⟩
   |ret=>exact hp
   |_=>exact hp.elim
  ·cases hc
 |loop x ih=>
  intro S st fl s a w N X Rt ha hc hr hw;simp only[comp,ZgI]at hc;obtain⟨H,hH,⟨sx,fx⟩,hx,hc⟩:=hc;simp only at hc;split at hc
  ·rename_i hle;simp only[ZgM]at hle;simp only[ZgH,ZgR]at hc;obtain⟨rfl,rfl⟩:=hc;obtain⟨I,μ,hI0,hround⟩:=hw;have hixs:(H.map λy=>fc.ix y.1)=H.map λy=>c.ix y.1:=by rw[hix]
   rw[hixs]at hI0 hround;refine Lg.wp_loop (λa w=>∃s,I s/\RelS Kf fix T0 c B G w0 n0 s a w H) (λa w=>least λn=>∃s,μ s=n/\I s/\RelS Kf fix T0 c B G w0 n0 s a w H) ⟨_,hI0,(hr.weak (by rw[hP];exact hle.1)).only⟩ λa w hI=> ?_;obtain⟨s0,hs0,hr0⟩:=hI;obtain⟨s1,hμ,hs1,hr1⟩:=Z3D (p:=λn=>∃s,μ s=n/\I s/\RelS Kf fix T0 c B G w0 n0 s a w H) ⟨μ s0,s0,rfl,hs0,hr0⟩;refine Lg.wp_mono (ih ha hx hr1 (hround s1 hs1)) λe a' w' hp=> ?_;cases e with
   |normal=>
    obtain⟨s',S',h1,⟨h2,h4⟩,h3⟩:=hp;have hl:=hle.2;rw[h1]at hl;have hr':=(h3.weak (show leSS c.P S' H=true by rw[hP];exact hl)).only;refine⟨⟨_,h2,hr'⟩,?_⟩;rw[<-hμ];exact Nat.lt_of_le_of_lt (Z7M (p:=λn=>∃s,μ s=n/\I s/\RelS Kf fix T0 c B G w0 n0 s a' w' H) ⟨_,rfl,h2,hr'⟩) h4
   |exit id=>exact hp
   |ret=>exact hp
   |_=>exact hp.elim
  ·cases hc
 |rangeFunc f params asg body ih1 ih2=>intro S st fl s a w N X Rt ha hc;simp[comp]at hc
 |goto l=>intro S st fl s a w N X Rt ha hc;simp[comp]at hc
 |refuse why=>intro S st fl s a w N X Rt ha hc;simp[comp]at hc
end
end Vm
namespace Vm
open Go
open Go.RowKit (Below)
def JP(s:St):Nat×RK->Option V
 |(i,.v)=>match get s i with|.v x=>some x|_=>none
 |(i,.ag n)=>match get s i with|.m cs=>if n<=cs.length then some (.agg (cs.take n))else none|_=>none
 |(i,.one)=>match get s i with|.m (x::_)=>some x|_=>none
def Sa(s:St):List (Nat×RK)->Option (List V)
 | []=>some []
 |x::l=>(JP s x).bind λy=>(Sa s l).map (y:: ·)
def resV(s:St)(l:List (Nat×RK)):Option V:=
 match l with
 | [x]=>JP s x
 |l=>(Sa s l).map .tup
theorem Z6n:∀ {l:List Nat} {p:Nat},p∈l->l[pos l p]?=some p
 | [],p,h=>by simp at h
 |q::l,p,h=>by
  simp only[pos];by_cases hq:q=p
  ·subst hq;simp
  ·rw[if_neg hq];have:p∈l:=(Zh0.1 h).resolve_left λe=>hq e.symm;simpa using Z6n this
theorem Lo:∀ {l r:List Nat} {t:Nat},t∈l->pos (l++r) t=pos l t
 | [],r,t,h=>by simp at h
 |q::l,r,t,h=>by
  simp only[ZhX,pos];by_cases hq:q=t
  ·simp_all
  ·rw[if_neg hq,if_neg hq,Lo ((Zh0.1 h).resolve_left λe=>hq e.symm)]
theorem Z16{l:List Nat}{p q:Nat}(hp:p∈l)(hq:q∈l)(h:pos l p=pos l q):p=q:=by
 grind [Z6n]
section
variable {c:Ctx}{B:Nat}{G:Nat->Prop}{s t u:St}{a a':Act}{w w' w0:World}{h:GH}{n0:Nat}{S R:SS}
def rkOf(P:Program)(ix:Nat->Nat):ResultVar->Nat×RK
 |.tmp t=>(ix t,.v)
 |.cell a t=>(ix a,if Zq P t then .ag (P.cellsOf t)else .one)
def Lp(tmps:Array Value):ResultVar->Sem Value
 |.tmp t=>pure (tmps.getD t undef)
 |.cell p t=>do loadVar t (<-asAddr (tmps.getD p undef))
theorem Z2t(P:Program)(ix:Nat->Nat)(f:Func):Z6t P ix f=f.results.toList.map (rkOf P ix):=by
 rfl
theorem Z6u(hrel:RelG c B G s a w h (Y0 c S))(hnil:Kg c s S){D:Nat->Prop}(hF:∀b,h.F b->D b){r:ResultVar}(hbl0:∀i b,h.bl (U5 r) (i+1)=some b->D b)(hok:qU c.P S r=true){x:V}(hx:JP s (rkOf c.P c.ix r)=some x):
  ∃v,(Lp a.tmps r).run c.P w=.ok v w/\Rd w D x v:=by
 cases r with
 |tmp tt=>
  simp only[rkOf,Lp]at hx⊢;simp only[qU]at hok;cases hS:S.at tt with
  |none=>simp_all
  |some k=>
   obtain⟨v,hv,hk⟩:=hrel.at_ tt (by simp_all[Zk,Zb]) (by rw[Zk,hS];cases k<;>rfl);rw[Zk,hS]at hk;have hvd:a.tmps.getD tt undef=v:=by simp[ZgN,hv]
   refine⟨v,by simp[hvd],?_⟩;simp only[JP]at hx
   have hget:get s (c.ix tt)=.v x:=by
    cases hg:get s (c.ix tt)<;>rw[hg]at hx<;>simp at hx
    rw[hx]
   cases k with
   |fz=>
    obtain⟨y,h1,h2⟩:=hk;simp only[eval,hget,ZgH]at h1;subst h1;exact h2.mono λb hb=>hF b (GH.ext_nil hb)
   |own ty=>
    obtain⟨y,h1,h2⟩:=hk;simp only[eval,hget,ZgH]at h1;subst h1;exact h2.rd hF λb hb=>hbl0 0 b hb
   |nil=>
    have hv0:v=.slice none 0 0:=hk;subst hv0;have:=hnil tt hS;rw[hget]at this;simp only[SV.v.injEq]at this;subst this;exact .nil _ _ (ZhO _)
   |mem l=>simp_all
   |clo f l=>simp_all
 |cell p ty=>
  simp only[rkOf,Lp]at hx⊢;simp only[qU]at hok;cases hS:S.at p with
  |none=>simp_all
  |some k=>
   cases k with
   |mem l=>
    rw[hS]at hok;simp only[ZgM,ZgT,ZjI,ne_eq]at hok;obtain⟨⟨hT,hdead⟩,hlen⟩:=hok;obtain⟨v,hv,hk⟩:=hrel.at_ p (by simp_all[Zk,Zb]) (by rw[Zk,hS];rfl);rw[Zk,hS]at hk;obtain⟨b,vs,T,h1,rfl,h3,h4⟩:=hk;have hvd:a.tmps.getD p undef=.pointer (some ⟨b,0,none⟩):=by simp[ZgN,hv]
    rw[hvd];have hsz:vs.size=l.length:=by have:=h4.1;simp_all
    have hcell:∀i,i<l.length->∃y,eval s (.m (c.ix p) i)=some y/\y.one=true/\Rd w D y (vs.getD i undef):=by
     intro i hi;have:=h4.2 i (l[i],.m (c.ix p) i) (by simp[hi]);exact this.rd (hdead l[i] (ZgZ hi)) hF λty _ b hb=>hbl0 i b hb
    obtain⟨d,info,hd,hinf,hs,hagg⟩:=WP hT;cases hag:Zq c.P ty with
    |true=>
     rw[hag]at hlen hx;simp only[Zhp,Zhq]at hlen;simp only[Zhp,JP]at hx;split at hx
     ·rename_i cs hget;split at hx
      ·rename_i hle;simp only[ZgH]at hx;subst hx
       have hl:=run_loadCells_list (P:=c.P) w ⟨b,0,none⟩ vs.toList (λj u hj=>by
        rw[ZiI,Zhy,Zh3 w b j vs T (0,0) h3];grind)
       simp only[ZiR]at hl;refine⟨.agg vs,?_,?_⟩
       ·simp_all[asAddr,Zhf,Zj2,Zhd,loadVar,YI]
       ·have hone:∀(i:Nat) (y:V),(cs.take (c.P.cellsOf ty))[i]?=some y->y.one=true/\Rd w D y (vs.getD i undef):=by
         intro i y hi;rw[Zhm]at hi;split at hi
         ·rename_i hlt;obtain⟨z,hz,hz1,hz2⟩:=hcell i (by omega);simp only[eval,hget,hi,ZgS]at hz;obtain⟨rfl,_⟩:=X5 hz;simp_all
         ·cases hi
        exact .agg _ vs (by simp_all) (λy hy=>by
         grind [List.getElem?_of_mem]) λi y hi=>(hone i y hi).2
      ·cases hx
     ·cases hx
    |false=>
     rw[hag]at hlen hx;simp only[ZgU,Zhr,Zh1]at hlen;simp only[ZgU,Zhr,JP]at hx;split at hx
     ·rename_i y0 r hget;simp only[ZgH]at hx;subst hx;obtain⟨z,hz,hz1,hz2⟩:=hcell 0 hlen;simp only[eval,hget,Zis,ZgS]at hz;obtain⟨rfl,_⟩:=X5 hz;refine⟨vs.getD 0 undef,?_,hz2⟩
      have hc:w.cell? ⟨b,0,none⟩=some (vs.getD 0 undef):=by
       rw[Zh3 w b 0 vs T (0,0) h3];have:0<vs.size:=by omega
       simp_all
      simp_all[asAddr,Zhf,Zj2,Zhd,loadVar]
     ·cases hx
   |_=>simp_all
theorem Z2u(hrel:RelG c B G s a w h (Y0 c S))(hnil:Kg c s S){D:Nat->Prop}(hF:∀b,h.F b->D b):∀ {l:List ResultVar},(∀r∈l,qU c.P S r=true/\∀i b,h.bl (U5 r) (i+1)=some b->D b)->∀ {xs:List V},Sa s (l.map (rkOf c.P c.ix))=some xs->
  ∃vs:List Value,(l.mapM (Lp a.tmps)).run c.P w=.ok vs w/\vs.length=xs.length/\
   ∀(i:Nat) (x:V),xs[i]?=some x->∃v,vs[i]?=some v/\Rd w D x v
 | [],_,xs,hx=>by
   simp only[ZiL,Sa,ZgH]at hx;subst hx;exact⟨[],by simp,rfl,λi x hi=>by simp at hi⟩
 |r::l,hok,xs,hx=>by
  simp only[Zha,Sa,ZgI,ZgK]at hx;obtain⟨y,hy,ys,hys,rfl⟩:=hx;obtain⟨v,hv,hvr⟩:=Z6u hrel hnil hF (hok r (by simp)).2 (hok r (by simp)).1 hy;obtain⟨vs,hvs,hl,hat⟩:=Z2u hrel hnil hF (λq hq=>hok q (by simp[hq])) hys;refine⟨v::vs,?_,by simp[hl],λi x hi=> ?_⟩
  ·simp_all
  ·cases i with
   |zero=>simp at hi;subst hi;exact⟨v,rfl,hvr⟩
   |succ i=>simpa using hat i x (by grind)
theorem WT(hrel:RelG c B G s a w h (Y0 c S))(hnil:Kg c s S){D:Nat->Prop}(hF:∀b,h.F b->D b){f:Func}(hok':∀r∈f.results.toList,qU c.P S r=true/\∀i b,h.bl (U5 r) (i+1)=some b->D b){x:V}(hx:resV s (Z6t c.P c.ix f)=some x):
  ∃v,(results f a.tmps).run c.P w=.ok v w/\Rd w D x v:=by
 have hrun:∀vs:List Value,(f.results.toList.mapM (Lp a.tmps)).run c.P w=.ok vs w->
   (results f a.tmps).run c.P w=.ok (if h:vs.toArray.size=1 then vs.toArray[0]else .tuple vs.toArray) w:=by
  intro vs hvs
  have hf:results f a.tmps=(do let vs<-f.results.mapM (Lp a.tmps);pure (if h:vs.size=1 then vs[0]else Value.tuple vs)):=by
   unfold results;refine ZhV (λg:ResultVar->Sem Value=>(do let vs<-f.results.mapM g;pure (if h:vs.size=1 then vs[0]else Value.tuple vs))) ?_;funext r;cases r<;>rfl
  rw[hf,Zi7];simp only[Zhf,Zji];rw[hvs];simp
 rw[Z2t]at hx;generalize hl:f.results.toList=l at hx hok' hrun
 match l,hx with
 | [r],hx=>
   simp only[Zha,ZiL,resV]at hx;obtain⟨v,hv,hvr⟩:=Z6u hrel hnil hF (hok' r (by simp)).2 (hok' r (by simp)).1 hx;refine⟨v,?_,hvr⟩;have:=hrun [v] (by simp only[ZiV,ZjG,Zhf];rw[hv];simp);simpa using this
 | [],hx=>
   simp only[ZiL,resV,Sa,ZgY,ZgH]at hx;subst hx;have:=hrun [] (by simp);exact⟨_,by simpa using this,.tup _ _ rfl λi c hi=>by simp at hi⟩
 |r::r'::l,hx=>
  simp only[Zha,resV]at hx;simp only[ZgK]at hx;obtain⟨xs,hxs,rfl⟩:=hx;obtain⟨vs,hvs,hlen,hat⟩:=Z2u hrel hnil hF hok' (xs:=xs) (by simpa only[Zha]using hxs)
  have hxl:xs.length=l.length+2:=by
   simp only[Sa,ZgI,ZgK]at hxs;obtain⟨y,_,ys,⟨y',_,ys',h3,rfl⟩,rfl⟩:=hxs
   have:∀ {l:List (Nat×RK)} {xs:List V},Sa s l=some xs->xs.length=l.length:=by
    intro l
    induction l with
    |nil=>intro xs h;simp only[Sa,ZgH]at h;subst h;rfl
    |cons a l ih=>
     intro xs h;simp only[Sa,ZgI,ZgK]at h;obtain⟨_,_,ys,h2,rfl⟩:=h;simp[ih h2]
   have:=this h3;simp at this;simp[this]
  have hr2:=hrun vs hvs;have hne:¬vs.toArray.size=1:=by simp;omega
  rw[dif_neg hne]at hr2;refine⟨_,hr2,.tup _ _ (by simp[hlen]) λi x hi=> ?_⟩;obtain⟨v,hv,hvr⟩:=hat i x hi;have:vs.toArray.getD i undef=v:=by simp[ZgN,hv]
  rw[this];exact hvr
end
def argS(k:OT)(x:V):SV:=
 match k,x with
 |.mem _,.agg cs=>.m cs
 |_,x=>.v x
def Kh:List OT->List V->St
 |k::ks,x::xs=>argS k x::Kh ks xs
 |_,_=>[]
theorem yf:∀ {ks:List OT} {xs:List V} {i:Nat} {k:OT} {x:V},ks[i]?=some k->xs[i]?=some x->get (Kh ks xs) i=argS k x
 | [],_,_,_,_,hk,_=>by simp at hk
 |_::_,[],_,_,_,_,hx=>by simp at hx
 |k::ks,x::xs,0,k',x',hk,hx=>by simp at hk hx;subst hk hx;rfl
 |k::ks,x::xs,i+1,k',x',hk,hx=>by
  have:=yf (ks:=ks) (xs:=xs) (i:=i) (by simpa using hk) (by simpa using hx);simpa[Kh,get]using this
def finV(s:St)(i:Nat)(k:OT):Option V:=
 match k with
 |.fz=>some (.bool false)
 | .own _=>match get s i with
   |.v x=>some x
   |_=>none
 | .mem l=>match get s i with
   |.m cs=>if cs.length=l.length then some (.agg cs)else none
   |_=>none
 |_=>none
def J2(s:St):Nat->List OT->Option (List V)
 |_,[]=>some []
 |i,k::ks=>(finV s i k).bind λx=>(J2 s (i+1) ks).map (x:: ·)
theorem KY:∀ {ks:List OT} {i:Nat} {s:St} {ys:List V},J2 s i ks=some ys->ys.length=ks.length/\∀(j:Nat) (k:OT) (y:V),ks[j]?=some k->ys[j]?=some y->finV s (i+j) k=some y
 | [],i,s,ys,hf=>by
   simp only[J2,ZgH]at hf;subst hf;exact⟨rfl,λj k y hk=>by simp at hk⟩
 |k::ks,i,s,ys,hf=>by
  simp only[J2,ZgI,ZgK]at hf;obtain⟨y,hy,ys',hys,rfl⟩:=hf;obtain⟨h1,h2⟩:=KY hys;refine⟨by simp[h1],λj k' y' hk hy'=> ?_⟩;cases j with
  |zero=>simp at hk hy';subst hk hy';exact hy
  |succ j=>
   have:=h2 j k' y' (by simpa using hk) (by simpa using hy');rw[show i+(j+1)=i+1+j by omega];exact this
theorem y7(ks:List OT)(t:Nat):SS.at (ks.zipIdx.map λx=>(x.2,x.1)) t=ks[t]? :=by
 have:∀(ks:List OT) (n t:Nat),SS.at ((ks.zipIdx n).map λx=>(x.2,x.1)) t=if n<=t then ks[t-n]? else none:=by
  intro ks
  induction ks with
  |nil=>simp_all[SS.at]
  |cons k ks ih=>
   intro n t;simp only[Zkm,Zha,SS.at,ih]
   grind
 have:=this ks 0 t;simp_all
def nz:Option OT->Option OT
 |some .fz=>none
 |x=>x
theorem Z3I(ks:List OT)(t:Nat):(Vk ks).at t=nz ks[t]? :=by
 have:∀(ks:List OT) (n t:Nat),SS.at ((ks.zipIdx n).filterMap λx=>match x.1 with|.fz=>none|k=>some (x.2,k)) t=if n<=t then nz ks[t-n]? else none:=by
  intro ks
  induction ks with
  |nil=>intro n t;simp[SS.at,nz]
  |cons k ks ih=>
   intro n t
   have hrest:n≠t->(if n+1<=t then nz ks[t- (n+1)]? else none)=if n<=t then nz (k::ks)[t-n]? else none:=by
    intro h1;by_cases h2:n<=t
    ·have h3:n+1<=t:=by omega
     rw[if_pos h2,if_pos h3,show t-n=(t- (n+1))+1 by omega];simp
    ·have h3:¬n+1<=t:=by omega
     rw[if_neg h2,if_neg h3]
   simp only[Zkm,Zim];by_cases h1:n=t
   ·subst h1;have h3:¬n+1<=n:=by omega
    cases k<;>simp[SS.at,ih,nz,h3]
   ·rw[<-hrest h1];cases k<;>simp only[SS.at,ih,if_neg h1]
 have h:=this ks 0 t;simp only[ZhO,Zhp,Nat.sub_zero]at h;exact h
theorem Z1Y{P:Program} [Lg P]{f:FuncId}{fn:Func}{cf:Fn}{fresh:FuncId->Bool}{sig:FuncId->Option (List OT)}{ks:List OT}{fin:SS} [hfit:FitF P f](hf:P.funcs[f]?=some fn)(hm:P.follows .mixedOrders=true)(hc:Zj P fresh sig ks fin fn=some cf)
  {xs:List V} {Rt:St->Prop} (hw:wpS P cf.body (Kh ks xs) Rt (λ_ _=>False) Rt) {B:Nat} {w:World} {h:GH} {vs:Array Value} (hok:Ok B h.F w h) (hA:RelA P B w h ks xs vs) {Q:Ending->World->Prop}
  (hQ:∀(c:Ctx) (s:St) (S:SS) (a:Act) (w':World) (h':GH),c.P=P->(∀t,t<ks.length->c.ix t=t)->(∀t∈cf.keep,c.ix t=pos cf.keep t)->cf.res=Z6t P c.ix fn->Rt s->RelG c B h.F s a w' h' (Y0 c S)->Kg c s S->h'.K=h.K->Frm h.K (λt=>t∈Z0f ks) vs B w a w'->qS P fn fin S=true->
   ∃v,(results fn a.tmps).run P w'=.ok v w'/\Q (.returned v) w'):Lg.calls P f vs w Q:=by
 unfold Zj at hc;simp only[ZgI]at hc;obtain⟨code,hb,⟨st,fl⟩,hcomp,hc⟩:=hc;split at hc
 ·rename_i hcond;simp only[Zd1,ZgM]at hcond;obtain⟨⟨⟨hn1,hr1⟩,hx1⟩,hix⟩:=hcond;simp only[ZgH]at hc;subst hc;simp only at hw;generalize hkeep:Z4O [] ((List.range ks.length)++Yw (λops=>Z2k ops++Z19 ops ops.toList []) code)=keep at*;generalize hmore:Z4O [] ((Yw Z28 code).filter λt=> !keep.contains t)=more at*
  have hixt:∀t,t<ks.length->pos (keep++more) t=t:=λt ht=>by
   have:=ZgT.1 hix t (ZiN.2 ht);simp_all
  refine Lg.calls_of_wp hf hb ?_;have hinj:∀p∈keep,∀q∈keep,pos (keep++more) p=pos (keep++more) q->p=q:=λp hp q hq he=>Z16 (Zir _ hp) (Zir _ hq) he;obtain⟨hxl,hvl,hAi⟩:=hA
  have hfl:∀t,t∈Z0f ks->t<vs.size:=by
   intro t ht;simp only[Z0f,Vk,ZgX,Zjq]at ht;obtain⟨y,⟨x,hx,hy⟩,rfl⟩:=ht;have hlt:=(List.mem_zipIdx hx).2.1;have:y.2=y.2:=rfl
   have hy1:y.1=x.2:=by
    split at hy
    ·cases hy
    ·grind
   rw[hy1,hvl];omega
  have hrel:RelS h.K (Z0f ks) vs {P,ix:=pos (keep++more),own:=λ_=>false,fresh,sig,tr:=trOf fn,n:=fn.ntmps} B h.F w (vs++Array.replicate (fn.ntmps-vs.size) undef).size (Kh ks xs)
    {tmps:=vs++Array.replicate (fn.ntmps-vs.size) undef,defers:=[]} w (ks.zipIdx.map λx=>(x.2,x.1)):=by
   refine⟨⟨h,⟨hok,λt _ hk=> ?_,λt hh=> ?_⟩,rfl⟩,λp hp=> ?_,⟨.refl _ _,.refl _ _,λt ht=> ?_⟩,rfl,rfl⟩
   ·rw[Zk]at hk⊢;rw[y7]at hk⊢;by_cases ht:t<ks.length
    ·rw[ZgJ ht]at hk⊢;have hlt:t<xs.length:=by omega
     obtain⟨tk,harg,hrel⟩:=hAi t ks[t] xs[t] (ZgJ ht) (ZgJ hlt);refine⟨vs.getD t undef,?_,?_⟩
     ·simp only;rw[ZiB (by omega)];simp[ZgN,show t<vs.size by omega]
     ·have hg:get (Kh ks xs) (pos (keep++more) t)=argS ks[t] xs[t]:=by rw[hixt t ht];exact yf (ZgJ ht) (ZgJ hlt)
      generalize ks[t]=k at harg hg;generalize xs[t]=x at harg hg;cases k with
      |fz=>
       simp only[argK,ZgH]at harg;subst harg;obtain⟨y,h1,h2⟩:=hrel;simp only[eval,ZgH]at h1;subst h1;exact⟨x,by grind [eval,argS],h2⟩
      |own ty=>
       simp only[argK,ZgH]at harg;subst harg;obtain⟨y,h1,h2⟩:=hrel;simp only[eval,ZgH]at h1;subst h1;exact⟨x,by grind [eval,argS],h2⟩
      |mem l=>
       cases x<;>simp only[argK]at harg<;>first|(cases harg;done)|skip
       rename_i cs;split at harg
       ·rename_i hlen;simp only[ZgH]at harg;subst harg;obtain⟨b,us,T,e1,e2,e3,e4,e5⟩:=hrel;refine⟨b,us,T,e1,e2,e3,by simp_all,λi ck hi=> ?_⟩;simp only[Zh2,ZiP,ZgK,Zhy]at hi;obtain⟨y,⟨k2,hk2,rfl⟩,rfl⟩:=hi;have hlt:i<cs.length:=by rw[hlen];exact(ZgL.1 hk2).1
        have hc:=e5 i (k2,.c cs[i]) (by grind);refine hc.eval λy h1 hy=> ?_;simp only[eval,ZgH]at hy;subst hy;simp only[eval,hg,argS,ZgJ hlt,ZgS,oneV,h1,Zhp]
       grind
      |nil=>grind [argK]
      |clo f l=>grind [argK]
    ·rw[Zi1 (by omega)]at hk;cases hk
   ·exact absurd (by rw[Zk];rw[y7];split<;>exact Y4 _) hh
   ·rw[y7]at hp;have hlt:p<xs.length:=by have:=(ZgL.1 hp).1;omega
    obtain⟨tk,harg,_⟩:=hAi p .nil xs[p] hp (ZgJ hlt)
    grind [argK]
   ·grind
  refine Lg.wp_mono (Sy (c:= {P,ix:=pos (keep++more),own:=λ_=>false,fresh,sig,tr:=trOf fn,n:=fn.ntmps}) (fc:= {P,ix:=pos (keep++more),fresh,sig,tr:=trOf fn,fix:=Z0f ks,n:=fn.ntmps,keep}) hm hinj rfl rfl rfl (by simp;omega) code (hfit.all fn code hf hb) hcomp hrel hw) λe a' w' hp=> ?_
  have fin':∀ {s:St} {S:SS},qS P fn fin S=true->Rt s->RelS h.K (Z0f ks) vs {P,ix:=pos (keep++more),own:=λ_=>false,fresh,sig,tr:=trOf fn,n:=fn.ntmps} B h.F w (vs++Array.replicate (fn.ntmps-vs.size) undef).size s a' w' S->
    a'.defers=[]/\∀w1,Lg.sim P w' w1->∃v,(results fn a'.tmps).run P w1=.ok v w1/\Q (.returned v) w1:=by
   intro s S h1 h2 h3;refine⟨h3.2.2.2.2,λw1 hw1=> ?_⟩;rw[Lg.sim_eq hw1];replace h3:=h3.sim w1.drawn;obtain⟨⟨h',h3,h4⟩,h5,h6,h7,h8⟩:=h3;exact hQ _ s S a' _ h' rfl hixt (λt ht=>Lo ht) rfl h2 h3 h5 h4 h6 h1
  cases e with
  |normal=>
   obtain⟨s,S,h1,h2,h3⟩:=hp;rw[h1]at hn1;exact fin' hn1 h2 h3
  |ret=>
   obtain⟨s,S,h1,h2,h3⟩:=hp;exact fin' (ZgT.1 hr1 S h1) h2 h3
  |exit id=>obtain⟨s,S,h1,h2,_⟩:=hp;grind
  |_=>exact hp.elim
 ·cases hc
theorem WY{P:Program} [Lg P]{f:FuncId}{fn:Func}{cf:Fn}{fresh:FuncId->Bool}{sig:FuncId->Option (List OT)}{ks:List OT} [FitF P f](hf:P.funcs[f]?=some fn)(hm:P.follows .mixedOrders=true)(hname:YE P f=true)(hc:Zj P fresh sig ks (Vk ks) fn=some cf)(hap:Z2s fn (Vk ks)=true)
  {xs:List V} {R:V} (hw:wpS P cf.body (Kh ks xs) (λs=>∃r,resV s cf.res=some r/\∃ys,J2 s 0 ks=some ys/\R=Z3H r (Xu ks ys)) (λ_ _=>False) (λs=>∃r,resV s cf.res=some r/\∃ys,J2 s 0 ks=some ys/\R=Z3H r (Xu ks ys))):VCM P f ks xs R:=by
 refine⟨hname,λB w h vs hok hA=>Z1Y hf hm hc hw hok hA λc s S a w' h' hP hix _ hres ⟨r,hr,ys,hys,hR⟩ hrel hnil hK hfrm hfin=> ?_⟩;subst hP;simp only[qS,ZgM,ZgT]at hfin;obtain⟨hfin1,hle⟩:=hfin;obtain⟨hrel2,hnil2⟩:=Ts hrel hnil hle;rw[hres]at hr
 obtain⟨v,hv,hvr⟩:=WT (D:=(h'.drop (Tb S (Vk ks))).F) hrel hnil (λb hb=>.inl hb) (λq hq=>by
  have h1:=hfin1 q hq;have h2:=ZgT.1 hap q hq;refine⟨h1,λi b hb=>.inr ⟨U5 q,i+1,?_,by omega,hb⟩⟩;simp_all[Tb,Zka,U5]) hr
 obtain⟨hyl,hyat⟩:=KY hys;refine⟨v,hv,v,r,ys,h'.drop (Tb S (Vk ks)),rfl,hfrm.below,hfrm.same,hrel2.ok,hK,hvr,⟨hyl,λi k y hk hkz hy=> ?_⟩,hR⟩;have hlt:i<ks.length:=(ZgL.1 hk).1
 have hpk:(Vk ks).at i=some k:=by
  rw[Z3I,hk];cases k<;>first|rfl|simp_all
 obtain⟨u,hu,hru⟩:=hrel2.at_ i (by simp_all[Zk,Zb]) (by rw[Zk,hpk];cases k<;>rfl);rw[Zk,hpk]at hru
 have huv:vs.getD i undef=u:=by
  have h1:=hfrm.fix i (ZgX.2 ⟨(i,k),Uf hpk,rfl⟩);rw[hu]at h1;simp[ZgN,<-h1]
 rw[huv];have hf:=hyat i k y hk hy;rw[Zhy]at hf;cases k with
 |fz=>simp_all
 |own ty=>
  simp only[finV]at hf;split at hf
  ·rename_i x hg;simp only[ZgH]at hf;subst hf;obtain⟨z,h1,h2⟩:=hru;simp only[eval,hix i hlt,hg,ZgH]at h1;subst h1;exact⟨_,rfl,x,rfl,h2⟩
  ·cases hf
 |mem l=>
  simp only[finV]at hf;split at hf
  ·rename_i cs hg;split at hf
   ·rename_i hlen;simp only[ZgH]at hf;subst hf;obtain⟨b,us,T,e1,e2,e3,e4,e5⟩:=hru;refine⟨.mem ((l.zip cs).map λy=>(y.1,.c y.2)),by simp_all[argK,Zhp],b,us,T,e1,e2,e3,by simp_all,λj ck hj=> ?_⟩;simp only[Zh2,ZgK]at hj;obtain⟨⟨kk,x⟩,hj,rfl⟩:=hj;rw[Zk9]at hj;obtain⟨hj1,hj2⟩:=hj;simp only at hj1 hj2;have hc:=e5 j (kk,.m (c.ix i) j) (by simp[hj1])
    have hev:∀ {z:V},eval s (.m (c.ix i) j)=some z->z=x:=λhz=>by
     simp only[eval,hix i hlt,hg,hj2,ZgS]at hz;obtain⟨rfl,_⟩:=X5 hz;rfl
    show RelC c.P B [] w' _ _ kk (.c x) (us.getD j undef);cases kk with
    |fz=>obtain⟨z,q1,q2,q3⟩:=hc;have:=hev q1;subst this;exact⟨_,rfl,q2,q3⟩
    |own ty=>obtain⟨z,q1,q2⟩:=hc;have:=hev q1;subst this;exact⟨_,rfl,q2⟩
    |nil=>obtain⟨q1,q2⟩:=hc;have:=hev q2;subst this;exact⟨q1,rfl⟩
    |dead=>exact hc
   ·cases hf
  ·cases hf
 |nil=>simp[finV]at hf
 |clo f l=>simp[finV]at hf
theorem LE:∀(xs:List V),Kh (xs.map λ_=>OT.fz) xs=xs.map .v
 | []=>rfl
 |x::xs=>by simp_all[Zha,Kh,argS,LE]
theorem Z9{P:Program} [Lg P]{f:FuncId}{fn:Func}{cf:Fn}{fresh:FuncId->Bool}{sig:FuncId->Option (List OT)}{ks:List OT}{fin:SS} [FitF P f](hf:P.funcs[f]?=some fn)(hm:P.follows .mixedOrders=true)(hname:YE P f=true)(hc:Zj P fresh sig ks fin fn=some cf)
  {args:List V} {r:V} (hks:ks=args.map λ_=>.fz)
  (hw:wpS P cf.body (args.map .v) (λs=>resV s cf.res=some r) (λ_ _=>False) (λs=>resV s cf.res=some r)):VC P f false args r:=by
 refine⟨hname,λw G vs hG hvs hrd=> ?_⟩;subst hks;have hok:Ok w.heap.size G w {F:=G,bl:=λ_ _=>none,K:=λ_=>False}:=⟨ZgP _,hG,λb hb=>.inl hb,λb hb=>hb,λt i b hb=>(by cases hb),λt i u j b hb=>(by cases hb),λb hb=>hb.elim,λt i b hb=>(by cases hb),λb hb=>.inl hb⟩;refine Z1Y (h:= {F:=G,bl:=λ_ _=>none,K:=λ_=>False}) (B:=w.heap.size) (Rt:=λs=>resV s cf.res=some r) hf hm hc (by rw[LE];exact hw) hok ⟨by simp,by simp_all,λi k x hk hx=> ?_⟩ λc s S a w' h' hP hix _ hres hr hrel hnil hK hfrm hfin=> ?_
 ·simp only[Zh2,ZgK]at hk;obtain⟨y,_,rfl⟩:=hk;exact⟨_,rfl,x,rfl,(hrd i x hx).mono λb hb=>.inl hb⟩
 ·subst hP;simp only[qS,ZgM,ZgT]at hfin;rw[hres]at hr
  obtain⟨v,hv,hvr⟩:=WT (D:=λb=>G b\/(w.heap.size<=b/\b<w'.heap.size)) hrel hnil (λb hb=>by
   rcases hrel.ok.f_or b hb with h1|h1
   ·grind
   ·exact .inr ⟨h1,hrel.ok.f_lt b hb⟩) (λq hq=>⟨hfin.1 q hq,λi b hb=>.inr ⟨(hrel.ok.b_lt _ _ b hb).1,(hrel.ok.b_lt _ _ b hb).2.1⟩⟩) hr
  refine⟨v,hv,v,rfl,hfrm.below,hvr.mono λb hb=> ?_⟩;simp_all
theorem OwnV.rd_flat{P:Program}{B:Nat}{w:World}{h:GH}{o:Option Nat}{ty:TypeId}{l:List V}{v:Value}(hv:OwnV P B w h o ty (.sl l) v)(hfl:∀c∈flat l,c.flatc=true){G':Nat->Prop}(ho:∀b,o=some b->G' b):Rd w G' (.sl l) v:=by
 rcases hv with ⟨l',xs,hl,h0,hfit,hown,hb,hrd⟩|⟨_,_,_,_,_,_,hl,_⟩
 case inr=>cases hl
 cases hl;obtain⟨hlen,hc⟩:=hown;rcases hc with ⟨rfl,hn⟩|⟨b,cap,cur,rfl,_,hh,hle,hcap,hsz,htk⟩
 ·have:l=[]:=Zhz hn;subst this;exact .nil _ _ (ZhO _)
 ·simp only[Value.ownBlock]at hb;refine .sl l b 0 cap (P.cellsOf ty) (λi=>cur.getD i undef) hle hcap (ho b hb.symm) hfit (λi hi=> ?_) λi c hi=> ?_
  ·rw[Zhy,Zh3 w b i cur ty (0,0) hh];have:i<cur.size:=by rw[hsz];exact ZgV hi (Zhh _ hle)
   simp_all
  ·obtain⟨u,hu,hr⟩:=hrd i c hi
   have hu':cur.getD i undef=u:=by
    rw[<-htk,Zhm]at hu;split at hu
    ·simp_all
    ·simp at hu
   rw[hu'];exact hr.flat (hfl c (ZgQ hi))
theorem Z8J{P:Program} [Lg P]{f:FuncId}{fn:Func}{cf:Fn}{fresh:FuncId->Bool}{sig:FuncId->Option (List OT)}{ks:List OT}{t:Nat}{ty:TypeId} [FitF P f](hf:P.funcs[f]?=some fn)(hm:P.follows .mixedOrders=true)(hname:YE P f=true)(hres1:fn.results=#[.tmp t])(hc:Zj P fresh sig ks [(t,.own ty)] fn=some cf)
  {args:List V} {l:List V} (hks:ks=args.map λ_=>.fz) (hfl:∀c∈flat l,c.flatc=true)
  (hw:wpS P cf.body (args.map .v) (λs=>resV s cf.res=some (.sl l)) (λ_ _=>False) (λs=>resV s cf.res=some (.sl l))):VC P f true args (.sl l):=by
 refine⟨hname,λw G vs hG hvs hrd=> ?_⟩;subst hks;have hok:Ok w.heap.size G w {F:=G,bl:=λ_ _=>none,K:=λ_=>False}:=⟨ZgP _,hG,λb hb=>.inl hb,λb hb=>hb,λt i b hb=>(by cases hb),λt i u j b hb=>(by cases hb),λb hb=>hb.elim,λt i b hb=>(by cases hb),λb hb=>.inl hb⟩;refine Z1Y (h:= {F:=G,bl:=λ_ _=>none,K:=λ_=>False}) (B:=w.heap.size) (Rt:=λs=>resV s cf.res=some (.sl l)) hf hm hc (by rw[LE];exact hw) hok ⟨by simp,by simp_all,λi k x hk hx=> ?_⟩ λc s S a w' h' hP hix _ hres hr hrel hnil hK hfrm hfin=> ?_
 ·simp only[Zh2,ZgK]at hk;obtain⟨y,_,rfl⟩:=hk;exact⟨_,rfl,x,rfl,(hrd i x hx).mono λb hb=>.inl hb⟩
 ·subst hP;simp only[qS,ZgM,ZgT]at hfin;obtain⟨hrel2,hnil2⟩:=Ts hrel hnil hfin.2
  have hat:(Y0 c [(t,OT.own ty)]).at t=([],.own ty (.s (c.ix t))):=by
   rw[Zk];simp[SS.at,KU]
  obtain⟨u,hu,hk⟩:=hrel2.at_ t (by simp_all[Zb]) (by rw[hat];rfl);rw[hat]at hk;obtain⟨X,hX,hown⟩:=hk;rw[hres,Z2t,hres1]at hr;simp only[Zha,ZiL,rkOf,resV,JP]at hr
  have hXl:X=.sl l:=by
   simp only[eval]at hX;cases hg:get s (c.ix t)<;>rw[hg]at hX hr<;>simp at hX hr
   rw[<-hX,hr]
  subst hXl
  have hrd':Rd w' (λb=>(true=false/\G b)\/(w.heap.size<=b/\b<w'.heap.size)) (.sl l) u:=by
   refine OwnV.rd_flat hown hfl λb hb=>.inr ?_;obtain⟨q1,q2,_⟩:=hrel2.ok.b_lt t 1 b hb;exact⟨q1,q2⟩
  refine⟨u,?_,u,rfl,hfrm.below,hrd'⟩;simp_all[results_tmp,ZgN]
end Vm
end
section
namespace Vm
open Go Go.Conc
section
def bes(P:Program):Program:=P
section
variable {P:Program}{Stop:Frame->List Frame->World->Prop}{b:Frame}{k:List Item}{cs:List Frame}{a:Act}{w:World}
theorem Rp(fn:Func)(tmps:Array Value):Calm (results fn tmps):=by
 unfold results;refine .bind (Zc (λr=> ?_) _) λ_=>.pure _;cases r with
 |tmp t=>exact .pure _
 |cell a t=>exact .bind (QK _) λ_=>Ro _ _
theorem Z1s{c:Code}:stepG P true (G (b.at a (.code (.scope c)::k)) cs) w=.go (G (b.at a (.code c:: .inScope c::k)) cs) w:=by simp[G,stepG,stepG.exec,Frame.at]
theorem zW{c:Code}:stepG P true (G (b.at a (.inScope c::k)) cs) w=.go (G (b.at a k) cs) w:=by simp[G,stepG,stepG.exec,Frame.at]
theorem Z4c:stepG P true (G (b.at a (.code .ret::k)) cs) w=.go (G {b.at a (.code .ret::k)with mode:=.returning} cs) w:=by simp[G,stepG,stepG.exec,Frame.at]
def Leaves(P:Program)(fr:Frame)(w:World)(R:Value->World->Prop):Prop:=
 fr.mode=.returning/\fr.defers=[]/\fr.kind=.normal/\∃fn,P.funcs[fr.fn]?=some fn/\∀d,∃v,(results fn fr.tmps).run P (w.at d)=.ok v (w.at d)/\R v (w.at d)
theorem jz{fr c:Frame}{fn:Func}{v:Value}(h1:fr.mode=.returning)(h2:fr.defers=[])(h3:fr.kind=.normal)(h4:P.funcs[fr.fn]?=some fn)(h5:(results fn fr.tmps).run P w=.ok v w):
  stepG P true (G fr (c::cs)) w=.go (G (c.finish v) cs) w (seen P fr.fn ((results fn fr.tmps).events P w #[])):=by
 simp[G,stepG,unwind,doReturn,h1,h2,h3,h4,h5,GStep.after]
theorem Leaves.walk{fr c:Frame}{R:Value->World->Prop}(h:Leaves P fr w R)(hk:∀v w,R v w->Walk P Stop (c.finish v) cs w):Walk P Stop fr (c::cs) w:=by
 obtain⟨h1,h2,h3,fn,h4,h5⟩:=h;refine .one λd=> ?_;obtain⟨v,hv,hr⟩:=h5 d;refine⟨_,_,_,_,jz h1 h2 h3 h4 hv,ZgP _,λe he=> ?_,hk v _ hr⟩;have:=XJ (P:=P) (Rp fn fr.tmps) (w.at d) e (mem_seen he);rw[hv]at this;exact this
def AfterB(P:Program)(Stop:Frame->List Frame->World->Prop)(b:Frame)(k:List Item)(cs:List Frame):Exit->Act->World->Prop
 |.normal,a,w=>Walk P Stop (b.at a k) cs w
 |.exit id,a,w=>∃k',exitTo id k=some k'/\Walk P Stop (b.at a k') cs w
 |.ret,a,w=>∀todo,Walk P Stop {b.at a todo with mode:=.returning} cs w
 |_,_,_=>False
theorem AfterB.push{x:Item}{e:Exit}(hx:x.plain=true)(he:e≠.normal)(h:AfterB P Stop b k cs e a w):AfterB P Stop b (x::k) cs e a w:=by
 cases e with
 |normal=>exact absurd rfl he
 |exit id=>obtain⟨k',hk,hg⟩:=h;exact⟨k',by cases x<;>simp_all [exitTo,Item.plain],hg⟩
 |ret=>exact h
 |goto l=>exact h
 |panic ch=>exact h
 |outgrown=>exact h
def wpB(P:Program)(c:Code)(Q:Exit->Act->World->Prop)(a:Act)(w:World):Prop:=
 ∀(b:Frame) (k:List Item) (cs:List Frame) (Stop:Frame->List Frame->World->Prop),b.kind≠.early->(∀e a' w',Q e a' w'->AfterB P Stop b k cs e a' w')->Walk P Stop (b.at a (.code c::k)) cs w
def ZdN(P:Program)(ops:Array Oper)(Q:Exit->Act->World->Prop)(l:List Nat)(a:Act)(w:World):Prop:=
 ∀(b:Frame) (k:List Item) (cs:List Frame) (Stop:Frame->List Frame->World->Prop),b.kind≠.early->(∀e a' w',Q e a' w'->AfterB P Stop b k cs e a' w')->Walk P Stop (b.at a (.inRegion ops l::k)) cs w
def Z4F(P:Program)(f:FuncId)(args:Array Value)(w:World)(R:Ending->World->Prop):Prop:=
 ∀(cs:List Frame) (Stop:Frame->List Frame->World->Prop),(∀fr w',fr.fn=f->Leaves P fr w' (λv w=>R (.returned v) w)->Walk P Stop fr cs w')->Walk P Stop (Frame.enter P f args .normal) cs w
variable {Q:Exit->Act->World->Prop}
theorem ZaY{x y:Code}(h:wpB P x (Exit.then (wpB P y Q) Q) a w):wpB P (.seq x y) Q a w:=by
 intro b k cs Stop hb hc;refine .go (λw=>stepG_seq) (h b (.code y::k) cs Stop hb λe a' w' q=> ?_);cases e with
 |normal=>exact q b k cs Stop hb hc
 |exit id=>exact(hc _ _ _ q).push rfl (by simp)
 |ret=>exact(hc _ _ _ q).push (x:=.code y) rfl (by simp)
 |goto l=>exact hc _ _ _ q
 |panic ch=>exact hc _ _ _ q
 |outgrown=>exact hc _ _ _ q
theorem Z75{x:Code}(h:wpB P x (Exit.noGoto Q) a w):wpB P (.scope x) Q a w:=by
 intro b k cs Stop hb hc;refine .go (λw=>Z1s) (h b (.inScope x::k) cs Stop hb λe a' w' q=> ?_);cases e with
 |normal=>exact .go (λw=>zW) (hc _ _ _ q)
 |exit id=>obtain⟨k',hk,hg⟩:=hc _ _ _ q;exact⟨k',by simp[exitTo,hk],hg⟩
 |ret=>exact hc _ _ _ q
 |goto l=>exact q.elim
 |panic ch=>exact hc _ _ _ q
 |outgrown=>exact hc _ _ _ q
theorem Z74{id:Nat}{c:Code}(h:wpB P c (Exit.inBlock id Q) a w):wpB P (.block id c) Q a w:=by
 intro b k cs Stop hb hc;refine .go (λw=>stepG_block) (h b (.inBlock id::k) cs Stop hb λe a' w' q=> ?_);cases e with
 |normal=>exact .go (λw=>stepG_inBlock) (hc _ _ _ q)
 |exit id'=>
  by_cases hid:id'=id
  ·simp only[Exit.inBlock,hid,Zhp]at q;exact⟨k,by simp[exitTo,hid],hc _ _ _ q⟩
  ·simp only[Exit.inBlock,hid,Zhr]at q;obtain⟨k',hk',hg⟩:=hc _ _ _ q;have:(id==id')=false:=by simp;exactλh=>hid h.symm
   exact⟨k',by simp[exitTo,this,hk'],hg⟩
 |ret=>exact hc _ _ _ q
 |goto l=>exact hc _ _ _ q
 |panic ch=>exact hc _ _ _ q
 |outgrown=>exact hc _ _ _ q
theorem Z8N{c:Code}(I:Act->World->Prop)(μ:Act->World->Nat)(h₀:I a w)
  (round:∀a w,I a w->wpB P c (Exit.then (λa' w'=>I a' w'/\μ a' w'<μ a w) Q) a w):wpB P (.loop c) Q a w:=by
 intro b k cs Stop hb hc
 have key:∀n a w,μ a w=n->I a w->Walk P Stop (b.at a (.code c:: .inLoop c::k)) cs w:=by
  intro n
  induction n using Nat.strongRecOn with
  |_ n ih=>
   intro a w hn hI;refine round a w hI b (.inLoop c::k) cs Stop hb λe a' w' q=> ?_;cases e with
   |normal=>exact .go (λw=>stepG_inLoop) (ih (μ a' w') (hn▸q.2) a' w' rfl q.1)
   |exit id=>exact(hc _ _ _ q).push rfl (by simp)
   |ret=>exact(hc _ _ _ q).push (x:=.inLoop c) rfl (by simp)
   |goto l=>exact hc _ _ _ q
   |panic ch=>exact hc _ _ _ q
   |outgrown=>exact hc _ _ _ q
 exact .go (λw=>stepG_loop) (key _ a w rfl h₀)
theorem Walk.op{ops:Array Oper}{i:Nat}{rest:List Nat}{o:Oper}(ho:ops[i]?=some o)(hw:Region.wanted o (yielded ops a.tmps)=true)(hk:b.kind≠.early)(hf:∀o∈ops,Z31 P o.op=true)
  (h:∀d,match(execOp a.eval o).run P (w.at d)with
   |.ok (.value v) w'=>Walk P Stop (b.at (a.put o.dst v) (.inRegion ops rest::k)) cs w'
   |.ok .skip w'=>Walk P Stop (b.at (a.put o.dst undef) (.inRegion ops rest::k)) cs w'
   |.ok (.enter f args) w'=>Walk P Stop (Frame.enter P f args .normal) (b.at a (.inRegion ops (i::rest)::k)::cs) w'
   |_=>False):Walk P Stop (b.at a (.inRegion ops (i::rest)::k)) cs w:=by
 refine .one λd=> ?_;have h:=h d;have hge:=(Ls P (execOp a.eval o) (w.at d)).1;have hev:EvsB (wdR ((execOp a.eval o).run P (w.at d))).heap.size (listed P b.fn a o (w.at d)):=λe he=>Z1U (hf o (Zio ho)) a (w.at d) e (mem_listed he)
 revert h
 cases hr:(execOp a.eval o).run P (w.at d)with
 |halt x w'=>exact False.elim
 |ok n w'=>
  rw[hr]at hge hev;cases n<;>first|exact False.elim|skip
  ·exactλh=>⟨_,_,_,_,stepG_value ho hw hk hr,hge,hev,h⟩
  ·exactλh=>⟨_,_,_,_,stepG_none ho hw hk hr,hge,hev,h⟩
  ·exactλh=>⟨_,_,_,_,stepG_enter ho hw hk hr,hge,hev,h⟩
theorem Z4b{ops:Array Oper}{i:Nat}{rest:List Nat}(ho:ops[i]?=none):stepG P true (G (b.at a (.inRegion ops (i::rest)::k)) cs) w=.go (G (b.at a (.inRegion ops rest::k)) cs) w #[]:=by
 have hfin:(b.at a (.inRegion ops (i::rest)::k)).finish undef=b.at a (.inRegion ops rest::k):=by rw[Zj1,ho];rfl
 rw[<-hfin];simp[G,stepG,stepG.exec,Frame.at,ho]
end
instance besI (P:Program):Lg (bes P) where
 wp c Q a w:=wpB P c Q a w
 calls f args w R:=Z4F P f args w R
 todo ops Q l a w:=ZdN P ops Q l a w
 sim w w1:=∃d,w1=w.at d
 fit o:=Z31 P o.op=true
 sim_eq h:=by obtain⟨d,rfl⟩:=h;rfl
 calls_mono h k:=λcs Stop hs=>h cs Stop λfr w' h1 h2=>hs fr w' h1 (by
  obtain⟨q1,q2,q3,fn,q4,q5⟩:=h2;exact⟨q1,q2,q3,fn,q4,λd=>by obtain⟨v,r1,r2⟩:=q5 d;exact⟨v,r1,k _ _ r2⟩⟩)
 wp_mono h k:=λb kk cs Stop hb hc=>h b kk cs Stop hb λe a w q=>hc e a w (k e a w q)
 wp_skip h:=λb k cs Stop hb hc=>.go (λw=>stepG_skip) (hc _ _ _ h)
 wp_label h:=λb k cs Stop hb hc=>.go (λw=>stepG_label) (hc _ _ _ h)
 wp_exit h:=λb k cs Stop hb hc=>by
  obtain⟨k',hk',hg⟩:=hc _ _ _ h;exact .go (λw=>stepG_exit hk') hg
 wp_ret h:=λb k cs Stop hb hc=>.go (λw=>Z4c) (hc _ _ _ h _)
 wp_seq h:=ZaY h
 wp_scope h:=Z75 h
 wp_cond_true hc h:=λb k cs Stop hb hq=>.go (λw=>stepG_cond hc) (h b k cs Stop hb hq)
 wp_cond_false hc h:=λb k cs Stop hb hq=>.go (λw=>stepG_cond hc) (h b k cs Stop hb hq)
 wp_block h:=Z74 h
 wp_loop I μ h k:=Z8N I μ h k
 wp_region _ h:=λb k cs Stop hb hc=>.go (λw=>stepG_region) (h b k cs Stop hb hc)
 wp_draw {id ops Q a w} _ h:=λb k cs Stop hb hc=>.one λd=>⟨_,_,_,_,stepG_region_draw,ZgP _,λe he=>by simp at he,h (w.at d) ⟨d,rfl⟩ _ b k cs Stop hb hc⟩
 todo_nil h:=λb k cs Stop hb hc=>.go (λw=>stepG_region_end) (hc _ _ _ h)
 todo_cons {ops Q i rest a w} hf h:=λb k cs Stop hb hc=>by
  cases ho:ops[i]? with
  |none=>
   have h:=h w ⟨w.drawn,rfl⟩;rw[ho]at h;exact .go (λw=>Z4b ho) (h b k cs Stop hb hc)
  |some o=>
   rw[ho]at h;dsimp only at h;by_cases hw:Region.wanted o (yielded ops a.tmps)=true
   ·refine .op ho hw hb hf λd=> ?_;have h:=h (w.at d) ⟨d,rfl⟩;rw[if_pos hw]at h
    revert h
    show Z4f (Z4F P) o a (ZdN P ops Q rest) ((execOp a.eval o).run P (w.at d))->_;cases(execOp a.eval o).run P (w.at d)with
    |halt x w'=>exact id
    |ok n w'=>
     cases n<;>first|exact id|exactλh=>h b k cs Stop hb hc|skip
     refineλh=>h _ Stop λfr w2 h1 hL=>hL.walk λv w3 hr=> ?_;obtain⟨v',e,hr⟩:=hr;cases e;rw[Zj1,ho];exact hr b k cs Stop hb hc
   ·have h:=h w ⟨w.drawn,rfl⟩;rw[if_neg hw]at h;exact .go (λw=>stepG_unwanted ho (by simpa using hw)) (h b k cs Stop hb hc)
 calls_of_wp {f fn c args w R} hf hb h:=λcs Stop hs=>by
  have hf:P.funcs[f]?=some fn:=hf;rw[enter_at args hf hb];refine h (base f) [] cs Stop (by simp[base]) λe a' w' q=> ?_;cases e with
  |normal=>exact .go (λw=>stepG_end) (hs _ _ rfl ⟨rfl,q.1,rfl,fn,hf,λd=>q.2 (w'.at d) ⟨d,rfl⟩⟩)
  |ret=>exactλtodo=>hs _ _ rfl ⟨rfl,q.1,rfl,fn,hf,λd=>q.2 (w'.at d) ⟨d,rfl⟩⟩
  |_=>exact q.elim
end
end Vm
end
section
namespace Vm
open Go Go.Conc
open Go.RowKit (Below)
inductive NoM:V->Prop where
 |int (k:IntKind) (n:Int):NoM (.int k n)
 |bool (b:Bool):NoM (.bool b)
 |str (s:ByteArray):NoM (.str s)
 |fn (f:FuncId):NoM (.fn f)
 |nul (k:Nat):NoM (.nul k)
 |sl (l:List V):(∀c∈flat l,NoM c)->NoM (.sl l)
 |agg (l:List V):(∀c∈l,NoM c)->NoM (.agg l)
 |tup (l:List V):(∀c∈l,NoM c)->NoM (.tup l)
 |ptr (l:List V):(∀c∈l,NoM c)->NoM (.ptr l)
 |clo (f:FuncId) (l:List V):(∀c∈l,NoM c)->NoM (.clo f l)
def FixV.mono{n m:Nat}{v:Value}(h:FixV n v)(hm:n<=m):FixV m v:=λρ hρ=>h ρ λb hb=>hρ b (ZgV hb hm)
def TJ{l:List Value}(h:∀v∈l,∃n,FixV n v):∃n,∀v∈l,FixV n v:=by
 induction l with
 |nil=>exact⟨0,by simp⟩
 |cons v l ih=>
  obtain⟨n,hn⟩:=h v (by simp);obtain⟨m,hm⟩:=ih λx hx=>h x (by simp[hx])
  exact⟨max n m,λx hx=>by
   rcases Zh0.1 hx with rfl|hx
   ·exact hn.mono (Zj6 ..)
   ·exact(hm x hx).mono (ZjE ..)⟩
def VP{n:Nat}{a:Array Value}(h:∀v∈a,FixV n v):∀ρ,idB n ρ->a.map (ren ρ)=a:=λρ hρ=>Vj λx hx=>h x hx ρ hρ
def KZ:∀v:Value,∃n,FixV n v
 |.bool b=>⟨0,λρ _=>Yu ..⟩
 |.int k n=>⟨0,λρ _=>ZT ..⟩
 |.float k b=>⟨0,λρ _=>X9 ..⟩
 |.complex k a b=>⟨0,λρ _=>zO ..⟩
 |.string s=>⟨0,λρ _=>Vq ..⟩
 |.pointer none=>⟨0,λρ _=>Xz ..⟩
 |.pointer (some a)=>⟨a.block+1,λρ h=>by rw[Yf];simp[renA,h a.block (ZiT _)]⟩
 |.slice none n c=>⟨0,λρ _=>by simp[ren]⟩
 |.slice (some a) n c=>⟨a.block+1,λρ h=>by simp[ren,renA,h a.block (ZiT _)]⟩
 |.map none=>⟨0,λρ _=>by simp[ren]⟩
 |.map (some r)=>⟨r+1,λρ h=>by simp[ren,h r (ZiT _)]⟩
 |.chan none=>⟨0,λρ _=>by simp[ren]⟩
 |.chan (some r)=>⟨r+1,λρ h=>by simp[ren,h r (ZiT _)]⟩
 |.nilIface=>⟨0,λρ _=>by simp[ren]⟩
 |.nilFunc=>⟨0,λρ _=>by simp[ren]⟩
 | .iface t v=>by
   obtain⟨n,hn⟩:=KZ v;exact⟨n,λρ h=>by simp only[ren];rw[hn ρ h]⟩
 | .func fn a b=>by
   obtain⟨n,hn⟩:=TJ (l:=a.toList) λv hv=>KZ v;obtain⟨m,hm⟩:=TJ (l:=b.toList) λv hv=>KZ v;refine⟨max (max n m) (match fn with|.yield l=>l+1|_=>0),λρ h=> ?_⟩;simp only[ren]
   rw[VP (n:=max n m) (a:=a) (λv hv=>(hn v (by simpa using hv)).mono (Zj6 ..)) ρ λb hb=>h b (ZgV hb (Zj6 ..)),
    VP (n:=max n m) (a:=b) (λv hv=>(hm v (by simpa using hv)).mono (ZjE ..)) ρ λb hb=>h b (ZgV hb (Zj6 ..))]
   cases fn with
   |yield l=>simp only[WS];rw[h l (ZgV (ZiT l) (ZjE ..))]
   |_=>rfl
 | .agg cs=>by
   obtain⟨n,hn⟩:=TJ (l:=cs.toList) λv hv=>KZ v;exact⟨n,λρ h=>by rw[Ye,VP (λv hv=>hn v (by simpa using hv)) ρ h]⟩
 | .tuple cs=>by
   obtain⟨n,hn⟩:=TJ (l:=cs.toList) λv hv=>KZ v;exact⟨n,λρ h=>by rw[XA,VP (λv hv=>hn v (by simpa using hv)) ρ h]⟩
termination_by v=>sizeOf v
decreasing_by
 all_goals simp_wf
 all_goals first|(have:=Array.sizeOf_lt_of_mem (show _∈_ from(by simpa using hv));omega)|omega
def Z8X:Option Obj->Array Value
 |some (.cells c _ _)=>c
 |_=> #[]
def yP(w:World)(vs:Array Value):∃n,w.heap.size<=n/\(∀v∈vs,FixV n v)/\∀(b:Nat) (c:Array Value) (e:TypeId) (fr:Nat×Nat),w.heap[b]?=some (.cells c e fr)->FixO n (.cells c e fr):=by
 obtain⟨n,hn⟩:=TJ (l:=vs.toList++(w.heap.toList.flatMap λo=>(Z8X (some o)).toList)) λv _=>KZ v;refine⟨max n w.heap.size,ZjE ..,λv hv=>(hn v (by simp[hv])).mono (Zj6 ..),λb c e fr hb ρ hρ=> ?_⟩;simp only[renO];rw[VP (n:=max n w.heap.size) (a:=c) (λv hv=>(hn v ?_).mono (Zj6 ..)) ρ hρ];refine ZkC _ (Zij.2 ⟨.cells c e fr,?_,by simpa[Z8X]using hv⟩);have:=Zio hb;simpa using this
def TW{X:Cx}{w:World}{t:Nat->Question->Nat}{b o:Nat}{v:Value}(hO:¬X.O b)(hG:∀c e fr,w.heap[b]?=some (.cells c e fr)->X.G b)(hn:w.heap.size<=X.n0)(h:w.cell? ⟨b,o,none⟩=some v):(X.mask w t).cell? ⟨b,o,none⟩=some v:=by
 obtain⟨_,c,e,fr,h1,h2⟩:=WH h;have hlt:=(ZgO.1 h1).1
 have:(X.mask w t).heap[b]?=some (.cells c e (0,c.size)):=by
  rw[zn,if_pos (ZgV hlt hn),h1];unfold Cx.maskO;dsimp only;rw[if_neg hO,if_pos (hG c e fr h1)]
 unfold World.cell?;simp only[this];exact h2
def TL{l:List V}{i:Nat}{c:V}(h:(flat l)[i]?=some c):c∈flat l:=ZgQ h
def Z6p{X:Cx}{w:World}{t:Nat->Question->Nat}{G:Nat->Prop}(hO:∀b,¬X.O b)(hG:∀b c e fr,G b->w.heap[b]?=some (.cells c e fr)->X.G b)(hn:w.heap.size<=X.n0){x:V}{v:Value}(h:Rd w G x v)(hm:NoM x):Rd (X.mask w t) G x v:=by
 induction h with
 |int k n=>exact .int k n
 |bool b=>exact .bool b
 |str s=>exact .str s
 |nil a cap h=>exact .nil a cap h
 |sl l b o cap k vs h1 h2 hb hf hc _ ih=>
  cases hm with
  |sl _ hm=>exact .sl l b o cap k vs h1 h2 hb hf (λi hi=>TW (hO b) (λc e fr=>hG b c e fr hb) hn (hc i hi)) λi c hi=>ih i c hi (hm c (TL hi))
 |agg cs vs h1 h2 _ ih=>
  cases hm with
  |agg _ hm=>exact .agg cs vs h1 h2 λi c hi=>ih i c hi (hm c (ZgQ hi))
 |tup l vs h1 _ ih=>
  cases hm with
  |tup _ hm=>exact .tup l vs h1 λi c hi=>ih i c hi (hm c (ZgQ hi))
 |ptr cs b o vs hb h1 hc _ ih=>
  cases hm with
  |ptr _ hm=>exact .ptr cs b o vs hb h1 (λi hi=>TW (hO b) (λc e fr=>hG b c e fr hb) hn (hc i hi)) λi c hi=>ih i c hi (hm c (ZgQ hi))
 |fn f=>exact .fn f
 |clo f cs vs h1 _ ih=>
  cases hm with
  |clo _ _ hm=>exact .clo f cs vs h1 λi c hi=>ih i c hi (hm c (ZgQ hi))
 |nul0=>exact .nul0
 |nul1=>exact .nul1
 |nomp=>cases hm
 |mp=>cases hm
def Z9l{X:Cx}{wl w:World}(hw:X.WR wl w){D:Nat->Prop}{x:V}{v:Value}(h:Rd wl D x v)(hm:NoM x):Rd w (λb'=>∃b,D b/\b'=X.ρ b) x (ren X.ρ v):=by
 induction h with
 |int k n=>rw[ZT];exact .int k n
 |bool b=>rw[Yu];exact .bool b
 |str s=>rw[Vq];exact .str s
 |nil a cap h=>
  have:ren X.ρ (.slice a 0 cap)=.slice (a.map (renA X.ρ)) 0 cap:=by cases a<;>simp[ren]
  rw[this];exact .nil _ cap h
 |sl l b o cap k vs h1 h2 hb hf hc _ ih=>
  cases hm with
  |sl _ hm=>
   have:ren X.ρ (.slice (some ⟨b,o,none⟩) l.length cap)=.slice (some ⟨X.ρ b,o,none⟩) l.length cap:=by simp[ren,renA]
   rw[this];exact .sl l (X.ρ b) o cap k (λi=>ren X.ρ (vs i)) h1 h2 ⟨b,hb,rfl⟩ hf (λi hi=>(hw.cell (hc i hi)).1) λi c hi=>ih i c hi (hm c (TL hi))
 |agg cs vs h1 h2 _ ih=>
  cases hm with
  |agg _ hm=>
   rw[Ye];exact .agg cs _ (by simpa using h1) h2 λi c hi=>by rw[Vd];exact ih i c hi (hm c (ZgQ hi))
 |tup l vs h1 _ ih=>
  cases hm with
  |tup _ hm=>
   rw[XA];exact .tup l _ (by simpa using h1) λi c hi=>by rw[Vd];exact ih i c hi (hm c (ZgQ hi))
 |ptr cs b o vs hb h1 hc _ ih=>
  cases hm with
  |ptr _ hm=>
   rw[Yf];exact .ptr cs (X.ρ b) o (λi=>ren X.ρ (vs i)) ⟨b,hb,rfl⟩ h1 (λi hi=>(hw.cell (hc i hi)).1) λi c hi=>ih i c hi (hm c (ZgQ hi))
 |fn f=>
  have:ren X.ρ (.func (.func f) #[] #[])=.func (.func f) #[] #[]:=by simp[ren,WS]
  rw[this];exact .fn f
 |clo f cs vs h1 _ ih=>
  cases hm with
  |clo _ _ hm=>
   have:ren X.ρ (.func (.func f) #[] vs)=.func (.func f) #[] (vs.map (ren X.ρ)):=by simp[ren,WS]
   rw[this];exact .clo f cs _ (by simpa using h1) λi c hi=>by rw[Vd];exact ih i c hi (hm c (ZgQ hi))
 |nul0=>rw[Xz];exact .nul0
 |nul1=>rw[Vp];exact .nul1
 |nomp=>cases hm
 |mp=>cases hm
inductive Look {α:Type}:Sem α->Prop where
 |pure (a:α):Look (.pure a)
 |halt (h:Halt):Look (.halt h)
 |load {m:Mode} {a:Addr} {k:Value->Sem α}:(∀v,Look (k v))->Look (.load m a k)
 |prog {k:Program->Sem α}:(∀p,Look (k p))->Look (.program k)
def Look.world{α:Type}{p:Program}{s:Sem α}(h:Look s)(w:World):wdR (s.run p w)=w:=by
 induction h with
 |pure a=>rfl
 |halt h=>rfl
 |load _ ih=>
  unfold Sem.run;split
  ·exact ih _
  ·split
   ·exact ih _
   ·rfl
 |prog _ ih=>exact ih _
def Look.bind{α β:Type}{s:Sem α}{f:α->Sem β}(h:Look s)(hf:∀a,Look (f a)):Look (s>>=f):=by
 show Look (s.bind f)
 induction h with
 |pure a=>exact hf a
 |halt h=>exact .halt h
 |load _ ih=>exact .load ih
 |prog _ ih=>exact .prog ih
def qx{α β:Type}{f:α->Sem β}(hf:∀a,Look (f a)):∀l:List α,Look (l.mapM f)
 | []=>by simp only[ZjG];exact .pure _
 |a::l=>by
  simp only[ZiV];exact(hf a).bind λb=>(qx hf l).bind λbs=>.pure _
def SR{α:Type}(s:String):Look (stuck s:Sem α):=.halt _
def qy:Look program:=.prog λp=>.pure p
def Z5I(t:TypeId):Look (typeInfo t):=qy.bind λp=>by split<;>first|exact .pure _|exact SR _
def Z3G(t:TypeId):Look (underlying t):=qy.bind λp=>by split<;>first|exact .pure _|exact SR _
def Z5K(t:TypeId):Look (sizeOf t):=(Z5I t).bind λi=>.pure _
def Z7Q(t:TypeId):Look (isAgg t):=(Z3G t).bind λd=>by cases d<;>exact .pure _
def qw(a:Addr):∀(n i:Nat) (acc:Array Value),Look (loadCellsFrom a i n acc)
 |0,_,_=>.pure _
 |n+1,i,acc=>.load λv=>qw a n _ _
def Z7R(t:TypeId)(a:Addr):Look (loadVar t a):=(Z7Q t).bind λb=>by
 cases b with
 |true=>exact(Z5K t).bind λn=>(qw a n 0 #[]).bind λc=>.pure _
 |false=>exact .load λv=>.pure v
def RC(fn:Func)(tmps:Array Value):Look (results fn tmps):=by
 unfold results;rw[Zi7];refine Look.bind (s:=Functor.map _ _) ?_ λ_=>.pure _;rw[Zji];refine(qx (λr=> ?_) _).bind λ_=>.pure _;cases r with
 |tmp t=>exact .pure _
 |cell a t=>
  refine Look.bind ?_ λa=>Z7R _ _;unfold asAddr;split
  ·exact .pure _
  ·exact .prog λp=>.halt _
  ·exact SR _
def Z6m{P:Program}{c:Nat}{K:Nat->Prop}{StopP:(Nat->Prop)->Goroutine->World->Prop}{Stop:Frame->List Frame->World->Prop}{es:List Ev}{O:Nat->Prop}{g:Goroutine}{w:World}(h:Play P true c K StopP es O g w):
  es=[]->∀(fr:Frame) (cs:List Frame) (w0:World),g=G fr cs->(w0.os,w0.output)=(w.os,w.output)->w0.tape=w.tape->w0.heap.size<=w.heap.size->(∀b,b<w0.heap.size->w.heap[b]?=w0.heap[b]?)->(∀b,O b->w0.heap.size<=b/\b<w.heap.size)->(∀b,K b->b<w0.heap.size)->
  (∀O fr' cs' w',StopP O (G fr' cs') w'->(w0.os,w0.output)=(w'.os,w'.output)->w0.tape=w'.tape->w0.heap.size<=w'.heap.size->(∀b,b<w0.heap.size->w'.heap[b]?=w0.heap[b]?)->(∀b,O b->w0.heap.size<=b/\b<w'.heap.size)->Walk P Stop fr' cs' w')->Walk P Stop fr cs w:=by
 induction h with
 | @stop O g w hs=>
   intro _ fr cs w0 hg h1 h2 h3 h4 h5 _ hk;subst hg;exact hk O fr cs w (hs w (.refl _ _ _)) h1 h2 h3 h4 h5
 |ev=>intro he;cases he
 | @step es O fr0 cs0 w h1 _ ih=>
   intro he fr cs w0 hg e1 e2 e3 e4 e5 e6 hk;injection hg with q1 q2;subst q1 q2;refine .one λd=> ?_;have hr:Rely K O w (w.at d):=Rely.at _ _ _ d;obtain⟨fr',cs',w',es',k1,k2⟩:=h1 (w.at d) hr;have hsz:w.heap.size<=w'.heap.size:=k2.sz
   have ho:∀b,grow O (w.at d) w' b->w0.heap.size<=b/\b<w'.heap.size:=λb hb=>by
    rcases hb with hb|hb
    ·have:=e5 b hb;omega
    ·have:w.heap.size<=b:=hb.1;have:=hb.2;omega
   refine⟨fr',cs',w',es',k1,hsz,λe he=> ?_,ih (w.at d) _ w' es' hr k1 he fr' cs' w0 rfl (e1.trans k2.os.symm) (e2.trans k2.tape.symm) (by omega) (λb hb=> ?_) ho e6 hk⟩
   ·have:=k2.evs e he;unfold EvC at this;unfold EvB EvC;split<;>simp only[*]at this
    ·rcases this with h|h
     ·exact .inl (ho _ h).2
     ·have:=e6 _ h.2;exact .inl (by omega)
    ·exact(ho _ this).2
    ·exact this
    ·trivial
   ·have:=k2.keep b (by show b<w.heap.size;omega) λhb'=>by have:=(e5 b hb').1;omega
    rw[this];exact e4 b hb
structure Sub (P Q:Program):Prop where
 same:P= {Q with funcs:=P.funcs,globals:=P.globals}
 glob:Q.globals=#[]
 zero:∀t i z,Q.info? t=some i->i.zero=some z->FixV 0 z
 fn:∀(f:FuncId) (fn:Func),Q.funcs[f]?=some fn->(fn.name= "?" /\fn.origin= "?" /\fn.body=none)\/((fn.name== "runtime.NumGoroutine")=false/\P.funcs[f]?=some fn/\∃c,fn.body=some c/\ZO Q false c=true)
def cxS(P Q:Program)(n0:Nat)(G O:Nat->Prop):Cx:=
 {Q,fs:=P.funcs,gs:=P.globals,ρ:=id,n0,G,O
  KL:=λl=>ZO Q true l.assign=true/\ZO Q true l.body=true/\l.pending.all L9=true/\((∃fn c,Q.funcs[l.fn]?=some fn/\P.funcs[l.fn]?=some fn/\fn.body=some c/\ZO Q false c=true)\/(Q.funcs[l.fn]?=none/\P.funcs[l.fn]?=none)\/∃fn fn',Q.funcs[l.fn]?=some fn/\P.funcs[l.fn]?=some fn'/\fn'.results=fn.results)
  KD:=λd=>okD d=true}
def Sub.ok{P Q:Program}(h:Sub P Q)(n0:Nat)(G O:Nat->Prop)(ρ:Nat->Nat):((cxS P Q n0 G O).at ρ).Ok:=
 ⟨λt i z h1 h2=>h.zero t i z h1 h2 ρ λb hb=>by omega,h.glob,λl=>ZiC,λd=>ZiC,h.fn⟩
def Sub.P{P Q:Program}(h:Sub P Q)(n0:Nat)(G O:Nat->Prop):(cxS P Q n0 G O).P=P:=h.same.symm
def Z1Q{P Q:Program}(hs:Sub P Q){f:FuncId}{fn:Func}(hq:Q.funcs[f]?=some fn)(hb:fn.body≠none)(vs:Array Value)(n0:Nat)(G O:Nat->Prop)(ρ:Nat->Nat):
  P.funcs[f]?=some fn/\Frame.enter Q f vs .normal=Frame.enter P f vs .normal/\((cxS P Q n0 G O).at ρ).St (Frame.enter P f vs .normal) []:=by
 rcases hs.fn f fn hq with ⟨_,_,h⟩|⟨h1,h2,c,h3,h4⟩
 ·exact absurd h hb
 ·refine⟨h2,by simp[Frame.enter,hq,h2],⟨⟨λi hi=> ?_,λd hd=> ?_,?_,?_⟩,λc hc=>by simp at hc,?_⟩⟩
  ·simp[Frame.enter,h2,h3]at hi;subst hi;have:(Frame.enter P f vs .normal).roundOf.isSome=false:=by simp[Frame.enter,h2,h3,Frame.roundOf]
   rw[this];exact h4
  ·simp[Frame.enter,h2,h3]at hd
  ·left;simp[Frame.enter,h2,h3]
  ·left;exact⟨fn,c,hq,h2,h3,h4⟩
  ·simp[bot,Frame.enter,h2,h3]
def Z4S{P:Program}{f:FuncId}{vs:Array Value}{n:Nat}(h:∀v∈vs,FixV n v):FixF n (Frame.enter P f vs .normal):=by
 intro ρ hρ
 have e1:(vs++Array.replicate (((P.funcs[f]?).map (·.ntmps)).getD 0-vs.size) undef).map (ren ρ)=vs++Array.replicate (((P.funcs[f]?).map (·.ntmps)).getD 0-vs.size) undef:=by
  rw[ZiD,VP h ρ hρ];simp[Xb]
 simp only[Frame.enter,renF,e1];simp[renI,renM]
def Zbj{X:Cx}{wl w:World}(h:X.WR wl w)(d:Nat):X.WR wl (w.at d):=⟨h.os,h.nl,h.low,h.inj,h.blk⟩
def Z5B{P Q:Program}(hs:Sub P Q){f:FuncId}{fr:Bool}{args:List V}{r:V}(hv:VC Q f fr args r)(ha:∀x∈args,NoM x)(hr:NoM r):VC (bes P) f fr args r:=by
 obtain⟨hc,hv⟩:=hv
 obtain⟨fn,hq,hb,hname⟩:∃fn,Q.funcs[f]?=some fn/\fn.body≠none/\(fn.name== "runtime.NumGoroutine")=false:=by
  unfold YE at hc;split at hc
  ·rename_i fn hf;simp only[ZgM,ZhD]at hc;exact⟨fn,hf,by cases h:fn.body<;>simp_all,hc.1⟩
  ·cases hc
 have hpf:=(Z1Q hs hq hb #[] 0 (λ_=>False) (λ_=>False) id).1;refine⟨?_,λw G vs hG hsz hrd cs Stop hk=> ?_⟩
 ·show YE P f=true;unfold YE;rw[hpf];simp only[ZgM,ZhD];exact⟨hname,by cases h:fn.body<;>simp_all⟩
 obtain⟨n0,hn0,hfv,hfo⟩:=yP w vs
 let X:Cx:=cxS P Q n0 (λb=>G b/\∃c e fr,w.heap[b]?=some (.cells c e fr)) (λ_=>False)
 have hXP:∀ρ,(X.at ρ).P=P:=λρ=>hs.same.symm;have hmz:∀t,(X.mask w t).heap.size=n0:=λt=>by simp[Cx.mask,X,cxS]
 have hen:=λρ=>Z1Q hs hq hb vs n0 (λb=>G b/\∃c e fr,w.heap[b]?=some (.cells c e fr)) (λ_=>False) ρ
 have hw:=ZaW X (hs.ok n0 _ _) (c:=0) (es:=[]) (fr:=Frame.enter P f vs .normal) (cs:=[]) (ds:=cs) (main:=true) (wc:=w) (by simp) (λρ=>(hen ρ).2.2)
  (λg hg=>by
   rw[ZhJ.1 hg];exact Z4S hfv)
  (λb o ho hO=>by
   rcases hO with hO|⟨_,c,e,fr,he⟩
   ·exact hO.elim
   ·rw[ho]at he;cases he;exact hfo b c e fr ho)
  (Post:=λwl fr' cs' wl'=>cs'=[]/\fr'.fn=f/\∃v,fr'.leaving Q wl' (.returned v)/\Rd wl' (λb=>(fr=false/\G b)\/(wl.heap.size<=b/\b<wl'.heap.size)) r v)
  (λt=>by
   obtain⟨e,w',fr',⟨v,rfl,_,hrd'⟩,⟨n,hn⟩,hfn,hl⟩:=hv (X.mask w t) G vs (λb hb=>by rw[hmz];exact ZgV (hG b hb) hn0) hsz
    (λi x hx=>Z6p (X:=X) (λb h=>h) (λb c e fr hg hc=>⟨hg,c,e,fr,hc⟩) hn0 (hrd i x hx) (ha x (ZgQ hx))) [capF Q]
   rw[(hen id).2.1]at hn;exact⟨n,fr',[],w',hn,rfl,hfn,v,hl,hrd'⟩)
 have hw:Play P true 0 X.G _ [] X.O (Conc.G (Frame.enter P f vs .normal) ([]++cs)) w:=(hXP id)▸hw;refine Z6m hw rfl _ cs w rfl rfl rfl (ZgP _) (λ_ _=>rfl) (λb hb=>hb.elim) (λb hb=>hG b hb.1) λO fr' cs' w' hst e1 e2 e3 e4 e5=> ?_;obtain⟨ρ,t,fr2,cs2,wl',fc,cc,hg,hid,⟨rfl,hfn,v,⟨h1,h2,h3,fn',h4,h5⟩,hrd'⟩,hwv⟩:=hst;injection hg with q1 q2;subst q1 q2;have htop:fr'=renF ρ fr2:=hwv.top;have hund:cs'=cs:=hwv.under;subst hund;have hff:fr'.fn=f:=by rw[htop];exact hfn
 have hfn':fn'=fn:=by rw[hfn,hq]at h4;exact(Zig h4).symm
 subst hfn';refine hk fr' w' hff ⟨by rw[htop];show renM ρ fr2.mode=_;rw[h1];rfl,by rw[htop];show fr2.defers.map _=_;rw[h2];rfl,by rw[htop];exact h3,fn',by rw[hff];exact hpf,λd=> ?_⟩;have hwr:(X.at ρ).WR wl' (w'.at d):=Zbj hwv.wr d;have hlook:=RC fn' (fr2.tmps.map (ren ρ));have hwd:wdR ((results fn' (fr2.tmps.map (ren ρ))).run P (w'.at d))=w'.at d:=hlook.world _
 have htold:=(T8 (X:=X.at ρ) (V:=[]) fn' fr2.tmps).run wl' (w'.at d) #[] hwr (λr hr=>by simp at hr)
  (λj hj=>by
   rw[hXP ρ]at hj;have e:(wdR ((results fn' (fr2.tmps.map (ren (X.at ρ).ρ))).run P (w'.at d))).drawn=(w'.at d).drawn:=ZhV World.drawn hwd;omega)
  (λj hj=>by
   rw[hXP ρ]at hj;have e:(wdR ((results fn' (fr2.tmps.map (ren (X.at ρ).ρ))).run P (w'.at d))).heap.size=(w'.at d).heap.size:=ZhV (λw=>w.heap.size) hwd;omega)
 have h5':(results fn' fr2.tmps).run (X.at ρ).Q wl'=.ok v wl':=h5;rw[h5',hXP ρ]at htold;obtain⟨b,wc',es',he,hb',haf⟩:=htold
 have hrun:(results fn' (fr2.tmps.map (ren ρ))).run P (w'.at d)=.ok b wc':=by
  have:=ZhV Prod.fst he;rw[Zip]at this;exact this
 have hwc:wc'=w'.at d:=by
  have:=hwd;rw[hrun]at this;exact this
 subst hwc;have hb'':b=ren ρ v:=hb';refine⟨b,by rw[htop];exact hrun,b,rfl,⟨(ZhV Prod.fst e1).symm,e2.symm,(ZhV Prod.snd e1).symm,e3,e4⟩,?_⟩;rw[hb''];refine(Z9l hwr hrd' hr).mono λb' hb1=> ?_;obtain⟨x,hx,rfl⟩:=hb1;rcases hx with ⟨q1,q2⟩|⟨q1,q2⟩
 ·left;have:(X.at ρ).ρ x=x:=hid x (ZgV (hG x q2) hn0);rw[this];exact⟨q1,q2⟩
 ·right;rw[hmz]at q1;have:=e5 _ (hwv.own x (.inl q1) q2);exact this
end Vm
end
section
namespace Vm
open Go Go.Conc Go.ConcN
def RL{P:Program}:∀(k:Nat) {g:Goroutine},QuitsIn P k g->g.LeavesIn P k
 |0,g,h=>h
 |k+1,g,h=>by
  rcases h with h|⟨h1,g',h2,h3⟩
  ·exact .inl h
  ·exact .inr ⟨g',⟨h1, #[],λe he=>by simp at he,h2⟩,RL k h3⟩
def ja{P:Program}(w:World):∀(k:Nat) {g:Goroutine},QuitsIn P k g->g.endsWith P w k 0=some 0
 |0,g,h=>by
  have h:g.status=.finished:=h;unfold Goroutine.endsWith;rw[h]
 |k+1,g,h=>by
  unfold Goroutine.endsWith;rcases h with h|⟨h1,g',h2,h3⟩
  ·rw[h]
  ·rw[h1,h2 w];exact ja w k h3
def TBt.over{sz:Nat}{t:Trace}(h:TBt sz t):t.HandedOver:=by
 intro i g hg hne hc;obtain⟨x,hx,hm,_⟩:=hc;obtain⟨op,hop,hox⟩:=touch_of hx;obtain⟨j,y,hy,hy0,hb⟩:=h.known i op x hop hox hm;have hg0:t.g? j=some 0:=by simp[Trace.g?,hy,hy0]
 refine⟨j,hg0,?_⟩;rcases hb with rfl|hb
 ·rw[hg]at hg0;exact absurd (Zig hg0) hne
 ·exact hb
def Z4a{P:Program}{fr:Frame}{w:World}{fn:Func}{v:Value}(h1:fr.mode=.returning)(h2:fr.defers=[])(h3:fr.kind=.normal)(h4:P.funcs[fr.fn]?=some fn)(h5:(results fn fr.tmps).run P w=.ok v w)(hi:P.inits.idxOf? fr.fn=none):
  stepG P true (G fr []) w=.ended (.done v) w (seen P fr.fn ((results fn fr.tmps).events P w #[])):=by
 simp[G,stepG,unwind,doReturn,h1,h2,h3,h4,h5,hi,GStep.after]
def EndsW(P:Program)(Post:Value->World->Prop)(gs:Array Goroutine)(w:World)(sl:Option (Nat×Nat))(t:Trace):Prop:=
 ∃N last tl o w' ops,runNT P N (crowd gs w sl) t=(.next last,tl)/\stepT P last=(.ended o w',ops)/\Good P Post last o w' (tl++ops)
def EndsW.step{P:Program}{Post:Value->World->Prop}{gs gs1:Array Goroutine}{w w1:World}{sl sl1:Option (Nat×Nat)}{t:Trace}{ops:Array MemOp}(h:stepT P (crowd gs w sl)=(.next (crowd gs1 w1 sl1),ops))(k:EndsW P Post gs1 w1 sl1 (t++ops)):EndsW P Post gs w sl t:=by
 obtain⟨N,last,tl,o,w',ops',h1,h2⟩:=k;exact⟨N+1,last,tl,o,w',ops',by simp only[runNT,h];exact h1,h2⟩
def Z9M{P:Program}{Post:Value->World->Prop}{fr:Frame}{gs:Array Goroutine}{w:World}{sl:Option (Nat×Nat)}{t:Trace}{q:Nat->Nat}(hi:P.inits.idxOf? fr.fn=none)(hl:Lvs P gs.size gs q)(h0:gs[0]?=some (G fr []))(ht:TBt w.heap.size t)(hL:Leaves P fr w Post):EndsW P Post gs w sl t:=by
 have hnone:∀(gs':Array Goroutine) g,gs'[gs'.size]? ≠some g:=λgs' g e=>by
  have:=(ZgO.1 e).1;omega
 obtain⟨h1,h2,h3,fn,h4,h5⟩:=hL;refine ZdE (Wn:=EndsW P Post) EndsW.step hl (λi g hi hg=> ?_) ⟨0,_,.inl rfl,h0,rfl⟩ λgs' d0 sl0 d sl' q' i g hst hsz' hsame hl' hi' hgi hrun=> ?_
 ·rcases hi with rfl|rfl
  ·rw[h0]at hg;cases hg;exact⟨awake_of (.inl rfl),λg1 g2 d=>woken_run rfl⟩
  ·exact absurd hg (hnone gs g)
 ·rcases hi' with rfl|rfl
  ·have h0':gs'[0]?=some (G fr []):=by rw[hsame 0 (.inl rfl)];exact h0
   obtain⟨v,hv,hp⟩:=h5 d;have he:=runT_crowd_ended (P:=P) (sl:=sl') (i:=0) h0' (Z4a h1 h2 h3 h4 hv hi)
   have hev:EvsB (w.at d).heap.size (seen P fr.fn ((results fn fr.tmps).events P (w.at d) #[])):=λe he=>by
    have:=XJ (P:=P) (Rp fn fr.tmps) (w.at d) e (mem_seen he);rw[hv]at this;exact this
   have ht':TBt (w.at d).heap.size (t++MemOp.ofEvents 0 fr.fn (G fr []).frame.place (seen P fr.fn ((results fn fr.tmps).events P (w.at d) #[]))):=ht.main (ZgP _) hev;refine⟨0,crowd gs' (w.at d0) sl0,t,.done v,w.at d,_,rfl,hst.trans he,v,rfl,hp,ht'.clean,ht'.over,⟨λg hg=> ?_,rfl⟩,λi g hgi hi0=> ?_⟩
   ·have hg:g∈gs'.toList.drop 1:=hg;obtain⟨j,hj,rfl⟩:=List.mem_iff_getElem.1 hg;have hj':j< (gs'.toList.drop 1).length:=hj;simp only[ZiE,ZiR]at hj';have e:(gs'.toList.drop 1)[j]=gs'[j+1]'(by omega):=by simp[ZjC]
    rw[e];have:=hl' (j+1) (gs'[j+1]'(by omega)) (by omega) (by omega) (Zh5 (by omega));exact⟨_,RL _ this⟩
   ·have hlt:=(ZgO.1 hgi).1;have hlt:i<gs'.size:=hlt;have:=hl' i g (by omega) (by omega) hgi;refine⟨q' i,?_⟩;have hd:=ht'.hears i;have hd:Trace.deaf _ i _=0:=hd;have hq:=ja (crowd gs' (w.at d0) sl0).world _ this;rw[<-hd]at hq;exact hq.trans (ZhV some hd)
  ·rw[<-hsz']at hgi;exact absurd hgi (hnone gs' g)
def za{P:Program}{f:FuncId}{args:Array Value}{W:World}{Post:Value->World->Prop}(hi:P.inits.idxOf? f=none)(h:Z4F P f args W λe w'=>∃v,e=.returned v/\Post v w'):
  ∃M last o w' t',runNT P (M+1) (solo (G (Frame.enter P f args .normal) []) W) #[]=(.ended o w',t')/\runN P M (solo (G (Frame.enter P f args .normal) []) W)=.next last/\step P last=.ended o w'/\Good P Post last o w' t':=by
 have hw:Walk P (λfr cs w=>cs=[]/\fr.fn=f/\Leaves P fr w Post) (Frame.enter P f args .normal) [] W:=h [] _ λfr w' hfn ⟨h1,h2,h3,fn,h4,h5⟩=>.stop λd=>⟨rfl,hfn,h1,h2,h3,fn,h4,λd'=>by
  obtain⟨v,hv,v',e,hp⟩:=h5 d';cases e;exact⟨v,hv,hp⟩⟩
 have hwin:=hw W.drawn #[G (Frame.enter P f args .normal) []] none #[] (λ_=>0) (λi g h1 h2 h3=>by
   have:=(ZgO.1 h3).1;simp at this h2;omega) rfl ⟨λsaid=> ?_,λi=>rfl,λop hop=>by simp at hop,λi op x hi=>by simp at hi⟩
 ·obtain⟨N,gs,w,sl,t,hr,fr,cs,q,h0,⟨rfl,rfl,hL⟩,hl,ht⟩:=hwin;obtain⟨N',last,tl,o,w',ops,k1,k2,k3⟩:=Z9M (sl:=sl) hi hl h0 ht hL;have k4:runNT P (N+N') (solo (G (Frame.enter P fr.fn args .normal) []) W) #[]=(.next last,tl):=Sd N hr k1;refine⟨N+N',last,o,w',tl++ops,?_,?_,?_,k3⟩
  ·refine Sd (K:=1) (N+N') k4 ?_;simp only[runNT,k2]
  ·rw[<-runNT_fst _ _ _ #[],k4]
  ·rw[<-stepT_fst,k2]
 ·rintro⟨i,j,_,⟨a,b,ha,_⟩,_⟩;simp[Trace.act?]at ha
end Vm
end
section
namespace Vm
open Go Go.Conc
def Cl(v:Value):Prop:=∀ρ,ren ρ v=v
def Cl.fix{v:Value}(h:Cl v):FixV 0 v:=λρ _=>h ρ
def Z4M{cs:Array Value}(h:∀v∈cs,Cl v):Cl (.agg cs):=λρ=>by rw[Ye,Vj λx hx=>h x hx ρ]
def Z1K{v:Value}(h:Cl v):∀x∈v.cells,Cl x:=by
 cases v with
 |agg cs=>
  intro x hx ρ;have:=h ρ;rw[Ye]at this;injection this with this;obtain⟨i,hi⟩:=Array.getElem?_of_mem (show x∈cs from hx);have h2:(cs.map (ren ρ))[i]?=cs[i]? :=by rw[this]
  rw[Zh7,hi]at h2;exact Zig h2
 |_=>intro x hx;have:x=_:=(by simpa[Value.cells]using hx);rw[this];exact h
def yT{α β:Type}{Q:β->Prop}{f:α->β->Option (ForInStep β)}(hf:∀a b s,Q b->f a b=some s->match s with|.done b=>Q b|.yield b=>Q b):∀(l:List α) (b b':β),Q b->forIn l b f=some b'->Q b'
 | [],b,b',h,e=>by
   simp only[List.forIn_nil,pure,ZgH]at e;rw[<-e];exact h
 |a::l,b,b',h,e=>by
  rw[List.forIn_cons]at e;obtain⟨s,hs,e⟩:=ZgI.1 e;have:=hf a b s h hs;cases s with
  |done c=>simp only[pure,ZgH]at e;rw[<-e];exact this
  |yield c=>exact yT hf l c b' this e
def ZOk(i:TypeInfo):Prop:=∀z,i.zero=some z->Cl z
def Z4p{info:TypeId->Option TypeInfo}(hI:∀t i,info t=some i->ZOk i){fs:Array Field}{i:TypeInfo}(h:Made.reckonStruct info fs=some i):ZOk i:=by
 unfold Made.reckonStruct at h;dsimp only at h;rw[<-Array.forIn_toList]at h;obtain⟨r,hr,h⟩:=ZgI.1 h
 have hq:=yT (Q:=λr=>∀zs,r.2.2.2.2.2.2.2.1=some zs->∀v∈zs,Cl v) (λa b s hQ hs=>by
  obtain⟨i,hi,hs⟩:=ZgI.1 hs
  have fin:∀zs,(if b.2.1+i.size>Made.mostCells then none else do pure ((<-b.2.2.2.2.2.2.2.1)++(<-i.zero).cells):Option (Array Value))=some zs->∀v∈zs,Cl v:=λzs hz=>by
   split at hz
   ·cases hz
   ·obtain⟨z0,h0,hz⟩:=ZgI.1 hz;obtain⟨z1,h1,hz⟩:=ZgI.1 hz;cases hz;intro v hv;rcases Zi9.1 hv with hv|hv
    ·exact hQ z0 h0 v hv
    ·exact Z1K (hI _ i hi z1 h1) v hv
  clear hQ hI hr h
  revert fin
  generalize (if b.2.1+i.size>Made.mostCells then none else do pure ((<-b.2.2.2.2.2.2.2.1)++(<-i.zero).cells):Option (Array Value))=Z at hs⊢;intro fin;split at hs
  ·cases hs
  ·split at hs
   ·cases hs
   ·split at hs
    ·obtain⟨tag,_,hs⟩:=ZgI.1 hs;split at hs
     ·cases hs;exact fin
     ·cases hs;exact fin
    ·obtain⟨tag,_,hs⟩:=ZgI.1 hs;split at hs
     ·cases hs;exact fin
     ·cases hs;exact fin) _ _ _ (λzs hz=>by cases hz;intro v hv;simp at hv) hr
 have key:∀ {z:Value},r.2.2.2.2.2.2.2.1.map Value.agg=some z->Cl z:=λhz=>by
  obtain⟨zs,h1,rfl⟩:=ZgK.1 hz;exact Z4M (hq zs h1)
 split at h
 ·cases h;exactλz hz=>key hz
 ·cases h;exactλz hz=>key hz
def So{d:TypeDesc}{s:String}{v:Value}{b:Bool}{n:Nat}(h:Cl v):ZOk (Made.word d s v b n):=λz hz=>by
 cases hz;exact h
def Z4o{info:TypeId->Option TypeInfo}(hI:∀t i,info t=some i->ZOk i){d:TypeDesc}{i:TypeInfo}(h:Made.reckon info d=some i):ZOk i:=by
 cases d with
 |struct fs=>exact Z4p hI h
 |pointer e=>
  obtain⟨x,hx,h⟩:=ZgI.1 h
  have w:∀ {s},(do pure (Made.word (.pointer e) ("*" ++(<-s)) (.pointer none) true):Option TypeInfo)=some i->ZOk i:=λh=>by
   obtain⟨y,_,h⟩:=ZgI.1 h;cases h;exact So λρ=>Xz ρ
  split at h
  ·cases h
  ·split at h
   ·cases h
   ·exact w h
  ·exact w h
 |slice e=>
  obtain⟨x,hx,h⟩:=ZgI.1 h;obtain⟨y,_,h⟩:=ZgI.1 h;cases h;exact So λρ=>by simp[ren]
 |map k e=>
  obtain⟨x,hx,h⟩:=ZgI.1 h;obtain⟨y,_,h⟩:=ZgI.1 h;obtain⟨x2,_,h⟩:=ZgI.1 h;obtain⟨y2,_,h⟩:=ZgI.1 h;cases h;exact So λρ=>by simp[ren]
 |chan d e=>
  obtain⟨x,hx,h⟩:=ZgI.1 h;obtain⟨y,_,h⟩:=ZgI.1 h;cases h;exact So λρ=>by simp[ren]
 |func ps rs v=>
  obtain⟨x,hx,h⟩:=ZgI.1 h;cases h;exact So λρ=>Vp ρ
 |array n e=>
  obtain⟨x,hx,h⟩:=ZgI.1 h;obtain⟨y,_,h⟩:=ZgI.1 h;cases h;intro z hz;dsimp only at hz;split at hz
  ·cases hz
  ·split at hz
   ·cases hz;exact Z4M λv hv=>by simp at hv
   ·obtain⟨z0,h0,rfl⟩:=ZgK.1 hz;refine Z4M λv hv=> ?_;obtain⟨a,ha,hv⟩:=Array.mem_flatten.1 hv;rw[(Array.mem_replicate.1 ha).2]at hv;exact Z1K (hI e x hx z0 h0) v hv
 |_=>cases h
def Z9w{T:Tables}(hT:∀(t:TypeId) (i:TypeInfo),T.types[t]?=some i->ZOk i):∀(n:Nat) (t:TypeId) (i:TypeInfo),Made.infoAt T n t=some i->ZOk i
 |0,t,i,h=>by cases h
 |n+1,t,i,h=>by
  unfold Made.infoAt at h;split at h
  ·exact hT t i h
  ·obtain⟨d,_,h⟩:=ZgI.1 h;exact Z4o (λt i h=>Z9w hT n t i h) h
def Z9v(l:List TypeInfo):Bool:=l.all λi=>match i.zero with|some z=>still 9 z|none=>true
def Z8Q{P:Program}(h:Z9v P.types.toList=true){t:TypeId}{i:TypeInfo}(hi:P.info? t=some i):ZOk i:=by
 have hT:∀(t:TypeId) (i:TypeInfo),P.types[t]?=some i->ZOk i:=λt i ht z hz ρ=>by
  have:=ZgT.1 h i (by simpa using Zio ht);rw[hz]at this;exact U4 ρ 9 z this
 have hi:(if t<P.types.size then P.types[t]? else Made.infoAt P.toTables Made.depth t)=some i:=hi;split at hi
 ·exact hT t i hi
 ·exact Z9w hT _ _ _ hi
def refF(fn:Func):Func:= {fn with name:= "?",origin:= "?",body:=none}
def VA(P:Program)(l:List Nat):Program:= {P with globals:=#[],funcs:=P.funcs.mapIdx λi fn=>if l.contains i then refF fn else fn}
def Z3{P:Program}{l:List Nat}{f:Nat}{fn:Func}(h:P.funcs[f]?=some fn)(hl:l.contains f=false):(VA P l).funcs[f]?=some fn:=by
 simp only[VA,Zjy,h,hl,ZgY,ZgU,Zhr]
def Z2h(Q:Program)(l:List Nat):List Func->Nat->Bool
 | [],_=>true
 |fn::fs,i=>(l.contains i||(!(fn.name== "runtime.NumGoroutine")&&(match fn.body with|some c=>ZO Q false c|none=>false)))&&Z2h Q l fs (i+1)
def qT{Q:Program}{l:List Nat}:∀ {fs:List Func} {i j:Nat} {fn:Func},Z2h Q l fs i=true->fs[j]?=some fn->l.contains (i+j)=true\/((fn.name== "runtime.NumGoroutine")=false/\∃c,fn.body=some c/\ZO Q false c=true)
 | [],i,j,fn,_,h=>by simp at h
 |g::fs,i,j,fn,hk,h=>by
  simp only[Z2h,ZgM,ZgW,ZhD]at hk;obtain⟨h1,h2⟩:=hk;cases j with
  |zero=>
   simp only[Zis,ZgH]at h;subst h;rcases h1 with h1|⟨h1,h3⟩
   ·exact .inl h1
   ·refine .inr ⟨h1,?_⟩;split at h3
    ·exact⟨_,by assumption,h3⟩
    ·cases h3
  |succ j=>
   rw[Zjn]at h;have:=qT h2 h;rwa[show i+1+j=i+(j+1)by omega]at this
def Z8B{P:Program}{l:List Nat}(hz:Z9v P.types.toList=true)(hk:Z2h (VA P l) l P.funcs.toList 0=true):Sub P (VA P l):=by
 refine⟨rfl,rfl,λt i z h1 h2=>Cl.fix (Z8Q (P:=VA P l) hz h1 z h2),λf fn hf=> ?_⟩;simp only[VA,Zjy]at hf;obtain⟨g,hg,rfl⟩:=ZgK.1 hf;by_cases hl:l.contains f=true
 ·rw[if_pos hl];exact .inl ⟨rfl,rfl,rfl⟩
 ·rw[if_neg hl];rcases qT hk (show P.funcs.toList[f]?=some g by simpa using hg)with h|⟨h1,h2⟩
  ·rw[Zhy]at h;exact absurd h hl
  ·exact .inr ⟨h1,hg,h2⟩
end Vm
end
section
namespace Vm
open Go Go.Proofs
def Z2G(P:Program)(l:List Nat)(t:TypeId):(VA P l).underlying t=P.underlying t:=Cx.P_under {Q:=P,fs:=(VA P l).funcs,gs:=#[],ρ:=id,n0:=0,G:=λ_=>False,O:=λ_=>False,KL:=λ_=>False,KD:=λ_=>False} t
def Z6N(P:Program)(l:List Nat)(t:TypeId):(VA P l).info? t=P.info? t:=Cx.P_info {Q:=P,fs:=(VA P l).funcs,gs:=#[],ρ:=id,n0:=0,G:=λ_=>False,O:=λ_=>False,KL:=λ_=>False,KD:=λ_=>False} t
def Lu(P:Program)(l:List Nat)(t:TypeId)(w:World):(typeInfo t).run (VA P l) w=(typeInfo t).run P w:=by
 unfold typeInfo;simp only[Zhf,Ziw,Zhd,Z6N];cases P.info? t<;>simp only[stuck,Zj2,Sem.run]
def jw(P:Program)(l:List Nat)(t:TypeId)(w:World):(underlying t).run (VA P l) w=(underlying t).run P w:=by
 unfold underlying;simp only[Zhf,Ziw,Zhd,Z2G];cases P.underlying t<;>simp only[stuck,Zj2,Sem.run]
def Z46(P:Program)(l:List Nat)(t:TypeId)(w:World):(Go.sizeOf t).run (VA P l) w=(Go.sizeOf t).run P w:=by
 unfold Go.sizeOf;simp only[Zhf,Lu];cases(typeInfo t).run P w<;>simp only[Result.andThen,Zj2]
def Z6O(P:Program)(l:List Nat)(t:TypeId)(w:World):(isAgg t).run (VA P l) w=(isAgg t).run P w:=by
 unfold isAgg;simp only[Zhf,jw];cases(underlying t).run P w with
 |ok d w'=>cases d<;>simp only[Zhd,Zj2]
 |halt h w'=>simp only[Result.andThen]
def Z9o(P:Program)(t:TypeId)(w:World):(zeroValue t).run P w=((typeInfo t).run P w).andThen λi w'=>match i.zero with|some v=>.ok v w'|none=>.halt (.unsupported (.resourceLimit "a value of more than 2^22 cells")) w':=by
 unfold zeroValue;rw[Zhf];refine ZhV _ (funext λi=>funext λw'=> ?_);cases i.zero with
 |none=>rfl
 |some v=>rfl
def Z47(P:Program)(l:List Nat)(t:TypeId)(w:World):(zeroValue t).run (VA P l) w=(zeroValue t).run P w:=by
 rw[Z9o,Z9o,Lu]
def Yg{P:Program}{f:FuncId}{fn:Func}(h:P.funcs[f]?=some fn)(hb:fn.body.isNone=false)(hn:(fn.name== "runtime.NumGoroutine")=false)(args:Array Value)(w:World):(callFunc f args).run P w=.ok (.enter f args) w:=by
 unfold callFunc;simp only[Zhf,Ziw,Zhd,h,hb,hn,ZgU,Zhr];rfl
namespace Sol
def no:List Nat:=[0,1,15,136,137,138,139,140,141,142,143,144,145,146,147,148,149,150,151]
noncomputable def prog:Program:=VA Try.prog no
@[simp] theorem und(t:TypeId):prog.underlying t=Try.prog.underlying t:=Z2G _ _ t
@[simp] theorem rUnd(t:TypeId)(w:World):(underlying t).run prog w=(underlying t).run Try.prog w:=jw _ _ t w
@[simp] theorem ZgE(t:TypeId)(w:World):(Go.sizeOf t).run prog w=(Go.sizeOf t).run Try.prog w:=Z46 _ _ t w
@[simp] theorem rAgg(t:TypeId)(w:World):(isAgg t).run prog w=(isAgg t).run Try.prog w:=Z6O _ _ t w
@[simp] theorem ZgF(t:TypeId)(w:World):(zeroValue t).run prog w=(zeroValue t).run Try.prog w:=Z47 _ _ t w
@[simp] theorem main:prog.main=Try.prog.main:=rfl
@[simp] theorem func16:prog.funcs[16]?=some Try.f16:=Z3 Try.func16 rfl
@[simp] theorem func17:prog.funcs[17]?=some Try.f17:=Z3 Try.func17 rfl
@[simp] theorem func18:prog.funcs[18]?=some Try.f18:=Z3 Try.func18 rfl
@[simp] theorem func19:prog.funcs[19]?=some Try.f19:=Z3 Try.func19 rfl
@[simp] theorem func21:prog.funcs[21]?=some Try.f21:=Z3 Try.func21 rfl
@[simp] theorem func22:prog.funcs[22]?=some Try.f22:=Z3 Try.func22 rfl
@[simp] theorem func23:prog.funcs[23]?=some Try.f23:=Z3 Try.func23 rfl
@[simp] theorem func25:prog.funcs[25]?=some Try.f25:=Z3 Try.func25 rfl
@[simp] theorem func27:prog.funcs[27]?=some Try.f27:=Z3 Try.func27 rfl
@[simp] theorem Zg3(args:Array Value)(w:World):(callFunc 27 args).run prog w=.ok (.enter 27 args) w:=Yg func27 rfl rfl args w
@[simp] theorem func28:prog.funcs[28]?=some Try.f28:=Z3 Try.func28 rfl
@[simp] theorem func29:prog.funcs[29]?=some Try.f29:=Z3 Try.func29 rfl
@[simp] theorem func31:prog.funcs[31]?=some Try.f31:=Z3 Try.func31 rfl
@[simp] theorem func32:prog.funcs[32]?=some Try.f32:=Z3 Try.func32 rfl
@[simp] theorem func35:prog.funcs[35]?=some Try.f35:=Z3 Try.func35 rfl
@[simp] theorem func42:prog.funcs[42]?=some Try.f42:=Z3 Try.func42 rfl
@[simp] theorem func43:prog.funcs[43]?=some Try.f43:=Z3 Try.func43 rfl
@[simp] theorem func44:prog.funcs[44]?=some Try.f44:=Z3 Try.func44 rfl
@[simp] theorem Zg4(args:Array Value)(w:World):(callFunc 44 args).run prog w=.ok (.enter 44 args) w:=Yg func44 rfl rfl args w
@[simp] theorem func45:prog.funcs[45]?=some Try.f45:=Z3 Try.func45 rfl
@[simp] theorem func46:prog.funcs[46]?=some Try.f46:=Z3 Try.func46 rfl
@[simp] theorem func47:prog.funcs[47]?=some Try.f47:=Z3 Try.func47 rfl
@[simp] theorem func48:prog.funcs[48]?=some Try.f48:=Z3 Try.func48 rfl
@[simp] theorem func49:prog.funcs[49]?=some Try.f49:=Z3 Try.func49 rfl
@[simp] theorem func50:prog.funcs[50]?=some Try.f50:=Z3 Try.func50 rfl
@[simp] theorem func51:prog.funcs[51]?=some Try.f51:=Z3 Try.func51 rfl
@[simp] theorem func52:prog.funcs[52]?=some Try.f52:=Z3 Try.func52 rfl
@[simp] theorem func53:prog.funcs[53]?=some Try.f53:=Z3 Try.func53 rfl
@[simp] theorem func62:prog.funcs[62]?=some Try.f62:=Z3 Try.func62 rfl
@[simp] theorem func63:prog.funcs[63]?=some Try.f63:=Z3 Try.func63 rfl
@[simp] theorem func64:prog.funcs[64]?=some Try.f64:=Z3 Try.func64 rfl
@[simp] theorem Zg5(args:Array Value)(w:World):(callFunc 64 args).run prog w=.ok (.enter 64 args) w:=Yg func64 rfl rfl args w
@[simp] theorem func65:prog.funcs[65]?=some Try.f65:=Z3 Try.func65 rfl
@[simp] theorem func69:prog.funcs[69]?=some Try.f69:=Z3 Try.func69 rfl
@[simp] theorem Zg6(args:Array Value)(w:World):(callFunc 69 args).run prog w=.ok (.enter 69 args) w:=Yg func69 rfl rfl args w
@[simp] theorem func75:prog.funcs[75]?=some Try.f75:=Z3 Try.func75 rfl
@[simp] theorem Zg7(args:Array Value)(w:World):(callFunc 75 args).run prog w=.ok (.enter 75 args) w:=Yg func75 rfl rfl args w
@[simp] theorem func76:prog.funcs[76]?=some Try.f76:=Z3 Try.func76 rfl
@[simp] theorem func77:prog.funcs[77]?=some Try.f77:=Z3 Try.func77 rfl
@[simp] theorem func78:prog.funcs[78]?=some Try.f78:=Z3 Try.func78 rfl
@[simp] theorem func79:prog.funcs[79]?=some Try.f79:=Z3 Try.func79 rfl
@[simp] theorem func80:prog.funcs[80]?=some Try.f80:=Z3 Try.func80 rfl
@[simp] theorem func81:prog.funcs[81]?=some Try.f81:=Z3 Try.func81 rfl
@[simp] theorem func82:prog.funcs[82]?=some Try.f82:=Z3 Try.func82 rfl
@[simp] theorem func91:prog.funcs[91]?=some Try.f91:=Z3 Try.func91 rfl
@[simp] theorem func93:prog.funcs[93]?=some Try.f93:=Z3 Try.func93 rfl
@[simp] theorem func94:prog.funcs[94]?=some Try.f94:=Z3 Try.func94 rfl
@[simp] theorem Zg8(args:Array Value)(w:World):(callFunc 94 args).run prog w=.ok (.enter 94 args) w:=Yg func94 rfl rfl args w
@[simp] theorem func99:prog.funcs[99]?=some Try.f99:=Z3 Try.func99 rfl
@[simp] theorem func100:prog.funcs[100]?=some Try.f100:=Z3 Try.func100 rfl
@[simp] theorem func101:prog.funcs[101]?=some Try.f101:=Z3 Try.func101 rfl
@[simp] theorem func102:prog.funcs[102]?=some Try.f102:=Z3 Try.func102 rfl
@[simp] theorem func103:prog.funcs[103]?=some Try.f103:=Z3 Try.func103 rfl
@[simp] theorem func104:prog.funcs[104]?=some Try.f104:=Z3 Try.func104 rfl
@[simp] theorem func105:prog.funcs[105]?=some Try.f105:=Z3 Try.func105 rfl
@[simp] theorem func106:prog.funcs[106]?=some Try.f106:=Z3 Try.func106 rfl
@[simp] theorem func107:prog.funcs[107]?=some Try.f107:=Z3 Try.func107 rfl
@[simp] theorem func108:prog.funcs[108]?=some Try.f108:=Z3 Try.func108 rfl
@[simp] theorem func109:prog.funcs[109]?=some Try.f109:=Z3 Try.func109 rfl
@[simp] theorem func110:prog.funcs[110]?=some Try.f110:=Z3 Try.func110 rfl
@[simp] theorem func113:prog.funcs[113]?=some Try.f113:=Z3 Try.func113 rfl
@[simp] theorem func116:prog.funcs[116]?=some Try.f116:=Z3 Try.func116 rfl
@[simp] theorem func117:prog.funcs[117]?=some Try.f117:=Z3 Try.func117 rfl
@[simp] theorem func118:prog.funcs[118]?=some Try.f118:=Z3 Try.func118 rfl
@[simp] theorem func119:prog.funcs[119]?=some Try.f119:=Z3 Try.func119 rfl
@[simp] theorem func120:prog.funcs[120]?=some Try.f120:=Z3 Try.func120 rfl
@[simp] theorem func121:prog.funcs[121]?=some Try.f121:=Z3 Try.func121 rfl
@[simp] theorem func122:prog.funcs[122]?=some Try.f122:=Z3 Try.func122 rfl
@[simp] theorem func123:prog.funcs[123]?=some Try.f123:=Z3 Try.func123 rfl
@[simp] theorem func124:prog.funcs[124]?=some Try.f124:=Z3 Try.func124 rfl
@[simp] theorem func125:prog.funcs[125]?=some Try.f125:=Z3 Try.func125 rfl
@[simp] theorem func126:prog.funcs[126]?=some Try.f126:=Z3 Try.func126 rfl
@[simp] theorem func127:prog.funcs[127]?=some Try.f127:=Z3 Try.func127 rfl
@[simp] theorem func128:prog.funcs[128]?=some Try.f128:=Z3 Try.func128 rfl
@[simp] theorem ZeR(args:Array Value)(w:World):(callFunc 128 args).run prog w=.ok (.enter 128 args) w:=Yg func128 rfl rfl args w
@[simp] theorem func129:prog.funcs[129]?=some Try.f129:=Z3 Try.func129 rfl
@[simp] theorem ZeS(args:Array Value)(w:World):(callFunc 129 args).run prog w=.ok (.enter 129 args) w:=Yg func129 rfl rfl args w
@[simp] theorem func130:prog.funcs[130]?=some Try.f130:=Z3 Try.func130 rfl
@[simp] theorem ZeT(args:Array Value)(w:World):(callFunc 130 args).run prog w=.ok (.enter 130 args) w:=Yg func130 rfl rfl args w
@[simp] theorem func131:prog.funcs[131]?=some Try.f131:=Z3 Try.func131 rfl
@[simp] theorem ZeU(args:Array Value)(w:World):(callFunc 131 args).run prog w=.ok (.enter 131 args) w:=Yg func131 rfl rfl args w
@[simp] theorem func132:prog.funcs[132]?=some Try.f132:=Z3 Try.func132 rfl
@[simp] theorem func133:prog.funcs[133]?=some Try.f133:=Z3 Try.func133 rfl
@[simp] theorem ZeV(args:Array Value)(w:World):(callFunc 133 args).run prog w=.ok (.enter 133 args) w:=Yg func133 rfl rfl args w
@[simp] theorem func134:prog.funcs[134]?=some Try.f134:=Z3 Try.func134 rfl
@[simp] theorem ZeW(args:Array Value)(w:World):(callFunc 134 args).run prog w=.ok (.enter 134 args) w:=Yg func134 rfl rfl args w
@[simp] theorem func135:prog.funcs[135]?=some Try.f135:=Z3 Try.func135 rfl
@[simp] theorem ZeX(args:Array Value)(w:World):(callFunc 135 args).run prog w=.ok (.enter 135 args) w:=Yg func135 rfl rfl args w
def sub:Sub Try.prog prog:=Z8B (by kernel_rfl) (by kernel_rfl)
end Sol
end Vm
end
