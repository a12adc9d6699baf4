import Derived.Scope
import Derived.Test.YtjkmonbmpoegjaaSMutatorBarrier2
set_option linter.unusedSimpArgs false
set_option linter.unusedVariables false
set_option linter.defProp false
def ZaH:=@_root_.List.foldl_nil
def Zbg:=@_root_.List.mem_iff_getElem?
def ZaY:=@_root_.List.filter_cons
def Zb3:=@_root_.List.mem_filter
def Zc0:=@_root_.Go.mem_ready
def ZbL:=@_root_.Array.getElem?_replicate
def Zc1:=@_root_.List.length_filter_le
def Zb4:=@_root_.List.mem_cons_self
def ZaN:=@_root_.Bool.true_or
def Za8:=@_root_.Bool.or_true
def ZaF:=@_root_.List.mem_flatMap
def ZaA:=@_root_.List.map_congr_left
def Zb5:=@_root_.Prod.ext
def Zc2:=@_root_.Classical.choose_spec
def ZbN:=@_root_.Go.wp_mono
def ZbA:=@_root_.Go.Sem.run_pure
def Z9A:=@_root_.List.mem_append_left
section
namespace Vm
open Go
open Go.RowKit (Below)
def gL:List XS→Nat→(Nat→Bool)→Gam→Gam
 | [],_,_,g=>g
 |x::xs,k,L,g=>gL xs (k+1) L (if L k then x.os.d++g else g)
def gAll(xs:List XS)(g:Gam):Gam:=xs.foldl (fun g x=>x.os.d++g) g
theorem TE{t:Nat}: ∀ {xs:List XS} {k:Nat} {L L':Nat→Bool} {g g':Gam},(∀(i:Nat) (x:XS),xs[i]? =some x→t∈Zu x.os.d→L (k+i)=L' (k+i))→g.at t=g'.at t→(gL xs k L g).at t=(gL xs k L' g').at t
 | [],_,_,_,_,_,_,hg=>hg
 |x::xs,k,L,L',g,g',hx,hg=>by
  simp only[gL];refine TE (fun i y hi ht=> ?_) ?_
  ·have:=hx (i+1) y (by simpa using hi) ht;rw[show k+1+i=k+(i+1)from by omega];exact this
  ·by_cases ht:t∈Zu x.os.d
   ·have h0:=hx 0 x rfl ht;rw[Za6]at h0;rw[←h0];split
    ·rw[ZR,ZR,if_pos ht,if_pos ht]
    ·exact hg
   ·have: ∀(b:Bool) (g:Gam),Gam.at (if b=true then x.os.d++g else g) t=g.at t:=by
     intro b g;split
     ·rw[ZR,if_neg ht]
     ·rfl
    rw[this,this];exact hg
theorem Lz{t:Nat}: ∀ {xs:List XS} {k:Nat} {L:Nat→Bool} {g:Gam},(∀(i:Nat) (x:XS),xs[i]? =some x→L (k+i)=true→t∉Zu x.os.d)→(gL xs k L g).at t=g.at t
 | [],_,_,_,_=>rfl
 |x::xs,k,L,g,hx=>by
  simp only[gL];rw[Lz fun i y hi hl=>hx (i+1) y (by simpa using hi) (by rw[←hl];congr 1;omega)];split
  ·rename_i hk;rw[ZR,if_neg (hx 0 x rfl hk)]
  ·rfl
theorem Z2x{t:Nat}: ∀ {xs:List XS} {k i:Nat} {L:Nat→Bool} {g:Gam} {x:XS},xs[i]? =some x→L (k+i)=true→t∈Zu x.os.d→(∀(j:Nat) (y:XS),xs[j]? =some y→i<j→L (k+j)=true→t∉Zu y.os.d)→(gL xs k L g).at t=x.os.d.at t
 | [],_,_,_,_,_,hx,_,_,_=>by simp at hx
 |y::xs,k,0,L,g,x,hx,hl,ht,hn=>by
  simp at hx;subst hx;simp only[gL];rw[Za6]at hl;rw[hl,if_pos rfl,Lz fun j z hj hlj=>hn (j+1) z (by simpa using hj) (by omega) (by rw[←hlj];congr 1;omega),ZR,if_pos ht]
 |y::xs,k,i+1,L,g,x,hx,hl,ht,hn=>by
  simp only[gL];exact Z2x (i:=i) (by simpa using hx) (by rw[←hl];congr 1;omega) ht fun j z hj hij hlj=>hn (j+1) z (by simpa using hj) (by omega) (by rw[←hlj];congr 1;omega)
theorem jz{t:Nat}: ∀ {xs:List XS} {k:Nat} {L:Nat→Bool} {g:Gam},(gL xs k L g).at t=g.at t∨ ∃j y,xs[j]? =some y∧L (k+j)=true∧t∈Zu y.os.d∧(gL xs k L g).at t=y.os.d.at t
 | [],_,_,_=> .inl rfl
 |x::xs,k,L,g=>by
  simp only[gL];rcases jz (xs:=xs) (k:=k+1) (L:=L) (g:=if L k=true then x.os.d++g else g) (t:=t)with h| ⟨j,y,hj,hl,ht,h⟩
  ·by_cases hk:L k=true
   ·rw[if_pos hk]at h⊢;rw[ZR]at h;split at h
    ·rename_i ht;exact .inr ⟨0,x,rfl,hk,ht,h⟩
    ·exact .inl h
   ·rw[if_neg hk]at h⊢;exact .inl h
  ·exact .inr ⟨j+1,y,by simpa using hj,by rw[←hl];congr 1;omega,ht,h⟩
theorem Lw: ∀ {xs:List XS} {k j:Nat} {g:Gam},gL xs k (fun i=>decide (i<k+j)) g=gAll (xs.take j) g
 | [],_,_,_=>by simp[gL,gAll]
 |x::xs,k,0,g=>by
  simp only[gL];rw[if_neg (by simp)];simp only[List.take_zero,gAll,ZaH]
  have h0: ∀(xs:List XS) (k':Nat) (g:Gam),k≤k'→gL xs k' (fun i=>decide (i<k+0)) g=g:=by
   intro xs
   induction xs with
   |nil=>intro k' g _;rfl
   |cons y ys ih=>
    intro k' g hk;simp only[gL];rw[if_neg (by simp;omega)];exact ih (k'+1) g (by omega)
  exact h0 xs (k+1) g (by omega)
 |x::xs,k,j+1,g=>by
  simp only[gL];rw[if_pos (by simp)];have h1:=Lw (xs:=xs) (k:=k+1) (j:=j) (g:=x.os.d++g)
  have h2:(fun i=>decide (i<k+1+j))=fun i=>decide (i<k+(j+1)):=by
   funext i;congr 1;apply propext;omega
  rw[h2]at h1;rw[h1];simp[gAll]
theorem Tm{c:Ctx}{draw:Bool}{lets:List Nat}{ops:Array Oper}: ∀ {l:List Oper} {g gf:Gam} {xs0 xs:List XS},UP c draw lets ops l g xs0=some (gf,xs)→
  ∃ys,xs=xs0++ys∧ys.length=l.length∧gf=gAll ys g∧ ∀(j:Nat) (o:Oper),l[j]? =some o→ ∃y,ys[j]? =some y∧R0 c lets ops (gAll (ys.take j) g) o=some y.os∧y.R=Sd ops (gAll (ys.take j) g) o∧y.T=qz draw (xs0++ys.take j) o∧(draw=true→ ∀e∈YX o,e<xs0.length+j)
 | [],g,gf,xs0,xs,h=>by
   simp only[UP,Z8l,Z8w]at h;obtain⟨rfl,rfl⟩:=h;exact⟨[],by simp,rfl,rfl,fun j o hj=>by simp at hj⟩
 |o::l,g,gf,xs0,xs,h=>by
  simp only[UP]at h;split at h
  ·cases h
  ·rename_i hedge;simp only[Z8m]at h;obtain⟨os,hos,h⟩:=h;obtain⟨ys,rfl,hl,rfl,hall⟩:=Tm h;refine⟨{os,R:=Sd ops g o,T:=qz draw xs0 o}::ys,by simp,by simp[hl],by simp[gAll],fun j o' hj=> ?_⟩;cases j with
   |zero=>
    simp at hj;subst hj;refine⟨_,rfl,by simpa[gAll]using hos,by simp[gAll],by simp,fun hd e he=> ?_⟩;simp only[hd,Zaz,Z9l,ZaQ,Z8A,Z8L]at hedge;exact hedge e he
   |succ j=>
    obtain⟨y,h1,h2,h3,h4,h5⟩:=hall j o' (by simpa using hj);refine⟨y,by simpa using h1,by simpa[gAll]using h2,by simpa[gAll]using h3,by simpa using h4,fun hd e he=> ?_⟩;have:=h5 hd e he;simp at this;omega
structure Reg.Fine (c:Ctx) (draw:Bool) (ops:Array Oper) (g0:Gam) (xs:List XS):Prop where
 len:xs.length=ops.size
 at_: ∀(i:Nat) (o:Oper) (x:XS),ops[i]? =some o→xs[i]? =some x→R0 c (ym ops) ops (gAll (xs.take i) g0) o=some x.os∧x.R=Sd ops (gAll (xs.take i) g0) o∧x.T=qz draw (xs.take i) o∧(draw=true→ ∀e∈YX o,e<i)
 ps: ∀(i:Nat) (x:XS),xs[i]? =some x→(∀p∈x.os.ps,p∈Zu x.os.d)∧(∀p∈x.os.fz,p∈Zu x.os.d)∧SU x.os g0=true∧ ∀j∈x.T,j<i
 pair: ∀(i j:Nat) (x y:XS),xs[i]? =some x→xs[j]? =some y→zC x i y j=true
theorem Z3j{c:Ctx}{draw:Bool}{ops:Array Oper}{g0 gf:Gam}{xs:List XS}(h:UP c draw (ym ops) ops ops.toList g0 []=some (gf,xs))(hok:Qf g0 xs=true):Reg.Fine c draw ops g0 xs∧gf=gAll xs g0:=by
 obtain⟨ys,hys,hl,rfl,hall⟩:=Tm h;simp only[Z9d]at hys;subst hys;refine⟨⟨by simpa using hl,fun i o x ho hx=> ?_,fun i x hx=> ?_,fun i j x y hx hy=> ?_⟩,rfl⟩
 ·obtain⟨y,h1,h2,h3,h4,h5⟩:=hall i o (by simpa using ho);rw[hx]at h1;cases h1;exact⟨h2,h3,by simpa using h4,fun hd e he=>by have:=h5 hd e he;simpa using this⟩
 all_goals
  simp only[Qf,Z8A,Z8u]at hok;have hm: ∀(i:Nat) (x:XS),xs[i]? =some x→(x,i)∈xs.zipIdx:=fun i x hx=>Zbg.2 ⟨i,by rw[Zac,hx];simp⟩
 ·obtain⟨⟨⟨⟨h1,h2⟩,h3⟩,h4⟩,_⟩:=hok (x,i) (hm i x hx);exact⟨fun p hp=>by simpa using h1 p hp,fun p hp=>by simpa using h2 p hp,h3,fun j hj=>by simpa using h4 j hj⟩
 ·obtain⟨_,h5⟩:=hok (x,i) (hm i x hx);exact h5 (y,j) (hm j y hy)
section
variable {c:Ctx} {B:Nat} {G:Nat→Prop} {s:St} {a a':Act} {w w' w0:World} {h h':GH} {g0:Gam} {ops:Array Oper} {xs:List XS} {draw:Bool} {L:Nat→Bool}
def Rz(xs:List XS)(L:Nat→Bool):Prop:= ∀(i:Nat) (x:XS),xs[i]? =some x→L i=true→ ∀j∈x.T,L j=true
def add(L:Nat→Bool)(i:Nat):Nat→Bool:=fun j=>L j||j==i
theorem SR{x y:XS}{i j:Nat}(hp:zC x i y j=true)(hne:j≠i)(hT:i∉y.T):SU x.os y.os.d=true∧(j∉x.T→(∀t∈Zu y.os.d,t∉Zu x.os.d)∧ ∀t∈Zu y.os.d,t∉x.R):=by
 simp only[zC,Z8J,Z8u,Z99,hne,Zbz,Z9z,Z8L,hT]at hp;refine⟨hp.1,fun hj=> ?_⟩;have:=hp.2.resolve_left fun h=>h.elim (fun h=>hj h) (fun h=>h);simp only[jt,Z8A,Z9l,Z9z,Zb2]at this;exact this
theorem Ti{os:OS}{g:Gam}(hq:SU os g=true){t:Nat}(ht:t∉Zu os.d):calm os.ps os.rb os.fz (g.at t).2=true:=by
 by_cases hm:t∈Zu g
 ·have:=Z8A.1 hq _ (zP hm);simp only[Z8J,Z9z,Z8L]at this;exact this.resolve_left ht
 ·rw[UO hm];exact Lu _ _ _
theorem Reg.Fine.only(hf:Reg.Fine c draw ops g0 xs)(hcl:Rz xs L)(hr:RelG c B G s a w h (gL xs 0 L g0)){i:Nat}{x:XS}(hx:xs[i]? =some x)(hi:L i=false)(hT: ∀j∈x.T,L j=true):
  RelG c B G s a w h (only (gAll (xs.take i) g0) x.R):=by
 have hsame: ∀t,t∈x.R→(gL xs 0 L g0).at t=(gAll (xs.take i) g0).at t:=by
  intro t ht;have hgt:=Lw (xs:=xs) (k:=0) (j:=i) (g:=g0);simp only[Z97]at hgt;rw[←hgt];refine TE (fun j y hy htd=> ?_) rfl;rw[Z97];obtain⟨_,_,_,hTy⟩:=hf.ps j y hy;obtain⟨_,_,_,hTx⟩:=hf.ps i x hx;by_cases hji:j=i
  ·subst hji;rw[hi];simp
  ·have hcase:j∉x.T→i∉y.T→False:=fun h1 h2=>((SR (hf.pair i j x y hx hy) hji h2).2 h1).2 t htd ht;rcases ZaK hji with hlt|hgt
   ·by_cases hjT:j∈x.T
    ·rw[hT j hjT];simp[hlt]
    ·exact(hcase hjT fun hh=>by have:=hTy i hh;omega).elim
   ·cases hL:L j with
    |false=>simp;omega
    |true=>
     exfalso;refine hcase (fun hh=>by have:=hTx j hh;omega) fun hh=> ?_;have:=hcl j y hy hL i hh;rw[hi]at this;cases this
 refine⟨hr.ok,fun t=> ?_,fun t=> ?_⟩
 ·rw[QK];split
  ·rename_i ht;rw[←hsame t ht];exact hr.at_ t
  ·intro _ hn;simp[TK.isNo]at hn
 ·rw[QK];split
  ·rename_i ht;rw[←hsame t ht];exact hr.skip t
  ·exact fun hn=>absurd (Zb s c) hn
theorem Reg.Fine.next(hf:Reg.Fine c draw ops g0 xs)(hcl:Rz xs L)(hr:RelG c B G s a w h (gL xs 0 L g0)){i:Nat}{x:XS}(hx:xs[i]? =some x)(hi:L i=false)(hrb: ∀t∈x.os.rb,t∈x.os.ps)(hT: ∀j∈x.T,L j=true)(hp:OPost c B G s a a' w w' h h' x.os):
  RelG c B G s a' w' h' (gL xs 0 (add L i) g0):=by
 obtain⟨hps,hfz,hq0,hTx⟩:=hf.ps i x hx
 have key: ∀t,(holds s (ixC c ((gL xs 0 (add L i) g0).at t).1)→((gL xs 0 (add L i) g0).at t).2.isNo=false→ ∃v,a'.tmps[t]? =some v∧RelK c.P B s w' h' (fun p=>a'.tmps[p]?) t v ((gL xs 0 (add L i) g0).at t).2)∧
   (¬holds s (ixC c ((gL xs 0 (add L i) g0).at t).1)→a'.tmps.getD t undef=undef):=by
  intro t;by_cases ht:t∈Zu x.os.d
  ·have:(gL xs 0 (add L i) g0).at t=x.os.d.at t:=by
    refine Z2x hx (by simp[add]) ht fun j y hy hij hl htd=> ?_
    have hlj:L j=true:=by
     simp only[add,Z97,Z8J,Z99]at hl;exact hl.resolve_right (by omega)
    have hTi:i∉y.T:=fun hh=>by
     have:=hcl j y hy hlj i hh;rw[hi]at this;cases this
    exact((SR (hf.pair i j x y hx hy) (by omega) hTi).2 fun hh=>by have:=hTx j hh;omega).1 t htd ht
   rw[this];exact hp.ent t ht
  ·have hsame:(gL xs 0 (add L i) g0).at t=(gL xs 0 L g0).at t:=by
    refine TE (fun j y hy htd=> ?_) rfl;by_cases hji:j=i
    ·subst hji;rw[hx]at hy;cases hy;exact absurd htd ht
    ·simp[add,hji]
   rw[hsame];have htp:t∉x.os.ps:=fun hh=>ht (hps t hh)
   have hcalm:calm x.os.ps x.os.rb x.os.fz ((gL xs 0 L g0).at t).2=true:=by
    rcases jz (xs:=xs) (k:=0) (L:=L) (g:=g0) (t:=t)with h1| ⟨j,y,hy,hl,htd,h1⟩
    ·rw[h1];exact Ti hq0 ht
    ·rw[h1];rw[Z97]at hl;have hji:j≠i:=fun e=>by subst e;rw[hi]at hl;cases hl
     have hTi:i∉y.T:=fun hh=>by
      have:=hcl j y hy hl i hh;rw[hi]at this;cases this
     exact Ti (SR (hf.pair i j x y hx hy) hji hTi).1 ht
   refine⟨fun hC hn=> ?_,fun hn=> ?_⟩
   ·obtain⟨v,hv,hk⟩:=hr.at_ t hC hn;exact⟨v,by rw[hp.tm t htp];exact hv,hk.keep hp.step hr.ok hrb htp (fun hh=>absurd (hfz t hh) ht) hcalm hp.tm⟩
   ·have:=hr.skip t hn;simp only[Z8q,hp.tm t htp]at this⊢;exact this
 exact⟨hp.ok,fun t=>(key t).1,fun t=>(key t).2⟩
theorem qu(hcl:Rz xs L){i:Nat}{x:XS}(hx:xs[i]? =some x)(hT: ∀j∈x.T,L j=true):Rz xs (add L i):=by
 intro j y hy hl k hk;simp only[add,Z8J,Z99]at hl⊢;rcases hl with hl|rfl
 ·exact .inl (hcl j y hy hl k hk)
 ·rw[hx]at hy;cases hy;exact .inl (hT k hk)
end
end Vm
namespace Vm
open Go
open Go.RowKit (Below)
section
variable {c:Ctx} {B:Nat} {G:Nat→Prop} {s:St} {a a':Act} {w w' w0:World} {h h':GH} {g0:Gam} {ops:Array Oper} {xs:List XS} {draw:Bool} {L:Nat→Bool} {n0:Nat} {ds:List Deferred}
theorem jO{lets:List Nat}{all:Gam}{o:Oper}{os:OS}(hst:R0 c lets ops all o=some os): ∀t∈os.rb,t∈os.ps:=by
 unfold R0 at hst;simp only at hst;split at hst
 ·cases hst
 ·simp only[Z8m]at hst;obtain⟨C,_,hst⟩:=hst;split at hst
  ·unfold SB at hst;split at hst
   ·cases hst
   ·simp only[Z8m]at hst;obtain⟨as,_,hst⟩:=hst;split at hst
    ·cases hst
    ·simp only[Z8l]at hst;subst hst;intro t ht;rcases Za9.1 ht with rfl;simp
  ·cases hst
  split at hst
  ·unfold J1 at hst;split at hst
   ·cases hst
   ·simp only[Z8p]at hst;obtain⟨as,_,rfl⟩:=hst;exact fun t ht=>ht
  ·cases hst
  ·split at hst
   ·unfold jr at hst;split at hst
    ·split at hst
     ·split at hst
      ·cases hst
      ·simp only[Z8l]at hst;subst hst;exact fun t ht=>ht
     ·cases hst
    ·split at hst
     ·cases hst
     ·simp only[Z8l]at hst;subst hst;exact fun t ht=>ht
   ·split at hst
    ·cases hst
    ·simp only[Z8m]at hst;obtain⟨m,_,hst⟩:=hst;split at hst
     ·rename_i hsub;simp only[Z8u,Z8A,Z9z,Z8L]at hsub;simp only[Z8l]at hst;subst hst;exact hsub.1.2
     ·cases hst
structure Frm (Kf:Nat→Prop) (fx:Nat→Prop) (T0:Array Value) (B:Nat) (w0:World) (a:Act) (w:World):Prop where
 below:Below B w0 w
 same:Same Kf w0 w
 fix: ∀t,fx t→a.tmps[t]? =T0[t]?
theorem Frm.refl{Kf fx:Nat→Prop}{B:Nat}(a:Act)(w:World):Frm Kf fx a.tmps B w a w:=⟨.refl _ _,.refl _ _,fun _ _=>rfl⟩
theorem Frm.trans{Kf fx:Nat→Prop}{T0:Array Value}{B:Nat}{w0 w w':World}{a a':Act}(h:Frm Kf fx T0 B w0 a w)(h':Frm Kf fx a.tmps B w a' w'):Frm Kf fx T0 B w0 a' w':=
 ⟨h.below.trans h'.below,h.same.trans h'.same,fun t ht=>(h'.fix t ht).trans (h.fix t ht)⟩
variable {Kf fx:Nat→Prop} {T0:Array Value}
theorem Step.K_same{ps rb fz:List Nat}(hs:Step B ps rb fz w w' h h')(hok:Ok B G w h):Same h.K w w':=
 fun b hb=>hs.same b (hok.k_lt b hb) fun p _ i hi=>hok.k_bl p i b hi hb
def RInv(Kf fx:Nat→Prop)(T0:Array Value)(c:Ctx)(B:Nat)(G:Nat→Prop)(s:St)(g0:Gam)(xs:List XS)(w0:World)(n0:Nat)(ds:List Deferred)(L:Nat→Bool)(a:Act)(w:World):Prop:=
 (∃h,RelG c B G s a w h (gL xs 0 L g0)∧h.K=Kf)∧Frm Kf fx T0 B w0 a w∧a.tmps.size=n0∧a.defers=ds∧Rz xs L
theorem SM(hfx: ∀o∈ops,∀d,o.dst=some d→ ¬fx d)(hf:Reg.Fine c draw ops g0 xs)(hs: ∀x∈xs,okOS c.P s x.os)(hn:c.n≤n0)(hI:RInv Kf fx T0 c B G s g0 xs w0 n0 ds L a w){i:Nat}{x:XS}(hx:xs[i]? =some x)(hi:L i=false)(hT: ∀j∈x.T,L j=true)
  {Q:Exit→Act→World→Prop} {K:Act→World→Prop} (hK: ∀a' w',RInv Kf fx T0 c B G s g0 xs w0 n0 ds (add L i) a' w'→K a' w'):wpOp c.P ops Q i K a w:=by
 obtain⟨⟨h,hr,hKf⟩,hb,hsz,hds,hcl⟩:=hI;have hlt:i<ops.size:=by rw[←hf.len];exact(Z8o.1 hx).1
 obtain⟨e1,e2,e3,e4⟩:=hf.at_ i ops[i] x (Z98 hlt) hx;have hro:=hf.only hcl hr hx hi hT;have hrb:=jO e1;refine yI (R:=x.R) (Z98 hlt) e2 hro e1 (hs x (Z8x hx)) (by rw[hsz];exact hn) fun a' w' h' hp hput=>hK a' w' ⟨⟨h',hf.next hcl hr hx hi hrb hT hp,hp.step.K.trans hKf⟩,hb.trans ⟨hp.step.below,by rw[←hKf];exact hp.step.K_same hr.ok,fun t ht=> ?_⟩,by rw[hp.size,hsz],by rw[hp.defers,hds],qu hcl hx hT⟩;obtain⟨u,rfl⟩:=hput;cases hd:(ops[i]).dst with
 |none=>rfl
 |some d=>exact Su (fun e=>by subst e;exact hfx _ (Array.getElem_mem hlt) t hd ht) u
theorem So(hfx: ∀o∈ops,∀d,o.dst=some d→ ¬fx d)(hf:Reg.Fine c false ops g0 xs)(hs: ∀x∈xs,okOS c.P s x.os)(hn:c.n≤n0){Q:Exit→Act→World→Prop}(hQ: ∀a w,RInv Kf fx T0 c B G s g0 xs w0 n0 ds (fun i=>decide (i<ops.size)) a w→Q .normal a w):
  ∀(m k:Nat) (a:Act) (w:World),k+m=ops.size→RInv Kf fx T0 c B G s g0 xs w0 n0 ds (fun i=>decide (i<k)) a w→wpOps c.P ops Q (List.range' k m) a w
 |0,k,a,w,hk,hI=>by
  simp only[List.range'_zero,wpOps];have:k=ops.size:=by omega
  subst this;exact hQ a w hI
 |m+1,k,a,w,hk,hI=>by
  rw[List.range'_succ,wpOps_cons];have hlt:k<xs.length:=by rw[hf.len];omega
  have hlt':k<ops.size:=by omega
  obtain⟨_,_,e3,_⟩:=hf.at_ k ops[k] xs[k] (Z98 hlt') (Z8n hlt);refine SM hfx hf hs hn hI (Z8n hlt) (by simp) (fun j hj=> ?_) fun a' w' hI'=>So hfx hf hs hn hQ m (k+1) a' w' (by omega) ?_
  ·rw[e3]at hj;simp only[qz,Z8U,Z9f,Z9T,Z9N]at hj;simp;omega
  ·have:add (fun i=>decide (i<k)) k=fun i=>decide (i<k+1):=by
    funext i;simp only[add];by_cases h1:i<k
    ·have h2:i<k+1:=by omega
     simp[h1,h2]
    ·by_cases h2:i=k
     ·subst h2;simp
     ·have h3: ¬i<k+1:=by omega
      simp[h1,h2,h3]
   rw[this]at hI';exact hI'
def unl(n:Nat)(L:Nat→Bool):Nat:=((List.range n).filter fun i=> !L i).length
theorem KB{p q:Nat→Bool}: ∀ {l:List Nat},(∀i∈l,q i=true→p i=true)→(∃i∈l,p i=true∧q i=false)→(l.filter q).length< (l.filter p).length
 | [],_,⟨i,hi,_⟩=>by simp at hi
 |x::l,hpq,⟨i,hi,h1,h2⟩=>by
  have hle: ∀(l:List Nat),(∀i∈l,q i=true→p i=true)→(l.filter q).length≤(l.filter p).length:=by
   intro l
   induction l with
   |nil=>intro _;simp
   |cons y l ih=>
    intro hl;have:=ih fun i hi=>hl i (by simp[hi]);have hy:=hl y (by simp);simp only[ZaY];split
    ·rename_i hq;rw[if_pos (hy hq)];simp;exact this
    ·split
     ·simp;omega
     ·exact this
  have hx:=hpq x (by simp);have hl:=hle l fun i hi=>hpq i (by simp[hi]);simp only[ZaY];rcases Z8V.1 hi with rfl|hi
  ·rw[h1,h2];simp;omega
  ·have:=KB (l:=l) (fun i hi=>hpq i (by simp[hi])) ⟨i,hi,h1,h2⟩;split
   ·rename_i hq;rw[if_pos (hx hq)];simp;exact this
   ·split
    ·simp;omega
    ·exact this
theorem jH{n:Nat}{L:Nat→Bool}{i:Nat}(hi:i<n)(hl:L i=false):unl n (add L i) <unl n L:=
 KB (fun j _ hj=>by simp only[add,Z9l,Bool.or_eq_false_iff]at hj⊢;exact hj.1) ⟨i,by simpa using hi,by simp[hl],by simp[add]⟩
theorem yf{n:Nat}{L:Nat→Bool}(h:unl n L=0): ∀i,i<n→L i=true:=by
 intro i hi;cases hl:L i with
 |true=>rfl
 |false=>
  have:i∈(List.range n).filter fun i=> !L i:=by simp[hi,hl]
  have h0:=Z95 h;rw[h0]at this;simp at this
theorem JP{o:Oper}{e:Edge}(he:e∈o.after)(hb:Region.binds .any e=true):e.on∈YX o:=by
 simp only[YX,Z8S,Zb3];exact⟨e,⟨ZaR.2 he,hb⟩,rfl⟩
theorem Kw{o:Oper}{j:Nat}(hj:j∈YX o): ∃e∈o.after,Region.binds .any e=true∧e.on=j:=by
 simp only[YX,Z8S,Zb3]at hj;obtain⟨e,⟨h1,h2⟩,h3⟩:=hj;exact⟨e,ZaR.1 h1,h2,h3⟩
theorem qx(hfx: ∀o∈ops,∀d,o.dst=some d→ ¬fx d)(hf:Reg.Fine c true ops g0 xs)(hs: ∀x∈xs,okOS c.P s x.os)(hn:c.n≤n0){Q:Exit→Act→World→Prop}(hQ: ∀a w L,(∀i,i<ops.size→L i=true)→RInv Kf fx T0 c B G s g0 xs w0 n0 ds L a w→Q .normal a w):
  ∀(fuel:Nat) (listed:Array Bool) (a:Act) (w:World),listed.size=ops.size→unl ops.size (fun i=>listed.getD i false)≤fuel→RInv Kf fx T0 c B G s g0 xs w0 n0 ds (fun i=>listed.getD i false) a w→wpAny c.P .any ops Q fuel listed a w:=by
 have hgd: ∀(listed:Array Bool) (i:Nat),listed.size=ops.size→i<ops.size→listed.getD i true=listed.getD i false:=by
  intro listed i h1 h2;simp[Z8q,h1,h2]
 have hempty: ∀(listed:Array Bool),listed.size=ops.size→Region.ready .any ops listed= []→ ∀i,i<ops.size→listed.getD i false=true:=by
  intro listed hsz hr i
  induction i using Nat.strongRecOn with
  |_ i ih=>
   intro hi;cases hl:listed.getD i false with
   |true=>rfl
   |false=>
    have hlx:i<xs.length:=by rw[hf.len];exact hi
    obtain⟨_,_,_,e4⟩:=hf.at_ i ops[i] xs[i] (Z98 hi) (Z8n hlx)
    have:i∈Region.ready .any ops listed:=Zc0.2 ⟨by rw[hgd listed i hsz hi];exact hl,ops[i],Z98 hi,fun e he hb=>by
     have hlt:=e4 rfl e.on (JP he hb);exact ih e.on hlt (by omega)⟩
    rw[hr]at this;simp at this
 intro fuel
 induction fuel with
 |zero=>
  intro listed a w hsz hu hI;have hall:=yf (Nat.le_zero.1 hu);refine⟨?_,hQ a w _ hall hI⟩;cases hr:Region.ready .any ops listed with
  |nil=>rfl
  |cons i r=>
   have:i∈Region.ready .any ops listed:=by rw[hr];simp
   obtain⟨h1,o,ho,_⟩:=Zc0.1 this;have hi:i<ops.size:=(Z8Z.1 ho).1;rw[hgd listed i hsz hi,hall i hi]at h1;cases h1
 |succ fuel ih=>
  intro listed a w hsz hu hI;refine⟨fun hr=>hQ a w _ (hempty listed hsz hr) hI,fun i hi=> ?_⟩;obtain⟨h1,o,ho,hall⟩:=Zc0.1 hi;have hlt:i<ops.size:=(Z8Z.1 ho).1;have hlx:i<xs.length:=by rw[hf.len];exact hlt
  rw[hgd listed i hsz hlt]at h1;obtain⟨_,_,e3,e4⟩:=hf.at_ i o xs[i] ho (Z8n hlx);have hcl:=hI.2.2.2.2
  have hadd:(fun j=>(listed.setIfInBounds i true).getD j false)=add (fun i=>listed.getD i false) i:=by
   funext j;simp only[add];by_cases hji:j=i
   ·subst hji;have:j<listed.size:=by omega
    simp[Z8q,this]
   ·have:(listed.setIfInBounds i true).getD j false=listed.getD j false:=getD_set_ne false (Zab hji);rw[this];simp[hji]
  refine SM hfx hf hs hn hI (Z8n hlx) h1 (fun j hj=> ?_) fun a' w' hI'=>ih _ a' w' (by simpa using hsz) ?_ (by rw[hadd];exact hI')
  ·rw[e3]at hj;simp only[qz,Z9c,Zb3,Z9T,Z9Z,Z8J,Z99,Z9z,Z8L]at hj;obtain⟨_,e,he,hje⟩:=hj;obtain⟨ed,h2,h3,rfl⟩:=Kw he;have hed:=hall ed h2 h3;rcases hje with rfl|hjT
   ·exact hed
   ·have hlte:=e4 rfl ed.on he;have hlxe:ed.on<xs.length:=by omega
    unfold Tof at hjT;rw[Z8T,if_pos hlte,Z8n hlxe]at hjT;exact hcl ed.on _ (Z8n hlxe) hed j hjT
  ·rw[hadd];have:=jH (n:=ops.size) (L:=fun i=>listed.getD i false) hlt h1;omega
theorem RelG.drew{g:Gam}(hr:RelG c B G s a w h g):RelG c B G s a {w with drawn:=w.drawn+1} h g:=by
 have hst:Step B [] [] [] w {w with drawn:=w.drawn+1} h h:=⟨⟨rfl,rfl,rfl,Z8v _,fun _ _=>rfl⟩,fun _ _ _=>rfl,fun _ hb=>hb,fun _ _ _=>rfl,fun _ _=>rfl,fun _ _ _ _ hm=>(by simp at hm),rfl⟩;have hok:Ok B G {w with drawn:=w.drawn+1} h:=⟨hr.ok.base,hr.ok.f_lt,hr.ok.f_or,hr.ok.g_F,hr.ok.b_lt,hr.ok.inj,hr.ok.k_lt,hr.ok.k_bl,hr.ok.k_F⟩;refine⟨hok,fun t hC hn=> ?_,hr.skip⟩;obtain⟨v,hv,hk⟩:=hr.at_ t hC hn
 exact⟨v,hv,hk.keep hst hr.ok (fun _ h=>h) (by simp) (fun h=>by simp at h) (by
  have:US [] (g.at t).2=false:=by cases(g.at t).2<;>simp[US]
  simp[calm,this]) fun _ _=>rfl⟩
theorem qd(hm:draw=true→c.P.follows .mixedOrders=true){id:Nat}(hf:Reg.Fine c draw ops g0 xs)(hs: ∀x∈xs,okOS c.P s x.os)(hn:c.n≤a.tmps.size)(hr:RelG c B G s a w h g0)(hfx: ∀o∈ops,∀d,o.dst=some d→ ¬fx d)
  {Q:Exit→Act→World→Prop} (hQ: ∀a' w' h',RelG c B G s a' w' h' (gAll xs g0)→h'.K=h.K→Frm h.K fx a.tmps B w a' w'→a'.tmps.size=a.tmps.size→a'.defers=a.defers→Q .normal a' w'):(Code.region id ops draw).wp c.P Q a w:=by
 have hcl0: ∀(L:Nat→Bool),(∀i,L i=false)→Rz xs L:=fun L hL i x _ hi=>by rw[hL i]at hi;cases hi
 have hg0: ∀(L:Nat→Bool),(∀i,L i=false)→ ∀t,(gL xs 0 L g0).at t=g0.at t:=fun L hL t=>Lz fun i x _ hi=>by rw[hL]at hi;cases hi
 have hrel0: ∀ {w:World} (L:Nat→Bool),(∀i,L i=false)→RelG c B G s a w h g0→RelG c B G s a w h (gL xs 0 L g0):=fun L hL hr=>
  ⟨hr.ok,fun t=>by rw[hg0 L hL t];exact hr.at_ t,fun t=>by rw[hg0 L hL t];exact hr.skip t⟩
 have hfin: ∀ {a':Act} {w1 w':World} (L:Nat→Bool),(∀i,i<ops.size→L i=true)→RInv h.K fx a.tmps c B G s g0 xs w1 a.tmps.size a.defers L a' w'→Frm h.K fx a.tmps B w a w1→Q .normal a' w':=by
  rintro a' w1 w' L hL ⟨⟨h',hr',hK'⟩,hb,h1,h2,_⟩ hb0;refine hQ a' w' h' ?_ hK' (hb0.trans hb) h1 h2
  have hg: ∀t,(gL xs 0 L g0).at t=(gAll xs g0).at t:=by
   intro t;have:=Lw (xs:=xs) (k:=0) (j:=xs.length) (g:=g0);rw[Za1]at this;rw[←this];refine TE (fun i x hx _=> ?_) rfl;have hlt:=(Z8o.1 hx).1;rw[Z97,hL i (by rw[←hf.len];exact hlt)];simp[hlt]
  exact⟨hr'.ok,fun t=>by rw[←hg t];exact hr'.at_ t,fun t=>by rw[←hg t];exact hr'.skip t⟩
 cases draw with
 |false=>
  refine wp_region ?_;rw[List.range_eq_range'];refine So (Kf:=h.K) (T0:=a.tmps) hfx hf hs hn (w0:=w) (n0:=a.tmps.size) (ds:=a.defers) (fun a' w' hI=>hfin _ (fun i hi=>by simp[hi]) hI (Frm.refl _ _)) ops.size 0 a w (by omega) ⟨⟨h,hrel0 _ (fun i=>by simp) hr,rfl⟩,Frm.refl _ _,rfl,rfl,hcl0 _ fun i=>by simp⟩
 |true=>
  refine wp_region_any (hm rfl) ?_
  have hL0: ∀i,(Array.replicate ops.size false).getD i false=false:=fun i=>by
   simp only[Z8q,ZbL];split<;>rfl
  refine qx (Kf:=h.K) (T0:=a.tmps) hfx hf hs hn (w0:= {w with drawn:=w.drawn+1}) (n0:=a.tmps.size) (ds:=a.defers) (fun a' w' L hL hI=>hfin L hL hI ⟨⟨rfl,rfl,rfl,Z8v _,fun _ _=>rfl⟩,fun _ _=>rfl,fun _ _=>rfl⟩) ops.size _ a _ (by simp) ?_ ⟨⟨h,hrel0 _ hL0 hr.drew,rfl⟩,Frm.refl _ _,rfl,rfl,hcl0 _ hL0⟩;exact Z8Y (Zc1 _ _) (by simp)
end
end Vm
namespace Vm
open Go
mutual
theorem Z2{s t:St}: ∀(e:E),(∀j,E.asks j e=true→get s j=get t j)→eval s e=eval t e
 | .c v,_=>rfl
 | .s u,h=>by simp only[eval];rw[h u (by simp[E.asks])]
 | .m u i,h=>by simp only[eval];rw[h u (by simp[E.asks])]
 | .mm u i n,h=>by simp only[eval];rw[h u (by simp[E.asks])]
 | .bin op a b,h=>by simp only[eval];rw[Z2 a fun j hj=>h j (by simp[E.asks,hj]),Z2 b fun j hj=>h j (by simp[E.asks,hj])]
 | .eqv n a b,h=>by simp only[eval];rw[Z2 a fun j hj=>h j (by simp[E.asks,hj]),Z2 b fun j hj=>h j (by simp[E.asks,hj])]
 | .un op a,h=>by simp only[eval];rw[Z2 a fun j hj=>h j (by simp[E.asks,hj])]
 | .conv k a,h=>by simp only[eval];rw[Z2 a fun j hj=>h j (by simp[E.asks,hj])]
 | .len a,h=>by simp only[eval];rw[Z2 a fun j hj=>h j (by simp[E.asks,hj])]
 | .mn a b,h=>by simp only[eval];rw[Z2 a fun j hj=>h j (by simp[E.asks,hj]),Z2 b fun j hj=>h j (by simp[E.asks,hj])]
 | .mx a b,h=>by simp only[eval];rw[Z2 a fun j hj=>h j (by simp[E.asks,hj]),Z2 b fun j hj=>h j (by simp[E.asks,hj])]
 | .ext a i,h=>by simp only[eval];rw[Z2 a fun j hj=>h j (by simp[E.asks,hj])]
 | .idx a b k,h=>by simp only[eval];rw[Z2 a fun j hj=>h j (by simp[E.asks,hj]),Z2 b fun j hj=>h j (by simp[E.asks,hj])]
 | .fld a o,h=>by simp only[eval];rw[Z2 a fun j hj=>h j (by simp[E.asks,hj])]
 | .flds a o n,h=>by simp only[eval];rw[Z2 a fun j hj=>h j (by simp[E.asks,hj])]
 | .ai a b n k g,h=>by simp only[eval];rw[Z2 a fun j hj=>h j (by simp[E.asks,hj]),Z2 b fun j hj=>h j (by simp[E.asks,hj])]
 | .slc a b d k,h=>by simp only[eval];rw[Z2 a fun j hj=>h j (by simp[E.asks,hj]),Z2 b fun j hj=>h j (by simp[E.asks,hj]),Z2 d fun j hj=>h j (by simp[E.asks,hj])]
 | .slcl a b k,h=>by simp only[eval];rw[Z2 a fun j hj=>h j (by simp[E.asks,hj]),Z2 b fun j hj=>h j (by simp[E.asks,hj])]
 | .app a b k,h=>by simp only[eval];rw[Z2 a fun j hj=>h j (by simp[E.asks,hj]),Z2 b fun j hj=>h j (by simp[E.asks,hj])]
 | .upd a b o d,h=>by simp only[eval];rw[Z2 a fun j hj=>h j (by simp[E.asks,hj]),Z2 b fun j hj=>h j (by simp[E.asks,hj]),Z2 d fun j hj=>h j (by simp[E.asks,hj])]
 | .aput a b n k d,h=>by simp only[eval];rw[Z2 a fun j hj=>h j (by simp[E.asks,hj]),Z2 b fun j hj=>h j (by simp[E.asks,hj]),Z2 d fun j hj=>h j (by simp[E.asks,hj])]
 | .mk z a,h=>by simp only[eval];rw[Z2 a fun j hj=>h j (by simp[E.asks,hj])]
 | .lit l,h=>by simp only[eval];rw[Yp l fun j hj=>h j (by simp[E.asks,hj])]
 | .ag l,h=>by simp only[eval];rw[Yp l fun j hj=>h j (by simp[E.asks,hj])]
 | .pt f l,h=>by simp only[eval];rw[Yp l fun j hj=>h j (by simp[E.asks,hj])]
 | .ite a b d,h=>by simp only[eval];rw[Z2 a fun j hj=>h j (by simp[E.asks,hj]),Z2 b fun j hj=>h j (by simp[E.asks,hj]),Z2 d fun j hj=>h j (by simp[E.asks,hj])]
 | .star a,h=>by simp only[eval];rw[Z2 a fun j hj=>h j (by simp[E.asks,hj])]
 | .isag a,h=>by simp only[eval];rw[Z2 a fun j hj=>h j (by simp[E.asks,hj])]
 | .one a,h=>by simp only[eval];rw[Z2 a fun j hj=>h j (by simp[E.asks,hj])]
 | .sz a n,h=>by simp only[eval];rw[Z2 a fun j hj=>h j (by simp[E.asks,hj])]
 | .fl a,h=>by simp only[eval];rw[Z2 a fun j hj=>h j (by simp[E.asks,hj])]
 | .fls a,h=>by simp only[eval];rw[Z2 a fun j hj=>h j (by simp[E.asks,hj])]
 | .lk kc a b z ok,h=>by simp only[eval];rw[Z2 a fun j hj=>h j (by simp[E.asks,hj]),Z2 b fun j hj=>h j (by simp[E.asks,hj])]
 | .mput kc a b d,h=>by simp only[eval];rw[Z2 a fun j hj=>h j (by simp[E.asks,hj]),Z2 b fun j hj=>h j (by simp[E.asks,hj]),Z2 d fun j hj=>h j (by simp[E.asks,hj])]
 | .mlen a,h=>by simp only[eval];rw[Z2 a fun j hj=>h j (by simp[E.asks,hj])]
 | .mclr a,h=>by simp only[eval];rw[Z2 a fun j hj=>h j (by simp[E.asks,hj])]
theorem Yp{s t:St}: ∀(l:List E),(∀j,E.asksIn j l=true→get s j=get t j)→Y0 s l=Y0 t l
 | [],_=>rfl
 |e::l,h=>by simp only[Y0];rw[Z2 e fun j hj=>h j (by simp[E.asksIn,hj]),Yp l fun j hj=>h j (by simp[E.asksIn,hj])]
end
mutual
theorem V.same_eq: ∀(a b:V),V.same a b=true→a=b
 | .int k n,b,h=>by
   cases b<;>simp only[V.same]at h<;>first| (cases h;done) |skip
   simp at h;rw[h.1,h.2]
 | .bool x,b,h=>by
   cases b<;>simp only[V.same]at h<;>first| (cases h;done) |skip
   simp at h;rw[h]
 | .str x,b,h=>by cases b<;>simp[V.same]at h
 | .sl l,b,h=>by
   cases b<;>simp only[V.same]at h<;>first| (cases h;done) |skip
   rw[V.sames_eq l _ h]
 | .agg l,b,h=>by
   cases b<;>simp only[V.same]at h<;>first| (cases h;done) |skip
   rw[V.sames_eq l _ h]
 | .tup l,b,h=>by
   cases b<;>simp only[V.same]at h<;>first| (cases h;done) |skip
   rw[V.sames_eq l _ h]
 | .ptr l,b,h=>by cases b<;>simp[V.same]at h
 | .clo f l,b,h=>by cases b<;>simp[V.same]at h
 | .nul k,b,h=>by cases b<;>simp[V.same]at h
 | .fn f,b,h=>by
   cases b<;>simp only[V.same]at h<;>first| (cases h;done) |skip
   simp at h;rw[h]
 | .mp id ks vs,b,h=>by
   cases b<;>simp only[V.same,Z8u,Z99]at h<;>first| (cases h;done) |skip
   rw[h.1.1,V.sames_eq ks _ h.1.2,V.sames_eq vs _ h.2]
theorem V.sames_eq: ∀(a b:List V),V.sames a b=true→a=b
 | [],b,h=>by cases b<;>simp[V.sames]at h⊢
 |x::l,b,h=>by
  cases b with
  |nil=>simp[V.sames]at h
  |cons y r=>
   simp only[V.sames,Z8u]at h;rw[V.same_eq x y h.1,V.sames_eq l r h.2]
end
mutual
theorem E.same_eq: ∀(a b:E),E.same a b=true→a=b
 | .c v,b,h=>by
   cases b<;>simp only[E.same]at h<;>first| (cases h;done) |skip
   rw[V.same_eq v _ h]
 | .s u,b,h=>by
   cases b<;>simp only[E.same,Z99,Z8u]at h<;>first| (cases h;done) |skip
   rw[h]
 | .m u i,b,h=>by
   cases b<;>simp only[E.same,Z99,Z8u]at h<;>first| (cases h;done) |skip
   rw[h.1,h.2]
 | .mm u i n,b,h=>by
   cases b<;>simp only[E.same,Z99,Z8u]at h<;>first| (cases h;done) |skip
   rw[h.1.1,h.1.2,h.2]
 | .bin op x y,b,h=>by
   cases b<;>simp only[E.same,Z8L,Z8u]at h<;>first| (cases h;done) |skip
   rw[h.1.1,E.same_eq x _ h.1.2,E.same_eq y _ h.2]
 | .eqv op x y,b,h=>by
   cases b<;>simp only[E.same,Z99,Z8u]at h<;>first| (cases h;done) |skip
   rw[h.1.1,E.same_eq x _ h.1.2,E.same_eq y _ h.2]
 | .un op x,b,h=>by
   cases b<;>simp only[E.same,Z8L,Z8u]at h<;>first| (cases h;done) |skip
   rw[h.1,E.same_eq x _ h.2]
 | .conv k x,b,h=>by
   cases b<;>simp only[E.same,Z8L,Z8u]at h<;>first| (cases h;done) |skip
   rw[h.1,E.same_eq x _ h.2]
 | .len x,b,h=>by
   cases b<;>simp only[E.same]at h<;>first| (cases h;done) |skip
   rw[E.same_eq x _ h]
 | .mn x y,b,h=>by
   cases b<;>simp only[E.same,Z8u]at h<;>first| (cases h;done) |skip
   rw[E.same_eq x _ h.1,E.same_eq y _ h.2]
 | .mx x y,b,h=>by
   cases b<;>simp only[E.same,Z8u]at h<;>first| (cases h;done) |skip
   rw[E.same_eq x _ h.1,E.same_eq y _ h.2]
 | .ext x i,b,h=>by
   cases b<;>simp only[E.same,Z99,Z8u]at h<;>first| (cases h;done) |skip
   rw[E.same_eq x _ h.1,h.2]
 | .idx x y k,b,h=>by
   cases b<;>simp only[E.same,Z99,Z8u]at h<;>first| (cases h;done) |skip
   rw[E.same_eq x _ h.1.1,E.same_eq y _ h.1.2,h.2]
 | .fld x o,b,h=>by
   cases b<;>simp only[E.same,Z99,Z8u]at h<;>first| (cases h;done) |skip
   rw[E.same_eq x _ h.1,h.2]
 | .flds x o n,b,h=>by
   cases b<;>simp only[E.same,Z99,Z8u]at h<;>first| (cases h;done) |skip
   rw[E.same_eq x _ h.1.1,h.1.2,h.2]
 | .ai x y n k g,b,h=>by
   cases b<;>simp only[E.same,Z99,Z8u]at h<;>first| (cases h;done) |skip
   rw[E.same_eq x _ h.1.1.1.1,E.same_eq y _ h.1.1.1.2,h.1.1.2,h.1.2,h.2]
 | .slc x y z k,b,h=>by
   cases b<;>simp only[E.same,Z99,Z8u]at h<;>first| (cases h;done) |skip
   rw[E.same_eq x _ h.1.1.1,E.same_eq y _ h.1.1.2,E.same_eq z _ h.1.2,h.2]
 | .slcl x y k,b,h=>by
   cases b<;>simp only[E.same,Z99,Z8u]at h<;>first| (cases h;done) |skip
   rw[E.same_eq x _ h.1.1,E.same_eq y _ h.1.2,h.2]
 | .app x y k,b,h=>by
   cases b<;>simp only[E.same,Z99,Z8u]at h<;>first| (cases h;done) |skip
   rw[E.same_eq x _ h.1.1,E.same_eq y _ h.1.2,h.2]
 | .upd x y o z,b,h=>by
   cases b<;>simp only[E.same,Z99,Z8u]at h<;>first| (cases h;done) |skip
   rw[E.same_eq x _ h.1.1.1,E.same_eq y _ h.1.1.2,h.1.2,E.same_eq z _ h.2]
 | .aput x y n k z,b,h=>by
   cases b<;>simp only[E.same,Z99,Z8u]at h<;>first| (cases h;done) |skip
   rw[E.same_eq x _ h.1.1.1.1,E.same_eq y _ h.1.1.1.2,h.1.1.2,h.1.2,E.same_eq z _ h.2]
 | .mk v x,b,h=>by
   cases b<;>simp only[E.same,Z8u]at h<;>first| (cases h;done) |skip
   rw[V.same_eq v _ h.1,E.same_eq x _ h.2]
 | .lit l,b,h=>by
   cases b<;>simp only[E.same]at h<;>first| (cases h;done) |skip
   rw[E.sames_eq l _ h]
 | .pt f l,b,h=>by
   cases b<;>simp only[E.same,Z8u,Z99]at h<;>first| (cases h;done) |skip
   rw[h.1,E.sames_eq l _ h.2]
 | .ag l,b,h=>by
   cases b<;>simp only[E.same]at h<;>first| (cases h;done) |skip
   rw[E.sames_eq l _ h]
 | .ite x y z,b,h=>by
   cases b<;>simp only[E.same,Z8u]at h<;>first| (cases h;done) |skip
   rw[E.same_eq x _ h.1.1,E.same_eq y _ h.1.2,E.same_eq z _ h.2]
 | .star x,b,h=>by
   cases b<;>simp only[E.same]at h<;>first| (cases h;done) |skip
   rw[E.same_eq x _ h]
 | .isag x,b,h=>by
   cases b<;>simp only[E.same]at h<;>first| (cases h;done) |skip
   rw[E.same_eq x _ h]
 | .one x,b,h=>by
   cases b<;>simp only[E.same]at h<;>first| (cases h;done) |skip
   rw[E.same_eq x _ h]
 | .sz x n,b,h=>by
   cases b<;>simp only[E.same,Z99,Z8u]at h<;>first| (cases h;done) |skip
   rw[E.same_eq x _ h.1,h.2]
 | .fl x,b,h=>by
   cases b<;>simp only[E.same]at h<;>first| (cases h;done) |skip
   rw[E.same_eq x _ h]
 | .fls x,b,h=>by
   cases b<;>simp only[E.same]at h<;>first| (cases h;done) |skip
   rw[E.same_eq x _ h]
 | .lk kc x y z ok,b,h=>by
   cases b<;>simp only[E.same,Z99,Z8L,Z8u]at h<;>first| (cases h;done) |skip
   rw[h.1.1.1.1,E.same_eq x _ h.1.1.1.2,E.same_eq y _ h.1.1.2,V.same_eq z _ h.1.2,h.2]
 | .mput kc x y z,b,h=>by
   cases b<;>simp only[E.same,Z8L,Z8u]at h<;>first| (cases h;done) |skip
   rw[h.1.1.1,E.same_eq x _ h.1.1.2,E.same_eq y _ h.1.2,E.same_eq z _ h.2]
 | .mlen x,b,h=>by
   cases b<;>simp only[E.same]at h<;>first| (cases h;done) |skip
   rw[E.same_eq x _ h]
 | .mclr x,b,h=>by
   cases b<;>simp only[E.same]at h<;>first| (cases h;done) |skip
   rw[E.same_eq x _ h]
theorem E.sames_eq: ∀(a b:List E),E.sames a b=true→a=b
 | [],b,h=>by cases b<;>simp[E.sames]at h⊢
 |x::l,b,h=>by
  cases b with
  |nil=>simp[E.sames]at h
  |cons y r=>
   simp only[E.sames,Z8u]at h;rw[E.same_eq x y h.1,E.sames_eq l r h.2]
end
end Vm
namespace Vm
open Go
section
variable {s t:St}
theorem Z7{α β:Type}{x:Option α}{f:α→Option β}(h: ∃z,x.bind f=some z): ∃y,x=some y:=by
 obtain⟨z,hz⟩:=h;rw[Z8m]at hz;obtain⟨y,hy,_⟩:=hz;exact⟨y,hy⟩
theorem Zq{α β:Type}{x:Option α}{f:α→Option β}(h: ∃z,x.bind f=some z): ∃y,x=some y∧ ∃z,f y=some z:=by
 obtain⟨z,hz⟩:=h;rw[Z8m]at hz;obtain⟨y,hy,hz⟩:=hz;exact⟨y,hy,z,hz⟩
mutual
theorem Zd{x:E}: ∀(e:E),E.has x e=true→(∃v,eval s e=some v)→ ∃v,eval s x=some v
 | .c v,h,hv=>by
   simp only[E.has]at h;rw[E.same_eq _ _ h];exact hv
 | .s u,h,hv=>by
   simp only[E.has]at h;rw[E.same_eq _ _ h];exact hv
 | .m u i,h,hv=>by
   simp only[E.has]at h;rw[E.same_eq _ _ h];exact hv
 | .mm u i n,h,hv=>by
   simp only[E.has]at h;rw[E.same_eq _ _ h];exact hv
 | .bin op a b,h,hv=>by
   simp only[E.has,Z8J]at h;rcases h with (h|h) |h
   ·rw[E.same_eq _ _ h];exact hv
   ·exact Zd a h (Z7 hv)
   ·obtain⟨y,_,hz⟩:=Zq hv;exact Zd b h (Z7 hz)
 | .eqv op a b,h,hv=>by
   simp only[E.has,Z8J]at h;rcases h with (h|h) |h
   ·rw[E.same_eq _ _ h];exact hv
   ·exact Zd a h (Z7 hv)
   ·obtain⟨y,_,hz⟩:=Zq hv;exact Zd b h (Z7 hz)
 | .mn a b,h,hv=>by
   simp only[E.has,Z8J]at h;rcases h with (h|h) |h
   ·rw[E.same_eq _ _ h];exact hv
   ·exact Zd a h (Z7 hv)
   ·obtain⟨y,_,hz⟩:=Zq hv;exact Zd b h (Z7 hz)
 | .mx a b,h,hv=>by
   simp only[E.has,Z8J]at h;rcases h with (h|h) |h
   ·rw[E.same_eq _ _ h];exact hv
   ·exact Zd a h (Z7 hv)
   ·obtain⟨y,_,hz⟩:=Zq hv;exact Zd b h (Z7 hz)
 | .idx a b k,h,hv=>by
   simp only[E.has,Z8J]at h;rcases h with (h|h) |h
   ·rw[E.same_eq _ _ h];exact hv
   ·exact Zd a h (Z7 hv)
   ·obtain⟨y,_,hz⟩:=Zq hv;exact Zd b h (Z7 hz)
 | .ai a b n k g,h,hv=>by
   simp only[E.has,Z8J]at h;rcases h with (h|h) |h
   ·rw[E.same_eq _ _ h];exact hv
   ·exact Zd a h (Z7 hv)
   ·obtain⟨y,_,hz⟩:=Zq hv;exact Zd b h (Z7 hz)
 | .slcl a b k,h,hv=>by
   simp only[E.has,Z8J]at h;rcases h with (h|h) |h
   ·rw[E.same_eq _ _ h];exact hv
   ·exact Zd a h (Z7 hv)
   ·obtain⟨y,_,hz⟩:=Zq hv;exact Zd b h (Z7 hz)
 | .app a b k,h,hv=>by
   simp only[E.has,Z8J]at h;rcases h with (h|h) |h
   ·rw[E.same_eq _ _ h];exact hv
   ·exact Zd a h (Z7 hv)
   ·obtain⟨y,_,hz⟩:=Zq hv;exact Zd b h (Z7 hz)
 | .slc a b d k,h,hv=>by
   simp only[E.has,Z8J]at h;rcases h with ((h|h) |h) |h
   ·rw[E.same_eq _ _ h];exact hv
   ·exact Zd a h (Z7 hv)
   ·obtain⟨y,_,hz⟩:=Zq hv;exact Zd b h (Z7 hz)
   ·obtain⟨y,_,hz⟩:=Zq hv;obtain⟨y',_,hz'⟩:=Zq hz;exact Zd d h (Z7 hz')
 | .upd a b o d,h,hv=>by
   simp only[E.has,Z8J]at h;rcases h with ((h|h) |h) |h
   ·rw[E.same_eq _ _ h];exact hv
   ·exact Zd a h (Z7 hv)
   ·obtain⟨y,_,hz⟩:=Zq hv;exact Zd b h (Z7 hz)
   ·obtain⟨y,_,hz⟩:=Zq hv;obtain⟨y',_,hz'⟩:=Zq hz;exact Zd d h (Z7 hz')
 | .aput a b n k d,h,hv=>by
   simp only[E.has,Z8J]at h;rcases h with ((h|h) |h) |h
   ·rw[E.same_eq _ _ h];exact hv
   ·exact Zd a h (Z7 hv)
   ·obtain⟨y,_,hz⟩:=Zq hv;exact Zd b h (Z7 hz)
   ·obtain⟨y,_,hz⟩:=Zq hv;obtain⟨y',_,hz'⟩:=Zq hz;exact Zd d h (Z7 hz')
 | .un op a,h,hv=>by
   simp only[E.has,Z8J]at h;rcases h with h|h
   ·rw[E.same_eq _ _ h];exact hv
   ·exact Zd a h (Z7 hv)
 | .conv k a,h,hv=>by
   simp only[E.has,Z8J]at h;rcases h with h|h
   ·rw[E.same_eq _ _ h];exact hv
   ·exact Zd a h (Z7 hv)
 | .len a,h,hv=>by
   simp only[E.has,Z8J]at h;rcases h with h|h
   ·rw[E.same_eq _ _ h];exact hv
   ·exact Zd a h (Z7 hv)
 | .ext a i,h,hv=>by
   simp only[E.has,Z8J]at h;rcases h with h|h
   ·rw[E.same_eq _ _ h];exact hv
   ·exact Zd a h (Z7 hv)
 | .fld a o,h,hv=>by
   simp only[E.has,Z8J]at h;rcases h with h|h
   ·rw[E.same_eq _ _ h];exact hv
   ·exact Zd a h (Z7 hv)
 | .flds a o n,h,hv=>by
   simp only[E.has,Z8J]at h;rcases h with h|h
   ·rw[E.same_eq _ _ h];exact hv
   ·exact Zd a h (Z7 hv)
 | .mk z a,h,hv=>by
   simp only[E.has,Z8J]at h;rcases h with h|h
   ·rw[E.same_eq _ _ h];exact hv
   ·exact Zd a h (Z7 hv)
 | .star a,h,hv=>by
   simp only[E.has,Z8J]at h;rcases h with h|h
   ·rw[E.same_eq _ _ h];exact hv
   ·exact Zd a h (Z7 hv)
 | .isag a,h,hv=>by
   simp only[E.has,Z8J]at h;rcases h with h|h
   ·rw[E.same_eq _ _ h];exact hv
   ·exact Zd a h (Z7 hv)
 | .one a,h,hv=>by
   simp only[E.has,Z8J]at h;rcases h with h|h
   ·rw[E.same_eq _ _ h];exact hv
   ·exact Zd a h (Z7 hv)
 | .sz a n,h,hv=>by
   simp only[E.has,Z8J]at h;rcases h with h|h
   ·rw[E.same_eq _ _ h];exact hv
   ·exact Zd a h (Z7 hv)
 | .fl a,h,hv=>by
   simp only[E.has,Z8J]at h;rcases h with h|h
   ·rw[E.same_eq _ _ h];exact hv
   ·exact Zd a h (Z7 hv)
 | .fls a,h,hv=>by
   simp only[E.has,Z8J]at h;rcases h with h|h
   ·rw[E.same_eq _ _ h];exact hv
   ·exact Zd a h (Z7 hv)
 | .mlen a,h,hv=>by
   simp only[E.has,Z8J]at h;rcases h with h|h
   ·rw[E.same_eq _ _ h];exact hv
   ·exact Zd a h (Z7 hv)
 | .mclr a,h,hv=>by
   simp only[E.has,Z8J]at h;rcases h with h|h
   ·rw[E.same_eq _ _ h];exact hv
   ·exact Zd a h (Z7 hv)
 | .lk kc a b z ok,h,hv=>by
   simp only[E.has,Z8J]at h;rcases h with (h|h) |h
   ·rw[E.same_eq _ _ h];exact hv
   ·exact Zd a h (Z7 hv)
   ·obtain⟨y,_,hz⟩:=Zq hv;exact Zd b h (Z7 hz)
 | .mput kc a b d,h,hv=>by
   simp only[E.has,Z8J]at h;rcases h with ((h|h) |h) |h
   ·rw[E.same_eq _ _ h];exact hv
   ·exact Zd a h (Z7 hv)
   ·obtain⟨y,_,hz⟩:=Zq hv;exact Zd b h (Z7 hz)
   ·obtain⟨y,_,hz⟩:=Zq hv;obtain⟨y',_,hz'⟩:=Zq hz;exact Zd d h (Z7 hz')
 | .ite a b d,h,hv=>by
   simp only[E.has,Z8J]at h;rcases h with h|h
   ·rw[E.same_eq _ _ h];exact hv
   ·exact Zd a h (Z7 hv)
 | .lit l,h,hv=>by
   simp only[E.has,Z8J]at h;rcases h with h|h
   ·rw[E.same_eq _ _ h];exact hv
   ·obtain⟨v,hv⟩:=hv;simp only[eval,Z8p]at hv;obtain⟨ys,hys,_⟩:=hv;exact Ug l h ⟨ys,hys⟩
 | .pt f l,h,hv=>by
   simp only[E.has,Z8J]at h;rcases h with h|h
   ·rw[E.same_eq _ _ h];exact hv
   ·obtain⟨v,hv⟩:=hv;simp only[eval,Z8m]at hv;obtain⟨ys,hys,_⟩:=hv;exact Ug l h ⟨ys,hys⟩
 | .ag l,h,hv=>by
   simp only[E.has,Z8J]at h;rcases h with h|h
   ·rw[E.same_eq _ _ h];exact hv
   ·obtain⟨v,hv⟩:=hv;simp only[eval,Z8p]at hv;obtain⟨ys,hys,_⟩:=hv;exact Ug l h ⟨ys,hys⟩
theorem Ug{x:E}: ∀(l:List E),E.hasIn x l=true→(∃v,Y0 s l=some v)→ ∃v,eval s x=some v
 | [],h,_=>by simp[E.hasIn]at h
 |e::l,h,hv=>by
  obtain⟨v,hv⟩:=hv;simp only[Y0,Z8m,Z8p]at hv;obtain⟨y,hy,ys,hys,_⟩:=hv;simp only[E.hasIn,Z8J]at h;rcases h with h|h
  ·exact Zd e h ⟨y,hy⟩
  ·exact Ug l h ⟨ys,hys⟩
end
def S5(s:St)(l:List (Zg×E)):Prop:= ∀x∈l,holds s x.1→ ∃v,eval s x.2=some v
theorem Ko{C D:Zg}(h:U0 C D=true)(hd:holds s D):holds s C:=fun x hx=>by
 have:=Z8A.1 h x hx;exact hd x (by simpa using this)
theorem VY: ∀ {l r:List (Zg×E)},S5 s l→S5 s (Z1B l r)→S5 s r
 |l,[],_,_=>fun x hx=>by simp at hx
 |l,x::r,hl,hp=>by
  simp only[Z1B]at hp;split at hp
  ·rename_i hc;have hr:=VY hl hp;intro y hy hh;rcases Z8V.1 hy with rfl|hy
   ·simp only[jc,Z9Z,Z8u]at hc;obtain⟨z,hz,hz1,hz2⟩:=hc
    have hzs: ∃v,eval s z.2=some v:=by
     rcases Z90.1 hz with hz|hz
     ·exact hl z hz (Ko hz1 hh)
     ·exact hp z hz (Ko hz1 hh)
    exact Zd _ hz2 hzs
   ·exact hr y hy hh
  ·have hr:=VY hl fun y hy=>hp y (Z9h _ hy);intro y hy hh;rcases Z8V.1 hy with rfl|hy
   ·exact hp y (Zb4 ..) hh
   ·exact hr y hy hh
def putS:St→Nat→SV→St
 | [],0,x=> [x]
 | [],i+1,x=> .no::putS [] i x
 |_::s,0,x=>x::s
 |y::s,i+1,x=>y::putS s i x
theorem Y1: ∀(s:St) (i j:Nat) (x:SV),get (putS s i x) j=if j=i then x else get s j
 | [],0,0,x=>rfl
 | [],0,j+1,x=>by simp[putS,get]
 | [],i+1,0,x=>by simp[putS,get]
 | [],i+1,j+1,x=>by
   have:=Y1 [] i j x;simp only[get]at this;simp[putS,get,this]
 |y::s,0,0,x=>rfl
 |y::s,0,j+1,x=>by simp[putS,get]
 |y::s,i+1,0,x=>by simp[putS,get]
 |y::s,i+1,j+1,x=>by
  have:=Y1 s i j x;simp only[get]at this;simp[putS,get,this]
def Wd(s:St)(C:Zg):Bool:=C.all fun x=>match get s x.1 with| .v (.bool b)=>b==x.2|_=>false
theorem Xr{C:Zg}:Wd s C=true↔holds s C:=by
 simp only[Wd,Z8A,holds];constructor
 ·intro h x hx;have:=h x hx;split at this
  ·rename_i b hb;simp only[Z99]at this;rw[hb,this]
  ·cases this
 ·intro h x hx;rw[h x hx];simp
def wpE(P:Program):List EF→St→(St→Prop)→Prop
 | [],s,K=>K s
 | .lt i C e::l,s,K=>if Wd s C=true then(match eval s e with|some x=>wpE P l (putS s i (.v x)) K|none=>False)else wpE P l s K
 | .call i C f fr fl as::l,s,K=>if Wd s C=true then(match Y0 s as,fnV s f with|some xs,some n=> ∃r,VC P n.1 fr (xs++n.2) r∧(fl=true→flV r=some r)∧wpE P l (putS s i (.v r)) K|_,_=>False)else wpE P l s K
 | .callm i C f ks as::l,s,K=>if Wd s C=true then(match Y0 s as,fnOf s f with|some xs,some n=> ∃R,VCM P n ks xs R∧wpE P l (putS s i (.v R)) K|_,_=>False)
   else(match oldV s ks as with|some []=>wpE P l s K|some os=>wpE P l (putS s i (.v (.tup (.bool false::os)))) K|none=>False)
theorem Wz{C:Zg}(h: ∀j,C.any (fun x=>x.1==j)=true→get s j=get t j):holds s C↔holds t C:=by
 have: ∀x∈C,get s x.1=get t x.1:=fun x hx=>h x.1 (Z9Z.2 ⟨x,hx,by simp⟩);constructor
 ·intro hs x hx;rw[←this x hx];exact hs x hx
 ·intro hs x hx;rw[this x hx];exact hs x hx
theorem ZH{j:Nat}{l r:List E}:E.asksIn j (l++r)=(E.asksIn j l||E.asksIn j r):=by
 induction l with
 |nil=>simp[E.asksIn]
 |cons e l ih=>simp[E.asksIn,ih,Bool.or_assoc]
theorem RY{f:FN}(h: ∀j,E.asksIn j f.es=true→get s j=get t j):fnOf s f=fnOf t f:=by
 cases f with
 |id n=>rfl
 |e x=>simp only[fnOf];rw[Z2 x fun j hj=>h j (by simp[FN.es,E.asksIn,hj])]
theorem Ke{f:FN}(h: ∀j,E.asksIn j f.es=true→get s j=get t j):fnV s f=fnV t f:=by
 cases f with
 |id n=>rfl
 |e x=>simp only[fnV];rw[Z2 x fun j hj=>h j (by simp[FN.es,E.asksIn,hj])]
theorem UY: ∀ {ks:List OT} {as:List E},(∀j,E.asksIn j as=true→get s j=get t j)→oldV s ks as=oldV t ks as
 | [],as,_=>by simp[oldV]
 |k::ks,[],_=>by cases k<;>simp[oldV]
 |k::ks,e::as,h=>by
  have ih:=UY (ks:=ks) (as:=as) fun j hj=>h j (by simp[E.asksIn,hj]);have he:=Z2 e fun j hj=>h j (by simp[E.asksIn,hj]);cases k<;>simp only[oldV,ih,he]
theorem qc{P:Program}{x:EF}(h: ∀j,Yd j x=true→get s j=get t j)(hi:get s (efI x)=get t (efI x))(hs:EFok P s x):EFok P t x:=by
 cases x with
 |lt i C e=>
  intro hh;have h1:=(Wz (s:=s) (t:=t) (C:=C) fun j hj=>h j (by simp only[Yd,hj,ZaN])).2 hh;obtain⟨v,hv,hg⟩:=hs h1;exact⟨v,by rw[←Z2 e fun j hj=>h j (by simp only[Yd,hj,Za8])];exact hv,by rw[←hg];exact hi.symm⟩
 |call i C f fr fl as=>
  intro hh;have h1:=(Wz (s:=s) (t:=t) (C:=C) fun j hj=>h j (by simp only[Yd,hj,ZaN])).2 hh;obtain⟨xs,n,r,hv,hn,h2,h3,hg⟩:=hs h1;exact⟨xs,n,r,by rw[←Yp as fun j hj=>h j (by simp only[Yd,ZH,hj,Za8])];exact hv,by rw[←Ke (f:=f) fun j hj=>h j (by simp only[Yd,ZH,hj,ZaN,Za8])];exact hn,h2,h3,by rw[←hg];exact hi.symm⟩
 |callm i C f ks as=>
  have hC:=Wz (s:=s) (t:=t) (C:=C) fun j hj=>h j (by simp only[Yd,hj,ZaN]);have ha:=Yp as fun j hj=>h j (by simp only[Yd,ZH,hj,Za8]);have hf:=RY (f:=f) fun j hj=>h j (by simp only[Yd,ZH,hj,ZaN,Za8]);have ho:=UY (ks:=ks) (as:=as) fun j hj=>h j (by simp only[Yd,ZH,hj,Za8]);refine⟨fun hh=> ?_,fun hh=> ?_⟩
  ·obtain⟨xs,n,R,h1,h2,h3,h4⟩:=hs.1 (hC.2 hh);exact⟨xs,n,R,by rw[←ha];exact h1,by rw[←hf];exact h2,h3,by rw[←h4];exact hi.symm⟩
  ·obtain⟨os,h1,h2⟩:=hs.2 fun h'=>hh (hC.1 h');exact⟨os,by rw[←ho];exact h1,fun hne=>by rw[←h2 hne];exact hi.symm⟩
theorem JD{P:Program}{K:St→Prop}: ∀ {l:List EF} {s:St},Z2t l=true→wpE P l s K→ ∃t,K t∧(∀x∈l,EFok P t x)∧ ∀j,(∀x∈l,efI x≠j)→get t j=get s j
 | [],s,_,h=>⟨s,h,fun x hx=>by simp at hx,fun _ _=>rfl⟩
 |x::l,s,hok,h=>by
  simp only[Z2t,Z8u,Z9l,Z8A,Zbl,ne_eq]at hok;obtain⟨⟨hself,hl⟩,hok⟩:=hok
  have fin: ∀(s1:St),(∀j,j≠efI x→get s1 j=get s j)→EFok P s1 x→wpE P l s1 K→ ∃t,K t∧(∀y∈x::l,EFok P t y)∧ ∀j,(∀y∈x::l,efI y≠j)→get t j=get s j:=by
   intro s1 hs1 hx h;obtain⟨t,hK,hall,hag⟩:=JD hok h;refine⟨t,hK,fun y hy=> ?_,fun j hj=> ?_⟩
   ·rcases Z8V.1 hy with rfl|hy
    ·refine qc (s:=s1) (fun j hj=>(hag j fun y hy e=> ?_).symm) (hag _ fun y hy e=>(hl y hy).1 e).symm hx;subst e;have:=(hl y hy).2;rw[hj]at this;cases this
    ·exact hall y hy
   ·rw[hag j fun y hy=>hj y (by simp[hy]),hs1 j fun e=>hj x (by simp) e.symm]
  cases x with
  |lt i C e=>
   simp only[wpE]at h
   have hask: ∀(v:SV) (j:Nat),Yd j (.lt i C e)=true→get (putS s i v) j=get s j:=fun v j hj=>by
    rw[Y1,if_neg];intro e';subst e';exact absurd hj (by rw[show Yd j (.lt j C e)=false from hself];simp)
   split at h
   ·rename_i hh;split at h
    ·rename_i v hv;refine fin (putS s i (.v v)) (fun j hj=>by rw[Y1];exact if_neg hj) (fun _=>⟨v,?_,by rw[Y1,if_pos rfl]⟩) h;rw[Z2 e fun j hj=>hask _ j (by simp only[Yd,hj,Za8])];exact hv
    ·exact h.elim
   ·rename_i hh;exact fin s (fun _ _=>rfl) (fun hc=>absurd (Xr.2 hc) hh) h
  |call i C f fr fl as=>
   simp only[wpE]at h
   have hask: ∀(v:SV) (j:Nat),Yd j (.call i C f fr fl as)=true→get (putS s i v) j=get s j:=fun v j hj=>by
    rw[Y1,if_neg];intro e';subst e';exact absurd hj (by rw[show Yd j (.call j C f fr fl as)=false from hself];simp)
   split at h
   ·rename_i hh;split at h
    ·rename_i xs n hxs hn;obtain⟨r,h1,h2,h3⟩:=h;refine fin (putS s i (.v r)) (fun j hj=>by rw[Y1];exact if_neg hj) (fun _=>⟨xs,n,r,?_,?_,h1,h2,by rw[Y1,if_pos rfl]⟩) h3
     ·rw[Yp as fun j hj=>hask _ j (by simp only[Yd,ZH,hj,Za8])];exact hxs
     ·rw[Ke (f:=f) fun j hj=>hask _ j (by simp only[Yd,ZH,hj,ZaN,Za8])];exact hn
    ·exact h.elim
   ·rename_i hh;exact fin s (fun _ _=>rfl) (fun hc=>absurd (Xr.2 hc) hh) h
  |callm i C f ks as=>
   simp only[wpE]at h
   have hask: ∀(v:SV) (j:Nat),Yd j (.callm i C f ks as)=true→get s j=get (putS s i v) j:=fun v j hj=>by
    rw[Y1,if_neg];intro e';subst e';exact absurd hj (by rw[show Yd j (.callm j C f ks as)=false from hself];simp)
   have hC: ∀v,holds s C↔holds (putS s i v) C:=fun v=>Wz fun j hj=>hask v j (by simp only[Yd,hj,ZaN]);have ha: ∀v,Y0 s as=Y0 (putS s i v) as:=fun v=>Yp as fun j hj=>hask v j (by simp only[Yd,ZH,hj,Za8]);have hf: ∀v,fnOf s f=fnOf (putS s i v) f:=fun v=>RY fun j hj=>hask v j (by simp only[Yd,ZH,hj,ZaN,Za8]);have ho: ∀v,oldV s ks as=oldV (putS s i v) ks as:=fun v=>UY fun j hj=>hask v j (by simp only[Yd,ZH,hj,Za8]);split at h
   ·rename_i hh;split at h
    ·rename_i xs n hxs hn;obtain⟨R,h1,h2⟩:=h;refine fin (putS s i (.v R)) (fun j hj=>by rw[Y1];exact if_neg hj) ⟨fun _=>⟨xs,n,R,?_,?_,h1,by rw[Y1,if_pos rfl]⟩,fun hc=>absurd ((hC _).1 (Xr.1 hh)) hc⟩ h2
     ·rw[←ha];exact hxs
     ·rw[←hf];exact hn
    ·exact h.elim
   ·rename_i hh;split at h
    ·rename_i hos;exact fin s (fun _ _=>rfl) ⟨fun hc=>absurd (Xr.2 hc) hh,fun _=>⟨[],hos,fun hne=>absurd rfl hne⟩⟩ h
    ·rename_i os hne hos;refine fin (putS s i (.v (.tup (.bool false::os)))) (fun j hj=>by rw[Y1];exact if_neg hj) ⟨fun hc=>absurd (Xr.2 ((hC _).2 hc)) hh,fun _=>⟨os,?_,fun _=>by rw[Y1,if_pos rfl]⟩⟩ h;rw[←ho];exact hos
    ·exact h.elim
end
end Vm
namespace Vm
open Go
open Go.RowKit (Below)
def ovV(t:St):OV→Option SV
 | .v e=>(eval t e).map .v
 | .m l=>(Y0 t l).map .m
 | .no=>some .no
def wpO:List (Nat×OV)→St→St→(St→Prop)→Prop
 | [],_,u,K=>K u
 | (i,o)::l,t,u,K=>match ovV t o with
   |some x=>wpO l t (putS u i x) K
   |none=>False
def wpC(t:St):List (Zg×E)→Prop
 | []=>True
 | (C,e)::l=>(Wd t C=true→(eval t e).isSome=true)∧wpC t l
def wpR(P:Program)(r:Reg)(s:St)(K:St→Prop):Prop:=wpE P r.efs s fun t=>wpC t r.chks∧wpO r.outs t t K
theorem zw{t:St}: ∀ {l:List (Zg×E)},wpC t l→S5 t l
 | [],_=>fun x hx=>by simp at hx
 | (C,e)::l,h=>fun x hx hh=>by
   rcases Z8V.1 hx with rfl|hx
   ·exact Z9E.1 (h.1 (Xr.2 hh))
   ·exact zw h.2 x hx hh
theorem zI{K:St→Prop}{t:St}: ∀ {l:List (Nat×OV)} {u:St},wpO l t u K→ ∃u',K u'∧(∀x∈l,∃y,ovV t x.2=some y)∧(∀j,(∀x∈l,x.1≠j)→get u' j=get u j)∧
  ∀x∈l,(∀y∈l,y.1=x.1→y.2=x.2)→ ∀v,ovV t x.2=some v→get u' x.1=v
 | [],u,h=>⟨u,h,fun x hx=>by simp at hx,fun _ _=>rfl,fun x hx=>by simp at hx⟩
 | (i,o)::l,u,h=>by
   simp only[wpO]at h;split at h
   ·rename_i v hv;obtain⟨u',hK,h1,h2,h3⟩:=zI h;refine⟨u',hK,fun x hx=> ?_,fun j hj=> ?_,fun x hx hun v' hv'=> ?_⟩
    ·rcases Z8V.1 hx with rfl|hx
     ·exact⟨v,hv⟩
     ·exact h1 x hx
    ·rw[h2 j fun x hx=>hj x (by simp[hx]),Y1,if_neg];exact fun e=>hj (i,o) (by simp) e.symm
    ·by_cases hin: ∃y∈l,y.1=x.1
     ·obtain⟨y,hy,hyx⟩:=hin;have hyo:=hun y (by simp[hy]) hyx;have:=h3 y hy (fun z hz hzy=>by rw[hyo];exact hun z (by simp[hz]) (hzy.trans hyx)) v' (by rw[hyo];exact hv');rw[←hyx];exact this
     ·have hxi:x=(i,o):=by
       rcases Z8V.1 hx with h|h
       ·exact h
       ·exact absurd ⟨x,h,rfl⟩ hin
      subst hxi;rw[h2 i fun y hy e=>hin ⟨y,hy,e⟩,Y1,if_pos rfl];rw[hv]at hv';cases hv';rfl
   ·exact h.elim
section
variable {c:Ctx} {B:Nat} {G:Nat→Prop} {s t u:St} {a a':Act} {w w':World} {h h':GH} {g:Gam} {S:SS}
theorem RelG.ctx{c':Ctx}(hP:c'.P=c.P)(hix:c'.ix=c.ix)(hr:RelG c B G s a w h g):RelG c' B G s a w h g:=by
 have hC: ∀C,ixC c' C=ixC c C:=fun C=>by simp[ixC,hix]
 refine⟨hr.ok,fun p hh hn=> ?_,fun p hh=> ?_⟩
 ·rw[hC]at hh;rw[hP];exact hr.at_ p hh hn
 ·rw[hC]at hh;exact hr.skip p hh
theorem Zy: ∀ {S:SS} {p:Nat},(ZZ c S).at p=match S.at p with|some k=>([],jp c p k) |none=>([],.no)
 | [],p=>rfl
 | (q,k)::S,p=>by
   simp only[ZZ,Z8Q,Gam.at,SS.at];by_cases hq:q=p
   ·subst hq;simp
   ·rw[if_neg hq,if_neg hq];exact Zy (S:=S) (p:=p)
theorem RelC.eval{P:Program}{o:Option Nat}{k:CK}{e e':E}{v:Value}(hr:RelC P B s w h o k e v)(he: ∀x,x.one=true→Vm.eval s e=some x→Vm.eval t e'=some x):RelC P B t w h o k e' v:=by
 cases k with
 |fz=>obtain⟨x,h0,h1,h2⟩:=hr;exact⟨x,he x h1 h0,h1,h2⟩
 |own ty=>obtain⟨x,h0,h1⟩:=hr;exact⟨x,he x h1.one h0,h1⟩
 |nil=>exact⟨hr.1,he _ rfl hr.2⟩
 |dead=>exact hr
theorem RelG.agree(hr:RelG c B G s a w h (ZZ c S))(hag: ∀x∈S,get t (c.ix x.1)=get s (c.ix x.1)):RelG c B G t a w h (ZZ c S):=by
 have hmem: ∀ {S:SS} {p:Nat} {k:OT},S.at p=some k→(p,k)∈S:=by
  intro S p k
  induction S with
  |nil=>intro h;cases h
  |cons x S ih=>
   obtain⟨q,k'⟩:=x;intro h;simp only[SS.at]at h;split at h
   ·rename_i e;subst e;cases h;simp
   ·exact Z9h _ (ih h)
 have hcond: ∀p,((ZZ c S).at p).1= []:=fun p=>by rw[Zy];cases S.at p<;>rfl
 refine⟨hr.ok,fun p _ hn=> ?_,fun p hh=>absurd (by rw[hcond p];exact Zb t c) hh⟩;obtain⟨v,hv,hk⟩:=hr.at_ p (by rw[hcond p];exact Zb s c) hn;refine⟨v,hv,?_⟩;rw[Zy]at hk⊢;cases hS:S.at p with
 |none=>trivial
 |some k=>
  rw[hS]at hk;have hg:=hag _ (hmem hS);simp only at hg hk⊢;cases k with
  |fz=>obtain⟨x,h1,h2⟩:=hk;exact⟨x,by simp only[Vm.eval,hg]at h1⊢;exact h1,h2⟩
  |own ty=>obtain⟨x,h1,h2⟩:=hk;exact⟨x,by simp only[Vm.eval,hg]at h1⊢;exact h1,h2⟩
  |nil=>exact hk
  |mem l=>
   obtain⟨b,vs,T,h1,h2,h3,h4,h5⟩:=hk;refine⟨b,vs,T,h1,h2,h3,h4,fun i ck hi=>(h5 i ck hi).eval fun x _ hx=> ?_⟩;simp only[Z8D,Z8p]at hi;obtain⟨y,_,rfl⟩:=hi;simp only[Vm.eval,hg]at hx⊢;exact hx
  |clo f caps=>exact hk
theorem LZ{keep:List Nat}: ∀ {p:Nat} {k:OT},(KA keep g).at p=some k→p∈keep∧(g.at p).1= []∧outK (g.at p).2=some k:=by
 induction keep with
 |nil=>intro p k h;cases h
 |cons q keep ih=>
  intro p k h;simp only[KA,Z9R]at h;split at h
  ·obtain⟨h1,h2⟩:=ih (p:=p) (k:=k) h;exact⟨Z9h _ h1,h2⟩
  ·rename_i y hy;split at hy
   ·rename_i hc;simp only[Z8p]at hy;obtain⟨k',hk',rfl⟩:=hy;simp only[SS.at]at h;split at h
    ·rename_i e;subst e;cases h;exact⟨by simp,by simpa using hc,hk'⟩
    ·obtain⟨h1,h2⟩:=ih (p:=p) (k:=k) h;exact⟨Z9h _ h1,h2⟩
   ·cases hy
def TK.kept:TK→Bool
 | .val .. | .own .. | .mem _=>true
 |_=>false
theorem LF{S0:SS}{p:Nat}(hc:(g.at p).1= [])(hk:(g.at p).2.kept=true):VJ c S0 g p=if Uj (c.ix p) (ovK (g.at p).2)=true then none else some (c.ix p,ovK (g.at p).2):=by
 unfold VJ;simp only[hc,List.isEmpty_nil,Z9c];cases hs:Uj (c.ix p) (ovK (g.at p).2)
 ·simp only[Z8U,Z9f];cases hkk:(g.at p).2<;>rw[hkk]at hk<;>simp only[TK.kept]at hk<;>first| (cases hk;done) |skip
  all_goals
   cases S0.at p with
   |none=>rfl
   |some k=>cases k<;>rfl
 ·simp only[Z9c]
theorem KN{keep sh:List Nat}{S0:SS}(hr:RelG c B G t a w h g)(hsh: ∀p∈keep,∀e l,g.at p=([],.val e l)→ ∀b,h.ext l b→h.F b)
  (hget: ∀p∈keep,match VJ c S0 g p with|some x=> ∃v,ovV t x.2=some v∧get u (c.ix p)=v|none=>get u (c.ix p)=get t (c.ix p)):RelG c B G u a w h (ZZ c (KA keep g)):=by
 have hcond: ∀p,((ZZ c (KA keep g)).at p).1= []:=fun p=>by rw[Zy];cases(KA keep g).at p<;>rfl
 refine⟨hr.ok,fun p _ hn=> ?_,fun p hh=>absurd (by rw[hcond p];exact Zb u c) hh⟩;rw[Zy]at hn⊢;cases hS:(KA keep g).at p with
 |none=>rw[hS]at hn;simp[TK.isNo]at hn
 |some k=>
  obtain⟨hpk,hc0,hk⟩:=LZ hS;have hno:(g.at p).2.isNo=false:=by cases hkk:(g.at p).2<;>rw[hkk]at hk<;>first|rfl|simp[outK]at hk
  obtain⟨v,hv,hrel⟩:=hr.at_ p (by rw[hc0];exact Zb t c) hno;refine⟨v,hv,?_⟩
  have hgp:(g.at p).2.kept=true→(Uj (c.ix p) (ovK (g.at p).2)=true∧get u (c.ix p)=get t (c.ix p))∨ ∃v,ovV t (ovK (g.at p).2)=some v∧get u (c.ix p)=v:=by
   intro hkept;have h1:=hget p hpk;rw[LF hc0 hkept]at h1;by_cases hs:Uj (c.ix p) (ovK (g.at p).2)=true
   ·rw[if_pos hs]at h1;exact .inl ⟨hs,h1⟩
   ·rw[if_neg hs]at h1;exact .inr h1
  simp only;cases hkk:(g.at p).2 with
  |val e l=>
   rw[hkk]at hk hrel hgp;simp only[outK,Z8l]at hk;subst hk;obtain⟨x,hx,hxr⟩:=hrel;have hF:=hsh p hpk e l (by rw[←hkk,←hc0]);refine⟨x,?_,hxr.mono fun b hb=>GH.ext_F (hF b hb)⟩;simp only[Vm.eval];rcases hgp rfl with ⟨hs,hg⟩ | ⟨v',h1,h2⟩
   ·simp only[ovK]at hs;cases e<;>simp only[Uj]at hs<;>first| (cases hs;done) |skip
    simp only[Z99]at hs;subst hs;rw[hg];simpa only[Vm.eval]using hx
   ·simp only[ovK,ovV,hx,Z9w,Z8l]at h1;subst h1;rw[h2]
  |own ty e=>
   rw[hkk]at hk hrel hgp;simp only[outK,Z8l]at hk;subst hk;obtain⟨x,hx,hxr⟩:=hrel;refine⟨x,?_,hxr⟩;simp only[Vm.eval];rcases hgp rfl with ⟨hs,hg⟩ | ⟨v',h1,h2⟩
   ·simp only[ovK]at hs;cases e<;>simp only[Uj]at hs<;>first| (cases hs;done) |skip
    simp only[Z99]at hs;subst hs;rw[hg];simpa only[Vm.eval]using hx
   ·simp only[ovK,ovV,hx,Z9w,Z8l]at h1;subst h1;rw[h2]
  |nil=>
   rw[hkk]at hk hrel;simp only[outK,Z8l]at hk;subst hk;exact hrel
  |mem cs=>
   rw[hkk]at hk hrel hgp;simp only[outK,Z8l]at hk;subst hk;obtain⟨b,vs,T,h1,h2,h3,h4,h5⟩:=hrel;refine⟨b,vs,T,h1,h2,h3,by simpa using h4,fun i ck hi=> ?_⟩;simp only[Z8D,Zac,Z8p]at hi;obtain⟨y,⟨q,⟨ck0,hck0,rfl⟩,rfl⟩,rfl⟩:=hi;refine(h5 i ck0 hck0).eval fun x hx1 hx=> ?_;simp only[Z97,Vm.eval];rcases hgp rfl with ⟨hs,hg⟩ | ⟨v',e1,e2⟩
   ·simp only[ovK,Uj,Z8A]at hs;have:=hs (ck0.2,i) (Zbg.2 ⟨i,by rw[Zac,Z8D,hck0];simp⟩);obtain⟨kk,e⟩:=ck0;cases e<;>simp only at this<;>first| (cases this;done) |skip
    simp only[Z8u,Z99]at this;obtain⟨rfl,rfl⟩:=this;rw[hg];simpa only[Vm.eval]using hx
   ·simp only[ovK,ovV,Z8p]at e1;obtain⟨xs,hxs,rfl⟩:=e1;obtain⟨_,hget⟩:=Yj hxs;obtain⟨z,hz,hze⟩:=hget i ck0.2 (by rw[Z8D,hck0];rfl);rw[hx]at hze;cases hze;rw[e2];simp only[hz,Z8y];unfold oneV;rw[if_pos hx1]
  |no=>rw[hkk]at hk;simp[outK]at hk
  |ags cs=>rw[hkk]at hk;simp[outK]at hk
  |ref p=>rw[hkk]at hk;simp[outK]at hk
  |refm p i=>rw[hkk]at hk;simp[outK]at hk
  |pm p o=>rw[hkk]at hk;simp[outK]at hk
  |pc e o sh=>rw[hkk]at hk;simp[outK]at hk
  |pe p i j o k=>rw[hkk]at hk;simp[outK]at hk
  |pa p o j n k=>rw[hkk]at hk;simp[outK]at hk
  |big e sh=>rw[hkk]at hk;simp[outK]at hk
  |clo f caps=>
   rw[hkk]at hk hrel;simp only[outK,Z8l]at hk;subst hk;exact hrel
end
end Vm
namespace Vm
open Go
open Go.RowKit (Below)
def Rn(c:Ctx)(s:St)(S:SS):Prop:= ∀p,S.at p=some .nil→get s (c.ix p)= .v (.sl [])
theorem Uo: ∀ {S:SS} {p:Nat} {k:OT},S.at p=some k→(p,k)∈S
 | [],p,k,h=>by cases h
 | (q,k')::S,p,k,h=>by
   simp only[SS.at]at h;split at h
   ·rename_i e;subst e;cases h;simp
   ·exact Z9h _ (Uo h)
section
variable {c:Ctx} {B:Nat} {G:Nat→Prop} {s t u:St} {a a':Act} {w w':World} {h h':GH} {g:Gam} {S S':SS}
theorem K1{S0:SS}{p:Nat}{x:Nat×OV}(h:VJ c S0 g p=some x):x.1=c.ix p:=by
 unfold VJ at h;simp only at h;generalize (if(g.at p).1.isEmpty=true then ovK (g.at p).2 else OV.no)=o at h;split at h
 ·cases h
 ·split at h<;>first| (cases h;done) | (simp only[Z8l]at h;subst h;rfl)
theorem UQ{l:List E}{xs:List V}(h:Y0 t l=some xs): ∀e∈l,∃v,eval t e=some v:=by
 intro e he;obtain⟨_,hg⟩:=Yj h;obtain⟨i,hi⟩:=Z8O he;obtain⟨x,_,hx⟩:=hg i e hi;exact⟨x,hx⟩
theorem Z2R{o:OV}{v:SV}(h:ovV t o=some v): ∀e∈ovE o,∃v,eval t e=some v:=by
 intro e he;cases o with
 |v e'=>
  have:e=e':=by simpa[ovE]using he
  subst this;simp only[ovV,Z8p]at h;obtain⟨x,hx,_⟩:=h;exact⟨x,hx⟩
 |m l=>
  simp only[ovV,Z8p]at h;obtain⟨xs,hxs,_⟩:=h;exact UQ hxs e he
 |no=>simp[ovE]at he
theorem RO{keep:List Nat}{p:Nat}{e:E}{l:List Nat}(hp:p∈keep)(hg:g.at p=([],.val e l)): ∀q∈l,q∈XB keep g:=by
 intro q hq;simp only[XB,ZaF];exact⟨p,hp,by rw[hg];exact hq⟩
theorem Z4g{P:Program}{ix:Nat→Nat}{fresh:FuncId→Bool}{sig:FuncId→Option (List OT)}{tr fix:List Nat}{n:Nat}{keep:List Nat}{draw:Bool}{ops:Array Oper}{r:Reg}(hm:draw=true→P.follows .mixedOrders=true)(hc:Ls P ix fresh sig tr fix n keep draw ops S=some (r,S'))
  (hinj: ∀p∈keep,∀q∈keep,ix p=ix q→p=q) (hP:c.P=P) (hix:c.ix=ix) (hr:RelG c B G s a w h (ZZ c S)) (hnil:Rn c s S) (hn:n≤a.tmps.size) {K:St→Prop} (hK:wpR P r s K) {id:Nat} {Q:Exit→Act→World→Prop}
  (hQ: ∀a' w' s' h',K s'→RelG c B G s' a' w' h' (ZZ c S')→Rn c s' S'→h'.K=h.K→Frm h.K (fun t=>t∈fix) a.tmps B w a' w'→a'.tmps.size=a.tmps.size→a'.defers=a.defers→Q .normal a' w'):(Code.region id ops draw).wp P Q a w:=by
 unfold Ls at hc;simp only[Z8m]at hc;obtain⟨⟨gf,xs⟩,hst,hc⟩:=hc;simp only at hc;split at hc
 ·rename_i hcond;simp only[Z8u]at hcond;obtain⟨⟨⟨hfix,hord⟩,hefs⟩,hlets⟩:=hcond;simp only[Z8l,Z8w]at hc;obtain⟨rfl,rfl⟩:=hc;generalize hcc:({P:=P,ix:=ix,own:=fun t=>(j5 ops).contains t,fresh:=fresh,sig:=sig,tr:=tr,n:=n}:Ctx)=cc at*;have hccP:cc.P=P:=by rw[←hcc]
  have hccix:cc.ix=ix:=by rw[←hcc]
  have hccn:cc.n=n:=by rw[←hcc]
  have hent: ∀S,ZZ cc S=ZZ c S:=by
   intro S;simp only[ZZ];refine ZaA fun x _=> ?_;cases x.2<;>simp[jp,hccix,hix]
  obtain⟨hf,rfl⟩:=Z3j hst hord;obtain⟨t,⟨hchk,hout⟩,hef,hag⟩:=JD hefs hK;obtain⟨u,hKu,ho1,ho2,ho3⟩:=zI hout
  have hall:S5 t (xs.flatMap fun x=>x.os.chks):=by
   refine VY (fun x hx hh=> ?_) (zw hchk);rcases Z90.1 hx with hx|hx
   ·obtain⟨ef,hef1,hx⟩:=ZaF.1 hx;have hefo:=hef ef hef1;cases ef with
    |lt i C e=>
     have:x=(C,e):=by simpa[efE]using hx
     subst this;obtain⟨v,hv,_⟩:=hefo hh;exact⟨v,hv⟩
    |call i C f fr fl as=>
     obtain⟨e,he,rfl⟩:=Z8S.1 hx;obtain⟨ys,n,_,hys,hfn,_⟩:=hefo hh;rcases Z90.1 he with he|he
     ·cases f with
      |id q=>simp[FN.es]at he
      |e q=>
       simp only[FN.es,Za9]at he;subst he;simp only[fnV,Z8m]at hfn;obtain⟨v,hv,_⟩:=hfn;exact⟨v,hv⟩
     ·exact UQ hys e he
    |callm i C f ks as=>
     obtain⟨e,he,rfl⟩:=Z8S.1 hx;obtain⟨ys,n,_,hys,hfn,_⟩:=hefo.1 hh;rcases Z90.1 he with he|he
     ·cases f with
      |id q=>simp[FN.es]at he
      |e q=>
       simp only[FN.es,Za9]at he;subst he;simp only[fnOf]at hfn;split at hfn
       ·exact⟨_,by assumption⟩
       ·cases hfn
     ·exact UQ hys e he
   ·obtain⟨y,hy,hx⟩:=ZaF.1 hx;obtain⟨e,he,rfl⟩:=Z8S.1 hx;obtain⟨v,hv⟩:=ho1 y hy;exact Z2R hv e he
  have hos: ∀x∈xs,okOS cc.P t x.os:=by
   intro x hx;rw[hccP];exact⟨fun ef hef1=>hef ef (ZaF.2 ⟨x,hx,hef1⟩),fun y hy=>hall y (ZaF.2 ⟨x,hx,hy⟩)⟩
  have hr1:RelG cc B G t a w h (ZZ cc S):=by
   have h1:RelG cc B G s a w h (ZZ cc S):=by
    rw[hent];exact hr.ctx (by rw[hccP,hP]) (by rw[hccix,hix])
   refine h1.agree fun x hx=>hag _ fun ef hef1 he=> ?_;simp only[Z8A,Zbl,ne_eq]at hlets;exact hlets ef hef1 x hx (by rw[←hccix];exact he.symm)
  have hget: ∀p∈keep,match VJ cc S (frz (XB keep (gAll xs (ZZ cc S))) (gAll xs (ZZ cc S))) p with|some x=> ∃v,ovV t x.2=some v∧get u (cc.ix p)=v|none=>get u (cc.ix p)=get t (cc.ix p):=by
   intro p hp
   have huniq: ∀q∈keep,∀y,VJ cc S (frz (XB keep (gAll xs (ZZ cc S))) (gAll xs (ZZ cc S))) q=some y→y.1=cc.ix p→q=p:=fun q hq y hy he=>by
    have:=K1 hy;exact hinj q hq p hp (by rw[←hccix,←this];exact he)
   split
   ·rename_i x hx;have hxm:x∈Z4m cc S keep (frz (XB keep (gAll xs (ZZ cc S))) (gAll xs (ZZ cc S))):=Zaa.2 ⟨p,hp,hx⟩;obtain⟨v,hv⟩:=ho1 x hxm;have hxi:=K1 hx;refine⟨v,hv,?_⟩;rw[←hxi];refine ho3 x hxm (fun y hy hyx=> ?_) v hv;obtain⟨q,hq,hy'⟩:=Zaa.1 hy;have:=huniq q hq y hy' (hyx.trans hxi);subst this;rw[hx]at hy';cases hy';rfl
   ·rename_i hx;refine ho2 _ fun y hy he=> ?_;obtain⟨q,hq,hy'⟩:=Zaa.1 hy;have:=huniq q hq y hy' he;subst this;rw[hx]at hy';cases hy'
  have hnil':Rn c u (KA keep (frz (XB keep (gAll xs (ZZ cc S))) (gAll xs (ZZ cc S)))):=by
   intro p hp;obtain⟨hpk,hc0,hk⟩:=LZ hp
   have hkn:((frz (XB keep (gAll xs (ZZ cc S))) (gAll xs (ZZ cc S))).at p).2= .nil:=by
    cases hkk:((frz (XB keep (gAll xs (ZZ cc S))) (gAll xs (ZZ cc S))).at p).2<;>rw[hkk]at hk<;>simp[outK]at hk⊢
   have hgp:=hget p hpk
   have hone:VJ cc S (frz (XB keep (gAll xs (ZZ cc S))) (gAll xs (ZZ cc S))) p=if S.at p=some .nil then none else some (cc.ix p,.v (.c (.sl []))):=by
    unfold VJ;simp only[hc0,hkn,List.isEmpty_nil,Z9c,ovK,Uj,Z8U,Z9f];cases hSp:S.at p with
    |none=>simp
    |some k=>cases k<;>simp
   rw[hone]at hgp;rw[hix,←hccix];by_cases hSp:S.at p=some .nil
   ·rw[if_pos hSp]at hgp;simp only at hgp;rw[hgp,hag]
    ·have:=hnil p hSp;rw[hix,←hccix]at this;exact this
    ·intro ef hef1 he;simp only[Z8A,Zbl,ne_eq]at hlets;exact hlets ef hef1 _ (Uo hSp) (by rw[←hccix];exact he.symm)
   ·rw[if_neg hSp]at hgp;obtain⟨v,h1,h2⟩:=hgp;simp only[ovV,eval,Z9w,Z8l]at h1;rw[h2,←h1]
  have hfx: ∀o∈ops,∀d,o.dst=some d→ ¬d∈fix:=fun o ho d hd hm=>by
   have:=Z8A.1 hfix o (by simpa using ho);rw[hd]at this;simp at this;exact this hm
  have hwp:=qd (c:=cc) (id:=id) (Q:=Q) (by rw[hccP];exact hm) hf hos (by rw[hccn];exact hn) hr1 hfx fun a' w' h' hrel hKk hb h1 h2=>by
   have hfz:=hrel.frz (XB keep (gAll xs (ZZ cc S)));refine hQ a' w' u (h'.thaw (XB keep (gAll xs (ZZ cc S)))) hKu ?_ hnil' hKk hb h1 h2;rw[←hent];have hfin:=KN (u:=u) (keep:=keep) (sh:= []) (S0:=S) hfz (fun p hp e l hg b hbx=> ?_) fun p hp=> ?_
   ·exact hfin.ctx (by rw[hccP,hP]) (by rw[hccix,hix])
   ·
    have hsub: ∀q∈l,q∈XB keep (gAll xs (ZZ cc S)):=by
     unfold frz at hg;rw[ZR,ZR]at hg;split at hg
     ·split at hg
      ·rename_i hk;rw[TR hk]at hg;simp at hg
      ·rename_i hk1 hk2
       have hpf:p∈XB keep (gAll xs (ZZ cc S)):=by
        simp only[Zu,Z9Q,Z90]at hk1;have:=hk1.resolve_left hk2;have h3:=WE (fz:=XB keep (gAll xs (ZZ cc S))) (g:=gAll xs (ZZ cc S));unfold Zu at h3;rw[h3]at this;exact this
       rw[Vn hpf]at hg;simp only[Z8w]at hg;obtain⟨hg1,hg2⟩:=hg;cases hk:((gAll xs (ZZ cc S)).at p).2<;>rw[hk]at hg2<;>simp only[VM]at hg2<;>first| (cases hg2;done) |skip
       ·simp only[TK.val.injEq]at hg2;obtain⟨rfl,rfl⟩:=hg2;rename_i e' l';exact RO hp (Zb5 hg1 hk)
       ·simp only[TK.val.injEq]at hg2;obtain⟨_,rfl⟩:=hg2;intro q hq;simp at hq
       ·split at hg2
        ·cases hg2
        ·simp only[TK.val.injEq]at hg2;obtain⟨_,rfl⟩:=hg2;intro q hq;simp at hq
     ·exact RO hp hg
    rcases hbx with hbx| ⟨q,hq,i,hi⟩
    ·exact hbx
    ·simp only[GH.thaw]at hi;rw[if_pos ⟨hsub q hq,by omega⟩]at hi;cases hi
   ·exact hget p hp
  rw[hccP]at hwp;exact hwp
 ·cases hc
end
end Vm
namespace Vm
open Go
open Go.RowKit (Below)
def GH.drop(h:GH)(kp:Nat→Nat→Bool):GH:= {F:=fun b=>h.F b∨ ∃t i,kp t i=false∧i≠0∧h.bl t i=some b,bl:=fun t i=>if kp t i=true∨i=0 then h.bl t i else none,K:=h.K}
section
variable {c:Ctx} {B:Nat} {G:Nat→Prop} {s t u:St} {a a':Act} {w w':World} {h h':GH} {g:Gam} {S R:SS}
theorem Z2X(hok:Ok B G w h)(kp:Nat→Nat→Bool):Ok B G w (h.drop kp):=by
 refine⟨hok.base,fun b hb=> ?_,fun b hb=> ?_,fun b hb=> .inl (hok.g_F b hb),fun t i b hb=> ?_,fun t i u j b hb hb'=> ?_,hok.k_lt,fun t i b hb=> ?_,fun b hb=> ?_⟩
 ·rcases hb with hb| ⟨t,i,_,_,hi⟩
  ·exact hok.f_lt b hb
  ·exact(hok.b_lt t i b hi).2.1
 ·rcases hb with hb| ⟨t,i,_,_,hi⟩
  ·exact hok.f_or b hb
  ·exact .inr (hok.b_lt t i b hi).1
 ·simp only[GH.drop]at hb;split at hb
  ·rename_i hk;obtain⟨h1,h2,h3⟩:=hok.b_lt t i b hb;refine⟨h1,h2,fun hF=> ?_⟩;rcases hF with hF| ⟨t',i',e1,e2,e3⟩
   ·exact h3 hF
   ·obtain⟨rfl,rfl⟩:=hok.inj t i t' i' b hb e3;rcases hk with hk|hk
    ·rw[hk]at e1;cases e1
    ·exact e2 hk
  ·cases hb
 ·simp only[GH.drop]at hb hb';split at hb<;>split at hb'<;>first| (cases hb;done) | (cases hb';done) |exact hok.inj t i u j b hb hb'
 ·simp only[GH.drop]at hb;split at hb
  ·exact hok.k_bl t i b hb
  ·cases hb
 ·rcases hb with hb| ⟨t,i,_,_,hi⟩
  ·exact hok.k_F b hb
  ·exact .inr (hok.k_bl t i b hi)
theorem Z0t{P:Program}(hle:leSS P S R=true){p:Nat}{k:OT}(hp:R.at p=some k): ∃k0,S.at p=some k0∧leOT P k0 k=true:=by
 have:=Z8A.1 hle _ (Uo hp);simp only at this;split at this
 ·rename_i k0 hk;exact⟨k0,hk,this⟩
 ·cases this
theorem RelC.weak{P:Program}{o o':Option Nat}{k k':CK}{e:E}{v:Value}(hr:RelC P B s w h o k e v)(hle:leCK P k k'=true)(hF: ∀b,h.F b→h'.F b)
  (hown: ∀ty ty',k= .own ty→k'= .own ty'→o'=o) (hdrop:(∀ty,k'≠ .own ty)→ ∀b,o=some b→h'.F b) (hnil: ∀ty,k= .nil→k'= .own ty→o'=none):RelC P B s w h' o' k' e v:=by
 cases k with
 |fz=>
  cases k'<;>simp only[leCK]at hle<;>first| (cases hle;done) |skip
  ·obtain⟨x,h0,h1,h2⟩:=hr;exact⟨x,h0,h1,h2.mono hF⟩
  ·exact hr.cell
 |own ty=>
  cases k'<;>simp only[leCK]at hle<;>first| (cases hle;done) |skip
  ·obtain⟨x,h0,h1⟩:=hr;exact⟨x,h0,h1.one,h1.rd hF (hdrop (by simp))⟩
  ·rename_i ty';simp only[Z99]at hle;subst hle;obtain⟨x,h0,h1⟩:=hr;exact⟨x,h0,h1.mono hF (hown ty ty rfl rfl).symm⟩
  ·exact hr.cell
 |nil=>
  obtain⟨rfl,h0⟩:=hr;cases k'<;>simp only[leCK]at hle<;>first| (cases hle;done) |skip
  ·exact⟨_,h0,rfl,.nil _ _ (Z9n _)⟩
  ·rename_i ty;simp only[Z8L]at hle;rw[hnil ty rfl rfl];exact⟨_,h0,.inl ⟨[],[],rfl,hle,fun x hx=>by simp at hx,Z9G w B ty _,rfl,fun i ck hi=>by simp[flat]at hi⟩⟩
  ·exact⟨rfl,h0⟩
  ·rfl
 |dead=>
  cases k'<;>simp only[leCK]at hle<;>first| (cases hle;done) |skip
  exact hr
def Ts(S R:SS)(t i:Nat):Bool:=
 match S.at t,R.at t with
 |some (.own _),some (.own _)=>true
 |some (.mem a),some (.mem b)=>match a[i-1]?,b[i-1]? with
  |some (.own _),some (.own _)=>true
  |_,_=>false
 |_,_=>false
theorem J8{P:Program}: ∀ {a b:List CK},qn P a b=true→a.length=b.length∧ ∀(i:Nat) (x y:CK),a[i]? =some x→b[i]? =some y→leCK P x y=true
 | [],[],_=>⟨rfl,fun i x y hx=>by simp at hx⟩
 | [],_::_,h=>by simp[qn]at h
 |_::_,[],h=>by simp[qn]at h
 |x::a,y::b,h=>by
  simp only[qn,Z8u]at h;obtain⟨h1,h2⟩:=J8 h.2;refine⟨by simp[h1],fun i p q hp hq=> ?_⟩;cases i with
  |zero=>simp at hp hq;subst hp hq;exact h.1
  |succ i=>exact h2 i p q (by simpa using hp) (by simpa using hq)
theorem Kq(hr:RelG c B G s a w h (ZZ c S))(hnil:Rn c s S)(hle:leSS c.P S R=true):RelG c B G s a w (h.drop (Ts S R)) (ZZ c R)∧Rn c s R:=by
 constructor
 ·refine⟨Z2X hr.ok _,fun p _ hn=> ?_,fun p hh=>absurd (by rw[Zy];cases R.at p<;>exact Zb s c) hh⟩;rw[Zy]at hn⊢;cases hR:R.at p with
  |none=>rw[hR]at hn;simp[TK.isNo]at hn
  |some k'=>
   obtain⟨k,hS,hk⟩:=Z0t hle hR;obtain⟨v,hv,hrel⟩:=hr.at_ p (by rw[Zy,hS];exact Zb s c) (by rw[Zy,hS];cases k<;>rfl);refine⟨v,hv,?_⟩;rw[Zy,hS]at hrel;simp only at hrel⊢;have hF: ∀b,h.F b→(h.drop (Ts S R)).F b:=fun b hb=> .inl hb;have hFe: ∀b,h.ext [] b→(h.drop (Ts S R)).ext [] b:=fun b hb=>GH.ext_F (.inl (GH.ext_nil hb));cases k with
   |fz=>
    cases k'<;>simp only[leOT]at hk<;>first| (cases hk;done) |skip
    obtain⟨x,h1,h2⟩:=hrel;exact⟨x,h1,h2.mono hFe⟩
   |own ty=>
    cases k'<;>simp only[leOT]at hk<;>first| (cases hk;done) |skip
    ·obtain⟨x,h1,h2⟩:=hrel;exact⟨x,h1,h2.rd (fun b hb=>GH.ext_F (hF b hb)) fun b hb=>GH.ext_F (.inr ⟨p,1,by simp[Ts,hS,hR],by omega,hb⟩)⟩
    ·rename_i ty';simp only[Z99]at hk;subst hk;obtain⟨x,h1,h2⟩:=hrel;exact⟨x,h1,h2.mono hF (by simp[GH.drop,Ts,hS,hR])⟩
   |nil=>
    have hv0:v= .slice none 0 0:=hrel;subst hv0;have hg:=hnil p hS;cases k'<;>simp only[leOT]at hk<;>first| (cases hk;done) |skip
    ·exact⟨.sl [],by simp only[eval,hg],.nil _ _ (Z9n _)⟩
    ·rename_i ty;simp only[Z8L]at hk;exact⟨.sl [],by simp only[eval,hg],.inl ⟨[],[],rfl,hk,fun x hx=>by simp at hx,Z9G w B ty _,by simp[GH.drop,Ts,hS,hR,Value.ownBlock],fun i ck hi=>by simp[flat]at hi⟩⟩
    ·rfl
   |mem l=>
    cases k'<;>simp only[leOT]at hk<;>first| (cases hk;done) |skip
    rename_i l';obtain⟨hl,hget⟩:=J8 hk;obtain⟨b,vs,T,h1,h2,h3,h4,h5⟩:=hrel;refine⟨b,vs,T,by simp[GH.drop,h1],h2,h3,by rw[h4];simp[hl],fun i ck hi=> ?_⟩;simp only[Z8D,Zac,Z8p,Z97]at hi;obtain⟨y,⟨k2,hk2,rfl⟩,rfl⟩:=hi;have hlt:i<l.length:=by rw[hl];exact(Z8o.1 hk2).1
    have hk1:l[i]? =some l[i]:=Z8n hlt;have h5i:=h5 i (l[i],.m (c.ix p) i) (by simp[hlt]);refine h5i.weak (hget i _ _ hk1 hk2) hF (fun ty ty' e1 e2=> ?_) (fun hno x hx=> .inr ⟨p,i+1,?_,by omega,hx⟩) fun ty e1 e2=> ?_
    ·simp only at e1 e2;simp[GH.drop,Ts,hS,hR,hk1,hk2,e1,e2]
    ·simp only at hno;simp only[Ts,hS,hR,Nat.add_sub_cancel,hk1,hk2];cases k2<;>first| (cases l[i]<;>rfl) |exact absurd rfl (hno _)
    ·simp only at e1 e2;simp[GH.drop,Ts,hS,hR,hk1,hk2,e1,e2]
   |clo f caps=>
    cases k'<;>simp only[leOT]at hk<;>first| (cases hk;done) |skip
    simp only[Z8u,Z99]at hk;obtain⟨rfl,rfl⟩:=hk;obtain⟨vs,h1,h2,h3⟩:=hrel;refine⟨vs,h1,h2,fun i p hi=> ?_⟩;obtain⟨b,h4,h5⟩:=h3 i p hi;exact⟨b,by simp[GH.drop,h4],h5⟩
 ·intro p hp;obtain⟨k,hS,hk⟩:=Z0t hle hp;cases k<;>simp only[leOT]at hk<;>first| (cases hk;done) |exact hnil p hS
end
end Vm
namespace Vm
open Go
open Go.RowKit (Below)
def Ys:List Nat→St→St
 | [],_=> []
 |i::l,s=>putS (Ys l s) i (get s i)
theorem K0: ∀ {keep:List Nat} {s:St} {i:Nat},i∈keep→get (Ys keep s) i=get s i
 | [],s,i,hi=>by simp at hi
 |j::l,s,i,hi=>by
  simp only[Ys];rw[Y1];split
  ·rename_i e;rw[e]
  ·rename_i e;exact K0 ((Z8V.1 hi).resolve_left e)
def wpS(P:Program):Stm→St→(St→Prop)→(Nat→St→Prop)→(St→Prop)→Prop
 | .reg r,s,N,_,_=>wpR P r s N
 | .skip,s,N,_,_=>N s
 | .seq a b,s,N,X,R=>wpS P a s (fun s'=>wpS P b s' N X R) X R
 | .cond c a b,s,N,X,R=>match eval s c with
   |some (.bool true)=>wpS P a s N X R
   |some (.bool false)=>wpS P b s N X R
   |_=>False
 | .block id a,s,N,X,R=>wpS P a s N (fun i s'=>if i=id then N s' else X i s') R
 | .loop keep a,s,_,X,R=> ∃(I:St→Prop) (μ:St→Nat),I (Ys keep s)∧ ∀s,I s→wpS P a s (fun s'=>I (Ys keep s')∧μ (Ys keep s') <μ s) X R
 | .exit id,s,_,X,_=>X id s
 | .ret,s,_,_,R=>R s
def RelS(Kf:Nat→Prop)(fix:List Nat)(T0:Array Value)(c:Ctx)(B:Nat)(G:Nat→Prop)(w0:World)(n0:Nat)(s:St)(a:Act)(w:World)(S:SS):Prop:=
 (∃h,RelG c B G s a w h (ZZ c S)∧h.K=Kf)∧Rn c s S∧Frm Kf (fun t=>t∈fix) T0 B w0 a w∧a.tmps.size=n0∧a.defers= []
section
variable {c:Ctx} {fc:FC} {B:Nat} {G:Nat→Prop} {s t u:St} {a a':Act} {w w' w0:World} {n0:Nat} {S R:SS} {Kf:Nat→Prop} {fix:List Nat} {T0:Array Value}
theorem RelS.weak(hr:RelS Kf fix T0 c B G w0 n0 s a w S)(hle:leSS c.P S R=true):RelS Kf fix T0 c B G w0 n0 s a w R:=by
 obtain⟨⟨h,h1,hK⟩,h2,h3⟩:=hr;obtain⟨h4,h5⟩:=Kq h1 h2 hle;exact⟨⟨_,h4,hK⟩,h5,h3⟩
theorem QO{P:Program}{S:SS}{M:Option SS}(h:leO P (some S) M=true): ∃R,M=some R∧leSS P S R=true:=by
 cases M with
 |none=>cases h
 |some R=>exact⟨R,rfl,h⟩
theorem RelS.only(hr:RelS Kf fix T0 c B G w0 n0 s a w S):RelS Kf fix T0 c B G w0 n0 (Ys (S.map fun y=>c.ix y.1) s) a w S:=by
 obtain⟨⟨h,h1,hK⟩,h2,h3⟩:=hr;have hag: ∀x∈S,get (Ys (S.map fun y=>c.ix y.1) s) (c.ix x.1)=get s (c.ix x.1):=fun x hx=>K0 (Z8S.2 ⟨x,hx,rfl⟩);exact⟨⟨h,h1.agree hag,hK⟩,fun p hp=>by rw[hag _ (Uo hp)];exact h2 p hp,h3⟩
theorem Tn{p:Nat→Prop}: ∀(n:Nat),p n→ ∃n,p n∧ ∀m,p m→n≤m:=by
 intro n
 induction n using Nat.strongRecOn with
 |_ n ih=>
  intro hn;by_cases h: ∃m,m<n∧p m
  ·obtain⟨m,h1,h2⟩:=h;exact ih m h1 h2
  ·exact⟨n,hn,fun m hm=>Nat.le_of_not_lt fun hlt=>h ⟨m,hlt,hm⟩⟩
open Classical in
noncomputable def least (p:Nat→Prop):Nat:=if h: ∃n,p n∧ ∀m,p m→n≤m then Classical.choose h else 0
theorem qv{p:Nat→Prop}(h: ∃n,p n):p (least p):=by
 obtain⟨n,hn⟩:=h;have h':=Tn n hn;unfold least;rw[dif_pos h'];exact(Zc2 h').1
theorem Z1j{p:Nat→Prop}{n:Nat}(hn:p n):least p≤n:=by
 have h':=Tn n hn;unfold least;rw[dif_pos h'];exact(Zc2 h').2 n hn
def Post(Kf:Nat→Prop)(fix:List Nat)(T0:Array Value)(c:Ctx)(B:Nat)(G:Nat→Prop)(w0:World)(n0:Nat)(fl:Flow)(N:St→Prop)(X:Nat→St→Prop)(R:St→Prop)(e:Exit)(a:Act)(w:World):Prop:=
 match e with
 | .normal=> ∃s S,fl.n=some S∧N s∧RelS Kf fix T0 c B G w0 n0 s a w S
 | .exit id=> ∃s S,(id,S)∈fl.x∧X id s∧RelS Kf fix T0 c B G w0 n0 s a w S
 | .ret=> ∃s S,S∈fl.r∧R s∧RelS Kf fix T0 c B G w0 n0 s a w S
 |_=>False
theorem Post.mono{fl fl':Flow}{N N':St→Prop}{X X':Nat→St→Prop}{Rt:St→Prop}{e:Exit}{a:Act}{w:World}(h:Post Kf fix T0 c B G w0 n0 fl N X Rt e a w)
  (hn: ∀s S,fl.n=some S→N s→RelS Kf fix T0 c B G w0 n0 s a w S→ ∃s S,fl'.n=some S∧N' s∧RelS Kf fix T0 c B G w0 n0 s a w S)
  (hx: ∀id s S,(id,S)∈fl.x→X id s→RelS Kf fix T0 c B G w0 n0 s a w S→ ∃s S,(id,S)∈fl'.x∧X' id s∧RelS Kf fix T0 c B G w0 n0 s a w S)
  (hr: ∀S,S∈fl.r→S∈fl'.r):Post Kf fix T0 c B G w0 n0 fl' N' X' Rt e a w:=by
 cases e with
 |normal=>obtain⟨s,S,h1,h2,h3⟩:=h;exact hn s S h1 h2 h3
 |exit id=>obtain⟨s,S,h1,h2,h3⟩:=h;exact hx id s S h1 h2 h3
 |ret=>obtain⟨s,S,h1,h2,h3⟩:=h;exact⟨s,S,hr S h1,h2,h3⟩
 |goto l=>exact h.elim
 |panic ch=>exact h.elim
 |outgrown=>exact h.elim
theorem yG(hm:fc.P.follows .mixedOrders=true)(hinj: ∀p∈fc.keep,∀q∈fc.keep,fc.ix p=fc.ix q→p=q)(hP:c.P=fc.P)(hix:c.ix=fc.ix)(hfx:fix=fc.fix)(hn:fc.n≤n0):
  ∀(code:Code) {S:SS} {st:Stm} {fl:Flow} {s:St} {a:Act} {w:World} {N:St→Prop} {X:Nat→St→Prop} {Rt:St→Prop},comp fc code S=some (st,fl)→RelS Kf fix T0 c B G w0 n0 s a w S→wpS fc.P st s N X Rt→
   code.wp fc.P (Post Kf fix T0 c B G w0 n0 fl N X Rt) a w:=by
 intro code
 induction code with
 |skip=>
  intro S st fl s a w N X Rt hc hr hw;simp only[comp,Z8l,Z8w]at hc;obtain⟨rfl,rfl⟩:=hc;exact wp_skip ⟨s,S,rfl,hw,hr⟩
 |label l=>
  intro S st fl s a w N X Rt hc hr hw;simp only[comp,Z8l,Z8w]at hc;obtain⟨rfl,rfl⟩:=hc;exact wp_label ⟨s,S,rfl,hw,hr⟩
 |region id ops draw=>
  intro S st fl s a w N X Rt hc hr hw;simp only[comp,Z8p,Z8w]at hc;obtain⟨⟨r,S'⟩,hreg,rfl,rfl⟩:=hc;obtain⟨⟨h,h1,hK⟩,h2,h3,h4,h5⟩:=hr;refine Z4g (fun _=>hm) hreg hinj hP hix h1 h2 (by rw[h4];exact hn) hw fun a' w' s' h' hk hrel hnil hKk hb hs hd=> ?_;rw[hK,←hfx]at hb;exact⟨s',S',rfl,hk,⟨h',hrel,hKk.trans hK⟩,hnil,h3.trans hb,hs.trans h4,hd.trans h5⟩
 |seq x y ihx ihy=>
  intro S st fl s a w N X Rt hc hr hw;simp only[comp,Z8m]at hc;obtain⟨⟨sx,fx⟩,hx,hc⟩:=hc;simp only at hc;split at hc
  ·rename_i hnone;simp only[Z8l,Z8w]at hc;obtain⟨rfl,rfl⟩:=hc;refine wp_seq (ZbN (ihx (N:=N) (X:=X) (Rt:=Rt) hx hr hw) fun e a' w' hp=> ?_);cases e with
   |normal=>obtain⟨s',S',h1,_⟩:=hp;rw[hnone]at h1;cases h1
   |_=>exact hp
  ·rename_i R hsome;simp only[Z8p,Z8w]at hc;obtain⟨⟨sy,fy⟩,hy,rfl,rfl⟩:=hc;refine wp_seq (ZbN (ihx (N:=fun s'=>wpS fc.P sy s' N X Rt) (X:=X) (Rt:=Rt) hx hr hw) fun e a' w' hp=> ?_);cases e with
   |normal=>
    obtain⟨s',S',h1,h2,h3⟩:=hp;rw[hsome]at h1;cases h1;exact ZbN (ihy hy h3 h2) fun e a' w' hp=>hp.mono (fun s S h1 h2 h3=>⟨s,S,h1,h2,h3⟩) (fun id s S h1 h2 h3=>⟨s,S,Z90.2 (.inr h1),h2,h3⟩) fun S hS=>Z90.2 (.inr hS)
   |exit id=>obtain⟨s',S',h1,h2⟩:=hp;exact⟨s',S',Z90.2 (.inl h1),h2⟩
   |ret=>obtain⟨s',S',h1,h2⟩:=hp;exact⟨s',S',Z90.2 (.inl h1),h2⟩
   |_=>exact hp.elim
 |exit id=>
  intro S st fl s a w N X Rt hc hr hw;simp only[comp,Z8l,Z8w]at hc;obtain⟨rfl,rfl⟩:=hc;exact wp_exit ⟨s,S,by simp,hw,hr⟩
 |ret=>
  intro S st fl s a w N X Rt hc hr hw;simp only[comp,Z8l,Z8w]at hc;obtain⟨rfl,rfl⟩:=hc;exact wp_ret ⟨s,S,by simp,hw,hr⟩
 |scope x ih=>
  intro S st fl s a w N X Rt hc hr hw;refine wp_scope_straight (ZbN (ih (by simpa only[comp]using hc) hr hw) fun e a' w' hp=> ?_);cases e<;>exact hp
 |cond cnd x y ihx ihy=>
  intro S st fl s a w N X Rt hc hr hw;cases cnd with
  |tmp tc=>
   simp only[comp]at hc;split at hc
   ·rename_i hfz;simp only[Z8m]at hc;obtain⟨⟨sx,fx⟩,hx,⟨sy,fy⟩,hy,hc⟩:=hc;simp only at hc;split at hc
    ·rename_i hle;simp only[Z8u]at hle;simp only[Z8l,Z8w]at hc;obtain⟨rfl,rfl⟩:=hc;obtain⟨⟨h,h1,hKk⟩,hrest⟩:=hr;obtain⟨v,hv,hrel⟩:=h1.at_ tc (by rw[Zy,hfz];exact Zb s c) (by rw[Zy,hfz];rfl);rw[Zy,hfz]at hrel;obtain⟨xv,hxv,hxr⟩:=hrel;rw[hix]at hxv;have hav:=Act.eval_tmp a tc v hv
     have weak: ∀ {f:Flow} {fl:Flow} {e:Exit} {a':Act} {w':World},leO fc.P f.n fl.n=true→(∀z∈f.x,z∈fl.x)→(∀z∈f.r,z∈fl.r)→Post Kf fix T0 c B G w0 n0 f N X Rt e a' w'→Post Kf fix T0 c B G w0 n0 fl N X Rt e a' w':=by
      intro f fl e a' w' hl hx hr hp;refine hp.mono (fun s S h1 h2 h3=> ?_) (fun id s S h1 h2 h3=>⟨s,S,hx _ h1,h2,h3⟩) hr;rw[h1]at hl;obtain⟨R,hR,hle⟩:=QO hl;exact⟨s,R,hR,h2,h3.weak (by rw[hP];exact hle)⟩
     simp only[wpS]at hw;split at hw
     ·rename_i hb;rw[hxv]at hb;cases hb;have hvb:v= .bool true:=by cases hxr;rfl
      refine wp_cond_true (by rw[hav,hvb]) (ZbN (ihx hx ⟨⟨h,h1,hKk⟩,hrest⟩ hw) fun e a' w' hp=> ?_);exact weak hle.1 (fun z hz=>Z90.2 (.inl hz)) (fun z hz=>Z90.2 (.inl hz)) hp
     ·rename_i hb;rw[hxv]at hb;cases hb;have hvb:v= .bool false:=by cases hxr;rfl
      refine wp_cond_false (by rw[hav,hvb]) (ZbN (ihy hy ⟨⟨h,h1,hKk⟩,hrest⟩ hw) fun e a' w' hp=> ?_);exact weak hle.2 (fun z hz=>Z90.2 (.inr hz)) (fun z hz=>Z90.2 (.inr hz)) hp
     ·exact hw.elim
    ·cases hc
   ·cases hc
  |_=>simp[comp]at hc
 |block id x ih=>
  intro S st fl s a w N X Rt hc hr hw;simp only[comp,Z8m]at hc;obtain⟨⟨sx,fx⟩,hx,hc⟩:=hc;simp only at hc;split at hc
  ·rename_i hle;simp only[Z8u,Z8A,Z8J,Zbl,ne_eq]at hle;obtain⟨hle1,hle2⟩:=hle;simp only[Z8l,Z8w]at hc;obtain⟨rfl,rfl⟩:=hc;generalize Z1T fc.P fx.n (LK fc.P ((fx.x.filter fun y=>y.1==id).map (·.2)))=M at hle1 hle2⊢;refine wp_block (ZbN (ih (N:=N) (X:=fun i s'=>if i=id then N s' else X i s') (Rt:=Rt) hx hr hw) fun e a' w' hp=> ?_);cases e with
   |normal=>
    obtain⟨s',S',h1,h2,h3⟩:=hp;rw[h1]at hle1;obtain⟨R,hR,hl⟩:=QO hle1;exact⟨s',R,hR,h2,h3.weak (by rw[hP];exact hl)⟩
   |exit id'=>
    obtain⟨s',S',h1,h2,h3⟩:=hp;simp only[Exit.inBlock];by_cases hid:id'=id
    ·subst hid;simp only[Z9c]at h2⊢;obtain⟨R,hR,hl⟩:=QO ((hle2 _ h1).resolve_left (by simp));exact⟨s',R,hR,h2,h3.weak (by rw[hP];exact hl)⟩
    ·simp only[if_neg hid]at h2⊢;exact⟨s',S',Zb3.2 ⟨h1,by simpa using hid⟩,h2,h3⟩
   |ret=>exact hp
   |_=>exact hp.elim
  ·cases hc
 |loop x ih=>
  intro S st fl s a w N X Rt hc hr hw;simp only[comp,Z8m]at hc;obtain⟨H,hH,⟨sx,fx⟩,hx,hc⟩:=hc;simp only at hc;split at hc
  ·rename_i hle;simp only[Z8u]at hle;simp only[Z8l,Z8w]at hc;obtain⟨rfl,rfl⟩:=hc;obtain⟨I,μ,hI0,hround⟩:=hw;have hixs:(H.map fun y=>fc.ix y.1)=H.map fun y=>c.ix y.1:=by rw[hix]
   rw[hixs]at hI0 hround;refine wp_loop (fun a w=> ∃s,I s∧RelS Kf fix T0 c B G w0 n0 s a w H) (fun a w=>least fun n=> ∃s,μ s=n∧I s∧RelS Kf fix T0 c B G w0 n0 s a w H) ⟨_,hI0,(hr.weak (by rw[hP];exact hle.1)).only⟩ fun a w hI=> ?_;obtain⟨s0,hs0,hr0⟩:=hI;obtain⟨s1,hμ,hs1,hr1⟩:=qv (p:=fun n=> ∃s,μ s=n∧I s∧RelS Kf fix T0 c B G w0 n0 s a w H) ⟨μ s0,s0,rfl,hs0,hr0⟩;refine ZbN (ih hx hr1 (hround s1 hs1)) fun e a' w' hp=> ?_;cases e with
   |normal=>
    obtain⟨s',S',h1,⟨h2,h4⟩,h3⟩:=hp;have hl:=hle.2;rw[h1]at hl;have hr':=(h3.weak (show leSS c.P S' H=true by rw[hP];exact hl)).only;refine⟨⟨_,h2,hr'⟩,?_⟩;rw[←hμ];exact Nat.lt_of_le_of_lt (Z1j (p:=fun n=> ∃s,μ s=n∧I s∧RelS Kf fix T0 c B G w0 n0 s a' w' H) ⟨_,rfl,h2,hr'⟩) h4
   |exit id=>exact hp
   |ret=>exact hp
   |_=>exact hp.elim
  ·cases hc
 |rangeFunc f params asg body ih1 ih2=>intro S st fl s a w N X Rt hc;simp[comp]at hc
 |goto l=>intro S st fl s a w N X Rt hc;simp[comp]at hc
 |refuse why=>intro S st fl s a w N X Rt hc;simp[comp]at hc
end
end Vm
namespace Vm
open Go
open Go.RowKit (Below)
def Lj(s:St):Nat×RK→Option V
 | (i,.v)=>match get s i with| .v x=>some x|_=>none
 | (i,.ag n)=>match get s i with| .m cs=>if n≤cs.length then some (.agg (cs.take n))else none|_=>none
 | (i,.one)=>match get s i with| .m (x::_)=>some x|_=>none
def Sz(s:St):List (Nat×RK)→Option (List V)
 | []=>some []
 |x::l=>(Lj s x).bind fun y=>(Sz s l).map (y:: ·)
def resV(s:St)(l:List (Nat×RK)):Option V:=
 match l with
 | [x]=>Lj s x
 |l=>(Sz s l).map .tup
theorem L3: ∀ {l:List Nat} {p:Nat},p∈l→l[pos l p]? =some p
 | [],p,h=>by simp at h
 |q::l,p,h=>by
  simp only[pos];by_cases hq:q=p
  ·subst hq;simp
  ·rw[if_neg hq];have:p∈l:=(Z8V.1 h).resolve_left fun e=>hq e.symm;simpa using L3 this
theorem Q7: ∀ {l r:List Nat} {t:Nat},t∈l→pos (l++r) t=pos l t
 | [],r,t,h=>by simp at h
 |q::l,r,t,h=>by
  simp only[Z9s,pos];by_cases hq:q=t
  ·rw[if_pos hq,if_pos hq]
  ·rw[if_neg hq,if_neg hq,Q7 ((Z8V.1 h).resolve_left fun e=>hq e.symm)]
theorem Z3a{l:List Nat}{p q:Nat}(hp:p∈l)(hq:q∈l)(h:pos l p=pos l q):p=q:=by
 have h1:=L3 hp;rw[h,L3 hq]at h1;cases h1;rfl
section
variable {c:Ctx} {B:Nat} {G:Nat→Prop} {s t u:St} {a a':Act} {w w' w0:World} {h:GH} {n0:Nat} {S R:SS}
def rkOf(P:Program)(ix:Nat→Nat):ResultVar→Nat×RK
 | .tmp t=>(ix t,.v)
 | .cell a t=>(ix a,if Zn P t then .ag (P.cellsOf t)else .one)
def Q1(tmps:Array Value):ResultVar→Sem Value
 | .tmp t=>pure (tmps.getD t undef)
 | .cell p t=>do loadVar t (←asAddr (tmps.getD p undef))
theorem Z1d(P:Program)(ix:Nat→Nat)(f:Func):Z0f P ix f=f.results.toList.map (rkOf P ix):=by
 unfold Z0f;refine ZaA fun r _=> ?_;cases r<;>rfl
theorem Z0T(hrel:RelG c B G s a w h (ZZ c S))(hnil:Rn c s S){D:Nat→Prop}(hF: ∀b,h.F b→D b){r:ResultVar}(hbl0: ∀i b,h.bl (Ta r) (i+1)=some b→D b)(hok:qQ c.P S r=true){x:V}(hx:Lj s (rkOf c.P c.ix r)=some x):
  ∃v,(Q1 a.tmps r).run c.P w= .ok v w∧Rd w D x v:=by
 cases r with
 |tmp tt=>
  simp only[rkOf,Q1]at hx⊢;simp only[qQ]at hok;cases hS:S.at tt with
  |none=>rw[hS]at hok;cases hok
  |some k=>
   obtain⟨v,hv,hk⟩:=hrel.at_ tt (by rw[Zy,hS];exact Zb s c) (by rw[Zy,hS];cases k<;>rfl);rw[Zy,hS]at hk;have hvd:a.tmps.getD tt undef=v:=by simp[Z8q,hv]
   refine⟨v,by simp[hvd],?_⟩;simp only[Lj]at hx
   have hget:get s (c.ix tt)= .v x:=by
    cases hg:get s (c.ix tt)<;>rw[hg]at hx<;>simp at hx
    rw[hx]
   cases k with
   |fz=>
    obtain⟨y,h1,h2⟩:=hk;simp only[eval,hget,Z8l]at h1;subst h1;exact h2.mono fun b hb=>hF b (GH.ext_nil hb)
   |own ty=>
    obtain⟨y,h1,h2⟩:=hk;simp only[eval,hget,Z8l]at h1;subst h1;exact h2.rd hF fun b hb=>hbl0 0 b hb
   |nil=>
    have hv0:v= .slice none 0 0:=hk;subst hv0;have:=hnil tt hS;rw[hget]at this;simp only[SV.v.injEq]at this;subst this;exact .nil _ _ (Z9n _)
   |mem l=>rw[hS]at hok;cases hok
   |clo f l=>rw[hS]at hok;cases hok
 |cell p ty=>
  simp only[rkOf,Q1]at hx⊢;simp only[qQ]at hok;cases hS:S.at p with
  |none=>rw[hS]at hok;cases hok
  |some k=>
   cases k with
   |mem l=>
    rw[hS]at hok;simp only[Z8u,Z8A,Zbl,ne_eq]at hok;obtain⟨⟨hT,hdead⟩,hlen⟩:=hok;obtain⟨v,hv,hk⟩:=hrel.at_ p (by rw[Zy,hS];exact Zb s c) (by rw[Zy,hS];rfl);rw[Zy,hS]at hk;obtain⟨b,vs,T,h1,rfl,h3,h4⟩:=hk;have hvd:a.tmps.getD p undef= .pointer (some ⟨b,0,none⟩):=by simp[Z8q,hv]
    rw[hvd];have hsz:vs.size=l.length:=by have:=h4.1;simpa using this
    have hcell: ∀i,i<l.length→ ∃y,eval s (.m (c.ix p) i)=some y∧y.one=true∧Rd w D y (vs.getD i undef):=by
     intro i hi;have:=h4.2 i (l[i],.m (c.ix p) i) (by simp[hi]);exact this.rd (hdead l[i] (Z8M hi)) hF fun ty _ b hb=>hbl0 i b hb
    obtain⟨d,info,hd,hinf,hs,hagg⟩:=Wy hT;cases hag:Zn c.P ty with
    |true=>
     rw[hag]at hlen hx;simp only[Z9c,Z99]at hlen;simp only[Z9c,Lj]at hx;split at hx
     ·rename_i cs hget;split at hx
      ·rename_i hle;simp only[Z8l]at hx;subst hx
       have hl:=run_loadCells_list (P:=c.P) w ⟨b,0,none⟩ vs.toList (fun j u hj=>by
        rw[Za0,Z97,Z8s w b j vs T (0,0) h3];simpa using hj)
       simp only[Zaj]at hl;refine⟨.agg vs,?_,?_⟩
       ·simp only[asAddr,Zag,ZbA,Zai];unfold loadVar;simp[hagg,hag,Yr hinf,←hs,←hlen,←hsz,hl]
       ·have hone: ∀(i:Nat) (y:V),(cs.take (c.P.cellsOf ty))[i]? =some y→y.one=true∧Rd w D y (vs.getD i undef):=by
         intro i y hi;rw[Z8T]at hi;split at hi
         ·rename_i hlt;obtain⟨z,hz,hz1,hz2⟩:=hcell i (by rw[hlen];exact hlt);simp only[eval,hget,hi,Z8y]at hz;obtain⟨rfl,_⟩:=X8 hz;exact⟨hz1,hz2⟩
         ·cases hi
        exact .agg _ vs (by rw[hsz,hlen];simp;omega) (fun y hy=>by
         obtain⟨i,hi⟩:=Z8O hy;exact(hone i y hi).1) fun i y hi=>(hone i y hi).2
      ·cases hx
     ·cases hx
    |false=>
     rw[hag]at hlen hx;simp only[Z8U,Z9f,Z8L]at hlen;simp only[Z8U,Z9f,Lj]at hx;split at hx
     ·rename_i y0 r hget;simp only[Z8l]at hx;subst hx;obtain⟨z,hz,hz1,hz2⟩:=hcell 0 hlen;simp only[eval,hget,Z9V,Z8y]at hz;obtain⟨rfl,_⟩:=X8 hz;refine⟨vs.getD 0 undef,?_,hz2⟩
      have hc:w.cell? ⟨b,0,none⟩=some (vs.getD 0 undef):=by
       rw[Z8s w b 0 vs T (0,0) h3];have:0<vs.size:=by omega
       simp[Z8q,this]
      simp only[asAddr,Zag,ZbA,Zai];unfold loadVar;simp[hagg,hag,hc]
     ·cases hx
   |_=>rw[hS]at hok;cases hok
theorem zo(hrel:RelG c B G s a w h (ZZ c S))(hnil:Rn c s S){D:Nat→Prop}(hF: ∀b,h.F b→D b): ∀ {l:List ResultVar},(∀r∈l,qQ c.P S r=true∧ ∀i b,h.bl (Ta r) (i+1)=some b→D b)→ ∀ {xs:List V},Sz s (l.map (rkOf c.P c.ix))=some xs→
  ∃vs:List Value,(l.mapM (Q1 a.tmps)).run c.P w= .ok vs w∧vs.length=xs.length∧
   ∀(i:Nat) (x:V),xs[i]? =some x→ ∃v,vs[i]? =some v∧Rd w D x v
 | [],_,xs,hx=>by
   simp only[Z9I,Sz,Z8l]at hx;subst hx;exact⟨[],by simp,rfl,fun i x hi=>by simp at hi⟩
 |r::l,hok,xs,hx=>by
  simp only[Z8Q,Sz,Z8m,Z8p]at hx;obtain⟨y,hy,ys,hys,rfl⟩:=hx;obtain⟨v,hv,hvr⟩:=Z0T hrel hnil hF (hok r (by simp)).2 (hok r (by simp)).1 hy;obtain⟨vs,hvs,hl,hat⟩:=zo hrel hnil hF (fun q hq=>hok q (by simp[hq])) hys;refine⟨v::vs,?_,by simp[hl],fun i x hi=> ?_⟩
  ·simp only[ZbF,Zag];rw[hv];simp only[Zai,Zag];rw[hvs];simp
  ·cases i with
   |zero=>simp at hi;subst hi;exact⟨v,rfl,hvr⟩
   |succ i=>simpa using hat i x (by simpa using hi)
theorem RA(hrel:RelG c B G s a w h (ZZ c S))(hnil:Rn c s S){D:Nat→Prop}(hF: ∀b,h.F b→D b){f:Func}(hok': ∀r∈f.results.toList,qQ c.P S r=true∧ ∀i b,h.bl (Ta r) (i+1)=some b→D b){x:V}(hx:resV s (Z0f c.P c.ix f)=some x):
  ∃v,(results f a.tmps).run c.P w= .ok v w∧Rd w D x v:=by
 have hrun: ∀vs:List Value,(f.results.toList.mapM (Q1 a.tmps)).run c.P w= .ok vs w→
   (results f a.tmps).run c.P w= .ok (if h:vs.toArray.size=1 then vs.toArray[0]else .tuple vs.toArray) w:=by
  intro vs hvs
  have hf:results f a.tmps=(do let vs←f.results.mapM (Q1 a.tmps);pure (if h:vs.size=1 then vs[0]else Value.tuple vs)):=by
   unfold results;refine Z9U (fun g:ResultVar→Sem Value=>(do let vs←f.results.mapM g;pure (if h:vs.size=1 then vs[0]else Value.tuple vs))) ?_;funext r;cases r<;>rfl
  rw[hf,Array.mapM_eq_mapM_toList];simp only[Zag,map_eq_pure_bind];rw[hvs];simp
 rw[Z1d]at hx;generalize hl:f.results.toList=l at hx hok' hrun
 match l,hx with
 | [r],hx=>
   simp only[Z8Q,Z9I,resV]at hx;obtain⟨v,hv,hvr⟩:=Z0T hrel hnil hF (hok' r (by simp)).2 (hok' r (by simp)).1 hx;refine⟨v,?_,hvr⟩;have:=hrun [v] (by simp only[ZbF,List.mapM_nil,Zag];rw[hv];simp);simpa using this
 | [],hx=>
   simp only[Z9I,resV,Sz,Z9w,Z8l]at hx;subst hx;have:=hrun [] (by simp);exact⟨_,by simpa using this,.tup _ _ rfl fun i c hi=>by simp at hi⟩
 |r::r'::l,hx=>
  simp only[Z8Q,resV]at hx;simp only[Z8p]at hx;obtain⟨xs,hxs,rfl⟩:=hx;obtain⟨vs,hvs,hlen,hat⟩:=zo hrel hnil hF hok' (xs:=xs) (by simpa only[Z8Q]using hxs)
  have hxl:xs.length=l.length+2:=by
   simp only[Sz,Z8m,Z8p]at hxs;obtain⟨y,_,ys,⟨y',_,ys',h3,rfl⟩,rfl⟩:=hxs
   have: ∀ {l:List (Nat×RK)} {xs:List V},Sz s l=some xs→xs.length=l.length:=by
    intro l
    induction l with
    |nil=>intro xs h;simp only[Sz,Z8l]at h;subst h;rfl
    |cons a l ih=>
     intro xs h;simp only[Sz,Z8m,Z8p]at h;obtain⟨_,_,ys,h2,rfl⟩:=h;simp[ih h2]
   have:=this h3;simp at this;simp[this]
  have hr2:=hrun vs hvs;have hne: ¬vs.toArray.size=1:=by simp;omega
  rw[dif_neg hne]at hr2;refine⟨_,hr2,.tup _ _ (by simp[hlen]) fun i x hi=> ?_⟩;obtain⟨v,hv,hvr⟩:=hat i x hi;have:vs.toArray.getD i undef=v:=by simp[Z8q,hv]
  rw[this];exact hvr
end
def argS(k:OT)(x:V):SV:=
 match k,x with
 | .mem _,.agg cs=> .m cs
 |_,x=> .v x
def Ri:List OT→List V→St
 |k::ks,x::xs=>argS k x::Ri ks xs
 |_,_=> []
theorem Kr: ∀ {ks:List OT} {xs:List V} {i:Nat} {k:OT} {x:V},ks[i]? =some k→xs[i]? =some x→get (Ri ks xs) i=argS k x
 | [],_,_,_,_,hk,_=>by simp at hk
 |_::_,[],_,_,_,_,hx=>by simp at hx
 |k::ks,x::xs,0,k',x',hk,hx=>by simp at hk hx;subst hk hx;rfl
 |k::ks,x::xs,i+1,k',x',hk,hx=>by
  have:=Kr (ks:=ks) (xs:=xs) (i:=i) (by simpa using hk) (by simpa using hx);simpa[Ri,get]using this
def finV(s:St)(i:Nat)(k:OT):Option V:=
 match k with
 | .fz=>some (.bool false)
 | .own _=>match get s i with
   | .v x=>some x
   |_=>none
 | .mem l=>match get s i with
   | .m cs=>if cs.length=l.length then some (.agg cs)else none
   |_=>none
 |_=>none
def SI(s:St):Nat→List OT→Option (List V)
 |_,[]=>some []
 |i,k::ks=>(finV s i k).bind fun x=>(SI s (i+1) ks).map (x:: ·)
theorem Q2: ∀ {ks:List OT} {i:Nat} {s:St} {ys:List V},SI s i ks=some ys→ys.length=ks.length∧ ∀(j:Nat) (k:OT) (y:V),ks[j]? =some k→ys[j]? =some y→finV s (i+j) k=some y
 | [],i,s,ys,hf=>by
   simp only[SI,Z8l]at hf;subst hf;exact⟨rfl,fun j k y hk=>by simp at hk⟩
 |k::ks,i,s,ys,hf=>by
  simp only[SI,Z8m,Z8p]at hf;obtain⟨y,hy,ys',hys,rfl⟩:=hf;obtain⟨h1,h2⟩:=Q2 hys;refine⟨by simp[h1],fun j k' y' hk hy'=> ?_⟩;cases j with
  |zero=>simp at hk hy';subst hk hy';exact hy
  |succ j=>
   have:=h2 j k' y' (by simpa using hk) (by simpa using hy');rw[show i+(j+1)=i+1+j by omega];exact this
theorem QV(ks:List OT)(t:Nat):SS.at (ks.zipIdx.map fun x=>(x.2,x.1)) t=ks[t]? :=by
 have: ∀(ks:List OT) (n t:Nat),SS.at ((ks.zipIdx n).map fun x=>(x.2,x.1)) t=if n≤t then ks[t-n]? else none:=by
  intro ks
  induction ks with
  |nil=>intro n t;simp[SS.at]
  |cons k ks ih=>
   intro n t;simp only[List.zipIdx_cons,Z8Q,SS.at,ih];by_cases h1:n=t
   ·subst h1;simp
   ·rw[if_neg h1];by_cases h2:n≤t
    ·have h3:n+1≤t:=by omega
     rw[if_pos h2,if_pos h3,show t-n=(t- (n+1))+1 by omega];simp
    ·have h3: ¬n+1≤t:=by omega
     rw[if_neg h2,if_neg h3]
 have:=this ks 0 t;simpa using this
def nz:Option OT→Option OT
 |some .fz=>none
 |x=>x
theorem qr(ks:List OT)(t:Nat):(Ve ks).at t=nz ks[t]? :=by
 have: ∀(ks:List OT) (n t:Nat),SS.at ((ks.zipIdx n).filterMap fun x=>match x.1 with| .fz=>none|k=>some (x.2,k)) t=if n≤t then nz ks[t-n]? else none:=by
  intro ks
  induction ks with
  |nil=>intro n t;simp[SS.at,nz]
  |cons k ks ih=>
   intro n t
   have hrest:n≠t→(if n+1≤t then nz ks[t- (n+1)]? else none)=if n≤t then nz (k::ks)[t-n]? else none:=by
    intro h1;by_cases h2:n≤t
    ·have h3:n+1≤t:=by omega
     rw[if_pos h2,if_pos h3,show t-n=(t- (n+1))+1 by omega];simp
    ·have h3: ¬n+1≤t:=by omega
     rw[if_neg h2,if_neg h3]
   simp only[List.zipIdx_cons,Z9R];by_cases h1:n=t
   ·subst h1;have h3: ¬n+1≤n:=by omega
    cases k<;>simp[SS.at,ih,nz,h3]
   ·rw[←hrest h1];cases k<;>simp only[SS.at,ih,if_neg h1]
 have h:=this ks 0 t;simp only[Z9n,Z9c,Nat.sub_zero]at h;exact h
theorem Z2P{P:Program}{f:FuncId}{fn:Func}{cf:Fn}{fresh:FuncId→Bool}{sig:FuncId→Option (List OT)}{ks:List OT}{fin:SS}(hf:P.funcs[f]? =some fn)(hm:P.follows .mixedOrders=true)(hc:Zc P fresh sig ks fin fn=some cf)
  {xs:List V} {Rt:St→Prop} (hw:wpS P cf.body (Ri ks xs) Rt (fun _ _=>False) Rt) {B:Nat} {w:World} {h:GH} {vs:Array Value} (hok:Ok B h.F w h) (hA:RelA P B w h ks xs vs) {Q:Ending→World→Prop}
  (hQ: ∀(c:Ctx) (s:St) (S:SS) (a:Act) (w':World) (h':GH),c.P=P→(∀t,t<ks.length→c.ix t=t)→(∀t∈cf.keep,c.ix t=pos cf.keep t)→cf.res=Z0f P c.ix fn→Rt s→RelG c B h.F s a w' h' (ZZ c S)→Rn c s S→h'.K=h.K→Frm h.K (fun t=>t∈LN ks) vs B w a w'→qy P fn fin S=true→
   ∃v,(results fn a.tmps).run P w'= .ok v w'∧Q (.returned v) w'):Calls P f vs w Q:=by
 unfold Zc at hc;simp only[Z8m]at hc;obtain⟨code,hb,⟨st,fl⟩,hcomp,hc⟩:=hc;split at hc
 ·rename_i hcond;simp only[Z5D,Z8u]at hcond;obtain⟨⟨⟨hn1,hr1⟩,hx1⟩,hix⟩:=hcond;simp only[Z8l]at hc;subst hc;simp only at hw;generalize hkeep:jR [] ((List.range ks.length)++Yl (fun ops=>LW ops++LG ops ops.toList []) code)=keep at*;generalize hmore:jR [] ((Yl zS code).filter fun t=> !keep.contains t)=more at*
  have hixt: ∀t,t<ks.length→pos (keep++more) t=t:=fun t ht=>by
   have:=Z8A.1 hix t (Z9T.2 ht);simpa using this
  refine calls_of_wp hf hb ?_;have hinj: ∀p∈keep,∀q∈keep,pos (keep++more) p=pos (keep++more) q→p=q:=fun p hp q hq he=>Z3a (Z9A _ hp) (Z9A _ hq) he;obtain⟨hxl,hvl,hAi⟩:=hA
  have hfl: ∀t,t∈LN ks→t<vs.size:=by
   intro t ht;simp only[LN,Ve,Z8S,Zaa]at ht;obtain⟨y,⟨x,hx,hy⟩,rfl⟩:=ht;have hlt:=(List.mem_zipIdx hx).2.1;have:y.2=y.2:=rfl
   have hy1:y.1=x.2:=by
    split at hy
    ·cases hy
    ·simp only[Z8l]at hy;rw[←hy]
   rw[hy1,hvl];omega
  have hrel:RelS h.K (LN ks) vs {P,ix:=pos (keep++more),own:=fun _=>false,fresh,sig,tr:=trOf fn,n:=fn.ntmps} B h.F w (vs++Array.replicate (fn.ntmps-vs.size) undef).size (Ri ks xs)
    {tmps:=vs++Array.replicate (fn.ntmps-vs.size) undef,defers:= []} w (ks.zipIdx.map fun x=>(x.2,x.1)):=by
   refine⟨⟨h,⟨hok,fun t _ hk=> ?_,fun t hh=> ?_⟩,rfl⟩,fun p hp=> ?_,⟨.refl _ _,.refl _ _,fun t ht=> ?_⟩,rfl,rfl⟩
   ·rw[Zy]at hk⊢;rw[QV]at hk⊢;by_cases ht:t<ks.length
    ·rw[Z8n ht]at hk⊢;have hlt:t<xs.length:=by omega
     obtain⟨tk,harg,hrel⟩:=hAi t ks[t] xs[t] (Z8n ht) (Z8n hlt);refine⟨vs.getD t undef,?_,?_⟩
     ·simp only;rw[Zao (by omega)];simp[Z8q,show t<vs.size by omega]
     ·have hg:get (Ri ks xs) (pos (keep++more) t)=argS ks[t] xs[t]:=by rw[hixt t ht];exact Kr (Z8n ht) (Z8n hlt)
      generalize ks[t]=k at harg hg;generalize xs[t]=x at harg hg;cases k with
      |fz=>
       simp only[argK,Z8l]at harg;subst harg;obtain⟨y,h1,h2⟩:=hrel;simp only[eval,Z8l]at h1;subst h1;exact⟨x,by simp only[eval,hg,argS],h2⟩
      |own ty=>
       simp only[argK,Z8l]at harg;subst harg;obtain⟨y,h1,h2⟩:=hrel;simp only[eval,Z8l]at h1;subst h1;exact⟨x,by simp only[eval,hg,argS],h2⟩
      |mem l=>
       cases x<;>simp only[argK]at harg<;>first| (cases harg;done) |skip
       rename_i cs;split at harg
       ·rename_i hlen;simp only[Z8l]at harg;subst harg;obtain⟨b,us,T,e1,e2,e3,e4,e5⟩:=hrel;refine⟨b,us,T,e1,e2,e3,by rw[e4];simp;omega,fun i ck hi=> ?_⟩;simp only[Z8D,Zac,Z8p,Z97]at hi;obtain⟨y,⟨k2,hk2,rfl⟩,rfl⟩:=hi;have hlt:i<cs.length:=by rw[hlen];exact(Z8o.1 hk2).1
        have hc:=e5 i (k2,.c cs[i]) (by rw[Z8D,Z8p];exact⟨(k2,cs[i]),by rw[Zau];exact⟨hk2,Z8n hlt⟩,rfl⟩);refine hc.eval fun y h1 hy=> ?_;simp only[eval,Z8l]at hy;subst hy;simp only[eval,hg,argS,Z8n hlt,Z8y,oneV,h1,Z9c]
       ·cases harg
      |nil=>simp[argK]at harg
      |clo f l=>simp[argK]at harg
    ·rw[Z9x (by omega)]at hk;cases hk
   ·exact absurd (by rw[Zy];rw[QV];split<;>exact Ws _) hh
   ·rw[QV]at hp;have hlt:p<xs.length:=by have:=(Z8o.1 hp).1;omega
    obtain⟨tk,harg,_⟩:=hAi p .nil xs[p] hp (Z8n hlt);simp[argK]at harg
   ·simp only;rw[Zao (hfl t ht)]
  refine ZbN (yG (c:= {P,ix:=pos (keep++more),own:=fun _=>false,fresh,sig,tr:=trOf fn,n:=fn.ntmps}) (fc:= {P,ix:=pos (keep++more),fresh,sig,tr:=trOf fn,fix:=LN ks,n:=fn.ntmps,keep}) hm hinj rfl rfl rfl (by simp;omega) code hcomp hrel hw) fun e a' w' hp=> ?_
  have fin': ∀ {s:St} {S:SS},qy P fn fin S=true→Rt s→RelS h.K (LN ks) vs {P,ix:=pos (keep++more),own:=fun _=>false,fresh,sig,tr:=trOf fn,n:=fn.ntmps} B h.F w (vs++Array.replicate (fn.ntmps-vs.size) undef).size s a' w' S→
    a'.defers= []∧ ∃v,(results fn a'.tmps).run P w'= .ok v w'∧Q (.returned v) w':=by
   intro s S h1 h2 h3;obtain⟨⟨h',h3,h4⟩,h5,h6,h7,h8⟩:=h3;exact⟨h8,hQ _ s S a' w' h' rfl hixt (fun t ht=>Q7 ht) rfl h2 h3 h5 h4 h6 h1⟩
  cases e with
  |normal=>
   obtain⟨s,S,h1,h2,h3⟩:=hp;rw[h1]at hn1;exact fin' hn1 h2 h3
  |ret=>
   obtain⟨s,S,h1,h2,h3⟩:=hp;exact fin' (Z8A.1 hr1 S h1) h2 h3
  |exit id=>obtain⟨s,S,h1,h2,_⟩:=hp;exact h2.elim
  |_=>exact hp.elim
 ·cases hc
theorem Jq{P:Program}{f:FuncId}{fn:Func}{cf:Fn}{fresh:FuncId→Bool}{sig:FuncId→Option (List OT)}{ks:List OT}(hf:P.funcs[f]? =some fn)(hm:P.follows .mixedOrders=true)(hname:ZY P f=true)(hc:Zc P fresh sig ks (Ve ks) fn=some cf)(hap:Z11 fn (Ve ks)=true)
  {xs:List V} {R:V} (hw:wpS P cf.body (Ri ks xs) (fun s=> ∃r,resV s cf.res=some r∧ ∃ys,SI s 0 ks=some ys∧R=qL r (Xc ks ys)) (fun _ _=>False) (fun s=> ∃r,resV s cf.res=some r∧ ∃ys,SI s 0 ks=some ys∧R=qL r (Xc ks ys))):VCM P f ks xs R:=by
 refine⟨hname,fun B w h vs hok hA=>Z2P hf hm hc hw hok hA fun c s S a w' h' hP hix _ hres ⟨r,hr,ys,hys,hR⟩ hrel hnil hK hfrm hfin=> ?_⟩;subst hP;simp only[qy,Z8u,Z8A]at hfin;obtain⟨hfin1,hle⟩:=hfin;obtain⟨hrel2,hnil2⟩:=Kq hrel hnil hle;rw[hres]at hr
 obtain⟨v,hv,hvr⟩:=RA (D:=(h'.drop (Ts S (Ve ks))).F) hrel hnil (fun b hb=> .inl hb) (fun q hq=>by
  have h1:=hfin1 q hq;have h2:=Z8A.1 hap q hq;refine⟨h1,fun i b hb=> .inr ⟨Ta q,i+1,?_,by omega,hb⟩⟩;unfold Ts;rw[Option.isNone_iff_eq_none.1 h2];cases S.at (Ta q)with
  |none=>rfl
  |some k=>cases k<;>rfl) hr
 obtain⟨hyl,hyat⟩:=Q2 hys;refine⟨v,hv,v,r,ys,h'.drop (Ts S (Ve ks)),rfl,hfrm.below,hfrm.same,hrel2.ok,hK,hvr,⟨hyl,fun i k y hk hkz hy=> ?_⟩,hR⟩;have hlt:i<ks.length:=(Z8o.1 hk).1
 have hpk:(Ve ks).at i=some k:=by
  rw[qr,hk];cases k<;>first|rfl|exact absurd rfl hkz
 obtain⟨u,hu,hru⟩:=hrel2.at_ i (by rw[Zy,hpk];exact Zb s c) (by rw[Zy,hpk];cases k<;>rfl);rw[Zy,hpk]at hru
 have huv:vs.getD i undef=u:=by
  have h1:=hfrm.fix i (Z8S.2 ⟨(i,k),Uo hpk,rfl⟩);rw[hu]at h1;simp[Z8q,←h1]
 rw[huv];have hf:=hyat i k y hk hy;rw[Z97]at hf;cases k with
 |fz=>exact absurd rfl hkz
 |own ty=>
  simp only[finV]at hf;split at hf
  ·rename_i x hg;simp only[Z8l]at hf;subst hf;obtain⟨z,h1,h2⟩:=hru;simp only[eval,hix i hlt,hg,Z8l]at h1;subst h1;exact⟨_,rfl,x,rfl,h2⟩
  ·cases hf
 |mem l=>
  simp only[finV]at hf;split at hf
  ·rename_i cs hg;split at hf
   ·rename_i hlen;simp only[Z8l]at hf;subst hf;obtain⟨b,us,T,e1,e2,e3,e4,e5⟩:=hru;refine⟨.mem ((l.zip cs).map fun y=>(y.1,.c y.2)),by simp only[argK,hlen,Z9c],b,us,T,e1,e2,e3,by rw[e4];simp;omega,fun j ck hj=> ?_⟩;simp only[Z8D,Z8p]at hj;obtain⟨⟨kk,x⟩,hj,rfl⟩:=hj;rw[Zau]at hj;obtain⟨hj1,hj2⟩:=hj;simp only at hj1 hj2;have hc:=e5 j (kk,.m (c.ix i) j) (by simp[hj1])
    have hev: ∀ {z:V},eval s (.m (c.ix i) j)=some z→z=x:=fun hz=>by
     simp only[eval,hix i hlt,hg,hj2,Z8y]at hz;obtain⟨rfl,_⟩:=X8 hz;rfl
    show RelC c.P B [] w' _ _ kk (.c x) (us.getD j undef);cases kk with
    |fz=>obtain⟨z,q1,q2,q3⟩:=hc;have:=hev q1;subst this;exact⟨_,rfl,q2,q3⟩
    |own ty=>obtain⟨z,q1,q2⟩:=hc;have:=hev q1;subst this;exact⟨_,rfl,q2⟩
    |nil=>obtain⟨q1,q2⟩:=hc;have:=hev q2;subst this;exact⟨q1,rfl⟩
    |dead=>exact hc
   ·cases hf
  ·cases hf
 |nil=>simp[finV]at hf
 |clo f l=>simp[finV]at hf
theorem zF: ∀(xs:List V),Ri (xs.map fun _=>OT.fz) xs=xs.map .v
 | []=>rfl
 |x::xs=>by simp only[Z8Q,Ri,argS,zF xs]
theorem Z6{P:Program}{f:FuncId}{fn:Func}{cf:Fn}{fresh:FuncId→Bool}{sig:FuncId→Option (List OT)}{ks:List OT}{fin:SS}(hf:P.funcs[f]? =some fn)(hm:P.follows .mixedOrders=true)(hname:ZY P f=true)(hc:Zc P fresh sig ks fin fn=some cf)
  {args:List V} {r:V} (hks:ks=args.map fun _=> .fz)
  (hw:wpS P cf.body (args.map .v) (fun s=>resV s cf.res=some r) (fun _ _=>False) (fun s=>resV s cf.res=some r)):VC P f false args r:=by
 refine⟨hname,fun w G vs hG hvs hrd=> ?_⟩;subst hks;have hok:Ok w.heap.size G w {F:=G,bl:=fun _ _=>none,K:=fun _=>False}:=⟨Z8v _,hG,fun b hb=> .inl hb,fun b hb=>hb,fun t i b hb=>(by cases hb),fun t i u j b hb=>(by cases hb),fun b hb=>hb.elim,fun t i b hb=>(by cases hb),fun b hb=> .inl hb⟩;refine Z2P (h:= {F:=G,bl:=fun _ _=>none,K:=fun _=>False}) (B:=w.heap.size) (Rt:=fun s=>resV s cf.res=some r) hf hm hc (by rw[zF];exact hw) hok ⟨by simp,by simpa using hvs,fun i k x hk hx=> ?_⟩ fun c s S a w' h' hP hix _ hres hr hrel hnil hK hfrm hfin=> ?_
 ·simp only[Z8D,Z8p]at hk;obtain⟨y,_,rfl⟩:=hk;exact⟨_,rfl,x,rfl,(hrd i x hx).mono fun b hb=> .inl hb⟩
 ·subst hP;simp only[qy,Z8u,Z8A]at hfin;rw[hres]at hr
  obtain⟨v,hv,hvr⟩:=RA (D:=fun b=>G b∨(w.heap.size≤b∧b<w'.heap.size)) hrel hnil (fun b hb=>by
   rcases hrel.ok.f_or b hb with h1|h1
   ·exact .inl h1
   ·exact .inr ⟨h1,hrel.ok.f_lt b hb⟩) (fun q hq=>⟨hfin.1 q hq,fun i b hb=> .inr ⟨(hrel.ok.b_lt _ _ b hb).1,(hrel.ok.b_lt _ _ b hb).2.1⟩⟩) hr
  refine⟨v,hv,v,rfl,hfrm.below,hvr.mono fun b hb=> ?_⟩;rcases hb with hb|hb
  ·exact .inl ⟨rfl,hb⟩
  ·exact .inr hb
end Vm
end
