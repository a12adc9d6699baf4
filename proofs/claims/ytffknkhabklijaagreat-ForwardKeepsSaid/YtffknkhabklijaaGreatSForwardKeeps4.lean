import Derived.Conc.CrowdStepC
import Derived.Listen
import Derived.Test.YtffknkhabklijaaGreatChecked
import Derived.Test.YtffknkhabklijaaGreatSForwardKeeps3
set_option linter.unusedSimpArgs false
set_option linter.unusedVariables false
set_option linter.defProp false
theorem Z2{p:Prop}(h:p:=by kernel_rfl):p:=h
def Zfb:=@Iff.rfl
def Zgk:=@Array.getElem?_mapIdx
def Zg4:=@List.getElem?_cons_succ
section
namespace Vm
open Go Go.Conc
open Go.RowKit (Below)
structure Sub (P Q:Program):Prop where
 same:P= {Q with funcs:=P.funcs,globals:=P.globals}
 glob:Q.globals=#[]
 zero:∀t i z,Q.info? t=some i->i.zero=some z->FixV 0 z
 fn:∀(f:Zn) (fn:Func),Q.funcs[f]?=some fn->(fn.name= "?" /\fn.origin= "?" /\fn.body=none)\/((fn.name== "runtime.NumGoroutine")=false/\P.funcs[f]?=some fn/\∃c,fn.body=some c/\YV Q false c=true)
def Tr(P Q:Z4)(n0:Nat)(G O:Z6):Cx:=
 {Q,fs:=P.funcs,gs:=P.globals,ρ:=id,n0,G,O
  KL:=λl=>YV Q true l.assign=true/\YV Q true l.body=true/\l.pending.all Qy=true/\((∃fn c,Q.funcs[l.fn]?=some fn/\P.funcs[l.fn]?=some fn/\fn.body=some c/\YV Q false c=true)\/(Q.funcs[l.fn]?=none/\P.funcs[l.fn]?=none)\/∃fn a,Q.funcs[l.fn]?=some fn/\P.funcs[l.fn]?=some a/\a.results=fn.results)
  KD:=λd=>Vi d=true}
def Sub.ok{P Q:Z4}(h:Sub P Q)(n0:Nat)(G O:Z6)(ρ:Zb):((Tr P Q n0 G O).at ρ).Ok:=
 ⟨λt i z a f=>h.zero t i z a f ρ λb g=>Z0,h.glob,λl=>Zfb,λd=>Zfb,h.fn⟩
def Sub.P{P Q:Z4}(h:Sub P Q)(n0:Nat)(G O:Z6):(Tr P Q n0 G O).P=P:=h.same.symm
def E6{P Q:Z4}(o:Sub P Q){f:Zn}{fn:Func}(l:Q.funcs[f]?=some fn)(q:fn.body≠none)(vs:Za)(n0:Nat)(G O:Z6)(ρ:Zb):
  P.funcs[f]?=some fn/\Frame.enter Q f vs .normal=Frame.enter P f vs .normal/\((Tr P Q n0 G O).at ρ).St (Frame.enter P f vs .normal) []:=by
 obtain⟨_,_,h⟩|⟨p,a,c,g,j⟩:=o.fn f fn l
 ·simp_all
 ·refine⟨a,by grind [Frame.enter],⟨⟨λi k=> ?_,λd r=> ?_,?_,?_⟩,λc n=>by simp at n,?_⟩⟩
  ·simp[Frame.enter,a,g]at k;subst k;have:(Frame.enter P f vs .normal).roundOf.isSome=false:=by simp[Frame.enter,a,g,Frame.roundOf]
   rw[this];exact j
  ·simp_all[Frame.enter]
  ·simp_all[Frame.enter]
  ·left;exact⟨fn,c,l,a,g,j⟩
  rfl
def Z0E{P:Z4}{f:Zn}{vs:Za}{n:Nat}(h:∀v∈vs,FixV n v):CO n (Frame.enter P f vs .normal):=by
 intro ρ a
 have d:(vs++Array.replicate (((P.funcs[f]?).map (·.ntmps)).getD 0-vs.size) undef).map (Zt ρ)=vs++Array.replicate (((P.funcs[f]?).map (·.ntmps)).getD 0-vs.size) undef:=by
  rw[Zfh,Sn h ρ a];simp[TX]
 simp_all[Frame.enter,Zx,YF,Wb]
def D2{X:Cx}{a w:Z3}(h:X.WR a w)(d:Nat):X.WR a (w.at d):=⟨h.os,h.nl,h.low,h.inj,h.blk⟩
def FR{P Q:Z4}(hs:Sub P Q){f:Zn}{fr:Bool}{args:Zp}{r:V}(hv:VC Q f fr args r)(ha:∀x∈args,NoM x)(hr:NoM r):VC (YK P) f fr args r:=by
 obtain⟨hc,hv⟩:=hv
 obtain⟨fn,hq,H,a7⟩:∃fn,Q.funcs[f]?=some fn/\fn.body≠none/\(fn.name== "runtime.NumGoroutine")=false:=by
  unfold VM at hc
  grind
 have b6:=(E6 hs hq H #[] 0 (λ_=>False) (λ_=>False) id).1;refine⟨?_,λw G vs hG b0 a8 cs b2 hk=> ?_⟩
 ·show VM P f=true;simp_all[VM,Zdn,Zeh]
 obtain⟨n0,R,a5,a4⟩:=Et w vs
 let X:Cx:=Tr P Q n0 (λb=>G b/\∃c e fr,w.heap[b]?=some (.cells c e fr)) (λ_=>False)
 have A:∀ρ,(X.at ρ).P=P:=λρ=>hs.same.symm;have a6:∀t,(X.mask w t).heap.size=n0:=λt=>by simp[Cx.mask,X,Tr]
 have L:=λρ=>E6 hs hq H vs n0 (λb=>G b/\∃c e fr,w.heap[b]?=some (.cells c e fr)) (λ_=>False) ρ
 have hw:=Cy X (hs.ok n0 _ _) (c:=0) (es:=[]) (fr:=Frame.enter P f vs .normal) (cs:=[]) (ds:=cs) (main:=true) (wc:=w) Z1 (λρ=>(L ρ).2.2)
  (λg N=>by
   rw[Zes.1 N];exact Z0E a5)
  (λb o ho hO=>by
   obtain hO|⟨_,c,e,fr,Z⟩:=hO
   ·exact hO.elim
   ·rw[ho]at Z;cases Z;exact a4 b c e fr ho)
  (Post:=λwl l F q=>F=[]/\l.fn=f/\∃v,l.leaving Q q (.returned v)/\Rd q (λb=>(fr=false/\G b)\/(wl.heap.size<=b/\b<q.heap.size)) r v)
  (λt=>by
   obtain⟨e,u,l,⟨v,rfl,_,y⟩,⟨n,hn⟩,B,hl⟩:=hv (X.mask w t) G vs (λb H=>Zcp) b0
    (λi x hx=>M2 (X:=X) (λb h=>h) (λb c e fr N hc=>⟨N,c,e,fr,hc⟩) R (a8 i x hx) (ha x (Zdr hx))) [YO Q]
   rw[(L id).2.1]at hn;exact⟨n,l,[],u,hn,rfl,B,v,hl,y⟩)
 have hw:Play P true 0 X.G _ [] X.O (Conc.G (Frame.enter P f vs .normal) ([]++cs)) w:=(A id)▸hw;refine Z53 hw rfl _ cs w rfl rfl rfl (Zdp _) (λ_ _=>rfl) (λb H=>H.elim) (λb H=>hG b H.1) λO l F u a9 e1 e2 e3 e4 e5=> ?_;obtain⟨ρ,t,a,b3,q,fc,cc,N,hid,⟨rfl,B,v,⟨h1,h2,h3,k,h4,h5⟩,y⟩,C⟩:=a9;injection N with U W;subst U W;have p:l=Zx ρ a:=C.top;have S:F=cs:=C.under;subst S;have a3:l.fn=f:=by rw[p];exact B
 have M:k=fn:=by rw[B,hq]at h4;exact(Zff h4).symm
 subst M;refine hk l u a3 ⟨by rw[p];show Wb ρ a.mode=_;rw[h1];rfl,by rw[p];show a.defers.map _=_;grind,by rw[p];exact h3,k,Zcp,λd=> ?_⟩;have T:(X.at ρ).WR q (u.at d):=D2 C.wr d;have I:=G7 k (a.tmps.map (Zt ρ));have J:Ya ((results k (a.tmps.map (Zt ρ))).run P (u.at d))=u.at d:=I.world _
 have z:=(jE (X:=X.at ρ) (V:=[]) k a.tmps).run q (u.at d) #[] T (λr hr=>by simp at hr)
  (λj hj=>by
   rw[A ρ]at hj;have e:(Ya ((results k (a.tmps.map (Zt (X.at ρ).ρ))).run P (u.at d))).drawn=(u.at d).drawn:=Zez World.drawn J;omega)
  (λj hj=>by
   rw[A ρ]at hj;have e:(Ya ((results k (a.tmps.map (Zt (X.at ρ).ρ))).run P (u.at d))).heap.size=(u.at d).heap.size:=Zez (λw=>w.heap.size) J;omega)
 have a0:(results k a.tmps).run (X.at ρ).Q q=.ok v q:=h5;rw[a0,A ρ]at z;obtain⟨b,Y,b4,Z,a1,b5⟩:=z
 have D:(results k (a.tmps.map (Zt ρ))).run P (u.at d)=.ok b Y:=by
  have:=Zez Prod.fst Z;rw[Zfm]at this;exact this
 have b1:Y=u.at d:=by
  have:=J;rw[D]at this;exact this
 subst b1;have K:b=Zt ρ v:=a1;refine⟨b,by rw[p];exact D,b,rfl,⟨(Zez Prod.fst e1).symm,e2.symm,(Zez Prod.snd e1).symm,e3,e4⟩,?_⟩;rw[K];refine(M1 T y hr).mono λb' a2=> ?_;obtain⟨x,hx,rfl⟩:=a2;obtain⟨U,W⟩|⟨U,W⟩:=hx
 ·left;have:(X.at ρ).ρ x=x:=hid x (Zdw (hG x W) R)
  grind
 ·right;rw[a6]at U;have:=e5 _ (C.own x (.inl U) W);exact this
end Vm
end
section
namespace Vm
open Go Go.Conc Go.ConcN
def IU{P:Z4}:∀(k:Nat) {g:Zj},QuitsIn P k g->g.LeavesIn P k
 |0,g,h=>h
 |k+1,g,h=>by
  obtain h|⟨d,a,f,j⟩:=h
  ·exact .inl h
  ·exact .inr ⟨a,⟨d, #[],λe l=>by simp at l,f⟩,IU k j⟩
def IT{P:Z4}(w:Z3):∀(k:Nat) {g:Zj},QuitsIn P k g->g.endsWith P w k 0=some 0
 |0,g,h=>by
  have h:g.status=.finished:=h;unfold Goroutine.endsWith;rw[h]
 |k+1,g,h=>by
  unfold Goroutine.endsWith;obtain h|⟨a,j,d,f⟩:=h
  ·rw[h]
  ·rw[a,d w];exact IT w k f
def TBt.over{sz:Nat}{t:Trace}(h:TBt sz t):t.HandedOver:=by
 intro i g p f o;obtain⟨x,r,q,_⟩:=o;obtain⟨op,k,l⟩:=touch_of r;obtain⟨j,y,u,n,d⟩:=h.known i op x k l q;have a:t.g? j=some 0:=by simp[Trace.g?,u,n]
 refine⟨j,a,?_⟩;obtain rfl|d:=d
 ·rw[p]at a;exact absurd (Zff a) f
 ·exact d
def Z7c{P:Z4}{fr:Zf}{w:Z3}{fn:Func}{v:Z7}(a:fr.mode=.returning)(h2:fr.defers=[])(d:fr.kind=.normal)(f:P.funcs[fr.fn]?=some fn)(g:(results fn fr.tmps).run P w=.ok v w)(h:P.inits.idxOf? fr.fn=none):
  stepG P true (G fr []) w=.ended (.done v) w (seen P fr.fn ((results fn fr.tmps).events P w #[])):=by
 simp[G,stepG,unwind,doReturn,a,h2,d,f,g,h,GStep.after]
def EndsW(P:Z4)(Post:Zcn)(gs:Zg)(w:Z3)(sl:Option (Nat×Nat))(t:Trace):Prop:=
 ∃N last d o f a,runNT P N (crowd gs w sl) t=(.next last,d)/\stepT P last=(.ended o f,a)/\Good P Post last o f (d++a)
def EndsW.step{P:Z4}{Post:Zcn}{gs a:Zg}{w w1:Z3}{sl f:Option (Nat×Nat)}{t:Trace}{ops:Array MemOp}(h:stepT P (crowd gs w sl)=(.next (crowd a w1 f),ops))(k:EndsW P Post a w1 f (t++ops)):EndsW P Post gs w sl t:=by
 obtain⟨N,last,l,o,n,d,g,j⟩:=k;exact⟨N+1,last,l,o,n,d,by simp only[runNT,h];exact g,j⟩
def Z0D{P:Z4}{Post:Zcn}{fr:Zf}{gs:Zg}{w:Z3}{sl:Option (Nat×Nat)}{t:Trace}{q:Zb}(C:P.inits.idxOf? fr.fn=none)(X:YI P gs.size gs q)(y:gs[0]?=some (G fr []))(Z:TBt w.heap.size t)(T:Leaves P fr w Post):EndsW P Post gs w sl t:=by
 have h:∀(a:Zg) g,a[a.size]? ≠some g:=λa g e=>by
  have:=(Zdq.1 e).1;omega
 obtain⟨N,O,Q,fn,R,S⟩:=T;refine MX (Wn:=EndsW P Post) EndsW.step X (λi g C k=> ?_) ⟨0,_,.inl rfl,y,rfl⟩ λa J u d I q' i g H r l o D f L=> ?_
 ·obtain rfl|rfl:=C
  ·rw[y]at k;cases k;exact⟨awake_of (.inl rfl),λg1 g2 d=>woken_run rfl⟩
  ·exact absurd k (h gs g)
 ·obtain rfl|rfl:=D
  ·have z:a[0]?=some (G fr []):=by rw[l 0 (.inl rfl)];exact y
   obtain⟨v,M,Y⟩:=S d;have A:=runT_crowd_ended (P:=P) (sl:=I) (i:=0) z (Z7c N O Q R M C)
   have B:EvsB (w.at d).heap.size (seen P fr.fn ((results fn fr.tmps).events P (w.at d) #[])):=λe A=>by
    have:=Qm (P:=P) (DG fn fr.tmps) (w.at d) e (mem_seen A);rw[M]at this;exact this
   have n:TBt (w.at d).heap.size (t++MemOp.ofEvents 0 fr.fn (G fr []).frame.place (seen P fr.fn ((results fn fr.tmps).events P (w.at d) #[]))):=Z.main (Zdp _) B;refine⟨0,crowd a (w.at J) u,t,.done v,w.at d,_,rfl,H.trans A,v,rfl,Y,n.clean,n.over,⟨λg k=> ?_,rfl⟩,λi g f U=> ?_⟩
   ·have k:g∈a.toList.drop 1:=k;obtain⟨j,W,rfl⟩:=List.mem_iff_getElem.1 k;have F:j< (a.toList.drop 1).length:=W;simp only[Zfi,ZfA]at F;have e:(a.toList.drop 1)[j]=a[j+1]'Z0:=by simp[Zgo]
    rw[e];have:=o (j+1) (a[j+1]'Z0) Z0 Z0 (ZdQ Z0);exact⟨_,IU _ this⟩
   ·have p:=(Zdq.1 f).1;have p:i<a.size:=p;have:=o i g Z0 Z0 f;refine⟨q' i,?_⟩;have x:=n.hears i;have x:Trace.deaf _ i _=0:=x;have K:=IT (crowd a (w.at J) u).world _ this;rw[<-x]at K;exact K.trans (Zez some x)
  ·rw[<-r]at f;exact absurd f (h a g)
def Z1e{P:Z4}{f:Zn}{args:Za}{W:Z3}{Post:Zcn}(z:P.inits.idxOf? f=none)(h:qG P f args W λe k=>∃v,e=.returned v/\Post v k):
  ∃M last o k I,runNT P (M+1) (solo (G (Frame.enter P f args .normal) []) W) #[]=(.ended o k,I)/\runN P M (solo (G (Frame.enter P f args .normal) []) W)=.next last/\step P last=.ended o k/\Good P Post last o k I:=by
 have hw:Walk P (λl C w=>C=[]/\l.fn=f/\Leaves P l w Post) (Frame.enter P f args .normal) [] W:=h [] _ λl k y ⟨D,r,u,fn,Q,R⟩=>.stop λd=>⟨rfl,y,D,r,u,fn,Q,λL=>by
  obtain⟨v,hv,v',e,X⟩:=R L;cases e;exact⟨v,hv,X⟩⟩
 have n:=hw W.drawn #[G (Frame.enter P f args .normal) []] none #[] (λ_=>0) (λi g D r u=>by
   have:=(Zdq.1 u).1;simp at this r;omega) rfl ⟨λsaid=> ?_,λi=>rfl,λop A=>by simp at A,λi op x z=>by simp at z⟩
 ·obtain⟨N,gs,w,sl,t,Y,l,C,q,O,⟨rfl,rfl,S⟩,U,Z⟩:=n;obtain⟨p,last,J,o,k,B,k1,F,k3⟩:=Z0D (sl:=sl) z U O Z S;have H:runNT P (N+p) (solo (G (Frame.enter P l.fn args .normal) []) W) #[]=(.next last,J):=yB N Y k1;refine⟨N+p,last,o,k,J++B,?_,?_,?_,k3⟩
  ·refine yB (K:=1) (N+p) H ?_;simp only[runNT,F]
  ·rw[<-runNT_fst _ _ _ #[],H]
  ·rw[<-stepT_fst,F]
 ·rintro⟨i,j,_,⟨a,b,T,_⟩,_⟩;simp[Trace.act?]at T
end Vm
end
section
namespace Vm
open Go Go.Conc
def Cl(v:Z7):Prop:=∀ρ,Zt ρ v=v
def Cl.fix{v:Z7}(h:Cl v):FixV 0 v:=λρ _=>h ρ
theorem qM{cs:Za}(h:∀v∈cs,Cl v):Cl (.agg cs):=λρ=>by rw[Wu,Rx λx a=>h x a ρ]
def DM{v:Z7}(h:Cl v):∀x∈v.cells,Cl x:=by
 cases v with
 |agg d=>
  intro x a ρ;have:=h ρ;rw[Wu]at this;injection this with this;obtain⟨i,f⟩:=Array.getElem?_of_mem (show x∈d from a)
  grind
 |_=>intro x a;have:x=_:=(by simpa[Value.cells]using a);rw[this];exact h
def ED{α β:Type}{Q:β->Prop}{f:α->β->Option (ForInStep β)}(g:∀a b s,Q b->f a b=some s->match s with|.done b=>Q b|.yield b=>Q b):∀(l:List α) (b d:β),Q b->forIn l b f=some d->Q d
 | [],b,d,h,e=>by
   simp_all
 |a::l,b,d,h,e=>by
  rw[List.forIn_cons]at e;obtain⟨s,j,e⟩:=Zdi.1 e;have:=g a b s h j;cases s with
  |done c=>simp_all
  |yield c=>exact ED g l c d this e
def UM(i:TypeInfo):Prop:=∀z,i.zero=some z->Cl z
def Z8c{info:TypeId->Option TypeInfo}(l:∀t i,info t=some i->UM i){fs:Array Field}{i:TypeInfo}(h:Made.reckonStruct info fs=some i):UM i:=by
 unfold Made.reckonStruct at h;dsimp only at h;rw[<-Array.forIn_toList]at h;obtain⟨r,o,h⟩:=Zdi.1 h
 have u:=ED (Q:=λr=>∀g,r.2.2.2.2.2.2.2.1=some g->∀v∈g,Cl v) (λa b s n d=>by
  obtain⟨i,q,d⟩:=Zdi.1 d
  have fin:∀g,(if b.2.1+i.size>Made.mostCells then none else do pure ((<-b.2.2.2.2.2.2.2.1)++(<-i.zero).cells):Option (Array Value))=some g->∀v∈g,Cl v:=λg f=>by
   split at f
   ·cases f
   ·obtain⟨w,p,f⟩:=Zdi.1 f;obtain⟨x,k,f⟩:=Zdi.1 f;cases f;intro v j;obtain j|j:=ZeT.1 j
    ·exact n w p v j
    ·exact DM (l _ i q x k) v j
  clear n l o h
  revert fin
  generalize (if b.2.1+i.size>Made.mostCells then none else do pure ((<-b.2.2.2.2.2.2.2.1)++(<-i.zero).cells):Option (Array Value))=Z at d⊢;intro fin;split at d
  ·cases d
  ·split at d
   ·cases d
   ·split at d
    ·obtain⟨tag,_,d⟩:=Zdi.1 d;split at d
     ·cases d;exact fin
     ·cases d;exact fin
    ·obtain⟨tag,_,d⟩:=Zdi.1 d;split at d
     ·cases d;exact fin
     ·cases d;exact fin) _ _ _ (λg f=>by cases f;intro v j;simp at j) o
 have key:∀ {z:Z7},r.2.2.2.2.2.2.2.1.map Value.agg=some z->Cl z:=λf=>by
  obtain⟨g,k,rfl⟩:=Zdm.1 f;exact qM (u g k)
 split at h
 ·cases h;exactλz f=>key f
 ·cases h;exactλz f=>key f
def KZ{d:TypeDesc}{s:String}{v:Z7}{b:Bool}{n:Nat}(h:Cl v):UM (Made.word d s v b n):=λz a=>by
 cases a;exact h
def Z8b{info:TypeId->Option TypeInfo}(l:∀t i,info t=some i->UM i){d:TypeDesc}{i:TypeInfo}(h:Made.reckon info d=some i):UM i:=by
 cases d with
 |struct r=>exact Z8c l h
 |pointer e=>
  obtain⟨x,f,h⟩:=Zdi.1 h
  have w:∀ {s},(do pure (Made.word (.pointer e) ("*" ++(<-s)) (.pointer none) true):Option TypeInfo)=some i->UM i:=λh=>by
   obtain⟨y,_,h⟩:=Zdi.1 h;cases h;exact KZ λρ=>Ue ρ
  grind
 |slice e=>
  obtain⟨x,f,h⟩:=Zdi.1 h;obtain⟨y,_,h⟩:=Zdi.1 h;cases h;exact KZ λρ=>Zdg
 |map k e=>
  obtain⟨x,f,h⟩:=Zdi.1 h;obtain⟨y,_,h⟩:=Zdi.1 h;obtain⟨B,_,h⟩:=Zdi.1 h;obtain⟨C,_,h⟩:=Zdi.1 h;cases h;exact KZ λρ=>Zdg
 |chan d e=>
  obtain⟨x,f,h⟩:=Zdi.1 h;obtain⟨y,_,h⟩:=Zdi.1 h;cases h;exact KZ λρ=>Zdg
 |func u A v=>
  obtain⟨x,f,h⟩:=Zdi.1 h;cases h;exact KZ λρ=>yu ρ
 |array n e=>
  obtain⟨x,f,h⟩:=Zdi.1 h;obtain⟨y,_,h⟩:=Zdi.1 h;cases h;intro z g;dsimp only at g;split at g
  ·cases g
  ·split at g
   ·grind [qM]
   ·obtain⟨q,o,rfl⟩:=Zdm.1 g;refine qM λv j=> ?_;obtain⟨a,p,j⟩:=Array.mem_flatten.1 j;rw[(Array.mem_replicate.1 p).2]at j;exact DM (l e x f q o) v j
 |_=>cases h
theorem O3{T:Tables}(a:∀(t:Z8) (i:TypeInfo),T.types[t]?=some i->UM i):∀(n:Nat) (t:Z8) (i:TypeInfo),Made.infoAt T n t=some i->UM i
 |0,t,i,h=>ZcC
 |n+1,t,i,h=>by
  unfold Made.infoAt at h;split at h
  ·exact a t i h
  ·obtain⟨d,_,h⟩:=Zdi.1 h;exact Z8b (λt i h=>O3 a n t i h) h
def O1(l:List TypeInfo):Bool:=l.all λi=>match i.zero with|some z=>still 9 z|none=>true
def Z8a{P:Z4}(h:O1 P.types.toList=true){t:Z8}{i:TypeInfo}(a:P.info? t=some i):UM i:=by
 have d:∀(t:Z8) (i:TypeInfo),P.types[t]?=some i->UM i:=λt i f z g ρ=>by
  have:=Zdu.1 h i Zcp
  grind [Kw]
 have a:(if t<P.types.size then P.types[t]? else Made.infoAt P.toTables Made.depth t)=some i:=a
 grind [O3]
def M5(fn:Func):Func:= {fn with name:= "?",origin:= "?",body:=none}
def WI(P:Z4)(l:Zd):Program:= {P with globals:=#[],funcs:=P.funcs.mapIdx λi fn=>if l.contains i then M5 fn else fn}
def ZF{P:Z4}{l:Zd}{f:Nat}{fn:Func}(h:P.funcs[f]?=some fn)(a:l.contains f=false):(WI P l).funcs[f]?=some fn:=by
 simp_all[WI,Zgk,ZdD,Zdy,Ze1]
def zK(Q:Z4)(l:Zd):List Func->Nat->Bool
 | [],_=>true
 |fn::a,i=>(l.contains i||(!(fn.name== "runtime.NumGoroutine")&&(match fn.body with|some c=>YV Q false c|none=>false)))&&zK Q l a (i+1)
def GQ{Q:Z4}{l:Zd}:∀ {a:List Func} {i j:Nat} {fn:Func},zK Q l a i=true->a[j]?=some fn->l.contains (i+j)=true\/((fn.name== "runtime.NumGoroutine")=false/\∃c,fn.body=some c/\YV Q false c=true)
 | [],i,j,fn,_,h=>Zd1
 |g::a,i,j,fn,d,h=>by
  simp only[zK,Zdn,ZdC,Zeh]at d;obtain⟨k,f⟩:=d;cases j with
  |zero=>
   grind
  |succ j=>
   rw[Zg4]at h;have:=GQ f h
   grind
def Z75{P:Z4}{l:Zd}(o:O1 P.types.toList=true)(n:zK (WI P l) l P.funcs.toList 0=true):Sub P (WI P l):=by
 refine⟨rfl,rfl,λt i z a d=>Cl.fix (Z8a (P:=WI P l) o a z d),λf fn j=> ?_⟩;simp only[WI,Zgk]at j;obtain⟨g,p,rfl⟩:=Zdm.1 j;by_cases k:l.contains f=true
 ·rw[if_pos k];exact .inl ⟨rfl,rfl,rfl⟩
 ·rw[if_neg k];obtain h|⟨a,d⟩:=GQ n (Zcp:P.funcs.toList[f]?=some g)
  ·simp_all
  simp_all
end Vm
end
section
namespace Vm
open Go Go.Proofs
def yW(P:Program)(l:List Nat)(t:TypeId):(WI P l).underlying t=P.underlying t:=Cx.P_under {Q:=P,fs:=(WI P l).funcs,gs:=#[],ρ:=id,n0:=0,G:=λ_=>False,O:=λ_=>False,KL:=λ_=>False,KD:=λ_=>False} t
def Z71(P:Program)(l:List Nat)(t:TypeId):(WI P l).info? t=P.info? t:=Cx.P_info {Q:=P,fs:=(WI P l).funcs,gs:=#[],ρ:=id,n0:=0,G:=λ_=>False,O:=λ_=>False,KL:=λ_=>False,KD:=λ_=>False} t
def N4(P:Program)(l:List Nat)(t:TypeId)(w:World):(typeInfo t).run (WI P l) w=(typeInfo t).run P w:=by
 unfold typeInfo;simp only[ZdX,Zfa,ZdR,Z71];cases P.info? t<;>simp only[stuck,Zfn,Sem.run]
def N5(P:Program)(l:List Nat)(t:TypeId)(w:World):(underlying t).run (WI P l) w=(underlying t).run P w:=by
 unfold underlying;simp only[ZdX,Zfa,ZdR,yW];cases P.underlying t<;>simp only[stuck,Zfn,Sem.run]
def Z73(P:Program)(l:List Nat)(t:TypeId)(w:World):(Go.sizeOf t).run (WI P l) w=(Go.sizeOf t).run P w:=by
 unfold Go.sizeOf;simp only[ZdX,N4];cases(typeInfo t).run P w<;>simp only[Result.andThen,Zfn]
def Z72(P:Program)(l:List Nat)(t:TypeId)(w:World):(isAgg t).run (WI P l) w=(isAgg t).run P w:=by
 unfold isAgg;simp only[ZdX,N5];cases(underlying t).run P w with
 |ok d w'=>cases d<;>simp only[ZdR,Zfn]
 |halt h w'=>simp only[Result.andThen]
def MF(P:Program)(t:TypeId)(w:World):(zeroValue t).run P w=((typeInfo t).run P w).andThen λi w'=>match i.zero with|some v=>.ok v w'|none=>.halt (.unsupported (.resourceLimit "a value of more than 2^22 cells")) w':=by
 unfold zeroValue;rw[ZdX];refine Zez _ (funext λi=>funext λw'=> ?_);cases i.zero with
 |none=>rfl
 |some v=>rfl
def Z74(P:Program)(l:List Nat)(t:TypeId)(w:World):(zeroValue t).run (WI P l) w=(zeroValue t).run P w:=by
 rw[MF,MF,N4]
def Wk{P:Program}{f:FuncId}{fn:Func}(h:P.funcs[f]?=some fn)(hb:fn.body.isNone=false)(hn:(fn.name== "runtime.NumGoroutine")=false)(args:Array Value)(w:World):(callFunc f args).run P w=.ok (.enter f args) w:=by
 unfold callFunc;simp only[ZdX,Zfa,ZdR,h,hb,hn,Zdy,Ze1];rfl
namespace Sol
def no:List Nat:=[0,1,10,129,130,131,132,133,134,135,136,137,138,139,140,141,142,143,144]
noncomputable def prog:Program:=WI Tryz.prog no
@[simp]theorem und(t:TypeId):prog.underlying t=Tryz.prog.underlying t:=yW _ _ t
@[simp]theorem Zbw(t:TypeId)(w:World):(underlying t).run prog w=(underlying t).run Tryz.prog w:=N5 _ _ t w
@[simp]theorem Zbv(t:TypeId)(w:World):(Go.sizeOf t).run prog w=(Go.sizeOf t).run Tryz.prog w:=Z73 _ _ t w
@[simp]theorem Zbu(t:TypeId)(w:World):(isAgg t).run prog w=(isAgg t).run Tryz.prog w:=Z72 _ _ t w
@[simp]theorem Zbx(t:TypeId)(w:World):(zeroValue t).run prog w=(zeroValue t).run Tryz.prog w:=Z74 _ _ t w
@[simp]theorem main:prog.main=Tryz.prog.main:=rfl
@[simp]theorem func6:prog.funcs[6]?=some Tryz.f6:=ZF Tryz.func6 rfl
@[simp]theorem func7:prog.funcs[7]?=some Tryz.f7:=ZF Tryz.func7 rfl
@[simp]theorem func8:prog.funcs[8]?=some Tryz.f8:=ZF Tryz.func8 rfl
@[simp]theorem func12:prog.funcs[12]?=some Tryz.f12:=ZF Tryz.func12 rfl
@[simp]theorem func15:prog.funcs[15]?=some Tryz.f15:=ZF Tryz.func15 rfl
@[simp]theorem func16:prog.funcs[16]?=some Tryz.f16:=ZF Tryz.func16 rfl
@[simp]theorem func17:prog.funcs[17]?=some Tryz.f17:=ZF Tryz.func17 rfl
@[simp]theorem func18:prog.funcs[18]?=some Tryz.f18:=ZF Tryz.func18 rfl
@[simp]theorem func19:prog.funcs[19]?=some Tryz.f19:=ZF Tryz.func19 rfl
@[simp]theorem func20:prog.funcs[20]?=some Tryz.f20:=ZF Tryz.func20 rfl
@[simp]theorem func21:prog.funcs[21]?=some Tryz.f21:=ZF Tryz.func21 rfl
@[simp]theorem func22:prog.funcs[22]?=some Tryz.f22:=ZF Tryz.func22 rfl
@[simp]theorem func23:prog.funcs[23]?=some Tryz.f23:=ZF Tryz.func23 rfl
@[simp]theorem func24:prog.funcs[24]?=some Tryz.f24:=ZF Tryz.func24 rfl
@[simp]theorem func25:prog.funcs[25]?=some Tryz.f25:=ZF Tryz.func25 rfl
@[simp]theorem func26:prog.funcs[26]?=some Tryz.f26:=ZF Tryz.func26 rfl
@[simp]theorem func27:prog.funcs[27]?=some Tryz.f27:=ZF Tryz.func27 rfl
@[simp]theorem func28:prog.funcs[28]?=some Tryz.f28:=ZF Tryz.func28 rfl
@[simp]theorem func29:prog.funcs[29]?=some Tryz.f29:=ZF Tryz.func29 rfl
@[simp]theorem Z8L(args:Array Value)(w:World):(callFunc 29 args).run prog w=.ok (.enter 29 args) w:=Wk func29 rfl rfl args w
@[simp]theorem func30:prog.funcs[30]?=some Tryz.f30:=ZF Tryz.func30 rfl
@[simp]theorem func31:prog.funcs[31]?=some Tryz.f31:=ZF Tryz.func31 rfl
@[simp]theorem func35:prog.funcs[35]?=some Tryz.f35:=ZF Tryz.func35 rfl
@[simp]theorem func38:prog.funcs[38]?=some Tryz.f38:=ZF Tryz.func38 rfl
@[simp]theorem func39:prog.funcs[39]?=some Tryz.f39:=ZF Tryz.func39 rfl
@[simp]theorem func40:prog.funcs[40]?=some Tryz.f40:=ZF Tryz.func40 rfl
@[simp]theorem func41:prog.funcs[41]?=some Tryz.f41:=ZF Tryz.func41 rfl
@[simp]theorem func42:prog.funcs[42]?=some Tryz.f42:=ZF Tryz.func42 rfl
@[simp]theorem Z8M(args:Array Value)(w:World):(callFunc 42 args).run prog w=.ok (.enter 42 args) w:=Wk func42 rfl rfl args w
@[simp]theorem func43:prog.funcs[43]?=some Tryz.f43:=ZF Tryz.func43 rfl
@[simp]theorem Z8N(args:Array Value)(w:World):(callFunc 43 args).run prog w=.ok (.enter 43 args) w:=Wk func43 rfl rfl args w
@[simp]theorem func44:prog.funcs[44]?=some Tryz.f44:=ZF Tryz.func44 rfl
@[simp]theorem Z8O(args:Array Value)(w:World):(callFunc 44 args).run prog w=.ok (.enter 44 args) w:=Wk func44 rfl rfl args w
@[simp]theorem func45:prog.funcs[45]?=some Tryz.f45:=ZF Tryz.func45 rfl
@[simp]theorem Z8P(args:Array Value)(w:World):(callFunc 45 args).run prog w=.ok (.enter 45 args) w:=Wk func45 rfl rfl args w
@[simp]theorem func46:prog.funcs[46]?=some Tryz.f46:=ZF Tryz.func46 rfl
@[simp]theorem Z8Q(args:Array Value)(w:World):(callFunc 46 args).run prog w=.ok (.enter 46 args) w:=Wk func46 rfl rfl args w
@[simp]theorem func47:prog.funcs[47]?=some Tryz.f47:=ZF Tryz.func47 rfl
@[simp]theorem Z8R(args:Array Value)(w:World):(callFunc 47 args).run prog w=.ok (.enter 47 args) w:=Wk func47 rfl rfl args w
@[simp]theorem func48:prog.funcs[48]?=some Tryz.f48:=ZF Tryz.func48 rfl
@[simp]theorem Z8S(args:Array Value)(w:World):(callFunc 48 args).run prog w=.ok (.enter 48 args) w:=Wk func48 rfl rfl args w
@[simp]theorem func49:prog.funcs[49]?=some Tryz.f49:=ZF Tryz.func49 rfl
@[simp]theorem Z8T(args:Array Value)(w:World):(callFunc 49 args).run prog w=.ok (.enter 49 args) w:=Wk func49 rfl rfl args w
@[simp]theorem func50:prog.funcs[50]?=some Tryz.f50:=ZF Tryz.func50 rfl
@[simp]theorem func51:prog.funcs[51]?=some Tryz.f51:=ZF Tryz.func51 rfl
@[simp]theorem func52:prog.funcs[52]?=some Tryz.f52:=ZF Tryz.func52 rfl
@[simp]theorem func53:prog.funcs[53]?=some Tryz.f53:=ZF Tryz.func53 rfl
@[simp]theorem func54:prog.funcs[54]?=some Tryz.f54:=ZF Tryz.func54 rfl
@[simp]theorem func55:prog.funcs[55]?=some Tryz.f55:=ZF Tryz.func55 rfl
@[simp]theorem func56:prog.funcs[56]?=some Tryz.f56:=ZF Tryz.func56 rfl
@[simp]theorem Z8U(args:Array Value)(w:World):(callFunc 56 args).run prog w=.ok (.enter 56 args) w:=Wk func56 rfl rfl args w
@[simp]theorem func57:prog.funcs[57]?=some Tryz.f57:=ZF Tryz.func57 rfl
@[simp]theorem Z8V(args:Array Value)(w:World):(callFunc 57 args).run prog w=.ok (.enter 57 args) w:=Wk func57 rfl rfl args w
@[simp]theorem func58:prog.funcs[58]?=some Tryz.f58:=ZF Tryz.func58 rfl
@[simp]theorem func59:prog.funcs[59]?=some Tryz.f59:=ZF Tryz.func59 rfl
@[simp]theorem func60:prog.funcs[60]?=some Tryz.f60:=ZF Tryz.func60 rfl
@[simp]theorem func61:prog.funcs[61]?=some Tryz.f61:=ZF Tryz.func61 rfl
@[simp]theorem func62:prog.funcs[62]?=some Tryz.f62:=ZF Tryz.func62 rfl
@[simp]theorem func63:prog.funcs[63]?=some Tryz.f63:=ZF Tryz.func63 rfl
@[simp]theorem func64:prog.funcs[64]?=some Tryz.f64:=ZF Tryz.func64 rfl
@[simp]theorem func65:prog.funcs[65]?=some Tryz.f65:=ZF Tryz.func65 rfl
@[simp]theorem func66:prog.funcs[66]?=some Tryz.f66:=ZF Tryz.func66 rfl
@[simp]theorem func68:prog.funcs[68]?=some Tryz.f68:=ZF Tryz.func68 rfl
@[simp]theorem func73:prog.funcs[73]?=some Tryz.f73:=ZF Tryz.func73 rfl
@[simp]theorem func74:prog.funcs[74]?=some Tryz.f74:=ZF Tryz.func74 rfl
@[simp]theorem func75:prog.funcs[75]?=some Tryz.f75:=ZF Tryz.func75 rfl
@[simp]theorem func76:prog.funcs[76]?=some Tryz.f76:=ZF Tryz.func76 rfl
@[simp]theorem Z8W(args:Array Value)(w:World):(callFunc 76 args).run prog w=.ok (.enter 76 args) w:=Wk func76 rfl rfl args w
@[simp]theorem func77:prog.funcs[77]?=some Tryz.f77:=ZF Tryz.func77 rfl
@[simp]theorem func78:prog.funcs[78]?=some Tryz.f78:=ZF Tryz.func78 rfl
@[simp]theorem Z8X(args:Array Value)(w:World):(callFunc 78 args).run prog w=.ok (.enter 78 args) w:=Wk func78 rfl rfl args w
@[simp]theorem func79:prog.funcs[79]?=some Tryz.f79:=ZF Tryz.func79 rfl
@[simp]theorem Z8Y(args:Array Value)(w:World):(callFunc 79 args).run prog w=.ok (.enter 79 args) w:=Wk func79 rfl rfl args w
@[simp]theorem func80:prog.funcs[80]?=some Tryz.f80:=ZF Tryz.func80 rfl
@[simp]theorem func81:prog.funcs[81]?=some Tryz.f81:=ZF Tryz.func81 rfl
@[simp]theorem func82:prog.funcs[82]?=some Tryz.f82:=ZF Tryz.func82 rfl
@[simp]theorem func83:prog.funcs[83]?=some Tryz.f83:=ZF Tryz.func83 rfl
@[simp]theorem func84:prog.funcs[84]?=some Tryz.f84:=ZF Tryz.func84 rfl
@[simp]theorem func85:prog.funcs[85]?=some Tryz.f85:=ZF Tryz.func85 rfl
@[simp]theorem func86:prog.funcs[86]?=some Tryz.f86:=ZF Tryz.func86 rfl
@[simp]theorem func87:prog.funcs[87]?=some Tryz.f87:=ZF Tryz.func87 rfl
@[simp]theorem func88:prog.funcs[88]?=some Tryz.f88:=ZF Tryz.func88 rfl
@[simp]theorem func89:prog.funcs[89]?=some Tryz.f89:=ZF Tryz.func89 rfl
@[simp]theorem func90:prog.funcs[90]?=some Tryz.f90:=ZF Tryz.func90 rfl
@[simp]theorem func91:prog.funcs[91]?=some Tryz.f91:=ZF Tryz.func91 rfl
@[simp]theorem func95:prog.funcs[95]?=some Tryz.f95:=ZF Tryz.func95 rfl
@[simp]theorem func96:prog.funcs[96]?=some Tryz.f96:=ZF Tryz.func96 rfl
@[simp]theorem func97:prog.funcs[97]?=some Tryz.f97:=ZF Tryz.func97 rfl
@[simp]theorem func98:prog.funcs[98]?=some Tryz.f98:=ZF Tryz.func98 rfl
@[simp]theorem func99:prog.funcs[99]?=some Tryz.f99:=ZF Tryz.func99 rfl
@[simp]theorem func100:prog.funcs[100]?=some Tryz.f100:=ZF Tryz.func100 rfl
@[simp]theorem func101:prog.funcs[101]?=some Tryz.f101:=ZF Tryz.func101 rfl
@[simp]theorem func102:prog.funcs[102]?=some Tryz.f102:=ZF Tryz.func102 rfl
@[simp]theorem func103:prog.funcs[103]?=some Tryz.f103:=ZF Tryz.func103 rfl
@[simp]theorem func104:prog.funcs[104]?=some Tryz.f104:=ZF Tryz.func104 rfl
@[simp]theorem func105:prog.funcs[105]?=some Tryz.f105:=ZF Tryz.func105 rfl
@[simp]theorem func106:prog.funcs[106]?=some Tryz.f106:=ZF Tryz.func106 rfl
@[simp]theorem func107:prog.funcs[107]?=some Tryz.f107:=ZF Tryz.func107 rfl
@[simp]theorem func108:prog.funcs[108]?=some Tryz.f108:=ZF Tryz.func108 rfl
@[simp]theorem func109:prog.funcs[109]?=some Tryz.f109:=ZF Tryz.func109 rfl
@[simp]theorem func110:prog.funcs[110]?=some Tryz.f110:=ZF Tryz.func110 rfl
@[simp]theorem func111:prog.funcs[111]?=some Tryz.f111:=ZF Tryz.func111 rfl
@[simp]theorem func112:prog.funcs[112]?=some Tryz.f112:=ZF Tryz.func112 rfl
@[simp]theorem func113:prog.funcs[113]?=some Tryz.f113:=ZF Tryz.func113 rfl
@[simp]theorem func114:prog.funcs[114]?=some Tryz.f114:=ZF Tryz.func114 rfl
@[simp]theorem func115:prog.funcs[115]?=some Tryz.f115:=ZF Tryz.func115 rfl
@[simp]theorem func116:prog.funcs[116]?=some Tryz.f116:=ZF Tryz.func116 rfl
@[simp]theorem func117:prog.funcs[117]?=some Tryz.f117:=ZF Tryz.func117 rfl
@[simp]theorem func118:prog.funcs[118]?=some Tryz.f118:=ZF Tryz.func118 rfl
@[simp]theorem func119:prog.funcs[119]?=some Tryz.f119:=ZF Tryz.func119 rfl
@[simp]theorem func120:prog.funcs[120]?=some Tryz.f120:=ZF Tryz.func120 rfl
@[simp]theorem Z8E(args:Array Value)(w:World):(callFunc 120 args).run prog w=.ok (.enter 120 args) w:=Wk func120 rfl rfl args w
@[simp]theorem func121:prog.funcs[121]?=some Tryz.f121:=ZF Tryz.func121 rfl
@[simp]theorem Z8F(args:Array Value)(w:World):(callFunc 121 args).run prog w=.ok (.enter 121 args) w:=Wk func121 rfl rfl args w
@[simp]theorem func122:prog.funcs[122]?=some Tryz.f122:=ZF Tryz.func122 rfl
@[simp]theorem func123:prog.funcs[123]?=some Tryz.f123:=ZF Tryz.func123 rfl
@[simp]theorem Z8G(args:Array Value)(w:World):(callFunc 123 args).run prog w=.ok (.enter 123 args) w:=Wk func123 rfl rfl args w
@[simp]theorem func124:prog.funcs[124]?=some Tryz.f124:=ZF Tryz.func124 rfl
@[simp]theorem Z8H(args:Array Value)(w:World):(callFunc 124 args).run prog w=.ok (.enter 124 args) w:=Wk func124 rfl rfl args w
@[simp]theorem func125:prog.funcs[125]?=some Tryz.f125:=ZF Tryz.func125 rfl
@[simp]theorem func126:prog.funcs[126]?=some Tryz.f126:=ZF Tryz.func126 rfl
@[simp]theorem Z8I(args:Array Value)(w:World):(callFunc 126 args).run prog w=.ok (.enter 126 args) w:=Wk func126 rfl rfl args w
@[simp]theorem func127:prog.funcs[127]?=some Tryz.f127:=ZF Tryz.func127 rfl
@[simp]theorem Z8J(args:Array Value)(w:World):(callFunc 127 args).run prog w=.ok (.enter 127 args) w:=Wk func127 rfl rfl args w
@[simp]theorem func128:prog.funcs[128]?=some Tryz.f128:=ZF Tryz.func128 rfl
@[simp]theorem Z8K(args:Array Value)(w:World):(callFunc 128 args).run prog w=.ok (.enter 128 args) w:=Wk func128 rfl rfl args w
def underlying3:=(yW Tryz.prog no 3).trans Tryz.underlying3
def underlying23:=(yW Tryz.prog no 23).trans Tryz.underlying23
def sub:Sub Tryz.prog prog:=Z75 Z2 Z2
end Sol
end Vm
end
