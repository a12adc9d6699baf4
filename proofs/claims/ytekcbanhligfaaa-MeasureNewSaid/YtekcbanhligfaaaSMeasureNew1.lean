import Derived.Conc.CrowdComm
import Derived.Conc.Beside
import Derived.Conc.CompanyDraw
set_option linter.unusedSimpArgs false
set_option linter.unusedVariables false
set_option linter.defProp false
open Option renaming some→J,none→U
open Bool renaming true→xk,false→xw
open Go renaming undef→xy
open List renaming length→I
open Array renaming size→xz
open Go.World renaming heap→xj
open List renaming length→xq
open Array renaming size→xz
open Go.World renaming heap→xj
theorem Z1{p:Prop}(h:p:=by simp):p:=h
theorem Ze2{p:Prop}(h:p:=by grind):p:=h
theorem Z0{p:Prop}(h:p:=by omega):p:=h
theorem Ze3{p:Prop}(h:p:=by simp_all):p:=h
theorem Ze4{p:Prop}(h:p:=by simp;omega):p:=h
theorem ZeS{p:Prop}(h:p:=by simp[Zt]):p:=h
theorem Zei{p:Prop}(h:p:=by cases h):p:=h
theorem Zel{p:Prop}(h:p:=by simp[Cx.Rv,Zt]):p:=h
theorem ZeI{p:Prop}(h:p:=by simp[Cx.Rv]):p:=h
theorem ZeL{p:Prop}(h:p:=by simpa using L):p:=h
theorem Zeb{p:Prop}(h:p:=by unfold Yw at g;rw[t,j]at g;exact g):p:=h
theorem Zed{p:Prop}(h:p:=by rcases List.mem_cons.1 r with rfl|r;exact A;rcases List.mem_cons.1 r with rfl|r;exact A;exact C i r):p:=h
theorem Zeg{p:Prop}(h:p:=by simpa using d):p:=h
theorem Zek{p:Prop}(h:p:=by simpa using f):p:=h
def Zf3:=@Nat.le_refl
def Zfi:=@List.mem_cons
def Zf2:=@Array.getElem?_eq_some_iff
def Zhf:=@Array.getElem?_push
def Zf7:=@if_neg
def ZgO:=@Array.getElem?_setIfInBounds
def Zfc:=@if_pos
def Zfm:=@Option.map_some
def ZhQ:=@Option.isSome_none
def Zfk:=@Bool.false_eq_true
def ZgL:=@Ne.symm
def ZfM:=@Array.getElem?_eq_getElem
def ZfV:=@if_false
def ZiY:=@Array.mem_push
def ZiM:=@Array.size_push
def ZgF:=@Nat.add_zero
def ZfT:=@if_true
def ZiU:=@Nat.add_comm
def Zia:=@Go.Sem.run_bind'
def Zh6:=@Go.Sem.runT_bind'
def Zh1:=@Go.Sem.runT_fst
def ZfF:=@List.mem_cons_of_mem
def ZeZ:=@Bool.and_eq_true
def Zh0:=@Array.all_eq_true'
def Zfz:=@Array.getElem?_map
def Zft:=@List.map_cons
def Zir:=@Array.size_map
def Zho:=@Array.foldl_toList
def Zgj:=@Array.toList_map
def Zgw:=@Array.mapM_eq_mapM_toList
def ZhG:=@Array.mem_map
def Zjg:=@getElem!_pos
def ZgC:=@Option.some.inj
def Zjf:=@getElem!_neg
def ZfJ:=@Go.Sem.run_bind
def Zj9:=@Go.run_shape
def ZfH:=@Go.Result.andThen_ok
def Zh7:=@Go.run_program
def ZhZ:=@Bool.and_false
def Zhu:=@Go.Sem.run_pure
def Zgo:=@List.mem_cons_self
def Zfv:=@Option.getD_some
def Zg6:=@congrArg
def Zhz:=@of_decide_eq_true
def Ziq:=@of_decide_eq_false
def ZgX:=@Array.map_append
def Zi9:=@Bool.not_true
def Zfe:=@Bool.or_eq_true
def ZfN:=@beq_iff_eq
def Zf1:=@Array.getD_eq_getD_getElem?
def ZiH:=@Option.getD_none
def Zf8:=@Option.bind_some
def ZfZ:=@List.mem_singleton
def Zgc:=@List.cons_append
def Zhy:=@Prod.ext
def ZfQ:=@Array.append_empty
def Zgy:=@Array.mem_append
def Zf9:=@Prod.mk.injEq
def Zhs:=@Array.mem_of_getElem?
def Zfs:=@List.mem_append
def Zi1:=@List.mapM_cons
def Zfw:=@Nat.le_trans
def Zf4:=@Nat.lt_of_lt_of_le
def Zjc:=@Nat.not_lt
def Zg5:=@Nat.zero_le
def Zhl:=@Array.getElem?_eq_none
def ZiO:=@Go.step_lone_ended
def ZiG:=@Go.Machine.mk.injEq
def ZiZ:=@Array.mk.injEq
def ZiQ:=@List.cons.injEq
def Zin:=@Go.step_lone_go
def Zig:=@List.range_succ
def Zi0:=@Bool.false_and
def Zh5:=@Classical.byContradiction
def Zhh:=@Classical.axiomOfChoice
def Zgp:=@List.map_congr_left
def ZgS:=@List.foldl_cons
def ZiL:=@Array.mem_iff_getElem
def ZfS:=@Array.getElem?_setIfInBounds_ne
def Zhr:=@Array.getElem?_setIfInBounds_self_of_lt
def ZeY:=@Option.map_eq_some_iff
def Zhb:=@Array.size_setIfInBounds
def Zja:=@List.mapM_nil
def Zje:=@Nat.lt_or_ge
def Zfh:=@List.mem_map
def Zge:=@Bool.not_eq_true'
def ZfL:=@Nat.zero_add
section
namespace Vm
open Go
section
def Y2{α}:Result α->World
 |.ok _ w=>w
 |.halt _ w=>w
abbrev Z3:=World
theorem Z0R{α}(x:Ask α):∀w:Z3,(w.ask x).2.heap=w.heap/\w.drawn<=(w.ask x).2.drawn:=by
 induction x with
 |done a=>intro w;exact⟨rfl,Zf3 _⟩
 |ask d range k f=>
  unfold World.ask;grind
theorem Oj(w:Z3)c:(w.sys c).2.heap=w.heap/\w.drawn<=(w.sys c).2.drawn:=by
 unfold World.sys;have h:=Z0R (Kernel.perform c w.os) w;grind
theorem FI{p}{w w':Z3}{a v b l}(h:w.farStore p a v b=.ok (w',l)):xz (xj w')=xz (xj w)/\w'.drawn=w.drawn:=by
 unfold World.farStore at h;split at h
 .split at h
  .rename_i r e;cases h;unfold World.viewStore at e;simp[bind,Except.bind]at e;repeat' split at e
   all_goals first|(cases e;done)|skip
   all_goals (cases e;simp)
  cases h
 cases h
theorem R5(w:Z3)a v:xz (xj<|w.setCell a v)=xz (xj w):=Z1
theorem Gb(w:Z3)a n:xz (xj<|w.freeze a n)=xz (xj w)/\(w.freeze a n).drawn=w.drawn:=by grind [World.freeze]
theorem Jo{α}p(s:Sem α):∀w,xz (xj w)<=xz (xj<|Y2<|s.run p w)/\w.drawn<=(Y2<|s.run p w).drawn:=by
 induction s with
 |pure a=>intro w;exact⟨Zf3 _,Zf3 _⟩
 |load m a k d=>
  intro w;unfold Sem.run;split;grind;split;grind;exact⟨Zf3 _,Zf3 _⟩
 |store m a v k d=>
  intro w;cases v<;>simp[Sem.run]<;>first|exact⟨Zf3 _,Zf3 _⟩|skip
  all_goals
   split;split;exact⟨Zf3 _,Zf3 _⟩;generalize j:w.setCell a _=w2;have t:xz (xj w2)=xz (xj w):=by rw[<-j,R5]
   have l:w2.drawn=w.drawn:=by rw[<-j];rfl
   rw[<-t,<-l];exact d w2;split;rename_i e;have f:=FI e;have g:=d (by assumption);rw[f.1,f.2]at g;exact g;exact⟨Zf3 _,Zf3 _⟩
 |new o k d=>
  grind [Sem.run,Array.size_push]
 |shape r k d=>intro w;unfold Sem.run;grind
 |freeze a n k d=>grind [Sem.run,Gb]
 |frozen a k d=>intro w;unfold Sem.run;grind
 |getObj r k d=>intro w;unfold Sem.run;split<;>first|exact⟨Zf3 _,Zf3 _⟩|grind
 |setObj r o k d=>
  intro w;unfold Sem.run;split;exact⟨Zf3 _,Zf3 _⟩;grind;exact⟨Zf3 _,Zf3 _⟩
 |choose q k d=>
  intro w;unfold Sem.run;split;grind;have:=d (q.cut<|w.tape w.drawn q) {w with drawn:=w.drawn+1};exact⟨this.1,Ze2⟩
 |sys c k d=>
  grind [Sem.run,Oj,Nat.le_trans]
 |program k d=>intro w;unfold Sem.run;grind
 |mark m k d=>simp_all[Sem.run]
 |halt h=>intro w;exact⟨Zf3 _,Zf3 _⟩
section
abbrev Zj:=Nat->Nat
variable (ρ:Zj)
def ZP(a:Addr):Addr:= {a with block:=ρ a.block}
def Vb:Fn->Fn
 |.yield l=>.yield<|ρ l
 |f=>f
def Zt:Value->Value
 |.pointer (J a)=>.pointer<|J<|ZP ρ a
 |.slice (J a) n c=>.slice (J<|ZP ρ a) n c
 |.map (J r)=>.map<|J<|ρ r
 |.chan (J r)=>.chan<|J<|ρ r
 |.func fn a b=>.func (Vb ρ fn) (a.map Zt)<|b.map Zt
 |.iface t v=>.iface t<|Zt v
 |.agg d=>.agg<|d.map Zt
 |.tuple vs=>.tuple<|vs.map Zt
 |v=>v
def Ji:Target->Target
 |.fn f c=>.fn (Vb ρ f)<|c.map<|Zt ρ
 |.collected r=>.collected<|ρ r
 |t=>t
def X1(d:Deferred):Deferred:=⟨Ji ρ d.target,d.args.map<|Zt ρ⟩
def VK(e:MapEntry):MapEntry:= {e with key:=Zt ρ e.key,val:=Zt ρ e.val}
def Lc(l:Loop):Loop:= {l with tmps:=l.tmps.map<|Zt ρ,defers:=ρ l.defers}
def XF:Obj->Obj
 |.cells c e f=>.cells (c.map<|Zt ρ) e f
 |.map g k=>.map (g.map<|VK ρ) k
 |.loop l=>.loop<|Lc ρ l
 |.deferred d=>.deferred (d.map λl=>l.map<|X1 ρ)
 |.number a YL=>.number (ZP ρ a) YL
 |o=>o
end
structure Cx where
 Q:Program
 fs:Array Func
 gs:Array Global
 ρ:Nat->Nat
 n0:Nat
 G:Nat->Prop
 O:Nat->Prop
 KL:Loop->Prop
 KD:Deferred->Prop
def Cx.P(X:Cx):Program:= {X.Q with funcs:=X.fs,globals:=X.gs}
theorem H8 T g:∀n t,Made.infoAt {T with globals:=g} n t=Made.infoAt T n t
 |0,t=>rfl
 |n+1,t=>by
  have:=funext (H8 T g n);simp_all[Made.infoAt]
theorem Cx.dq(X:Cx)t:X.P.info? t=X.Q.info? t:=by
 show(if t<X.Q.types.size then X.Q.types[t]? else Made.infoAt {X.Q.toTables with globals:=X.gs} Made.depth t)=_;rw[H8];rfl
theorem Cx.cx(X:Cx)t:X.P.underlying t=X.Q.underlying t:=by
 simp_all[Program.underlying,Cx.dq]
section
variable (X:Cx)
def hid:Obj:=.view ⟨0,0,J 0⟩ 0
def Cx.it:Obj->Prop
 |.cells .. |.map .. |.number .. =>True
 |.loop l=>X.KL l
 |.deferred (J a)=>∀d∈a,X.KD d
 |.deferred U=>True
 |_=>False
def Cx.fp(X:Cx)(b:Nat):Prop:=X.n0<=b\/X.O b
def Cx.OR(b:Nat)(o:Obj)(f:Option Obj):Prop:=
 o=hid\/(¬X.fp b/\∃c e a d,o=.cells c e a/\(∀i,i<c.size->a.1<=i/\i<a.2)/\X.G b/\f=J (.cells (c.map<|Zt X.ρ) e d))\/
 X.fp b/\X.it o/\f=J (XF X.ρ o)/\(∀c e a,o=.cells c e a->a=(0,0))
structure Cx.WR (wl wc:World):Prop where
 os:wc.os=wl.os
 nl:X.n0<=xz (xj wl)
 H:∀b,b<X.n0->X.ρ b=b
 inj:∀b b',wl.heap[b]? ≠J hid->wl.heap[b']? ≠J hid->b<xz (xj wl)->b'<xz (xj wl)->X.ρ b=X.ρ b'->b=b'
 blk:∀b o,wl.heap[b]?=J o->X.OR b o wc.heap[X.ρ b]?
def Cx.gw(d:Z3)(e:Event):Prop:=
 match e.loc with
 |.cell a=>∃b,b<xz (xj d)/\a.block=X.ρ b/\(¬X.fp b->e.write=xw/\X.G b)
 |.obj r=>∃b,X.fp b/\b<xz (xj d)/\r=X.ρ b
 |.mark m=>m=.noRoom
 |.output=>True
 |_=>False
def Vis(w w':Z3):Prop:=∀(r:Nat) (o:Obj),w.heap[r]?=J o->o≠hid->∃a,w'.heap[r]?=J a/\a≠hid
theorem Vis.refl w:Vis w w:=λ_ o a d=>⟨o,a,d⟩
theorem Vis.trans{a b c}(h:Vis a b)(k:Vis b c):Vis a c:=λr o d f=>by
 let⟨l,g,j⟩:=h r o d f;exact k r l g j
structure Cx.Aft (wl wc wl' wc':World) (es es':Array Event):Prop where
 wr:X.WR wl' wc'
 sz:xz (xj wl')+xz (xj wc)=xz (xj wc')+xz (xj wl)
 pv:xz (xj wl)<=xz (xj wl')
 dr:wl'.drawn+wc.drawn=wc'.drawn+wl.drawn
 oh:wl.drawn<=wl'.drawn
 tl:wl'.tape=wl.tape
 tc:wc'.tape=wc.tape
 oc:(wc'.os,wc'.output)=(wc.os,wc.output)
 new:∀b,xz (xj wl)<=b->b<xz (xj wl')->xz (xj wc)<=X.ρ b/\X.ρ b<xz (xj wc')
 keep:∀c,c<xz (xj wc)->(∀b,X.fp b->b<xz (xj wl)->c≠X.ρ b)->wc'.heap[c]?=wc.heap[c]?
 ml:∀e∈es',e∈es\/X.gw wl' e
 nr:Vis wl wl'
theorem Cx.gw.mono{X:Cx}{d a e}(h:X.gw d e)(f:xz (xj d)<=xz (xj a)):X.gw a e:=by
 grind [Cx.gw]
theorem Cx.Aft.refl{X:Cx}{a wc}es(h:X.WR a wc):X.Aft a wc a wc es es:=
 ⟨h,Z0,Z0,Z0,Z0,rfl,rfl,rfl,Z0,Z1,Ze3,.refl _⟩
theorem Cx.WR.lt{X:Cx}{d wc}(h:X.WR d wc){b o}(g:d.heap[b]?=J o)(k:o≠hid):X.ρ b<xz (xj wc):=by
 have:=h.blk b _ g;obtain a|⟨_,c,e,j,f,_,_,_,a⟩|⟨_,_,a,_⟩:=this;simp_all;grind;grind
theorem Cx.Aft.trans{X:Cx}{a b f j g l es d es2}(h:X.Aft a b f j es d)(k:X.Aft f j g l d es2):X.Aft a b g l es es2:=by
 let⟨_,H,K,L,M,p,q,w,P,N,r,y⟩:=h;let⟨G,k1,z,Q,R,A,B,D,T,S,C,F⟩:=k;refine⟨G,Z0,Z0,Z0,Z0,A.trans p,B.trans q,D.trans w,λx n o=> ?_,λc O u=> ?_,λe t=> ?_,y.trans F⟩;grind;grind;obtain h|h:=C e t;obtain h|h:=r e h;grind;exact .inr<|h.mono z;simp_all
def bad:Halt->Prop
 |.stuck _=>True
 |.unsupported (.initOrder _)=>False
 |.unsupported _=>True
 |_=>False
theorem RI{α:Type}(xs:Array α)i j f:(xs.modify i f)[j]?=if i=j then(xs[j]?).map f else xs[j]? :=by
 grind
abbrev Zd:=Array Event
def Cx.bd{α β}(X:Cx)(RA:α->β->Prop)(j wc:Z3)(es:Zd):Result α->Result β×Array Event->Prop
 |.ok a g,r=>∃b f d,r=(.ok b f,d)/\RA a b/\X.Aft j wc g f es d
 |.halt (.panic v) g,r=>∃f d,r=(.halt (.panic<|Zt X.ρ v) f,d)/\X.Aft j wc g f es d
 |.halt h _,_=>bad h
abbrev Zb:=List Nat
def Seen(V:Zb)(w:Z3):Prop:=∀r∈V,∃o,w.heap[r]?=J o/\o≠hid
def Cx.iz{α β}(X:Cx)(RA:α->β->Prop)(V:Zb)(s:Sem α)(f:Sem β):Prop:=∀(d a:Z3) (g:Zd),X.WR d a->Seen V d->
 (∀j,a.drawn+j< (Y2<|f.run X.P a).drawn->d.tape (d.drawn+j)=a.tape (a.drawn+j))->
 (∀j,xz (xj a)+j< xz (xj<|Y2<|f.run X.P a)->X.ρ (xz (xj d)+j)=xz (xj a)+j)->
 X.bd RA d a g (s.run X.Q d) (f.runT X.P a g)
abbrev Zc:=Value
inductive Cx.Img {α β:Type} (X:Cx) (RA:α->β->Prop):List Nat->Sem α->Sem β->Prop where
 |pure {V:Zb} {a:α} {b:β}:RA a b->X.Img RA V (.pure a) (.pure b)
 |load {V:Zb} {m:Mode} {a:Addr} {k:Value->Sem α} {k':Value->Sem β}:(∀v,X.Img RA V (k v)<|k'<|Zt X.ρ v)->X.Img RA V (.load m a k) (.load m (ZP X.ρ a) k')
 |store {V:Zb} {m:Mode} {a:Addr} {v:Zc} {k:Sem α} {k':Sem β}:X.Img RA V k k'->X.Img RA V (.store m a v k) (.store m (ZP X.ρ a) (Zt X.ρ v) k')
 |new {V:Zb} {o:Obj} {k:Nat->Sem α} {k':Nat->Sem β}:X.it o->(∀c e fr,o=.cells c e fr->fr=(0,0))->(∀r,X.Img RA (r::V) (k r)<|k'<|X.ρ r)->X.Img RA V (.new o k) (.new (XF X.ρ o) k')
 |get {V:Zb} {r:Nat} {k:Obj->Sem α} {k':Obj->Sem β}:(∀w,∃h w',(k hid).run X.Q w=.halt h w'/\bad h)->(∀o,X.it o->X.Img RA (r::V) (k o) (k'<|XF X.ρ o))->X.Img RA V (.getObj r k) (.getObj (X.ρ r) k')
 |set {V:Zb} {r:Nat} {o:Obj} {k:Sem α} {k':Sem β}:r∈V->X.it o->(∀c e fr,o≠.cells c e fr)->X.Img RA V k k'->X.Img RA V (.setObj r o k) (.setObj (X.ρ r) (XF X.ρ o) k')
 |choose {V:Zb} {q:Question} {k:Nat->Sem α} {k':Nat->Sem β}:(∀n,X.Img RA V (k n)<|k' n)->X.Img RA V (.choose q k) (.choose q k')
 |prog {V:Zb} {k:Program->Sem α} {k':Program->Sem β}:X.Img RA V (k X.Q) (k' X.P)->X.Img RA V (.program k) (.program k')
 |room {V:Zb} {k:Sem α} {k':Sem β}:X.Img RA V k k'->X.Img RA V (.mark .noRoom k) (.mark .noRoom k')
 |panic {V:Zb} (v:Zc):X.Img RA V (.halt<|.panic v)<|.halt<|.panic<|Zt X.ρ v
 |li {V:Zb} {s:Sem α} (s':Sem β):(∀w,∃h w',s.run X.Q w=.halt h w'/\bad h)->X.Img RA V s s'
 |rl {V:Zb} {s:Sem α} {s':Sem β}:X.iz RA V s s'->X.Img RA V s s'
theorem Seen.cons{V w r o}(h:Seen V w)(f:w.heap[r]?=J o)(d:o≠hid):Seen (r::V) w:=λx a=>by
 obtain rfl|a:=Zfi.1 a;simp_all;exact h x a
theorem Seen.step{V w w'}(h:Seen V w)(f:Vis w w'):Seen V w':=λx g=>by
 let⟨o,a,d⟩:=h x g;exact f x o a d
theorem Vis.setCell w a v:Vis w<|w.setCell a v:=λr o d f=>by
 simp[World.setCell,RI];split;rw[d];grind [hid];simp_all
theorem Vis.push w d:Vis w {w with heap:=w.heap.push d}:=λr o a f=>by
 have:=(Zf2.1 a).1;simp[Zhf];rw[Zf7 Z0];simp_all
theorem Vis.set w r{d}(a:d≠hid):Vis w {w with heap:=w.heap.setIfInBounds r d}:=λx o f g=>by
 have:=(Zf2.1 f).1;simp[ZgO];split;rename_i e;subst e;rw[Zfc this];exact⟨d,rfl,a⟩;simp_all
theorem Cx.it.nr{X:Cx}{o}(h:X.it o):o≠hid:=λe=>by subst e;exact h.elim
theorem Cx.bd.ce{α β}{X:Cx}{RA:α->β->Prop}{d wc es h w r}(a:bad h):X.bd RA d wc es (.halt h w) r:=by
 cases h<;>first|exact a|exact a.elim
theorem Cx.bd.step{α β}{X:Cx}{RA n wc w1 l es g}{r:Result α}{r':Result β×Array Event}(h:X.Aft n wc w1 l es g)(k:X.bd RA w1 l g r r'):X.bd RA n wc es r r':=by
 cases r with
 |ok a w=>
  let⟨b,f,d,e,o,j⟩:=k;exact⟨b,f,d,e,o,h.trans j⟩
 |halt x w=>
  cases x<;>try exact k
  let⟨f,d,e,j⟩:=k;exact⟨f,d,e,h.trans j⟩
theorem JQ{w:Z3}{a v}(h:w.cell? a=J v):a.spot=U/\∃c e d,w.heap[a.block]?=J (.cells c e d)/\c[a.off]?=J v:=by
 unfold World.cell? at h;split at h;simp_all;cases h
theorem Cx.WR.cell{X:Cx}{j wc}(h:X.WR j wc){a v}(n:j.cell? a=J v):wc.cell? (ZP X.ρ a)=J (Zt X.ρ v)/\(¬X.fp a.block->X.G a.block)/\a.block<xz (xj j):=by
 let⟨x,c,e,r,l,w⟩:=JQ n;have g:=(Zf2.1 l).1;have key:∀d,wc.heap[X.ρ a.block]?=J (.cells (c.map<|Zt X.ρ) e d)->wc.cell? (ZP X.ρ a)=J (Zt X.ρ v):=λd f=>by
  simp_all[World.cell?,ZP]
 rcases(h.blk _ _ l)with k|⟨_,o,p,q,d,k,_,u,f⟩|⟨t,_,f,_⟩;cases k;simp_all;exact⟨key _ f,Ze3,g⟩
theorem Cx.WR.kind{X:Cx}{d wc}(h:X.WR d wc){b:Nat}{o}(g:d.heap[b]?=J o):o=hid\/X.it o:=by
 obtain a|⟨_,j,k,l,f,a,_⟩|n:=h.blk _ _ g;grind;subst a;exact .inr trivial;simp_all
theorem Cx.WR.lr{X:Cx}{f wc}(h:X.WR f wc)a d(j:∀at_ u,f.heap[a.block]? ≠J (.view at_ u)):f.noCell a d=.stuck d:=by
 unfold World.noCell;split;rename_i g;obtain h|h:=h.kind g;cases h;exact h.elim;simp_all;rfl
abbrev Z6:=Program
def Df(p:Z6)(w:Z3)(a:Addr)(v:Zc)(b:Bool):Except String<|World×List Addr:=w.viewStore p ⟨0,0,J 0⟩ 0 a v b
theorem NS p(w:Z3)u k b:w.seen p ⟨0,0,J 0⟩ u k b=.error "memory seen as another type: a place without cells" :=by
 unfold World.seen;simp;rfl
theorem Cx.WR.ou{X:Cx}{d wc}(h:X.WR d wc)p a b:∃x,d.farLoad p a b=.error x/\bad x:=by
 unfold World.farLoad;split;rename_i at_ u f;obtain h|h:=h.kind f;cases h;have e:d.viewLoad p ⟨0,0,J 0⟩ 0 a b=.error "memory seen as another type: a place without cells" :=by
  unfold World.viewLoad;simp[NS,bind,Except.bind]
 simp only[e];exact⟨_,rfl,trivial⟩;exact h.elim;rename_i g;exact⟨_,rfl,by rw[h.lr _ _ g];trivial⟩
theorem Cx.WR.nq{X:Cx}{d wc}(h:X.WR d wc)p a v b:∃x,d.farStore p a v b=.error x/\bad x:=by
 unfold World.farStore;split;rename_i at_ u f;obtain h|h:=h.kind f;cases h;have e:∃m,Df p d a v b=.error m:=by
  unfold Df World.viewStore;simp[NS,bind,Except.bind];split;exact⟨_,rfl⟩;exact⟨_,rfl⟩
 let⟨m,e⟩:=e;unfold Df at e;simp only[e];exact⟨_,rfl,trivial⟩;exact h.elim;rename_i g;exact⟨_,rfl,by rw[h.lr _ _ g];trivial⟩
theorem Cx.WR.ry{X:Cx}{d wc}(h:X.WR d wc){a v}(p:d.cell? a=J v)(y:d.frozen? a=xw):
  X.fp a.block/\∃c e,a.spot=U/\d.heap[a.block]?=J (.cells c e (0,0))/\wc.heap[X.ρ a.block]?=J (.cells (c.map<|Zt X.ρ) e (0,0)):=by
 let⟨o,c,e,u,g,x⟩:=JQ p;obtain f|⟨_,q,r,t,l,f,w,_⟩|⟨n,_,j,k⟩:=h.blk _ _ g;cases f;grind [World.frozen?];have:=k _ _ _ rfl;subst this;exact⟨n,c,e,o,g,j⟩
theorem Cx.OR.rx{X:Cx}{b a}:X.OR b hid a:=.inl rfl
theorem Cx.WR.sd{X:Cx}{k wc a d}(h:X.WR k wc){r B o}(A:k.heap[r]?=J B)(P:B≠hid)(N:X.fp r)(O:X.it o)(M:∀c e z,o=.cells c e z->z=(0,0))
  (F:xz (xj a)=xz (xj k)) (G:d.os=a.os) (H:a.heap[r]?=J o) (w:∀b,b≠r->a.heap[b]?=k.heap[b]?) (K:d.heap[X.ρ r]?=J (XF X.ρ o)) (L:∀c,c≠X.ρ r->d.heap[c]?=wc.heap[c]?):X.WR a d:=by
 have p:=(Zf2.1 A).1;have conv:∀x,a.heap[x]? ≠J hid->k.heap[x]? ≠J hid:=λx q l=>by
  by_cases j:x=r;subst j;rw[A]at l;simp_all;rw[w x j]at q;exact q l
 refine⟨G,by rw[F];exact h.nl,h.H,λx y t u q Q e=>h.inj x y (conv x t) (conv y u) Z0 Z0 e,λb C g=> ?_⟩;by_cases f:b=r;subst f;rw[H]at g;cases g;exact .inr<|.inr ⟨N,O,K,M⟩;rw[w b f]at g;by_cases l:C=hid;subst l;exact .rx;have n:=(Zf2.1 g).1;rw[L _ λD=>f<|h.inj b r Ze2 Ze2 n p D];exact h.blk b C g
theorem Cx.WR.setCell{X:Cx}{d wc}(h:X.WR d wc){a v0 v}(q:d.cell? a=J v0)(l:d.frozen? a=xw):X.WR (d.setCell a v)<|wc.setCell (ZP X.ρ a)<|Zt X.ρ v:=by
 let⟨n,c,e,p,g,f⟩:=h.ry q l;refine h.sd (r:=a.block) (o:=.cells (c.setIfInBounds a.off v) e (0,0)) g (by simp[hid]) n trivial Z1 Z1 h.os ?_ (λb g=> ?_) ?_ λc k=> ?_;simp_all[World.setCell,RI,Zfm,ZhQ,Zfk];simp_all[World.setCell,RI,ZgL];simp only[World.setCell,RI,ZP,f,p,XF];simp;simp only[World.setCell,RI];rw[Zf7 (show ¬(ZP X.ρ a).block=c fromλj=>k j.symm)]
theorem Cx.WR.push{X:Cx}{a wc}(h:X.WR a wc){o}(z:X.it o)(w:∀c e t,o=.cells c e t->t=(0,0))(A:X.ρ (xz<|xj a)=xz (xj wc)):
  X.WR {a with heap:=a.heap.push o} {wc with heap:=wc.heap.push (XF X.ρ o)}:=by
 have D:=h.nl;have lt:∀b,b<xz (xj a)->a.heap[b]? ≠J hid->X.ρ b<xz (xj wc):=λb d l=>h.lt (ZfM d) λe=>l Ze3;have k:∀b,b<xz (xj a)->(a.heap.push o)[b]?=a.heap[b]? :=λb d=>Ze2;refine⟨h.os,Ze4,h.H,λx y n q B C e=> ?_,λb u d=> ?_⟩;simp at B C;by_cases g:x<xz (xj a);have p:a.heap[x]? ≠J hid:=by rw[<-k x g];exact n
 by_cases j:y<xz (xj a);have r:a.heap[y]? ≠J hid:=by rw[<-k y j];exact q
 exact h.inj x y p r g j e;grind;grind;simp[Zhf]at d⊢;by_cases f:b=xz (xj a);subst f;rw[Zfc rfl]at d;cases d;rw[Zfc A];exact .inr<|.inr ⟨.inl D,z,rfl,w⟩;rw[Zf7 f]at d;by_cases l:u=hid;subst l;exact .rx;have:=h.lt d l;rw[Zf7 Z0];exact h.blk b u d
theorem Cx.WR.set{X:Cx}{a wc}(h:X.WR a wc){r o k}(f:X.fp r)(d:a.heap[r]?=J k)(j:k≠hid)(p:X.it o)(l:∀c e g,o=.cells c e g->g=(0,0)):
  X.WR {a with heap:=a.heap.setIfInBounds r o} {wc with heap:=wc.heap.setIfInBounds (X.ρ r) (XF X.ρ o)}:=by
 have n:=(Zf2.1 d).1;refine h.sd (r:=r) (o:=o) d j f p l Z1 h.os ?_ (λb q=> ?_) ?_ λc t=> ?_;simp_all;grind;simp[h.lt d j];grind
theorem Cx.WR.obj{X:Cx}{a wc}(h:X.WR a wc){r o}(j:a.heap[r]?=J o)(hc:∀c e f,o≠.cells c e f)(p:o≠hid):X.fp r/\wc.heap[X.ρ r]?=J (XF X.ρ o):=by
 obtain d|⟨_,k,l,n,g,d,_⟩|q:=h.blk _ _ j;simp_all;simp_all;simp_all
theorem qf{ρ o}(hc:∀c e a,o≠.cells c e a):∀c e a,XF ρ o≠.cells c e a:=by
 intro c e a h;cases o<;>simp[XF]at h;simp_all
theorem Cx.Aft.ev{X:Cx}{a wc es e}(h:X.WR a wc)(d:X.gw a e):X.Aft a wc a wc es<|es.push e:=
 ⟨h,Z0,Z0,Z0,Z0,rfl,rfl,rfl,Z0,Z1,Ze2,.refl _⟩
theorem Z7K{α p w m a x v0}{k:Sem α}{es}(f:∀c,x≠.agg c)(h2:∀c,x≠.tuple c)(hc:w.cell? a=J v0)(d:w.frozen? a=xw):
  (Sem.store m a x k).runT p w es=k.runT p (w.setCell a x) (es.push ⟨.cell a,xk,m==.atomic⟩):=by
 cases x<;>first|(simp only[Sem.runT,hc,d];rfl)|exact absurd rfl _|simp_all
theorem NK{α p w m a x}{k:Sem α}(d:∀c,x≠.agg c)(h2:∀c,x≠.tuple c):(Sem.store m a x k).run p w=match w.cell? a with
  |some _=>if w.frozen? a then .halt (.unsupported (.unsafePointer "a write to bytes that a string shares")) w else k.run p<|w.setCell a x
  |none=>match w.farStore p a x (m==.atomic)with
   |.ok (w,_)=>k.run p w
   |.error h=>.halt h w:=by
 cases x<;>first|rfl|exact absurd rfl _|simp_all
theorem Sf{α p w r o}{k:Obj->Sem α}(h:w.heap[r]?=J o)(hc:∀c e a,o≠.cells c e a):(Sem.getObj r k).run p w=(k o).run p w:=by
 cases o<;>first|(simp[Sem.run,h];done)|exact absurd rfl<|hc _ _ _
theorem NC{α p w r o}{k:Obj->Sem α}{es}(h:w.heap[r]?=J o)(hc:∀c e a,o≠.cells c e a):(Sem.getObj r k).runT p w es=(k o).runT p w (es.push ⟨.obj r,xw,o.isChan⟩):=by
 cases o<;>first|(simp only[Sem.runT,h];done)|exact absurd rfl<|hc _ _ _
theorem NJ{α p w r o a}{k:Sem α}(h:w.heap[r]?=J o)(hc:∀c e d,o≠.cells c e d):(Sem.setObj r a k).run p w=k.run p {w with heap:=w.heap.setIfInBounds r a}:=by
 cases o<;>first|(simp[Sem.run,h];done)|exact absurd rfl<|hc _ _ _
theorem Z7J{α p w r o a}{k:Sem α}{es}(h:w.heap[r]?=J o)(hc:∀c e d,o≠.cells c e d):(Sem.setObj r a k).runT p w es=k.runT p {w with heap:=w.heap.setIfInBounds r a} (es.push ⟨.obj r,xk,a.isChan⟩):=by
 cases o<;>first|(simp[Sem.runT,h];done)|exact absurd rfl<|hc _ _ _
theorem JS(o:Option Obj):o=U\/(∃c e a,o=J (.cells c e a))\/∃d,o=J d/\∀c e a,d≠.cells c e a:=by
 obtain _|o:=o;simp;grind
theorem Z7r{ρ v}(d:∀c,v≠.agg c)(h2:∀c,v≠.tuple c):(∀c,Zt ρ v≠.agg c)/\∀c,Zt ρ v≠.tuple c:=by
 cases v with
 |agg c=>simp_all
 |tuple c=>simp_all
 |pointer a=>cases a<;>simp[Zt]
 |slice a n c=>cases a<;>simp[Zt]
 |map r=>cases r<;>simp[Zt]
 |chan r=>cases r<;>simp[Zt]
 |_=>simp[Zt]
theorem Cx.Img.run{α β}{X:Cx}{RA V}{s:Sem α}{s':Sem β}(h:X.Img RA V s s'):X.iz RA V s s':=by
 induction h with
 |pure l=>intro f g y d _ _ _;exact⟨_,_,_,rfl,l,.refl _ d⟩
 | @load V m a k C H w=>
   intro f g y d u n l;simp only[Sem.run,Sem.runT]at n l⊢;cases z:f.cell? a with
   |none=>
    let⟨x,e,M⟩:=d.ou X.Q a<|m==.atomic;simp_all[Cx.bd.ce]
   |some v=>
    let⟨h1,h2,h3⟩:=d.cell z;simp only[h1]at n l⊢;refine Cx.bd.step (.ev d ?_)<|w v f g _ d u n l;exact⟨a.block,h3,rfl,Ze3⟩
 | @store V m a v k C H w=>
   intro f g y d u n l;have key:(∀c,v≠.agg c)->(∀c,v≠.tuple c)->X.bd RA f g y ((Sem.store m a v k).run X.Q f) ((Sem.store m (ZP X.ρ a) (Zt X.ρ v) C).runT X.P g y):=λZ a0=>by
    let⟨a1,a2⟩:=Z7r (ρ:=X.ρ) Z a0;rw[NK Z a0];rw[NK a1 a2]at n l;cases z:f.cell? a with
    |none=>
     let⟨x,e,M⟩:=d.nq X.Q a v<|m==.atomic;simp_all[Cx.bd.ce]
    |some v0=>
     cases hf:f.frozen? a with
     |true=>exact Cx.bd.ce trivial
     |false=>
      let⟨h1,h2,h3⟩:=d.cell z;let⟨O,c,e,hs,hb,a3⟩:=d.ry z hf;have T:g.frozen? (ZP X.ρ a)=xw:=by
       simp[World.frozen?,ZP,a3]
      rw[Z7K a1 a2 h1 T];simp only[h1,T,Zfk,ZfV]at n l⊢;have p:=d.setCell (v:=v) z hf;refine Cx.bd.step ⟨p,by grind [R5],by rw[R5];omega,?_,Zf3 _,rfl,rfl,rfl,λb R S=> ?_,λc' F K=> ?_,λx M=> ?_,.setCell _ _ _⟩<|w _ _ _ p (u.step<|.setCell _ _ _) n ?_;show f.drawn+g.drawn=g.drawn+f.drawn;omega;grind [R5];simp only[World.setCell,RI];rw[Zf7 (λe0=>K a.block O h3 e0.symm)];obtain h|rfl:=ZiY.1 M;grind;exact .inr ⟨a.block,by grind [R5],rfl,Ze3⟩;simp_all[R5]
   cases v<;>first|exact Cx.bd.ce trivial|exact key Z1 Z1
 | @new V o k C t hf H w=>
   intro f g y d u n l;simp only[Sem.run,Sem.runT]at n l⊢;have G:=(Jo X.P (C<|xz<|xj g) {g with heap:=g.heap.push (XF X.ρ o)}).1;simp only[ZiM]at G;have N:=l 0 Z0;simp only[ZgF]at N;have p:=d.push t hf N;rw[<-N]at n l⊢;refine Cx.bd.step ⟨p,Ze4,Z1,?_,Zf3 _,rfl,rfl,rfl,λb R S=> ?_,λc' F K=> ?_,λx M=>.inl M,.push _ _⟩ (w (xz<|xj f) _ _ _ p ((u.step<|.push f o).cons Z1 t.nr) n λj hj=> ?_);grind;grind;grind;simp only[ZiM]at hj⊢;have:=l (j+1) Z0;grind
 | @get V r k C W H w=>
   intro f g y d u n l;obtain t|⟨c,e,fr,t⟩|⟨o,t,z⟩:=JS f.heap[r]?;simp only[Sem.run,t];exact Cx.bd.ce trivial;simp only[Sem.run,t];exact Cx.bd.ce trivial;obtain B|Y:=d.kind t;subst B;rw[Sf t z];let⟨h,w',e,B⟩:=W f;simp_all[Cx.bd.ce];have B:o≠hid:=λh=>by subst h;exact Y.elim
   let⟨O,D⟩:=d.obj t z B;have A:=qf (ρ:=X.ρ) z;rw[Sf D A]at n l;rw[Sf t z,NC D A];refine Cx.bd.step (.ev d ?_)<|w o Y f g _ d (u.cons t B) n l;exact⟨r,O,Ze2,rfl⟩
 | @set V r o k C a4 L F H w=>
   intro f g y d u n l;obtain t|⟨c,e,fr,t⟩|⟨o0,t,z⟩:=JS f.heap[r]?;simp only[Sem.run,t];exact Cx.bd.ce trivial;simp only[Sem.run,t];exact Cx.bd.ce trivial;have B:o0≠hid:=by
    let⟨o1,D,e2⟩:=u r a4;rw[t]at D;cases D;exact e2
   let⟨O,D⟩:=d.obj t z B;have a5:=(Zf2.1 t).1;have A:=qf (ρ:=X.ρ) z;rw[NJ D A]at n l;rw[NJ t z,Z7J D A];have p:=d.set O t B L Ze3;refine Cx.bd.step ⟨p,Ze4,Z1,?_,Zf3 _,rfl,rfl,rfl,λb R S=> ?_,λc' F K=> ?_,λx M=> ?_,.set _ _ L.nr⟩<|w _ _ _ p (u.step<|.set _ r L.nr) n ?_;grind;grind;grind;obtain h|rfl:=ZiY.1 M;grind;exact .inr ⟨r,O,Ze3,rfl⟩;simp_all
 | @choose V q k C H w=>
   intro f g y d u n l;simp only[Sem.run,Sem.runT]at n l⊢;cases hq:q.forced with
   |true=>
    simp only[hq,ZfT]at n l⊢;exact w 0 f g y d u n l
   |false=>
    simp only[hq,Zfk,ZfV]at n l⊢;have G:=(Jo X.P (C<|q.cut<|g.tape g.drawn q) {g with drawn:=g.drawn+1}).2;simp only at G;have N:=n 0 Z0;simp only[ZgF]at N;rw[N];have p:X.WR {f with drawn:=f.drawn+1} {g with drawn:=g.drawn+1}:=⟨d.os,d.nl,d.H,d.inj,d.blk⟩;refine Cx.bd.step ⟨p,ZiU _ _,Zf3 _,?_,Nat.le_succ _,rfl,rfl,rfl,Ze2,Z1,Ze3,.refl f⟩<|w _ _ _ _ p u (λj hj=> ?_) l;grind;simp only at hj⊢;have:=n (j+1) Z0;grind
 |prog H w=>intro f g y d u n l;exact w f g y d u n l
 | @room V k C H w=>
   intro f g y d u n l;refine Cx.bd.step (.ev d ?_)<|w f g _ d u n l;rfl
 |panic v=>intro f g y d _ _ _;exact⟨_,_,rfl,.refl _ d⟩
 | @li V s s' hb=>
   intro f g y d _ _ _;let⟨h,w',e,B⟩:=hb f;simp_all[Cx.bd.ce]
 |rl h=>exact h
end
end
section
section
variable {X:Cx}{V:Zb}
theorem Cx.iz.bind{α β γ δ RA r V s l}{f:α->Sem γ}{o:β->Sem δ}(h:X.iz RA V s l)
  (F:∀a b,RA a b->X.iz r V (f a) (o b)):X.iz r V (s.bind f)<|l.bind o:=by
 intro B k t H u A z;have y:xz (xj<|Y2<|l.run X.P k)<=xz (xj<|Y2<|(l.bind o).run X.P k)/\(Y2<|l.run X.P k).drawn<=(Y2<|(l.bind o).run X.P k).drawn:=by
  rw[Zia];cases l.run X.P k with
  |ok b w=>exact Jo X.P _ w
  |halt x w=>exact⟨Zf3 _,Zf3 _⟩
 have p:=h B k t H u Ze2 Ze2;rw[Zia,Zh6];cases e:s.run X.Q B with
 |halt x w=>
  rw[e]at p;cases x<;>try exact p
  let⟨d,n,q,g⟩:=p;rw[q];exact⟨d,n,rfl,g⟩
 |ok a w=>
  rw[e]at p;let⟨b,d,n,q,M,g⟩:=p;rw[q];have C:l.run X.P k=.ok b d:=by rw[<-Zh1 X.P l k t,q]
  have D:(l.bind o).run X.P k=(o b).run X.P d:=by rw[Zia,C];rfl
  rw[D]at A z;refine Cx.bd.step g<|F a b M w d n g.wr (u.step g.nr) (λj G=> ?_) (λj G=> ?_);have K:=g.dr;have L:=g.oh;have:=A (d.drawn-k.drawn+j) Z0;rw[g.tl,g.tc];grind;have K:=g.sz;have L:=g.pv;have:=z (xz (xj d)-xz (xj k)+j) Z0;grind
theorem Cx.Img.bind{α β γ δ RA A V s z}{f:α->Sem γ}{B:β->Sem δ}(h:X.Img RA V s z):
  (∀k a b,(∀r∈V,r∈k)->RA a b->X.Img A k (f a) (B b))->X.Img A V (s>>=f) (z>>=B):=by
 induction h with
 |pure u=>intro d;exact d _ _ _ Z1 u
 |load j g=>intro d;exact .load λv=>g v d
 |store j g=>intro d;exact .store<|g d
 |new l t j g=>intro d;exact .new l t λr=>g r λk a b p=>d k a b λx y=>p x<|ZfF _ y
 |get C j g=>
  intro d;refine .get (λw=> ?_) λo l=>g o l λk a b p=>d k a b λx y=>p x<|ZfF _ y;let⟨h,F,e,q⟩:=C w;simp_all[Zia]
 |set u l t j g=>intro d;exact .set u l t<|g d
 |choose j g=>intro d;exact .choose λn=>g n d
 |prog j g=>intro d;exact .prog<|g d
 |room j g=>intro d;exact .room<|g d
 |panic v=>intro d;exact .panic v
 |li z q=>
  intro d;refine .li _ λw=> ?_;let⟨h,F,e,q⟩:=q w;simp_all[Zia]
 |rl h=>intro d;exact .rl (h.bind λa b D=>(d _ a b (λ_ h=>h) D).run)
theorem Zz{α β}{RA:α->β->Prop}a d:X.Img RA V (stuck a) d:=.li _ λw=>⟨_,w,rfl,trivial⟩
theorem X8{α β}{RA:α->β->Prop}{u}(d:∀g,u≠.initOrder g)a:X.Img RA V (unsupported u) a:=
 .li _ λw=>⟨_,w,rfl,by cases u<;>first|trivial|simp_all⟩
def WC:X.Img (λp q=>p=X.Q/\q=X.P) V program program:=.prog<|.pure ⟨rfl,rfl⟩
def VE t:X.Img Eq V (typeInfo t)<|typeInfo t:=by
 refine .bind WC ?_;rintro a _ _- ⟨rfl,rfl⟩;rw[X.dq t];split;exact .pure rfl;exact Zz _ _
def V5 t:X.Img Eq V (underlying t)<|underlying t:=by
 refine .bind WC ?_;rintro a _ _- ⟨rfl,rfl⟩;rw[X.cx t];split;exact .pure rfl;exact Zz _ _
def VD t:X.Img Eq V (sizeOf t)<|sizeOf t:=by
 refine .bind (VE t) ?_;rintro a i _-rfl;exact .pure rfl
def GN t:X.Img Eq V (isAgg t)<|isAgg t:=by
 refine .bind (V5 t) ?_;rintro a i _-rfl;split<;>exact .pure rfl
def Cx.Rv(X:Cx)(a b:Zc):Prop:=b=Zt X.ρ a
def Wr ρ cs:Zt ρ (.agg cs)=.agg (cs.map<|Zt ρ):=ZeS
theorem U4 ρ cs:Zt ρ (.tuple cs)=.tuple (cs.map<|Zt ρ):=ZeS
@[simp]theorem XV ρ k n:Zt ρ (.int k n)=.int k n:=by simp[Zt]
@[simp]theorem U3 ρ b:Zt ρ (.bool b)=.bool b:=by simp[Zt]
@[simp]theorem Sa ρ b:Zt ρ (.string b)=.string b:=by simp[Zt]
@[simp]theorem Wy ρ a:Zt ρ (.pointer<|J a)=.pointer (J<|ZP ρ a):=by simp[Zt]
@[simp]theorem Un ρ:Zt ρ (.pointer U)=.pointer U:=by simp[Zt]
@[simp]theorem S8 ρ t v:Zt ρ (.iface t v)=.iface t (Zt ρ v):=by simp[Zt]
@[simp]theorem S9 ρ:Zt ρ .nilIface=.nilIface:=by simp[Zt]
@[simp]theorem qh ρ:Zt ρ .nilFunc=.nilFunc:=by simp[Zt]
def Sb ρ:Zt ρ xy=xy:=by simp[xy,U4]
theorem Tu ρ v:(Zt ρ v).cells=v.cells.map (Zt ρ):=by
 cases v with
 |agg c=>rw[Wr];rfl
 |pointer a=>cases a<;>simp[Value.cells]
 |slice a n c=>cases a<;>simp[Zt,Value.cells]
 |map r=>cases r<;>simp[Zt,Value.cells]
 |chan r=>cases r<;>simp[Zt,Value.cells]
 |_=>simp[Zt,Value.cells]
def Q9 ρ a n:(ZP ρ a).add n=ZP ρ (a.add n):=by
 grind [Addr.add,ZP]
def GP a:X.Img X.Rv V (load a)<|load<|ZP X.ρ a:=.load λv=>.pure rfl
def Z3A a n:∀V i d,X.Img (λx y=>y=x.map (Zt X.ρ)) V (loadCellsFrom a i n d)<|loadCellsFrom (ZP X.ρ a) i n<|d.map<|Zt X.ρ:=by
 induction n with
 |zero=>intro V i d;exact .pure rfl
 |succ n g=>
  intro V i d;unfold loadCellsFrom;rw[Q9];refine .bind (GP _) ?_;rintro f v _-rfl;have:=g f (i+1)<|d.push v;simp_all
def GQ a n:X.Img (λx y=>y=x.map (Zt X.ρ)) V (loadCells a n)<|loadCells (ZP X.ρ a) n:=by
 have:=Z3A (X:=X) a n V 0 #[];rw[show(#[]:Array Value).map _=#[]by simp]at this;exact this
def Km t a:X.Img X.Rv V (loadVar t a)<|loadVar t<|ZP X.ρ a:=by
 refine .bind (GN t) ?_;rintro d b _-rfl;split;refine .bind (VD t) ?_;rintro d n _-rfl;refine .bind (GQ a n) ?_;rintro d f _-rfl;exact .pure (Wr _ _).symm;exact GP a
def Kn a vs:∀V i,X.Img Eq V (storeCells a vs i)<|storeCells (ZP X.ρ a) (vs.map<|Zt X.ρ) i:=by
 induction vs with
 |nil=>intro V i;exact .pure rfl
 |cons v vs d=>
  intro V i;unfold storeCells;simp;rw[Q9];refine .bind (RA:=Eq) (.store<|.pure rfl) ?_;simp_all
def Z3W t a v:X.Img Eq V (storeVar t a v)<|storeVar t (ZP X.ρ a)<|Zt X.ρ v:=by
 refine .bind (VD t) ?_;rintro d n _-rfl;rw[Tu];split;exact Zz _ _;simp_all[Kn]
def still:Nat->Value->Bool
 |0,_=>xw
 |n+1,v=>match v with
  |.bool _|.int .. |.float .. |.complex .. |.string _|.pointer U|.slice U _ _|.map U|.chan U|.nilFunc|.nilIface=>xk
  |.func (.func _) a b=>a.isEmpty&&b.isEmpty
  |.iface _ v=>still n v
  |.agg d=>d.all<|still n
  |.tuple d=>d.all<|still n
  |_=>xw
def RY{α:Type}{f}{cs:Array α}(h:∀x∈cs,f x=x):cs.map f=cs:=by
 grind
theorem Ld ρ:∀n v,still n v=xk->Zt ρ v=v
 |0,_,h=>Zei
 |n+1,v,h=>by
  cases v with
  |pointer a=>cases a<;>first|(simp[still]at h;done)|simp
  |slice a _ _=>cases a<;>first|(simp[still]at h;done)|simp[Zt]
  |map a=>cases a<;>first|(simp[still]at h;done)|simp[Zt]
  |chan a=>cases a<;>first|(simp[still]at h;done)|simp[Zt]
  |func fn a b=>
   cases fn<;>first|(simp[still]at h;done)|skip
   simp[still,ZeZ,Array.isEmpty_iff]at h;obtain⟨rfl,rfl⟩:=h;simp[Zt,Vb]
  |iface t v=>simp;rw[Ld ρ n v (by simpa[still]using h)]
  |agg f=>
   rw[Wr,RY λx d=>Ld ρ n x ?_];simp only[still,Zh0]at h;exact h x d
  |tuple f=>
   rw[U4,RY λx d=>Ld ρ n x ?_];simp only[still,Zh0]at h;exact h x d
  |_=>simp[Zt]
def Cx.Zero(X:Cx):Prop:=∀t i z,X.Q.info? t=J i->i.zero=J z->Zt X.ρ z=z
def Th(j:X.Zero)t:X.Img (λa b=>a=b/\Zt X.ρ a=a) V (zeroValue t)<|zeroValue t:=by
 have g:X.Img (λa b=>a=b/\X.Q.info? t=J a) V (typeInfo t)<|typeInfo t:=by
  refine .bind WC ?_;rintro f _ _- ⟨rfl,rfl⟩;rw[X.dq t];split;exact .pure ⟨rfl,by assumption⟩;exact Zz _ _
 refine .bind g ?_;rintro f i _- ⟨rfl,h⟩;cases d:i.zero with
 |none=>simp_all[X8]
 |some z=>exact .pure ⟨rfl,j t i z h d⟩
theorem RL{α β}{RA:α->β->Prop}{v v'}(h:Zt X.ρ v=v'):X.Img RA V (goPanic v)<|goPanic v':=by subst h;exact .panic v
def TO{α β}{RA:α->β->Prop}:X.Img RA V (runtimePanic .nilDeref)<|runtimePanic .nilDeref:=by
 refine .bind WC ?_;rintro a _ _- ⟨rfl,rfl⟩;exact RL (by simp[strVal];rfl)
theorem GD{α β}{RA:α->β->Prop}x y s c:X.Img RA V (runtimePanic<|.bounds x y s c)<|runtimePanic<|.bounds x y s c:=by
 refine .bind WC ?_;rintro a _ _- ⟨rfl,rfl⟩;exact RL (by simp[Wr];rfl)
def TQ{α β}{RA:α->β->Prop}m:X.Img RA V (runtimePanic<|.error m)<|runtimePanic<|.error m:=by
 refine .bind WC ?_;rintro a _ _- ⟨rfl,rfl⟩;exact RL (by simp[strVal];rfl)
theorem AF{α β}{RA:α->β->Prop}m:X.Img RA V (runtimePanic<|.plain m)<|runtimePanic<|.plain m:=by
 refine .bind WC ?_;rintro a _ _- ⟨rfl,rfl⟩;exact RL (by simp[strVal];rfl)
def Ue q:X.Img Eq V (choose q)<|choose q:=.choose λn=>.pure rfl
theorem Ki{α β}{RA:α->β->Prop}k x y c:X.Img RA V (boundsPanic k x y c)<|boundsPanic k x y c:=by
 unfold boundsPanic;cases(k !=.u64&&decide (0<=x)&&decide (x<=31));grind [GD];refine .bind (RA:=Eq) (.bind (Ue _) ?_) ?_;rintro a n _-rfl;exact .pure rfl;rintro a b _-rfl;grind [GD]
def zJ v:X.Img Eq V (asIntOf v)<|asIntOf<|Zt X.ρ v:=by
 cases v with
 |int k n=>rw[XV];exact .pure rfl
 |pointer a=>cases a<;>first|exact X8 Z1 _|exact Zz _ _
 |_=>exact Zz _ _
def Kh v:X.Img Eq V (asInt v)<|asInt<|Zt X.ρ v:=by
 refine .bind (zJ v) ?_;rintro a n _-rfl;exact .pure rfl
def As v:X.Img Eq V (asBool v)<|asBool<|Zt X.ρ v:=by
 cases v with
 |bool b=>rw[U3];exact .pure rfl
 |_=>exact Zz _ _
def Z2W v:X.Img (λa b=>b=a.map (Zt X.ρ)) V (asAgg v)<|asAgg<|Zt X.ρ v:=by
 cases v with
 |agg c=>rw[Wr];exact .pure rfl
 |_=>exact Zz _ _
def Ar v:X.Img (λa b=>b=ZP X.ρ a) V (asAddr v)<|asAddr<|Zt X.ρ v:=by
 cases v with
 |pointer a=>
  obtain _|a:=a;rw[Un];exact TO;rw[Wy];exact .pure rfl
 |_=>exact Zz _ _
def zP v:X.Img (λa b=>b=ZP X.ρ a) V (Instr.sureAddr v)<|Instr.sureAddr<|Zt X.ρ v:=by
 cases v with
 |pointer a=>
  obtain _|a:=a;exact Zz _ _;rw[Wy];exact .pure rfl
 |_=>exact Zz _ _
def GU e cs:X.Img (λa b=>b=ZP X.ρ a) V (newRow e cs)<|newRow e<|cs.map<|Zt X.ρ:=
 .new (o:=.cells cs e) trivial Z1 λr=>.pure rfl
def AD t v:X.Img (λa b=>b=ZP X.ρ a) V (newVar t v)<|newVar t<|Zt X.ρ v:=by
 simp_all[newVar,Tu,GU]
def zO t cs off:X.Img X.Rv V (part t cs off)<|part t (cs.map<|Zt X.ρ) off:=by
 refine .bind (GN t) ?_;rintro a b _-rfl;split;refine .bind (VD t) ?_;rintro a n _-rfl;refine .pure ?_;show _=Zt _ _;simp_all[Wr];rw[Zfz];cases cs[off]? with
 |none=>exact Zz _ _
 |some v=>exact .pure rfl
end
end
section
section
variable {X:Cx}{V:Zb}
def Z2T(j:X.Zero)t:X.Img X.Rv V (Instr.alloc t xk<|.tuple #[])<|Instr.alloc t xk<|.tuple #[]:=by
 refine .bind (Th j t) ?_;rintro f z _- ⟨rfl,d⟩;have h:=AD (X:=X) (V:=f) t z;rw[d]at h;refine .bind h ?_;rintro g a _-rfl;exact .pure (Wy _ _).symm
def Z37 t v:X.Img X.Rv V (Instr.box t v)<|Instr.box t<|Zt X.ρ v:=by
 refine .bind (AD t v) ?_;rintro d a _-rfl;exact .pure (Wy _ _).symm
def Z3z t v:X.Img X.Rv V (Instr.loadAt t v)<|Instr.loadAt t<|Zt X.ρ v:=by
 refine .bind (zP v) ?_;rintro d a _-rfl;exact Km t a
theorem Z3V t v x:X.Img Eq V (Instr.storeAt t v x)<|Instr.storeAt t (Zt X.ρ v)<|Zt X.ρ x:=by
 refine .bind (zP v) ?_;rintro d a _-rfl;exact Z3W t a x
def Z3q v i:X.Img X.Rv V (Instr.extract v i)<|Instr.extract (Zt X.ρ v) i:=by
 cases v with
 |tuple vs=>
  rw[U4];unfold Instr.extract;simp;cases vs[i]? with
  |none=>exact Zz _ _
  |some v=>exact .pure rfl
 |_=>exact Zz _ _
def Z3C t v:X.Img X.Rv V (Instr.makeInterface t v)<|Instr.makeInterface t<|Zt X.ρ v:=by
 refine .bind (V5 t) ?_;rintro a d _-rfl;split;exact Zz _ _;exact .pure (S8 _ _ _).symm
def Z3D t r:X.Img X.Rv V (Instr.makeMap t r)<|Instr.makeMap t<|r.map<|Zt X.ρ:=by
 have key:∀V,X.Img X.Rv V (do pure (.map<|J<|<-newObj _):Sem Value) (do pure (.map<|J<|<-newObj _):Sem Value):=λV=>by
  have h:X.Img (λa b=>b=X.ρ a) V _ _:=.new (o:=.map #[] 0) trivial Z1 λr=>.pure rfl;rw[show XF X.ρ _=.map #[] 0 by simp[XF]]at h;refine .bind h ?_;rintro f r _-rfl;exact .pure Zel
 obtain _|x:=r;exact key V;refine .bind (V5 t) ?_;rintro f d _-rfl;cases d<;>first|exact Zz _ _|skip
 refine .bind (Kh x) ?_;simp_all
theorem Z3r t x f:X.Img X.Rv V (Instr.field t x f)<|Instr.field t (Zt X.ρ x) f:=by
 refine .bind (V5 t) ?_;rintro h d _-rfl;cases d<;>first|exact Zz _ _|skip
 rename_i a;dsimp only;cases a[f]? with
 |none=>exact Zz _ _
 |some g=>
  refine .bind (Z2W x) ?_;rintro h j _-rfl;exact zO _ _ _
theorem Z3w t x i:X.Img X.Rv V (Instr.index t x i)<|Instr.index t (Zt X.ρ x)<|Zt X.ρ i:=by
 refine .bind (zJ i) ?_;rintro a ⟨k,n⟩ _-rfl;refine .bind (V5 t) ?_;rintro a d _-rfl;cases d<;>first|exact Zz _ _|skip
 cases x<;>first|exact Zz _ _|skip
 rw[Sa];dsimp only;split;exact .pure ZeI;simp_all[Ki];cases x<;>first|exact Zz _ _|skip
 rw[Wr];dsimp only;split;refine .bind (VD _) ?_;rintro a m _-rfl;exact zO _ _ _;simp_all[Ki]
def Z3T x y c:X.Img Eq V (Instr.sliceBound x y c)<|Instr.sliceBound (Zt X.ρ x) y c:=by
 refine .bind (zJ x) ?_;rintro a ⟨k,n⟩ _-rfl;dsimp only;split;exact .pure rfl;simp_all[Ki]
def Z3U b n c l h m:X.Img Eq V (Instr.sliceBounds b n c l h m)<|Instr.sliceBounds b n c (l.map<|Zt X.ρ) (h.map<|Zt X.ρ)<|m.map<|Zt X.ρ:=by
 unfold Instr.sliceBounds;cases m<;>cases h<;>cases l
 all_goals
  simp;repeat' first
   |exact .pure rfl
   |exact Zz _ _
   |(refine .bind (Z3T _ _ _) ?_;rintro _ _ _-rfl)
   |(refine .bind (RA:=Eq) _ ?_;rintro _ _ _-rfl)
theorem Z3S t x l h m(f:∃e,X.Q.underlying t=J (.slice e)):X.Img X.Rv V (Instr.sliceAt t x l h m)<|Instr.sliceAt t (Zt X.ρ x) (l.map<|Zt X.ρ) (h.map<|Zt X.ρ)<|m.map<|Zt X.ρ:=by
 let⟨e,f⟩:=f;have g:∀V,X.Img (λa b=>a=b/\a=.slice e) V (underlying t)<|underlying t:=λV=>by
  refine .bind WC ?_;rintro o _ _- ⟨rfl,rfl⟩;rw[X.cx t];rw[f];exact .pure ⟨rfl,rfl⟩
 refine .bind (g V) ?_;rintro j d _- ⟨rfl,rfl⟩;refine .bind (g j) ?_;rintro p d _- ⟨rfl,rfl⟩;cases x<;>first|exact Zz _ _|skip
 rename_i a n c
 have key:∀V (b:Option Addr),X.Img X.Rv V (do
   let(l,h,m)<-Instr.sliceBounds xk n c l h m
   let size<-sizeOf e
   pure (.slice (if m=l then a else a.map (·.add (l*size))) (h-l)<|m-l):Sem Value) (do
   let(l,h,m)<-Instr.sliceBounds xk n c _ _ _
   let size<-sizeOf e
   pure (.slice (if m=l then a.map (ZP X.ρ)else(a.map<|ZP X.ρ).map (·.add (l*size))) (h-l)<|m-l):Sem Value):=λV b=>by
  refine .bind (Z3U _ _ _ _ _ _) ?_;rintro q ⟨y,w,z⟩ _-rfl;refine .bind (VD e) ?_;rintro r k _-rfl;refine .pure ?_;show _=Zt _ _;split<;>cases a<;>simp[Zt,Q9]
 have u:Zt X.ρ (.slice a n c)=.slice (a.map<|ZP X.ρ) n c:=by cases a<;>simp[Zt]
 simp_all
def zN e cs n c:X.Img X.Rv V (do pure (.slice (J<|<-newRow e cs) n c):Sem Value) (do pure (.slice (J<|<-newRow e (cs.map<|Zt X.ρ)) n c):Sem Value):=by
 refine .bind (GU e cs) ?_;rintro d a _-rfl;exact .pure Zel
def XP t:X.Img (λa b=>a=b/\X.Q.underlying t=J a) V (underlying t)<|underlying t:=by
 refine .bind WC ?_;rintro d _ _- ⟨rfl,rfl⟩;rw[X.cx t];split;exact .pure ⟨rfl,by assumption⟩;exact Zz _ _
theorem Z3x t x i:X.Img X.Rv V (Instr.indexAt t x i)<|Instr.indexAt t (Zt X.ρ x)<|Zt X.ρ i:=by
 have fin:∀V k (n:Int) (base:Option Addr) len elem,X.Img X.Rv V (do
   let f:=len<=1&&(match<-underlying t with|.array .. =>xk|_=>xw)
   match base with
   |some a=>
    if 0<=n/\n<len then pure<|.pointer<|J<|a.add<|n.toNat*(<-sizeOf elem)
    else if f then unsupported (.noEntry "op/indexAddr.an index out of range at an array of length 0 or 1 (ledger 616)")
    else boundsPanic k n len .index
   |none=>boundsPanic k n 0 .index:Sem Value) (do
   let f:=len<=1&&(match<-underlying t with|.array .. =>xk|_=>xw)
   match base.map (ZP X.ρ)with
   |some a=>
    if 0<=n/\n<len then pure<|.pointer<|J<|a.add<|n.toNat*(<-sizeOf elem)
    else if f then unsupported (.noEntry "op/indexAddr.an index out of range at an array of length 0 or 1 (ledger 616)")
    else boundsPanic k n len .index
   |none=>boundsPanic k n 0 .index:Sem Value):=λV k n base len elem=>by
  refine .bind (V5 t) ?_;rintro j d _-rfl;obtain _|a:=base;grind [Ki];simp only[Zfm];split;refine .bind (VD elem) ?_;rintro h m _-rfl;rw[Q9];exact .pure (Wy _ _).symm;generalize (decide (len<=1)&&_)=f;cases f;simp_all[Ki];exact X8 Z1 _
 refine .bind (zJ i) ?_;rintro j ⟨k,n⟩ _-rfl;refine .bind (V5 t) ?_;rintro h d _-rfl;cases d<;>first|exact Zz _ _|skip
 rename_i elem;cases x<;>first|exact Zz _ _|skip
 rename_i a g c;have o:Zt X.ρ (.slice a g c)=.slice (a.map<|ZP X.ρ) g c:=by cases a<;>simp[Zt]
 rw[o];exact fin h k n a g elem;rename_i len elem;refine .bind (zP x) ?_;rintro l a _-rfl;exact fin l k n (J a) len elem
theorem Cx.Img.map{α β γ δ RA d s j}{f:α->γ}{g:β->δ}(h:X.Img RA V s j)(l:∀a b,RA a b->d (f a) (g b)):X.Img d V (f<$>s)<|g<$>j:=.bind h λk a b _ r=>.pure Ze3
def GR{α β:Type}{f:α->Sem β}(d:∀V a,X.Img Eq V (f a)<|f a):∀(l:List α) V,X.Img Eq V (l.mapM f) (l.mapM f)
 | [],V=>by simp;exact .pure rfl
 |a::l,V=>by
  simp;refine .bind (d V a) ?_;rintro g b _-rfl;refine .bind (GR d l g) ?_;rintro h j _-rfl;exact .pure rfl
theorem map_set{α β:Type}(g:α->β)(cs:Array α)i c:(cs.map g).setIfInBounds i (g c)=(cs.setIfInBounds i c).map g:=by
 simp
abbrev Zp:=List Value
abbrev Za:=Array Value
def G8 ρ off:∀(l:Zp) k (a:Za),
  ((l.map<|Zt ρ).zipIdx k).foldl (λa x=>a.setIfInBounds (off+x.2) x.1) (a.map<|Zt ρ)=((l.zipIdx k).foldl (λa x=>a.setIfInBounds (off+x.2) x.1) a).map (Zt ρ)
 | [],_,_=>rfl
 |v::l,k,a=>by
  simp;rw[map_set];exact G8 ρ off l _ _
def A2 ρ place:∀parts d,
  Instr.fill place (d.map<|Zt ρ) (parts.map λp=>(p.1,Zt ρ p.2))=(Instr.fill place d parts).map λc=>c.map<|Zt ρ
 | [],d=>rfl
 | (i,v)::a,d=>by
   simp only[Zft,Instr.fill];cases place i with
   |none=>rfl
   |some q=>
    rw[Tu];simp only[Zir];split;rfl;rw[<-A2 ρ place a];rw[<-Zho,<-Zho,Array.toList_zipIdx];simp_all[G8]
def Z38(r:X.Zero)t parts:X.Img X.Rv V (Instr.build t parts)<|Instr.build t (parts.map λp=>(p.1,Zt X.ρ p.2)):=by
 refine .bind (Th r t) ?_;rintro u z _- ⟨rfl,o⟩;have q:z.cells.map (Zt X.ρ)=z.cells:=by rw[<-Tu,o]
 refine .bind (V5 t) ?_;rintro w d _-rfl
 have fin:∀V place g,X.Img X.Rv V (do
   let J cells:=Instr.fill place z.cells parts.toList|stuck g
   pure _:Sem Value) (do
   let J cells:=Instr.fill place z.cells (parts.map λp=>(p.1,Zt X.ρ p.2)).toList|stuck g
   pure _:Sem Value):=λV place g=>by
  have:=A2 X.ρ place parts.toList z.cells;rw[q]at this;rw[Zgj,this];cases Instr.fill place z.cells parts.toList with
  |none=>exact Zz _ _
  |some x=>exact .pure (Wr _ _).symm
 cases d<;>first|exact Zz _ _|skip
 refine .bind (VD _) ?_;rintro j n _-rfl;exact fin j _ _;rename_i k;dsimp only;rw[Zgw];refine .bind (RA:=Eq) (.map (GR (λV f=> ?_) _ _) λa b h=>by rw[h]) ?_;refine .bind (VD _) ?_;rintro j n _-rfl;exact .pure rfl;rintro j l _-rfl;exact fin j _ _
end
end
section
section
variable {X:Cx}{V:Zb}
abbrev Zf:=TypeId
def Z39(w:X.Zero)(t:Zf)(n:Nat)(parts:Array<|Nat×Value):X.Img X.Rv V (Instr.buildSlice t n parts)<|Instr.buildSlice t n (parts.map λp=>(p.1,Zt X.ρ p.2)):=by
 refine .bind (V5 t) ?_;rintro y d _-rfl;cases d<;>first|exact Zz _ _|skip
 rename_i elem;dsimp only;refine .bind (VD _) ?_;rintro j k _-rfl
 have fin:∀(V:Zb) (zero:Za),zero.map (Zt X.ρ)=zero->X.Img X.Rv V (do
   let J cells:=Instr.fill (λi=>J (i*k,k)) ((Array.range<|n*k).map (zero[· %zero.size]!)) parts.toList|stuck "buildSlice: a part of the wrong size"
   pure (.slice (J<|<-newRow elem cells) n n):Sem Value) (do
   let J cells:=Instr.fill (λi=>J (i*k,k)) ((Array.range<|n*k).map (zero[· %zero.size]!)) (parts.map λp=>(p.1,Zt X.ρ p.2)).toList|stuck "buildSlice: a part of the wrong size"
   pure (.slice (J<|<-newRow elem cells) n n):Sem Value):=λV zero q=>by
  have r:((Array.range<|n*k).map (zero[· %zero.size]!)).map (Zt X.ρ)=(Array.range<|n*k).map (zero[· %zero.size]!):=by
   refine RY λx u=> ?_;obtain⟨i,_,rfl⟩:=ZhG.1 u;by_cases a:i%zero.size<zero.size;rw[Zjg zero _ a];have g:(zero.map<|Zt X.ρ)[i%zero.size]?=zero[i%zero.size]? :=by rw[q]
   rw[Zfz,ZfM a]at g;exact ZgC g;rw[Zjf zero _ a];have e:(default:Zc)=.bool default:=rfl;rw[e,U3]
  have:=A2 X.ρ (λi=>J (i*k,k)) parts.toList ((Array.range<|n*k).map (zero[· %zero.size]!));rw[r]at this;rw[Zgj,this];cases Instr.fill (λi=>J (i*k,k)) ((Array.range<|n*k).map (zero[· %zero.size]!)) parts.toList with
  |none=>exact Zz _ _
  |some o=>exact zN elem o n n
 split;exact X8 (λ_ h=>Zei) _;split;exact fin j #[] Z1;refine .bind (Th w elem) ?_;rintro l z _- ⟨rfl,f⟩;exact fin l z.cells (by rw[<-Tu,f])
def Z3Y(k:X.Zero)(x:Zc)(a b:Zf):X.Img X.Rv V (Instr.typeAssert x a b xk)<|Instr.typeAssert (Zt X.ρ x) a b xk:=by
 have f:∀V,X.Img X.Rv V (do pure (.tuple #[<-zeroValue b,.bool xw]):Sem Value) (do pure (.tuple #[<-zeroValue b,.bool xw]):Sem Value):=λV=>by
  refine .bind (Th k b) ?_;rintro l z _- ⟨rfl,g⟩;exact .pure (by simp[Cx.Rv,U4,g])
 refine .bind (XP b) ?_;rintro h d _- ⟨rfl,n⟩;cases d;all_goals
  cases x<;>first|exact Zz _ _|skip
  rename_i t v;rw[S8];dsimp only;first
  |split
   exact .pure (by simp[Cx.Rv,U4]);exact f h
  |refine .bind (VE t) ?_
   rintro j i _-rfl;split;exact .pure (by simp[Cx.Rv,U4,S8]);exact f j
  rw[S9];exact f h
theorem Z3g(a b:Zf)(x:Zc)(g:∃k,X.Q.underlying a=J (.int k))(j:∃k,X.Q.underlying b=J (.int k)):X.Img X.Rv V (convert a b x)<|convert a b<|Zt X.ρ x:=by
 obtain⟨o,g⟩:=g;obtain⟨q,j⟩:=j;refine .bind (XP a) ?_;rintro l d _- ⟨rfl,f⟩;rw[g]at f;cases f;refine .bind (XP b) ?_;rintro n d _- ⟨rfl,f⟩;rw[j]at f;cases f;cases x<;>first|exact X8 (λ_ h=>Zei) _|skip
 rw[XV];exact .pure ZeI
 .rename_i s b;simp only[Zt];unfold Conv.floatToInt;repeat' first
   |exact .pure (by simp[Cx.Rv])
   |(refine .bind (Ue _) ?_;rintro _ _ _-rfl)
   |split
 rename_i p;cases p<;>exact X8 (λ_ h=>Zei) _
end
end
section
section
variable {X:Cx}{V:Zb}
def Z3t{α β RA r}{f:Array MapEntry->Nat->Sem α}{g:Array MapEntry->Nat->Sem β}d(h:∀a k,X.Img RA (r::V) (f a k)<|g (a.map<|VK X.ρ) k):
  X.Img RA V (do let .map a k<-getObj r|stuck d
                 f a k) (do let .map a k<-getObj (X.ρ r)|stuck d
                             g a k):=by
 refine .get (λw=>⟨_,w,rfl,trivial⟩) λo j=> ?_;cases o<;>first|exact h _ _|exact Zz _ _
def Z3y t ty ts x(l:ts[0]?=J t)(j:(∃e,X.Q.underlying t=J (.slice e))\/(∃a b,X.Q.underlying t=J (.map a b))\/∃n e,X.Q.underlying t=J (.array n e)):
  X.Img X.Rv V (Builtin.len_ ts ty #[x]) (Builtin.len_ ts ty #[Zt X.ρ x]):=by
 unfold Builtin.len_;have e:∀y,(#[y]:Array Value)[0]?=J y:=Z1;simp[l];refine .bind (XP t) ?_;rintro o d _- ⟨rfl,h⟩;obtain⟨e,f⟩|⟨a,b,f⟩|⟨n,e,f⟩:=j<;>rw[f]at h<;>cases h
 cases x<;>first|exact Zz _ _|skip
 rename_i a n c;have g:Zt X.ρ (.slice a n c)=.slice (a.map<|ZP X.ρ) n c:=by cases a<;>simp[Zt]
 rw[g];exact .pure (by simp[Cx.Rv,goInt]);cases x<;>first|exact Zz _ _|skip
 rename_i r;obtain _|r:=r;simp[Zt];exact .pure (by simp[Cx.Rv,goInt]);simp[Zt];refine Z3t _ λp k=>.pure ?_;simp[Cx.Rv,goInt];exact .pure (by simp[Cx.Rv,goInt])
def qg ρ v:(∃k n,v=.int k n)\/((∀k n,v≠.int k n)/\∀k n,Zt ρ v≠.int k n):=by
 cases v with
 |int k n=>simp
 |pointer a=>cases a<;>exact .inr ⟨Z1,Z1⟩
 |slice a n c=>cases a<;>exact .inr ⟨Z1,λ_ _ h=>(by simp[Zt]at h)⟩
 |map r=>cases r<;>exact .inr ⟨Z1,λ_ _ h=>(by simp[Zt]at h)⟩
 |chan r=>cases r<;>exact .inr ⟨Z1,λ_ _ h=>(by simp[Zt]at h)⟩
 |_=>exact .inr ⟨Z1,λ_ _ h=>(by simp[Zt]at h)⟩
def NM{k a b}(h:∀k n,a≠.int k n):Instr.sameNow (.int k) a b=U:=by
 cases a<;>first|rfl|simp_all
def NN{k a b}(h:∀k n,b≠.int k n):Instr.sameNow (.int k) a b=U:=by
 cases a<;>first|rfl|(cases b<;>first|rfl|simp_all)
def Z85 ρ k a b:Instr.sameNow (.int k) (Zt ρ a) (Zt ρ b)=Instr.sameNow (.int k) a b:=by
 obtain⟨j,n,rfl⟩|⟨d,f⟩:=qg ρ a;obtain⟨l,o,rfl⟩|⟨g,h⟩:=qg ρ b;simp;simp_all[NN];simp_all[NM]
def FO ρ k a:∀d i,Instr.findNow (.int k) (Zt ρ a) (d.map<|VK ρ) i=(Instr.findNow (.int k) a d i).map λr=>r.map λp=>(p.1,Zt ρ p.2)
 | [],i=>rfl
 |e::d,i=>by
  simp[Instr.findNow];rw[show(VK ρ e).key=Zt ρ e.key from rfl,Z85];cases Instr.sameNow _ a e.key with
  |none=>rfl
  |some b=>
   cases b;simp_all[FO];rfl
def GE e n t v{k}(a:X.Q.underlying t=J (.int k)):X.Img Eq V (Instr.checkKey e (n+1) t v)<|Instr.checkKey e (n+1) t<|Zt X.ρ v:=by
 refine .bind (XP t) ?_;rintro f d _- ⟨rfl,h⟩;rw[a]at h;cases h;exact .pure rfl
def qo p n w:(∃q,(behindNumber n).run p w=.ok q w)\/∃a,(behindNumber n).run p w=.halt (.stuck a) w:=by
 have h:(∃q,(numberAt n.block).run p w=.ok q w)\/∃a,(numberAt n.block).run p w=.halt (.stuck a) w:=by
  unfold numberAt;simp only[ZfJ,Zj9];cases j:w.shape? n.block with
  |some x=>simp
  |none=>
   show(∃q,(Sem.getObj n.block _).run p w=.ok q w)\/_;obtain d|⟨c,e,g,d⟩|⟨o,d,f⟩:=JS w.heap[n.block]?;simp_all[Sem.run,getObj,Bind.bind,Sem.bind];simp_all[Sem.run,getObj,Bind.bind,Sem.bind];rw[Sf d f];cases o<;>exact .inl ⟨_,rfl⟩
 unfold behindNumber;obtain⟨q,h⟩|⟨a,h⟩:=h;simp_all;simp_all
def GF n t x y{k}(A:X.Q.underlying t=J (.int k))(z:X.Q.globals=#[])(D:∀i u,X.Q.info? t=J i->i.desc≠.named "sync.copyChecker" u):
  X.Img (λa b=>a=b/\(a=xk->∃k n,x=.int k n/\y=.int k n)) V (Op.equalIn (n+1) t x y) (Op.equalIn (n+1) t (Zt X.ρ x)<|Zt X.ρ y):=by
 have g:∀V a b o,X.Img (λa b=>a=b/\(a=xk->∃k n,x=.int k n/\y=.int k n)) V (do
   let(a,b):=((<-behindNumber a).1,(<-behindNumber b).1)
   if a.block==b.block&&a.block< (<-program).globals.size then return (<-byteOf a)==(<-byteOf b)
   let .named "sync.copyChecker" _:=(<-typeInfo t).desc|unsupported .addressObserved
   if a==b then pure xk else unsupported .addressObserved:Sem Bool) o:=λV a b o=>by
  refine .li _ λw=> ?_;simp only[ZfJ];obtain⟨q,h⟩|⟨j,h⟩:=qo X.Q a w;rw[h];simp only[ZfH];obtain⟨H,f⟩|⟨j,f⟩:=qo X.Q b w;rw[f];simp only[ZfH,Zh7,z];have r:(decide (q.1.block< (#[]:Array Global).size))=xw:=Z1;simp only[r,ZhZ,Zfk,ZfV,ZfJ];cases l:X.Q.info? t with
  |none=>exact⟨.stuck "no such type",w,by simp[typeInfo,l],trivial⟩
  |some i=>
   refine⟨.unsupported .addressObserved,w,?_,trivial⟩;simp[typeInfo,l,ZfJ,Zh7,ZfH,Zhu];split;rename_i u e;exact absurd e Ze3;rfl
  rw[f];exact⟨_,_,rfl,trivial⟩;rw[h];exact⟨_,_,rfl,trivial⟩
 unfold Op.equalIn;refine .bind (XP t) ?_;rintro C d _- ⟨rfl,h⟩;rw[A]at h;cases h;cases x with
 |pointer p=>
  obtain _|a:=p;cases y<;>exact X8 Z1 _;cases y with
  |int B m=>
   rw[Wy,XV];obtain(_|m)|m:=m<;>first|exact .pure ⟨rfl,Z1⟩|exact X8 Z1 _
  |pointer q=>cases q<;>first|exact X8 Z1 _|exact g _ _ _ _
  |_=>exact X8 Z1 _
 |int B m=>
  cases y with
  |int F G=>
   rw[XV,XV];dsimp only;split;rename_i e;subst e;exact .pure ⟨rfl,Z1⟩;exact Zz _ _
  |pointer q=>
   obtain _|b:=q;obtain _|m:=m<;>exact X8 Z1 _;rw[Wy,XV];obtain(_|m)|m:=m<;>first|exact .pure ⟨rfl,Z1⟩|exact X8 Z1 _
  |_=>exact Zz _ _
 |_=>cases y<;>first|exact Zz _ _|exact X8 Z1 _
structure Cx.IntT (X:Cx) (t:TypeId) (k:IntKind):Prop where
 d:X.Q.underlying t=J (.int k)
 n:∀i u,X.Q.info? t=J i->i.desc≠.named "sync.copyChecker" u
def Hit(key:Zc)(es:List MapEntry)(j:Nat)(r:Option<|Nat×Value):Prop:=∀i v,r=J (i,v)->j<=i/\∃e,es[i-j]?=J e/\∃k n,key=.int k n/\e.key=.int k n
def Hit.none key es j:Hit key es j U:=λ_ _ h=>Zei
def Hit.cons{key es j r}(h:Hit key es (j+1) r)e:Hit key (e::es) j r:=λi v a=>by
 let⟨f,d,g,k⟩:=h i v a;grind
def Hit.head{key es j e}(h:∃k n,key=.int k n/\e.key=.int k n):Hit key (e::es) j<|J (j,e.val):=λi v a=>by
 simp_all
def Z86{k a b}(h:Instr.sameNow (.int k) a b=J xk):∃k n,a=.int k n/\b=.int k n:=by
 obtain⟨g,l,rfl⟩|⟨d,_⟩:=qg id a;obtain⟨j,o,rfl⟩|⟨f,_⟩:=qg id b;simp[Instr.sameNow]at h;simp_all;simp_all[NN];simp_all[NM]
def FM{k key}:∀a j r,Instr.findNow (.int k) key a j=J r->Hit key a j r
 | [],j,r,h=>by
   simp[Instr.findNow]at h;subst h;exact .none _ _ _
 |e::a,j,r,h=>by
  simp[Instr.findNow]at h;split at h;rename_i d;cases h;exact .head<|Z86 d;exact(FM a _ r h).cons e;cases h
def Cx.Rk(X:Cx)(key:Zc)(es:List MapEntry)(j:Nat)(a b:Option<|Nat×Value):Prop:=(b=a.map λp=>(p.1,Zt X.ρ p.2))/\Hit key es j a
theorem GL(l:X.Q.globals=#[]){t k}(g:X.IntT t k)key:∀f i V,
  X.Img (X.Rk key f i) V (Instr.findAsking t key f i) (Instr.findAsking t (Zt X.ρ key) (f.map<|VK X.ρ) i)
 | [],i,V=>.pure ⟨rfl,.none _ _ _⟩
 |e::f,i,V=>by
  simp;refine .bind (GF 9999 t key e.key g.d l g.n) ?_;rintro j b _- ⟨rfl,p⟩;cases b;have h:=GL l g key f (i+1) j;have o:X.Img (X.Rk key _ i) j (Instr.findAsking t key f _>>=λr=>pure r) (Instr.findAsking t _ _ _>>=λr=>pure r):=
   .bind h λ_ a b _ r=>.pure ⟨r.1,r.2.cons e⟩
  simp_all;exact .pure ⟨rfl,.head Ze3⟩
def GM(j:X.Q.globals=#[]){t k}(f:X.IntT t k)key es:
  X.Img (X.Rk key es 0) V (Instr.findKey t key es) (Instr.findKey t (Zt X.ρ key)<|es.map<|VK X.ρ):=by
 refine .bind (XP t) ?_;rintro g d _- ⟨rfl,h⟩;rw[f.d]at h;cases h;rw[FO];cases a:Instr.findNow _ key es 0 with
 |none=>grind [GL]
 |some r=>exact .pure ⟨rfl,FM es 0 r a⟩
def Z3B(u:X.Zero)(n:X.Q.globals=#[]){t a b k}(q:X.Q.underlying t=J (.map a b))(j:X.IntT a k)x key ok:X.Img X.Rv V (Instr.lookup t x key ok)<|Instr.lookup t (Zt X.ρ x) (Zt X.ρ key) ok:=by
 have fin:∀V (f:Array MapEntry),X.Img X.Rv V (do
   Instr.checkKey f.isEmpty 10000 a key
   let(v,o)<-match<-Instr.findKey a key f.toList with
    |some (_,v)=>pure (v,xk)
    |none=>pure (<-zeroValue b,xw)
   pure (if ok then .tuple #[v,.bool o]else v):Sem Value) (do
   Instr.checkKey (f.map _).isEmpty 10000 a _
   let(v,o)<-match<-Instr.findKey a _ (f.map _).toList with
    |some (_,v)=>pure (v,xk)
    |none=>pure (<-zeroValue b,xw)
   pure (if ok then .tuple #[v,.bool o]else v):Sem Value):=λV f=>by
  have l:(f.map<|VK X.ρ).isEmpty=f.isEmpty:=by simp[Array.isEmpty]
  rw[l];refine .bind (GE f.isEmpty 9999 a key j.d) ?_;rintro g _ _- -;rw[Zgj];refine .bind (GM n j key f.toList) ?_;rintro y r _- ⟨rfl,-⟩;obtain _|p:=r;refine .bind (Th u b) ?_;rintro A z _- ⟨rfl,h⟩;refine .pure ?_;cases ok<;>simp[Cx.Rv,U4,h];refine .pure ?_;cases ok<;>simp[Cx.Rv,U4]
 refine .bind (XP t) ?_;rintro g d _- ⟨rfl,h⟩;rw[q]at h;cases h;cases x<;>first|exact Zz _ _|skip
 rename_i r;obtain _|r:=r;simp[Zt];have:=fin g #[];simp at this;exact this;simp[Zt];refine .get (λw=>⟨_,w,rfl,trivial⟩) λo B=> ?_;cases o<;>first|exact fin _ _|exact Zz _ _
def GS(M:X.Q.globals=#[]){t a b k}(O:X.Q.underlying t=J (.map a b))(K:X.IntT a k)x key v:X.Img Eq V (Instr.mapUpdate t x key v)<|Instr.mapUpdate t (Zt X.ρ x) (Zt X.ρ key)<|Zt X.ρ v:=by
 refine .bind (XP t) ?_;rintro P d _- ⟨rfl,h⟩;rw[O]at h;cases h;cases x<;>first|exact Zz _ _|skip
 rename_i r;obtain _|r:=r;simp_all[Zt,AF];simp[Zt];refine .get (λw=>⟨_,w,rfl,trivial⟩) λo S=> ?_;cases o<;>first|exact Zz _ _|skip
 rename_i l g;show X.Img Eq _ (Instr.checkKey xw 10000 a key>>=_)<|Instr.checkKey xw 10000 a _>>=_;refine .bind (GE xw 9999 a key K.d) ?_;rintro R _ _ B-;rw[Zgj];refine .bind (GM M K key l.toList) ?_;rintro G f _ C ⟨rfl,D⟩;have H:=C _<|B _<|Zgo ..;obtain _|p:=f;have:=Cx.Img.set (X:=X) (RA:=Eq) (V:=G) (r:=r) (o:=.map (l.push {key,val:=v,born:=g})<|g+1) (k:=.pure ()) (k':=.pure ()) H trivial Z1<|.pure rfl;simp[XF,Array.map_push,VK]at this;exact this;let⟨i,v0⟩:=p;obtain⟨_,e,L,q,n,rfl,y⟩:=D i v0 rfl;have u:l[i]?=J e:=ZeL;have F:(l.map<|VK X.ρ)[i]?=J (VK X.ρ e):=by rw[Zfz,u];rfl
 have N:(VK X.ρ e).key=.int q n:=by show Zt X.ρ e.key=_;rw[y,XV]
 simp[Zfm,u,F,Zfv,y,N,XV];have A:Instr.keyThatStays (.int q n) (.int q n)=pure (.int q n):=by
  unfold Instr.keyThatStays;rw[Zfc (by simp[Instr.sameBits])]
 rw[A];have z:(l.modify i λe=> {e with key:=.int q n,val:=v}).map (VK X.ρ)=(l.map<|VK X.ρ).modify i λe=> {e with key:=.int q n,val:=Zt X.ρ v}:=by
  apply Array.ext_getElem?;intro j;simp[Zfz,RI];split;simp_all[VK];rfl
 have:=Cx.Img.set (X:=X) (RA:=Eq) (V:=G) (r:=r) (o:=.map (l.modify i λe=> {e with key:=.int q n,val:=v}) g) (k:=.pure ()) (k':=.pure ()) H trivial Z1<|.pure rfl;simp[XF,z]at this;exact this
end
end
section
section
variable {X:Cx}{V:Zb}
def qs(k:IntKind)(n:Int):X.Rv (.int k n)<|.int k n:=ZeI
def CA(b:Bool):X.Rv (.bool b)<|.bool b:=ZeI
def Z84(b:ByteArray):X.Rv (.string b)<|.string b:=ZeI
theorem Gz(op:BinOp)(k:IntKind)(x y:Int):X.Img X.Rv V (Op.intArith op k x y)<|Op.intArith op k x y:=by
 unfold Op.intArith;split<;>first|exact .pure (qs _ _)|exact Zz _ _
def Z3i(op:BinOp)(k:IntKind)(x y:Int):X.Img X.Rv V (Op.intDiv op k x y)<|Op.intDiv op k x y:=by
 unfold Op.intDiv;split;exact TQ _;split<;>first|exact .pure (qs _ _)|exact Zz _ _
theorem GC(op:BinOp)(k:IntKind)(x y:Int):X.Img X.Rv V (Op.intBits op k x y)<|Op.intBits op k x y:=by
 unfold Op.intBits;dsimp only;split<;>first|exact .pure (qs _ _)|exact Zz _ _
def H1(op:BinOp)(k k':IntKind)(x y:Int):X.Img X.Rv V (Op.shift op k x k' y)<|Op.shift op k x k' y:=by
 unfold Op.shift;split;exact TQ _;dsimp only;split<;>first|exact .pure (qs _ _)|exact Zz _ _
def Z3e(op:BinOp)(x y:Int):X.Img X.Rv V (Op.intCmp op x y)<|Op.intCmp op x y:=by
 unfold Op.intCmp;split<;>first|exact .pure (CA _)|exact Zz _ _
def GJ(op:BinOp)(k:FloatKind)(x y:Nat):X.Img X.Rv V (Op.floatArith op k x y)<|Op.floatArith op k x y:=by
 have fin:∀(V:Zb) (r:Option Nat),X.Img X.Rv V (match r with|some r=>pure (.float k r)|none=>do pure (.float k<|<-choose (.nanBits k x y)):Sem Value) (match r with|some r=>pure (.float k r)|none=>do pure (.float k<|<-choose (.nanBits k x y)):Sem Value):=λV r=>by
  cases r with
  |some r=>exact .pure Zel
  |none=>
   refine .bind (Ue _) ?_;rintro a n _-rfl;exact .pure Zel
 unfold Op.floatArith;cases op<;>first|exact Zz _ _|exact fin _ _
def GK(op:BinOp)(k:FloatKind)(x y:Nat):X.Img X.Rv V (Op.floatCmp op k x y)<|Op.floatCmp op k x y:=by
 unfold Op.floatCmp;dsimp only;split<;>first|exact .pure (CA _)|exact Zz _ _
def H2(op:BinOp)(x y:ByteArray):X.Img X.Rv V (Op.stringOp op x y)<|Op.stringOp op x y:=by
 unfold Op.stringOp;dsimp only;split<;>first|exact .pure (CA _)|exact Zz _ _|skip
 split;exact X8 (λ_ h=>Zei) _;exact .pure<|Z84 _
end
end
section
section
variable {X:Cx}{V:Zb}
def Cx.WR.shape{X:Cx}{f wc}(h:X.WR f wc){r x}(a:f.shape? r=J x):wc.shape? (X.ρ r)=J x:=by
 unfold World.shape? at a⊢;split at a;rename_i c e p k;obtain d|⟨_,l,n,o,j,d,_,q,g⟩|⟨_,_,g,_⟩:=h.blk _ _ k;cases d;simp_all;simp_all[XF];cases a
def AH{α β RA r}{k:Option (TypeId×Nat)->Sem α}{k':Option (TypeId×Nat)->Sem β}(q:∀w,∃h o,(k U).run X.Q w=.halt h o/\bad h)
  (t:∀x,X.Img RA V (k<|J x)<|k'<|J x):X.Img RA V (shape r>>=k)<|shape (X.ρ r)>>=k':=by
 refine .rl λd a f n p l g=> ?_;show X.bd RA d a f ((k _).run X.Q d)<|(k' _).runT X.P a f;change ∀j,a.drawn+j< (Y2<|(k' _).run X.P a).drawn->_ at l;change ∀j,xz (xj a)+j< xz (xj<|Y2<|(k' _).run X.P a)->_ at g;cases e:d.shape? r with
 |none=>
  let⟨h,o,e,u⟩:=q d;simp_all[Cx.bd.ce]
 |some x=>
  rw[n.shape e]at l g⊢;exact(t x).run d a f n p l g
def H5{α β RA r}{k:Option (Addr×TypeId)->Sem α}{k':Option (Addr×TypeId)->Sem β}(C:∀x w,∃h F,(k<|J x).run X.Q w=.halt h F/\bad h)
  (D:∀V,X.Img RA V (k U)<|k' U):X.Img RA V (viewAt r>>=k)<|viewAt (X.ρ r)>>=k':=by
 have key:X.Img RA V (getObj r>>=λo=>match o with|.view a t=>k (J (a,t))|_=>k U) (getObj (X.ρ r)>>=λo=>match o with|.view a t=>k' (J (a,t))|_=>k' U):=by
  refine .get (λw=>C _ w) λo g=> ?_;cases o<;>first|exact D _|exact g.elim
 refine .rl λd q f n z l j=> ?_;have H:∀ {γ} r (k:Option _->Sem γ),((getObj r>>=λo=>match o with|.view a t=>pure (J (a,t))|_=>pure U)>>=k)=(getObj r>>=λo=>match o with|.view a t=>k (J (a,t))|_=>k U):=λr k=>by
  show Sem.getObj r _=Sem.getObj r _;congr 1;funext o;cases o<;>rfl
 have u:∀ {γ} P w r (k:Option _->Sem γ) f,(viewAt r>>=k).runT P w f=if(w.shape? r).isSome then(k U).runT P w f else(getObj r>>=λo=>match o with|.view a t=>k _|_=>k U).runT P w f:=λP w r k f=>by
  rw[<-H];show(Sem.bind (if(w.shape? r).isSome then pure U else _) k).runT P w f=_;split<;>rfl
 have p:∀ {γ} P w r (k:Option _->Sem γ),(viewAt r>>=k).run P w=if(w.shape? r).isSome then(k U).run P w else(getObj r>>=λo=>match o with|.view a t=>k (J (a,t))|_=>k U).run P w:=λP w r k=>by
  have:=Zg6 Prod.fst<|u P w r k #[];grind [Sem.runT_fst]
 rw[p]at l j;rw[u,p];cases e:d.shape? r with
 |some x=>
  rw[n.shape e]at l j⊢;exact(D V).run d q f n z l j
 |none=>
  cases G:q.shape? (X.ρ r)with
  |none=>
   rw[G]at l j;exact key.run d q f n z l j
  |some y=>
   simp only[ZhQ,Zfk,ZfV];obtain g|⟨c,N,L,g⟩|⟨o,g,A⟩:=JS d.heap[r]?;have:(getObj r>>=λo=>match o with|.view a t=>k (J (a,t))|_=>k U).run X.Q d=.halt (.stuck "getObj: no such block") d:=by
    show(Sem.getObj r _).run X.Q d=_;simp[Sem.run,g]
   rw[this];exact Cx.bd.ce trivial;grind [World.shape?];by_cases B:o=hid;subst B;have:(getObj r>>=λo=>match o with|.view a t=>k (J (a,t))|_=>k U).run X.Q d=(k<|J (⟨0,0,J 0⟩,0)).run X.Q d:=by
    show(Sem.getObj r _).run X.Q d=_;rw[Sf g A];rfl
   rw[this];let⟨h,F,p,M⟩:=C (⟨0,0,J 0⟩,0) d;grind [Cx.bd.ce];let⟨_,K⟩:=n.obj g A B;grind [qf,World.shape?,absurd,Option.some.inj]
theorem LH t:X.P.cellsOf t=X.Q.cellsOf t:=by simp[Program.cellsOf,Cx.dq]
theorem LG t:X.P.bytesOf t=X.Q.bytesOf t:=by simp[Program.bytesOf,Cx.dq]
theorem je:∀d t off,byteOfCell X.P d t off=byteOfCell X.Q d t off
 |0,_,_=>rfl
 |d+1,t,off=>by simp_all[byteOfCell,Cx.cx,LH,LG,je]
theorem DJ:∀d t off,cellOfByte X.P d t off=cellOfByte X.Q d t off
 |0,_,_=>rfl
 |d+1,t,off=>by simp_all[cellOfByte,Cx.cx,LH,LG,DJ]
def PU e c off n:cellAtBytes X.P X.P.depth e (c / X.P.cellsOf e) off n=cellAtBytes X.Q X.Q.depth e (c / X.Q.cellsOf e) off n:=by
 have:X.P.depth=X.Q.depth:=rfl;grind [cellAtBytes,LH,LG,je,DJ]
def H4 ts t p y:X.Img X.Rv V (Builtin.unsafeAdd_ ts t #[.pointer p,y])<|Builtin.unsafeAdd_ ts t #[.pointer<|p.map<|ZP X.ρ,Zt X.ρ y]:=by
 refine .bind (Kh y) ?_;rintro h n _-rfl;by_cases d:n=0;simp[Zfc d];obtain _|a:=p;exact X8 Z1 _;refine H5 (λx w=>⟨_,w,rfl,trivial⟩) λV=> ?_;exact .pure ZeI;simp[Zf7 d];by_cases f:n<0;simp[Zfc f];exact X8 Z1 _;simp[Zf7 f];obtain _|a:=p;exact X8 Z1 _;refine AH (λw=>⟨_,w,rfl,trivial⟩) λx=> ?_;let⟨e,cells⟩:=x;refine .bind WC ?_;rintro g _ _- ⟨rfl,rfl⟩;rw[PU];show X.Img X.Rv g _ (match cellAtBytes X.Q X.Q.depth e _ a.off n with|some off=>pure _|none=>unsupported _);cases cellAtBytes X.Q X.Q.depth e _ a.off n with
 |none=>exact X8 Z1 _
 |some off=>exact .pure (by simp[Cx.Rv,ZP])
def GB{α β RA n}{k:Addr×Bool->Sem α}{k':Addr×Bool->Sem β}(T:∀w,w.heap[n.block]?=J hid->∃h R,(k (n,xw)).run X.Q w=.halt h R/\bad h)
  (G:∀V a l,X.Img RA V (k (a,l))<|k' (ZP X.ρ a,l)):X.Img RA V (behindNumber n>>=k)<|behindNumber (ZP X.ρ n)>>=k':=by
 refine .rl λd f es u B t q=> ?_;have H:∀ {γ} P w n (k:Addr×Bool->Sem γ) es,(behindNumber n>>=k).runT P w es=if(w.shape? n.block).isSome then(k _).runT P w es else(getObj n.block>>=λo=>match o with|.number a l=>k _|_=>k _).runT P w es:=λP w n k es=>by
  have L:(getObj n.block>>=λo=>match o with|.number a l=>k (a,l)|_=>k (n,xw))=((getObj n.block>>=λo=>match o with|.number a l=>pure (J (a,l))|_=>pure U)>>=λr=>(pure (r.getD (n,xw)):Sem _))>>=k:=by
   show Sem.getObj _ _=Sem.getObj _ _;congr 1;funext o;cases o<;>rfl
  rw[L];show(Sem.bind (Sem.bind (if(w.shape? n.block).isSome then pure U else _) λr=>pure _) k).runT P w es=_;split<;>rfl
 have K:∀ {γ} P w n (k:Addr×Bool->Sem γ),(behindNumber n>>=k).run P w=if(w.shape? n.block).isSome then(k (n,xw)).run P w else(getObj n.block>>=λo=>match o with|.number a l=>k (a,l)|_=>k (n,xw)).run P w:=λP w n k=>by
  have:=Zg6 Prod.fst<|H P w n k #[];grind [Sem.runT_fst]
 rw[K]at t q;rw[H,K];cases e:d.shape? n.block with
 |some x=>
  rw[show(ZP X.ρ n).block=X.ρ n.block from rfl,u.shape e]at t q⊢;exact(G V n xw).run d f es u B t q
 |none=>
  obtain g|⟨c,W,S,g⟩|⟨o,g,z⟩:=JS d.heap[n.block]?;have:(getObj n.block>>=λo=>match o with|.number a l=>k (a,l)|_=>k (n,xw)).run X.Q d=.halt (.stuck "getObj: no such block") d:=by
   show(Sem.getObj n.block _).run X.Q d=_;simp[Sem.run,g]
  simp[ZhQ,Zfk,ZfV,this];exact Cx.bd.ce trivial;grind [World.shape?];by_cases D:o=hid;subst D;have:(getObj n.block>>=λo=>match o with|.number a l=>k (a,l)|_=>k (n,xw)).run X.Q d=(k (n,xw)).run X.Q d:=by
   show(Sem.getObj n.block _).run X.Q d=_;rw[Sf g z];rfl
  simp[ZhQ,Zfk,ZfV,this];grind [Cx.bd.ce];let⟨_,A⟩:=u.obj g z D;have y:=qf (ρ:=X.ρ) z;have M:f.shape? (ZP X.ρ n).block=U:=by
   show f.shape? (X.ρ n.block)=U;unfold World.shape?;rw[A];split;grind;rfl
  rw[M]at t q⊢;have F:=(u.kind g).elim (λh=>absurd h D) id;have C:X.gw d ⟨.obj _,xw,(XF X.ρ o).isChan⟩:=⟨n.block,Z0,(Zf2.1 g).1,rfl⟩;have N:=Sf (p:=X.P) (k:=λo=>match o with|.number a l=>k' (a,l)|_=>k' (ZP X.ρ n,xw)) A y;have O:=NC (p:=X.P) (es:=es) (k:=λo=>match o with|.number a l=>k' (a,l)|_=>k' (ZP X.ρ n,xw)) A y;change ∀j,f.drawn+j< (Y2<|(Sem.getObj (X.ρ n.block) λo=>match o with|.number a l=>k' (a,l)|_=>k' (ZP X.ρ n,xw)).run X.P f).drawn->_ at t;change ∀j,xz (xj f)+j< xz (xj<|Y2<|(Sem.getObj (X.ρ n.block) λo=>match o with|.number a l=>k' (a,l)|_=>k' (ZP X.ρ n,xw)).run X.P f)->_ at q;change X.bd RA d f es ((Sem.getObj n.block λo=>match o with|.number a l=>k (a,l)|_=>k (n,xw)).run X.Q d) ((Sem.getObj (X.ρ n.block) λo=>match o with|.number a l=>k' (a,l)|_=>k' (ZP X.ρ n,xw)).runT X.P f es);rw[N]at t q;rw[Sf (p:=X.Q) (k:=λo=>match o with|.number a l=>k (a,l)|_=>k (n,xw)) g z,O];refine Cx.bd.step (.ev u C) ?_;cases o<;>first|exact F.elim|exact(G V n xw).run d f _ u B t q|exact(G V _ _).run d f _ u B t q
end
end
section
section
variable {X:Cx}{V:Zb}
def Z83{p r w}(a:w.heap[r]?=J hid):(viewAt r).run p w=.ok (J (⟨0,0,J 0⟩,0)) w:=by
 have d:w.shape? r=U:=by simp[World.shape?,a,hid]
 unfold viewAt;simp only[ZfJ,Zj9,d];show(Sem.getObj r _).run p w=_;rw[Sf a (by simp[hid])];rfl
def Z2N p ts t a y w(j:w.heap[a.block]?=J hid):∃h d,(Builtin.unsafeAdd_ ts t #[.pointer<|J a,y]).run p w=.halt h d/\bad h:=by
 have o:w.shape? a.block=U:=by simp[World.shape?,j,hid]
 have l:∀k n,∃h d,(Builtin.unsafeAdd_ ts t #[.pointer<|J a,.int k n]).run p w=.halt h d/\bad h:=λk n=>by
  have e:Builtin.unsafeAdd_ ts t #[.pointer<|J a,.int k n]=(if n=0 then(do
     if(<-viewAt a.block).isSome then unsupported _
     return .pointer _)else do
    if n<0 then unsupported _
    let J (e,cells)<-shape a.block|unsupported _
    let p<-program
    match cellAtBytes p p.depth e _ a.off n with
    |some off=>pure<|.pointer<|J {a with off}
    |none=>unsupported _):=rfl
  rw[e];by_cases f:n=0;rw[Zfc f];simp only[ZfJ,Z83 j];exact⟨_,_,rfl,trivial⟩;rw[Zf7 f];by_cases g:n<0;rw[Zfc g];exact⟨_,w,rfl,trivial⟩;rw[Zf7 g];simp only[ZfJ,Zj9,o];exact⟨_,_,rfl,trivial⟩
 cases y with
 |int k n=>exact l k n
 |pointer q=>cases q<;>exact⟨_,w,rfl,trivial⟩
 |_=>exact⟨_,w,rfl,trivial⟩
theorem Z2X a l:X.Img X.Rv V (asNumber a l)<|asNumber (ZP X.ρ a) l:=by
 have h:X.Img (λa b=>b=X.ρ a) V _ _:=.new (o:=.number a l) trivial Z1 λr=>.pure rfl;refine .bind h ?_;rintro d r _-rfl;exact .pure (by simp[Cx.Rv,ZP])
def Z3L l u:X.Img X.Rv V (match u with|.pointer (J b)=>asNumber b l|v=>pure v) (match Zt X.ρ u with|.pointer (J b)=>asNumber b l|v=>pure v):=by
 cases u with
 |pointer q=>
  obtain _|b:=q;rw[Un];exact .pure (Un _).symm;grind [Wy,Z2X]
 |slice q n c=>cases q<;>(simp[Zt];exact .pure Zel)
 |map q=>cases q<;>(simp[Zt];exact .pure Zel)
 |chan q=>cases q<;>(simp[Zt];exact .pure Zel)
 |_=>simp[Zt];exact .pure Zel
def AC t p y:X.Img X.Rv V (movedNumber t (.pointer p) y)<|movedNumber t (Zt X.ρ<|.pointer p)<|Zt X.ρ y:=by
 refine .bind (XP t) ?_;rintro f d _- ⟨rfl,h⟩
 have key:X.Img X.Rv f (match(generalizing:=false) (Value.pointer p)with
   | .pointer (J n)=>(do
     let(a,YL)<-behindNumber n
     match<-Builtin.unsafeAdd_ #[] t #[.pointer<|J a,y]with
     |.pointer (J b)=>asNumber b YL
     |v=>pure v:Sem Value)
   |_=>Builtin.unsafeAdd_ #[] t #[.pointer p,y]) (match(generalizing:=false) Zt X.ρ (Value.pointer p)with
   | .pointer (J n)=>(do
     let(a,YL)<-behindNumber n
     match<-Builtin.unsafeAdd_ #[] t #[.pointer<|J a,Zt X.ρ y]with
     |.pointer (J b)=>asNumber b YL
     |v=>pure v:Sem Value)
   |_=>Builtin.unsafeAdd_ #[] t #[Zt X.ρ<|.pointer p,Zt X.ρ y]):=by
  obtain _|n:=p;rw[Un];exact H4 #[] t U y;rw[Wy];refine GB (λw g=> ?_) λV a l=> ?_;let⟨h,o,e,k⟩:=Z2N X.Q #[] t n y w g;simp_all;refine .bind (H4 #[] t _ y) ?_;rintro j v _-rfl;exact Z3L l v
 cases d<;>first|exact key|exact X8 Z1 _
def EX{α β p s}{f:α->Sem β}{w h w'}(e:s.run p w=.halt h w')(a:bad h):∃h w',(s>>=f).run p w=.halt h w'/\bad h:=
 ⟨h,w',Ze3,a⟩
def EZ(l:X.Q.globals=#[]){α}a b(f:Addr->Addr->Sem α)(k:∀a b w,∃h d,(f a b).run X.Q w=.halt h d/\bad h)w:
  ∃h d,(do f (<-behindNumber a).1 (<-behindNumber b).1:Sem α).run X.Q w=.halt h d/\bad h:=by
 simp only[ZfJ];obtain⟨q,h⟩|⟨g,h⟩:=qo X.Q a w;rw[h];simp only[ZfH];obtain⟨n,j⟩|⟨g,j⟩:=qo X.Q b w;simp_all;rw[j];exact⟨_,_,rfl,trivial⟩;rw[h];exact⟨_,_,rfl,trivial⟩
def EY(d:X.Q.globals=#[])a b w:∃h f,(Op.twoPlaces a b).run X.Q w=.halt h f/\bad h:=by
 unfold Op.twoPlaces;simp only[ZfJ,Zh7,ZfH,d];rw[Zfc Z1];exact⟨_,_,rfl,trivial⟩
def Z16(g:X.Q.globals=#[])k a b w:∃h d,(Op.addrSub k a b).run X.Q w=.halt h d/\bad h:=by
 let⟨h,d,e,f⟩:=EY g a b w;exact EX e f
def Z15(g:X.Q.globals=#[])op a b w:∃h d,(Op.addrCmp op a b).run X.Q w=.halt h d/\bad h:=by
 let⟨h,d,e,f⟩:=EY g a b w;exact EX e f
def At a:X.Img Eq V (byteOf a)<|byteOf<|ZP X.ρ a:=by
 unfold byteOf;cases d:a.spot with
 |some s=>
  simp[ZP,d];exact .pure rfl
 |none=>
  simp[ZP,d];refine .bind WC ?_;rintro f _ _- ⟨rfl,rfl⟩;refine .bind (H5 (λx w=>⟨_,w,rfl,trivial⟩) λV=>.pure rfl) ?_;rintro g _ _- -;refine AH (λw=>⟨_,w,rfl,trivial⟩) λx=> ?_;let⟨e,c⟩:=x;dsimp only;rw[LH,LG,je,show X.P.depth=X.Q.depth from rfl];split;exact .pure rfl;cases byteOfCell X.Q X.Q.depth e _ with
  |none=>exact Zz _ _
  |some b=>exact .pure rfl
def Z17 k a n w(f:w.heap[a.block]?=J hid):∃h g,(Op.addrMod k a n).run X.Q w=.halt h g/\bad h:=by
 have d:w.shape? a.block=U:=by simp[World.shape?,f,hid]
 unfold Op.addrMod;simp only[ZfJ,Zj9,d];exact⟨_,_,rfl,trivial⟩
def Z3J k a n:X.Img X.Rv V (Op.addrMod k a n)<|Op.addrMod k (ZP X.ρ a) n:=by
 refine AH (λw=>⟨_,w,rfl,trivial⟩) λx=> ?_;let⟨e,c⟩:=x;dsimp only;refine .bind (VE e) ?_;rintro d i _-rfl;split;exact X8 Z1 _;refine .bind (At a) ?_;rintro f b _-rfl;exact .pure ZeI
def AB k a n:X.Img X.Rv V (do Op.addrMod k (<-behindNumber a).1 n) (do Op.addrMod k (<-behindNumber (ZP X.ρ a)).1 n):=
 GB (k:=λq=>Op.addrMod k q.1 n) (k':=λq=>Op.addrMod k q.1 n) (λw d=>Z17 k a n w d) λV a l=>Z3J k a n
def QQ op k x y:X.Img Eq V (Op.Complex.arith op k x y)<|Op.Complex.arith op k x y:=by
 refine .bind (GJ op k x y) ?_;rintro a v _-rfl;cases v<;>first|exact Zz _ _|skip
 simp[Zt];exact .pure rfl
def Au op k x y:X.Img Eq V (Op.Complex.cmp op k x y)<|Op.Complex.cmp op k x y:=by
 refine .bind (GK op k x y) ?_;rintro a v _-rfl;exact As v
def Z3a s x d:X.Img Eq V (Op.Complex.conv s x d)<|Op.Complex.conv s x d:=by
 unfold Op.Complex.conv;split;exact .pure rfl
 .have:X.Img X.Rv V (Conv.floatToFloat s x d)<|Conv.floatToFloat s x d:=by
   unfold Conv.floatToFloat;repeat' first
    |exact .pure (by simp[Cx.Rv,Zt])
    |(refine .bind (Ue _) ?_;rintro _ _ _-rfl)
    |split
    |dsimp only
  refine .bind this ?_;rintro a v _-rfl;cases v<;>first|exact Zz _ _|skip
  simp[Zt];exact .pure rfl
open Go.Op.Complex in
def L7(a b c d e f:Nat):Sem<|Nat×Nat:=do
 let zero:=(<-cmp .eql .f64 c 0)&&(<-cmp .eql .f64 d 0)
 if !(isNaN e&&isNaN f)then pure (e,f)
 else if zero&&(!isNaN a|| !isNaN b)then
  pure (<-mul (copysign inf c) a,<-mul (copysign inf c) b)
 else if(isInf a||isInf b)&&isFinite c&&isFinite d then
  corrected inf (inf2one a) (inf2one b) c d
 else if(isInf c||isInf d)&&isFinite a&&isFinite b then
  corrected 0 a b (inf2one c) (inf2one d)
 else pure (e,f)
open Go.Op.Complex in
def Z6V(a b c d:Nat):quotient a b c d=(do
  if<-cmp .geq .f64 (abs c) (abs d)then do
   let f<-quo d c
   let g<-add c (<-mul f d)
   L7 a b c d (<-quo (<-add a (<-mul b f)) g) (<-quo (<-sub b (<-mul a f)) g)
  else do
   let f<-quo c d
   let g<-add d (<-mul f c)
   L7 a b c d (<-quo (<-add (<-mul a f) b) g) (<-quo (<-sub (<-mul b f) a) g)):=rfl
def Z3f op k a b c d:X.Img X.Rv V (Op.complexOp op k a b c d)<|Op.complexOp op k a b c d:=by
 have j:∀V a b c d,X.Img Eq V (Op.Complex.product a b c d)<|Op.Complex.product a b c d:=λV a b c d=>by
  unfold Op.Complex.product Op.Complex.sub Op.Complex.mul Op.Complex.add;repeat' first
   |exact .pure rfl
   |(refine .bind (QQ _ _ _ _) ?_;rintro _ _ _-rfl)
 have n:∀V s a b c d,X.Img Eq V (Op.Complex.corrected s a b c d)<|Op.Complex.corrected s a b c d:=λV s a b c d=>by
  unfold Op.Complex.corrected Op.Complex.sub Op.Complex.mul Op.Complex.add;repeat' first
   |exact .pure rfl
   |(refine .bind (QQ _ _ _ _) ?_;rintro _ _ _-rfl)
 have h:∀V a b c d e f,X.Img Eq V (L7 a b c d e f)<|L7 a b c d e f:=λV a b c d e f=>by
  unfold L7 Op.Complex.mul;refine .bind (Au _ _ _ _) ?_;rintro g z _-rfl;refine .bind (Au _ _ _ _) ?_;rintro g o _-rfl;dsimp only;split;exact .pure rfl;split;refine .bind (QQ _ _ _ _) ?_;rintro g z _-rfl;refine .bind (QQ _ _ _ _) ?_;rintro g z _-rfl;exact .pure rfl;split;simp_all;split;simp_all;exact .pure rfl
 have l:∀V a b c d,X.Img Eq V (Op.Complex.quotient a b c d)<|Op.Complex.quotient a b c d:=λV a b c d=>by
  rw[Z6V];unfold Op.Complex.quo Op.Complex.sub Op.Complex.mul Op.Complex.add;refine .bind (Au _ _ _ _) ?_;rintro g z _-rfl;split;all_goals
   repeat' first
    |exact h _ _ _ _ _ _ _
    |(refine .bind (QQ _ _ _ _) ?_;rintro _ _ _-rfl)
 unfold Op.complexOp;cases op<;>first|exact Zz _ _|skip
 all_goals
  repeat' first
   |exact .pure (by simp[Cx.Rv,Zt])
   |(refine .bind (QQ _ _ _ _) ?_;rintro _ _ _-rfl)
   |(refine .bind _ ?_;rintro _ _ _-rfl)
   |(refine .bind (Z3a _ _ _) ?_;rintro _ _ _-rfl)
   |(refine .bind (j _ _ _ _ _) ?_;rintro _ ⟨_,_⟩ _-rfl)
   |(refine .bind (l _ _ _ _ _) ?_;rintro _ ⟨_,_⟩ _-rfl)
end
end
section
def vs:Value->Nat
 |.int .. =>0
 |.float .. =>1
 |.complex .. =>2
 |.string _=>3
 |.pointer _=>4
 |_=>5
def De ρ v:vs (Zt ρ v)=vs v:=by
 cases v with
 |pointer q=>cases q<;>simp[vs]
 |slice q n c=>cases q<;>simp[Zt,vs]
 |map q=>cases q<;>simp[Zt,vs]
 |chan q=>cases q<;>simp[Zt,vs]
 |_=>simp[Zt,vs]
def sc(x y:Zc):Prop:=vs x=vs y/\vs x<4
def LT{t x y}(h:¬sc x y):binOp .eql t x y=(do pure (.bool<|<-Op.equal t x y):Sem Value):=by
 cases x<;>cases y<;>first|rfl|exact absurd ⟨rfl,Zhz rfl⟩ h
def LU{t x y}(h:¬sc x y):binOp .neq t x y=(do pure (.bool<|!(<-Op.equal t x y)):Sem Value):=by
 cases x<;>cases y<;>first|rfl|exact absurd ⟨rfl,Zhz rfl⟩ h
def gs:Value->Nat
 |.nilIface=>0
 |.agg _=>1
 |_=>2
theorem Gm ρ v:gs (Zt ρ v)=gs v:=by
 cases v with
 |pointer q=>cases q<;>simp[gs]
 |slice q n c=>cases q<;>simp[Zt,gs]
 |map q=>cases q<;>simp[Zt,gs]
 |chan q=>cases q<;>simp[Zt,gs]
 |_=>simp[Zt,gs]
def zD op t x y a b(h:¬(gs a=gs b/\gs a<2)):eqGuard op t x y a b=pure ():=by
 unfold eqGuard;generalize (!match op with|.eql=>xk|.neq=>xk|_=>xw)=g;cases g;simp;cases a<;>cases b<;>first|rfl|exact absurd ⟨rfl,Zhz rfl⟩ h
 rfl
section
variable {X:Cx}{V:Zb}
def TP{s}a(h:s=unsupported .addressObserved):X.Img X.Rv V s a:=by
 simp_all[X8]
def Z2Z t p y(f:X.Q.underlying t≠J .unsafePointer):X.Img X.Rv V (do if(<-underlying t) matches .unsafePointer then movedPointer t (.pointer p) y else movedNumber t (.pointer p) y)
  (do if(<-underlying t) matches .unsafePointer then movedPointer t (Zt X.ρ<|.pointer p) (Zt X.ρ y)else movedNumber t (Zt X.ρ<|.pointer p)<|Zt X.ρ y):=by
 refine .bind (XP t) ?_;rintro a d _- ⟨rfl,h⟩;simp_all[AC]
def Z34 op t p k n(d:op≠.eql/\op≠.neq)(h:X.Q.underlying t≠J .unsafePointer):
  X.Img X.Rv V (binOp op t (.pointer p)<|.int k n) (binOp op t (Zt X.ρ<|.pointer p)<|.int k n):=by
 have f:=Z2Z (X:=X) (V:=V) t p (.int k n) h;have g:=AC (X:=X) (V:=V) t p<|.int k<|-n;rw[XV]at f g;obtain _|a:=p;rw[Un]at*;cases op<;>first|exact absurd rfl d.1|exact absurd rfl d.2|exact TP _ rfl|exact f|exact g
 rw[Wy]at*;cases op<;>first|exact absurd rfl d.1|exact absurd rfl d.2|exact TP _ rfl|exact f|exact g|exact AB k a n|exact AB k a _
def Z31 op t p k n(d:op≠.eql/\op≠.neq)(g:X.Q.underlying t≠J .unsafePointer):
  X.Img X.Rv V (binOp op t (.int k n)<|.pointer p) (binOp op t (.int k n)<|Zt X.ρ<|.pointer p):=by
 have f:=AC (X:=X) (V:=V) t p<|.int k n;rw[XV]at f;obtain _|a:=p;rw[Un]at*;cases op<;>first|exact absurd rfl d.1|exact absurd rfl d.2|exact TP _ rfl|exact f
 rw[Wy]at*;cases op<;>first|exact absurd rfl d.1|exact absurd rfl d.2|exact TP _ rfl|exact f|exact AB k a _
def Z35(f:X.Q.globals=#[])op t p q(d:op≠.eql/\op≠.neq)g:X.Img X.Rv V (binOp op t (.pointer p)<|.pointer q) g:=by
 obtain _|a:=p;cases q<;>cases op<;>first|exact absurd rfl d.1|exact absurd rfl d.2|exact TP _ rfl
 obtain _|b:=q;cases op<;>first|exact absurd rfl d.1|exact absurd rfl d.2|exact TP _ rfl
 cases op<;>first|exact absurd rfl d.1|exact absurd rfl d.2|exact TP _ rfl|exact .li _ (EZ f a b _<|Z16 f _)|exact .li _<|EZ f a b _<|Z15 f _
def Z1h op t p y(a:op≠.eql/\op≠.neq)(d:vs y≠0/\vs y≠4):binOp op t (.pointer p) y=unsupported .addressObserved:=by
 cases y<;>first
  |exact absurd rfl d.1
  |exact absurd rfl d.2
  |(cases p<;>cases op<;>first|rfl|exact absurd rfl a.1|exact absurd rfl a.2)
def Z1g op t p y(a:op≠.eql/\op≠.neq)(d:vs y≠0/\vs y≠4):binOp op t y (.pointer p)=unsupported .addressObserved:=by
 cases y<;>first
  |exact absurd rfl d.1
  |exact absurd rfl d.2
  |(cases p<;>cases op<;>first|rfl|exact absurd rfl a.1|exact absurd rfl a.2)
def Z1f op t x y(a:op≠.eql/\op≠.neq)(hx:vs x≠4)(d:vs y≠4)(h:¬sc x y):binOp op t x y=stuck "BinOp: no such operator on these operands" :=by
 cases x<;>first
  |exact absurd rfl hx
  | (cases y<;>first
    |exact absurd rfl d
    |exact absurd ⟨rfl,Zhz rfl⟩ h
    |(cases op<;>first|rfl|exact absurd rfl a.1|exact absurd rfl a.2))
def Dd{v}(h:vs v=4):∃p,v=.pointer p:=by cases v<;>first|exact⟨_,rfl⟩|cases h
def OM{v}(h:vs v=0):∃k n,v=.int k n:=by cases v<;>first|exact⟨_,_,rfl⟩|cases h
def Z30(o:X.Q.globals=#[])op t x y(g:op≠.eql/\op≠.neq)(l:X.Q.underlying t≠J .unsafePointer)(h:¬sc x y):X.Img X.Rv V (binOp op t x y)<|binOp op t (Zt X.ρ x)<|Zt X.ρ y:=by
 by_cases j:vs x=4;obtain⟨p,rfl⟩:=Dd j;by_cases d:vs y=4;obtain⟨q,rfl⟩:=Dd d;simp_all[Z35];by_cases f:vs y=0;obtain⟨k,n,rfl⟩:=OM f;simp_all[XV,Z34];simp_all[TP,Z1h];by_cases d:vs y=4;obtain⟨q,rfl⟩:=Dd d;by_cases a:vs x=0;obtain⟨k,n,rfl⟩:=OM a;simp_all[XV,Z31];simp_all[TP,Z1g];simp_all[Z1f,Zz]
def Z36 op t x y(h:sc x y):X.Img X.Rv V (binOp op t x y)<|binOp op t (Zt X.ρ x)<|Zt X.ρ y:=by
 let⟨j,l⟩:=h;cases x<;>first|exact absurd l (Ziq rfl)|skip
 cases y<;>first|cases j|skip
 rename_i k a f b;rw[XV,XV];by_cases g:k=f;subst g;have e:∀s:Sem Value,(if k≠k then stuck "BinOp: operands of different kinds" else s)=s:=by simp
 cases op<;>first
  |(unfold binOp;dsimp only;exact H1 _ _ _ _ _)
  |(unfold binOp;dsimp only;rw[e];first|exact Gz _ _ _ _|exact Z3i _ _ _ _|exact GC _ _ _ _|exact Z3e _ _ _)
 have e:∀s:Sem Value,(if k≠f then stuck "BinOp: operands of different kinds" else s)=stuck "BinOp: operands of different kinds" :=by simp_all
 cases op<;>first
  |(unfold binOp;dsimp only;exact H1 _ _ _ _ _)
  |(unfold binOp;dsimp only;rw[e];exact Zz _ _)
 cases y<;>first|cases j|skip
 rename_i k a f b;simp[Zt];by_cases g:k=f;subst g;have e:∀s:Sem Value,(if k≠k then stuck "BinOp: operands of different kinds" else s)=s:=by simp
 cases op<;>(unfold binOp;dsimp only;rw[e];first|exact GJ _ _ _ _|exact GK _ _ _ _);have e:∀s:Sem Value,(if k≠f then stuck "BinOp: operands of different kinds" else s)=stuck "BinOp: operands of different kinds" :=by simp_all
 simp_all[binOp,Zz];cases y<;>first|cases j|skip
 rename_i k a b f c d;simp[Zt];by_cases g:k=f;subst g;have e:∀s:Sem Value,(if k≠k then stuck "BinOp: operands of different kinds" else s)=s:=by simp
 cases op<;>(unfold binOp;dsimp only;rw[e];exact Z3f _ _ _ _ _ _);have e:∀s:Sem Value,(if k≠f then stuck "BinOp: operands of different kinds" else s)=stuck "BinOp: operands of different kinds" :=by simp_all
 simp_all[binOp,Zz];cases y<;>first|cases j|skip
 simp_all[Sa,binOp,H2]
def Z3o n t x y(a:X.Q.underlying t=J .bool):X.Img Eq V (Op.equalIn (n+1) t x y)<|Op.equalIn (n+1) t (Zt X.ρ x)<|Zt X.ρ y:=by
 refine .bind (XP t) ?_;rintro f d _- ⟨rfl,h⟩;rw[a]at h;cases h;cases x<;>cases y<;>first|exact Zz _ _|(rw[U3,U3];exact .pure rfl)
def Cx.ku(X:Cx)(t:Zf):Prop:=(∃k,X.IntT t k)\/X.Q.underlying t=J .bool
def GI(g:X.Q.globals=#[])t x y(a:X.ku t):X.Img Eq V (Op.equal t x y)<|Op.equal t (Zt X.ρ x)<|Zt X.ρ y:=by
 obtain⟨k,a⟩|a:=a;have h:=GF (X:=X) (V:=V) 9999 t x y a.d g a.n;have f:X.Img Eq V (Op.equal t x y>>=λb=>pure b) (Op.equal t (Zt X.ρ x) (Zt X.ρ y)>>=λb=>pure b):=by
  refine .bind h ?_;rintro j b _- ⟨rfl,-⟩;exact .pure rfl
 simpa using f;exact Z3o 9999 t x y a
def Z33(g:X.Q.globals=#[])op t x y(a:X.ku t):X.Img X.Rv V (binOp op t x y)<|binOp op t (Zt X.ρ x)<|Zt X.ρ y:=by
 have o:X.Q.underlying t≠J .unsafePointer:=by
  obtain⟨k,a⟩|a:=a;rw[a.d];simp;grind
 by_cases h:sc x y;simp_all[Z36];have f:¬sc (Zt X.ρ x) (Zt X.ρ y):=by unfold sc at*;rwa[De,De]
 by_cases l:op=.eql;subst l;rw[LT h,LT f];refine .bind (GI g t x y a) ?_;rintro j b _-rfl;exact .pure ZeI;by_cases n:op=.neq;subst n;rw[LU h,LU f];refine .bind (GI g t x y a) ?_;rintro j b _-rfl;exact .pure ZeI;simp_all[Z30]
def yo:TypeDesc->Value->Bool
 |.pointer _,.pointer U=>xk
 |.interface _,.nilIface=>xk
 |.slice _,.slice U _ _=>xk
 |.map _ _,.map U=>xk
 |.func _ _ _,.nilFunc=>xk
 |_,_=>xw
def If ρ{d y}(h:yo d y=xk):Zt ρ y=y/\vs y≥4:=by
 cases y with
 |pointer q=>cases q<;>first|(cases d<;>cases h;done)|simp_all[vs]
 |slice q n c=>cases q<;>first|(cases d<;>cases h;done)|simp_all[Zt,vs]
 |map q=>cases q<;>first|(cases d<;>cases h;done)|simp_all[Zt,vs]
 |nilFunc=>simp_all[vs]
 |nilIface=>simp_all[vs]
 |_=>cases d<;>cases h
def GG t x y{d}(f:X.Q.underlying t=J d)(a:yo d y=xk):X.Img Eq V (Op.equal t x y)<|Op.equal t (Zt X.ρ x) y:=by
 refine .bind (XP t) ?_;rintro g k _- ⟨rfl,h⟩;rw[f]at h;cases h;cases d<;>first|(cases y<;>cases a;done)|skip
 all_goals
  cases y<;>first|(cases a;done)|skip
 .rename_i q;cases q<;>first|(cases a;done)|skip
  cases x<;>first|exact Zz _ _|skip
  rename_i p;cases p<;>(simp;exact .pure rfl)
 .rename_i q n c;cases q<;>first|(cases a;done)|skip
  cases x<;>first|exact Zz _ _|skip
  rename_i p l j;cases p<;>(simp[Zt];exact .pure rfl)
 .rename_i q;cases q<;>first|(cases a;done)|skip
  cases x<;>first|exact Zz _ _|skip
  rename_i p;cases p<;>(simp[Zt];exact .pure rfl)
 cases x<;>first|exact Zz _ _|(simp[Zt];exact .pure rfl)
 cases x<;>first|exact Zz _ _|(simp;exact .pure rfl)
def Z32 op(a:op=.eql\/op=.neq)t x y{d}(j:X.Q.underlying t=J d)(f:yo d y=xk):X.Img X.Rv V (binOp op t x y)<|binOp op t (Zt X.ρ x) y:=by
 let⟨_,l⟩:=If X.ρ f;have h:¬sc x y:=λh=>by have:=h.1;have:=h.2;omega
 have g:¬sc (Zt X.ρ x) y:=by unfold sc at*;rwa[De]
 obtain rfl|rfl:=a;rw[LT h,LT g];refine .bind (GG t x y j f) ?_;rintro k b _-rfl;exact .pure ZeI;rw[LU h,LU g];refine .bind (GG t x y j f) ?_;rintro k b _-rfl;exact .pure ZeI
def Z3v op t x y a b(f:X.ku t):X.Img Eq V (eqGuard op t x y a b)<|eqGuard op t x y (Zt X.ρ a)<|Zt X.ρ b:=by
 have n:X.Q.eqGuardType X.Q.depth t=xw/\X.P.eqGuardType X.P.depth t=xw:=by
  have e:X.Q.depth=(X.Q.depth-1)+1:=by simp[Program.depth]
  have o:X.P.depth=(X.Q.depth-1)+1:=e;rw[o,e];unfold Program.eqGuardType;rw[X.cx];obtain⟨k,f⟩|f:=f;rw[f.d];simp;rw[f];simp
 have q:∀V,X.Img (λa b=>a=b/\a=xw) V (Op.eqGuardIn Op.maxDepth t .nilIface .nilIface)<|Op.eqGuardIn Op.maxDepth t .nilIface .nilIface:=λV=>by
  refine .bind (XP t) ?_;rintro j u _- ⟨rfl,h⟩;obtain⟨k,f⟩|f:=f;rw[f.d]at h;cases h;exact .pure ⟨rfl,rfl⟩;rw[f]at h;cases h;exact .pure ⟨rfl,rfl⟩
 by_cases h:gs a=gs b/\gs a<2
 .let⟨l,p⟩:=h;cases a<;>first|exact absurd p (Ziq rfl)|skip
  .cases b<;>first|cases l|skip
   unfold eqGuard;generalize (!match op with|.eql=>xk|.neq=>xk|_=>xw)=g;cases g
   .simp;repeat' first
     |exact .pure rfl
     |(refine .bind (q V) ?_;rintro j b _- ⟨rfl,rfl⟩;exact .pure rfl)
     |split
   exact .pure rfl
  cases b<;>first|cases l|skip
  rw[Wr,Wr];unfold eqGuard;generalize (!match op with|.eql=>xk|.neq=>xk|_=>xw)=g;cases g;simp;refine .bind WC ?_;rintro j _ _- ⟨rfl,rfl⟩;refine .bind WC ?_;rintro r _ _- ⟨rfl,rfl⟩;rw[n.1,n.2];exact .pure rfl;exact .pure rfl
 rw[zD op t x y a b h,zD op t x y _ _ (by grind [Gm])];exact .pure rfl
def Z3u op t x c a b(j:gs b≠1):X.Img Eq V (eqGuard op t x (.const c) a b)<|eqGuard op t x (.const c) (Zt X.ρ a) b:=by
 by_cases h:gs a=gs b/\gs a<2;let⟨d,f⟩:=h;cases a<;>first|exact absurd f (Ziq rfl)|exact absurd d.symm j|skip
 cases b<;>first|cases d|skip
 unfold eqGuard;generalize (!match op with|.eql=>xk|.neq=>xk|_=>xw)=g;cases g;simp;exact .pure rfl;exact .pure rfl;rw[zD op t x _ a b h,zD op t x _ _ _ (by rwa[Gm])];exact .pure rfl
end
end
section
def Jh(ρ:Zj):Place->Place
 |.val v=>.val<|Zt ρ v
 |.var a=>.var<|ZP ρ a
section
variable {X:Cx}{V:Zb}
def zL(t:Zf)(x:Place):X.Img X.Rv V (x.get t)<|(Jh X.ρ x).get t:=by
 cases x with
 |val v=>exact .pure rfl
 |var a=>exact Km t a
def Z3P(a:Addr)(c b:Nat):X.Img (λa b=>b=ZP X.ρ a) V (partAt a c b)<|partAt (ZP X.ρ a) c b:=by
 unfold partAt;refine .bind (At a) ?_;rintro d n _-rfl;dsimp only;have h:=At (X:=X) (V:=d) {block:=a.block,off:=a.off+c,spot:=U};refine .bind h ?_;rintro f m _-rfl;refine .pure ?_;split<;>rfl
def Ay(a:Addr)(f:Field):X.Img (λa b=>b=ZP X.ρ a) V (fieldPlace a f)<|fieldPlace (ZP X.ρ a) f:=by
 unfold fieldPlace;refine .bind (VD _) ?_;rintro d n _-rfl;split;exact Z3P _ _ _;rw[Q9];exact .pure rfl
def Kk:∀(l:List FieldStep) (V:Zb) (t:Zf) (x:Place),X.Img (λa b=>b=(a.1,Jh X.ρ a.2)) V (follow l t x) (follow l t<|Jh X.ρ x)
 | [],V,t,x=>.pure rfl
 |s::g,V,t,x=>by
  unfold follow;refine .bind (V5 _) ?_;rintro n d _-rfl;cases d<;>first|exact Zz _ _|skip
  rename_i h;dsimp only;cases h[s.index]? with
  |none=>exact Zz _ _
  |some f=>
   dsimp only;split;refine .bind (zL t x) ?_;rintro o v _-rfl;refine .bind (Ar v) ?_;rintro p a _-rfl;refine .bind (Ay a f) ?_;rintro j b _-rfl;exact Kk g j f.type<|.var b;cases x with
   |var a=>
    refine .bind (Ay a f) ?_;rintro j b _-rfl;exact Kk g j f.type<|.var b
   |val v=>
    cases v<;>first|exact Zz _ _|skip
    rename_i k;simp only[Jh,Wr];refine .bind (zO f.type k f.offset) ?_;rintro j b _-rfl;exact Kk g j f.type<|.val b
def Z40(ts:Array TypeId)(t:Zf)(v:Zc)(a b:ByteArray):X.Img X.Rv V (Builtin.ssaWrapNilChk_ ts t #[v,.string a,.string b])<|Builtin.ssaWrapNilChk_ ts t #[Zt X.ρ v,.string a,.string b]:=by
 unfold Builtin.ssaWrapNilChk_;dsimp only;cases v<;>first|exact Zz _ _|skip
 rename_i p;cases p with
 |some p=>rw[Wy];exact .pure (Wy _ _).symm
 |none=>
  rw[Un];refine .bind (Ue _) ?_;rintro f n _-rfl;split;exact TO;cases ts[0]? with
  |none=>exact Zz _ _
  |some pt=>
   dsimp only;refine .bind (V5 _) ?_;rintro g d _-rfl;cases d<;>first|exact Zz _ _|skip
   dsimp only;refine .bind (VE _) ?_;rintro h i _-rfl;grind [Zz,String.fromUTF8?,AF,X8]
def GY(f:Zf)(x:Place)(b:Bool)(o:Option String):X.Img X.Rv V (receiverAt f x b o)<|receiverAt f (Jh X.ρ x) b o:=by
 unfold receiverAt;refine .bind (V5 _) ?_;rintro g d _-rfl
 have ptr:∀(V:Zb) (elem:Zf),X.Img X.Rv V (do
   let ptr<-x.get f
   let ptr<-match o with
    |some name=>Builtin.ssaWrapNilChk_ #[f] f #[ptr,strVal "",strVal name]
    |none=>pure ptr
   loadVar elem (<-asAddr ptr)) (do
   let ptr<-(Jh X.ρ x).get f
   let ptr<-match o with
    |some name=>Builtin.ssaWrapNilChk_ #[f] f #[ptr,strVal "",strVal name]
    |none=>pure ptr
   loadVar elem (<-asAddr ptr)):=λV elem=>by
  refine .bind (zL f x) ?_;rintro h v _-rfl;have last:∀V u,X.Img X.Rv V (do loadVar elem (<-asAddr u)) (do loadVar elem (<-asAddr (Zt X.ρ u))):=λV u=>by
   refine .bind (Ar u) ?_;rintro k a _-rfl;exact Km _ _
  obtain _|name:=o;simp_all;refine .bind (Z40 _ _ _ _ _) ?_;rintro j u _-rfl;simp_all
 cases b with
 |true=>
  cases x with
  |val v=>cases d<;>first|exact .pure rfl|exact Zz _ _
  |var a=>cases d<;>first|exact Km _ _|exact .pure (Wy _ _).symm
 |false=>
  cases d<;>first|exact ptr g _|skip
  all_goals cases x<;>exact zL f _
def Z3Q(t:Zf)(v:Zc)(a:Array FieldStep)(b:Bool):X.Img X.Rv V (receiverVia t v a b)<|receiverVia t (Zt X.ρ v) a b:=by
 unfold receiverVia;refine .bind (Kk a.toList V t<|.val v) ?_;rintro d ⟨f,x⟩ _-rfl;exact GY _ _ _ _
def GT:∀(n:Nat) (V:Zb) (t:Zf) (v:Zc) (name:String),X.Img (λa b=>b=(a.1,Zt X.ρ a.2)) V (method n t v name) (method n t (Zt X.ρ v) name)
 |0,V,t,v,name=>X8 (λ_ h=>Zei) _
 |n+1,V,t,v,name=>by
  unfold method;refine .bind (VE t) ?_;rintro j i _-rfl;cases i.methods.find? (·.name==name)with
  |none=>exact Zz _ _
  |some m=>
   dsimp only;refine .bind (Kk m.path.toList j t<|.val v) ?_;rintro l ⟨g,x⟩ _-rfl;dsimp only;cases m.func with
   |none=>
    dsimp only;refine .bind (zL g x) ?_;rintro d u _-rfl;cases u<;>first|exact Zz _ _|skip
    rw[S8];exact GT n d _ _ _;rw[S9];exact TO
   |some k=>
    obtain⟨f,b⟩:=k;dsimp only;refine .bind (GY g x b _) ?_;rintro d u _-rfl;exact .pure rfl
def Np(ρ:Zj):Except (Option Bool) (TypeId×Option Value)->Except (Option Bool) (TypeId×Option Value)
 |.ok p=>.ok (p.1,p.2.map<|Zt ρ)
 |.error e=>.error e
def zK:∀(l:List FieldStep) (V:Zb) (t:Zf) (x:Option Value),X.Img (λa b=>b=Np X.ρ a) V (followBlind l t x) (followBlind l t<|x.map<|Zt X.ρ)
 | [],V,t,x=>.pure rfl
 |s::g,V,t,x=>by
  unfold followBlind;refine .bind (V5 _) ?_;rintro j d _-rfl;cases d<;>first|exact Zz _ _|skip
  rename_i h;dsimp only;cases h[s.index]? with
  |none=>exact Zz _ _
  |some f=>
   dsimp only;cases s.deref;obtain _|v:=x;exact zK g j f.type U;cases v<;>first|exact Zz _ _|skip
   rename_i n;simp only[Zfm,Wr];refine .bind (zO f.type n f.offset) ?_;rintro k b _-rfl;exact zK g k f.type<|J b;obtain _|v:=x;exact .pure rfl;cases v<;>first|exact Zz _ _|skip
   rename_i p;obtain _|a:=p;simp only[Zfm,Un];exact .pure rfl;simp only[Zfm,Wy];exact zK g j f.type U
def GV:∀(n:Nat) (V:Zb) (t:Zf) (v:Zc) (name:String),X.Img Eq V (nilAhead n t v name) (nilAhead n t (Zt X.ρ v) name)
 |0,V,t,v,name=>.pure rfl
 |n+1,V,t,v,name=>by
  unfold nilAhead;refine .bind (VE t) ?_;rintro a i _-rfl;cases i.methods.find? (·.name==name)with
  |none=>exact Zz _ _
  |some m=>
   dsimp only;refine .bind (zK m.path.toList a t<|J v) ?_;rintro h r _-rfl;cases r with
   |error e=>exact .pure rfl
   |ok p=>
    obtain⟨k,x⟩:=p;simp only[Np];cases m.func with
    |none=>
     obtain _|u:=x;exact .pure rfl;cases u<;>first|exact Zz _ _|skip
     simp_all[Zfm,S8,GV];simp only[Zfm,S9];exact .pure rfl
    |some g=>
     obtain⟨f,b⟩:=g;cases b;dsimp only;refine .bind (V5 _) ?_;rintro j d _-rfl;cases d<;>first|(cases x<;>exact .pure rfl)|skip
     obtain _|u:=x;exact .pure rfl;cases u with
     |pointer q=>cases q<;>(simp only[Zfm,Zt];exact .pure rfl)
     |slice q n c=>cases q<;>(simp only[Zfm,Zt];exact .pure rfl)
     |map q=>cases q<;>(simp only[Zfm,Zt];exact .pure rfl)
     |chan q=>cases q<;>(simp only[Zfm,Zt];exact .pure rfl)
     |_=>simp only[Zfm,Zt];exact .pure rfl
     exact .pure rfl
end
end
section
def ZS:Operand->Bool
 |.tmp _|.func _=>xk
 |.const v=>still 9 v
 |.global _=>xw
section
variable (Q:Z6)
def VX(t:Zf):Bool:=match Q.underlying t with|some (.int _)=>xk|_=>xw
def KE(t:Zf):Bool:=match Q.info? t with|some i=>(match i.desc with|.named n _=>n != "sync.copyChecker" |_=>xk)|none=>xk
def AM(t:Zf):Bool:=(VX Q t&&KE Q t)||(match Q.underlying t with|some .bool=>xk|_=>xw)
def QT(t:Zf):Bool:=match Q.underlying t with|some (.slice _)=>xk|_=>xw
def Kq(t:Zf):Bool:=match Q.underlying t with|some (.map a _)=>VX Q a&&KE Q a|_=>xw
def Iw(op:BinOp)(t:Zf)(y:Operand):Bool:=
 AM Q t||((match op with|.eql|.neq=>xk|_=>xw)&&(match y with|.const v=>(match Q.underlying t with|some d=>yo d v|none=>xw)|_=>xw))
def Gq(t:Zf):Bool:=match Q.underlying t with|some (.slice _)|some (.map ..)|some (.array ..)=>xk|_=>xw
def UK(r:Bool)(c:Call):Bool:=match c.callee with
 |.builtin .len=>c.args.size==1&&(match c.argTypes[0]? with|some t=>Gq Q t|none=>xw)
 |.builtin .append=>c.args.size==2&&(match c.argTypes[0]? with|some t=>QT Q t|none=>xw)&&(match c.argTypes[1]? with|some t=>QT Q t||VX Q t|none=>xw)
 |.builtin .recover=> !r
 |.builtin .close=>c.args.size==1
 |.builtin .min|.builtin .max=>xk
 |.builtin .copy=>c.args.size==2
 |.builtin .clear=>c.args.size==1&&(match c.argTypes[0]? with|some t=>QT Q t||Kq Q t|none=>xw)
 |.builtin _=>xw
 |.value f=>ZS f
 |.invoke x _=>ZS x
def XI(r:Bool):Op->Bool
 |.move x|.assign x|.box _ x|.load _ x|.nilCheck x|.makeInterface _ x|.panic x|.extract x _=>ZS x
 |.field _ x _|.fieldAddr _ x _=>ZS x
 |.pick a b c=>ZS a&&ZS b&&ZS c
 |.alloc _=>xk
 |.build _ j|.buildSlice _ _ j=>j.all λp=>ZS p.2
 |.store _ a v|.index _ a v|.indexAddr _ a v=>ZS a&&ZS v
 |.binOp op t x y _=>ZS x&&ZS y&&Iw Q op t y
 |.unOp _ _ x=>ZS x
 |.makeSlice _ l c=>ZS l&&ZS c
 |.convert s d x=>ZS x&&VX Q s&&VX Q d
 |.makeFunc fn a b=>(match fn with|.yield _=>xw|_=>xk)&&a.all ZS&&b.all ZS
 |.makeMap _ o=>o.all ZS
 |.slice t x l h m=>ZS x&&l.all ZS&&h.all ZS&&m.all ZS&&QT Q t
 |.lookup t x y _=>ZS x&&ZS y&&Kq Q t
 |.mapUpdate t x y z|.insert t x y z=>ZS x&&ZS y&&ZS z&&Kq Q t
 |.typeAssert x _ _ ok=>ZS x&&ok
 |.call c=>c.args.all ZS&&UK Q r c
 |.defer c=> !r&&c.args.all ZS&&(match c.callee with|.builtin _=>xw|.value f=>ZS f|.invoke x _=>ZS x)
 |.send g v=>ZS g&&ZS v
 |.recv _ g _=>ZS g
 |.go c=>c.args.all ZS&&(match c.callee with|.value (.func _)=>xk|_=>xw)
 |_=>xw
def qP:Op->Bool
 |.send .. |.recv .. |.go _=>xk
 |_=>xw
def YM:Bool->Code->Bool
 |r,.region _ d _=>d.all λo=>XI Q r o.op
 |r,.seq a b=>YM r a&&YM r b
 |r,.cond c a b=>ZS c&&YM r a&&YM r b
 |r,.block _ c|r,.loop c|r,.scope c=>YM r c
 |_,.rangeFunc f _ a b=>ZS f&&YM xk a&&YM xk b
 |_,_=>xk
end
def QS:Code->Bool
 |.ret|.exit _|.goto _=>xk
 |_=>xw
def U0(d:Deferred):Bool:=match d.target with
 |.builtin .. |.coroexit _=>xw
 |_=>xk
abbrev Zm:=FuncId
def Cx.re(X:Cx)(f:Zm):Prop:=∃fn c,X.Q.funcs[f]?=J fn/\X.fs[f]?=J fn/\fn.body=J c/\YM X.Q xw c=xk
def Cx.nu(X:Cx)(f:Zm):Prop:=X.re f\/(X.Q.funcs[f]?=U/\X.fs[f]?=U)\/∃fn a,X.Q.funcs[f]?=J fn/\X.fs[f]?=J a/\a.results=fn.results
structure Cx.Ok (X:Cx):Prop where
 zero:X.Zero
 nc:X.Q.globals=#[]
 kl:∀l,X.KL l↔(YM X.Q xk l.assign=xk/\YM X.Q xk l.body=xk/\l.pending.all QS=xk/\X.nu l.fn)
 kd:∀d,X.KD d↔U0 d=xk
 fn:∀(f:Zm) (fn:Func),X.Q.funcs[f]?=J fn->(fn.name= "?" /\fn.origin= "?" /\fn.body=U)\/((fn.name== "runtime.NumGoroutine")=xw/\X.fs[f]?=J fn/\∃c,fn.body=J c/\YM X.Q xw c=xk)
def Cx.NR(X:Cx)(rd:Bool):Next->Next->Prop
 |.value v,b=>b=.value (Zt X.ρ v)
 |.skip,b=>b=.skip
 |.enter f args,b=>b=.enter f (args.map<|Zt X.ρ)/\X.re f
 |.round l f g a c,b=>b=.round (X.ρ l) f (g.map<|Zt X.ρ) a c/\YM X.Q xk a=xk/\YM X.Q xk c=xk/\X.nu f
 |.defer d,b=>b=.defer (X1 X.ρ d)/\U0 d=xk
 |.recover,b=>b=.recover/\rd=xw
 |_,_=>False
theorem Z7F:Extern.allNextRows.lookup "?" =U:=by kernel_rfl
theorem Zdg:Extern.allGenericRows.lookup "?" =U:=by kernel_rfl
theorem Zdh:Extern.allTypedRows.lookup "?" =U:=by kernel_rfl
theorem Z7G:Extern.allRows.lookup "?" =U:=by kernel_rfl
section
variable {X:Cx}{V:Zb}{rd:Bool}
theorem Av(ok:X.Ok)f args:X.Img (X.NR rd) V (callFunc f args)<|callFunc f<|args.map<|Zt X.ρ:=by
 unfold callFunc;cases g:X.Q.funcs[f]? with
 |none=>
  refine .li _ λw=>⟨.stuck "call: no such function",w,?_,trivial⟩;simp only[ZfJ,Zh7,ZfH,g];rfl
 |some fn=>
  obtain⟨a,d,h⟩|⟨a,d,c,h,l⟩:=ok.fn f fn g;refine .li _ λw=>⟨.unsupported<|.extern fn.name,w,?_,trivial⟩;have j:Extern.findNext fn=U:=by unfold Extern.findNext;simp only[a,d,Z7F];rfl
  have k:Extern.find fn=U:=by unfold Extern.find;simp only[a,d,Z7G];rfl
  simp[g,a,h,j,k];rfl;refine .bind WC ?_;rintro n _ _- ⟨rfl,rfl⟩;rw[show X.P.funcs[f]?=J fn from d,g];simp[a,h,Option.isNone_some];exact .pure ⟨rfl,fn,c,g,d,h,l⟩
theorem zZ{α β:Type}(f:α->β)x:(#[x]:Array α).map f=#[f x]:=Z1
theorem Aw(ok:X.Ok)v name args:X.Img (X.NR rd) V (callMethod v name args)<|callMethod (Zt X.ρ v) name<|args.map<|Zt X.ρ:=by
 unfold callMethod;cases v<;>first|exact Zz _ _|skip
 rw[S8];refine .bind WC ?_;rintro d _ _- ⟨rfl,rfl⟩;refine .bind (GT _ _ _ _ _) ?_;rintro a ⟨f,u⟩ _-rfl;have:=Av (rd:=rd) (V:=a) ok f<|#[u]++args;simp_all;simp_all[S9,TO]
theorem Z3d ts t v:X.Img X.Rv V (Builtin.close_ ts t #[v])<|Builtin.close_ ts t #[Zt X.ρ v]:=by
 cases v<;>first|exact Zz _ _|skip
 rename_i r;obtain _|r:=r;rw[show Zt X.ρ _=.chan U by simp[Zt]];exact AF _;rw[show Zt X.ρ _=.chan (J<|X.ρ r)by simp[Zt]];refine .get (λw=>⟨_,w,rfl,trivial⟩) λo a=> ?_;cases o<;>first|exact Zz _ _|exact a.elim
theorem Pj ρ:∀(f:List Tmp) args (d:Za),
  (f.zip<|args.map<|Zt ρ).foldl (λd x=>d.setIfInBounds x.1 x.2) (d.map<|Zt ρ)=((f.zip args).foldl (λd x=>d.setIfInBounds x.1 x.2) d).map (Zt ρ)
 | [],_,_=>rfl
 |_::_,[],_=>rfl
 |p::f,a::args,d=>by
  simp;rw[map_set];exact Pj ρ f args _
theorem Kl{α β RA l}{f:Loop->Sem α}{a:Loop->Sem β}(h:∀r,X.KL r->X.Img RA (l::V) (f r) (a<|Lc X.ρ r)):X.Img RA V (Instr.getLoop l>>=f)<|Instr.getLoop (X.ρ l)>>=a:=by
 refine .get (λw=>⟨_,w,rfl,trivial⟩) λo d=> ?_;cases o<;>first|exact h _ d|exact Zz _ _
theorem Z41(ok:X.Ok)l args:X.Img (X.NR rd) V (Instr.yield l args)<|Instr.yield (X.ρ l)<|args.map<|Zt X.ρ:=by
 refine Kl λr g=> ?_;let⟨a,d,_,f⟩:=(ok.kl r).1 g;simp only[Zir,Lc];split;exact Zz _ _;refine .pure ⟨?_,a,d,f⟩;rw[<-Zho,<-Zho];simp_all[Pj]
theorem AA(ok:X.Ok)t args(k:U0 ⟨t,args⟩=xk):X.Img (X.NR rd) V (invoke t args)<|invoke (Ji X.ρ t)<|args.map<|Zt X.ρ:=by
 have a:(args.map<|Zt X.ρ).extract 1 (args.map<|Zt X.ρ).size=(args.extract 1 args.size).map (Zt X.ρ):=Z1;unfold invoke;cases t with
 |nil=>exact TO
 |builtin=>cases k
 |coroexit=>cases k
 |collected r=>exact Zz _ _
 |fn fn c=>
  cases fn with
  |func f=>
   have:=Av (rd:=rd) (V:=V) ok f<|args++c;rw[ZgX]at this;exact this
  |method name=>
   simp only[Zfz];rw[a];cases args[0]? with
   |none=>exact Zz _ _
   |some v=>exact Aw ok v name _
  |methodOf t name=>
   simp only[Zfz];rw[a];cases args[0]? with
   |none=>exact Zz _ _
   |some v=>
    refine .bind (V5 _) ?_;rintro h d _-rfl;have j:=Aw (rd:=rd) (V:=h) ok (.iface t v) name<|args.extract 1 args.size;rw[S8]at j;cases d<;>first|exact(Aw (rd:=rd) (V:=h) ok v name _)|exact j
  |via t g f b=>
   simp only[Zfz];rw[a];cases args[0]? with
   |none=>exact Zz _ _
   |some v=>
    refine .bind (Z3Q t v g b) ?_;rintro n u _-rfl;have:=Av (rd:=rd) (V:=n) ok f<|#[u]++args.extract 1;rw[ZgX,zZ]at this;exact this
  |yield l=>exact Z41 ok l args
theorem GW f args:X.Img (λa b=>b=X1 X.ρ a/\U0 a=xk) V (Deferred.ofValue f args)<|Deferred.ofValue (Zt X.ρ f)<|args.map<|Zt X.ρ:=by
 cases f<;>first|exact Zz _ _|skip
 simp[Zt];refine .pure ⟨?_,rfl⟩;simp[X1,Ji];rw[qh];exact .pure ⟨rfl,rfl⟩
theorem Z3m(ok:X.Ok)fn tmps f a b o(q:X.nu fn)(n:YM X.Q xk a=xk)(p:YM X.Q xk b=xk):
  X.Img (λx y=>y=(X.ρ x.1,x.2.map<|X1 X.ρ)/\∀d∈x.2,U0 d=xk) V (Instr.enterLoop fn tmps f a b o) (Instr.enterLoop fn (tmps.map<|Zt X.ρ) f a b<|o.map X.ρ):=by
 have last:∀V r mk,(∀d∈mk,U0 d=xk)->X.Img (λx y=>y=(X.ρ x.1,x.2.map<|X1 X.ρ)/\∀d∈x.2,U0 d=xk) V
   (do pure (<-newObj (.loop {state:=.ready,pending:=U,fn,tmps,params:=f,assign:=a,body:=b,defers:=r}),mk):Sem<|Nat×List Deferred)
   (do pure (<-newObj (.loop {state:=.ready,pending:=U,fn,tmps:=tmps.map _,params:=f,assign:=a,body:=b,defers:=X.ρ r}),mk.map _):Sem _):=λV r mk j=>by
  have h:X.Img (λa b=>b=X.ρ a) V _<|newObj<|XF X.ρ<|.loop ⟨.ready,U,fn,tmps,f,a,b,r⟩:=
   .new (o:=.loop _) ((ok.kl _).2 ⟨n,p,rfl,q⟩) Z1 λr=>.pure rfl
  refine .bind h ?_;rintro k l _-rfl;exact .pure ⟨rfl,j⟩
 obtain _|l:=o;have h:X.Img (λa b=>b=X.ρ a) V _ _:=
  .new (o:=.deferred<|J []) (λd g=>by cases g) Z1 λr=>.pure rfl
 refine .bind h ?_;rintro k r _-rfl;have h:=last k r [{target:=.collected r,args:=#[]}] (λd g=>by simp at g;subst g;rfl);simp_all[List.map,X1,Ji];refine Kl λr t=> ?_;exact last _ r.defers [] Z1
theorem AG{α β RA l r}{k:Sem α}{k':Sem β}(a:l∈V)(d:X.KL r)(h:X.Img RA V k k'):X.Img RA V (setObj l (.loop r)>>=λ_=>k) (setObj (X.ρ l) (.loop<|Lc X.ρ r)>>=λ_=>k'):=
 .set (o:=.loop r) a d Z1 h
theorem Z2Y(ok:X.Ok)l:X.Img Eq V (Instr.beginRound l)<|Instr.beginRound<|X.ρ l:=by
 refine Kl λr a=> ?_;refine AG (r:= {r with state:=.busy}) Z1 ((ok.kl _).2<|(ok.kl r).1 a) ?_;show X.Img Eq _ _ (match r.state with|.ready=>_|.done=>_|.busy=>_|.exhausted=>_);cases r.state<;>first|exact .pure rfl|exact TQ _
theorem Z3l(ok:X.Ok)l j(g:j.all QS=xk):X.Img X.Rv V (Instr.endRound l j)<|Instr.endRound (X.ρ l) j:=by
 refine Kl λr h=> ?_;let⟨a,d,_,f⟩:=(ok.kl _).1 h;refine AG (r:= {r with state:=if j.isNone then .ready else .done,pending:=j}) Z1 ((ok.kl _).2 ⟨a,d,g,f⟩) ?_;exact .pure ZeI
theorem Z3k(ok:X.Ok)l:X.Img (λa b=>a=b/\a.all QS=xk) V (Instr.endLoop l)<|Instr.endLoop<|X.ρ l:=by
 refine Kl λr d=> ?_;have e:(Lc X.ρ r).state=r.state:=rfl;rw[e];have h:=(ok.kl _).1 d;split;exact TQ _;refine AG (r:= {r with state:=.exhausted}) Z1 ((ok.kl _).2 h) ?_;exact .pure ⟨rfl,h.2.2.1⟩
theorem Z3X(ok:X.Ok)l:X.Img (λa b=>b=a.map (X1 X.ρ)/\∀d∈a,U0 d=xk) V (Instr.takeDeferred l)<|Instr.takeDeferred<|X.ρ l:=by
 refine .get (λw=>⟨_,w,rfl,trivial⟩) λo h=> ?_;cases o<;>first|exact Zz _ _|skip
 rename_i f;obtain _|f:=f;exact Zz _ _;refine .set (o:=.deferred U) Z1 trivial Z1<|.pure ⟨rfl,λd g=>(ok.kd d).1<|h d g⟩
end
end
section
section
variable {X:Cx}{V:Zb}
def GO(x:Zc):X.Img Eq V (Builtin.lenOf x)<|Builtin.lenOf<|Zt X.ρ x:=by
 cases x<;>first|exact Zz _ _|skip
 rw[Sa];exact .pure rfl;rename_i a n c;have d:Zt X.ρ (.slice a n c)=.slice (a.map<|ZP X.ρ) n c:=by cases a<;>simp[Zt]
 rw[d];exact .pure rfl
def Kj(s n:Nat)(x:Zc):X.Img (λa b=>b=a.map (Zt X.ρ)) V (Builtin.firstCells s n x)<|Builtin.firstCells s n<|Zt X.ρ x:=by
 cases x<;>first|exact Zz _ _|skip
 rw[Sa];refine .pure ?_;have e:(Zt X.ρ∘λb:UInt8=>Value.int .u8 b.toNat)=λb=>Value.int .u8 b.toNat:=by funext b;simp
 simp[Array.map_map,e];rename_i a m c;obtain _|a:=a;simp only[Zt];exact .pure Z1;simp only[Zt];exact GQ a _
def ja(ρ:Zj)(z:Za)(n:Nat)(h:z.map (Zt ρ)=z):(Builtin.zeroCells z n).map (Zt ρ)=Builtin.zeroCells z n:=by
 unfold Builtin.zeroCells;refine RY λx f=> ?_;obtain⟨i,_,rfl⟩:=ZhG.1 f;by_cases a:i%z.size<z.size;rw[Zjg z _ a];have d:(z.map<|Zt ρ)[i%z.size]?=z[i%z.size]? :=by rw[h]
 rw[Zfz,ZfM a]at d;exact ZgC d;rw[Zjf z _ a];have e:(default:Zc)=.bool default:=rfl;rw[e,U3]
def Z7U(p:Z6)(a b n:Nat)(base:Option Addr)(x:Zc)(w:Z3):∃r,(Builtin.mayShare a b n base x).run p w=.ok r w:=by
 have f:∀(c:Addr) (m:Nat),∃r,(Builtin.holdsCells c m).run p w=.ok r w:=λc m=>by
  unfold Builtin.holdsCells;simp only[ZfJ,Zj9,ZfH];split<;>exact⟨_,rfl⟩
 have last:∃r,(match x with
   |.slice (J b) _ _=>do pure (!(<-Builtin.holdsCells b (n*a))||base.any (·.block==b.block))
   |_=>pure xw:Sem Bool).run p w=.ok r w:=by
  cases x with
  |slice q _ _=>
   obtain _|q:=q;exact⟨_,rfl⟩;obtain⟨r,d⟩:=f q<|n*a;simp only[ZfJ,d,ZfH];exact⟨_,rfl⟩
  |_=>exact⟨_,rfl⟩
 unfold Builtin.mayShare;obtain _|c:=base;obtain⟨r,d⟩:=last;exact⟨r,d⟩;obtain⟨r,d⟩:=f c<|b*a;simp only[ZfJ,d,ZfH,run_frozen,Zhu];cases(r&& !w.frozen? (c.add<|b / 2*a))with
 |false=>exact⟨_,rfl⟩
 |true=>exact last
def Z2U(S:X.Zero)(ts:Array TypeId)(ty t u e M:Zf)(s x:Zc)(N:ts[0]?=J t)(O:ts[1]?=J u)(R:X.Q.underlying t=J (.slice e))(hx:X.Q.underlying u=J (.slice M)):
  X.Img X.Rv V (Builtin.append_ ts ty #[s,x]) (Builtin.append_ ts ty #[Zt X.ρ s,Zt X.ρ x]):=by
 have K:∀y z:Zc,(#[y,z]:Array Value)[0]?=J y:=λ_ _=>rfl;have L:∀y z:Zc,(#[y,z]:Array Value)[1]?=J z:=λ_ _=>rfl;unfold Builtin.append_;simp only[N,O,K,L];refine .bind (XP t) ?_;rintro D d _- ⟨rfl,h⟩;rw[R]at h;cases h;cases s<;>first|exact Zz _ _|skip
 rename_i base n c;have A:Zt X.ρ (.slice base n c)=.slice (base.map<|ZP X.ρ) n c:=by cases base<;>simp[Zt]
 rw[A];dsimp only;refine .bind (VD e) ?_;rintro F size _-rfl;refine .bind (XP u) ?_;rintro G d _- ⟨rfl,h⟩;rw[hx]at h;cases h;simp only[pure_bind,Zfk,ZfV,Bool.not_false,ZfT,false_or];refine .bind (GO x) ?_;rintro H m _-rfl;by_cases C:n+m<=c;simp only[Zfc C];refine .bind (Kj size m x) ?_;rintro o new _-rfl;obtain _|a:=base;exact .pure Zel;simp only[Zfm];rw[Q9,Zgj];refine .bind (Kn (a.add<|n*size) new.toList o 0) ?_;rintro l _ _- -;exact .pure Zel;simp only[Zf7 C];refine .bind (VE e) ?_;rintro o i _-rfl
 have g:∀V,X.Img X.Rv V (do
   let f<-choose (.appendCap (n+m) c e)
   askRoom (f*(<-typeInfo e).bytes)
   let j<-Builtin.firstCells size n (.slice base n c)
   let new<-Builtin.firstCells size m x
   let g:=Builtin.zeroCells (<-zeroValue e).cells<|f- (n+m)
   pure (.slice (J<|<-newRow e (j++new++g)) (n+m) f):Sem Value) (do
   let f<-choose (.appendCap (n+m) c e)
   askRoom (f*(<-typeInfo e).bytes)
   let j<-Builtin.firstCells size n (.slice (base.map<|ZP X.ρ) n c)
   let new<-Builtin.firstCells size m (Zt X.ρ x)
   let g:=Builtin.zeroCells (<-zeroValue e).cells<|f- (n+m)
   pure (.slice (J<|<-newRow e (j++new++g)) (n+m) f):Sem Value):=λV=>by
  refine .bind (Ue _) ?_;rintro D k _-rfl;refine .bind (VE e) ?_;rintro F i _-rfl;refine .bind (RA:=Eq) ?_ ?_;unfold askRoom;split;exact .room<|.pure rfl;exact .pure rfl;rintro G _ _- -;rw[<-A];refine .bind (Kj size n _) ?_;rintro H j _-rfl;refine .bind (Kj size m x) ?_;rintro o new _-rfl;refine .bind (Th S e) ?_;rintro l z _- ⟨rfl,p⟩;have q:z.cells.map (Zt X.ρ)=z.cells:=by rw[<-Tu,p]
  have h:=zN (X:=X) (V:=l) e (j++new++Builtin.zeroCells z.cells (k- (n+m))) (n+m) k;rw[ZgX,ZgX,ja X.ρ z.cells _ q]at h;exact h
 split;exact .bind (RA:=λ_ _=>False) (TQ _) λ_ _ _ _ h=>h.elim;refine .bind (VE e) ?_;rintro l T _-rfl;by_cases B:Builtin.nextslicecap (n+m) c*T.bytes>2 ^ 48;simp only[Zfc B];refine .li _ λw=> ?_;obtain⟨r,P⟩:=Z7U X.Q size n m base x w;refine⟨.unsupported (.resourceLimit "append: a slice or a string whose bytes no memory bears"),w,?_,trivial⟩;simp only[ZfJ,P,ZfH];cases r<;>rfl;simp only[Zf7 B];exact g l
end
end
section
section
variable {X:Cx}{V:Zb}
def S7 ρ k b:Zt ρ (.float k b)=.float k b:=ZeS
def Cq ρ k a b:Zt ρ (.complex k a b)=.complex k a b:=ZeS
def Z3Z op x:X.Img X.Rv V (Op.unary op x)<|Op.unary op<|Zt X.ρ x:=by
 unfold Op.unary;cases op<;>cases x<;>first|exact Zz _ _|skip
 grind [XV,Gz];rw[S7];exact .pure (S7 ..).symm;rw[Cq];exact .pure (Cq ..).symm;grind [Zz,X8];grind [XV,GC];grind [Zz,X8];rw[U3];exact .pure (U3 ..).symm
def GA n:X.Img Eq V (askRoom n)<|askRoom n:=by
 unfold askRoom;split;exact .room<|.pure rfl;exact .pure rfl
def Z3E(C:X.Zero)t x y:X.Img X.Rv V (Instr.makeSlice t x y)<|Instr.makeSlice t (Zt X.ρ x)<|Zt X.ρ y:=by
 refine .bind (XP t) ?_;rintro q d _- ⟨rfl,F⟩;cases d<;>first|exact Zz _ _|skip
 rename_i e;refine .bind (Kh x) ?_;rintro r l _-rfl;refine .bind (Kh y) ?_;rintro u c _-rfl;refine .bind (VE e) ?_;rintro w i _-rfl;dsimp only
 have f:∀V,X.Img X.Rv V (do
   askRoom _
   let n:=(IntKind.i64.wrap c).toNat*(<-sizeOf e);let zero<-if n=0 then pure #[]else do pure (<-zeroValue e).cells
   let a<-newRow e ((Array.range n).map (zero[· %zero.size]!))
   pure (.slice (J a) (IntKind.i64.wrap l).toNat (IntKind.i64.wrap c).toNat):Sem Value) (do
   askRoom ((IntKind.i64.wrap c).toNat*i.bytes)
   let n:=(IntKind.i64.wrap c).toNat*(<-sizeOf e);let zero<-if n=0 then pure #[]else do pure (<-zeroValue e).cells
   let a<-newRow e ((Array.range n).map (zero[· %zero.size]!))
   pure (.slice (J a) (IntKind.i64.wrap l).toNat (IntKind.i64.wrap c).toNat):Sem Value):=λV=>by
  refine .bind (GA _) ?_;rintro q _ _- -;refine .bind (VD e) ?_;rintro r s _-rfl;dsimp only
  have fin:∀V (z:Za),z.map _=z->X.Img X.Rv V (do
    let a<-newRow e _
    pure _:Sem Value) (do
    let a<-newRow e _
    pure _:Sem Value):=λV z o=>by
   have h:=zN (X:=X) (V:=V) e ((Array.range<|(IntKind.i64.wrap c).toNat*s).map (z[· %z.size]!)) (IntKind.i64.wrap l).toNat (IntKind.i64.wrap c).toNat;have A:((Array.range<|(IntKind.i64.wrap c).toNat*s).map (z[· %z.size]!)).map (Zt X.ρ)=(Array.range<|(IntKind.i64.wrap c).toNat*s).map (z[· %z.size]!):=by
    refine RY λx B=> ?_;obtain⟨i,_,rfl⟩:=ZhG.1 B;by_cases g:i%z.size<z.size;rw[Zjg z _ g];have p:(z.map<|Zt X.ρ)[i%z.size]?=z[i%z.size]? :=by rw[o]
    rw[Zfz,ZfM g]at p;exact ZgC p;rw[Zjf z _ g];exact U3 _ _
   rw[A]at h;exact h
  split;simp only[pure_bind];exact fin _ _ Z1;refine .bind (Th C e) ?_;rintro u z _- ⟨rfl,j⟩;simp;exact fin _ _ (by rw[<-Tu,j])
 split;split;exact .bind (RA:=λ_ _=>False) (TQ _) λ_ _ _ _ h=>h.elim;split;exact .bind (RA:=λ_ _=>False) (TQ _) λ_ _ _ _ h=>h.elim;refine .bind (Ue _) ?_;rintro D k _-rfl;exact .bind (RA:=λ_ _=>False) (TQ _) λ_ _ _ _ h=>h.elim;exact f w
def LV(x y:Zc):Prop:=(∃k a l b,x=.int k a/\y=.int l b)\/(∃k a l b,x=.float k a/\y=.float l b)\/∃a b,x=.string a/\y=.string b
theorem Z4K{x y}(h:¬LV x y):(∃s,Builtin.min2 x y=stuck s)\/Builtin.min2 x y=unsupported .addressObserved:=by
 cases x<;>cases y<;>first
  |exact .inl ⟨_,rfl⟩
  |exact .inr rfl
  |exact absurd (.inl ⟨_,_,_,_,rfl,rfl⟩) h
  |exact absurd (.inr<|.inl ⟨_,_,_,_,rfl,rfl⟩) h
  |exact absurd (.inr<|.inr ⟨_,_,rfl,rfl⟩) h
  |(rename_i p;cases p<;>first|exact .inl ⟨_,rfl⟩|exact .inr rfl)
  |(rename_i p q;cases p<;>cases q<;>first|exact .inl ⟨_,rfl⟩|exact .inr rfl)
  |(rename_i p q;cases p<;>first|exact .inl ⟨_,rfl⟩|exact .inr rfl)
  |(rename_i p q r;cases p<;>first|exact .inl ⟨_,rfl⟩|exact .inr rfl)
  |(rename_i p q r s;cases p<;>first|exact .inl ⟨_,rfl⟩|exact .inr rfl)
theorem Z4F{x y}(h:¬LV x y):(∃s,Builtin.max2 x y=stuck s)\/Builtin.max2 x y=unsupported .addressObserved:=by
 cases x<;>cases y<;>first
  |exact .inl ⟨_,rfl⟩
  |exact .inr rfl
  |exact absurd (.inl ⟨_,_,_,_,rfl,rfl⟩) h
  |exact absurd (.inr<|.inl ⟨_,_,_,_,rfl,rfl⟩) h
  |exact absurd (.inr<|.inr ⟨_,_,rfl,rfl⟩) h
  |(rename_i p;cases p<;>first|exact .inl ⟨_,rfl⟩|exact .inr rfl)
  |(rename_i p q;cases p<;>cases q<;>first|exact .inl ⟨_,rfl⟩|exact .inr rfl)
  |(rename_i p q;cases p<;>first|exact .inl ⟨_,rfl⟩|exact .inr rfl)
  |(rename_i p q r;cases p<;>first|exact .inl ⟨_,rfl⟩|exact .inr rfl)
  |(rename_i p q r s;cases p<;>first|exact .inl ⟨_,rfl⟩|exact .inr rfl)
theorem GX{op}a b:X.Img X.Rv V (do pure (.string<|if<-asBool (<-Op.stringOp op a b)then a else b):Sem Value) (do pure (.string<|if<-asBool (<-Op.stringOp op a b)then a else b):Sem Value):=by
 refine .bind (H2 op a b) ?_;rintro d v _-rfl;refine .bind (As v) ?_;rintro f c _-rfl;exact .pure (Sa ..).symm
theorem Z3I x y:X.Img X.Rv V (Builtin.min2 x y)<|Builtin.min2 (Zt X.ρ x)<|Zt X.ρ y:=by
 by_cases h:LV x y
 .obtain⟨k,a,l,b,rfl,rfl⟩|⟨k,a,l,b,rfl,rfl⟩|⟨a,b,rfl,rfl⟩:=h;simp;exact .pure (XV ..).symm
  .simp[S7,Builtin.min2];split;refine .bind (Ue _) ?_;rintro d k _-rfl;exact .pure (S7 ..).symm;all_goals exact .pure (S7 ..).symm
  grind [Sa,Builtin.min2,GX]
 grind [Z4K,Zz,X8]
theorem Z3G x y:X.Img X.Rv V (Builtin.max2 x y)<|Builtin.max2 (Zt X.ρ x)<|Zt X.ρ y:=by
 by_cases h:LV x y
 .obtain⟨k,a,l,b,rfl,rfl⟩|⟨k,a,l,b,rfl,rfl⟩|⟨a,b,rfl,rfl⟩:=h;simp;exact .pure (XV ..).symm
  .simp[S7,Builtin.max2];split;refine .bind (Ue _) ?_;rintro d k _-rfl;exact .pure (S7 ..).symm;all_goals exact .pure (S7 ..).symm
  grind [Sa,Builtin.max2,GX]
 grind [Z4F,Zz,X8]
theorem Az{f}(a:∀V x y,X.Img X.Rv V (f x y)<|f (Zt X.ρ x)<|Zt X.ρ y):∀(l:Zp) V x,X.Img X.Rv V (l.foldlM f x) ((l.map<|Zt X.ρ).foldlM f<|Zt X.ρ x)
 | [],V,x=>.pure rfl
 |y::l,V,x=>by
  refine .bind (a V x y) ?_;rintro d z _-rfl;exact Az a l d z
def Z3H ts t aq_:X.Img X.Rv V (Builtin.min_ ts t aq_)<|Builtin.min_ ts t<|aq_.map<|Zt X.ρ:=by
 grind [Builtin.min_,Array.toList_map,Zz,Az,Z3I]
def Z3F ts t aq_:X.Img X.Rv V (Builtin.max_ ts t aq_)<|Builtin.max_ ts t<|aq_.map<|Zt X.ρ:=by
 grind [Builtin.max_,Array.toList_map,Zz,Az,Z3G]
def Z3h ts t d s:X.Img X.Rv V (Builtin.copy_ ts t #[d,s])<|Builtin.copy_ ts t #[Zt X.ρ d,Zt X.ρ s]:=by
 unfold Builtin.copy_;simp;cases ts[0]? with
 |none=>exact Zz _ _
 |some j=>
  refine .bind (XP j) ?_;rintro l h _- ⟨rfl,r⟩;cases h<;>first|exact Zz _ _|skip
  rename_i e;cases d<;>first|exact Zz _ _|skip
  rename_i base n c;have k:Zt X.ρ (.slice base n c)=.slice (base.map<|ZP X.ρ) n c:=by cases base<;>simp[Zt]
  rw[k];refine .bind (GO s) ?_;rintro o m _-rfl;refine .bind (VD e) ?_;rintro p size _-rfl;refine .bind (Kj size _ s) ?_;rintro f g _-rfl;obtain _|a:=base;exact .pure (by simp[Cx.Rv,goInt]);rw[Zgj];refine .bind (Kn a g.toList f 0) ?_;rintro q _ _- -;exact .pure (by simp[Cx.Rv,goInt])
def Z3c(D:X.Zero)ts t g(A:ts[0]?=J g)(B:(∃e,X.Q.underlying g=J (.slice e))\/∃a b,X.Q.underlying g=J (.map a b))x:X.Img X.Rv V (Builtin.clear_ ts t #[x])<|Builtin.clear_ ts t #[Zt X.ρ x]:=by
 have G:∀y,(#[y]:Array Value)[0]?=J y:=Z1;have fin:∀V,X.Img X.Rv V (pure (.tuple #[]):Sem Value) (pure (.tuple #[]):Sem Value):=λV=>.pure Zel;unfold Builtin.clear_;simp[A];refine .bind (XP g) ?_;rintro l d _- ⟨rfl,h⟩;obtain⟨e,p⟩|⟨a,b,p⟩:=B<;>rw[p]at h<;>cases h
 cases x<;>first|exact Zz _ _|skip
 rename_i b n c;obtain _|a:=b;simp_all[Zt];simp[Zt];cases n with
 |zero=>exact fin _
 |succ n=>
  refine .bind (Th D e) ?_;rintro q z _- ⟨rfl,F⟩;have j:z.cells.map (Zt X.ρ)=z.cells:=by grind [Tu]
  have h:=Kn (X:=X) a (Builtin.zeroCells z.cells<|n+1).toList q 0;rw[<-Zgj,ja X.ρ z.cells _ j]at h;exact .bind h λ_ _ _ _ _=>fin _
 rename_i r;obtain _|r:=r;simp_all[Zt];simp[Zt];refine .get (λw=>⟨_,w,rfl,trivial⟩) λo C=> ?_;cases o<;>first|exact Zz _ _|skip
 rename_i u f;have:=Cx.Img.set (X:=X) (RA:=X.Rv) (V:=r::l) (r:=r) (o:=.map #[] f) (k:=pure _) (k':=pure _) Z1 trivial Z1<|fin _;simp[XF]at this;exact this;cases x<;>first|exact Zz _ _|skip
 rename_i b n c;obtain _|a:=b;simp_all[Zt];simp[Zt];cases n with
 |zero=>exact fin _
 |succ n=>exact Zz _ _
 rename_i r;obtain _|r:=r;simp_all[Zt];simp[Zt];refine .get (λw=>⟨_,w,rfl,trivial⟩) λo C=> ?_;cases o<;>first|exact Zz _ _|skip
 rename_i u f;have:=Cx.Img.set (X:=X) (RA:=X.Rv) (V:=r::l) (r:=r) (o:=.map #[] f) (k:=pure _) (k':=pure _) Z1 trivial Z1<|fin _;simp[XF]at this;exact this
def zM{α β RA c} [Decidable c]{a b:Sem α}{a' d:Sem β}(h:X.Img RA V a a')(k:X.Img RA V b d):X.Img RA V (if c then a else b) (if c then a' else d):=by
 grind
def Z2V(C:X.Zero)ts ty t r e k s x(M:ts[0]?=J t)(N:ts[1]?=J r)(O:X.Q.underlying t=J (.slice e))(hx:X.Q.underlying r=J (.int k)):
  X.Img X.Rv V (Builtin.append_ ts ty #[s,x]) (Builtin.append_ ts ty #[Zt X.ρ s,Zt X.ρ x]):=by
 have H:∀y z,(#[y,z]:Array Value)[0]?=J y:=Z1;have K:∀y z,(#[y,z]:Array Value)[1]?=J z:=Z1;unfold Builtin.append_;simp only[M,N,H,K];refine .bind (XP t) ?_;rintro u d _- ⟨rfl,h⟩;rw[O]at h;cases h;cases s<;>first|exact Zz _ _|skip
 rename_i base n c;have B:Zt X.ρ (.slice base n c)=.slice (base.map<|ZP X.ρ) n c:=by cases base<;>simp[Zt]
 rw[B];refine .bind (VD e) ?_;rintro F size _-rfl;refine .bind (XP r) ?_;rintro G d _- ⟨rfl,h⟩;rw[hx]at h;cases h;simp only[pure_bind,Zi9,Zfk,ZfV,ZfT,true_or];refine .bind (Kh x) ?_;rintro w l _-rfl;have bad:∀ {V} m {f L:Unit->Sem Value},X.Img X.Rv V (runtimePanic _>>=f)<|runtimePanic (.error m)>>=L:=λm=>.bind (RA:=λ_ _=>False) (TQ _) λ_ _ _ _ h=>h.elim;have D:∀V m,X.Img (λa b=>b=a.map (Zt X.ρ)) V (if m*size=0 then pure #[]else do pure (Builtin.zeroCells (<-zeroValue e).cells m):Sem _) (if m*size=0 then pure #[]else do pure (Builtin.zeroCells (<-zeroValue e).cells m):Sem _):=λV m=>by
  split;exact .pure Z1;refine .bind (Th C e) ?_;rintro u z _- ⟨rfl,q⟩;exact .pure (ja X.ρ z.cells _<|by grind [Tu]).symm
 generalize S:(IntKind.i64.wrap l).toNat=m
 have j:∀V,X.Img X.Rv V (do
   let g<-choose _
   askRoom (g*(<-typeInfo e).bytes)
   let o<-Builtin.firstCells size n _
   let new<-(if m*size=0 then pure #[]else do pure (Builtin.zeroCells (<-zeroValue e).cells m):Sem _)
   let j:=Builtin.zeroCells (<-zeroValue e).cells<|g- (n+m)
   pure (.slice (J<|<-newRow e (o++new++j)) (n+m) g):Sem Value) (do
   let g<-choose (.appendCap (n+m) c e)
   askRoom (g*(<-typeInfo e).bytes)
   let o<-Builtin.firstCells size n (.slice (base.map<|ZP X.ρ) n c)
   let new<-(if m*size=0 then pure #[]else do pure (Builtin.zeroCells (<-zeroValue e).cells m):Sem<|Array Value)
   let j:=Builtin.zeroCells (<-zeroValue e).cells<|g- (n+m)
   pure (.slice (J<|<-newRow e (o++new++j)) (n+m) g):Sem Value):=λV=>by
  refine .bind (Ue _) ?_;rintro u k _-rfl;refine .bind (VE e) ?_;rintro F i _-rfl;refine .bind (GA _) ?_;rintro G _ _- -;rw[<-B];refine .bind (Kj size n _) ?_;rintro w o _-rfl;refine .bind (D w m) ?_;rintro A new _-rfl;refine .bind (Th C e) ?_;rintro p z _- ⟨rfl,q⟩;have P:z.cells.map (Zt X.ρ)=z.cells:=by grind [Tu]
  have h:=zN (X:=X) (V:=p) e (o++new++Builtin.zeroCells z.cells (k- (n+m))) (n+m) k;simp_all[ZgX,ja]
 refine zM ?_ ?_;exact bad _;refine .bind (VE e) ?_;rintro A i _-rfl;refine zM ?_ ?_;refine .bind (Ue _) ?_;grind;refine zM ?_ ?_;refine .bind (D A m) ?_;rintro p new _-rfl;obtain _|a:=base;exact .pure Zel;simp only[Zfm];rw[Q9,Zgj];refine .bind (Kn (a.add<|n*size) new.toList p 0) ?_;rintro R _ _- -;exact .pure Zel;refine .bind (VE e) ?_;rintro p T _-rfl;refine zM ?_ ?_;exact bad _;refine .bind (VE e) ?_;grind
end
end
section
section
variable {X:Cx}{V:Zb}{rd:Bool}
theorem Z3n{α β RA}{k:SysRet->Sem α}{k':SysRet->Sem β}(h:∀r,X.Img RA V (k r)<|k' r):X.Img RA V (sys .env>>=k)<|sys .env>>=k':=by
 refine .rl λp o g f n d a=> ?_;have j:∀ {γ} P w (k:SysRet->Sem γ),(sys .env>>=k).run P w=(k<|.strings w.os.env).run P w:=λ_ _ _=>rfl;have l:∀ {γ} P w (k:SysRet->Sem γ) g,(sys .env>>=k).runT P w g=(k<|.strings w.os.env).runT P w _:=λ_ _ _ _=>rfl;rw[j]at d a;rw[l];rw[f.os]at d a⊢;exact Cx.bd.step (.ev (e:=⟨.output,xk,xw⟩) f True.intro)<|(h _).run p o _ f n d a
theorem Z3j t:X.Img Eq V (elemOf t)<|elemOf t:=by
 refine .bind (V5 _) ?_;rintro a d _-rfl;cases d<;>first|exact .pure rfl|exact Zz _ _
theorem Z3O{α β}{RA:α->β->Prop}:X.Img RA V (runtimePanic .panicNil)<|runtimePanic .panicNil:=by
 refine .bind WC ?_;rintro f _ _- ⟨rfl,rfl⟩;refine .bind (Z3j _) ?_;rintro d t _-rfl;have h:=AD (X:=X) (V:=d) t<|.agg #[];rw[show Zt X.ρ _=.agg #[]by simp[Wr]]at h;refine .bind h ?_;rintro g a _-rfl;exact RL (by simp;rfl)
theorem Z3N x:X.Img X.Rv V (Instr.panic x)<|Instr.panic<|Zt X.ρ x:=by
 unfold Instr.panic;cases x<;>first|exact Zz _ _|skip
 simp_all[S8,RL];rw[S9];refine .bind (RA:=Eq) ?_ ?_;refine Z3n λr=> ?_;cases r<;>first|exact Zz _ _|skip
 refine .bind WC ?_;rintro a _ _- ⟨rfl,rfl⟩;exact .pure rfl;rintro a n _-rfl;grind [RL,S9,Z3O]
theorem YZ{s a}(h:X.Img X.Rv V s a):X.Img (X.NR rd) V (do pure (.value<|<-s):Sem Next) (do pure (.value<|<-a):Sem Next):=by
 refine .bind h ?_;rintro d v _-rfl;exact .pure rfl
theorem zQ{s a}(h:X.Img Eq V s a):X.Img (X.NR rd) V (do s;pure .skip:Sem Next) (do a;pure .skip:Sem Next):=by
 refine .bind h ?_;rintro d v _-rfl;exact .pure rfl
def Kz(v:Zc):Sem Next:=
 match v with
 |.pointer U|.nilIface|.nilFunc=>runtimePanic .nilDeref
 | .func (.method name) first a=>
   match(first[0]? :Option Value)with
   |some .nilIface=>runtimePanic .nilDeref
   |some (.iface t w)=>do
    if(<-nilAhead ((<-program).types.size+Made.depth) t w name) !=J xw then
     unsupported (.noEntry "op/nilCheck.the method's receiver behind this interface value is a nil pointer, or cannot be seen to be none, and the arguments act or may panic (ledger 612)")
    pure (.value<|.func (.method name) first a)
   |_=>pure<|.value<|.func (.method name) first a
 |x=>pure<|.value x
theorem Z3K v:X.Img (X.NR rd) V (Kz v)<|Kz<|Zt X.ρ v:=by
 have d:∀V u,X.Img (X.NR rd) V (pure (.value u):Sem Next) (pure _:Sem Next):=λV u=>.pure rfl;cases v with
 |pointer q=>
  obtain _|a:=q;rw[Un];exact TO;rw[Wy];exact .pure (by simp[Cx.NR])
 |slice q n c=>have h:=d V<|.slice q n c;cases q<;>(simp[Zt]at h⊢;exact h)
 |map q=>have h:=d V<|.map q;cases q<;>(simp[Zt]at h⊢;exact h)
 |chan q=>have h:=d V<|.chan q;cases q<;>(simp[Zt]at h⊢;exact h)
 |nilIface=>rw[S9];exact TO
 |nilFunc=>rw[qh];exact TO
 |func fn a b=>
  cases fn with
  |method name=>
   have h:∀V,X.Img (X.NR rd) V (pure (.value<|.func (.method name) a b):Sem Next) (pure (.value<|.func (.method name) (a.map<|Zt X.ρ)<|b.map<|Zt X.ρ):Sem Next):=λV=>.pure (by simp[Cx.NR,Zt,Vb]);simp only[Zt,Vb,Kz,Zfz];cases a[0]? with
   |none=>exact h V
   |some u=>
    cases u with
    |nilIface=>simp_all[Zfm,S9,TO]
    |iface t w=>
     simp only[Zfm,S8];refine .bind WC ?_;rintro g _ _- ⟨rfl,rfl⟩;refine .bind (GV _ _ _ _ _) ?_;rintro j n _-rfl;split;exact X8 Z1 _;grind
    |pointer q=>cases q<;>(simp;exact h V)
    |slice q n c=>cases q<;>(simp[Zfm,Zt];exact h V)
    |map q=>cases q<;>(simp[Zfm,Zt];exact h V)
    |chan q=>cases q<;>(simp[Zfm,Zt];exact h V)
    |_=>simp[Zfm,Zt];exact h V
  |func f=>have h:=d V<|.func (.func f) a b;simp[Zt,Vb]at h⊢;exact h
  |methodOf t n=>have h:=d V<|.func (.methodOf t n) a b;simp[Zt,Vb]at h⊢;exact h
  |via t p f q=>have h:=d V<|.func (.via t p f q) a b;simp[Zt,Vb]at h⊢;exact h
  |yield l=>have h:=d V<|.func (.yield l) a b;simp[Zt,Vb]at h⊢;exact h
 |bool b=>have h:=d V<|.bool b;simp at h⊢;exact h
 |int k n=>have h:=d V<|.int k n;simp at h⊢;exact h
 |float k n=>have h:=d V<|.float k n;simp[Zt]at h⊢;exact h
 |complex k a b=>have h:=d V<|.complex k a b;simp[Zt]at h⊢;exact h
 |string s=>have h:=d V<|.string s;simp at h⊢;exact h
 |iface t v=>have h:=d V<|.iface t v;simp at h⊢;exact h
 |agg c=>have h:=d V<|.agg c;simp[Zt]at h⊢;exact h
 |tuple c=>have h:=d V<|.tuple c;simp[Zt]at h⊢;exact h
theorem Z3s t x f:X.Img X.Rv V (Instr.fieldAt t x f)<|Instr.fieldAt t (Zt X.ρ x) f:=by
 refine .bind (XP t) ?_;rintro j d _- ⟨rfl,n⟩;cases d<;>first|exact Zz _ _|skip
 rename_i h;dsimp only;cases o:h[f]? with
 |none=>exact Zz _ _
 |some g=>
  refine .bind (zP x) ?_;rintro k a _-rfl;refine .bind (Ay a g) ?_;rintro l b _-rfl;exact .pure (Wy _ _).symm
theorem AK{Q t}(h:VX Q t=xk):∃k,Q.underlying t=J (.int k):=by
 grind [VX]
theorem Z5g{t}(h:KE X.Q t=xk):∀i u,X.Q.info? t=J i->i.desc≠.named "sync.copyChecker" u:=by
 grind [KE]
theorem Ha{t}(h:(VX X.Q t&&KE X.Q t)=xk):∃k,X.IntT t k:=by
 simp at h;let⟨k,a⟩:=AK h.1;exact⟨k,a,Z5g h.2⟩
theorem Oa{t}(h:AM X.Q t=xk):X.ku t:=by
 unfold AM at h;rw[Zfe]at h;obtain h|h:=h;exact .inl<|Ha h;refine .inr ?_;grind
theorem qM{Q t}(h:QT Q t=xk):∃e,Q.underlying t=J (.slice e):=by
 grind [QT]
theorem zY{t}(h:Kq X.Q t=xk):∃a b k,X.Q.underlying t=J (.map a b)/\X.IntT a k:=by
 unfold Kq at h;split at h;simp_all[Ha];cases h
theorem Ow{α:Type}{a:Array α}(h:a.size=2):∃x y,a=#[x,y]:=by
 let⟨l⟩:=a;simp at h
 match l,h with
 | [x,y],_=>simp
theorem Bw{α:Type}{a:Array α}(h:a.size=1):∃x,a=#[x]:=by
 let⟨l⟩:=a;simp at h
 match l,h with
 | [x],_=>simp
section
variable {ev ev':Operand->Value}(he:∀x,ZS x=xk->ev' x=Zt X.ρ (ev x))
include he
theorem ze{l:Array Operand}(h:l.all ZS=xk):l.map ev'=(l.map ev).map (Zt X.ρ):=by
 grind
theorem zg{o:Option Operand}(h:o.all ZS=xk):o.map ev'=(o.map ev).map (Zt X.ρ):=by
 obtain _|x:=o;rfl;simp_all
theorem FB{l:Array (Nat×Operand)}(h:(l.all λp=>ZS p.2)=xk):(l.map λ(i,x)=>(i,ev' x))=(l.map λ(i,x)=>(i,ev x)).map λp=>(p.1,Zt X.ρ p.2):=by
 grind [Array.map_map,Array.map_congr_left,Array.all_eq_true',Zt]
theorem GZ c t(d:c.args.all ZS=xk)(hc:(match c.callee with|.builtin _=>xw|.value f=>ZS f|.invoke x _=>ZS x)=xk):
  X.Img (λa b=>b=X1 X.ρ a/\U0 a=xk) V (resolve ev c t) (resolve ev' c t):=by
 unfold resolve;rw[ze he d];cases g:c.callee with
 |builtin b=>simp_all
 |value f=>
  grind [GW]
 |invoke x name=>
  rw[g]at hc;dsimp only at hc⊢;rw[he x hc];exact .pure ⟨by simp[X1,Ji,Vb],rfl⟩
theorem Z3M(ok:X.Ok)c t(B:c.args.all ZS=xk)(hc:UK X.Q rd c=xk):
  X.Img (X.NR rd) V (do let d<-resolve ev c t;invoke d.target d.args) (do let d<-resolve ev' c t;invoke d.target d.args):=by
 have plain:(match c.callee with|.builtin _=>xw|.value f=>ZS f|.invoke x _=>ZS x)=xk->X.Img (X.NR rd) V (do let d<-resolve ev c t;invoke d.target d.args) (do let d<-resolve ev' c t;invoke d.target d.args):=λh=>by
  refine .bind (GZ he c t B h) ?_;rintro G d _- ⟨rfl,F⟩;exact AA ok d.target d.args F
 cases g:c.callee with
 |value f=>simp_all[UK]
 |invoke x name=>simp_all[UK]
 |builtin b=>
  have e:∀ev,(do let d<-resolve ev c t;invoke d.target d.args:Sem Next)=builtin b c.argTypes t _ _:=λev=>by
   unfold resolve;simp[g];rfl
  rw[e,e,ze he B];cases b<;>first|(simp[UK,g]at hc;done)|skip
  ·
   simp[UK,g,ZeZ,ZfN]at hc;let⟨⟨A,l⟩,p⟩:=hc;let⟨x,y,o⟩:=Ow (a:=c.args.map ev) Ze2;cases j:c.argTypes[0]? with
   |none=>simp_all
   |some q=>
    cases n:c.argTypes[1]? with
    |none=>simp_all
    |some C=>
     rw[j]at l;rw[n]at p;let⟨z,r⟩:=qM l;rw[o];obtain p|p:=Zfe _ _▸p;rotate_left;let⟨k,g⟩:=AK p;have:=Z2V (X:=X) (V:=V) ok.zero c.argTypes t q C z k x y j n r g;rw[show(#[x,y]:Array Value).map _=#[Zt X.ρ x,Zt X.ρ y]by simp];exact YZ this;let⟨D,w⟩:=qM p;have:=Z2U (X:=X) (V:=V) ok.zero c.argTypes t q C z D x y j n r w;rw[show(#[x,y]:Array Value).map _=#[Zt X.ρ x,Zt X.ρ y]by simp];exact YZ this
  ·
   simp[UK,g,ZeZ,ZfN]at hc;let⟨A,l⟩:=hc;let⟨x,u⟩:=Bw (a:=c.args.map ev) Ze2;cases j:c.argTypes[0]? with
   |none=>simp_all
   |some q=>
    rw[j]at l;rw[u,zZ];refine YZ<|Z3c ok.zero c.argTypes t q j ?_ x;obtain l|l:=Zfe _ _▸l;grind [qM];grind [zY]
  ·
   simp[UK,g,ZfN]at hc;let⟨x,u⟩:=Bw (a:=c.args.map ev) Ze2;rw[u,zZ];exact YZ<|Z3d _ _ _
  ·
   simp[UK,g,ZfN]at hc;let⟨x,y,o⟩:=Ow (a:=c.args.map ev) Ze2;rw[o,show(#[x,y]:Array Value).map _=#[Zt X.ρ x,Zt X.ρ y]by simp];exact YZ<|Z3h _ _ x y
  ·
   simp[UK,g,ZeZ,ZfN]at hc;let⟨A,l⟩:=hc;let⟨x,u⟩:=Bw (a:=c.args.map ev) Ze2;cases j:c.argTypes[0]? with
   |none=>simp_all
   |some q=>
    rw[u,zZ];refine YZ<|Z3y q t c.argTypes x j ?_;grind [Gq]
  exact YZ<|Z3F ..;exact YZ<|Z3H ..;exact .pure ⟨rfl,by simp_all[UK]⟩
theorem Z3p(hc:∀v,ev (.const v)=v)(ok:X.Ok)(o:Oper)(h:XI X.Q rd o.op=xk)(p:qP o.op=xw):X.Img (X.NR rd) V (execOp ev o)<|execOp ev' o:=by
 obtain⟨B,op,type,pos,after,guard⟩:=o;unfold execOp;dsimp only at h⊢;cases op with
 |move x=>dsimp only;rw[he x h];exact .pure rfl
 |assign x=>dsimp only;rw[he x h];exact .pure rfl
 |pick a b c=>
  simp only[XI,ZeZ]at h;dsimp only;rw[he a h.1.1,he b h.1.2,he c h.2];refine .bind (As _) ?_;rintro u z _-rfl;refine .pure ?_;cases z<;>rfl
 |alloc t=>exact YZ<|Z2T ok.zero t
 |box t x=>dsimp only;rw[he x h];exact YZ<|Z37 t _
 |build t K=>dsimp only;rw[FB he h];exact YZ<|Z38 ok.zero t _
 |buildSlice t n K=>dsimp only;rw[FB he h];exact YZ<|Z39 ok.zero t n _
 |load t x=>dsimp only;rw[he x h];exact YZ<|Z3z t _
 |store t a v=>
  simp only[XI,ZeZ]at h;grind [zQ,Z3V]
 |nilCheck x=>
  have e:ev' x=Zt X.ρ (ev x):=he x h;show X.Img (X.NR rd) V (Kz<|ev x)<|Kz<|ev' x;simp_all[Z3K]
 |binOp op t x y M=>
  simp only[XI,ZeZ]at h;obtain⟨⟨G,H⟩,g⟩:=h;dsimp only;unfold Iw at g;rw[Zfe]at g;rw[he x G,he y H];obtain g|g:=g;refine YZ<|.bind (Z3v op t x y _ _<|Oa g) ?_;rintro u _ _- -;exact Z33 ok.nc op t _ _<|Oa g
  .rw[ZeZ]at g;obtain⟨D,j⟩:=g;cases y with
   |const v=>
    dsimp only at j;split at j
    .rename_i d w;rw[hc v];obtain⟨F,_⟩:=If X.ρ j;have C:gs v≠1:=by cases v<;>first|(intro h;cases h;done)|(cases d<;>cases j)
     rw[F];refine YZ<|.bind (Z3u op t x v _ v C) ?_;rintro u _ _- -;refine Z32 op ?_ t _ v w j;grind
    cases j
   |_=>cases j
 |unOp op t x=>
  dsimp only;rw[he x h];exact YZ<|Z3Z op _
 |makeSlice t l c=>
  simp only[XI,ZeZ]at h;dsimp only;rw[he l h.1,he c h.2];exact YZ<|Z3E ok.zero t _ _
 |convert s d x=>
  simp only[XI,ZeZ]at h;grind [YZ,Z3g,AK]
 |makeInterface t x=>dsimp only;rw[he x h];exact YZ<|Z3C t _
 |makeFunc fn a b=>
  simp only[XI,ZeZ]at h;dsimp only;rw[ze he h.1.2,ze he h.2];refine YZ<|.pure ?_;grind [Cx.Rv,Zt,Vb]
 |makeMap t o=>dsimp only;rw[zg he h];exact YZ<|Z3D t _
 |slice t x l L m=>
  simp only[XI,ZeZ]at h;dsimp only;rw[he x h.1.1.1.1,zg he h.1.1.1.2,zg he h.1.1.2,zg he h.1.2];grind [YZ,Z3S,qM]
 |fieldAddr t x f=>dsimp only;rw[he x h];grind [YZ,Z3s]
 |field t x f=>dsimp only;rw[he x h];grind [YZ,Z3r]
 |indexAddr t x i=>
  simp only[XI,ZeZ]at h;grind [YZ,Z3x]
 |index t x i=>
  simp only[XI,ZeZ]at h;grind [YZ,Z3w]
 |lookup t x i b=>
  simp only[XI,ZeZ]at h;dsimp only;rw[he x h.1.1,he i h.1.2];obtain⟨a,A,k,q,r⟩:=zY h.2;exact YZ<|Z3B ok.zero ok.nc q r _ _ b
 |mapUpdate t x k v=>
  simp only[XI,ZeZ]at h;dsimp only;rw[he x h.1.1.1,he k h.1.1.2,he v h.1.2];obtain⟨a,A,k,q,r⟩:=zY h.2;exact zQ<|GS ok.nc q r _ _ _
 |insert t x k v=>
  simp only[XI,ZeZ]at h;dsimp only;rw[he x h.1.1.1,he k h.1.1.2,he v h.1.2];obtain⟨a,A,k,q,r⟩:=zY h.2;exact zQ<|GS ok.nc q r _ _ _
 |typeAssert x t a b=>
  simp only[XI,ZeZ]at h;dsimp only;rw[he x h.1,h.2];exact YZ<|Z3Y ok.zero _ t a
 |extract x i=>dsimp only;rw[he x h];exact YZ<|Z3q _ i
 |call c=>
  simp_all[XI,ZeZ,Z3M]
 |defer c=>
  simp only[XI,ZeZ]at h;refine .bind (GZ he c type h.1.2 h.2) ?_;rintro u d _- ⟨rfl,w⟩;exact .pure ⟨rfl,w⟩
 |panic x=>dsimp only;rw[he x h];exact YZ<|Z3N _
 |send=>cases p
 |recv=>cases p
 |go=>cases p
 |_=>cases h
end
end
end
end Vm
end
section
namespace Vm
open Go Go.Conc
section
section
variable (ρ:Zj)
def Yv:Item->Item
 |.inRangeFunc l=>.inRangeFunc<|ρ l
 |.endRangeFunc l=>.endRangeFunc<|ρ l
 |i=>i
def SZ(e:PanicEntry):PanicEntry:= {e with v:=Zt ρ e.v}
def XU:FrameMode->FrameMode
 |.panicking a=>.panicking<|a.map<|SZ ρ
 |m=>m
abbrev Zg:=Frame
def Zw(fr:Zg):Frame:= {fr with tmps:=fr.tmps.map<|Zt ρ,todo:=fr.todo.map<|Yv ρ,defers:=fr.defers.map<|X1 ρ,mode:=XU ρ fr.mode,roundOf:=fr.roundOf.map ρ}
end
def VF(Q:Z6)(r:Bool):Item->Bool
 |.code c|.inLoop c|.inScope c=>YM Q r c
 |.inRegion a _=>a.all λo=>XI Q r o.op
 |.inBlock _|.inRangeFunc _|.endRangeFunc _|.beginRound=>xk
 |.call .. |.extern .. =>xw
structure Cx.OkF (X:Cx) (fr:Frame):Prop where
 todo:∀i∈fr.todo,VF X.Q fr.roundOf.isSome i=xk
 defers:∀d∈fr.defers,U0 d=xk
 kind:fr.kind=.normal\/fr.kind=.deferred
 fn:X.nu fr.fn
theorem RH ρ(a:Za)t:(a.map<|Zt ρ).getD t xy=Zt ρ (a.getD t xy):=by
 simp[Zf1,Zfz];cases a[t]? with
 |none=>simp[Option.map_none,ZiH,Sb]
 |some v=>rfl
theorem Rz ρ fr x(h:ZS x=xk):(Zw ρ fr).eval x=Zt ρ (fr.eval x):=by
 cases x with
 |tmp t=>exact RH ρ _ _
 |const v=>exact(Ld ρ 9 v h).symm
 |global g=>cases h
 |func f=>simp[Frame.eval,Zt,Vb]
theorem Z7q{ρ v b}:Zt ρ v=.bool b↔v=.bool b:=by
 cases v with
 |pointer q=>cases q<;>simp
 |slice q n c=>cases q<;>simp[Zt]
 |map q=>cases q<;>simp[Zt]
 |chan q=>cases q<;>simp[Zt]
 |_=>simp[Zt]
theorem Dm ρ ops a j:yielded ops (a.map<|Zt ρ) j=yielded ops a j:=by
 unfold yielded;cases(ops[j]?).bind (·.dst)with
 |none=>rfl
 |some d=>
  simp[Zf8,Zfz];cases a[d]? with
  |none=>rfl
  |some v=>
   simp[Zfm];by_cases h:∃b,v=.bool b;obtain⟨b,rfl⟩:=h;simp;have f:∀u:Zc,(∀b,u≠.bool b)->(match J u with|some (.bool b)=>J b|_=>U:Option Bool)=U:=λu g=>by
    cases u<;>first|rfl|exact absurd rfl<|g _
   exact(f _ λb e=>h ⟨b,Z7q.1 e⟩).trans (f v λb e=>h ⟨b,e⟩).symm
theorem K5 ρ Q fr v(h:∀i∈fr.todo,VF Q fr.roundOf.isSome i=xk):(Zw ρ fr).finish (Zt ρ v)=Zw ρ (fr.finish v):=by
 let⟨fn,j,a,d,g,kind,o⟩:=fr;obtain _|⟨i,k⟩:=a;rfl;have f:=h i<|Zgo ..;cases i with
 |inRegion n l=>
  grind [Frame.finish,Zw,Yv,bind,map_set]
 |call=>cases f
 |extern=>cases f
 |_=>rfl
theorem QH{X:Cx}{fr}(h:X.OkF fr)v:X.OkF<|fr.finish v:=by
 let⟨fn,w,o,p,t,kind,y⟩:=fr;let⟨n,d,f,g⟩:=h;obtain _|⟨i,k⟩:=o;exact⟨n,d,f,g⟩;have q:=n i<|Zgo ..;have r:=λj a=>n j<|ZfF _ a;cases i with
 |inRegion x l=>
  obtain _|⟨i,u⟩:=l;exact⟨n,d,f,g⟩;exact⟨λj a=>by obtain rfl|a:=Zfi.1 a;exact q;exact r j a,d,f,g⟩
 |call=>cases q
 |extern=>cases q
 |inRangeFunc l=>exact⟨λj a=>by obtain rfl|a:=Zfi.1 a;rfl;exact r j a,d,f,g⟩
 |beginRound=>exact⟨r,d,f,g⟩
 |_=>exact⟨n,d,f,g⟩
def Vt(fr:Zg):Bool:=
 match fr.mode,fr.todo with
 | .run,.inRegion a (i::_)::_=>(match a[i]? with
   |some o=>Region.wanted o (yielded a fr.tmps)&&qP o.op
   |none=>xw)
 |_,_=>xw
theorem Z0Z ρ fr:Vt (Zw ρ fr)=Vt fr:=by
 let⟨fn,d,f,g,a,kind,n⟩:=fr;have l:=λh=>funext λj=>Dm ρ h d j;cases a<;>first|rfl|skip
 obtain _|⟨i,k⟩:=f;rfl;cases i<;>first|rfl|skip
 grind [Vt,Zw,XU,Yv]
theorem A1 ρ id:∀k,exitTo id (k.map<|Yv ρ)=(exitTo id k).map (List.map<|Yv ρ)
 | []=>rfl
 |i::k=>by
  have a:=A1 ρ id k;cases i<;>simp[Zft,Yv,exitTo]<;>first|exact a|(split<;>first|rfl|exact a)
theorem FG id:∀k a,exitTo id k=J a->∀i∈a,i∈k
 | [],a,h,i,d=>Zei
 |x::k,a,h,i,d=>by
  have f:=FG id k a;cases x<;>simp[exitTo]at h<;>first
   |exact ZfF _<|f h i d
   | (split at h
      cases h;exact ZfF _ d;exact ZfF _<|f h i d)
theorem Z2c Q r l:∀c f,YM Q r c=xk->findLabel c l=J f->YM Q r f=xk:=by
 intro c;induction c with
 |seq a b g j=>
  intro f h d;simp[YM,ZeZ]at h;simp[findLabel]at d;split at d;cases d;simp_all[YM,ZeZ];simp_all
 |label k=>
  intro f h d;simp only[findLabel]at d;split at d;cases d;rfl;cases d
 |_=>intro f h d;simp[findLabel]at d
theorem An ρ l:∀k,gotoIn l (k.map<|Yv ρ)=(gotoIn l k).map (List.map<|Yv ρ)
 | []=>rfl
 |i::k=>by
  have a:=An ρ l k;cases i<;>simp[Zft,Yv,gotoIn]<;>first|exact a|(split<;>first|rfl|exact a)
theorem Gl Q r l:∀k a,(∀i∈k,VF Q r i=xk)->gotoIn l k=J a->∀i∈a,VF Q r i=xk
 | [],a,f,h,i,d=>Zei
 |x::k,a,f,h,i,d=>by
  have o:=λj n=>f j<|ZfF _ n;have t:=Gl Q r l k a o;have q:=f x<|Zgo ..;cases x<;>simp[gotoIn]at h<;>first
   |exact t h i d
   | (split at h
      rename_i g p;cases h;obtain rfl|d:=Zfi.1 d;exact Z2c Q r l _ _ q p;grind;simp_all)
theorem qb ρ fr a:(Zw ρ fr).raise (a.map<|SZ ρ)=Zw ρ (fr.raise a):=by
 grind [Frame.raise,Zw,XU]
theorem qa{X:Cx}{fr}(h:X.OkF fr)j:X.OkF<|fr.raise j:=by
 let⟨fn,f,g,d,a,kind,k⟩:=fr;cases a<;>exact⟨h.todo,h.defers,h.kind,h.fn⟩
theorem Fy{X:Cx}{f}(d:X.re f)args kd:Frame.enter X.P f (args.map<|Zt X.ρ) kd=Zw X.ρ (Frame.enter X.Q f args kd):=by
 let⟨fn,c,g,a,h,j⟩:=d;have e:X.P.funcs[f]?=J fn:=a;simp_all[Frame.enter,Zw,Zfm,Zfv,Zf8,Yv,XU,Sb]
theorem Fx{X:Cx}{f}(a:X.re f)args kd(n:kd=.normal\/kd=.deferred):X.OkF<|Frame.enter X.Q f args kd:=by
 refine⟨λi g=> ?_,λd l=>(by cases l),n,.inl a⟩;let⟨fn,c,h,o,j,k⟩:=a;simp[Frame.enter,h,Zf8,j,Zfv,ZfZ]at g;subst g;exact k
def bot:Frame->List Frame->CallKind×Option Nat
 |a,[]=>(a.kind,a.roundOf)
 |_,c::d=>bot c d
structure Cx.St (X:Cx) (fr:Frame) (cs:List Frame):Prop where
 ba:X.OkF fr
 all:∀c∈cs,X.OkF c
 bot:bot fr cs=(.normal,U)
theorem Z7d{X:Cx}{fr cs}(h:X.St fr cs)c0 ds:
  (tryRecover fr (cs++[c0])=U/\tryRecover (Zw X.ρ fr) (cs.map (Zw X.ρ)++ds)=U)\/
  ∃v d,tryRecover fr (cs++[c0])=J (v,d++[c0])/\tryRecover (Zw X.ρ fr) (cs.map (Zw X.ρ)++ds)=J (Zt X.ρ v,d.map (Zw X.ρ)++ds)/\X.St fr d:=by
 let⟨o,u,p⟩:=h;have q:(Zw X.ρ fr).kind=fr.kind:=rfl;obtain y|w:=o.kind;left;unfold tryRecover;rw[q,y];exact⟨rfl,rfl⟩;obtain _|⟨c,cs⟩:=cs;simp_all[Vm.bot];have l:=u c<|Zgo ..;simp[Zft,Zgc];unfold tryRecover;rw[q,w];let⟨fn,j,k,a,g,kind,z⟩:=c;cases g with
 |run=>exact .inl ⟨rfl,rfl⟩
 |returning=>exact .inl ⟨rfl,rfl⟩
 |panicking t=>
  obtain _|⟨e,f⟩:=t;exact .inl ⟨rfl,rfl⟩;let⟨v,n,ge⟩:=e;cases n;cases ge;refine .inr ⟨v,⟨fn,j,k,a,.panicking<|{v,recovered:=xk}::f,kind,z⟩::cs,rfl,rfl,o,λx r=> ?_,?_⟩;obtain rfl|r:=Zfi.1 r;exact⟨l.todo,l.defers,l.kind,l.fn⟩;simp_all;cases cs with
  |nil=>exact p
  |cons=>exact p
  exact .inl ⟨rfl,rfl⟩;exact .inl ⟨rfl,rfl⟩
theorem F1{fr fr'}cs(h:fr'.kind=fr.kind)(h2:fr'.roundOf=fr.roundOf):bot fr' cs=bot fr cs:=by
 cases cs with
 |nil=>simp_all[bot]
 |cons=>rfl
theorem Cx.St.with{X:Cx}{fr fr' cs}(h:X.St fr cs)(a:X.OkF fr')(d:fr'.kind=fr.kind)(f:fr'.roundOf=fr.roundOf):X.St fr' cs:=⟨a,h.all,(F1 cs d f).trans h.bot⟩
theorem Cx.St.push{X:Cx}{fr fr' cs}(h:X.St fr cs)(d:X.OkF fr'):X.St fr'<|fr::cs:=⟨d,λc a=>by obtain rfl|a:=Zfi.1 a;exact h.ba;exact h.all c a,h.bot⟩
theorem Cx.St.sq{X:Cx}{fr c a cs}(h:X.St fr<|c::cs)(d:X.OkF a)(f:a.kind=c.kind)(g:a.roundOf=c.roundOf):X.St a cs:=⟨d,λx j=>h.all x<|ZfF _ j,(F1 cs f g).trans h.bot⟩
theorem QG(fr:Zg)v:(fr.finish v).kind=fr.kind:=by
 grind [Frame.finish]
theorem QI(fr:Zg)v:(fr.finish v).roundOf=fr.roundOf:=by
 grind [Frame.finish]
theorem qc(fr:Zg)a:(fr.raise a).roundOf=fr.roundOf:=by
 grind [Frame.raise]
theorem yZ(fr:Zg)a:(fr.raise a).kind=fr.kind:=by
 grind [Frame.raise]
end
section
def RS(fr:Zg)(j:Option Code):Sem Unit:=
 match fr.roundOf with
 |some l=>Instr.endRound l j>>=λ_=>pure ()
 |none=>pure ()
def Yw(fr:Zg):Sem Unit:=
 match fr.mode with
 | .run=>
   match fr.todo with
   | []=>RS fr U
   |.code .ret::_=>RS fr<|J .ret
   |.code (.exit id)::k=>if(exitTo id k).isSome then pure ()else RS fr<|J<|.exit id
   |.code (.goto l)::k=>if(gotoIn l k).isSome then pure ()else RS fr<|J<|.goto l
   | .code (.rangeFunc f a assign g)::_=>Instr.enterLoop fr.fn fr.tmps a assign g fr.roundOf>>=λx=>
     (do let d<-resolve fr.eval {callee:=.value f,args:=#[.const<|.func (.yield x.1) #[] #[]],argTypes:=#[]} 0;invoke d.target d.args)>>=λ_=>pure ()
   |.beginRound::_=>fr.roundOf.elim (stuck "beginRound: no round") Instr.beginRound
   |.endRangeFunc l::_=>Instr.endLoop l>>=λ_=>pure ()
   |.code (.region id _ xk)::_=>choose (.order fr.fn id)>>=λ_=>pure ()
   | .inRegion h (i::_)::_=>(match h[i]? with
     |some o=>if Region.wanted o (yielded h fr.tmps)then execOp fr.eval o>>=λ_=>pure ()else pure ()
     |none=>pure ())
   |_=>pure ()
 |_=>match fr.defers with
  | {target:=.collected b, .. }::_=>Instr.takeDeferred b>>=λ_=>pure ()
  |d::_=>invoke d.target d.args>>=λ_=>pure ()
  | []=>(match fr.mode with
    | .returning=>program>>=λp=>(match p.funcs[fr.fn]? with
      |some fn=>results fn fr.tmps>>=λ_=>pure ()
      |none=>pure ())
    |_=>pure ())
theorem Rc{α}p(s:Sem α)w:Y2 ((s>>=λ_=>(pure ():Sem Unit)).run p w)=Y2 (s.run p w):=by
 rw[ZfJ];cases s.run p w<;>rfl
def Cx.br(X:Cx)(a wc W:Z3):Prop:=(∀j,wc.drawn+j<W.drawn->a.tape (a.drawn+j)=wc.tape (wc.drawn+j))/\∀j,xz (xj wc)+j<xz (xj W)->X.ρ (xz (xj a)+j)=xz (xj wc)+j
def Cx.Img.ic{X:Cx}{α β RA}{s:Sem α}{f:Sem β}(h:X.Img RA [] s f){a wc}(g:X.WR a wc)(d:X.br a wc<|Y2<|f.run X.P wc):=
 h.run a wc #[] g (λ_ h=>Zei) d.1 d.2
theorem Cx.Aft.es{X:Cx}{g wc f d es a es2}(h:X.Aft g wc f d es a)(k:∀e∈es2,e∈a):X.Aft g wc f d es es2:=
 ⟨h.wr,h.sz,h.pv,h.dr,h.oh,h.tl,h.tc,h.oc,h.new,h.keep,λe j=>h.ml e Ze3,h.nr⟩
abbrev Z7:=List Frame
def Cx.dz(X:Cx)(c0:Zg)(ds:Z7)(h wc W:Z3)(s g:GStep):Prop:=
 (∃o w es,s=.ended o w es)\/
 ∃fr cs d f a,s=.go (Conc.G fr<|cs++[c0]) d f/\g=.go (Conc.G (Zw X.ρ fr)<|cs.map (Zw X.ρ)++ds) W a/\X.St fr cs/\X.Aft h wc d W #[] a
section
variable {X:Cx}{c0:Zg}{ds:Z7}
def Qc{α}p(s:Sem α)w es:∃a,s.runT p w es=(s.run p w,a):=⟨_,Zhy (Zh1 p s w es) rfl⟩
def Ut(fr:Zg):Prop:=(match fr.todo with|.call _ xk _ _::_=>CallKind.wrapped|_=>.normal)=.normal/\(fr.kind==.early)=xw
def Cx.OkF.plain{fr}(h:X.OkF fr):Ut fr:=by
 constructor;have a:=h.todo;cases e:fr.todo with
 |nil=>rfl
 |cons i k=>
  have:=a i Ze3;cases i<;>first|rfl|cases this
 obtain e|e:=h.kind<;>rw[e]<;>rfl
def Z6F{ρ fr}(h:Ut fr):Ut<|Zw ρ fr:=by
 refine⟨?_,h.2⟩;have g:=h.1;let⟨fn,l,a,f,j,kind,n⟩:=fr;obtain _|⟨i,k⟩:=a;rfl;cases i with
 |call d b r s=>cases b<;>exact g
 |_=>exact g
section
variable {p:Z6}{fr:Zg}{cs:Z7}{s:Sem Next}{w w':Z3}{es:Zd}
def EN(h:Ut fr){v}(e:s.runT p w #[]=(.ok (.value v) w',es)):stepG.apply p xk fr cs U s w=.go (Conc.G (fr.finish v) cs) w' (seen p fr.fn es):=by
 unfold stepG.apply Conc.G;simp only[ZfT,e,h.2,Zfk,ZfV,GStep.after,ZfQ]
def EL(h:Ut fr)(e:s.runT p w #[]=(.ok .skip w',es)):stepG.apply p xk fr cs U s w=.go (Conc.G (fr.finish xy) cs) w' (seen p fr.fn es):=by
 unfold stepG.apply Conc.G;simp only[ZfT,e,h.2,Zfk,ZfV,GStep.after,ZfQ]
def EH(h:Ut fr){f args}(e:s.runT p w #[]=(.ok (.enter f args) w',es)):stepG.apply p xk fr cs U s w=.go (Conc.G (Frame.enter p f args .normal)<|fr::cs) w' (seen p fr.fn es):=by
 unfold stepG.apply Conc.G;simp only[e,h.2];exact Zg6 (λk=>GStep.go (Conc.G _ _) w' _) h.1
def EK(h:Ut fr){l f d a b}(e:s.runT p w #[]=(.ok (.round l f d a b) w',es)):stepG.apply p xk fr cs U s w=.go (Conc.G (Frame.round l f d a b .normal)<|fr::cs) w' (seen p fr.fn es):=by
 unfold stepG.apply Conc.G;simp only[ZfT,e,h.2,Zfk,ZfV,GStep.after,ZfQ]
def EG(h:Ut fr){d}(e:s.runT p w #[]=(.ok (.defer d) w',es)):stepG.apply p xk fr cs U s w=.go (Conc.G ({fr with defers:=d::fr.defers}.finish xy) cs) w' (seen p fr.fn es):=by
 unfold stepG.apply Conc.G;simp only[ZfT,e,h.2,Zfk,ZfV,GStep.after,ZfQ]
def EJ(h:Ut fr){v}(e:s.runT p w #[]=(.halt (.panic v) w',es)):stepG.apply p xk fr cs U s w=.go (Conc.G (fr.raise [{v,recovered:=xw}]) cs) w' (seen p fr.fn es):=by
 unfold stepG.apply Conc.G;simp only[ZfT,e,h.2,Zfk,ZfV,GStep.after,ZfQ]
def EI(h:Ut fr)(d:fr.roundOf=U)(e:s.runT p w #[]=(.ok .recover w',es))(a:tryRecover fr cs=U):stepG.apply p xk fr cs U s w=.go (Conc.G (fr.finish .nilIface) cs) w' (seen p fr.fn es):=by
 unfold stepG.apply Conc.G;simp only[ZfT,e,h.2,d,a,Zfk,ZfV,GStep.after,ZfQ]
def EM(h:Ut fr)(f:fr.roundOf=U){v a}(e:s.runT p w #[]=(.ok .recover w',es))(d:tryRecover fr cs=J (v,a)):stepG.apply p xk fr cs U s w=.go (Conc.G (fr.finish v) a) w' (seen p fr.fn es):=by
 unfold stepG.apply Conc.G;simp only[ZfT,e,h.2,f,d,Zfk,ZfV,GStep.after,ZfQ]
def jv{h}(f:bad h)(e:s.runT p w #[]=(.halt h w',es)):∃o d a,stepG.apply p xk fr cs U s w=.ended o d a:=by
 unfold stepG.apply;simp only[e];cases h<;>first|exact f.elim|skip
 rename_i u;cases u<;>first|exact f.elim|exact⟨_,_,_,rfl⟩
 exact⟨_,_,_,rfl⟩
end
def Zdf{ρ}l f d a b kd:Frame.round (ρ l) f (d.map<|Zt ρ) a b kd=Zw ρ (Frame.round l f d a b kd):=by
 rfl
def Nz{fr}(h:X.OkF fr)l f(p:X.nu f)g a b(k:YM X.Q xk a=xk)(n:YM X.Q xk b=xk)kd(q:kd=.normal\/kd=.deferred):X.OkF<|Frame.round l f g a b kd:=by
 refine⟨λi j=> ?_,λd o=>(by cases o),q,p⟩;simp[Frame.round]at j;obtain rfl|rfl|rfl:=j;exact k;rfl;exact n
def Ql{β P W wc a}{f:Sem β}{r d}(g:W=Y2 (f.run P wc))(e:f.runT P wc #[]=(r,d))(h:Y2 r=a):W=a:=by
 simp_all
def CL{fr cs}(h:X.St fr cs){s K}(hi:X.Img (X.NR fr.roundOf.isSome) [] s K){D wc}(hw:X.WR D wc){W}(hW:W=Y2 (K.run X.P wc))(ha:X.br D wc W):
  X.dz c0 ds D wc W (stepG.apply X.Q xk fr (cs++[c0]) U s D) (stepG.apply X.P xk (Zw X.ρ fr) (cs.map (Zw X.ρ)++ds) U K wc):=by
 have C:=hi.ic hw Ze3;have F:∀r p g,K.runT X.P wc #[]=(r,g)->Y2 r=p->W=p:=Ze3;have w:=h.ba.plain;have k:=Z6F (ρ:=X.ρ) w;let⟨S,q⟩:=Qc X.Q s D #[];cases R:s.run X.Q D with
 |halt x j=>
  rw[R]at q C;cases x with
  |panic v=>
   let⟨p,g,t,u⟩:=C;obtain rfl:=F _ p _ t rfl;refine .inr ⟨fr.raise [{v,recovered:=xw}],cs,j,_,seen X.P fr.fn g,EJ w q,?_,h.with (qa h.ba _) (yZ _ _)<|qc _ _,u.es λe n=>mem_seen n⟩;rw[<-qb];exact EJ k t
  |stuck=>exact .inl<|jv (h:=.stuck _) C q
  |unsupported=>exact .inl<|jv (h:=.unsupported _) C q
  |_=>exact False.elim C
 |ok a j=>
  rw[R]at q C;let⟨b,p,g,t,A,u⟩:=C;obtain rfl:=F _ p _ t rfl;have fin:=λv=>h.with (QH h.ba v) (QG _ _)<|QI _ _;have o:=λv=>K5 X.ρ X.Q fr v h.ba.todo;cases a with
  |value v=>
   obtain rfl:b=_:=A;refine .inr ⟨fr.finish v,cs,j,_,seen X.P fr.fn g,EN w q,?_,fin v,u.es λe n=>mem_seen n⟩;rw[<-o];exact EN k t
  |skip=>
   obtain rfl:b=_:=A;refine .inr ⟨fr.finish xy,cs,j,_,seen X.P fr.fn g,EL w q,?_,fin xy,u.es λe n=>mem_seen n⟩;rw[<-o,Sb];exact EL k t
  |enter f args=>
   obtain⟨rfl,H⟩:b=_/\_:=A;refine .inr ⟨Frame.enter X.Q f args .normal,fr::cs,j,_,seen X.P fr.fn g,EH w q,?_,h.push<|Fx H args _ Z1,u.es λe n=>mem_seen n⟩;rw[<-Fy H];exact EH k t
  |round l f z a c=>
   obtain⟨rfl,T,Y,H⟩:b=_/\_:=A;refine .inr ⟨Frame.round l f z a c .normal,fr::cs,j,_,seen X.P fr.fn g,EK w q,?_,h.push<|Nz h.ba l f H z a c T Y _ Z1,u.es λe n=>mem_seen n⟩;exact EK k t
  |defer d=>
   obtain⟨rfl,Z⟩:b=_/\_:=A;have G:X.OkF {fr with defers:=d::fr.defers}:=⟨h.ba.todo,λx M=>by obtain rfl|M:=Zfi.1 M;exact Z;exact h.ba.defers x M,h.ba.kind,h.ba.fn⟩;refine .inr ⟨({fr with defers:=d::fr.defers}:Frame).finish xy,cs,j,_,seen X.P fr.fn g,EG w q,?_,h.with (QH G _) (QG _ _)<|QI _ _,u.es λe n=>mem_seen n⟩;rw[<-K5 X.ρ X.Q _ _ G.todo,Sb];exact EG k t
  |recover=>
   obtain⟨rfl,a0⟩:b=_/\_:=A;have B:fr.roundOf=U:=by cases e:fr.roundOf with
    |none=>rfl
    |some l=>simp_all
   have y:(Zw X.ρ fr).roundOf=U:=by simp[Zw,B]
   obtain⟨N,O⟩|⟨v,L,N,O,hs⟩:=Z7d h c0 ds;refine .inr ⟨fr.finish .nilIface,cs,j,_,seen X.P fr.fn g,EI w B q N,?_,fin _,u.es λe n=>mem_seen n⟩;rw[<-o,S9];exact EI k y t O;refine .inr ⟨fr.finish v,L,j,_,seen X.P fr.fn g,EM w B q N,?_,hs.with (QH h.ba v) (QG _ _)<|QI _ _,u.es λe n=>mem_seen n⟩;rw[<-o];exact EM k y t O
  |_=>exact A.elim
def Fq ρ:∀l:List PanicEntry,(l.map<|SZ ρ).dropWhile (!·.goexit)=(l.dropWhile (!·.goexit)).map (SZ ρ)
 | []=>rfl
 |e::l=>by
  simp[List.dropWhile_cons];have:(SZ ρ e).goexit=e.goexit:=rfl;rw[this];cases e.goexit;exact Fq ρ l;rfl
def TF(c:Zg):Frame:=
 match c.mode with
 | .panicking ({recovered:=xk, .. }::a)=>
   match a.dropWhile (!·.goexit)with
   | []=> {c with mode:=.returning}
   |d=> {c with mode:=.panicking d}
 |_=>c
theorem Z12 ρ c:TF (Zw ρ c)=Zw ρ (TF c):=by
 let⟨fn,h,j,f,d,kind,l⟩:=c;cases d with
 |panicking k=>
  obtain _|⟨e,a⟩:=k;rfl;let⟨v,g,ge⟩:=e;cases g;rfl;simp[TF,Zw,XU,SZ];have:=Fq ρ a;rw[this];cases a.dropWhile _<;>rfl
 |_=>rfl
def jA c:(TF c).kind=c.kind/\(TF c).roundOf=c.roundOf/\(X.OkF c->X.OkF (TF c)):=by
 unfold TF;split;split<;>exact⟨rfl,rfl,λh=>⟨h.todo,h.defers,h.kind,h.fn⟩⟩;simp
def qi{p main fr c cs v w}(h:fr.kind=.normal):doReturn p main fr (c::cs) U v w=.go (G (c.finish v) cs) w:=by
 simp[doReturn,h,Conc.G]
theorem Nv{p main fr c cs v w}(h:fr.kind=.deferred):doReturn p main fr (c::cs) U v w=.go (G (TF c) cs) w:=by
 simp[doReturn,h];rfl
def CM{main fr c cs}(h:X.St fr<|c::cs)v g wc:
  ∃a,doReturn X.Q xk fr (c::cs++[c0]) U v g=.go (G a<|cs++[c0]) g/\doReturn X.P main (Zw X.ρ fr) ((c::cs).map (Zw X.ρ)++ds) U (Zt X.ρ v) wc=.go (G (Zw X.ρ a)<|cs.map (Zw X.ρ)++ds) wc/\X.St a cs:=by
 have d:=h.all c Z1;obtain f|f:=h.ba.kind;refine⟨c.finish v,qi f,?_,h.sq (QH d v) (QG _ _)<|QI _ _⟩;rw[<-K5 X.ρ X.Q c v d.todo];simp_all[qi,Zw];refine⟨TF c,Nv f,?_,h.sq ((jA c).2.2 d) (jA (X:=X) c).1 (jA (X:=X) c).2.1⟩;grind [Z12,Nv,Zw]
def Sim.same{fr cs}(h:X.St fr cs){a wc}(d:X.WR a wc):X.dz c0 ds a wc wc (.go (G fr<|cs++[c0]) a)<|.go (G (Zw X.ρ fr)<|cs.map (Zw X.ρ)++ds) wc:=
 .inr ⟨fr,cs,a,_,_,rfl,rfl,h,.refl _ d⟩
end
end
section
section
variable {X:Cx}{c0:Zg}{ds:Z7}
def Cx.br.mono{a wc W W':Z3}(h:X.br a wc W)(f:xz (xj W')<=xz (xj W)/\W'.drawn<=W.drawn):X.br a wc W':=
 ⟨λj d=>h.1 j Z0,λj d=>h.2 j Z0⟩
def Cx.br.next{k wc d a W:Z3}{es g:Zd}(h:X.br k wc W)(f:X.Aft k wc d a es g):X.br d a W:=by
 have n:=f.dr;have o:=f.oh;have p:=f.sz;have q:=f.pv;refine⟨λj l=> ?_,λj l=> ?_⟩;have:=h.1 (a.drawn-wc.drawn+j) Z0;rw[f.tl,f.tc,show d.drawn+j=k.drawn+(a.drawn-wc.drawn+j)from by omega,this];grind;have:=h.2 (xz (xj a)-xz (xj wc)+j) Z0;grind
def Cx.Aft.ul{j wc f d:Z3}{es:Zd}(a:Zd)(h:X.Aft j wc f d #[] es):X.Aft j wc f d a<|a++es:=
 ⟨h.wr,h.sz,h.pv,h.dr,h.oh,h.tl,h.tc,h.oc,h.new,h.keep,λe g=>by
  obtain g|g:=Zgy.1 g;grind;obtain h|h:=h.ml e g;simp at h;simp_all,h.nr⟩
def Cx.dz.after{l wc f d W:Z3}{g a:Zd}{s k:GStep}(n:X.Aft l wc f d #[] a)(h:X.dz c0 ds f d W s k):X.dz c0 ds l wc W (GStep.after g s)<|GStep.after a k:=by
 obtain⟨o,w,y,rfl⟩|⟨t,p,j,r,q,rfl,rfl,x,u⟩:=h;exact .inl ⟨_,_,_,rfl⟩;exact .inr ⟨t,p,j,_,_,rfl,rfl,x,n.trans<|u.ul a⟩
def TU(p:Z6)(main:Bool)(fr:Zg)(cs:Z7)(j:Option Code)(YL:GStep)(w:Z3):GStep:=
 match fr.roundOf with
 |none=>if(match j with|none|some .ret=>xk|_=>xw)then .go (G {fr with mode:=.returning} cs) w else YL
 |some l=>
  let(r,es):=(Instr.endRound l j).runT p w #[]
  GStep.after (seen p fr.fn es)<|match r with
  |.ok v w=>doReturn p main fr cs U v w
  |.halt _ w=>.ended (.stuck "range over a function: no such loop" (fr.pos p)) w
def qF(ok:X.Ok){main:Bool}{fr:Zg}{cs:Z7}(h:X.St fr cs)(j:Option Code)(K:j.all QS=xk){o:Outcome}{R:Z3}{B:Zd}(YL:GStep){g wc:Z3}(y:X.WR g wc)
  {W:Z3} (d:W=Y2 ((RS (Zw X.ρ fr) j).run X.P wc)) (F:X.br g wc W):
  X.dz c0 ds g wc W (TU X.Q xk fr (cs++[c0]) j (.ended o R B) g) (TU X.P main (Zw X.ρ fr) (cs.map (Zw X.ρ)++ds) j YL wc):=by
 cases n:fr.roundOf with
 |none=>
  have a:(Zw X.ρ fr).roundOf=U:=by simp[Zw,n]
  obtain rfl:W=wc:=by
   unfold RS at d;rw[a]at d;exact d
  have r:=Sim.same (c0:=c0) (ds:=ds) (fr:= {fr with mode:=.returning}) (cs:=cs) (h.with ⟨h.ba.todo,h.ba.defers,h.ba.kind,h.ba.fn⟩ rfl rfl) y;have e:∀(p:Z6) (main:Bool) (fr:Zg) (cs:Z7) (YL:GStep) (w:Z3),fr.roundOf=U->TU p main fr cs j YL w=if(match j with|none|some .ret=>xk|_=>xw)then .go (G {fr with mode:=.returning} cs) w else YL:=λp main fr cs YL w h=>by
   unfold TU;split;rfl;rename_i l e;rw[h]at e;cases e
  rw[e _ _ _ _ _ _ n,e _ _ _ _ _ _ a];generalize (match j with|none|some .ret=>xk|_=>xw)=b;cases b;exact .inl ⟨_,_,_,rfl⟩;exact r
 |some l=>
  have a:(Zw X.ρ fr).roundOf=J (X.ρ l):=by simp[Zw,n]
  unfold RS at d;unfold TU;rw[a,n];rw[a]at d;dsimp only at d⊢;rw[Rc]at d;have u:=(Z3l (V:=[]) ok l j K).ic y<|d▸F;obtain⟨D,A⟩:=Qc X.Q (Instr.endRound l j) g #[];rw[A];cases L:(Instr.endRound l j).run X.Q g with
  |halt x f=>exact .inl ⟨_,_,_,rfl⟩
  |ok v f=>
   rw[L]at u;obtain⟨b,O,C,t,H,z⟩:=u;obtain rfl:=Ql d t rfl;obtain rfl:b=_:=H;rw[t];dsimp only;obtain _|⟨c,cs⟩:=cs;have:=h.bot;simp only[bot,n,Zf9,reduceCtorEq,and_false]at this;obtain⟨q,M,N,r⟩:=CM (c0:=c0) (ds:=ds) (main:=main) h v f W;rw[M,N];refine .inr ⟨q,cs,f,_,_,rfl,rfl,r,(z.es λe k=> ?_)⟩;obtain k|k:=Zgy.1 k;exact mem_seen k;simp at k
abbrev Zn:=List Item
def qG{fr:Zg}{cs:Z7}(h:X.St fr cs)(k:Zn)(d:∀i∈k,VF X.Q fr.roundOf.isSome i=xk){a wc:Z3}(f:X.WR a wc):
  X.dz c0 ds a wc wc (.go (G {fr with todo:=k}<|cs++[c0]) a) (.go (G {Zw X.ρ fr with todo:=k.map (Yv X.ρ)}<|cs.map (Zw X.ρ)++ds) wc):=
 Sim.same (fr:= {fr with todo:=k}) (h.with ⟨d,h.ba.defers,h.ba.kind,h.ba.fn⟩ rfl rfl) f
def Z7X{α β:Type}{RA:α->β->Prop}{k wc g:Z3}{es:Zd}{a:α}{j:Sem β}(h:X.bd RA k wc es (.ok a g)<|j.runT X.P wc es):∃b d f,j.run X.P wc=.ok b d/\RA a b/\X.Aft k wc g d es f:=by
 obtain⟨b,d,f,e,l,n⟩:=h;grind [Sem.runT_fst]
def Z46{c:Code}(h:QS c=xk)(Q:Z6)(r:Bool):YM Q r c=xk:=by cases c<;>first|rfl|cases h
abbrev Zl:=Array Oper
def JX{p:Z6}{main:Bool}{fr:Zg}{cs:Z7}{w:Z3}{ops:Zl}{i:Nat}{rest:Zb}{k:Zn}{o:Oper}(f:fr.todo=.inRegion ops (i::rest)::k)(q:ops[i]?=J o)
  (g:Region.wanted o (yielded ops fr.tmps)=xk) (d:fr.roundOf.isSome=xk->∀c,o.op≠.defer c):stepG.exec p main xk fr cs U w=stepG.apply p xk fr cs U (execOp fr.eval o) w:=by
 obtain⟨fn,j,n,a,h,kind,r⟩:=fr;dsimp only at f g d;subst f;simp only[stepG.exec,q,Zfm,g,Zfv,ZfT,stepG.oper,Frame.oper?];obtain _|l:=r;rfl;split;rename_i c e;exact absurd e<|d rfl _;rfl
def FF{p:Z6}{main:Bool}{fr:Zg}{cs:Z7}{w:Z3}{ops:Zl}{i:Nat}{rest:Zb}{k:Zn}(d:fr.todo=.inRegion ops (i::rest)::k)
  (f:((ops[i]?).map (Region.wanted · (yielded ops fr.tmps))).getD xw=xw):stepG.exec p main xk fr cs U w=.go (G (fr.finish xy) cs) w:=by
 obtain⟨fn,h,j,a,g,kind,l⟩:=fr;dsimp only at d f;subst d;simp only[stepG.exec,f,Zfk,ZfV];rfl
def Z8w(ok:X.Ok){main:Bool}{fr:Zg}{cs:Z7}(h:X.St fr cs){ops:Zl}{i:Nat}{rest:Zb}{k:Zn}(t:fr.todo=.inRegion ops (i::rest)::k)(A:fr.mode=.run)(C:Vt fr=xw){p wc:Z3}(u:X.WR p wc)
  {W:Z3} (d:W=Y2 ((Yw<|Zw X.ρ fr).run X.P wc)) (y:X.br p wc W):X.dz c0 ds p wc W (stepG.exec X.Q xk xk fr (cs++[c0]) U p)<|stepG.exec X.P main xk (Zw X.ρ fr) (cs.map (Zw X.ρ)++ds) U wc:=by
 have a:(Zw X.ρ fr).todo=.inRegion ops (i::rest)::k.map (Yv X.ρ):=by simp[Zw,t,Yv]
 have w:yielded ops (Zw X.ρ fr).tmps=yielded ops fr.tmps:=funext λj=>Dm X.ρ ops fr.tmps j;have g:(Zw X.ρ fr).mode=.run:=by simp[Zw,A,XU]
 have skip:W=wc->((ops[i]?).map (Region.wanted · (yielded ops fr.tmps))).getD xw=xw->X.dz c0 ds p wc W (stepG.exec X.Q xk xk fr (cs++[c0]) U p) (stepG.exec X.P main xk (Zw X.ρ fr) (cs.map (Zw X.ρ)++ds) U wc):=λq B=>by
  subst q;rw[FF t B,FF a Ze2];have:=K5 X.ρ X.Q fr xy h.ba.todo;rw[Sb]at this;rw[this];exact Sim.same (h.with (QH h.ba _) (QG _ _)<|QI _ _) u
 have f:VF X.Q fr.roundOf.isSome (.inRegion ops<|i::rest)=xk:=h.ba.todo _ Ze3;cases n:ops[i]? with
 |none=>
  refine skip ?_ Ze2;unfold Yw at d;rw[g,a]at d;simp only[n]at d;exact d
 |some o=>
  cases l:Region.wanted o (yielded ops fr.tmps)with
  |false=>
   refine skip ?_ Ze3;unfold Yw at d;rw[g,a]at d;simp only[n,w,l,Zfk,ZfV]at d;exact d
  |true=>
   have r:XI X.Q fr.roundOf.isSome o.op=xk:=by
    simp only[VF,Zh0]at f;exact f o<|Zhs n
   have z:fr.roundOf.isSome=xk->∀c,o.op≠.defer c:=λF c e=>by
    simp_all[XI]
   rw[JX t n l z,JX a n Ze3 (by simp_all[Zw])];refine CL h (Z3p (λx D=>Rz X.ρ fr x D) (λv=>rfl) ok o r<|by simp_all[Vt]) u ?_ y;have e:Yw (Zw X.ρ fr)=(execOp (Zw X.ρ fr).eval o>>=λ_=>pure ()):=by
    unfold Yw;rw[g,a];simp only[n,w,l,ZfT]
   grind [Rc]
end
end
section
section
variable {X:Cx}{c0:Zg}{ds:Z7}
def yB{X:Cx}{fr}(h:X.OkF fr){i k}(e:fr.todo=i::k):VF X.Q fr.roundOf.isSome i=xk/\∀j∈k,VF X.Q fr.roundOf.isSome j=xk:=
 ⟨h.todo _ Ze3,λj a=>h.todo _ Ze3⟩
def Z3R{V rd s a}(h:X.Img Eq V s a):X.Img (X.NR rd) V (do s;pure .skip:Sem Next) (do a;pure .skip:Sem Next):=zQ h
def Z8r(ok:X.Ok){main fr cs}(h:X.St fr cs){k}(o:fr.todo=.beginRound::k)(y:fr.mode=.run){f wc}(z:X.WR f wc)
  {W} (g:W=Y2 ((Yw<|Zw X.ρ fr).run X.P wc)) (u:X.br f wc W):X.dz c0 ds f wc W (stepG.exec X.Q xk xk fr (cs++[c0]) U f)<|stepG.exec X.P main xk (Zw X.ρ fr) (cs.map (Zw X.ρ)++ds) U wc:=by
 have n:∀p main fr cs k w,fr.todo=.beginRound::k->stepG.exec p main xk fr cs U w=stepG.apply p xk fr cs U (do fr.roundOf.elim _ Instr.beginRound;pure .skip) w:=λp main fr cs k w e=>by
  let⟨fn,r,t,d,q,kind,A⟩:=fr;subst e;rfl
 have a:(Zw X.ρ fr).todo=.beginRound::k.map (Yv X.ρ):=by simp[Zw,o,Yv]
 have j:(Zw X.ρ fr).mode=.run:=by simp[Zw,y,XU]
 rw[n _ _ _ _ _ _ o,n _ _ _ _ _ _ a];have x:X.Img Eq [] (fr.roundOf.elim (stuck "beginRound: no round") Instr.beginRound) ((Zw X.ρ fr).roundOf.elim (stuck "beginRound: no round") Instr.beginRound):=by
  show X.Img Eq [] _<|(fr.roundOf.map X.ρ).elim _ _;cases fr.roundOf with
  |none=>exact Zz _ _
  |some l=>exact Z2Y ok l
 refine CL h (Z3R x) z ?_ u;unfold Yw at g;rw[j,a]at g;rw[g,ZfJ];cases((Zw X.ρ fr).roundOf.elim _ Instr.beginRound).run X.P wc<;>rfl
def Z8u(ok:X.Ok){main fr cs}(h:X.St fr cs){l k}(C:fr.todo=.endRangeFunc l::k)(T:fr.mode=.run){g wc}(Y:X.WR g wc)
  {W} (z:W=Y2 ((Yw<|Zw X.ρ fr).run X.P wc)) (O:X.br g wc W):X.dz c0 ds g wc W (stepG.exec X.Q xk xk fr (cs++[c0]) U g)<|stepG.exec X.P main xk (Zw X.ρ fr) (cs.map (Zw X.ρ)++ds) U wc:=by
 have F:∀p main fr cs l k w,fr.todo=.endRangeFunc l::k->stepG.exec p main xk fr cs U w=
   GStep.after (seen p fr.fn ((Instr.endLoop l).runT p w #[]).2) (match((Instr.endLoop l).runT p w #[]).1 with
    |.ok r w=>.go (G {fr with todo:=(r.map Item.code).toList++k} cs) w
    |.halt (.panic v) w=>.go (G (fr.raise [{v,recovered:=xw}]) cs) w
    |.halt _ w=>.ended (.stuck "range over a function: no such loop" (fr.pos p)) w):=λp main fr cs l k w e=>by
  let⟨fn,L,todo,t,K,kind,Z⟩:=fr;subst e;rfl
 have q:(Zw X.ρ fr).todo=.endRangeFunc (X.ρ l)::k.map (Yv X.ρ):=by simp[Zw,C,Yv]
 have B:(Zw X.ρ fr).mode=.run:=by simp[Zw,T,XU]
 rw[F _ _ _ _ _ _ _ C,F _ _ _ _ _ _ _ q];have A:W=Y2 ((Instr.endLoop<|X.ρ l).run X.P wc):=by
  unfold Yw at z;rw[B,q]at z;rwa[Rc]at z
 have u:=(Z3k (V:=[]) ok l).ic Y<|A▸O;let⟨N,M⟩:=Qc X.Q (Instr.endLoop l) g #[];rw[M];cases H:(Instr.endLoop l).run X.Q g with
 |halt x f=>
  rw[H]at u;cases x with
  |panic v=>
   let⟨D,d,n,y⟩:=u;obtain rfl:=Ql A n rfl;rw[n];refine .inr ⟨fr.raise [{v,recovered:=xw}],cs,f,_,_,rfl,?_,h.with (qa h.ba _) (yZ _ _)<|qc _ _,(y.es (es2:=seen X.P fr.fn d++ #[]) λe o=> ?_)⟩;rw[<-qb];rfl;rw[ZfQ]at o;exact mem_seen o
  |_=>exact .inl ⟨_,_,_,rfl⟩
 |ok j f=>
  rw[H]at u;obtain⟨b,D,d,n,⟨rfl,R⟩,y⟩:=u;obtain rfl:=Ql A n rfl;rw[n];let⟨a,S⟩:=yB h.ba C;refine .inr ⟨{fr with todo:=(j.map Item.code).toList++k},cs,f,_,_,rfl,?_,h.with ⟨λi a=> ?_,h.ba.defers,h.ba.kind,h.ba.fn⟩ rfl rfl,(y.es (es2:=seen X.P fr.fn d++ #[]) λe o=> ?_)⟩;cases j<;>simp[Zw,Yv,GStep.after];obtain a|a:=Zfs.1 a;obtain _|c:=j;cases a;simp[Zfm,Option.toList_some,ZfZ]at a;subst a;exact Z46 (by simpa using R) _ _;exact S i a;rw[ZfQ]at o;exact mem_seen o
def Z8t(ok:X.Ok){main fr cs}(h:X.St fr cs){id ops k}(o:fr.todo=.code (.region id ops xk)::k)(L:fr.mode=.run){f wc}(N:X.WR f wc)
  {W} (l:W=Y2 ((Yw<|Zw X.ρ fr).run X.P wc)) (F:X.br f wc W):X.dz c0 ds f wc W (stepG.exec X.Q xk xk fr (cs++[c0]) U f)<|stepG.exec X.P main xk (Zw X.ρ fr) (cs.map (Zw X.ρ)++ds) U wc:=by
 have r:∀p main fr cs k w,fr.todo=.code (.region id ops xk)::k->stepG.exec p main xk fr cs U w=
   (match(choose<|.order fr.fn id).run p w with
    |.ok t w=>.go (G {fr with todo:=.inRegion ops (Region.schedule _ ops t)::k} cs) w
    |.halt _ w=>.ended (.stuck "order" (fr.pos p)) w):=λp main fr cs k w e=>by
  let⟨fn,B,todo,j,A,kind,R⟩:=fr;subst e;rfl
 have d:(Zw X.ρ fr).todo=.code (.region id ops xk)::k.map (Yv X.ρ):=by simp[Zw,o,Yv]
 have n:(Zw X.ρ fr).mode=.run:=by simp[Zw,L,XU]
 rw[r _ _ _ _ _ _ o,r _ _ _ _ _ _ d];have z:W=Y2 ((choose<|.order fr.fn id).run X.P wc):=by
  unfold Yw at l;rw[n,d]at l;rwa[Rc]at l
 have y:=(Ue (X:=X) (V:=[]) _).ic N<|z▸F;cases M:(choose _).run X.Q f with
 |halt x g=>exact .inl ⟨_,_,_,rfl⟩
 |ok t g=>
  rw[M]at y;obtain⟨b,q,D,u,rfl,C⟩:=Z7X y;obtain rfl:W=q:=by rw[z,u];rfl
  rw[show(Zw X.ρ fr).fn=fr.fn from rfl,u];let⟨K,O⟩:=yB h.ba o;exact .inr ⟨{fr with todo:=.inRegion ops _::k},cs,g,_,_,rfl,rfl,h.with ⟨λi a=>by obtain rfl|a:=Zfi.1 a;exact K;grind,h.ba.defers,h.ba.kind,h.ba.fn⟩ rfl rfl,(C.es (es2:=#[]) λe H=>by simp at H)⟩
def JN(fr:Zg)(f:Operand)(l:Nat):Sem Next:=do let d<-resolve fr.eval {callee:=.value f,args:=#[.const<|.func (.yield l) #[] #[]],argTypes:=#[]} 0;invoke d.target d.args
def Z3b(ok:X.Ok){fr fr'}(j:∀x,ZS x=xk->fr'.eval x=Zt X.ρ (fr.eval x)){f}(k:ZS f=xk)l{rd V}:X.Img (X.NR rd) V (JN fr f l)<|JN fr' f<|X.ρ l:=by
 unfold JN resolve;dsimp only;have a:(#[.const<|.func (.yield<|X.ρ l) #[] #[]]:Array Operand).map fr'.eval=(#[.func (.yield l) #[] #[]]:Array Value).map (Zt X.ρ):=by
  simp[Frame.eval,Zt,Vb]
 have g:(#[.const<|.func (.yield l) #[] #[]]:Array Operand).map fr.eval=(#[.func (.yield l) #[] #[]]:Array Value):=by
  simp[Frame.eval]
 rw[a,g,j f k];refine .bind (GW _ _) ?_;rintro n d _- ⟨rfl,h⟩;exact AA ok d.target d.args h
def Z8x(ok:X.Ok){main fr cs}(h:X.St fr cs){f g a b k}(K:fr.todo=.code (.rangeFunc f g a b)::k)(hm:fr.mode=.run){o wc}(hw:X.WR o wc)
  {W} (B:W=Y2 ((Yw<|Zw X.ρ fr).run X.P wc)) (R:X.br o wc W):X.dz c0 ds o wc W (stepG.exec X.Q xk xk fr (cs++[c0]) U o)<|stepG.exec X.P main xk (Zw X.ρ fr) (cs.map (Zw X.ρ)++ds) U wc:=by
 have M:∀p main fr cs k w,fr.todo=.code (.rangeFunc f g a b)::k->stepG.exec p main xk fr cs U w=
   GStep.after (seen p fr.fn ((Instr.enterLoop fr.fn fr.tmps g a b fr.roundOf).runT p w #[]).2) (match((Instr.enterLoop fr.fn fr.tmps g a b fr.roundOf).runT p w #[]).1 with
    |.ok (l,mark) w=>stepG.apply p xk {fr with todo:=.inRangeFunc l::k,defers:=mark++fr.defers} cs U (JN fr f l) w
    |.halt _ w=>.ended (.stuck "range over a function: no such loop" (fr.pos p)) w):=λp main fr cs k w e=>by
  let⟨fn,T,todo,defers,S,kind,ro⟩:=fr;subst e;rfl
 have z:(Zw X.ρ fr).todo=.code (.rangeFunc f g a b)::k.map (Yv X.ρ):=by simp[Zw,K,Yv]
 have D:(Zw X.ρ fr).mode=.run:=by simp[Zw,hm,XU]
 rw[M _ _ _ _ _ _ K,M _ _ _ _ _ _ z];let⟨t,hk⟩:=yB h.ba K;simp[VF,YM,ZeZ]at t;let⟨⟨hf,G⟩,H⟩:=t;have u:=Z3m (V:=[]) ok fr.fn fr.tmps g a b fr.roundOf h.ba.fn G H;have Z:Yw (Zw X.ρ fr)=(Instr.enterLoop fr.fn (fr.tmps.map<|Zt X.ρ) g a b (fr.roundOf.map X.ρ)>>=λx=>JN (Zw X.ρ fr) f x.1>>=λ_=>pure ()):=by
  unfold Yw;rw[D,z];rfl
 rw[Z]at B;have hg:X.br o wc<|Y2<|(Instr.enterLoop fr.fn (fr.tmps.map<|Zt X.ρ) g a b<|fr.roundOf.map X.ρ).run X.P wc:=by
  refine R.mono ?_;rw[B,ZfJ];cases(Instr.enterLoop fr.fn _ g a b _).run X.P wc with
  |ok x w=>exact Jo X.P _ w
  |halt x w=>exact⟨Zf3 _,Zf3 _⟩
 have O:=u.ic hw hg;let⟨a0,Y⟩:=Qc X.Q (Instr.enterLoop fr.fn fr.tmps g a b fr.roundOf) o #[];rw[Y];cases hq:(Instr.enterLoop fr.fn fr.tmps g a b fr.roundOf).run X.Q o with
 |halt x a1=>exact .inl ⟨_,_,_,rfl⟩
 |ok x L=>
  let⟨l,mark⟩:=x;rw[hq]at O;obtain⟨q,j,n,N,y,⟨rfl,F⟩,A⟩:∃q j n,(Instr.enterLoop fr.fn (fr.tmps.map<|Zt X.ρ) g a b<|fr.roundOf.map X.ρ).runT X.P wc #[]=(.ok q j,n)/\(Instr.enterLoop fr.fn (fr.tmps.map<|Zt X.ρ) g a b<|fr.roundOf.map X.ρ).run X.P wc=.ok q j/\(q=(X.ρ l,mark.map<|X1 X.ρ)/\∀d∈mark,U0 d=xk)/\X.Aft o wc L j #[] n:=by
   let⟨q,j,n,N,hb,A⟩:=O;grind [Sem.runT_fst]
  rw[show(Instr.enterLoop (Zw X.ρ fr).fn (Zw X.ρ fr).tmps g a b (Zw X.ρ fr).roundOf).runT X.P wc #[]=_ from N];dsimp only;rw[ZfJ,y,ZfH,Rc]at B;have C:X.OkF {fr with todo:=.inRangeFunc l::k,defers:=mark++fr.defers}:=⟨λi t=>by obtain rfl|t:=Zfi.1 t;rfl;grind,λd r=>by obtain r|r:=Zfs.1 r;exact F d r;exact h.ba.defers d r,h.ba.kind,h.ba.fn⟩;have hs:=CL (c0:=c0) (ds:=ds) (h.with C rfl rfl) (Z3b ok (fr:=fr) (fr':=Zw X.ρ fr) (λx hx=>Rz X.ρ fr x hx) hf l) A.wr B<|R.next A;have e4:({Zw X.ρ fr with todo:=.inRangeFunc (X.ρ l)::k.map (Yv X.ρ),defers:=mark.map (X1 X.ρ)++(Zw X.ρ fr).defers}:Frame)=Zw X.ρ {fr with todo:=.inRangeFunc l::k,defers:=mark++fr.defers}:=by
   simp[Zw,Yv]
  rw[e4];exact hs.after (A.es λe he=>mem_seen he)
end
end
section
section
variable {X:Cx}{c0:Zg}{ds:Z7}
theorem Z8v(ok:X.Ok){main:Bool}{fr:Zg}{cs:Z7}(h:X.St fr cs)(O:fr.mode=.run)(Z:Vt fr=xw){F wc:Z3}(D:X.WR F wc)
  {W:Z3} (g:W=Y2 ((Yw<|Zw X.ρ fr).run X.P wc)) (L:X.br F wc W):X.dz c0 ds F wc W (stepG.exec X.Q xk xk fr (cs++[c0]) U F)<|stepG.exec X.P main xk (Zw X.ρ fr) (cs.map (Zw X.ρ)++ds) U wc:=by
 have t:(Zw X.ρ fr).mode=.run:=by simp[Zw,O,XU]
 cases u:fr.todo with
 |nil=>
  have j:(Zw X.ρ fr).todo=[]:=by simp[Zw,u]
  have y:∀(p:Z6) (main:Bool) (fr:Zg) (cs:Z7) (w:Z3),fr.todo=[]->stepG.exec p main xk fr cs U w=TU p main fr cs U (.ended (.stuck "exit, goto: no such block or label" (fr.pos p)) w) w:=λp main fr cs w e=>by
   obtain⟨fn,q,todo,d,n,kind,B⟩:=fr;dsimp only at e;subst e;rfl
  rw[y _ _ _ _ _ u,y _ _ _ _ _ j];unfold Yw at g;rw[t,j]at g;exact qF ok h U rfl _ D g L
 |cons i k=>
  obtain⟨A,C⟩:=yB h.ba u;have j:(Zw X.ρ fr).todo=Yv X.ρ i::k.map (Yv X.ρ):=by simp[Zw,u]
  have K:∀x:Zn,(∀i∈x,VF X.Q fr.roundOf.isSome i=xk)->(∀(p:Z6) (main:Bool) fn q d n kind B (cs:Z7) (w:Z3),stepG.exec p main xk ⟨fn,q,i::k,d,n,kind,B⟩ cs U w=.go (G ⟨fn,q,x,d,n,kind,B⟩ cs) w)->
    (∀(p:Z6) (main:Bool) fn q d n kind B (cs:Z7) (w:Z3),stepG.exec p main xk ⟨fn,q,Yv X.ρ i::k.map (Yv X.ρ),d,n,kind,B⟩ cs U w=.go (G ⟨fn,q,x.map<|Yv X.ρ,d,n,kind,B⟩ cs) w)->
    W=wc->X.dz c0 ds F wc W (stepG.exec X.Q xk xk fr (cs++[c0]) U F) (stepG.exec X.P main xk (Zw X.ρ fr) (cs.map (Zw X.ρ)++ds) U wc):=λx Y y e2 T=>by
   rw[T];have r:=qG (c0:=c0) (ds:=ds) h x Y D
   rw[show stepG.exec X.Q xk xk fr (cs++[c0]) U F=.go (G {fr with todo:=x}<|cs++[c0]) F from by
    obtain⟨fn,q,todo,d,n,kind,B⟩:=fr;dsimp only at u;subst u;exact y _ _ _ _ _ _ _ _ _ _]
   have S:∀H:Zg,H.todo=Yv X.ρ i::k.map (Yv X.ρ)->stepG.exec X.P main xk H (cs.map (Zw X.ρ)++ds) U wc=.go (G {H with todo:=x.map (Yv X.ρ)}<|cs.map (Zw X.ρ)++ds) wc:=λH e=>by
    obtain⟨fn,q,todo,d,n,kind,B⟩:=H;dsimp only at e;subst e;exact e2 _ _ _ _ _ _ _ _ _ _
   rw[S _ j];exact r
  have no:(∀fn q d n kind B,∃o w es,stepG.exec X.Q xk xk ⟨fn,q,i::k,d,n,kind,B⟩ (cs++[c0]) U F=.ended o w es)->X.dz c0 ds F wc W (stepG.exec X.Q xk xk fr (cs++[c0]) U F) (stepG.exec X.P main xk (Zw X.ρ fr) (cs.map (Zw X.ρ)++ds) U wc):=λe=>by
   refine .inl ?_;obtain⟨fn,q,todo,d,n,kind,B⟩:=fr;dsimp only at u;subst u;exact e _ _ _ _ _ _
  cases i with
  |inBlock id=>exact K k C (λ_ _ _ _ _ _ _ _ _ _=>rfl) (λ_ _ _ _ _ _ _ _ _ _=>rfl) Zeb
  |inScope c=>exact K k C (λ_ _ _ _ _ _ _ _ _ _=>rfl) (λ_ _ _ _ _ _ _ _ _ _=>rfl) Zeb
  |inLoop c=>exact K (.code c:: .inLoop c::k) (λi r=>Zed) (λ_ _ _ _ _ _ _ _ _ _=>rfl) (λ_ _ _ _ _ _ _ _ _ _=>rfl) Zeb
  |inRangeFunc l=>exact no λ_ _ _ _ _ _=>⟨_,_,_,rfl⟩
  |beginRound=>exact Z8r ok h u O D g L
  |endRangeFunc l=>exact Z8u ok h u O D g L
  |call=>cases A
  |extern=>cases A
  |inRegion N l=>
   obtain _|⟨i,a0⟩:=l;exact K k C (λ_ _ _ _ _ _ _ _ _ _=>rfl) (λ_ _ _ _ _ _ _ _ _ _=>rfl) Zeb;exact Z8w ok h u O Z D g L
  |code c=>
   cases c with
   |skip=>exact K k C (λ_ _ _ _ _ _ _ _ _ _=>rfl) (λ_ _ _ _ _ _ _ _ _ _=>rfl) Zeb
   |label l=>exact K k C (λ_ _ _ _ _ _ _ _ _ _=>rfl) (λ_ _ _ _ _ _ _ _ _ _=>rfl) Zeb
   |seq a b=>
    simp only[VF,YM,ZeZ]at A;exact K (.code a:: .code b::k) (λi r=>by obtain rfl|r:=Zfi.1 r;exact A.1;obtain rfl|r:=Zfi.1 r;exact A.2;exact C i r) (λ_ _ _ _ _ _ _ _ _ _=>rfl) (λ_ _ _ _ _ _ _ _ _ _=>rfl) Zeb
   |block id c=>exact K (.code c:: .inBlock id::k) (λi r=>by obtain rfl|r:=Zfi.1 r;exact A;obtain rfl|r:=Zfi.1 r;rfl;exact C i r) (λ_ _ _ _ _ _ _ _ _ _=>rfl) (λ_ _ _ _ _ _ _ _ _ _=>rfl) Zeb
   |loop c=>exact K (.code c:: .inLoop c::k) (λi r=>Zed) (λ_ _ _ _ _ _ _ _ _ _=>rfl) (λ_ _ _ _ _ _ _ _ _ _=>rfl) Zeb
   |scope c=>exact K (.code c:: .inScope c::k) (λi r=>Zed) (λ_ _ _ _ _ _ _ _ _ _=>rfl) (λ_ _ _ _ _ _ _ _ _ _=>rfl) Zeb
   |refuse a1=>exact no λ_ _ _ _ _ _=>⟨_,_,_,rfl⟩
   |rangeFunc f ps a b=>exact Z8x ok h u O D g L
   |region id N R=>
    cases R with
    |true=>exact Z8t ok h u O D g L
    |false=>exact K (.inRegion N (List.range N.size)::k) (λi r=>by obtain rfl|r:=Zfi.1 r;exact A;exact C i r) (λ_ _ _ _ _ _ _ _ _ _=>rfl) (λ_ _ _ _ _ _ _ _ _ _=>rfl) Zeb
   |cond c a b=>
    simp only[VF,YM,ZeZ]at A;obtain⟨⟨r,S⟩,h3⟩:=A;have y:∀(p:Z6) (main:Bool) (fr:Zg) (cs:Z7) (k:Zn) (w:Z3),fr.todo=.code (.cond c a b)::k->stepG.exec p main xk fr cs U w=match fr.eval c with
      |.bool z=>.go (G {fr with todo:=.code (if z then a else b)::k} cs) w
      |_=>.ended (.stuck "cond: bool expected" (fr.pos p)) w:=λp main fr cs k w e=>by
     obtain⟨fn,q,todo,d,n,kind,B⟩:=fr;dsimp only at e;subst e;rfl
    rw[y _ _ _ _ _ _ u,y _ _ _ _ _ _ j,Rz X.ρ fr c r];obtain rfl:W=wc:=Zeb;by_cases hb:∃z,fr.eval c=.bool z;obtain⟨z,hz⟩:=hb;rw[hz,U3]
    exact qG h (.code (if z then a else b)::k) (λi r=>by
     obtain rfl|r:=Zfi.1 r;cases z;exact h3;exact S;exact C i r) D
    refine .inl ⟨.stuck "cond: bool expected" (fr.pos X.Q),F, #[],?_⟩;split;rename_i z hz;exact absurd ⟨z,hz⟩ hb;rfl
   |ret=>
    have y:∀(p:Z6) (main:Bool) (fr:Zg) (cs:Z7) (k:Zn) (w:Z3),fr.todo=.code .ret::k->stepG.exec p main xk fr cs U w=TU p main fr cs (J .ret) (.ended (.stuck "exit, goto: no such block or label" (fr.pos p)) w) w:=λp main fr cs k w e=>by
     obtain⟨fn,q,todo,d,n,kind,B⟩:=fr;dsimp only at e;subst e;rfl
    rw[y _ _ _ _ _ _ u,y _ _ _ _ _ _ j];unfold Yw at g;rw[t,j]at g;exact qF ok h (J .ret) rfl _ D g L
   |exit id=>
    have y:∀(p:Z6) (main:Bool) (fr:Zg) (cs:Z7) (k:Zn) (w:Z3),fr.todo=.code (.exit id)::k->stepG.exec p main xk fr cs U w=(exitTo id k).elim (TU p main fr cs (J<|.exit id) (.ended (.stuck "exit, goto: no such block or label" (fr.pos p)) w) w) (λx=>.go (G {fr with todo:=x} cs) w):=λp main fr cs k w e=>by
     obtain⟨fn,q,todo,d,n,kind,B⟩:=fr;dsimp only at e;subst e;rfl
    rw[y _ _ _ _ _ _ u,y _ _ _ _ _ _ j,A1];unfold Yw at g;rw[t,j]at g;dsimp only[Yv]at g;rw[A1]at g;cases M:exitTo id k with
    |none=>
     rw[M]at g;exact qF ok h (J<|.exit id) rfl _ D g L
    |some x=>
     obtain rfl:W=wc:=by rw[M]at g;exact g
     exact qG h x (λi r=>C i<|FG id k x M i r) D
   |goto l=>
    have y:∀(p:Z6) (main:Bool) (fr:Zg) (cs:Z7) (k:Zn) (w:Z3),fr.todo=.code (.goto l)::k->stepG.exec p main xk fr cs U w=(gotoIn l k).elim (TU p main fr cs (J<|.goto l) (.ended (.stuck "exit, goto: no such block or label" (fr.pos p)) w) w) (λx=>.go (G {fr with todo:=x} cs) w):=λp main fr cs k w e=>by
     obtain⟨fn,q,todo,d,n,kind,B⟩:=fr;dsimp only at e;subst e;rfl
    rw[y _ _ _ _ _ _ u,y _ _ _ _ _ _ j,An];unfold Yw at g;rw[t,j]at g;dsimp only[Yv]at g;rw[An]at g;cases M:gotoIn l k with
    |none=>
     rw[M]at g;exact qF ok h (J<|.goto l) rfl _ D g L
    |some x=>
     obtain rfl:W=wc:=by rw[M]at g;exact g
     exact qG h x (λi r=>Gl X.Q _ l k x C M i r) D
end
end
section
section
variable {X:Cx}{c0:Zg}{ds:Z7}
def yN(m:FrameMode):Bool:=match m with|.panicking _=>xk|_=>xw
section
variable {p:Z6}{fr:Zg}{cs:Z7}{d:Deferred}{w w':Z3}{es:Zd}
def J2(fr:Zg)(d:Deferred):Prop:=((match d.target with|.nil=>xk|_=>xw)&&yN fr.mode)=xw
def Z1E(h:¬J2 fr d):∃o w' es,callDeferred p fr cs U d w=.ended o w' es:=by
 have h:((match d.target with|.nil=>xk|_=>xw)&&(match fr.mode with|.panicking _=>xk|_=>xw))=xk:=by simpa[J2,yN]using h
 exact⟨_,_,_,Zfc h⟩
def Fe(o:J2 fr d):callDeferred p fr cs U d w=(
  let(r,es):=(invoke d.target d.args).runT p w #[];let es:=match r with|.halt .blocked _|.halt .waiting _=> #[] |_=>es
  GStep.after (seen p fr.fn es)<|match r with
  |.ok (.enter f args) w=>.go (G (Frame.enter p f args .deferred)<|fr::cs) w
  |.ok (.round l f n assign j) w=>.go (G (Frame.round l f n assign j .deferred)<|fr::cs) w
  |.ok (.callThen d g h a) w=>.go (G (Frame.ofExtern p d g h a .deferred)<|fr::cs) w
  |.ok (.row row args) w=>.go (G (Frame.ofRow p row args .deferred)<|fr::cs) w
  | .ok .recover w=>
    match fr.mode,tryRecover fr cs with
    |.returning,J (_,callers)=>.go (G fr callers) w
    |_,_=>.go (G fr cs) w
  |.ok (.sleep k) w=>.go {frame:=fr,callers:=cs,status:=.sleeping k,dying:=U} w
  |.ok (.alone xw _) w=>.alone (G fr cs) xw w
  | .ok (.timer _) w|.ok (.alone _ _) w=>
    .ended (.unsupported (.noEntry "time.newTimer, stopTimer, resetTimer, runtime_procPin or procUnpin as a deferred call")<|fr.pos p) w
  |.ok .collect w=>.collect (G fr cs) w
  |.ok (.watch _) w=>.watch (G fr cs) w
  |.ok (.coroswitch c xk) w=>.coroswitch (G fr cs) c xk w
  |.ok (.coroswitch _ xw) w|.ok (.newcoro ..) w=>.ended (.unsupported (.noEntry "a deferred call of iter.newcoro or iter.coroswitch")<|fr.pos p) w
  |.ok (.stack ..) w=>.ended (.unsupported (.noEntry "runtime.Caller or Callers as a deferred call or in a go statement")<|fr.pos p) w
  |.ok _ w=>.go (G fr cs) w
  |.halt (.panic v) w=>.go (G (fr.raise [{v,recovered:=xw}]) cs) w
  |.halt (.exit c) w=>.ended (.exit c) w
  |.halt (.fatal m) w=>endFatal p fr cs U m w
  |.halt (.throw m) w=>endThrow fr m w
  |.halt (.unsupported u) w=>.ended (.unsupported u<|fr.pos p) w
  |.halt (.stuck s) w=>.ended (.stuck s<|fr.pos p) w
  |.halt .goexit w=>.go (G (fr.raise [goexitEntry]) cs) w
  |.halt .blocked w=>.go {frame:= {fr with defers:=d::fr.defers},callers:=cs,status:=.blocked,dying:=U} w
  |.halt .waiting w=>.go {frame:= {fr with defers:=d::fr.defers},callers:=cs,status:=.waiting,dying:=U} w):=by
 exact Zf7 (λe=>Bool.false_ne_true<|o.symm.trans e)
end
def Z8s(ok:X.Ok){fr cs}(h:X.St fr cs)d(T:U0 d=xk){r wc}(Y:X.WR r wc){W}(B:W=Y2 ((invoke (X1 X.ρ d).target (X1 X.ρ d).args).run X.P wc))(S:X.br r wc W):
  X.dz c0 ds r wc W (callDeferred X.Q fr (cs++[c0]) U d r) (callDeferred X.P (Zw X.ρ fr) (cs.map (Zw X.ρ)++ds) U (X1 X.ρ d) wc):=by
 by_cases C:J2 fr d;have D:J2 (Zw X.ρ fr)<|X1 X.ρ d:=by
  have o:yN (Zw X.ρ fr).mode=yN fr.mode:=by let⟨fn,n,H,y,w,kind,Z⟩:=fr;cases w<;>rfl
  have L:(match(X1 X.ρ d).target with|.nil=>xk|_=>xw)=(match d.target with|.nil=>xk|_=>xw):=by let⟨t,a⟩:=d;cases t<;>rfl
  unfold J2;rw[o,L];exact C
 have u:=(AA (V:=[]) (rd:=xk) ok d.target d.args T).ic Y<|B▸S;let⟨M,K⟩:=Qc X.Q (invoke d.target d.args) r #[];rw[Fe C,Fe D,K];have last:∀(es j:Zd) e,(∀e∈es,e∈j)->e∈es++(#[]:Array Event)->e∈j:=Ze3;cases G:(invoke d.target d.args).run X.Q r with
 |halt x g=>
  rw[G]at u;cases x with
  |panic v=>
   let⟨F,j,o,A⟩:=u;obtain rfl:=Ql B o rfl;rw[show(invoke (X1 X.ρ d).target (X1 X.ρ d).args).runT X.P wc #[]=_ from o];refine .inr ⟨fr.raise [{v,recovered:=xw}],cs,g,_,seen X.P fr.fn j++ #[],rfl,?_,h.with (qa h.ba _) (yZ _ _)<|qc _ _,A.es λe q=>last _ _ e (λe q=>mem_seen q) q⟩;rw[<-qb];rfl
  |stuck=>exact .inl ⟨_,_,_,rfl⟩
  |unsupported=>exact .inl ⟨_,_,_,rfl⟩
  |_=>exact False.elim u
 |ok a g=>
  rw[G]at u;let⟨b,F,j,o,p,A⟩:=u;obtain rfl:=Ql B o rfl;rw[show(invoke (X1 X.ρ d).target (X1 X.ρ d).args).runT X.P wc #[]=_ from o];have k:X.Aft r wc g W #[] (seen X.P fr.fn j++ #[]):=A.es λe q=>last _ _ e (λe q=>mem_seen q) q;cases a with
  |value v=>obtain rfl:b=_:=p;exact .inr ⟨fr,cs,g,_,_,rfl,rfl,h,k⟩
  |skip=>obtain rfl:b=_:=p;exact .inr ⟨fr,cs,g,_,_,rfl,rfl,h,k⟩
  |defer=>obtain⟨rfl,_⟩:b=_/\_:=p;exact .inr ⟨fr,cs,g,_,_,rfl,rfl,h,k⟩
  |recover=>obtain⟨_,N⟩:b=_/\_:=p;cases N
  |enter f args=>
   obtain⟨rfl,z⟩:b=_/\_:=p;refine .inr ⟨Frame.enter X.Q f args .deferred,fr::cs,g,_,_,rfl,?_,h.push<|Fx z args _ Z1,k⟩;rw[<-Fy z];rfl
  |round l f n a c=>
   obtain⟨rfl,O,R,z⟩:b=_/\_:=p;refine .inr ⟨Frame.round l f n a c .deferred,fr::cs,g,_,_,rfl,?_,h.push<|Nz h.ba l f z n a c O R _ Z1,k⟩;rfl
  |_=>exact False.elim p
 exact .inl<|Z1E C
def AE fn d{V}:X.Img X.Rv V (results fn d)<|results fn<|d.map<|Zt X.ρ:=by
 have one:∀V (r:ResultVar),X.Img X.Rv V (match r with|.tmp t=>pure (d.getD t xy)|.cell a t=>do loadVar t (<-asAddr (d.getD a xy)):Sem Value)
   (match r with|.tmp t=>pure ((d.map _).getD t xy)|.cell a t=>do loadVar t (<-asAddr ((d.map _).getD a xy)):Sem Value):=λV r=>by
  cases r with
  |tmp t=>dsimp only;rw[RH];exact .pure rfl
  |cell a t=>
   dsimp only;rw[RH];refine .bind (Ar _) ?_;rintro f a _-rfl;exact Km _ _
 have all:∀(l:List ResultVar) V,X.Img (λa b=>b=a.map (Zt X.ρ)) V (l.mapM λr=>(match r with|.tmp t=>pure (d.getD t xy)|.cell a t=>do loadVar t (<-asAddr (d.getD a xy)):Sem Value))
   (l.mapM λr=>(match r with|.tmp t=>pure ((d.map<|Zt X.ρ).getD t xy)|.cell a t=>do loadVar t (<-asAddr ((d.map<|Zt X.ρ).getD a xy)):Sem Value)):=λl=>by
  induction l with
  |nil=>intro V;simp;exact .pure rfl
  |cons r l g=>
   intro V;simp only[Zi1];refine .bind (one V r) ?_;rintro f v _-rfl;refine .bind (g f) ?_;rintro j vs _-rfl;exact .pure rfl
 unfold results;rw[Zgw,Zgw];refine .bind (RA:=λa b=>b=a.map (Zt X.ρ)) (.map (all _ _) λa b h=>Ze2) ?_;rintro f vs _-rfl;refine .pure ?_;show _=Zt _ _;grind [vs,U4]
def Fd{p fr}(h:X.OkF fr):fr.catches p=xw:=by
 unfold Frame.catches;split;rename_i e;have:=h.todo _ (by rw[e];exact Zgo ..);cases this;rfl
def Z1D{p fr}(h:X.OkF fr):(Zw X.ρ fr).catches p=xw:=by
 unfold Frame.catches;split
 .rename_i e;have e:fr.todo.map _=_:=e;cases a:fr.todo with
  |nil=>simp_all
  |cons i k=>
   rw[a]at e;have:=h.todo i Ze3;cases i<;>first|(cases this;done)|cases e
 rfl
def G6{fr}(h:X.OkF fr):(∃fn a,X.Q.funcs[fr.fn]?=J fn/\X.P.funcs[(Zw X.ρ fr).fn]?=J a/\a.results=fn.results)\/(X.Q.funcs[fr.fn]?=U/\X.P.funcs[(Zw X.ρ fr).fn]?=U):=by
 obtain⟨fn,c,d,f,_⟩|h|⟨fn,a,d,f,g⟩:=h.fn;exact .inl ⟨fn,fn,d,f,rfl⟩;exact .inr h;exact .inl ⟨fn,a,d,f,g⟩
def Nu{fn a}(h:a.results=fn.results)t:results a t=results fn t:=by grind [results]
def Da{p main fr cs w}(a:fr.defers=[])(f:fr.mode=.returning)(d:p.funcs[fr.fn]?=U):unwind p main fr cs U w=doReturn p main fr cs U (fr.tmps.getD 0 xy) w:=by
 simp_all[unwind]
def D8{p main fr c cs w a}(d:fr.defers=[])(f:fr.mode=.panicking a)(hc:fr.catches p=xw):unwind p main fr (c::cs) U w=.go (G (c.raise a) cs) w:=by
 unfold unwind;simp[d,f,hc];rfl
def D9{p main fr cs w fn}(a:fr.defers=[])(f:fr.mode=.returning)(d:p.funcs[fr.fn]?=J fn):unwind p main fr cs U w=
  GStep.after (seen p fr.fn ((results fn fr.tmps).runT p w #[]).2) (match((results fn fr.tmps).runT p w #[]).1 with
   |.ok v w=>doReturn p main fr cs U v w
   |.halt (.stuck s) w=>.ended (.stuck s<|fr.pos p) w
   |.halt _ w=>.ended (.stuck "return: the result variables cannot be read" (fr.pos p)) w):=by
 simp_all[unwind];rfl
def OH{p main fr cs w b args dl}(d:fr.defers= {target:=.collected b,args}::dl):unwind p main fr cs U w=
  GStep.after (seen p fr.fn ((Instr.takeDeferred b).runT p w #[]).2) (match((Instr.takeDeferred b).runT p w #[]).1 with
   |.ok a w=>.go (G {fr with defers:=a++dl} cs) w
   |.halt _ w=>.ended (.stuck "the deferred calls of a range-over-func loop have been taken" (fr.pos p)) w):=by
 unfold unwind;simp[d];rfl
def OG{p main fr cs w d dl}(f:fr.defers=d::dl)(g:∀b,d.target≠.collected b):unwind p main fr cs U w=callDeferred p {fr with defers:=dl} cs U d w:=by
 let⟨t,a⟩:=d;unfold unwind;simp;cases t<;>first|rfl|simp_all
def Z8z(ok:X.Ok){main fr cs}(h:X.St fr cs)(hm:fr.mode≠.run)(y:¬(cs=[]/\fr.mode=.returning/\fr.defers=[])){q wc}(N:X.WR q wc)
  {W} (n:W=Y2 ((Yw<|Zw X.ρ fr).run X.P wc)) (ha:X.br q wc W):
  X.dz c0 ds q wc W (unwind X.Q xk fr (cs++[c0]) U q) (unwind X.P main (Zw X.ρ fr) (cs.map (Zw X.ρ)++ds) U wc)\/∃R,cs=[]/\unwind X.Q xk fr (cs++[c0]) U q=.go (G (c0.raise R) []) q:=by
 have a0:(Zw X.ρ fr).mode≠.run:=by
  let⟨fn,a4,a5,defers,O,kind,ro⟩:=fr;cases O<;>first|exact absurd rfl hm|simp[Zw,XU]
 have last:∀(es r:Zd) e,(∀e∈es,e∈r)->e∈es++(#[]:Array Event)->e∈r:=Ze3
 have K:∀g,g.mode≠.run->Yw g=(match g.defers with
   | {target:=.collected b, .. }::_=>Instr.takeDeferred b>>=λ_=>pure ()
   |d::_=>invoke d.target d.args>>=λ_=>pure ()
   | []=>(match g.mode with
     | .returning=>program>>=λp=>(match p.funcs[g.fn]? with
       |some fn=>results fn g.tmps>>=λ_=>pure ()
       |none=>pure ())
     |_=>pure ())):=λg z=>by
  unfold Yw;cases e:g.mode<;>first|exact absurd e z|rfl
 rw[K _ a0]at n;cases o:fr.defers with
 |cons d dl=>
  left;have a2:=h.ba.defers d (by rw[o];exact Zgo ..);have L:=λx D=>h.ba.defers x (by rw[o];exact ZfF _ D);have j:(Zw X.ρ fr).defers=X1 X.ρ d::dl.map (X1 X.ρ):=by simp[Zw,o]
  rw[j]at n;by_cases hc:∃b,d.target=.collected b;let⟨b,hb⟩:=hc;let⟨t,a⟩:=d;subst hb;rw[OH o,OH j];have z:W=(Y2<|(Instr.takeDeferred<|X.ρ b).run X.P wc):=by
   have Z:W=(Y2<|(Instr.takeDeferred _>>=λ_=>(pure ():Sem Unit)).run X.P wc):=n;rwa[Rc]at Z
  have M:=(Z3X (V:=[]) ok b).ic N<|z▸ha;let⟨Y,T⟩:=Qc X.Q (Instr.takeDeferred b) q #[];rw[T];cases hr:(Instr.takeDeferred b).run X.Q q with
  |halt x l=>exact .inl ⟨_,_,_,rfl⟩
  |ok B l=>
   rw[hr]at M;obtain⟨b',a3,r,F,⟨rfl,w⟩,S⟩:=M;obtain rfl:=Ql z F rfl;rw[F];refine .inr ⟨{fr with defers:=B++dl},cs,l,_,seen X.P fr.fn r++ #[],rfl,?_,h.with ⟨h.ba.todo,λx D=> ?_,h.ba.kind,h.ba.fn⟩ rfl rfl,S.es λe C=>last _ _ e (λe C=>mem_seen C) C⟩;simp[Zw,GStep.after];obtain D|D:=Zfs.1 D;exact w x D;exact L x D
  .have hn:=λb e=>hc ⟨b,e⟩;have a1:∀b,(X1 X.ρ d).target≠.collected b:=λb e=>by
    let⟨t,a⟩:=d;cases t<;>first|(simp[X1,Ji]at e;done)|exact absurd rfl<|hn _
   rw[OG o hn,OG j a1];have z:W=(Y2<|(invoke (X1 X.ρ d).target (X1 X.ρ d).args).run X.P wc):=by
    have Z:W=(Y2<|(invoke (X1 X.ρ d).target (X1 X.ρ d).args>>=λ_=>(pure ():Sem Unit)).run X.P wc):=by
     let⟨t,a⟩:=d;cases t<;>first|exact n|exact absurd rfl<|hn _
    rwa[Rc]at Z
   exact Z8s ok (fr:= {fr with defers:=dl}) (h.with ⟨h.ba.todo,L,h.ba.kind,h.ba.fn⟩ rfl rfl) d a2 N z ha
 |nil=>
  have j:(Zw X.ρ fr).defers=[]:=by simp[Zw,o]
  cases k:fr.mode with
  |run=>exact absurd k hm
  |panicking R=>
   have f:(Zw X.ρ fr).mode=.panicking (R.map<|SZ X.ρ):=by simp[Zw,k,XU]
   obtain _|⟨c,cs⟩:=cs;exact .inr ⟨R,rfl,D8 o k<|Fd h.ba⟩;left;rw[show unwind X.Q xk fr (c::cs++[c0]) U q=_ from D8 o k<|Fd h.ba,show unwind X.P main _ ((c::cs).map _++ds) U wc=_ from D8 j f<|Z1D h.ba,qb];obtain rfl:W=wc:=by
    rw[j,f]at n;exact n
   exact Sim.same (h.sq (qa (h.all c Z1) _) (yZ _ _)<|qc _ _) N
  |returning=>
   left;have f:(Zw X.ρ fr).mode=.returning:=by simp[Zw,k,XU]
   obtain⟨fn,a6,hf,u,A⟩|⟨hf,u⟩:=G6 h.ba;rw[D9 o k hf,D9 j f u,Nu A];have z:W=(Y2<|(results fn<|fr.tmps.map<|Zt X.ρ).run X.P wc):=by
    rw[j,f]at n;rw[ZfJ,Zh7,ZfH,u]at n;rwa[Rc,Nu A]at n
   have M:=(AE (X:=X) (V:=[]) fn fr.tmps).ic N Ze3;let⟨Y,T⟩:=Qc X.Q (results fn fr.tmps) q #[];rw[T];cases hr:(results fn fr.tmps).run X.Q q with
   |halt x l=>cases x<;>exact .inl ⟨_,_,_,rfl⟩
   |ok v l=>
    rw[hr]at M;let⟨b',a3,r,F,hb,S⟩:=M;obtain rfl:b'=_:=hb;obtain rfl:=Ql z F rfl;rw[show(results fn (Zw X.ρ fr).tmps).runT X.P wc #[]=_ from F];obtain _|⟨c,cs⟩:=cs;exact absurd ⟨rfl,k,o⟩ y;let⟨H,t1,t2,hs⟩:=CM (c0:=c0) (ds:=ds) (main:=main) h v l W;dsimp only;rw[t1,t2];exact .inr ⟨H,cs,l,_,_,rfl,rfl,hs,S.es λe C=>last _ _ e (λe C=>mem_seen C) C⟩
   rw[Da o k hf,Da j f u];obtain rfl:W=wc:=by
    rw[j,f]at n;rw[ZfJ,Zh7,ZfH,u]at n;exact n
   obtain _|⟨c,cs⟩:=cs;exact absurd ⟨rfl,k,o⟩ y;let⟨H,t1,t2,hs⟩:=CM (c0:=c0) (ds:=ds) (main:=main) h (fr.tmps.getD 0 xy) q W;rw[show(Zw X.ρ fr).tmps.getD 0 xy=Zt X.ρ _ from RH X.ρ fr.tmps 0];rw[t1,t2];exact Sim.same hs N
def Z8y(ok:X.Ok){main fr cs}(h:X.St fr cs)(t:Vt fr=xw)(d:¬(cs=[]/\fr.mode=.returning/\fr.defers=[])){a wc}(u:X.WR a wc)
  {W} (q:W=Y2 ((Yw<|Zw X.ρ fr).run X.P wc)) (r:X.br a wc W):
  X.dz c0 ds a wc W (stepG X.Q xk (G fr<|cs++[c0]) a) (stepG X.P main (G (Zw X.ρ fr)<|cs.map (Zw X.ρ)++ds) wc)\/∃p,cs=[]/\stepG X.Q xk (G fr<|cs++[c0]) a=.go (G (c0.raise p) []) a:=by
 have x:∀P main fr cs w,fr.mode=.run->stepG P main (G fr cs) w=stepG.exec P main xk fr cs U w:=λP main fr cs w h=>by
  simp_all[stepG,G]
 have l:∀P main fr cs w,fr.mode≠.run->stepG P main (G fr cs) w=unwind P main fr cs U w:=λP main fr cs w h=>by
  simp_all[stepG,G]
 by_cases j:fr.mode=.run;grind [Zw,XU,Z8v];have k:(Zw X.ρ fr).mode≠.run:=by
  let⟨fn,n,o,g,f,kind,y⟩:=fr;cases f<;>first|exact absurd rfl j|simp[Zw,XU]
 rw[l _ _ _ _ _ j,l _ _ _ _ _ k];exact Z8z ok h j d u q r
end
end
section
abbrev Z4:=Nat->Prop
def V4(O:Z4)(w w':Z3):Nat->Prop:=λb=>O b\/(xz (xj w)<=b/\b<xz (xj w'))
structure Rely (K O:Nat->Prop) (w w1:World):Prop where
 sz:xz (xj w)<=xz (xj w1)
 tape:w1.tape=w.tape
 os:(w1.os,w1.output)=(w.os,w.output)
 keep:∀b,b<xz (xj w)->(O b\/K b)->w1.heap[b]?=w.heap[b]?
def EvC(K O:Z4)(e:Event):Prop:=
 match e.loc with
 |.cell a=>O a.block\/(e.write=xw/\K a.block)
 |.obj r=>O r
 |.mark m=>m=.noRoom
 |.output=>True
 |_=>False
structure Guar (K O:Nat->Prop) (w w':World) (es:Array Event):Prop where
 sz:xz (xj w)<=xz (xj w')
 dr:w.drawn<=w'.drawn
 tape:w'.tape=w.tape
 os:(w'.os,w'.output)=(w.os,w.output)
 keep:∀b,b<xz (xj w)->¬O b->w'.heap[b]?=w.heap[b]?
 ml:∀e∈es,EvC K (V4 O w w') e
def Rely.refl(K O:Z4)(w:Z3):Rely K O w w:=⟨Zf3 _,rfl,rfl,λ_ _ _=>rfl⟩
theorem Rely.trans{K O:Z4}{a b c:Z3}(h:Rely K O a b)(k:Rely K O b c):Rely K O a c:=
 ⟨Zfw h.sz k.sz,k.tape.trans h.tape,k.os.trans h.os,λx f d=>(k.keep x (Zf4 f h.sz) d).trans<|h.keep x f d⟩
def XT(a:Zj):Nat->Nat
 |0=>0
 |i+1=>XT a i+a i
def Z6L(a:Zj){i j:Nat}(h:i<=j):XT a i<=XT a j:=by
 induction h with
 |refl=>omega
 |step _ d=>exact Zfw d<|Nat.le_add_right _ _
theorem Z6K(a:Zj){i d j f:Nat}(h:j<a i)(h':f<a d)(e:XT a i+j=XT a d+f):i=d/\j=f:=by
 have key:∀ {x g y y':Nat},y<a x->x<g->XT a x+y<XT a g+y':=λ{x g y y'} n l=>by
  have:=Z6L a (show x+1<=g from l);grind [XT]
 obtain k|rfl|k:=Nat.lt_trichotomy i d;have:=key (y':=f) h k;omega;omega;have:=key (y':=j) h' k;omega
def P0{α:Type}(a:Zj)(F:Nat->Nat->α)(d:α):∃f:Nat->α,∀i j,j<a i->f (XT a i+j)=F i j:=by
 classical
 refine⟨λm=>if h:∃p:Nat×Nat,p.2<a p.1/\m=XT a p.1+p.2 then F h.choose.1 h.choose.2 else d,λi j k=> ?_⟩;have g:∃p:Nat×Nat,p.2<a p.1/\XT a i+j=XT a p.1+p.2:=⟨(i,j),k,rfl⟩;dsimp only;rw[dif_pos g];grind [Z6K]
def SJ(n:Nat)(ρ:Zj):Prop:=∀b,b<n->ρ b=b
def FixV(n:Nat)(v:Zc):Prop:=∀ρ,SJ n ρ->Zt ρ v=v
def JD(n:Nat)(o:Obj):Prop:=∀ρ,SJ n ρ->XF ρ o=o
def DB(n:Nat)(f:Zg):Prop:=∀ρ,SJ n ρ->Zw ρ f=f
def Cx.at(X:Cx)(ρ:Zj):Cx:= {X with ρ}
open Classical in
noncomputable def Cx.ir (X:Cx) (b:Nat) (o:Option Obj):Obj:=
 match o with
 |some o=>if X.O b then(if X.it o/\(∀c e a,o=.cells c e a->a=(0,0))then o else hid)
  else if X.G b then(match o with|.cells c e _=>.cells c e (0,c.size)|_=>hid)else hid
 |none=>hid
noncomputable def Cx.cj (X:Cx) (w:Z3) (t:Nat->Question->Nat):World:=
 {w with heap:=(Array.range X.n0).map λb=>X.ir b w.heap[b]?,tape:=t,drawn:=0}
def B6(X:Cx)(w:Z3)(t:Nat->Question->Nat)(b:Nat):(X.cj w t).heap[b]?=if b<X.n0 then J (X.ir b w.heap[b]?)else U:=by
 simp_all[Cx.cj,Zfz,Array.getElem?_range]
def Z4E(X:Cx){w:Z3}(t:Nat->Question->Nat){ρ:Zj}(d:SJ X.n0 ρ)(u:∀b o,w.heap[b]?=J o->(X.O b\/X.G b)->JD X.n0 o):(X.at ρ).WR (X.cj w t) w:=by
 have l:xz (xj<|X.cj w t)=X.n0:=by simp[Cx.cj]
 refine⟨rfl,by rw[l];exact Zf3 _,d,λb n _ _ a g e=> ?_,λb o a=> ?_⟩;rw[l]at a g;have B:ρ b=b:=d b a;have C:ρ n=n:=d n g;have e:ρ b=ρ n:=e;omega;rw[B6]at a;split at a;rename_i j;have a:=(ZgC a).symm;have x:(X.at ρ).ρ b=b:=d b j;rw[x];cases q:w.heap[b]? with
 |none=>rw[q]at a;exact .inl a
 |some A=>
  rw[q]at a;unfold Cx.ir at a;dsimp only at a;by_cases f:X.O b;rw[Zfc f]at a;split at a;rename_i k;subst a;refine .inr<|.inr ⟨.inr f,k.1,?_,k.2⟩;exact Zg6 J (u b _ q (.inl f) ρ d).symm;exact .inl a;rw[Zf7 f]at a;have r:¬(X.at ρ).fp b:=λh=>by
   obtain h|h:=h;exact absurd j<|Zjc.2 h;exact f h
  by_cases p:X.G b;rw[Zfc p]at a;cases A<;>first|exact .inl a|skip
  rename_i c e y;dsimp only at a;refine .inr<|.inl ⟨r,c,e,(0,c.size),y,a,λi z=>⟨Zg5 _,z⟩,p,?_⟩;have:=u b _ q (.inr p) ρ d;simp only[XF]at this;exact Zg6 J this.symm;rw[Zf7 p]at a;exact .inl a
 cases a
def Co{X:Cx}{O:Z4}{q w w1:Z3}(h:X.WR q w)(n:Rely X.G O w w1)(x:∀b,X.fp b->b<xz (xj q)->O (X.ρ b)):X.WR q w1:=by
 refine⟨(Zg6 Prod.fst n.os).trans h.os,h.nl,h.H,h.inj,λb o r=> ?_⟩;have l:=(Zf2.1 r).1;obtain e|⟨t,c,e,u,g,d,j,a,f⟩|⟨d,j,a,f⟩:=h.blk b o r;exact .inl e;have k:b<X.n0:=Nat.lt_of_not_le λh=>t<|.inl h;have p:=(Zf2.1 f).1;exact .inr<|.inl ⟨t,c,e,u,g,d,j,a,by rw[n.keep _ p<|.inr (by rw[h.H b k];exact a)];exact f⟩;have p:=(Zf2.1 a).1;exact .inr<|.inr ⟨d,j,by rw[n.keep _ p<|.inl<|x b d l];exact a,f⟩
def YE(Q:Z6):Frame:= {fn:=Q.funcs.size,tmps:=#[],todo:=[.call {target:=.nil,args:=#[]} xw "fmt's door" #[]],defers:=[],mode:=.run,kind:=.normal}
def Z7E:Extern.allNextRows.lookup "fmt's door" =U:=by kernel_rfl
def Z1S:("fmt's door").startsWith "fmt's door" =xk:=by kernel_rfl
def Z1x(Q:Z6)(a:List PanicEntry):((YE Q).raise a).catches Q=xk:=by
 simp_all[Frame.catches,Frame.raise,YE,Zhl,Zf3,Z1S]
def Z9i{p:Z6}{main:Bool}{fr:Zg}{cs:Z7}{w:Z3}{a:List PanicEntry}(d:fr.defers=[])(f:fr.mode=.panicking a)(hc:fr.catches p=xk):∃o,unwind p main fr cs U w=.ended o w:=by
 unfold unwind;simp only[d,f,hc,ZfT];exact⟨_,rfl⟩
def Og(P:Z6)(main:Bool)(fr:Zg)(cs:Z7)(w:Z3)(h:fr.mode≠.run):stepG P main (G fr cs) w=unwind P main fr cs U w:=by
 simp_all[stepG,G,absurd]
def Z1z(Q:Z6)(a:List PanicEntry)(w:Z3):∃o d,step Q (lone ((YE Q).raise a) [] w)=.ended o d:=by
 obtain⟨o,h⟩:=Z9i (p:=Q) (main:=xk) (fr:=(YE Q).raise a) (cs:=[]) (w:=w) rfl rfl<|Z1x Q a;refine⟨o,w,ZiO ?_⟩;have:=Og Q xk ((YE Q).raise a) [] w (by simp[YE,Frame.raise]);simp_all[G]
def Z1y(Q:Z6)(v:Zc)(w:Z3):∃o w',step Q (lone ((YE Q).finish v) [] w)=.ended o w':=by
 refine⟨_,_,ZiO (o:=.stuck ("no extern row " ++ "fmt's door")<|((YE Q).finish v).pos Q) (w':=w) ?_⟩;simp_all[Extern.next,Z7E,stepG,stepG.exec,Frame.finish,YE]
def Ig{Q:Z6}{c:Zg}{w:Z3}(h:∃o w',step Q (lone c [] w)=.ended o w')(k:Nat)(fr:Zg)(cs:Z7)(c0:Zg)(w':Z3):runN Q k (lone c [] w)≠.next (lone fr (cs++[c0]) w'):=by
 obtain⟨o,w2,e⟩:=h;intro a;cases k with
 |zero=>
  simp_all[runN,lone,ZiG,ZiZ,ZiQ,Goroutine.mk.injEq]
 |succ k=>
  simp_all[runN]
end
def NU{S:Type}(N:S->S)(a:S):Nat->S
 |0=>a
 |i+1=>N<|NU N a i
def Z4l{a b:Zg}{aq_ d:Z7}{w w':Z3}(h:lone a aq_ w=lone b d w'):a=b/\aq_=d/\w=w':=by
 simp only[lone,ZiG,ZiZ,ZiQ,Goroutine.mk.injEq]at h;exact⟨h.2.1.1.1,h.2.1.1.2.1,h.1⟩
def Z2K{X:Cx}{O:Z4}{l w k w':Z3}{es:Zd}(d:X.Aft l w k w' #[] es)(H:X.WR l w)(z:∀b,X.fp b->b<xz (xj l)->O (X.ρ b)):Guar X.G O w w' es:=by
 have q:=d.sz;have u:xz (xj w)<=xz (xj w'):=by have:=d.pv;omega
 have f:∀b,X.fp b->b<xz (xj k)->V4 O w w' (X.ρ b):=λb g t=>by
  by_cases h:b<xz (xj l);exact .inl<|z b g h;exact .inr<|d.new b Z0 t
 refine⟨u,?_,d.tc,d.oc,λb g C=> ?_,λe D=> ?_⟩;have:=d.dr;have:=d.oh;omega;exact d.keep b g λx F y e=>C (by rw[e];exact z x F y);obtain h|h:=d.ml e D;simp at h;unfold Cx.gw at h;unfold EvC;split at h;rename_i a j;try rw[j]
 obtain⟨b,n,o,p⟩:=h;try dsimp only
 rw[o];by_cases g:X.fp b;exact .inl<|f b g n;obtain⟨A,B⟩:=p g;refine .inr ⟨A,?_⟩;rw[d.wr.H b (Nat.lt_of_not_le λh=>g<|.inl h)];exact B;rename_i r j;try rw[j]
 obtain⟨b,n,o,p⟩:=h;try dsimp only
 rw[p];exact f b n o;rename_i m j;try rw[j]
 exact h;rename_i j;try rw[j]
 trivial;exact h.elim
def qR{Q:Z6}{fr fr':Zg}{cs a:Z7}{w w':Z3}{es:Zd}(h:stepG Q xk (G fr cs) w=.go (G fr' a) w' es):step Q (lone fr cs w)=.next (lone fr' a w'):=
 Zin (by unfold G at h;rw[h];rfl)
def CZ{Q:Z6}{fr:Zg}{cs:Z7}{w w':Z3}{o:Outcome}{es:Zd}(h:stepG Q xk (G fr cs) w=.ended o w' es):step Q (lone fr cs w)=.ended o w':=
 ZiO (by unfold G at h;rw[h];rfl)
def Z20{X:Cx}{fr:Zg}(h:X.OkF fr)(j:fr.kind=.normal)(f:fr.mode=.returning)(g:fr.defers=[])(c0:Zg)(w:Z3):
  (∃v a,step X.Q (lone fr [c0] w)=.next (lone (c0.finish v) [] a))\/∃o a,step X.Q (lone fr [c0] w)=.ended o a:=by
 have e:=Og X.Q xk fr [c0] w (by rw[f];simp);obtain⟨fn,_,d,_⟩|⟨d,_⟩:=G6 h;rotate_left;rw[Da g f d,qi j]at e;exact .inl ⟨_,w,qR e⟩;rw[D9 g f d]at e;cases k:((results fn fr.tmps).runT X.Q w #[]).1 with
 |ok v a=>
  rw[k]at e;dsimp only at e;rw[qi j]at e;exact .inl ⟨v,a,qR e⟩
 |halt x a=>
  rw[k]at e;cases x<;>exact .inr ⟨_,_,CZ e⟩
theorem JV{Q:Z6}{m:Machine}{o:Outcome}{w:Z3}(h:step Q m=.ended o w){k:Nat}(a:0<k)(m':Machine):runN Q k m≠.next m':=by
 cases k with
 |zero=>omega
 |succ k=>simp_all[runN]
abbrev Zi:=Goroutine
def Z1i{Q:Z6}{g:Zi}{w:Z3}(h:g.status=.blocked):∃o a,step Q {world:=w,gs:=#[g],rest:= {timers:=#[],alone:=U,slice:=U}}=.ended o a:=by
 unfold step stepT;simp[move,ask,askOn,runnable_eq,due,ahead,Goroutine.canRun,Zig,choose,pure,Sem.run,Question.forced,h];cases endWith w 2 (bytes "fatal error: all goroutines are asleep - deadlock!\n") (Outcome.fatal "all goroutines are asleep - deadlock!")<;>exact⟨_,_,rfl⟩
theorem Fi{Q:Z6}{fr:Zg}{cs:Z7}{w w':Z3}{g2:Zi}{c:CommCase}{sh:CommShape}{es:Zd}(h:stepG Q xk (G fr cs) w=.comm g2 #[c] xk sh w' es)
  (hc:∀(r:Nat) q b p s y z,w'.heap[r]? ≠J (Obj.chan q b p s y z)) {k:Nat} (n:0<k) (fr':Zg) (a:Z7) (g:Z3):runN Q k (lone fr cs w)≠.next (lone fr' a g):=by
 have f:(∃o w2,step Q (lone fr cs w)=.ended o w2)\/∃d w2,d.status=.blocked/\step Q (lone fr cs w)=.next {world:=w2,gs:=#[d],rest:= {timers:=#[],alone:=U,slice:=U}}:=by
  have e:step Q (lone fr cs w)=(communicate Q {timers:=#[],alone:=U,slice:=U} #[{(default:Zi)with status:=.finished}] 0 g2 #[c] xk sh w').1:=by
   unfold G at h;rw[step,stepT,move_lone];simp[runT,lone,Array.swapAt!,Array.swapAt,h]
  rw[e];unfold communicate;dsimp only;split;simp;rename_i l;have u:ways w' #[{(default:Zi)with status:=.finished}] c=[]:=by
   unfold ways;split;simp_all;rfl
  have x:((#[c].zipIdx.toList.map λ(c,k)=>(k,c,ways w' #[{(default:Zi)with status:=.finished}] c)).filter λ(_,_,A)=> !A.isEmpty)=[]:=by
   simp[u]
  rw[x];simp only[List.isEmpty_nil,ZfT,waitingAt];have B:timerAhead {timers:=#[],alone:=U,slice:=U} w'.os.mono #[c]=xw:=by
   unfold timerAhead;rw[Array.any_eq_false];intro k n;split<;>simp
  simp_all
 obtain⟨o,w2,e⟩|⟨d,w2,t,e⟩:=f;exact JV e n _;obtain⟨k,rfl⟩:∃j,k=j+1:=⟨k-1,Z0⟩;simp only[runN,e];cases k with
 |zero=>
  grind [runN,lone,Machine.mk.injEq,Array.mk.injEq,List.cons.injEq]
 |succ k=>
  obtain⟨o,w3,e⟩:=Z1i (Q:=Q) (w:=w2) t;grind [JV]
def NB{Q:Z6}:∀(n:Nat) (m a:Machine),runN Q n m=.next a->m.gs.size<=a.gs.size
 |0,m,a,h=>by simp_all[runN,Zf3]
 |n+1,m,a,h=>by
  simp only[runN]at h;cases d:step Q m with
  |ended o w=>simp_all
  |next f=>
   rw[d]at h;exact Zfw (stepT_size Q m f xk d)<|NB n f a h
theorem Z8O{Q:Z6}{fr:Zg}{cs:Z7}{w w':Z3}{g2 f:Zi}{es:Zd}(h:stepG Q xk (G fr cs) w=.spawn g2 f w' es)
  {k:Nat} (g:0<k) (fr':Zg) (a:Z7) (d:Z3):runN Q k (lone fr cs w)≠.next (lone fr' a d):=by
 have e:step Q (lone fr cs w)=.next {world:=w',gs:=#[g2,f],rest:= {timers:=#[],alone:=U,slice:=U}}:=by
  unfold G at h;rw[step,stepT,move_lone];simp[runT,lone,Array.swapAt!,Array.swapAt,h]
 obtain⟨k,rfl⟩:∃j,k=j+1:=⟨k-1,Z0⟩;simp only[runN,e];intro h;have:=NB _ _ _ h;grind [lone]
def ED{p:Z6}{fr:Zg}{cs:Z7}{s:Sem Next}{w w':Z3}{es:Zd}{c:Array CommCase}{b:Bool}{sh:CommShape}(e:s.runT p w #[]=(.ok (.comm c b sh) w',es)):∃a,stepG.apply p xk fr cs U s w=.comm (G fr cs) c b sh w' a:=by
 unfold stepG.apply Conc.G;simp only[ZfT,e,GStep.after];exact⟨_,rfl⟩
def CW(P:Z6)(main:Bool)(fr:Zg)(cs:Z7)(w:Z3)(h:fr.mode=.run):stepG P main (G fr cs) w=stepG.exec P main xk fr cs U w:=by
 simp_all[stepG,G]
def Z0Y{fr:Zg}(h:Vt fr=xk):fr.mode=.run/\∃a i d k o,fr.todo=.inRegion a (i::d)::k/\a[i]?=J o/\Region.wanted o (yielded a fr.tmps)=xk/\qP o.op=xk:=by
 obtain⟨fn,n,g,j,f,kind,p⟩:=fr;cases f with
 |run=>
  obtain _|⟨i,k⟩:=g;cases h;cases i with
  |inRegion a l=>
   obtain _|⟨i,d⟩:=l;cases h;simp only[Vt]at h;grind
  |_=>cases h
 |_=>cases h
def Z8N{X:Cx}{fr:Zg}{cs:Z7}{w:Z3}(O:X.OkF fr)(h:Vt fr=xk)(hw:∀(r:Nat) H b G s Z tm,w.heap[r]? ≠J (Obj.chan H b G s Z tm))
  {k:Nat} (P:0<k) (fr':Zg) (u:Z7) (B:Z3):runN X.Q k (lone fr cs w)≠.next (lone fr' u B):=by
 obtain⟨R,Y,i,F,kk,o,D,C,A,q⟩:=Z0Y h;have N:fr.roundOf.isSome=xk->∀c,o.op≠.defer c:=λ_ c e=>by rw[e]at q;cases q
 have e:=CW X.Q xk fr cs w R;rw[JX D C A N]at e;obtain⟨a,op,type,pos,after,guard⟩:=o;have g:XI X.Q fr.roundOf.isSome op=xk:=by
  have:=O.todo _ (by rw[D];exact Zgo ..);simp only[VF,Zh0]at this;exact this _<|Zhs C
 dsimp only at q;cases op with
 |send j v=>
  obtain⟨es,l⟩:=ED (p:=X.Q) (fr:=fr) (cs:=cs) (s:=execOp fr.eval ⟨a,.send j v,type,pos,after,guard⟩) (w:=w) (w':=w) (es:=#[]) rfl;grind [Fi]
 |recv t j b=>
  have S:(∃h es,(execOp fr.eval ⟨a,.recv t j b,type,pos,after,guard⟩).runT X.Q w #[]=(.halt h w,es)/\bad h)\/∃c es,(execOp fr.eval ⟨a,.recv t j b,type,pos,after,guard⟩).runT X.Q w #[]=(.ok (.comm #[c] xk (.recv b)) w,es):=by
   have x:execOp fr.eval ⟨a,.recv t j b,type,pos,after,guard⟩=(do
    let .chan _ elem<-underlying t|stuck "receive: channel type expected"
    pure (.comm #[{chan:=fr.eval j,send:=U,zero:= <-zeroValue elem}] xk (.recv b)):Sem Next):=rfl
   rw[x];have T:∀ {α:Type} (f:TypeDesc->Sem α) (es:Zd),(underlying t>>=f).runT X.Q w es=match X.Q.underlying t with|some d=>(f d).runT X.Q w es|none=>(.halt (.stuck "no such type") w,es):=λf es=>by
    have l:(underlying t).runT X.Q w es=match X.Q.underlying t with|some d=>(.ok d w,es)|none=>(.halt (.stuck "no such type") w,es):=by
     show(match X.Q.underlying t with|some d=>pure d|none=>stuck "no such type" :Sem TypeDesc).runT X.Q w es=_;cases X.Q.underlying t<;>rfl
    show(Sem.bind _ _).runT X.Q w es=_;grind [Sem.runT_bind']
   rw[T];cases X.Q.underlying t with
   |none=>exact .inl ⟨_,_,rfl,trivial⟩
   |some d=>
    cases d<;>first|exact .inl ⟨_,_,rfl,trivial⟩|skip
    rename_i elem;have W:∀ {α:Type} (f:Value->Sem α) (es:Zd),(zeroValue elem>>=f).runT X.Q w es=match X.Q.info? elem with
     |some i=>(match i.zero with|some z=>(f z).runT X.Q w es|none=>(.halt (.unsupported (.resourceLimit "a value of more than 2^22 cells")) w,es))
     |none=>(.halt (.stuck "no such type") w,es):=λf es=>by
     have l:(typeInfo elem).runT X.Q w es=match X.Q.info? elem with|some d=>(.ok d w,es)|none=>(.halt (.stuck "no such type") w,es):=by
      show(match X.Q.info? elem with|some d=>pure d|none=>stuck "no such type" :Sem TypeInfo).runT X.Q w es=_;cases X.Q.info? elem<;>rfl
     have y:(zeroValue elem).runT X.Q w es=match X.Q.info? elem with
      |some i=>(match i.zero with|some z=>(.ok z w,es)|none=>(.halt (.unsupported (.resourceLimit "a value of more than 2^22 cells")) w,es))
      |none=>(.halt (.stuck "no such type") w,es):=by
      show(Sem.bind (typeInfo elem) _).runT X.Q w es=_;rw[Zh6,l];cases X.Q.info? elem with
      |none=>rfl
      |some i=>dsimp only;cases i.zero<;>rfl
     show(Sem.bind _ _).runT X.Q w es=_;grind [Sem.runT_bind']
    dsimp only;rw[W];cases X.Q.info? elem with
    |none=>exact .inl ⟨_,_,rfl,trivial⟩
    |some i=>
     dsimp only;cases i.zero with
     |none=>exact .inl ⟨_,_,rfl,trivial⟩
     |some z=>simp
  obtain⟨h,es,l,M⟩|⟨c,es,l⟩:=S;obtain⟨o,w2,L,y⟩:=jv (fr:=fr) (cs:=cs) M l;rw[y]at e;exact JV (CZ e) P _;obtain⟨K,y⟩:=ED (fr:=fr) (cs:=cs) l;grind [Fi]
 |go c=>
  simp only[XI,ZeZ]at g;obtain⟨callee,args,n⟩:=c;cases callee<;>first|(cases g.2;done)|skip
  rename_i f;cases f<;>first|(cases g.2;done)|skip
  rename_i f;have l:∃g2 j es,stepG.apply X.Q xk fr cs U (execOp fr.eval ⟨a,.go ⟨.value<|.func f,args,n⟩,type,pos,after,guard⟩) w=.spawn g2 j w es:=by
   have x:(execOp fr.eval ⟨a,.go ⟨.value<|.func f,args,n⟩,type,pos,after,guard⟩).runT X.Q w #[]=(.ok (.spawn {target:=.fn (.func f) #[],args:=#[]++args.map fr.eval}) w, #[]):=rfl;unfold stepG.apply;simp only[ZfT,x];simp only[ZhZ,Zi0,Zfk,ZfV,GStep.after];exact⟨_,_,_,rfl⟩
  grind [Z8O]
 |_=>cases q
inductive Ev where
 |recv (v:Zc)
 |closed (z:Zc)
 |send (v:Zc)
def Vs(P:Z6)(c:Nat)(e:Ev)(fr:Zg):Prop:=
 ∃f i h k o,fr.mode=.run/\fr.todo=.inRegion f (i::h)::k/\f[i]?=J o/\Region.wanted o (yielded f fr.tmps)=xk/\
  match e with
  |.recv _=>∃t a d g inf z,o.op=.recv t a xk/\ZS a=xk/\fr.eval a=.chan (J c)/\P.underlying t=J (.chan d g)/\P.info? g=J inf/\inf.zero=J z
  |.closed z=>∃t a d g inf,o.op=.recv t a xk/\ZS a=xk/\fr.eval a=.chan (J c)/\P.underlying t=J (.chan d g)/\P.info? g=J inf/\inf.zero=J z
  |.send v=>∃a x,o.op=.send a x/\ZS a=xk/\ZS x=xk/\fr.eval a=.chan (J c)/\fr.eval x=v
def Ev.val:Ev->Value
 |.recv v=>.tuple #[v,.bool xk]
 |.closed z=>.tuple #[z,.bool xw]
 |.send _=>xy
def Xh(e:Ev)(fr:Zg):Frame:=fr.finish e.val
def LC(n:Nat):Ev->Prop
 |.recv v|.closed v|.send v=>FixV n v
def Z2h{n:Nat}{e:Ev}(h:LC n e):FixV n e.val:=by
 intro ρ a;cases e with
 |recv v=>simp only[Ev.val,U4];simp[h ρ a]
 |closed v=>simp only[Ev.val,U4];simp[h ρ a]
 |send v=>exact Sb ρ
def Z0V{P:Z6}{c:Nat}{e:Ev}{fr:Zg}(h:Vs P c e fr):Vt fr=xk:=by
 obtain⟨d,i,a,k,o,g,l,j,n,f⟩:=h;grind [qP,Vt]
def Z0U{X:Cx}{ρ:Zj}{n c:Nat}{e:Ev}{fr:Zg}(h:Vs X.Q c e fr)(A:SJ n ρ)(hc:c<n)(C:LC n e):Vs X.P c e<|Zw ρ fr:=by
 obtain⟨a,i,q,k,o,D,G,F,H,h⟩:=h;have K:yielded a (Zw ρ fr).tmps=yielded a fr.tmps:=funext λj=>Dm ρ a fr.tmps j;have B:Zt ρ (.chan<|J c)=.chan (J c):=by simp[Zt,A c hc]
 refine⟨a,i,q,k.map<|Yv ρ,o,by simp[Zw,D,XU],by simp[Zw,G,Yv],F,Ze2,?_⟩;cases e with
 |recv v=>
  obtain⟨t,f,d,w,inf,z,g,l,r,u,p,y⟩:=h;exact⟨t,f,d,w,inf,z,g,l,by simp_all[Rz],by rw[X.cx];exact u,by rw[X.dq];exact p,y⟩
 |closed v=>
  obtain⟨t,f,d,w,inf,g,l,r,u,p,y⟩:=h;exact⟨t,f,d,w,inf,g,l,by simp_all[Rz],by rw[X.cx];exact u,by rw[X.dq];exact p,y⟩
 |send v=>
  obtain⟨f,x,g,l,r,u,p⟩:=h;exact⟨f,x,g,l,r,by simp_all[Rz],by rw[Rz ρ fr x r,p];exact C ρ A⟩
inductive Play (P:Program) (main:Bool) (c:Nat) (K:Nat->Prop) (Stop:(Nat->Prop)->Goroutine->World->Prop):List Ev->(Nat->Prop)->Goroutine->World->Prop where
 |stop {O:Z4} {g:Zi} {w:Z3}:(∀w1,Rely K O w w1->Stop O g w1)->Play P main c K Stop [] O g w
 |ev {e:Ev} {es:List Ev} {O:Z4} {fr:Zg} {cs:Z7} {w:Z3}:Vs P c e fr->(∀w1,Rely K O w w1->Play P main c K Stop es O (G (Xh e fr) cs) w1)->Play P main c K Stop (e::es) O (G fr cs) w
 |step {es:List Ev} {O:Z4} {fr:Zg} {cs:Z7} {w:Z3}:(∀w1,Rely K O w w1->∃fr' cs' w' es',stepG P main (G fr cs) w1=.go (G fr' cs') w' es'/\Guar K O w1 w' es')->
   (∀w1 g' w' es',Rely K O w w1->stepG P main (G fr cs) w1=.go g' w' es'->Play P main c K Stop es (V4 O w1 w') g' w')->Play P main c K Stop es O (G fr cs) w
def Play.gj{P:Z6}{main:Bool}{c:Nat}{K:Z4}{a:(Nat->Prop)->Goroutine->World->Prop}{es:List Ev}{O:Z4}{g:Zi}{w w1:Z3}(h:Play P main c K a es O g w)(f:Rely K O w w1):Play P main c K a es O g w1:=by
 cases h with
 |stop h=>exact .stop λw2 d=>h w2<|f.trans d
 |ev j d=>exact .ev j λw2 h=>d w2<|f.trans h
 |step j d=>exact .step (λw2 h=>j w2<|f.trans h) λw2 k l es h=>d w2 k l es<|f.trans h
def Play.mono{P:Z6}{main:Bool}{c:Nat}{K:Z4}{d a:(Nat->Prop)->Goroutine->World->Prop}{es:List Ev}{O:Z4}{g:Zi}{w:Z3}(h:Play P main c K d es O g w)(o:∀O g w,d O g w->a O g w):Play P main c K a es O g w:=by
 induction h with
 |stop h=>exact .stop λw2 j=>o _ _ _<|h w2 j
 |ev f j l=>exact .ev f λw2 h=>l w2 h
 |step f j l=>exact .step f λw2 n p es h k=>l w2 n p es h k
abbrev Z8:=Frame->List Frame->World->Prop
def LS(Q:Z6)(c:Nat)(Post:Z8):List Ev->Frame->List Frame->World->Prop
 | [],h,g,j=>∃n a d f,runN Q n (lone h (g++[YE Q]) j)=.next (lone a (d++[YE Q]) f)/\Post a d f
 |e::k,h,g,j=>∃n a d f,runN Q n (lone h (g++[YE Q]) j)=.next (lone a (d++[YE Q]) f)/\Vs Q c e a/\LS Q c Post k (Xh e a) d f
def Z5h{P:Z6}{main:Bool}{c:Nat}{K:Z4}{d:(Nat->Prop)->Goroutine->World->Prop}{es:List Ev}{O:Z4}{fr:Zg}{cs:Z7}{w:Z3}(h:¬Play P main c K d es O (G fr cs) w):
  ∃w1,Rely K O w w1/\((¬ ∃j g f a,stepG P main (G fr cs) w1=.go (G j g) f a/\Guar K O w1 f a)\/∃k f a,stepG P main (G fr cs) w1=.go k f a/\¬Play P main c K d es (V4 O w1 f) k f):=by
 refine Zh5 λo=>h (.step (λw1 l=> ?_) λw1 k f a l n=> ?_);simp_all;simp_all
def Z5i{P:Z6}{main:Bool}{c:Nat}{K:Z4}{a:(Nat->Prop)->Goroutine->World->Prop}{e:Ev}{es:List Ev}{O:Z4}{fr:Zg}{cs:Z7}{w:Z3}(h:¬Play P main c K a (e::es) O (G fr cs) w)(g:Vs P c e fr):
  ∃w1,Rely K O w w1/\¬Play P main c K a es O (G (Xh e fr) cs) w1:=
 Zh5 λj=>h (.ev g λw1 d=>Zh5 λf=>j ⟨w1,d,f⟩)
structure Cx.Woven (X:Cx) (ds:List Frame) (wc:World) (fr:Frame) (cs:List Frame) (wl:World) (O:Nat->Prop) (fc:Frame) (cc:List Frame) (w:World):Prop where
 ba:fc=Zw X.ρ fr
 under:cc=cs.map (Zw X.ρ)++ds
 st:X.St fr cs
 wr:X.WR wl w
 own:∀b,X.fp b->b<xz (xj wl)->O (X.ρ b)
 new:∀b,X.n0<=b->b<xz (xj wl)->xz (xj wc)<=X.ρ b
 sz:xz (xj wc)<=xz (xj w)
 sub:∀b,O b->X.O b\/xz (xj wc)<=b
def Z5c{X:Cx}{a w}(h:X.WR a w)(r f:Nat)b d s g j:a.heap[r]? ≠J (Obj.chan f b d s g j):=λe=>by
 obtain h|h:=h.kind e;cases h;exact h.elim
def Dg(X:Cx)(f7:∀ρ,(X.at ρ).Ok){c es fr cs ds main wc}(f4:∀e∈es,LC X.n0 e/\c<X.n0)(f8:∀ρ,(X.at ρ).St fr cs)
  (b0:∀f∈fr::cs,DB X.n0 f) (f5:∀b o,wc.heap[b]?=J o->(X.O b\/X.G b)->JD X.n0 o) {Post:World->Frame->List Frame->World->Prop}
  (hl:∀t,LS X.Q c (Post<|X.cj wc t) es fr cs<|X.cj wc t):
  Play X.P main c X.G (λO g w=>∃ρ t p u z fc cc,g=G fc cc/\SJ X.n0 ρ/\Post (X.cj wc t) p u z/\(X.at ρ).Woven ds wc p u z O fc cc w) es X.O (G fr<|cs++ds) wc:=by
 classical
 refine Zh5 λa9=> ?_;generalize b3:(λO g w=>∃ρ t p u z fc cc,g=G fc cc/\SJ X.n0 ρ/\Post (X.cj wc t) p u z/\(X.at ρ).Woven ds wc p u z O fc cc w)=a7 at a9;let S:=List Ev×(Nat->Prop)×Frame×List Frame×World;let a2:S->Prop:=λs=>¬Play X.P main c X.G a7 s.1 s.2.1 (G s.2.2.1 s.2.2.2.1) s.2.2.2.2;let T:S->Prop:=λs=>∃e es,s.1=e::es/\Vs X.P c e s.2.2.1
 have b5:∀s:S,∃(w1:Z3) (s':S),a2 s->Rely X.G s.2.1 s.2.2.2.2 w1/\((∃e es,s.1=e::es/\Vs X.P c e s.2.2.1/\s'=(es,s.2.1,Xh e s.2.2.1,s.2.2.2.1,w1)/\a2 s')\/
   (¬T s/\((¬ ∃p u w' r,stepG X.P main (G s.2.2.1 s.2.2.2.1) w1=.go (G p u) w' r/\Guar X.G s.2.1 w1 w' r)\/
    ∃r,stepG X.P main (G s.2.2.1 s.2.2.2.1) w1=.go (G s'.2.2.1 s'.2.2.2.1) s'.2.2.2.2 r/\s'.2.1=V4 s.2.1 w1 s'.2.2.2.2/\s'.1=s.1/\a2 s'))):=λs=>by
  by_cases h:a2 s;by_cases he:T s;let⟨e,es,h1,A⟩:=he;have h':¬Play X.P main c X.G a7 (e::es) s.2.1 (G s.2.2.1 s.2.2.2.1) s.2.2.2.2:=by rw[<-h1];exact h
  let⟨w1,h3,h4⟩:=Z5i h' A;exact⟨w1,(es,s.2.1,Xh e s.2.2.1,s.2.2.2.1,w1),λ_=>⟨h3,.inl ⟨e,es,h1,A,rfl,h4⟩⟩⟩;let⟨w1,h1,A⟩:=Z5h h;by_cases hg:∃p u w' r,stepG X.P main (G s.2.2.1 s.2.2.2.1) w1=.go (G p u) w' r/\Guar X.G s.2.1 w1 w' r;obtain A|⟨g',w',r,A,h3⟩:=A;simp_all;let⟨p,u,w2,b7,h4,h5⟩:=hg;rw[h4]at A;injection A with q1 q2 q3;subst q1 q2;exact⟨w1,(s.1,V4 s.2.1 w1 w2,p,u,w2),λ_=>⟨h1,.inr ⟨he,.inr ⟨b7,h4,rfl,rfl,h3⟩⟩⟩⟩;grind;simp_all
 let⟨L,f1⟩:=Zhh b5;let⟨N,hN⟩:=Zhh f1;let s:=NU N (es,X.O,fr,cs++ds,wc);let W:=λi=>if T (s i)then L (s i)else Y2 ((Yw (s i).2.2.1).run X.P<|L<|s i)
 let a:=λi=>xz (xj<|W i)- xz (xj<|L<|s i);let b:=λi=>(W i).drawn- (L<|s i).drawn;let⟨f,hf⟩:=P0 a (λi j=>xz (xj<|L<|s i)+j) 0;let⟨t,ht⟩:=P0 b (λi j=>(L<|s i).tape<|(L<|s i).drawn+j) (λ_=>0);let ρ:=λx=>if x<X.n0 then x else f<|x-X.n0
 have hid:SJ X.n0 ρ:=λx R=>Zfc R;have hρ:∀i j,j<a i->ρ (X.n0+XT a i+j)=xz (xj<|L<|s i)+j:=λi j hj=>by
  show(if X.n0+XT a i+j<X.n0 then _ else _)=_;rw[Zf7 Z0,show X.n0+XT a i+j-X.n0=XT a i+j from by omega];grind
 have a3:xz (xj<|X.cj wc t)=X.n0:=by simp[Cx.cj]
 let Inv:=λi p u z=>a2 (s i)/\(X.at ρ).Woven ds wc p u z (s i).2.1 (s i).2.2.1 (s i).2.2.2.1 (s i).2.2.2.2/\xz (xj z)=X.n0+XT a i/\z.drawn=XT b i/\z.tape=t
 have one:∀i n k y l C B H,Inv i k y l->runN X.Q (n+1) (lone k (y++[YE X.Q]) l)=.next (lone C (B++[YE X.Q]) H)->
   ∃Z Y a0,Inv (i+1) Z Y a0/\(s<|i+1).1=(s i).1/\runN X.Q n (lone Z (Y++[YE X.Q]) a0)=.next (lone C (B++[YE X.Q]) H):=by
  rintro i n k y l C B H ⟨f3,q,e0,c1,a6⟩ d;have b2:Vt k=xw:=by
   cases h:Vt k with
   |false=>rfl
   |true=>exact absurd d<|Z8N (X:=X.at ρ) q.st.ba h (Z5c q.wr) Z0 _ _ _
  have b1:¬T (s i):=λ⟨e,es,h1,A⟩=>by
   have:=Z0V A;rw[q.ba,Z0Z,b2]at this;cases this
  let⟨K,a1⟩:=hN (s i) f3;have f0:=Co q.wr K q.own;have a8:W i=Y2 ((Yw (s i).2.2.1).run X.P<|L<|s i):=Zf7 b1;have g6:xz (xj<|L<|s i)<=xz (xj<|W i)/\(L<|s i).drawn<=(W i).drawn:=by rw[a8];exact Jo X.P _ _
  have a5:(X.at ρ).br l (L<|s i)<|W i:=by
   refine⟨λj hj=> ?_,λj hj=> ?_⟩;rw[c1,a6];exact ht i j (by show j< (W i).drawn- (L<|s i).drawn;omega);rw[e0];exact hρ i j (by show j< xz (xj<|W i)- xz (xj<|L<|s i);omega)
  have a4:W i=Y2 ((Yw<|Zw (X.at ρ).ρ k).run (X.at ρ).P<|L<|s i):=by
   rw[a8,q.ba];rfl
  have c8:¬(y=[]/\k.mode=.returning/\k.defers=[]):=λ⟨h1,A,h3⟩=>by
   subst h1;have hk:k.kind=.normal:=by have:=q.st.bot;simp only[bot,Zf9]at this;exact this.1
   obtain⟨v,w',e⟩|⟨o,w',e⟩:=Z20 q.st.ba hk A h3 (YE X.Q) l;have:runN X.Q n (lone ((YE X.Q).finish v) [] w')=.next (lone C (B++[YE X.Q]) H):=by
    simp only[runN]at d;rw[show step X.Q (lone k ([]++[YE X.Q]) l)=_ from e]at d;exact d
   exact Ig (Z1y X.Q v w') _ _ _ _ _ this;exact JV e Z0 _ d
  obtain d8|⟨ch,h1,A⟩:=Z8y (c0:=YE X.Q) (ds:=ds) (f7 ρ) (main:=main) q.st b2 c8 f0 a4 a5;obtain⟨o,w',r,e⟩|⟨Z,Y,a0,g3,r,e1,e2,d9,af⟩:=d8;exact absurd d<|JV (CZ e) Z0 _;have hg:=Z2K af f0 q.own;have b6:stepG X.P main (G (s i).2.2.1 (s i).2.2.2.1) (L<|s i)=.go (G (Zw ρ Z)<|Y.map (Zw ρ)++ds) (W i) r:=by rw[q.ba,q.under];exact e2
  obtain⟨e,es,h1,A,_⟩|⟨_,f6|⟨f9,e3,e4,e5,e6⟩⟩:=a1;exact absurd ⟨e,es,h1,A⟩ b1;exact absurd ⟨_,_,_,_,b6,hg⟩ f6;rw[b6]at e3;injection e3 with e7 e8 e9;have q5:Zw ρ Z=(N<|s i).2.2.1:=Zg6 Goroutine.frame e7;have q6:Y.map (Zw ρ)++ds=(N<|s i).2.2.2.1:=Zg6 Goroutine.callers e7;have D:s (i+1)=N (s i):=rfl;have q1:=af.sz;have q2:=af.pv;have q3:=af.dr;have q4:=af.oh;refine⟨Z,Y,a0,⟨by rw[D];exact e6,⟨by rw[D,<-q5];rfl,by rw[D,<-q6];rfl,d9,by rw[D,<-e8];exact af.wr,?_,?_,?_,?_⟩,?_,?_,af.tl.trans a6⟩,by rw[D];exact e5,?_⟩;intro x R M;rw[D,e4,<-e8];by_cases h:x<xz (xj l);exact .inl<|q.own x R h;exact .inr<|af.new x Z0 M;intro x R M;by_cases h:x<xz (xj l);exact q.new x R h;have:=(af.new x Z0 M).1;have:=q.sz;have:=K.sz;omega;rw[D,<-e8];have:=q.sz;have:=K.sz;omega;intro x R;rw[D,e4]at R;obtain R|R:=R;exact q.sub x R;have:=q.sz;have:=K.sz;omega;show xz (xj a0)=X.n0+(XT a i+(xz (xj<|W i)- xz (xj<|L<|s i)));omega;show a0.drawn=XT b i+((W i).drawn- (L<|s i).drawn);omega;simp only[runN]at d;rw[show step X.Q (lone k (y++[YE X.Q]) l)=_ from qR e1]at d;exact d;subst h1;have e:=qR A;have:runN X.Q n (lone ((YE X.Q).raise ch) [] l)=.next (lone C (B++[YE X.Q]) H):=by
   simp only[runN]at d;rw[show step X.Q (lone k ([]++[YE X.Q]) l)=_ from e]at d;exact d
  exact absurd this<|Ig (Z1z X.Q ch l) _ _ _ _ _
 have b8:∀n i k y l C B H,Inv i k y l->runN X.Q n (lone k (y++[YE X.Q]) l)=.next (lone C (B++[YE X.Q]) H)->
   ∃F,Inv F C B H/\(s F).1=(s i).1:=by
  intro n;induction n with
  |zero=>
   intro i k y l C B H hi hr;simp only[runN]at hr;injection hr with hr;obtain⟨rfl,A,rfl⟩:=Z4l hr;obtain rfl:=List.append_cancel_right A;exact⟨i,hi,rfl⟩
  |succ n ih=>
   intro i k y l C B H hi hr;let⟨Z,Y,a0,h1,A,h3⟩:=one i n k y l C B H hi hr;let⟨F,h4,h5⟩:=ih (i+1) Z Y a0 C B H h1 h3;exact⟨F,h4,h5.trans A⟩
 have all:∀r,(∀e∈r,LC X.n0 e/\c<X.n0)->∀i k y l,(s i).1=r->LS X.Q c (Post<|X.cj wc t) r k y l->Inv i k y l->False:=by
  intro r;induction r with
  |nil=>
   intro _ i k y l hs b4 hi;let⟨n,p,u,z,hr,hp⟩:=b4;let⟨F,⟨hb,q,_⟩,A⟩:=b8 n i _ _ _ _ _ _ hi hr;refine hb ?_;rw[A,hs];refine .stop λw1 h1=> ?_;rw[<-b3];exact⟨ρ,t,p,u,z,_,_,rfl,hid,hp,q.ba,q.under,q.st,Co q.wr h1 q.own,q.own,q.new,Zfw q.sz h1.sz,q.sub⟩
  |cons e r ih=>
   intro d7 i k y l hs b4 hi;let⟨n,p,u,z,hr,f2,d⟩:=b4;let⟨F,⟨hb,q,e0,c1,a6⟩,A⟩:=b8 n i _ _ _ _ _ _ hi hr;let⟨d5,hc⟩:=d7 e Z1;have b9:Vs X.P c e (s F).2.2.1:=by
    rw[q.ba];exact Z0U f2 hid hc d5
   have d0:T<|s F:=⟨e,r,A.trans hs,b9⟩;let⟨K,a1⟩:=hN (s F) hb;have a4:W F=L (s F):=Zfc d0;have g4:a F=0:=by show xz (xj<|W F)- xz (xj<|L<|s F)=0;rw[a4];omega
   have g5:b F=0:=by show(W F).drawn- (L<|s F).drawn=0;rw[a4];omega
   obtain⟨e2,b7,h3,h4,h5,h6⟩|⟨h3,_⟩:=a1;rw[A,hs]at h3;injection h3 with h7 h8;subst h7 h8;have D:s (F+1)=N (s F):=rfl;have d6:Zw ρ (Xh e p)=Xh e (Zw ρ p):=by
    unfold Xh;rw[<-K5 ρ X.Q p e.val q.st.ba.todo,Z2h d5 ρ hid]
   refine ih (λx R=>d7 x<|ZfF _ R) (F+1) (Xh e p) u z (by rw[D,h5]) d ⟨by rw[D];exact h6,?_,?_,?_,a6⟩;rw[D,h5];refine⟨?_,q.under,q.st.with (QH q.st.ba _) (QG _ _)<|QI _ _,Co q.wr K q.own,q.own,q.new,Zfw q.sz K.sz,q.sub⟩;show Xh e (s F).2.2.1=Zw ρ (Xh e p);rw[d6,q.ba];rfl;show xz (xj z)=X.n0+(XT a F+a F);omega;show z.drawn=XT b F+b F;omega;exact absurd d0 h3
 refine all es f4 0 fr cs (X.cj wc t) rfl (hl t) ⟨a9,⟨?_,?_,f8 ρ,Z4E X t hid f5,λx R M=> ?_,λx R M=> ?_,Zf3 _,λb hb=>.inl hb⟩,by rw[a3];rfl,rfl,rfl⟩;exact(b0 fr Z1 ρ hid).symm;have A:cs.map (Zw ρ)=cs:=by
  have:=λc hc=>b0 c (ZfF _ hc) ρ hid;exact(Zgp this).trans Z1
 show cs++ds=cs.map (Zw ρ)++ds;rw[A];rw[a3]at M;obtain R|R:=R;exact absurd M<|Zjc.2 R;have e:(X.at ρ).ρ x=x:=hid x M;rw[e];exact R;rw[a3]at M;exact absurd M<|Zjc.2 R
section
def blk:Loc->Option Nat
 |.cell a=>J a.block
 |.obj r=>J r
 |_=>U
def B2(n:Nat)(op:MemOp):Prop:=∀x b,op.act.touch?=J x->blk x.loc=J b->b<n
def I4{l:Loc}(h:l.isMemory=xk):∃b,blk l=J b:=by
 cases l<;>first|exact⟨_,rfl⟩|cases h
def EvC.ms{K O:Z4}{e:Event}(h:EvC K O e):∀m,e.loc=.mark m->Neutral m:=by
 intro m a;unfold EvC at h;rw[a]at h;exact h
structure TI (n:Nat) (OA OB KB:Nat->Prop) (sz:Nat) (t:Trace):Prop where
 fw:∀said,¬Race said t
 dk:∀i,Deaf t i=0
 H:∀op∈t,B2 sz op
 j1:∀(i:Nat) (op:MemOp) (x:Touch),t[i]?=J op->op.act.touch?=J x->x.loc.isMemory=xk->Knows t 0 i\/(op.g=n/\∃b,blk x.loc=J b/\(OB b\/(x.write=xw/\KB b)))
 j2:∀(i:Nat) (op:MemOp) (x:Touch),t[i]?=J op->op.act.touch?=J x->x.loc.isMemory=xk->op.g=n\/Knows t n i\/((x.write=xk->∃b,blk x.loc=J b/\OA b)/\∀b,blk x.loc=J b->¬OB b)
section
variable {n:Nat}{OA OB KB KA:Z4}{sz sz':Nat}{t:Trace}
def zf{K O:Z4}{g:Nat}{fn:Zm}{pos:String}{es:Zd}(j:∀e∈es,EvC K O e){op:MemOp}(h:op∈MemOp.ofEvents g fn pos es){x:Touch}(hx:op.act.touch?=J x)(l:x.loc.isMemory=xk):
  op.g=g/\∃b,blk x.loc=J b/\(O b\/(x.write=xw/\K b)):=by
 rw[ofEvents_eq]at h;obtain⟨e,q,rfl⟩:=ZhG.1 h;refine⟨rfl,?_⟩;have f:=j e q;obtain⟨n,o⟩:=ofEvent_touch f.ms hx;obtain⟨b,d⟩:=I4 l;refine⟨b,d,?_⟩;unfold EvC at f;rw[n]at d l;rw[o];split at f;rename_i a p;rw[p]at d;cases d;exact f;rename_i r u;rw[u]at d;cases d;grind;rename_i m k;rw[k]at d;cases d;rename_i t;rw[t]at d;cases d;simp_all
def jX{K O:Z4}{g:Nat}{fn:Zm}{pos:String}{es:Zd}(j:∀e∈es,EvC K O e)(y:∀b,O b->b<sz)(w:∀b,K b->b<sz):∀op∈MemOp.ofEvents g fn pos es,B2 sz op:=by
 intro op h x b t d;rw[ofEvents_eq]at h;obtain⟨e,o,rfl⟩:=ZhG.1 h;have f:=j e o;obtain⟨l,u⟩:=ofEvent_touch f.ms t;rw[l]at d;unfold EvC at f;split at f;rename_i a n;rw[n]at d;cases d;grind;rename_i r q;rw[q]at d;cases d;grind;rename_i m k;rw[k]at d;cases d;rename_i p;rw[p]at d;cases d;simp_all
def jW{K O:Z4}{g:Nat}{fn:Zm}{pos:String}{es:Zd}(a:∀e∈es,EvC K O e)(h:∀i,Deaf t i=0)(i:Nat):Deaf (t++MemOp.ofEvents g fn pos es) i=0:=by
 by_cases j:g=i;subst j;rw[Deaf_own,h];obtain⟨l⟩:=es;induction l with
 |nil=>rfl
 |cons e l o=>
  have k:=(a e Z1).ms;have n:deafBehind 0 (e::l).toArray=deafBehind 0 l.toArray:=by
   simp only[deafBehind,List.foldl_toArray',ZgS];congr 1;obtain⟨f,wr,p⟩:=e;cases f with
   |mark m=>
    have:=k m rfl;cases m<;>first|rfl|cases this
   |_=>rfl
  simp_all
 rw[Deaf_other t j _ (λop d=>by rw[ofEvents_eq]at d;grind)];exact h i
def TI.main{j:Z4}(h:TI n OA OB KB sz t)(hn:n≠0)(F:∀b,OA b->j b)(D:∀b,j b->OA b\/sz<=b)(r:sz<=sz')(G:∀b,j b->b<sz')(z:∀b,KA b->b<sz)
  (K:∀b,j b->¬OB b) (L:∀b,j b->¬KB b) (W:∀b,KA b->¬OB b) {fn:Zm} {pos:String} {es:Zd} (k:∀e∈es,EvC KA j e):TI n j OB KB sz'<|t++MemOp.ofEvents 0 fn pos es:=by
 have X:∀op∈MemOp.ofEvents 0 fn pos es,op.g=0:=λop f=>by rw[ofEvents_eq]at f;grind
 refine⟨λsaid=>noRace_append (h.fw said) X λi a H op f b p O=> ?_,jW k h.dk,λop f=> ?_,λi op x A o u=> ?_,λi op x A o u=> ?_⟩
 .obtain⟨y,Y,C⟩:=touch_of H;obtain⟨he,B,hw,_⟩:=O;obtain T|⟨hg,c,P,Q⟩:=h.j1 i y a Y C B;rotate_left;obtain⟨_,d,R,S⟩:=zf k f p Ze3;grind;exact T
 obtain f|f:=Zgy.1 f;exactλx b o p=>Zf4 (h.H op f x b o p) r;exact jX k G (λb p=>Zf4 (z b p) r) op f;obtain⟨_,l⟩|⟨_,q⟩:=getElem?_append_cases A;exact(h.j1 i op x l o u).imp (Knows.app _) id;grind [knows_own];obtain⟨_,l⟩|⟨_,q⟩:=getElem?_append_cases A;obtain w|w|⟨w,Z⟩:=h.j2 i op x l o u;omega;exact .inr<|.inl<|w.app _;grind;obtain⟨_,b,M,N⟩:=zf k q o u;grind
def TI.ny{j:Z4}(h:TI n OA OB KB sz t)(z:∀b,OB b->j b)(w:∀b,j b->OB b\/sz<=b)(A:sz<=sz')(N:∀b,j b->b<sz')(F:∀b,KB b->b<sz)
  (P:∀b,OA b->¬j b) (Q:∀b,OA b->¬KB b) {fn:Zm} {pos:String} {es:Zd} (k:∀e∈es,EvC KB j e):TI n OA j KB sz'<|t++MemOp.ofEvents n fn pos es:=by
 have M:∀op∈MemOp.ofEvents n fn pos es,op.g=n:=λop f=>by rw[ofEvents_eq]at f;grind
 have L:∀(i:Nat) (op:MemOp) (x:Touch) (b:Nat),t[i]?=J op->op.act.touch?=J x->blk x.loc=J b->¬OB b->¬j b:=λi op x b u o p X B=>by
  obtain l|l:=w b B;grind;have:=h.H op (Zhs u) x b o p;omega
 refine⟨λsaid=>noRace_append (h.fw said) M λi a O op f b p R=> ?_,jW k h.dk,λop f=> ?_,λi op x u o C=> ?_,λi op x u o C=> ?_⟩;obtain⟨y,Y,H⟩:=touch_of O;obtain⟨Z,G,hw,_⟩:=R;obtain K|W|⟨l,D⟩:=h.j2 i y a Y H G;grind [knows_own];exact W;exfalso;obtain⟨_,d,S,T⟩:=zf k f p Ze3;grind;obtain f|f:=Zgy.1 f;exactλx b o p=>Zf4 (h.H op f x b o p) A;exact jX k N (λb p=>Zf4 (F b p) A) op f;obtain⟨_,q⟩|⟨_,r⟩:=getElem?_append_cases u;exact(h.j1 i op x q o C).imp (Knows.app _) λ⟨K,b,l,D⟩=>⟨K,b,l,D.imp (z b) id⟩;exact .inr ⟨M op r,(zf k r o C).2⟩;obtain⟨_,q⟩|⟨_,r⟩:=getElem?_append_cases u;obtain l|l|⟨l,D⟩:=h.j2 i op x q o C;omega;exact .inr<|.inl<|l.app _;grind;simp_all
def TI.comm(h:TI n OA OB KB sz t)(w:sz<=sz')(u:Trace)(O:∀op∈u,op.act.touch?=U/\op.act≠.mark .disable/\op.act≠.mark .enable):TI n OA OB KB sz'<|t++u:=by
 refine⟨λsaid=> ?_,λi=> ?_,λop d=> ?_,λi op x k f r=> ?_,λi op x k f r=> ?_⟩;rintro⟨i,j,p,⟨a,b,z,o,A⟩,L,M⟩;obtain⟨x,f,C⟩:=touch_of z;obtain⟨y,F,H⟩:=touch_of o;obtain⟨N,G⟩|⟨_,K⟩:=getElem?_append_cases F;obtain⟨k,B⟩|⟨_,D⟩:=getElem?_append_cases f;exact h.fw said ⟨i,j,p,⟨a,b,by simp_all[Trace.act?],by simp_all[Trace.act?],A⟩,λe=>L<|hb_app u e,λe=>M<|hb_app u e⟩;omega;simp_all;obtain⟨l⟩:=u;rw[Deaf_append,h.dk];induction l with
 |nil=>rfl
 |cons y l P=>
  simp_all[deafStep,absurd,ZgS]
 obtain d|d:=Zgy.1 d;exactλx b f o=>Zf4 (h.H op d x b f o) w;exactλx b f _=>Ze3;obtain⟨_,g⟩|⟨_,q⟩:=getElem?_append_cases k;exact(h.j1 i op x g f r).imp (Knows.app _) id;simp_all;obtain⟨_,g⟩|⟨_,q⟩:=getElem?_append_cases k;exact(h.j2 i op x g f r).imp id (Or.imp (Knows.app _) id);simp_all
end
end
end Vm
end
section
namespace Vm
open Go Go.Conc Go.ConcN
section
abbrev Ze:=Array Goroutine
def Yz(P:Z6)(n:Nat)(gs:Ze)(q:Zj):Prop:=∀i g,0<i->i≠n->gs[i]?=J g->QuitsIn P (q i) g
abbrev Zo:=Array Goroutine->World->Trace->Prop
def Win(P:Z6)(Final:Zo)(gs:Ze)(w:Z3)(sl:Option<|Nat×Nat)(t:Trace):Prop:=
 ∃N a g d f,runNT P N (crowd gs w sl) t=(.next<|crowd a g d,f)/\Final a g f
section
variable {P:Z6}{Final:Zo}{n:Nat}
def Win.df{gs:Ze}{w:Z3}{sl:Option (Nat×Nat)}{t:Trace}(h:Final gs w t):Win P Final gs w sl t:=⟨0,gs,w,sl,t,rfl,h⟩
def Win.step{gs a:Ze}{w w1:Z3}{sl d:Option (Nat×Nat)}{t:Trace}{ops:Array MemOp}(h:stepT P (crowd gs w sl)=(.next<|crowd a w1 d,ops))(k:Win P Final a w1 d<|t++ops):Win P Final gs w sl t:=by
 obtain⟨N,f,o,g,n,j,l⟩:=k;exact⟨N+1,f,o,g,n,by simp only[runNT,h];exact j,l⟩
theorem P2{g g' b:Zi}{w':Z3}{k:Nat}(a:QuitsIn P k b):woken P g g' w' b=b:=woken_quitsD<|QuitsD.of_quitsIn a
def O4{Wn:Array Goroutine->World->Option (Nat×Nat)->Trace->Prop}(K:∀ {gs N:Ze} {w w1:Z3} {sl Y:Option (Nat×Nat)} {t:Trace} {W:Array MemOp},stepT P (crowd gs w sl)=(.next<|crowd N w1 Y,W)->Wn N w1 Y (t++W)->Wn gs w sl t)
  {gs:Ze} {w:Z3} {sl:Option (Nat×Nat)} {t:Trace} {q:Zj} (hl:Yz P n gs q)
  (D:∀i g,(i=0\/i=n)->gs[i]?=J g->awake g/\∀g1 g2 d,woken P g1 g2 (w.at d) g=g)
  (hr:∃i g,(i=0\/i=n)/\gs[i]?=J g/\g.status=.running)
  (H:∀a d0 X d o q' i g,stepT P (crowd a (w.at d0) X)=runT P (crowd a (w.at d) o) i->a.size=gs.size->(∀j,(j=0\/j=n)->a[j]?=gs[j]?)->Yz P n a q'->(i=0\/i=n)->a[i]?=J g->g.status=.running->Wn a (w.at d0) X t):Wn gs w sl t:=by
 have key:∀M a d sl q,sumTo gs.size q<=M->a.size=gs.size->(∀j,(j=0\/j=n)->a[j]?=gs[j]?)->Yz P n a q->Wn a (w.at d) sl t:=by
  intro M;induction M with
  |zero=>
   intro a d sl q hM u f C;have z:∀g∈a,awake g:=λg r=>by
    obtain⟨i,p,rfl⟩:=ZiL.1 r;by_cases h:i=0\/i=n;exact(D i _ h (by rw[<-f i h];exact ZfM p)).1;have:=C i _ Z0 Z0<|ZfM p;exactλt S=>by obtain h|h:=this.status<;>rw[h]at S<;>cases S
   obtain⟨T,g0,h1,Z,h3⟩:=hr;obtain⟨i,g,L,o,p,r,B⟩:=crowd_pick (P:=P) (w:=w.at d) (sl:=sl) z ⟨T,g0,by rw[f T h1];exact Z,h3⟩;by_cases h:i=0\/i=n;exact H a d sl L o q i g B u f C h p r;have l:=C i g Z0 Z0 p;have G:i<gs.size:=by rw[<-u];exact(Zf2.1 p).1
   have a6:q i=0:=by
    have Z:sumTo gs.size (upd q i 0)+q i=sumTo gs.size q+0:=by simpa using sumTo_upd q 0 id G
    omega
   rw[a6]at l;rw[show g.status=.finished from l]at r;cases r
  |succ M ih=>
   intro a d sl q hM u f C;have z:∀g∈a,awake g:=λg r=>by
    obtain⟨i,p,rfl⟩:=ZiL.1 r;by_cases h:i=0\/i=n;exact(D i _ h (by rw[<-f i h];exact ZfM p)).1;have:=C i _ Z0 Z0<|ZfM p;exactλt S=>by obtain h|h:=this.status<;>rw[h]at S<;>cases S
   obtain⟨T,g0,h1,Z,h3⟩:=hr;obtain⟨i,g,L,o,p,r,B⟩:=crowd_pick (P:=P) (w:=w.at d) (sl:=sl) z ⟨T,g0,by rw[f T h1];exact Z,h3⟩;by_cases h:i=0\/i=n;exact H a d sl L o q i g B u f C h p r;have l:=C i g Z0 Z0 p;have G:i<gs.size:=by rw[<-u];exact(Zf2.1 p).1
   cases hk:q i with
   |zero=>
    rw[hk]at l;rw[show g.status=.finished from l]at r;cases r
   |succ k=>
    rw[hk]at l;obtain hf|⟨_,g',R,a5⟩:=l;rw[hf]at r;cases r;have a1:(i==0)=xw:=Ze4;have A:=runT_crowd_go (P:=P) (sl:=o) (i:=i) p (by rw[a1];exact R<|w.at L);have a7:sumTo gs.size (upd q i k)+(k+1)=sumTo gs.size q+k:=by
     have:=sumTo_upd q k id G;simpa[hk]using this
    have a4:MemOp.ofEvents i g.frame.fn g.frame.place #[]=#[]:=rfl;rw[a4]at A;refine K (B.trans A) ?_;rw[ZfQ];refine ih _ L o (upd q i k) Z0 (by simp[u]) (λj hj=> ?_) λj x hj a2 hx=> ?_;have a3:i≠j:=Z0;rw[ZfS a3,Zfz,f j hj];cases a0:gs[j]? with
    |none=>rfl
    |some y=>simp only[Zfm];rw[(D j y hj a0).2]
    by_cases F:i=j;subst F;have O:i<a.size:=Z0;rw[Zhr (by simpa using O)]at hx;cases hx;rw[upd_same];exact a5;rw[ZfS F,Zfz]at hx;obtain⟨y,hy,rfl⟩:=ZeY.1 hx;have Q:=C j y hj a2 hy;rw[P2 Q,upd_ne q k<|ZgL F];exact Q
 have:=key (sumTo gs.size q) gs w.drawn sl q (Zf3 _) rfl (λ_ _=>rfl) hl;exact this
def skip{gs:Ze}{w:Z3}{sl:Option (Nat×Nat)}{t:Trace}{q:Zj}(F:Yz P n gs q)
  (o:∀i g,(i=0\/i=n)->gs[i]?=J g->awake g/\∀g1 g2 d,woken P g1 g2 (w.at d) g=g)
  (G:∃i g,(i=0\/i=n)/\gs[i]?=J g/\g.status=.running)
  (H:∀a d k r i g,a.size=gs.size->(∀j,(j=0\/j=n)->a[j]?=gs[j]?)->Yz P n a r->(i=0\/i=n)->a[i]?=J g->g.status=.running->
   ∃f w1 l h,runT P (crowd a (w.at d) k) i=(.next<|crowd f w1 l,h)/\Win P Final f w1 l (t++h)):Win P Final gs w sl t:=
 O4 (Wn:=Win P Final) Win.step F o G λa L K d k r i g p y z A B C D=>by
  obtain⟨f,w1,l,h,u,x⟩:=H a d k r i g y z A B C D;exact Win.step (p.trans u) x
end
end
section
structure Cfg (P:Program) (n c:Nat) (KA KB OA0:Nat->Prop) (w0:World) (OA OB:Nat->Prop) (gs:Array Goroutine) (w:World) (t:Trace) (q:Nat->Nat):Prop where
 n0:0<n
 lv:Yz P n gs q
 ti:TI n OA (λb=>OB b\/b=c) KB (xz<|xj w) t
 la:∀b,OA b->b<xz (xj w)
 lb:∀b,OB b->b<xz (xj w)
 ka:∀b,KA b->b<xz (xj w0)
 kb:∀b,KB b->b<xz (xj w0)
 ly:∀b,OA b->¬OB b
 lz:∀b,OA b->¬KB b
 ca:¬OA c
 ky:¬KA c
 mj:¬KB c
 c0:c<xz (xj w0)
 b0:xz (xj w0)<=xz (xj w)
 tape:w.tape=w0.tape
 os:(w.os,w.output)=(w0.os,w0.output)
 oa:∀b,OA b->OA0 b\/xz (xj w0)<=b
 ob:∀b,OB b->xz (xj w0)<=b
 fr:∀b,b<xz (xj w0)->¬OA0 b->b≠c->w.heap[b]?=w0.heap[b]?
section
variable {P:Z6}{n c:Nat}{KA KB OA0 OA OB:Z4}{w0 w:Z3}{gs:Ze}{t:Trace}{q:Zj}
def EvC.mono{K O a:Z4}{e:Event}(h:EvC K O e)(d:∀b,O b->a b):EvC K a e:=by
 unfold EvC at*;split<;>simp only[*]at h;exact h.imp (d _) id;exact d _ h;exact h;trivial
def Cfg.ub(h:Cfg P n c KA KB OA0 w0 OA OB gs w t q)(b:Nat)(a:KA b):¬OB b:=λd=>by
 have:=h.ka b a;have:=h.ob b d;omega
def Cfg.cb(h:Cfg P n c KA KB OA0 w0 OA OB gs w t q):¬OB c:=λa=>by
 have:=h.ob c a;have:=h.c0;omega
theorem Cfg.at(h:Cfg P n c KA KB OA0 w0 OA OB gs w t q)(d:Nat){a:Ze}{f:Zj}(g:Yz P n a f):Cfg P n c KA KB OA0 w0 OA OB a (w.at d) t f:=
 ⟨h.n0,g,h.ti,h.la,h.lb,h.ka,h.kb,h.ly,h.lz,h.ca,h.ky,h.mj,h.c0,h.b0,h.tape,h.os,h.oa,h.ob,h.fr⟩
theorem Rely.at(K O:Z4)(w:Z3)(d:Nat):Rely K O w<|w.at d:=⟨Zf3 _,rfl,rfl,λ_ _ _=>rfl⟩
def Cfg.ss(h:Cfg P n c KA KB OA0 w0 OA OB gs w t q){w':Z3}{es:Zd}(a:Guar KA OA w w' es):Rely KB OB w w':=
 ⟨a.sz,a.tape,a.os,λb f g=>a.keep b f λd=>g.elim (h.ly b d)<|h.lz b d⟩
def Cfg.sr(h:Cfg P n c KA KB OA0 w0 OA OB gs w t q){w':Z3}{es:Zd}(a:Guar KB OB w w' es):Rely KA OA w w':=
 ⟨a.sz,a.tape,a.os,λb g k=>a.keep b g λd=>k.elim (λf=>h.ly b f d) λj=>h.ub b j d⟩
def Wv(w:Z3)(c:Nat)(o:Obj):World:= {w with heap:=w.heap.setIfInBounds c o}
def JT{K O:Z4}(w:Z3)(c:Nat)(o:Obj)(a:¬O c)(h2:¬K c):Rely K O w<|Wv w c o:=
 ⟨by simp[Wv],rfl,rfl,λb f d=>by
  have:c≠b:=λe=>by subst e;exact d.elim a h2
  simp[Wv,ZgO,this]⟩
def jS{w:Z3}{c:Nat}{o:Obj}(h:c<xz (xj w)):(Wv w c o).heap[c]?=J o:=by simp[Wv,ZgO,h]
def Cfg.chan(h:Cfg P n c KA KB OA0 w0 OA OB gs w t q)(o:Obj){a:Ze}{j:Zj}(l:Yz P n a j)(u:Trace)(p:∀op∈u,op.act.touch?=U/\op.act≠.mark .disable/\op.act≠.mark .enable):
  Cfg P n c KA KB OA0 w0 OA OB a (Wv w c o) (t++u) j:=by
 have f:xz (xj<|Wv w c o)=xz (xj w):=by simp[Wv]
 refine⟨h.n0,l,by rw[f];exact h.ti.comm (Zf3 _) u p,λb d=>by rw[f];exact h.la b d,λb d=>by rw[f];exact h.lb b d,h.ka,h.kb,h.ly,h.lz,h.ca,h.ky,h.mj,h.c0,by rw[f];exact h.b0,h.tape,h.os,h.oa,h.ob,λb d k g=> ?_⟩;rw[<-h.fr b d k g];simp[Wv,ZgO,ZgL g]
def Cfg.same(h:Cfg P n c KA KB OA0 w0 OA OB gs w t q){a:Ze}{d:Zj}(f:Yz P n a d)(u:Trace)(g:∀op∈u,op.act.touch?=U/\op.act≠.mark .disable/\op.act≠.mark .enable):
  Cfg P n c KA KB OA0 w0 OA OB a w (t++u) d:=
 ⟨h.n0,f,h.ti.comm (Zf3 _) u g,h.la,h.lb,h.ka,h.kb,h.ly,h.lz,h.ca,h.ky,h.mj,h.c0,h.b0,h.tape,h.os,h.oa,h.ob,h.fr⟩
def Cfg.ua(h:Cfg P n c KA KB OA0 w0 OA OB gs w t q)(fn:Zm)(pos:String):Cfg P n c KA KB OA0 w0 OA OB gs w (t++MemOp.ofEvents n fn pos #[⟨.obj c,xw,xk⟩]) q:=by
 have g:=h.b0;have j:=h.c0;refine⟨h.n0,h.lv,h.ti.ny (λb a=>a) (λb a=>.inl a) (Zf3 _) (λb a=>by obtain a|a:=a;exact h.lb b a;omega) (λb a=>by have:=h.kb b a;omega) (λb f a=>by obtain a|a:=a;exact h.ly b f a;subst a;exact h.ca f) h.lz (λe d=> ?_),h.la,h.lb,h.ka,h.kb,h.ly,h.lz,h.ca,h.ky,h.mj,h.c0,h.b0,h.tape,h.os,h.oa,h.ob,h.fr⟩;have d:e=⟨.obj c,xw,xk⟩:=Zeg;subst d;exact .inr rfl
def Cfg.ld(h:Cfg P n c KA KB OA0 w0 OA OB gs w t q){w':Z3}{es:Zd}(j:Guar KA OA w w' es){d:Ze}{u:Zj}(A:Yz P n d u)(fn:Zm)(pos:String):
  Cfg P n c KA KB OA0 w0 (V4 OA w w') OB d w' (t++MemOp.ofEvents 0 fn pos es) u:=by
 have y:=h.b0;have o:=j.sz;have f:∀b,V4 OA w w' b->¬OB b:=λb a l=>by
  obtain a|a:=a;exact h.ly b a l;have:=h.lb b l;omega
 have g:∀b,V4 OA w w' b->¬KB b:=λb a l=>by
  obtain a|a:=a;exact h.lz b a l;have:=h.kb b l;omega
 have k:∀b,V4 OA w w' b->b<xz (xj w'):=λb a=>by
  obtain a|a:=a;have:=h.la b a;omega;omega
 refine⟨h.n0,A,h.ti.main (KA:=KA) (by have:=h.n0;omega) (λb a=>.inl a) (λb a=>a.imp id (·.1)) o k (λb a=>by have:=h.ka b a;omega) (λb a p=>p.elim (f b a) λe=>by subst e;obtain a|a:=a;exact h.ca a;have:=h.c0;omega) g (λb a p=>p.elim (h.ub b a) λe=>by subst e;exact h.ky a) j.ml,k,λb a=>by have:=h.lb b a;omega,h.ka,h.kb,f,g,λa=> ?_,h.ky,h.mj,h.c0,Z0,j.tape.trans h.tape,j.os.trans h.os,λb a=> ?_,h.ob,λb a r z=> ?_⟩;obtain a|a:=a;exact h.ca a;have:=h.c0;omega;obtain a|a:=a;exact h.oa b a;omega;rw[j.keep b Z0 λx=>(h.oa b x).elim r Z0];exact h.fr b a r z
def Cfg.od(h:Cfg P n c KA KB OA0 w0 OA OB gs w t q){w':Z3}{es:Zd}(j:Guar KB OB w w' es){d:Ze}{o:Zj}(y:Yz P n d o)(fn:Zm)(pos:String):
  Cfg P n c KA KB OA0 w0 OA (V4 OB w w') d w' (t++MemOp.ofEvents n fn pos es) o:=by
 have r:=h.b0;have l:=j.sz;have g:∀b,OA b->¬V4 OB w w' b:=λb f a=>by
  obtain a|a:=a;exact h.ly b f a;have:=h.la b f;omega
 have k:∀b,V4 OB w w' b->b<xz (xj w'):=λb a=>by
  obtain a|a:=a;have:=h.lb b a;omega;omega
 refine⟨h.n0,y,h.ti.ny (λb a=>a.imp .inl id) (λb a=>by obtain(a|a)|a:=a;exact .inl<|.inl a;exact .inr a.1;omega) l (λb a=>by obtain a|a:=a;exact k b a;subst a;have:=h.c0;omega) (λb a=>by have:=h.kb b a;omega) (λb f a=>by obtain a|a:=a;exact g b f a;subst a;exact h.ca f) h.lz (λe x=>(j.ml e x).mono λb a=>.inl a),λb a=>by have:=h.la b a;omega,k,h.ka,h.kb,g,h.lz,h.ca,h.ky,h.mj,h.c0,Z0,j.tape.trans h.tape,j.os.trans h.os,h.oa,λb a=> ?_,λb a p u=> ?_⟩;obtain a|a:=a;exact h.ob b a;omega;rw[j.keep b Z0 λz=>by have:=h.ob b z;omega];exact h.fr b a p u
end
def Ur(P:Z6)(c:Nat)(O:Z4)(g:Zi)(w:Z3):Prop:=
 g.status=.running/\mayWake P g=xk/\∃a k,(∀s r d,w.heap[c]?=J (.chan 0 #[] xw s r d)->stepG P xw g w=.go a (Wv w c<|.chan 0 #[] xk s r d) #[⟨.obj c,xw,xk⟩,⟨.obj c,xk,xk⟩])/\QuitsIn P k a
inductive BSit (P:Program) (c:Nat) (KB:Nat->Prop):List Value->(Nat->Prop)->Goroutine->World->Prop where
 |run {vs:Zp} {O:Z4} {b:Zi} {w:Z3}:Play P false c KB (Ur P c) (vs.map .send) O b w->BSit P c KB vs O b w
 |tx {v:Zc} {vs:Zp} {O:Z4} {fr:Zg} {cs:Z7} {z:Zc} {w:Z3}:Play P false c KB (Ur P c) (vs.map .send) O (G (Xh (.send v) fr) cs) w->BSit P c KB (v::vs) O (parked (G fr cs) #[scase c v z] .send) w
def BSit.gj{P:Z6}{c:Nat}{KB:Z4}{vs:Zp}{O:Z4}{b:Zi}{w w1:Z3}(h:BSit P c KB vs O b w)(a:Rely KB O w w1):BSit P c KB vs O b w1:=by
 cases h with
 |run h=>exact .run<|h.gj a
 |tx h=>exact .tx<|h.gj a
def Play.running{P:Z6}{main:Bool}{c:Nat}{K:Z4}{a:(Nat->Prop)->Goroutine->World->Prop}(d:∀O g w,a O g w->g.status=.running){es:List Ev}{O:Z4}{g:Zi}{w:Z3}(h:Play P main c K a es O g w):g.status=.running:=by
 cases h with
 |stop h=>exact d _ _ _<|h w<|.refl _ _ _
 |ev=>rfl
 |step=>rfl
end
section
theorem EE{p:Z6}{fr:Zg}{cs:Z7}{s:Sem Next}{w w':Z3}{c:Array CommCase}{b:Bool}{sh:CommShape}(e:s.runT p w #[]=(.ok (.comm c b sh) w', #[])):stepG.apply p xk fr cs U s w=.comm (G fr cs) c b sh w' #[]:=by
 simp_all[stepG.apply,Conc.G,ZfT,GStep.after,seen_none]
theorem Z7L{P:Z6}{t:Zf}{d:TypeDesc}(h:P.underlying t=J d){α:Type}(f:TypeDesc->Sem α)(w:Z3)(es:Zd):(underlying t>>=f).runT P w es=(f d).runT P w es:=by
 simp_all[underlying,runT,pure,stuck,Sem.bind,Zh6]
theorem Z7M{P:Z6}{t:Zf}{i:TypeInfo}{z:Zc}(h:P.info? t=J i)(a:i.zero=J z){α:Type}(f:Value->Sem α)(w:Z3)(es:Zd):(zeroValue t>>=f).runT P w es=(f z).runT P w es:=by
 simp_all[typeInfo,runT,pure,stuck,zeroValue,Sem.bind,Zh6]
section
variable {P:Z6}{main:Bool}{c:Nat}{fr:Zg}{cs:Z7}{v z:Zc}
theorem Nk{ops:Zl}{i:Nat}{rest:Zb}{k:Zn}{o:Oper}{t g:Zf}{a:Operand}{d:ChanDir}{inf:TypeInfo}(q:fr.mode=.run)(u:fr.todo=.inRegion ops (i::rest)::k)(r:ops[i]?=J o)(x:Region.wanted o (yielded ops fr.tmps)=xk)
  (h:o.op=.recv t a xk) (h2:fr.eval a=.chan (J c)) (l:P.underlying t=J (.chan d g)) (n:P.info? g=J inf) (p:inf.zero=J z) (w:Z3):stepG P main (G fr cs) w=.comm (G fr cs) #[rcase c z] xk (.recv xk) w #[]:=by
 rw[CW P main fr cs w q,JX u r x (λ_ c e=>Ze3)];refine EE ?_;obtain⟨f,op,type,pos,after,guard⟩:=o;dsimp only at h;subst h
 have j:execOp fr.eval ⟨f,.recv t a xk,type,pos,after,guard⟩=(do
  let .chan _ elem<-underlying t|stuck "receive: channel type expected"
  pure (.comm #[{chan:=fr.eval a,send:=U,zero:= <-zeroValue elem}] xk (.recv xk)):Sem Next):=rfl
 rw[j,Z7L l];dsimp only;rw[Z7M n p,h2];rfl
theorem Z7e(h:Vs P c (.recv v) fr):∃z,∀w,stepG P main (G fr cs) w=.comm (G fr cs) #[rcase c z] xk (.recv xk) w #[]:=by
 obtain⟨x,i,a,k,o,p,r,q,u,t,y,d,A,inf,z,f,_,g,j,l,n⟩:=h;exact⟨z,λw=>Nk p r q u f g j l n w⟩
theorem Fh(h:Vs P c (.closed z) fr)(w:Z3):stepG P main (G fr cs) w=.comm (G fr cs) #[rcase c z] xk (.recv xk) w #[]:=by
 obtain⟨f,i,a,k,o,u,y,x,A,t,g,d,j,inf,l,_,n,p,q,r⟩:=h;grind [Nk]
theorem CD(h:Vs P c (.send v) fr):∃z,∀w,stepG P main (G fr cs) w=.comm (G fr cs) #[scase c v z] xk .send w #[]:=by
 obtain⟨t,i,d,k,o,n,q,p,r,f,x,a,_,_,j,l⟩:=h;refine⟨.tuple #[],λw=> ?_⟩;rw[CW P main fr cs w n,JX q p r (λ_ c e=>Ze3)];refine EE ?_;obtain⟨g,op,type,pos,after,guard⟩:=o;dsimp only at a;subst a;subst l;show(Result.ok (Next.comm #[{chan:=fr.eval f,send:=J<|fr.eval x,zero:=.tuple #[]}] xk .send) w,(#[]:Array Event))=_;rw[j];rfl
end
theorem N3{P:Z6}{k:Nat}{g:Zi}(h:QuitsIn P k g)(c:Nat)(b:Bool):offersAt g c b=[]:=offersAt_of_not_blocked (by obtain h|h:=h.status<;>rw[h]<;>simp) c b
section
variable {P:Z6}{n c:Nat}{gs:Ze}{q:Zj}{w:Z3}{sl:Option (Nat×Nat)}{s r:Nat}{tm:Bool}{g:Zi}{z v z':Zc}
theorem TV(h:Yz P n gs q)(i:Nat)(k:i=0\/i=n)(x:Zi):Yz P n (gs.setIfInBounds i x) q:=λj y f g d=>by
 have a:i≠j:=Z0;rw[ZfS a]at d;exact h j y f g d
theorem SL(h:Yz P n gs q)(i:Nat)(p:i=0\/i=n)(g g' x:Zi)(w':Z3):Yz P n ((gs.map<|woken P g g' w').setIfInBounds i x) q:=λj y f k d=>by
 have a:i≠j:=Z0;rw[ZfS a,Zfz]at d;obtain⟨o,l,rfl⟩:=ZeY.1 d;have:=h j o f k l;grind [P2]
theorem UR{i:Nat}{x y:Zi}(h:gs[i]?=J y):(gs.setIfInBounds i x)[i]?=J x:=Zhr (Zf2.1 h).1
theorem CF{i j:Nat}{x:Zi}(h:i≠j):(gs.setIfInBounds i x)[j]?=gs[j]? :=ZfS h
theorem Bk(d:Yz P n gs q)(i:Nat)(g:i=0\/i=n)(k:∀j x,(j=0\/j=n)->j≠i->gs[j]?=J x->x.status≠.blocked)(b:Bool):partners (gs.setIfInBounds i ph) c b=[]:=by
 refine partners_nil λj x a=> ?_;obtain⟨_,rfl⟩|⟨f,a⟩:=getElem?_stand gs i j x a;rfl;by_cases h:j=0\/j=n;grind [offersAt_of_not_blocked];exact N3 (d j x Z0 Z0 a) _ _
theorem IE(f:Yz P n gs q)(i j:Nat)(o:i=0\/i=n)(p:j=0\/j=n)(a:j≠i){x:Zi}(hx:gs[j]?=J x)(b:Bool)(h:∀k,(k=0\/k=n)->k=i\/k=j):partners (gs.setIfInBounds i ph) c b=(offersAt x c b).map λk=>(j,k):=by
 refine partners_one (stand_get a hx) λk y r d=> ?_;obtain⟨_,rfl⟩|⟨g,d⟩:=getElem?_stand gs i k y d;rfl;by_cases l:k=0\/k=n;omega;exact N3 (f k y Z0 Z0 d) _ _
variable {fr frb:Zg}{cs csb:Z7}
theorem Z4y(k:Yz P n gs q)(f:gs[0]?=J g)(a:stepG P xk g w=.comm (G fr cs) #[rcase c z] xk (.recv xk) w #[])(hc:w.heap[c]?=J (.chan 0 #[] xw s r tm))(p:∀x,n≠0->gs[n]?=J x->x.status≠.blocked):
  runT P (crowd gs w sl) 0=(.next<|crowd (gs.setIfInBounds 0<|parked (G fr cs) #[rcase c z] (.recv xk)) w sl, #[]):=by
 refine crowd_waits (g:=g) f a λd h=> ?_;obtain rfl:d=rcase c z:=Ze3;exact ways_recv_none hc<|Bk k 0 (.inl rfl) (λj x o l t=>Ze3) xk
theorem HZ(l:n≠0)(k:Yz P n gs q)(f:gs[n]?=J g)(a:stepG P xw g w=.comm (G frb csb) #[scase c v z] xk .send w #[])(hc:w.heap[c]?=J (.chan 0 #[] xw s r tm))(p:∀x,gs[0]?=J x->x.status≠.blocked):
  runT P (crowd gs w sl) n=(.next<|crowd (gs.setIfInBounds n<|parked (G frb csb) #[scase c v z] .send) w sl, #[]):=by
 refine crowd_waits (g:=g) f (by rw[show(n==0)=xw by simp_all];exact a) λd h=> ?_;obtain rfl:d=scase c v z:=Ze3;exact ways_send_none hc Z1<|Bk k n (.inr rfl) (λj x t o u=>Ze3) xw
theorem Z4z(a:n≠0)(p:Yz P n gs q)(o:gs[n]?=J g)(f:stepG P xw g w=.comm (G frb csb) #[scase c v z] xk .send w #[])(hc:w.heap[c]?=J (.chan 0 #[] xw s r tm))
  (h:gs[0]?=J (parked (G fr cs) #[rcase c z'] (.recv xk))):
  ∃u:Array MemOp,(∀op∈u,op.act.touch?=U/\op.act≠.mark .disable/\op.act≠.mark .enable)/\
   runT P (crowd gs w sl) n=(.next<|crowd ((gs.setIfInBounds 0<|G (Xh (.recv v) fr) cs).setIfInBounds n<|G (Xh (.send v) frb) csb) (Wv w c<|.chan 0 #[] xw (s+1) (r+1) tm) sl,u):=by
 have l:=IE (c:=c) p n 0 (.inr rfl) (.inl rfl) (ZgL a) h xw (λk t=>Z0);rw[offersAt_parked_recv,Zfc rfl]at l;have:=crowd_send_meets (sl:=sl) (i:=n) (j:=0) o (by rw[show(n==0)=xw by simp_all];exact f) hc (ZgL a) h l;refine⟨_,?_,this⟩;intro op d;simp[MemOp.ofEvents]at d;obtain rfl|rfl|rfl|rfl:=d<;>simp[MemAct.touch?]
theorem Z4x(a:n≠0)(p:Yz P n gs q)(o:gs[0]?=J g)(f:stepG P xk g w=.comm (G fr cs) #[rcase c z] xk (.recv xk) w #[])(hc:w.heap[c]?=J (.chan 0 #[] xw s r tm))
  (h:gs[n]?=J (parked (G frb csb) #[scase c v z'] .send)):
  ∃u:Array MemOp,(∀op∈u,op.act.touch?=U/\op.act≠.mark .disable/\op.act≠.mark .enable)/\
   runT P (crowd gs w sl) 0=(.next<|crowd ((gs.setIfInBounds n<|G (Xh (.send v) frb) csb).setIfInBounds 0<|G (Xh (.recv v) fr) cs) (Wv w c<|.chan 0 #[] xw (s+1) (r+1) tm) sl,u):=by
 have l:=IE (c:=c) p 0 n (.inl rfl) (.inr rfl) a h xk (λk t=>Z0);rw[offersAt_parked_send,Zfc rfl]at l;have:=crowd_recv_meets (sl:=sl) (i:=0) (j:=n) o f hc a h l;refine⟨_,?_,this⟩;intro op d;simp[MemOp.ofEvents]at d;obtain rfl|rfl|rfl|rfl:=d<;>simp[MemAct.touch?]
theorem Z4w(f:Yz P n gs q)(d:gs[0]?=J g)(a:stepG P xk g w=.comm (G fr cs) #[rcase c z] xk (.recv xk) w #[])(hc:w.heap[c]?=J (.chan 0 #[] xk s r tm))(o:∀x,n≠0->gs[n]?=J x->x.status≠.blocked):
  ∃op:MemOp,op.g=0/\op.act=.recvClosed c/\runT P (crowd gs w sl) 0=(.next<|crowd (gs.setIfInBounds 0<|G (Xh (.closed z) fr) cs) w sl, #[op]):=by
 have k:=Bk (c:=c) f 0 (.inl rfl) (λj x l h p=>Ze3) xk;have:=crowd_recv_closed (sl:=sl) (i:=0) d a hc k;exact⟨_,rfl,rfl,this⟩
end
end
section
def ClosedAt(t:Trace)(n c:Nat):Prop:=∃pc op,t[pc]?=J op/\op.g=n/\op.act=.close c/\t.heard pc/\∀(i:Nat) (a:MemOp),t[i]?=J a->a.g=n->i<=pc
def ClosedAt.app{t:Trace}{n c:Nat}(h:ClosedAt t n c)(u:Trace)(x:∀op∈u,op.g≠n):ClosedAt (t++u) n c:=by
 obtain⟨pc,op,k,o,p,q,r⟩:=h;have a:=lt_size_of_getElem? k;refine⟨pc,op,by rw[getElem?_append_old a];exact k,o,p,(heard_old a).2 q,λi d w l=> ?_⟩;obtain⟨_,f⟩|⟨_,j⟩:=getElem?_append_cases w;exact r i d f l;exact absurd l<|x d j
def Gt{t:Trace}{op:MemOp}(h:Deaf t op.g=0):(t++ #[op]).heard t.size:=⟨op.g,by simp[Trace.g?],by rw[deaf_old<|Zf3 _];exact h⟩
def ClosedAt.new{t:Trace}{n c:Nat}{op:MemOp}(a:op.g=n)(d:op.act=.close c)(f:Deaf t n=0):ClosedAt (t++ #[op]) n c:=by
 refine⟨t.size,op,Z1,a,d,Gt (by rw[a];exact f),λi j h _=> ?_⟩;have:=lt_size_of_getElem? h;simp at this;omega
section
variable {P:Z6}{n c:Nat}{KA KB OA0:Z4}{w0:Z3}{Final:Zo}
def jy(O:Z4)(g:Zi)(w:Z3)(h:Ur P c O g w):g.status=.running:=h.1
def AJ{OA:Z4}{a:Zi}{R:List Value->Prop}{Ra:World->Prop}(a0:∀w w',Rely KA OA w w'->Ra w->Ra w')
  (a5:awake a/\∀(w:Z3) s r p g1 g2,w.heap[c]?=J (.chan 0 #[] xw s r p)->woken P g1 g2 w a=a)
  (H0:a.status=.running->∀vs D b gs w sl t q s r p,Cfg P n c KA KB OA0 w0 OA D gs w t q->gs.size=n+1->gs[0]?=J a->gs[n]?=J b->Ra w->w.heap[c]?=J (.chan 0 #[] xw s r p)->R vs->
   Play P xw c KB (Ur P c) (vs.map .send) D b w->∃H w1 L K,runT P (crowd gs w sl) 0=(.next<|crowd H w1 L,K)/\Win P Final H w1 L (t++K))
  (HC:∀D b b2 gs w sl t q s r p,Cfg P n c KA KB OA0 w0 OA D gs w t q->Yz P gs.size gs q->gs.size=n+1->mayWake P b=xk->b2.status≠.blocked->b2.status≠.waiting->gs[0]?=J (woken P b b2 w a)->Ra w->w.heap[c]?=J (.chan 0 #[] xk s r p)->R []->
   ClosedAt t n c->Win P Final gs w sl t)
  (HV:∀v vs D fr cs gs w sl t q s r p,Cfg P n c KA KB OA0 w0 OA D gs w t q->gs.size=n+1->gs[0]?=J a->gs[n]?=J (G fr cs)->Ra w->w.heap[c]?=J (.chan 0 #[] xw s r p)->R (v::vs)->
   Vs P c (.send v) fr->(∀w1,Rely KB D w w1->Play P xw c KB (Ur P c) (vs.map .send) D (G (Xh (.send v) fr) cs) w1)->∃H w1 L K,runT P (crowd gs w sl) n=(.next<|crowd H w1 L,K)/\Win P Final H w1 L (t++K)):
  ∀vs D b wB,Play P xw c KB (Ur P c) (vs.map .send) D b wB->∀gs w sl t q s r p,Cfg P n c KA KB OA0 w0 OA D gs w t q->gs.size=n+1->gs[0]?=J a->gs[n]?=J b->Ra w->Rely KB D wB w->
   w.heap[c]?=J (.chan 0 #[] xw s r p)->R vs->Win P Final gs w sl t:=by
 intro vs D b wB hB;generalize he:vs.map Ev.send=es at hB
 have pick:∀ {vs D b gs w sl t q s r p},Cfg P n c KA KB OA0 w0 OA D gs w t q->gs.size=n+1->gs[0]?=J a->gs[n]?=J b->Ra w->w.heap[c]?=J (.chan 0 #[] xw s r p)->R vs->Play P xw c KB (Ur P c) (vs.map .send) D b w->
   (∀f d C W,Cfg P n c KA KB OA0 w0 OA D f (w.at d) t W->f.size=n+1->f[0]?=J a->f[n]?=J b->∃H w1 L K,runT P (crowd f (w.at d) C) n=(.next<|crowd H w1 L,K)/\Win P Final H w1 L (t++K))->Win P Final gs w sl t:=by
  intro vs D b gs w sl t q s r p Q N h0 hn A o Z b4 a7;have a6:b.status=.running:=b4.running jy;refine skip Q.lv (λi g hi hg=> ?_) ⟨n,b,.inr rfl,hn,a6⟩ λf d C W i g u Y b9 hi b0 a2=> ?_;by_cases h:i=0;subst h;rw[h0]at hg;cases hg;exact⟨a5.1,λg1 g2 d=>a5.2 (w.at d) s r p g1 g2 o⟩;have hi:i=n:=hi.resolve_left h;subst hi;rw[hn]at hg;cases hg;exact⟨awake_of<|.inl a6,λg1 g2 d=>woken_run a6⟩;have l:=Q.at d b9;have F:f[0]?=J a:=by rw[Y 0<|.inl rfl];exact h0
  have z:f[n]?=J b:=by rw[Y n<|.inr rfl];exact hn
  have a3:f.size=n+1:=by rw[u,N]
  by_cases h:i=0;subst h;rw[F]at b0;cases b0;exact H0 a2 vs D b f (w.at d) C t W s r p l a3 F z (a0 _ _ (Rely.at _ _ _ d) A) o Z<|b4.gj<|Rely.at _ _ _ d;have hi:i=n:=hi.resolve_left h;subst hi;exact a7 f d C W l a3 F z
 induction hB generalizing vs with
 | @stop O g wB h=>
   intro gs w sl t q s r p Q N h0 hn A B o Z;have c0:vs=[]:=by cases vs with
    |nil=>rfl
    |cons=>cases he
   subst c0;refine pick Q N h0 hn A o Z (.stop λw1 T=>h w1<|B.trans T) λf d C W l u F z=> ?_;obtain⟨a2,c1,g₂,k,S,hq⟩:=h (w.at d)<|B.trans<|Rely.at _ _ _ d;have X:n≠0:=by have:=Q.n0;omega
   have S:=S s r p o;have a9:c<xz (xj w):=(Zf2.1 o).1;have M:=runT_crowd_go (P:=P) (sl:=C) (i:=n) z (by rw[show(n==0)=xw by simpa using X];exact S);refine⟨_,_,_,_,M,?_⟩;have b3:MemOp.ofEvents n g.frame.fn g.frame.place #[⟨.obj c,xw,xk⟩,⟨.obj c,xk,xk⟩]=MemOp.ofEvents n g.frame.fn g.frame.place #[⟨.obj c,xw,xk⟩]++ #[{g:=n,fn:=g.frame.fn,pos:=g.frame.place,act:=.close c}]:=by
    rw[ofEvents_eq,ofEvents_eq];simp[MemAct.ofEvent]
   rw[b3,<-Array.append_assoc];replace l:=l.ua g.frame.fn g.frame.place;have b1:Yz P n ((f.map<|woken P g g₂<|Wv (w.at d) c<|.chan 0 #[] xk s r p).setIfInBounds n g₂)<|upd W n k:=λj x T h2 h3=>by
    have:=SL l.lv n (.inr rfl) g g₂ g₂ (Wv (w.at d) c<|.chan 0 #[] xk s r p) j x T h2 h3;rw[upd_ne W k h2];exact this
   refine HC O g g₂ _ (Wv (w.at d) c<|.chan 0 #[] xk s r p) _ _ (upd W n k) s r p (l.chan _ b1 _<|by simp[MemAct.touch?]) (λj x T h2 h3=> ?_) (by simpa using u) c1 ?_ ?_ ?_ (a0 _ _ ((Rely.at _ _ _ d).trans<|JT (w.at d) c _ Q.ca Q.ky) A) (jS a9) Z<|ClosedAt.new rfl rfl<|l.ti.dk n;by_cases hj:j=n;subst hj;rw[UR (y:=woken P g g₂ (Wv (w.at d) c<|.chan 0 #[] xk s r p) g) (by rw[Zfz,z];rfl)]at h3;cases h3;rw[upd_same];exact hq;exact b1 j x T hj h3;obtain h|h:=hq.status<;>rw[h]<;>simp;obtain h|h:=hq.status<;>rw[h]<;>simp;rw[CF X,Zfz,F];rfl
 | @ev e es O fr cs wB a8 hk ih=>
   intro gs w sl t q s r p Q N h0 hn A B o Z;obtain _|⟨v,vs⟩:=vs;cases he;injection he with b7 b8;subst b7;subst b8;exact pick Q N h0 hn A o Z (.ev a8 λw1 T=>hk w1<|B.trans T) λf d C W l u F z=>
    HV v vs O fr cs f (w.at d) C t W s r p l u F z (a0 _ _ (Rely.at _ _ _ d) A) o Z a8 λw1 T=>hk w1<|B.trans<|(Rely.at _ _ _ d).trans T
 | @step es O fr cs wB T h2 ih=>
   intro gs w sl t q s r p Q N h0 hn A B o Z;subst he;refine pick Q N h0 hn A o Z (.step (λw1 h=>T w1<|B.trans h) λw1 g' w' a4 h k=>h2 w1 g' w' a4 (B.trans h) k) λf d C W l u F z=> ?_;obtain⟨b6,b5,w',a4,S,hg⟩:=T (w.at d)<|B.trans<|Rely.at _ _ _ d;have X:n≠0:=by have:=Q.n0;omega
   have M:=runT_crowd_go (P:=P) (sl:=C) (i:=n) z (by rw[show(n==0)=xw by simpa using X];exact S);have a1:w'.heap[c]?=J (.chan 0 #[] xw s r p):=by
    rw[hg.keep c (Zf2.1 o).1 Q.cb];exact o
   refine⟨_,_,_,_,M,?_⟩;refine ih (w.at d) (G b6 b5) w' a4 (B.trans<|Rely.at _ _ _ d) S vs rfl _ w' _ _ W s r p (l.od hg (SL l.lv n (.inr rfl) _ _ _ _) _ _) (by simpa using u) ?_ (UR (by rw[Zfz,z];rfl)) (a0 _ _ ((Rely.at _ _ _ d).trans<|l.sr hg) A) (.refl _ _ _) a1 Z;rw[CF X,Zfz,F];simp only[Zfm];rw[a5.2 w' s r p _ _ a1]
end
end
section
def KnownAll(t:Trace):Prop:=∀(i:Nat) (op:MemOp) (x:Touch),t[i]?=J op->op.act.touch?=J x->x.loc.isMemory=xk->Knows t 0 i
theorem KnownAll.rp{t u}(h:KnownAll t)(l:∀op∈u,op.g=0):KnownAll<|t++u:=λi op x d k j=>by
 obtain⟨_,a⟩|⟨_,f⟩:=getElem?_append_cases d;exact(h i op x a k j).app u;grind [knows_own]
theorem Z4b{n c OA u KB sz t}(h:TI n OA u KB sz t)(hc:ClosedAt t n c){y:MemOp}(p:y.g=0)(B:y.act=.recvClosed c):KnownAll<|t++ #[y]:=by
 intro i op x q L K;obtain⟨H,d⟩|⟨_,F⟩:=getElem?_append_cases q;obtain k|⟨k,_⟩:=h.j1 i op x d L K;exact k.app _;let⟨pc,l,o,M,w,z,A⟩:=hc;have j:=lt_size_of_getElem? o;have G:=A i op d k;have r:(t++ #[y])[t.size]?=J y:=Z1;have f:(t++ #[y])[pc]?=J l:=by rw[getElem?_append_old j];exact o
 have a:HappensBefore _ pc t.size:=.single<|.inr ⟨.closed (c:=c) (by rw[act?_of f,w]) (by rw[act?_of r,B]),(heard_old j).2 z,Gt (by rw[p];exact h.dk 0)⟩;have C:Before (t++ #[y]) i pc:=by
  by_cases D:i=pc;exact .inl D;exact .inr<|hb_po Z0 q f Z0
 exact⟨t.size,y,r,p,.inr<|C.hb a⟩;grind [knows_own]
theorem By{g fn pos es}:∀op∈MemOp.ofEvents g fn pos es,op.g=g:=λop a=>by
 rw[ofEvents_eq]at a;grind
section
variable {P:Z6}{n c:Nat}{KA KB OA0:Z4}{w0:Z3}{StopA:(Nat->Prop)->Goroutine->World->Prop}
def Us(P:Z6)(n c:Nat)(KA KB OA0:Z4)(w0:Z3)(StopA:(Nat->Prop)->Goroutine->World->Prop)(gs:Ze)(w:Z3)(t:Trace):Prop:=
 ∃a d f q,gs[0]?=J a/\gs.size=n+1/\StopA d a w/\Cfg P n c KA KB OA0 w0 d f gs w t q/\Yz P gs.size gs q/\KnownAll t
structure Ph (P:Program) (n c:Nat) (KA KB OA0:Nat->Prop) (w0:World) (StopA:(Nat->Prop)->Goroutine->World->Prop) (es:List Ev) (OA:Nat->Prop) (a:Goroutine) (wA:World):Prop where
 so:∀vs z OB b gs w sl t q s r tm,es=vs.map .recv++[.closed z]->Cfg P n c KA KB OA0 w0 OA OB gs w t q->gs.size=n+1->gs[0]?=J a->gs[n]?=J b->Rely KA OA wA w->BSit P c KB vs OB b w->
  w.heap[c]?=J (.chan 0 #[] xw s r tm)->Win P (Us P n c KA KB OA0 w0 StopA) gs w sl t
 ut:∀z OB gs w sl t q s r tm,es=[.closed z]->Cfg P n c KA KB OA0 w0 OA OB gs w t q->Yz P gs.size gs q->gs.size=n+1->gs[0]?=J a->Rely KA OA wA w->
  w.heap[c]?=J (.chan 0 #[] xk s r tm)->ClosedAt t n c->Win P (Us P n c KA KB OA0 w0 StopA) gs w sl t
 ug:∀OB gs w sl t q,es=[]->Cfg P n c KA KB OA0 w0 OA OB gs w t q->Yz P gs.size gs q->gs.size=n+1->gs[0]?=J a->Rely KA OA wA w->KnownAll t->Win P (Us P n c KA KB OA0 w0 StopA) gs w sl t
theorem CN{Final OA C gs a w sl t q}(L:Cfg P n c KA KB OA0 w0 OA C gs w t q)(O:Yz P gs.size gs q)(Q:gs.size=n+1)(F:gs[0]?=J a)(M:a.status=.running)
  (H:∀f d h r,Cfg P n c KA KB OA0 w0 OA C f (w.at d) t r->Yz P f.size f r->f.size=n+1->f[0]?=J a->∃k w1 u p,runT P (crowd f (w.at d) h) 0=(.next<|crowd k w1 u,p)/\Win P Final k w1 u (t++p)):Win P Final gs w sl t:=by
 have A:∀(f:Ze) g,f[f.size]? ≠J g:=Z1;refine skip O (λi g y S=> ?_) ⟨0,a,.inl rfl,F,M⟩ λf d h r i g o B z y N D=> ?_;obtain rfl|rfl:=y;simp_all[awake_of,woken_run];simp_all;obtain rfl|rfl:=y;have l:Yz P f.size f r:=by rw[o];exact z
 exact H f d h r (L.at d<|λj x G R K=>l j x G Ze2 K) l Z0 Ze3;simp_all
theorem Z6b{es OA a wA}(h:Play P xk c KA StopA es OA a wA):Ph P n c KA KB OA0 w0 StopA es OA a wA:=by
 induction h with
 | @stop OA g wA h=>
   refine⟨λvs z _ _ _ _ _ _ _ _ _ _ W=> ?_,λz _ _ _ _ _ _ _ _ _ W=> ?_,λp gs w sl t q _ l hl o H K hk=> ?_⟩;simp_all;cases W;exact Win.df ⟨g,OA,p,q,H,o,h w K,l,hl,hk⟩
 | @ev e es OA L cs wA b4 hk ih=>
   have SH:∀a2:Zi,a2.frame=L->a2.callers=cs->a2.dying=U->a2.status=.running->∀z,e=.closed z->es=[]->∀p gs w sl t q s r C,Cfg P n c KA KB OA0 w0 OA p gs w t q->Yz P gs.size gs q->gs.size=n+1->gs[0]?=J a2->Rely KA OA wA w->
     w.heap[c]?=J (.chan 0 #[] xk s r C)->ClosedAt t n c->Win P (Us P n c KA KB OA0 w0 StopA) gs w sl t:=by
    intro a2 e1 e2 e3 e4 z W d7 p gs w sl t q s r C l hl o H K f Y;subst W;refine CN l hl o H e4 λM d a0 q' S N a5 Q=> ?_;have e0:stepG P xk a2 (w.at d)=.comm (G L cs) #[rcase c z] xk (.recv xk) (w.at d) #[]:=by
     rw[stepG_same (h:=G L cs) e1 e2 e3];exact Fh b4 _
    obtain⟨op,hg,ha,a3⟩:=Z4w (sl:=a0) N Q e0 f Z1;refine⟨_,_,_,_,a3,?_⟩;have d8:Yz P (M.setIfInBounds 0<|G (Xh (.closed z) L) cs).size (M.setIfInBounds 0<|G (Xh (.closed z) L) cs) q':=by
     rw[Zhb];exact TV N 0 Z0 _
    exact(ih (w.at d)<|K.trans<|Rely.at _ _ _ d).ug p _ _ _ _ q' d7 (S.same (TV S.lv 0 Z0 _) _<|λx hx=>by simp_all[MemAct.touch?]) d8 Ze3 Ze3 (.refl _ _ _)
     (Z4b S.ti Y hg ha)
   refine⟨?_,λz p gs w sl t q s r C W l hl o H K f Y=> ?_,Z1⟩
   .intro vs z p b gs w sl t q s r C W l o H X K hB f;have a6:n≠0:=by have:=l.n0;omega
    obtain⟨zz,c1⟩:∃zz,∀w,stepG P xk (G L cs) w=.comm (G L cs) #[rcase c zz] xk (.recv xk) w #[]:=by
     obtain _|⟨v,vs⟩:=vs;injection W with h1 h2;subst h1;exact⟨z,Fh b4⟩;injection W with h1 h2;subst h1;exact Z7e b4
    have b3:∀v A z,e::es=(v::A).map .recv++[.closed z]->e=.recv v/\es=A.map .recv++[.closed z]:=Z1
    have MB:∀v A p F B zb gs w sl t q s r C,e::es=(v::A).map .recv++[.closed z]->Cfg P n c KA KB OA0 w0 OA p gs w t q->gs.size=n+1->gs[0]?=J (G L cs)->gs[n]?=J (parked (G F B) #[scase c v zb] .send)->Rely KA OA wA w->
      Play P xw c KB (Ur P c) (A.map .send) p (G (Xh (.send v) F) B) w->w.heap[c]?=J (.chan 0 #[] xw s r C)->Win P (Us P n c KA KB OA0 w0 StopA) gs w sl t:=by
     intro v A p F B zb gs w sl t q s r C W l o H X K D f;refine skip l.lv (λi g hi hg=> ?_) ⟨0,_,.inl rfl,H,rfl⟩ λM d a0 q' i g a5 a4 N hi a8 a3=> ?_;by_cases h:i=0;subst h;rw[H]at hg;cases hg;exact⟨awake_of<|.inl rfl,λg1 g2 d=>woken_run rfl⟩;obtain rfl:=hi.resolve_left h;rw[X]at hg;cases hg;exact⟨awake_of<|.inr<|.inl rfl,λg1 g2 d=>woken_send_open g1 g2 (w:=w.at d) f⟩;have Q:M[0]?=J (G L cs):=Ze3;have a9:M[n]?=J (parked (G F B) #[scase c v zb] .send):=by rw[a4 n Z0];exact X
     by_cases h:i=0;subst h;obtain⟨u,hu,j⟩:=Z4x (sl:=a0) a6 N Q (c1<|w.at d) f a9;refine⟨_,_,_,_,j,?_⟩;obtain⟨b5,b6⟩:=b3 v A z W;subst b5
     refine(ih (w.at d)<|K.trans<|Rely.at _ _ _ d).so A z p _ _ _ _ _ q' (s+1) (r+1) C b6 ((l.at d N).chan _ (TV (TV N n Z0 _) 0 Z0 _) u hu) Ze2 (UR (y:=G L cs) Ze2) Ze2
      (JT _ _ _ l.ca l.ky) (.run<|D.gj<|(Rely.at _ _ _ d).trans<|JT _ _ _ l.cb l.mj) (jS (Zf2.1 f).1)
     obtain rfl:=hi.resolve_left h;rw[a9]at a8;cases a8;cases a3
    have PK:=AJ (P:=P) (n:=n) (c:=c) (KA:=KA) (KB:=KB) (OA0:=OA0) (w0:=w0) (Final:=Us P n c KA KB OA0 w0 StopA) (OA:=OA) (a:=parked (G L cs) #[rcase c zz] (.recv xk)) (R:=λvs=>e::es=vs.map .recv++[.closed z]) (Ra:=λw=>Rely KA OA wA w)
     (λw Z h k=>k.trans h) ⟨awake_of<|.inr<|.inl rfl,λw s r C g1 g2 hc=>woken_recv_open g1 g2 hc⟩ (λh=>Zei)
     (λp b b2 gs w sl t q s r C l hl o b9 b7 b8 H K f hR Y=>by
      injection hR with h1 h2;refine SH _ ?_ ?_ ?_ ?_ z h1 h2 p gs w sl t q s r C l hl o H K f Y;all_goals
       have hw:woken P b b2 w (parked (G L cs) #[rcase c zz] (.recv xk))= {parked (G L cs) #[rcase c zz] (.recv xk)with status:=.running}:=by
        unfold woken;rw[Zfc (by simp[b9,b7,b8])];exact again_recv_closed f
       first|(rw[hw];done)|(rw[hw];rfl))
     (λv A p F B gs w sl t q s r C l o H X K f hR a1 D=>by
      obtain⟨zb,T⟩:=CD (main:=xw) (cs:=B) a1;obtain⟨u,hu,j⟩:=Z4z (sl:=sl) a6 l.lv X (T w) f H;refine⟨_,_,_,_,j,?_⟩;obtain⟨b5,b6⟩:=b3 v A z hR;subst b5
      exact(ih w K).so A z p _ _ _ _ _ q (s+1) (r+1) C b6 (l.chan _ (TV (TV l.lv 0 Z0 _) n Z0 _) u hu) (by simp[o]) Ze2 (UR (y:=G F B) Ze2)
       (JT _ _ _ l.ca l.ky) (.run<|D _<|JT _ _ _ l.cb l.mj) (jS (Zf2.1 f).1))
    have RN:=AJ (P:=P) (n:=n) (c:=c) (KA:=KA) (KB:=KB) (OA0:=OA0) (w0:=w0) (Final:=Us P n c KA KB OA0 w0 StopA) (OA:=OA) (a:=G L cs) (R:=λvs=>e::es=vs.map .recv++[.closed z]) (Ra:=λw=>Rely KA OA wA w)
     (λw Z h k=>k.trans h) ⟨awake_of<|.inl rfl,λw s r C g1 g2 hc=>woken_run rfl⟩
     (λ_ A p b gs w sl t q s r C l o H X K f hR D=>by
      have e5:=D.running jy;have j:=Z4y (sl:=sl) l.lv H (c1 w) f (λx _ hx=>Ze2);refine⟨_,_,_,_,j,?_⟩;rw[ZfQ];have:=l.same (TV l.lv 0 Z0<|parked (G L cs) #[rcase c zz] (.recv xk)) #[] Z1;rw[ZfQ]at this;exact PK A p b w D _ _ _ _ q s r C this Ze2 (UR H) Ze2 K (.refl _ _ _) f hR)
     (λp b b2 gs w sl t q s r C l hl o b9 b7 b8 H K f hR Y=>by
      injection hR with h1 h2;rw[woken_run (b:=G L cs) rfl]at H;exact SH _ rfl rfl rfl rfl z h1 h2 p gs w sl t q s r C l hl o H K f Y)
     (λv A p F B gs w sl t q s r C l o H X K f hR a1 D=>by
      obtain⟨zb,T⟩:=CD (main:=xw) (cs:=B) a1;have j:=HZ (sl:=sl) a6 l.lv X (T w) f (λx hx=>by grind [G]);refine⟨_,_,_,_,j,?_⟩;rw[ZfQ];have:=l.same (TV l.lv n Z0<|parked (G F B) #[scase c v zb] .send) #[] Z1;rw[ZfQ]at this;exact MB v A p F B zb _ w sl t q s r C hR this Ze2 Ze2 (UR X) K (D w<|.refl _ _ _) f)
    cases hB with
    |run D=>exact RN vs p b w D gs w sl t q s r C l o H X K (.refl _ _ _) f W
    | @tx v A O F B zb w D=>grind
   injection W with h1 h2;exact SH _ rfl rfl rfl rfl z h1 h2 p gs w sl t q s r C l hl o H K f Y
 | @step es OA L cs wA h1 h2 ih=>
   have own:∀p gs w sl t q,Cfg P n c KA KB OA0 w0 OA p gs w t q->gs[0]?=J (G L cs)->Rely KA OA wA w->∃g' Z a7,Guar KA OA w Z a7/\Ph P n c KA KB OA0 w0 StopA es (V4 OA w Z) g' Z/\
     runT P (crowd gs w sl) 0=(.next<|crowd ((gs.map<|woken P (G L cs) g' Z).setIfInBounds 0 g') Z sl,MemOp.ofEvents 0 (G L cs).frame.fn (G L cs).frame.place a7):=λp gs w sl t q l H K=>by
    grind [runT_crowd_go]
   have SH:∀z p gs w sl t q s r C,es=[.closed z]->Cfg P n c KA KB OA0 w0 OA p gs w t q->Yz P gs.size gs q->gs.size=n+1->gs[0]?=J (G L cs)->Rely KA OA wA w->w.heap[c]?=J (.chan 0 #[] xk s r C)->ClosedAt t n c->Win P (Us P n c KA KB OA0 w0 StopA) gs w sl t:=by
    intro z p gs w sl t q s r C W l hl o H K f Y;refine CN l hl o H rfl λM d a0 q' S N a5 Q=> ?_;obtain⟨g',Z,a7,hg,b0,j⟩:=own p M (w.at d) a0 t q' S Q<|K.trans<|Rely.at _ _ _ d;refine⟨_,_,_,_,j,?_⟩;have a6:n≠0:=by have:=l.n0;omega
    refine b0.ut z p _ Z _ _ q' s r C W (S.ld hg (SL S.lv 0 Z0 _ _ _ _) _ _) ?_ Ze3 (UR (by rw[Zfz,Q];rfl)) (.refl _ _ _) ?_ (Y.app _ λop d9=>by rw[By op d9];omega);rw[Zhb,Zir];exact SL N 0 Z0 _ _ _ _;rw[hg.keep c (Zf2.1 f).1 l.ca];exact f
   refine⟨?_,SH,λp gs w sl t q W l hl o H K hk=> ?_⟩;intro vs z p b gs w sl t q s r C W l o H X K hB f;have a6:n≠0:=by have:=l.n0;omega
   have move:∀vs p b gs w sl t q s r C,es=vs.map .recv++[.closed z]->Cfg P n c KA KB OA0 w0 OA p gs w t q->gs.size=n+1->gs[0]?=J (G L cs)->gs[n]?=J b->(∀g1 g2 Z,Z.heap[c]?=J (.chan 0 #[] xw s r C)->woken P g1 g2 Z b=b)->Rely KA OA wA w->BSit P c KB vs p b w->
     w.heap[c]?=J (.chan 0 #[] xw s r C)->∃c0 w1 d0 c8,runT P (crowd gs w sl) 0=(.next<|crowd c0 w1 d0,c8)/\Win P (Us P n c KA KB OA0 w0 StopA) c0 w1 d0 (t++c8):=by
    intro vs p b gs w sl t q s r C W l o H X d5 K hB f;obtain⟨g',Z,a7,hg,b0,j⟩:=own p gs w sl t q l H K;refine⟨_,_,_,_,j,?_⟩;have b1:Z.heap[c]?=J (.chan 0 #[] xw s r C):=by
     rw[hg.keep c (Zf2.1 f).1 l.ca];exact f
    refine b0.so vs z p b _ Z _ _ q s r C W (l.ld hg (SL l.lv 0 Z0 _ _ _ _) _ _) Ze2 (UR (by rw[Zfz,H];rfl)) ?_ (.refl _ _ _) (hB.gj<|l.ss hg) b1;rw[CF Z0,Zfz,X];simp only[Zfm];rw[d5 _ _ Z b1]
   have MB:∀v A p F B zb gs w sl t q s r C,es=(v::A).map .recv++[.closed z]->Cfg P n c KA KB OA0 w0 OA p gs w t q->gs.size=n+1->gs[0]?=J (G L cs)->gs[n]?=J (parked (G F B) #[scase c v zb] .send)->Rely KA OA wA w->
     Play P xw c KB (Ur P c) (A.map .send) p (G (Xh (.send v) F) B) w->w.heap[c]?=J (.chan 0 #[] xw s r C)->Win P (Us P n c KA KB OA0 w0 StopA) gs w sl t:=by
    intro v A p F B zb gs w sl t q s r C W l o H X K D f;refine skip l.lv (λi g hi hg=> ?_) ⟨0,_,.inl rfl,H,rfl⟩ λM d a0 q' i g a5 a4 N hi a8 a3=> ?_;by_cases h:i=0;subst h;rw[H]at hg;cases hg;exact⟨awake_of<|.inl rfl,λg1 g2 d=>woken_run rfl⟩;obtain rfl:=hi.resolve_left h;rw[X]at hg;cases hg;exact⟨awake_of<|.inr<|.inl rfl,λg1 g2 d=>woken_send_open g1 g2 (w:=w.at d) f⟩;have Q:M[0]?=J (G L cs):=Ze3;have a9:M[n]?=J (parked (G F B) #[scase c v zb] .send):=by rw[a4 n Z0];exact X
    by_cases h:i=0;subst h;exact move (v::A) p _ M (w.at d) a0 t q' s r C W (l.at d N) Z0 Q a9 (λg1 g2 Z d6=>woken_send_open g1 g2 d6) (K.trans<|Rely.at _ _ _ d) (.tx<|D.gj<|Rely.at _ _ _ d) f;obtain rfl:=hi.resolve_left h;rw[a9]at a8;cases a8;cases a3
   have RN:=AJ (P:=P) (n:=n) (c:=c) (KA:=KA) (KB:=KB) (OA0:=OA0) (w0:=w0) (Final:=Us P n c KA KB OA0 w0 StopA) (OA:=OA) (a:=G L cs) (R:=λvs=>es=vs.map .recv++[.closed z]) (Ra:=λw=>Rely KA OA wA w)
    (λw Z h k=>k.trans h) ⟨awake_of<|.inl rfl,λw s r C g1 g2 hc=>woken_run rfl⟩
    (λ_ A p b gs w sl t q s r C l o H X K f hR D=>move A p b gs w sl t q s r C hR l o H X (λg1 g2 Z _=>woken_run<|D.running jy) K (.run D) f)
    (λp b b2 gs w sl t q s r C l hl o b9 b7 b8 H K f hR Y=>by
     rw[woken_run (b:=G L cs) rfl]at H;grind)
    (λv A p F B gs w sl t q s r C l o H X K f hR a1 D=>by
     obtain⟨zb,T⟩:=CD (main:=xw) (cs:=B) a1;have j:=HZ (sl:=sl) a6 l.lv X (T w) f (λx hx=>by grind [G]);refine⟨_,_,_,_,j,?_⟩;rw[ZfQ];have:=l.same (TV l.lv n Z0<|parked (G F B) #[scase c v zb] .send) #[] Z1;rw[ZfQ]at this;exact MB v A p F B zb _ w sl t q s r C hR this Ze2 Ze2 (UR X) K (D w<|.refl _ _ _) f)
   cases hB with
   |run D=>exact RN vs p b w D gs w sl t q s r C l o H X K (.refl _ _ _) f W
   | @tx v A O F B zb w D=>grind
   refine CN l hl o H rfl λM d a0 q' S N a5 Q=> ?_;obtain⟨g',Z,a7,hg,b0,j⟩:=own p M (w.at d) a0 t q' S Q<|K.trans<|Rely.at _ _ _ d;refine⟨_,_,_,_,j,?_⟩;refine b0.ug p _ Z _ _ q' W (S.ld hg (SL S.lv 0 Z0 _ _ _ _) _ _) ?_ Ze3 (UR (by rw[Zfz,Q];rfl)) (.refl _ _ _)<|hk.rp By;rw[Zhb,Zir];exact SL N 0 Z0 _ _ _ _
end
end
end Vm
end
section
namespace Vm
open Go Go.Conc
class inductive Calm {α:Type}:Sem α->Prop where
 |pure (a:α):Calm<|.pure a
 |halt (h:Halt):Calm<|.halt h
 |load {m:Mode} {a:Addr} {k:Value->Sem α}:(∀v,Calm<|k v)->Calm (.load m a k)
 |store {m:Mode} {a:Addr} {v:Zc} {k:Sem α}:Calm k->Calm (.store m a v k)
 |new {o:Obj} {k:Nat->Sem α}:(∀r,Calm<|k r)->Calm (.new o k)
 |shape {r:Nat} {k:Option (TypeId×Nat)->Sem α}:(∀x,Calm<|k x)->Calm (.shape r k)
 |freeze {a:Addr} {n:Nat} {k:Sem α}:Calm k->Calm (.freeze a n k)
 |frozen {a:Addr} {k:Bool->Sem α}:(∀x,Calm<|k x)->Calm (.frozen a k)
 |getObj {r:Nat} {k:Obj->Sem α}:(∀o,Calm<|k o)->Calm (.getObj r k)
 |setObj {r:Nat} {o:Obj} {k:Sem α}:Calm k->Calm (.setObj r o k)
 |choose {q:Question} {k:Nat->Sem α}:(∀n,Calm<|k n)->Calm (.choose q k)
 |sys {c:Sys} {k:SysRet->Sem α}:(∀r,Calm<|k r)->Calm (.sys c k)
 |prog {k:Program->Sem α}:(∀p,Calm<|k p)->Calm (.program k)
 |room {k:Sem α}:Calm k->Calm (.mark .noRoom k)
theorem Calm.bind{α β:Type}{s:Sem α}{f:α->Sem β}(h:Calm s)(g:∀a,Calm<|f a):Calm<|s>>=f:=by
 show Calm<|s.bind f;induction h with
 |pure a=>exact g a
 |halt h=>exact .halt h
 |load _ d=>exact .load d
 |store _ d=>exact .store d
 |new _ d=>exact .new d
 |shape _ d=>exact .shape d
 |freeze _ d=>exact .freeze d
 |frozen _ d=>exact .frozen d
 |getObj _ d=>exact .getObj d
 |setObj _ d=>exact .setObj d
 |choose _ d=>exact .choose d
 |sys _ d=>exact .sys d
 |prog _ d=>exact .prog d
 |room _ d=>exact .room d
theorem Calm.map{α β:Type}{s:Sem α}{f:α->β}(h:Calm s):Calm<|f<$>s:=by
 rw[map_eq_pure_bind];exact h.bind λa=>.pure _
theorem F7{α β:Type}{f:α->Sem β}(d:∀a,Calm<|f a):∀l:List α,Calm (l.mapM f)
 | []=>by simp only[Zja];exact .pure _
 |a::l=>by
  simp only[Zi1];exact(d a).bind λb=>(F7 d l).bind λg=>.pure _
theorem jG{α β:Type}{f:α->β->Sem (ForInStep β)}(d:∀a b,Calm<|f a b):∀(l:List α) (b:β),Calm (forIn l b f)
 | [],b=>by simp only[List.forIn_nil];exact .pure _
 |a::l,b=>by
  rw[List.forIn_cons];refine(d a b).bind λx=> ?_;cases x with
  |done b=>exact .pure _
  |yield b=>exact jG d l b
theorem Z1o{α β:Type}{f:α->β->Sem (ForInStep β)}(d:∀a b,Calm<|f a b)(l:Array α)(b:β):Calm<|forIn l b f:=by
 rw[<-Array.forIn_toList];exact jG d _ _
theorem Z1p{β:Type}{f:Nat->β->Sem (ForInStep β)}(d:∀a b,Calm<|f a b)(r:Std.Legacy.Range)(b:β):Calm<|forIn r b f:=by
 rw[Std.Legacy.Range.forIn_eq_forIn_range'];exact jG d _ _
theorem F6{α β:Type}{f:α->Sem β}(d:∀a,Calm<|f a)(l:Array α):Calm<|l.mapM f:=by
 rw[Zgw];exact(F7 d _).map
theorem jF{α β:Type}{f:β->α->Sem β}(d:∀b a,Calm<|f b a):∀(l:List α) (b:β),Calm (l.foldlM f b)
 | [],b=>.pure _
 |a::l,b=>by
  rw[List.foldlM_cons];exact(d b a).bind λb=>jF d l b
theorem Z1q{α:Type}{c:Prop} [Decidable c]{a b:Sem α}(h:Calm a)(k:Calm b):Calm (if c then a else b):=by
 split;exact h;exact k
theorem ZH{α:Type}{s:Sem α}(h:Calm s:=by repeat' first|infer_instance|(with_reducible refine .bind ?_ λ_=> ?_)|(intro _)|(with_reducible refine F6 (λ_=> ?_) _)|(with_reducible refine Z1o (λ_ _=> ?_) _ _)|(with_reducible refine Z1p (λ_ _=> ?_) _ _)|(with_reducible refine Calm.map ?_)|(with_reducible refine Z1q ?_ ?_)|split|dsimp only):Calm s:=h
instance calm_pure {α:Type} (a:α):Calm (pure a:Sem α):=.pure a
instance calm_load (a:Addr) (m:Mode):Calm<|load a m:=.load λv=>.pure v
instance calm_store (a:Addr) (v:Zc) (m:Mode):Calm<|store a v m:=.store<|.pure ()
instance calm_new (o:Obj):Calm<|newObj o:=.new λr=>.pure r
instance calm_shape (r:Nat):Calm<|shape r:=.shape λr=>.pure r
instance calm_freeze (a:Addr) (n:Nat):Calm<|freeze a n:=.freeze<|.pure ()
instance calm_frozen (a:Addr):Calm<|frozen a:=.frozen λr=>.pure r
instance calm_get (r:Nat):Calm<|getObj r:=.getObj λo=>.pure o
instance calm_set (r:Nat) (o:Obj):Calm<|setObj r o:=.setObj<|.pure ()
instance calm_choose (q:Question):Calm<|choose q:=.choose λn=>.pure n
instance calm_sys (c:Sys):Calm<|sys c:=.sys λr=>.pure r
instance calm_prog:Calm program:=.prog λp=>.pure p
instance calm_room:Calm<|mark .noRoom:=.room<|.pure ()
instance calm_stuck {α:Type} (s:String):Calm (stuck s:Sem α):=.halt _
instance calm_unsup {α:Type} (u:Unsupported):Calm (unsupported u:Sem α):=.halt _
instance calm_panic {α:Type} (v:Zc):Calm (goPanic v:Sem α):=.halt _
instance calm_askRoom (n):Calm<|askRoom n:=by
 unfold askRoom;exact ZH
instance calm_viewAt (r):Calm<|viewAt r:=by
 unfold viewAt;exact ZH
instance calm_numberAt (r):Calm<|numberAt r:=by
 unfold numberAt;exact ZH
instance calm_noView (a):Calm<|noView a:=by
 unfold noView;exact ZH
instance calm_asNumber (a l):Calm<|asNumber a l:=by
 unfold asNumber;exact ZH
instance calm_behind (a):Calm<|behindNumber a:=by
 unfold behindNumber;exact ZH
instance calm_stringish (a):Calm<|stringish a:=by
 unfold stringish;exact ZH
instance calm_mayBeOne (a b):Calm<|mayBeOne a b:=by
 unfold mayBeOne;exact ZH
instance calm_sameAddr (a b):Calm<|sameAddr a b:=by
 unfold sameAddr;exact ZH
instance calm_samePointer (a b):Calm<|samePointer a b:=by
 unfold samePointer;exact ZH
instance calm_typeInfo (t):Calm<|typeInfo t:=by
 unfold typeInfo;exact ZH
instance calm_underlying (t):Calm<|underlying t:=by
 unfold underlying;exact ZH
instance calm_typeStr (t):Calm<|typeStr t:=by
 unfold typeStr;exact ZH
instance calm_zeroValue (t):Calm<|zeroValue t:=by
 unfold zeroValue;exact ZH
instance calm_sizeOf (t):Calm<|Go.sizeOf t:=by
 unfold Go.sizeOf;exact ZH
instance calm_isAgg (t):Calm<|isAgg t:=by
 unfold isAgg;exact ZH
instance calm_loadFrom (a:Addr):∀(n i:Nat) (d:Za),Calm (loadCellsFrom a i n d)
 |0,_,_=>.pure _
 |n+1,i,d=>(calm_load _ _).bind λv=>calm_loadFrom a n _ _
instance calm_loadCells (a n):Calm<|loadCells a n:=by
 unfold loadCells;exact ZH
instance calm_storeCells (a:Addr):∀(vs:Zp) (i:Nat),Calm (storeCells a vs i)
 | [],_=>.pure _
 |v::vs,i=>(calm_store _ _ _).bind λ_=>calm_storeCells a vs _
instance calm_loadVar (t a):Calm<|loadVar t a:=by
 unfold loadVar;exact ZH
instance calm_storeVar (t a v):Calm<|storeVar t a v:=by
 unfold storeVar;exact ZH
instance calm_newRow (t cs):Calm<|newRow t cs:=by
 unfold newRow;exact ZH
instance calm_newVar (t v):Calm<|newVar t v:=by
 unfold newVar;exact ZH
instance calm_elemOf (t):Calm<|elemOf t:=by
 unfold elemOf;exact ZH
instance calm_part (t cs n):Calm<|part t cs n:=by
 unfold part;exact ZH
instance calm_rtPanic {α:Type} (e):Calm (runtimePanic e:Sem α):=by
 unfold runtimePanic;exact ZH
instance calm_bounds {α:Type} (k:IntKind) (x y:Int) (c:BoundsCode):Calm (boundsPanic k x y c:Sem α):=by
 unfold boundsPanic;dsimp only;split;exact .bind (calm_choose _).map λ_=>calm_rtPanic _;exact .bind (.pure _) λ_=>calm_rtPanic _
instance calm_asIntOf (v):Calm<|asIntOf v:=by
 unfold asIntOf;exact ZH
instance calm_asInt (v):Calm<|asInt v:=by
 unfold asInt;exact ZH
instance calm_asBool (v):Calm<|asBool v:=by
 unfold asBool;exact ZH
instance calm_asAgg (v):Calm<|asAgg v:=by
 unfold asAgg;exact ZH
instance calm_asAddr (v):Calm<|asAddr v:=by
 unfold asAddr;exact ZH
instance calm_sureAddr (v):Calm<|Instr.sureAddr v:=by
 unfold Instr.sureAddr;exact ZH
instance calm_byteOf (a):Calm<|byteOf a:=by
 unfold byteOf;exact ZH
instance calm_partAt (a c b):Calm<|partAt a c b:=by
 unfold partAt;exact ZH
instance calm_fieldPlace (a f):Calm<|fieldPlace a f:=by
 unfold fieldPlace;exact ZH
instance calm_alloc (t b v):Calm<|Instr.alloc t b v:=by
 unfold Instr.alloc;exact ZH
instance calm_box (t v):Calm<|Instr.box t v:=by
 unfold Instr.box;exact ZH
instance calm_loadAt (t v):Calm<|Instr.loadAt t v:=by
 unfold Instr.loadAt;exact ZH
instance calm_storeAt (t v x):Calm<|Instr.storeAt t v x:=by
 unfold Instr.storeAt;exact ZH
instance calm_extract (v i):Calm<|Instr.extract v i:=by
 unfold Instr.extract;exact ZH
instance calm_makeInterface (t v):Calm<|Instr.makeInterface t v:=by
 unfold Instr.makeInterface;exact ZH
instance calm_makeFunc (f a b):Calm<|Instr.makeFunc f a b:=by
 unfold Instr.makeFunc;exact ZH
instance calm_makeMap (t r):Calm<|Instr.makeMap t r:=by
 unfold Instr.makeMap;exact ZH
instance calm_field (t x f):Calm<|Instr.field t x f:=by
 unfold Instr.field;exact ZH
instance calm_index (t x i):Calm<|Instr.index t x i:=by
 unfold Instr.index;exact ZH
instance calm_sliceBound (x y c):Calm<|Instr.sliceBound x y c:=by
 unfold Instr.sliceBound;exact ZH
instance calm_sliceBounds (b n c l h m):Calm<|Instr.sliceBounds b n c l h m:=by
 unfold Instr.sliceBounds;exact ZH
instance calm_fieldAt (t x f):Calm<|Instr.fieldAt t x f:=by
 unfold Instr.fieldAt;exact ZH
instance calm_indexAt (t x i):Calm<|Instr.indexAt t x i:=by
 unfold Instr.indexAt;exact ZH
instance calm_build (t a):Calm<|Instr.build t a:=by
 unfold Instr.build;exact ZH
instance calm_buildSlice (t n a):Calm<|Instr.buildSlice t n a:=by
 unfold Instr.buildSlice;exact ZH
instance calm_slice (t x l h m):Calm<|Instr.slice t x l h m:=by
 unfold Instr.slice;exact ZH
instance calm_sliceAt (t x l h m):Calm<|Instr.sliceAt t x l h m:=by
 unfold Instr.sliceAt;exact ZH
instance calm_makeSlice (t x y):Calm<|Instr.makeSlice t x y:=by
 unfold Instr.makeSlice;exact ZH
instance calm_len (ts t aq_):Calm<|Builtin.len_ ts t aq_:=by
 unfold Builtin.len_;exact ZH
instance calm_holds (a n):Calm<|Builtin.holdsCells a n:=by
 unfold Builtin.holdsCells;exact ZH
instance calm_mayShare (a b n o x):Calm<|Builtin.mayShare a b n o x:=by
 unfold Builtin.mayShare;exact ZH
instance calm_lenOf (x):Calm<|Builtin.lenOf x:=by
 unfold Builtin.lenOf;exact ZH
instance calm_first (a n x):Calm<|Builtin.firstCells a n x:=by
 unfold Builtin.firstCells;exact ZH
instance calm_append (ts t aq_):Calm<|Builtin.append_ ts t aq_:=by
 unfold Builtin.append_;exact ZH
instance calm_intArith (op k x y):Calm<|Op.intArith op k x y:=by
 unfold Op.intArith;exact ZH
instance calm_intDiv (op k x y):Calm<|Op.intDiv op k x y:=by
 unfold Op.intDiv;exact ZH
instance calm_intBits (op k x y):Calm<|Op.intBits op k x y:=by
 unfold Op.intBits;exact ZH
instance calm_intCmp (op x y):Calm<|Op.intCmp op x y:=by
 unfold Op.intCmp;exact ZH
instance calm_shift (op k k' x y):Calm<|Op.shift op k x k' y:=by
 unfold Op.shift;exact ZH
instance calm_fArith (op k x y):Calm<|Op.floatArith op k x y:=by
 unfold Op.floatArith;exact ZH
instance calm_fCmp (op k x y):Calm<|Op.floatCmp op k x y:=by
 unfold Op.floatCmp;exact ZH
instance calm_strOp (op x y):Calm<|Op.stringOp op x y:=by
 unfold Op.stringOp;exact ZH
instance calm_unary (op x):Calm<|Op.unary op x:=by
 unfold Op.unary;exact ZH
instance calm_cArith (op k x y):Calm<|Op.Complex.arith op k x y:=by
 unfold Op.Complex.arith;exact ZH
instance calm_cCmp (op k x y):Calm<|Op.Complex.cmp op k x y:=by
 unfold Op.Complex.cmp;exact ZH
instance calm_f2f (s x d):Calm<|Conv.floatToFloat s x d:=by
 unfold Conv.floatToFloat;exact ZH
instance calm_cConv (s x d):Calm<|Op.Complex.conv s x d:=by
 unfold Op.Complex.conv;exact ZH
instance calm_cadd (x y:Nat):Calm<|Op.Complex.add x y:=calm_cArith ..
instance calm_csub (x y:Nat):Calm<|Op.Complex.sub x y:=calm_cArith ..
instance calm_cmul (x y:Nat):Calm<|Op.Complex.mul x y:=calm_cArith ..
instance calm_cquo (x y:Nat):Calm<|Op.Complex.quo x y:=calm_cArith ..
instance calm_product (a b c d):Calm<|Op.Complex.product a b c d:=by
 unfold Op.Complex.product;exact ZH
instance calm_corrected (s a b c d):Calm<|Op.Complex.corrected s a b c d:=by
 unfold Op.Complex.corrected;exact ZH
instance calm_quotient (a b c d):Calm<|Op.Complex.quotient a b c d:=by
 unfold Op.Complex.quotient;exact ZH
instance calm_complexOp (op k a b c d):Calm<|Op.complexOp op k a b c d:=by
 unfold Op.complexOp;exact ZH
instance calm_unsafeAdd2 (ts:Array TypeId) (t:Zf) (p:Option Addr) (b:Zc):Calm<|Builtin.unsafeAdd_ ts t #[.pointer p,b]:=by
 unfold Builtin.unsafeAdd_;refine .bind (calm_asInt b) λn=> ?_;dsimp only;exact ZH
instance calm_unsafeAdd (ts:Array TypeId) (t:Zf) (aq_:Za):Calm<|Builtin.unsafeAdd_ ts t aq_:=by
 obtain⟨l⟩:=aq_;obtain _|⟨a,_|⟨b,_|⟨c,r⟩⟩⟩:=l;exact calm_stuck _;exact calm_stuck _;cases a<;>first|exact calm_stuck _|exact calm_unsafeAdd2 ..
 exact calm_stuck _
instance calm_movedN (t x y):Calm<|movedNumber t x y:=by
 unfold movedNumber;exact ZH
instance calm_movedP (t x y):Calm<|movedPointer t x y:=by
 unfold movedPointer;exact ZH
instance calm_twoPlaces (a b):Calm<|Op.twoPlaces a b:=by
 unfold Op.twoPlaces;exact ZH
instance calm_addrSub (k a b):Calm<|Op.addrSub k a b:=by
 unfold Op.addrSub;exact ZH
instance calm_addrCmp (op a b):Calm<|Op.addrCmp op a b:=by
 unfold Op.addrCmp;exact ZH
instance calm_addrMod (k a n):Calm<|Op.addrMod k a n:=by
 unfold Op.addrMod;exact ZH
instance calm_equalIn:∀(n:Nat) (t:Zf) (x y:Zc),Calm (Op.equalIn n t x y)
 |0,_,_,_=>.halt _
 |n+1,t,x,y=>by
  have a:=calm_equalIn n;unfold Op.equalIn;exact ZH
instance calm_guardIn:∀(n:Nat) (t:Zf) (x y:Zc),Calm (Op.eqGuardIn n t x y)
 |0,_,_,_=>.halt _
 |n+1,t,x,y=>by
  have a:=calm_guardIn n;unfold Op.eqGuardIn;exact ZH
instance calm_equal (t x y):Calm<|Op.equal t x y:=by
 unfold Op.equal;exact ZH
instance calm_guard (op t x y a b):Calm<|eqGuard op t x y a b:=by
 unfold eqGuard;exact ZH
instance calm_binOp (op t x y):Calm<|binOp op t x y:=by
 unfold binOp;exact ZH
instance calm_min2 (x y):Calm<|Builtin.min2 x y:=by
 unfold Builtin.min2;exact ZH
instance calm_min (ts:Array TypeId) (t:Zf) (aq_:Za):Calm<|Builtin.min_ ts t aq_:=by
 unfold Builtin.min_;split;exact .halt _;exact jF calm_min2 _ _
instance calm_max2 (x y):Calm<|Builtin.max2 x y:=by
 unfold Builtin.max2;exact ZH
instance calm_max (ts:Array TypeId) (t:Zf) (aq_:Za):Calm<|Builtin.max_ ts t aq_:=by
 unfold Builtin.max_;split;exact .halt _;exact jF calm_max2 _ _
def EvB(n:Nat)(e:Event):Prop:=EvC (λ_=>False) (λb=>b<n) e
def EvB.mono{n d:Nat}{e:Event}(h:EvB n e)(a:n<=d):EvB d e:=by
 unfold EvB EvC at*;split<;>simp only[*]at h;exact .inl<|Zf4 (h.resolve_right λx=>x.2) a;exact Zf4 h a;exact h;trivial
def EvB.cell{n:Nat}{a:Addr}(h:a.block<n)(w s:Bool):EvB n ⟨.cell a,w,s⟩:=.inl h
def EvB.obj{n r:Nat}(h:r<n)(w s:Bool):EvB n ⟨.obj r,w,s⟩:=h
def jK{w:Z3}{a:Addr}{v:Zc}(h:w.cell? a=J v):a.block<xz (xj w):=by
 obtain⟨_,c,e,f,d,_⟩:=JQ h;exact(Zf2.1 d).1
def NT{p:Z6}{w:Z3}{at_:Addr}{u:Zf}{k:Addr}{b:Bool}{r:Array Value×TypeId×(Nat×Nat)×Nat×Value×List (Nat×Nat×List UInt8)}(h:w.seen p at_ u k b=.ok r):at_.block<xz (xj w):=by
 obtain a|a:=Zje at_.block<|xz<|xj w;exact a
 .exfalso;have d:w.heap[at_.block]?=U:=Zhl a;unfold World.seen at h;simp only[d,bind,Except.bind]at h;repeat' split at h
  all_goals cases h
def Z27{p:Z6}{w:Z3}{a:Addr}{b:Bool}{v:Zc}{l:List Addr}(h:w.farLoad p a b=.ok (v,l)):∀x∈l,x.block<xz (xj w):=by
 unfold World.farLoad at h;split at h
 .split at h
  .rename_i at_ u _ r e;cases h;unfold World.viewLoad at e;simp only[bind,Except.bind]at e;split at e;cases e
   .rename_i r f;have d:=NT f;repeat' split at e
    all_goals first|(cases e;done)|skip
    all_goals
     cases e;intro x g;obtain⟨y,_,rfl⟩:=Zfh.1 g;exact d
  cases h
 cases h
def Z28{p:Z6}{w w':Z3}{a:Addr}{v:Zc}{b:Bool}{l:List Addr}(h:w.farStore p a v b=.ok (w',l)):∀x∈l,x.block<xz (xj w):=by
 unfold World.farStore at h;split at h
 .split at h
  .rename_i at_ u _ r e;cases h;unfold World.viewStore at e;simp only[bind,Except.bind]at e;split at e;cases e
   .split at e;cases e
    .rename_i r f;have d:=NT f;repeat' split at e
     all_goals first|(cases e;done)|skip
     all_goals
      cases e;intro x g;obtain⟨y,_,rfl⟩:=Zfh.1 g;exact d
  cases h
 cases h
def EvsB(n:Nat)(es:Zd):Prop:=∀e∈es,EvB n e
def EvsB.mono{n a:Nat}{es:Zd}(h:EvsB n es)(f:n<=a):EvsB a es:=λe d=>(h e d).mono f
def EvsB.push{n:Nat}{es:Zd}{e:Event}(h:EvsB n es)(d:EvB n e):EvsB n<|es.push e:=λx a=>by
 obtain a|rfl:=ZiY.1 a;exact h x a;exact d
def EvsB.am{n:Nat}{es:Zd}(h:EvsB n es){l:List Addr}(g:∀x∈l,x.block<n)(b s:Bool):EvsB n (es++l.toArray.map (⟨.cell ·,b,s⟩)):=λx d=>by
 obtain d|d:=Zgy.1 d;exact h x d;obtain⟨a,f,rfl⟩:=ZhG.1 d;exact .cell (g a Zek) _ _
theorem Calm.ml{α:Type}{p:Z6}{s:Sem α}(h:Calm s):∀(w:Z3) (f:Zd),EvsB (xz<|xj w) f->EvsB (xz<|xj<|Y2<|s.run p w) (s.runT p w f).2:=by
 induction h with
 |pure a=>intro w f h;exact h
 |halt x=>intro w f h;exact h
 |load _ d=>
  intro w f h;unfold Sem.run Sem.runT;split;rename_i e;exact d _ w _<|h.push<|.cell (jK e) _ _;split;rename_i e;exact d _ w _<|h.am (Z27 e) _ _;exact h
 | @store m a v k _ d=>
   intro w f h;cases v<;>simp only[Sem.run,Sem.runT]<;>first|exact h|skip
   all_goals
    split;rename_i e;split;exact h;refine d _ _<|EvsB.push ?_<|.cell ?_ _ _;rw[R5];exact h;rw[R5];exact jK e;split;rename_i e;have g:=(FI e).1;refine d _ _<|EvsB.am ?_ ?_ _ _;rw[g];exact h;rw[g];exact Z28 e;exact h
 |new _ d=>intro w f h;exact d _ {w with heap:=w.heap.push _} f<|h.mono Z1
 |shape _ d=>intro w f h;exact d _ w f h
 |freeze _ d=>intro w f h;exact d (w.freeze _ _) f (by rw[(Gb _ _ _).1];exact h)
 |frozen _ d=>intro w f h;exact d _ w f h
 |getObj _ d=>
  intro w f h;unfold Sem.run Sem.runT;split;exact h;rename_i e;exact d _ w _<|h.push<|.obj (Zf2.1 e).1 _ _;exact h
 | @setObj r o k _ d=>
   intro w f h;unfold Sem.run Sem.runT;split;exact h;rename_i e;have g:xz (xj ({w with heap:=w.heap.setIfInBounds r o}:World))=xz (xj w):=Z1;refine d _ _<|EvsB.push ?_<|.obj ?_ _ _;rw[g];exact h;rw[g];exact(Zf2.1 e).1;exact h
 |choose _ d=>
  intro w f h;unfold Sem.run Sem.runT;split;exact d _ w f h;exact d _ {w with drawn:=w.drawn+1} f h
 | @sys c k _ d=>
   intro w f h;have g:=(Oj w c).1;exact d _ (w.sys c).2 _<|EvsB.push (by rw[g];exact h) (show EvB _ _ from True.intro)
 |prog _ d=>intro w f h;exact d _ w f h
 |room _ d=>intro w f h;exact d w _<|h.push (show EvB _ _ from(rfl:Mark.noRoom=Mark.noRoom))
def Qx(P:Z6):Op->Bool
 |.move _|.assign _|.pick _ _ _|.alloc _|.box _ _|.build _ _|.buildSlice _ _ _|.load _ _|.store _ _ _|.binOp _ _ _ _ _|.unOp _ _ _|.makeInterface _ _|.makeFunc _ _ _|.makeMap _ _
 |.makeSlice _ _ _|.slice _ _ _ _ _|.fieldAddr _ _ _|.field _ _ _|.indexAddr _ _ _|.index _ _ _|.extract _ _=>xk
 |.convert s d _=>VX P s&&VX P d
 | .call c=>match c.callee with
   |.builtin .append|.builtin .len|.builtin .min|.builtin .max=>xk
   | .value (.func f)=>match P.funcs[f]? with
     |some fn=> !(fn.name== "runtime.NumGoroutine")&&fn.body.isSome
     |none=>xw
   |_=>xw
 |_=>xw
def T9(P:Z6):Code->Bool
 |.region _ a _=>a.all λo=>Qx P o.op
 |.seq x y=>T9 P x&&T9 P y
 |.cond _ x y=>T9 P x&&T9 P y
 |.block _ x|.loop x|.scope x=>T9 P x
 |.skip|.label _|.exit _|.ret=>xk
 |_=>xw
end Vm
end
section
namespace Vm
open Go Go.Conc Go.ConcN
section
theorem Wa{s:Sem Value}(h:Calm s):Calm (do pure (.value<|<-s):Sem Next):=h.bind λ_=>.pure _
theorem Z1s{s:Sem Unit}(h:Calm s):Calm (do s;pure .skip:Sem Next):=h.bind λ_=>.pure _
theorem JW{α:Type}{P:Z6}{s:Sem α}(h:Calm s)(w:Z3):EvsB (xz<|xj<|Y2<|s.run P w)<|s.events P w #[]:=h.ml w #[] λe a=>by simp at a
def Z1O{P:Z6}{s d:Zf}(h:(VX P s&&VX P d)=xk)(x:Zc)(w:Z3):EvsB (xz<|xj<|Y2<|(do pure (.value<|<-convert s d x):Sem Next).run P w)<|(do pure (.value<|<-convert s d x):Sem Next).events P w #[]:=by
 simp only[ZeZ,VX]at h;obtain⟨a,f⟩:=h;split at a
 .split at f
  .rename_i k e o g;have key:∃c:Sem Next,Calm c/\(do pure (.value<|<-convert s d x):Sem Next).run P w=c.run P w/\(do pure (.value<|<-convert s d x):Sem Next).events P w #[]=c.events P w #[]:=by
    unfold convert underlying;simp only[bind,Sem.bind,program,Sem.run,Sem.events,Sem.runT,k,g,pure];cases x;all_goals
     first
     |exact⟨.halt _,.halt _,rfl,rfl⟩
     |exact⟨.pure _,.pure _,rfl,rfl⟩
     |skip
    .refine⟨(Conv.floatToInt _ _ _).bind λv=>.pure<|.value v,?_,rfl,rfl⟩;refine Calm.bind ?_ λ_=>.pure _;unfold Conv.floatToInt;dsimp only;repeat' first|exact .pure _|exact Calm.choose λ_=>.pure _|split
    rename_i p;cases p<;>exact⟨.halt _,.halt _,rfl,rfl⟩
   obtain⟨c,n,j,l⟩:=key;rw[j,l];exact JW n w
  cases f
 cases a
def FE{P:Z6}{o:Oper}(h:Qx P o.op=xk)(a:Act)(w:Z3):EvsB (xz<|xj<|Y2<|(execOp a.eval o).run P w)<|(execOp a.eval o).events P w #[]:=by
 cases d:o.op with
 |call c=>
  obtain⟨callee,args,g⟩:=c;rw[d]at h;simp only[Qx]at h;split at h
  iterate 4
   refine JW ?_ w;unfold execOp;simp only[d,resolve,builtin];first|exact Wa (calm_append ..)|exact Wa (calm_len ..)|exact Wa (calm_min ..)|exact Wa<|calm_max ..
  rename_i f;split at h;rename_i fn k;simp only[ZeZ,Zge]at h;rw[events_call_body d k h.1 (by cases l:fn.body<;>simp_all)];exactλe j=>by simp at j
  cases h;cases h
 |_=>
  rw[d]at h;first
  |cases h;done
  |(unfold execOp;simp only[d];exact Z1O h _ w)
  | (refine JW ?_ w
     unfold execOp;simp only[d];first
     |exact .pure _
     |exact Wa<|calm_alloc ..
     |exact Wa<|calm_box ..
     |exact Wa<|calm_build ..
     |exact Wa<|calm_buildSlice ..
     |exact Wa<|calm_loadAt ..
     |exact Z1s<|calm_storeAt ..
     |exact Wa (.bind (calm_guard ..) λ_=>calm_binOp ..)
     |exact Wa<|calm_unary ..
     |exact Wa<|calm_makeInterface ..
     |exact Wa<|calm_makeFunc ..
     |exact Wa<|calm_makeMap ..
     |exact Wa<|calm_makeSlice ..
     |exact Wa<|calm_sliceAt ..
     |exact Wa<|calm_fieldAt ..
     |exact Wa<|calm_field ..
     |exact Wa<|calm_indexAt ..
     |exact Wa<|calm_index ..
     |exact Wa<|calm_extract ..
     |exact .bind (calm_asBool _) λ_=>.pure _)
structure TBt (sz:Nat) (t:Trace):Prop where
 fw:∀said,¬Race said t
 dk:∀i,Deaf t i=0
 H:∀op∈t,B2 sz op
 iq:KnownAll t
def TBt.main{sz f:Nat}{t:Trace}(h:TBt sz t)(q:sz<=f){fn:Zm}{pos:String}{es:Zd}(k:EvsB f es):TBt f<|t++MemOp.ofEvents 0 fn pos es:=by
 have n:=By (g:=0) (fn:=fn) (pos:=pos) (es:=es);refine⟨λsaid=>noRace_append (h.fw said) n λi a o op d b j p=> ?_,jW k h.dk,λop d=> ?_,h.iq.rp n⟩;obtain⟨y,u,l⟩:=touch_of o;exact h.iq i y a u l p.2.1;obtain d|d:=Zgy.1 d;exactλx b r j=>Zf4 (h.H op d x b r j) q;exact jX k (λb j=>j) (λb j=>j.elim) op d
def qn{P:Z6}:∀(N:Nat) {K:Nat} {m a:Machine} {r:Stepped×Trace} {t d:Trace},runNT P N m t=(.next a,d)->runNT P K a d=r->runNT P (N+K) m t=r
 |0,K,m,a,r,t,d,h,k=>by
  simp only[runNT,Zf9,Stepped.next.injEq]at h;obtain⟨rfl,rfl⟩:=h;rw[ZfL];exact k
 |N+1,K,m,a,r,t,d,h,k=>by
  rw[show N+1+K=(N+K)+1 by omega];simp only[runNT]at h⊢;rcases f:stepT P m with ⟨e,g⟩;rw[f]at h;cases e with
  |next j=>exact qn N h k
  |ended o w=>cases h
theorem Win.bind{P:Z6}{F j:Zo}{gs:Ze}{w:Z3}{sl:Option (Nat×Nat)}{t:Trace}(h:Win P F gs w sl t)(p:∀gs w sl t,F gs w t->Win P j gs w sl t):Win P j gs w sl t:=by
 obtain⟨N,a,w1,f,q,k,l⟩:=h;obtain⟨K,d,w2,g,r,n,o⟩:=p a w1 f q l;exact⟨N+K,d,w2,g,r,qn N k n,o⟩
def Dv(P:Z6)(Stop:Z8)(gs:Ze)(w:Z3)(t:Trace):Prop:=
 ∃fr cs q,gs[0]?=J (G fr cs)/\Stop fr cs w/\Yz P gs.size gs q/\TBt (xz<|xj w) t
def Walk(P:Z6)(Stop:Z8)(fr:Zg)(cs:Z7)(w:Z3):Prop:=
 ∀(d:Nat) (gs:Ze) (sl:Option<|Nat×Nat) (t:Trace) (q:Zj),Yz P gs.size gs q->gs[0]?=J (G fr cs)->TBt (xz<|xj w) t->Win P (Dv P Stop) gs (w.at d) sl t
section
variable {P:Z6}{Stop Stop':Z8}{fr:Zg}{cs:Z7}{w:Z3}
def Walk.stop(h:∀d,Stop fr cs<|w.at d):Walk P Stop fr cs w:=λd gs sl t q f a g=>Win.df ⟨fr,cs,q,a,h d,f,g⟩
theorem Walk.at(h:Walk P Stop fr cs w)(d:Nat):Walk P Stop fr cs<|w.at d:=h
theorem Walk.one(h:∀d,∃f a w' es,stepG P xk (G fr cs) (w.at d)=.go (G f a) w' es/\xz (xj w)<=xz (xj w')/\EvsB (xz<|xj w') es/\Walk P Stop f a w'):Walk P Stop fr cs w:=by
 intro Q gs sl t q M x N;have k:∀(j:Ze) g,j[j.size]? ≠J g:=λj g e=>by
  have:=(Zf2.1 e).1;omega
 refine skip M (λi g A z=> ?_) ⟨0,_,.inl rfl,x,rfl⟩ λj d u O i g o l B A n D=> ?_;obtain rfl|rfl:=A;rw[x]at z;cases z;exact⟨awake_of<|.inl rfl,λg1 g2 d=>woken_run rfl⟩;exact absurd z<|k gs g;obtain rfl|rfl:=A;rw[l 0<|.inl rfl,x]at n;cases n;obtain⟨f,a,w',es,F,H,K,L⟩:=h d;have r:j[0]?=J (G fr cs):=by rw[l 0<|.inl rfl];exact x
 have p:=runT_crowd_go (P:=P) (sl:=u) (i:=0) r (w':=w') (g':=G f a) (es:=es) F;refine⟨_,_,_,_,p,?_⟩;have C:((j.map<|woken P (G fr cs) (G f a) w').setIfInBounds 0<|G f a).size=gs.size:=by simp[o]
 exact L w'.drawn _ u _ O (by rw[C];exact SL B 0 (.inl rfl) _ _ _ _) (UR (y:=woken P (G fr cs) (G f a) w'<|G fr cs) (by rw[Zfz,r];rfl))<|N.main H K;rw[<-o]at n;exact absurd n<|k j g
def Walk.go{fr':Zg}{a:Z7}(h:∀w,stepG P xk (G fr cs) w=.go (G fr' a) w #[])(k:Walk P Stop fr' a w):Walk P Stop fr cs w:=
 .one λd=>⟨fr',a,w.at d, #[],h _,Zf3 _,λe f=>by simp at f,k⟩
end
end
end Vm
end
