import Derived.Conc.CrowdComm
import Derived.Conc.Beside
import Derived.Conc.CompanyDraw
set_option linter.unusedSimpArgs false
set_option linter.unusedVariables false
set_option linter.defProp false
open Option renaming some→J,none→U
open Bool renaming true→xk,false→xw
open Go renaming undef→xy
open List renaming length→I
open Array renaming size→xz
open Go.World renaming heap→xj
open List renaming length→xq
open Array renaming size→xz
open Go.World renaming heap→xj
theorem Z1{p:Prop}(h:p:=by simp):p:=h
theorem Zgc{p:Prop}(h:p:=by grind):p:=h
theorem Z0{p:Prop}(h:p:=by omega):p:=h
theorem Zgd{p:Prop}(h:p:=by simp_all):p:=h
theorem Zge{p:Prop}(h:p:=by simp;omega):p:=h
theorem Zh4{p:Prop}(h:p:=by simp[Zu]):p:=h
theorem Zgt{p:Prop}(h:p:=by cases h):p:=h
theorem Zgu{p:Prop}(h:p:=by simp[Cx.Rv,Zu]):p:=h
theorem ZgR{p:Prop}(h:p:=by simp[Cx.Rv]):p:=h
theorem ZgV{p:Prop}(h:p:=by simpa using L):p:=h
theorem Zgl{p:Prop}(h:p:=by unfold YK at g;rw[t,j]at g;exact g):p:=h
theorem Zgp{p:Prop}(h:p:=by simpa using d):p:=h
theorem Zgs{p:Prop}(h:p:=by simpa using f):p:=h
def Zhc:=@Nat.le_refl
def Zhs:=@List.mem_cons
def Zhe:=@Array.getElem?_eq_some_iff
def Zjx:=@Array.getElem?_push
def Zhg:=@if_neg
def Zj3:=@Array.getElem?_setIfInBounds
def Zhi:=@if_pos
def ZhA:=@Option.map_some
def Zk7:=@Option.isSome_none
def Zhu:=@Bool.false_eq_true
def ZiX:=@Ne.symm
def Zi1:=@Array.getElem?_eq_getElem
def Zif:=@if_false
def Zlh:=@Array.mem_push
def Zl5:=@Array.size_push
def ZiS:=@Nat.add_zero
def Zi9:=@if_true
def Zkl:=@Nat.add_comm
def Zkr:=@Go.Sem.run_bind'
def Zjn:=@Go.Sem.runT_bind'
def Zji:=@Go.Sem.runT_fst
def ZhK:=@List.mem_cons_of_mem
def Zhb:=@Bool.and_eq_true
def Zjh:=@Array.all_eq_true'
def ZhJ:=@Array.getElem?_map
def ZhN:=@List.map_cons
def ZkN:=@Array.size_map
def ZjG:=@Array.foldl_toList
def Ziw:=@Array.toList_map
def ZiH:=@Array.mapM_eq_mapM_toList
def ZjY:=@Array.mem_map
def Zlw:=@getElem!_pos
def ZiJ:=@Option.some.inj
def Zlv:=@getElem!_neg
def ZhV:=@Go.Sem.run_bind
def Zlp:=@Go.run_shape
def ZhU:=@Go.Result.andThen_ok
def Zjo:=@Go.run_program
def Zkg:=@Bool.and_false
def ZjV:=@Go.Sem.run_pure
def ZiD:=@List.mem_cons_self
def ZhE:=@Option.getD_some
def Zii:=@congrArg
def Zj7:=@of_decide_eq_true
def ZkM:=@of_decide_eq_false
def Zjf:=@Array.map_append
def Zkq:=@Bool.not_true
def Zhr:=@Bool.or_eq_true
def Zi2:=@beq_iff_eq
def Zhd:=@Array.getD_eq_getD_getElem?
def ZkZ:=@Option.getD_none
def Zhk:=@Option.bind_some
def Zic:=@List.mem_singleton
def Zix:=@List.cons_append
def ZjP:=@Prod.ext
def Zi4:=@Array.append_empty
def ZiK:=@Array.mem_append
def Zho:=@Prod.mk.injEq
def ZjJ:=@Array.mem_of_getElem?
def ZhC:=@List.mem_append
def Zki:=@List.mapM_cons
def ZhD:=@Nat.le_trans
def Zhj:=@Nat.lt_of_lt_of_le
def Zlr:=@Nat.not_lt
def Zjc:=@Nat.zero_le
def ZjE:=@Array.getElem?_eq_none
def Zl7:=@Go.step_lone_ended
def ZkX:=@Go.Machine.mk.injEq
def Zli:=@Array.mk.injEq
def Zl9:=@List.cons.injEq
def ZkI:=@Go.step_lone_go
def Zjv:=@List.range_succ
def Zkh:=@Bool.false_and
def Zjm:=@Classical.byContradiction
def ZjZ:=@Classical.axiomOfChoice
def Ziv:=@List.map_congr_left
def ZiP:=@List.foldl_cons
def Zl4:=@Array.mem_iff_getElem
def Zi5:=@Array.getElem?_setIfInBounds_ne
def ZjI:=@Array.getElem?_setIfInBounds_self_of_lt
def Zha:=@Option.map_eq_some_iff
def Zjs:=@Array.size_setIfInBounds
def Zlq:=@List.mapM_nil
def Zlu:=@Nat.lt_or_ge
def Zhq:=@List.mem_map
def Ziz:=@Bool.not_eq_true'
def ZhZ:=@Nat.zero_add
section
namespace Vm
open Go
section
def Ye{α}:Result α->World
 |.ok _ w=>w
 |.halt _ w=>w
abbrev Z3:=World
theorem Z2u{α}(x:Ask α):∀w:Z3,(w.ask x).2.heap=w.heap/\w.drawn<=(w.ask x).2.drawn:=by
 induction x with
 |done a=>intro w;exact⟨rfl,Zhc _⟩
 |ask d range k f=>
  unfold World.ask;grind
theorem PS(w:Z3)c:(w.sys c).2.heap=w.heap/\w.drawn<=(w.sys c).2.drawn:=by
 unfold World.sys;have h:=Z2u (Kernel.perform c w.os) w;grind
theorem Gx{p}{w w':Z3}{a v b l}(h:w.farStore p a v b=.ok (w',l)):xz (xj w')=xz (xj w)/\w'.drawn=w.drawn:=by
 unfold World.farStore at h;split at h
 .split at h
  .rename_i r e;cases h;unfold World.viewStore at e;simp[bind,Except.bind]at e;repeat' split at e
   all_goals first|(cases e;done)|skip
   all_goals (cases e;simp)
  cases h
 cases h
theorem Rn(w:Z3)a v:xz (xj<|w.setCell a v)=xz (xj w):=Z1
theorem H2(w:Z3)a n:xz (xj<|w.freeze a n)=xz (xj w)/\(w.freeze a n).drawn=w.drawn:=by grind [World.freeze]
theorem JK{α}p(s:Sem α):∀w,xz (xj w)<=xz (xj<|Ye<|s.run p w)/\w.drawn<=(Ye<|s.run p w).drawn:=by
 induction s with
 |pure a=>intro w;exact⟨Zhc _,Zhc _⟩
 |load m a k d=>
  intro w;unfold Sem.run;split;grind;split;grind;exact⟨Zhc _,Zhc _⟩
 |store m a v k d=>
  intro w;cases v<;>simp[Sem.run]<;>first|exact⟨Zhc _,Zhc _⟩|skip
  all_goals
   split;split;exact⟨Zhc _,Zhc _⟩;generalize j:w.setCell a _=w2;have t:xz (xj w2)=xz (xj w):=by rw[<-j,Rn]
   have l:w2.drawn=w.drawn:=by rw[<-j];rfl
   rw[<-t,<-l];exact d w2;split;rename_i e;have f:=Gx e;have g:=d (by assumption);rw[f.1,f.2]at g;exact g;exact⟨Zhc _,Zhc _⟩
 |new o k d=>
  grind [Sem.run,Array.size_push]
 |shape r k d=>intro w;unfold Sem.run;grind
 |freeze a n k d=>grind [Sem.run,H2]
 |frozen a k d=>intro w;unfold Sem.run;grind
 |getObj r k d=>intro w;unfold Sem.run;split<;>first|exact⟨Zhc _,Zhc _⟩|grind
 |setObj r o k d=>
  intro w;unfold Sem.run;split;exact⟨Zhc _,Zhc _⟩;grind;exact⟨Zhc _,Zhc _⟩
 |choose q k d=>
  intro w;unfold Sem.run;split;grind;have:=d (q.cut<|w.tape w.drawn q) {w with drawn:=w.drawn+1};exact⟨this.1,Zgc⟩
 |sys c k d=>
  grind [Sem.run,PS,Nat.le_trans]
 |program k d=>intro w;unfold Sem.run;grind
 |mark m k d=>simp_all[Sem.run]
 |halt h=>intro w;exact⟨Zhc _,Zhc _⟩
section
abbrev Zl:=Nat->Nat
variable (ρ:Zl)
def ZW(a:Addr):Addr:= {a with block:=ρ a.block}
def Vj:Fn->Fn
 |.yield l=>.yield<|ρ l
 |f=>f
def Zu:Value->Value
 |.pointer (J a)=>.pointer<|J<|ZW ρ a
 |.slice (J a) n c=>.slice (J<|ZW ρ a) n c
 |.map (J r)=>.map<|J<|ρ r
 |.chan (J r)=>.chan<|J<|ρ r
 |.func fn a b=>.func (Vj ρ fn) (a.map Zu)<|b.map Zu
 |.iface t v=>.iface t<|Zu v
 |.agg d=>.agg<|d.map Zu
 |.tuple vs=>.tuple<|vs.map Zu
 |v=>v
def JH:Target->Target
 |.fn f c=>.fn (Vj ρ f)<|c.map<|Zu ρ
 |.collected r=>.collected<|ρ r
 |t=>t
def Xg(d:Deferred):Deferred:=⟨JH ρ d.target,d.args.map<|Zu ρ⟩
def VY(e:MapEntry):MapEntry:= {e with key:=Zu ρ e.key,val:=Zu ρ e.val}
def LQ(l:Loop):Loop:= {l with tmps:=l.tmps.map<|Zu ρ,defers:=ρ l.defers}
def XW:Obj->Obj
 |.cells c e f=>.cells (c.map<|Zu ρ) e f
 |.map g k=>.map (g.map<|VY ρ) k
 |.loop l=>.loop<|LQ ρ l
 |.deferred d=>.deferred (d.map λl=>l.map<|Xg ρ)
 |.number a YY=>.number (ZW ρ a) YY
 |o=>o
end
structure Cx where
 Q:Program
 fs:Array Func
 gs:Array Global
 ρ:Nat->Nat
 n0:Nat
 G:Nat->Prop
 O:Nat->Prop
 KL:Loop->Prop
 KD:Deferred->Prop
def Cx.P(X:Cx):Program:= {X.Q with funcs:=X.fs,globals:=X.gs}
theorem Ig T g:∀n t,Made.infoAt {T with globals:=g} n t=Made.infoAt T n t
 |0,t=>rfl
 |n+1,t=>by
  have:=funext (Ig T g n);simp_all[Made.infoAt]
theorem Cx.dx(X:Cx)t:X.P.info? t=X.Q.info? t:=by
 show(if t<X.Q.types.size then X.Q.types[t]? else Made.infoAt {X.Q.toTables with globals:=X.gs} Made.depth t)=_;rw[Ig];rfl
theorem Cx.dc(X:Cx)t:X.P.underlying t=X.Q.underlying t:=by
 simp_all[Program.underlying,Cx.dx]
section
variable (X:Cx)
def hid:Obj:=.view ⟨0,0,J 0⟩ 0
def Cx.kf:Obj->Prop
 |.cells .. |.map .. |.number .. =>True
 |.loop l=>X.KL l
 |.deferred (J a)=>∀d∈a,X.KD d
 |.deferred U=>True
 |_=>False
def Cx.gd(X:Cx)(b:Nat):Prop:=X.n0<=b\/X.O b
def Cx.OR(b:Nat)(o:Obj)(f:Option Obj):Prop:=
 o=hid\/(¬X.gd b/\∃c e a d,o=.cells c e a/\(∀i,i<c.size->a.1<=i/\i<a.2)/\X.G b/\f=J (.cells (c.map<|Zu X.ρ) e d))\/
 X.gd b/\X.kf o/\f=J (XW X.ρ o)/\(∀c e a,o=.cells c e a->a=(0,0))
structure Cx.WR (wl wc:World):Prop where
 os:wc.os=wl.os
 nl:X.n0<=xz (xj wl)
 H:∀b,b<X.n0->X.ρ b=b
 inj:∀b b',wl.heap[b]? ≠J hid->wl.heap[b']? ≠J hid->b<xz (xj wl)->b'<xz (xj wl)->X.ρ b=X.ρ b'->b=b'
 blk:∀b o,wl.heap[b]?=J o->X.OR b o wc.heap[X.ρ b]?
def Cx.il(d:Z3)(e:Event):Prop:=
 match e.loc with
 |.cell a=>∃b,b<xz (xj d)/\a.block=X.ρ b/\(¬X.gd b->e.write=xw/\X.G b)
 |.obj r=>∃b,X.gd b/\b<xz (xj d)/\r=X.ρ b
 |.mark m=>m=.noRoom
 |.output=>True
 |_=>False
def Vis(w w':Z3):Prop:=∀(r:Nat) (o:Obj),w.heap[r]?=J o->o≠hid->∃a,w'.heap[r]?=J a/\a≠hid
theorem Vis.refl w:Vis w w:=λ_ o a d=>⟨o,a,d⟩
theorem Vis.trans{a b c}(h:Vis a b)(k:Vis b c):Vis a c:=λr o d f=>by
 let⟨l,g,j⟩:=h r o d f;exact k r l g j
structure Cx.Aft (wl wc wl' wc':World) (es es':Array Event):Prop where
 wr:X.WR wl' wc'
 sz:xz (xj wl')+xz (xj wc)=xz (xj wc')+xz (xj wl)
 rx:xz (xj wl)<=xz (xj wl')
 dr:wl'.drawn+wc.drawn=wc'.drawn+wl.drawn
 pz:wl.drawn<=wl'.drawn
 tl:wl'.tape=wl.tape
 tc:wc'.tape=wc.tape
 oc:(wc'.os,wc'.output)=(wc.os,wc.output)
 new:∀b,xz (xj wl)<=b->b<xz (xj wl')->xz (xj wc)<=X.ρ b/\X.ρ b<xz (xj wc')
 keep:∀c,c<xz (xj wc)->(∀b,X.gd b->b<xz (xj wl)->c≠X.ρ b)->wc'.heap[c]?=wc.heap[c]?
 nf:∀e∈es',e∈es\/X.il wl' e
 ox:Vis wl wl'
theorem Cx.il.mono{X:Cx}{d a e}(h:X.il d e)(f:xz (xj d)<=xz (xj a)):X.il a e:=by
 grind [Cx.il]
theorem Cx.Aft.refl{X:Cx}{a wc}es(h:X.WR a wc):X.Aft a wc a wc es es:=
 ⟨h,Z0,Z0,Z0,Z0,rfl,rfl,rfl,Z0,Z1,Zgd,.refl _⟩
theorem Cx.WR.lt{X:Cx}{d wc}(h:X.WR d wc){b o}(g:d.heap[b]?=J o)(k:o≠hid):X.ρ b<xz (xj wc):=by
 have:=h.blk b _ g;obtain a|⟨_,c,e,j,f,_,_,_,a⟩|⟨_,_,a,_⟩:=this;simp_all;grind;grind
theorem Cx.Aft.trans{X:Cx}{a b f j g l es d es2}(h:X.Aft a b f j es d)(k:X.Aft f j g l d es2):X.Aft a b g l es es2:=by
 let⟨_,H,K,L,M,p,q,w,P,N,r,y⟩:=h;let⟨G,k1,z,Q,R,A,B,D,T,S,C,F⟩:=k;refine⟨G,Z0,Z0,Z0,Z0,A.trans p,B.trans q,D.trans w,λx n o=> ?_,λc O u=> ?_,λe t=> ?_,y.trans F⟩;grind;grind;obtain h|h:=C e t;obtain h|h:=r e h;grind;exact .inr<|h.mono z;simp_all
def bad:Halt->Prop
 |.stuck _=>True
 |.unsupported (.initOrder _)=>False
 |.unsupported _=>True
 |_=>False
theorem Q0{α:Type}(xs:Array α)i j f:(xs.modify i f)[j]?=if i=j then(xs[j]?).map f else xs[j]? :=by
 grind
abbrev Zc:=Array Event
def Cx.bq{α β}(X:Cx)(RA:α->β->Prop)(j wc:Z3)(es:Zc):Result α->Result β×Array Event->Prop
 |.ok a g,r=>∃b f d,r=(.ok b f,d)/\RA a b/\X.Aft j wc g f es d
 |.halt (.panic v) g,r=>∃f d,r=(.halt (.panic<|Zu X.ρ v) f,d)/\X.Aft j wc g f es d
 |.halt h _,_=>bad h
abbrev Zb:=List Nat
def Seen(V:Zb)(w:Z3):Prop:=∀r∈V,∃o,w.heap[r]?=J o/\o≠hid
def Cx.ky{α β}(X:Cx)(RA:α->β->Prop)(V:Zb)(s:Sem α)(f:Sem β):Prop:=∀(d a:Z3) (g:Zc),X.WR d a->Seen V d->
 (∀j,a.drawn+j< (Ye<|f.run X.P a).drawn->d.tape (d.drawn+j)=a.tape (a.drawn+j))->
 (∀j,xz (xj a)+j< xz (xj<|Ye<|f.run X.P a)->X.ρ (xz (xj d)+j)=xz (xj a)+j)->
 X.bq RA d a g (s.run X.Q d) (f.runT X.P a g)
abbrev Zg:=Value
inductive Cx.Img {α β:Type} (X:Cx) (RA:α->β->Prop):List Nat->Sem α->Sem β->Prop where
 |pure {V:Zb} {a:α} {b:β}:RA a b->X.Img RA V (.pure a) (.pure b)
 |load {V:Zb} {m:Mode} {a:Addr} {k:Value->Sem α} {k':Value->Sem β}:(∀v,X.Img RA V (k v)<|k'<|Zu X.ρ v)->X.Img RA V (.load m a k) (.load m (ZW X.ρ a) k')
 |store {V:Zb} {m:Mode} {a:Addr} {v:Zg} {k:Sem α} {k':Sem β}:X.Img RA V k k'->X.Img RA V (.store m a v k) (.store m (ZW X.ρ a) (Zu X.ρ v) k')
 |new {V:Zb} {o:Obj} {k:Nat->Sem α} {k':Nat->Sem β}:X.kf o->(∀c e fr,o=.cells c e fr->fr=(0,0))->(∀r,X.Img RA (r::V) (k r)<|k'<|X.ρ r)->X.Img RA V (.new o k) (.new (XW X.ρ o) k')
 |get {V:Zb} {r:Nat} {k:Obj->Sem α} {k':Obj->Sem β}:(∀w,∃h w',(k hid).run X.Q w=.halt h w'/\bad h)->(∀o,X.kf o->X.Img RA (r::V) (k o) (k'<|XW X.ρ o))->X.Img RA V (.getObj r k) (.getObj (X.ρ r) k')
 |set {V:Zb} {r:Nat} {o:Obj} {k:Sem α} {k':Sem β}:r∈V->X.kf o->(∀c e fr,o≠.cells c e fr)->X.Img RA V k k'->X.Img RA V (.setObj r o k) (.setObj (X.ρ r) (XW X.ρ o) k')
 |choose {V:Zb} {q:Question} {k:Nat->Sem α} {k':Nat->Sem β}:(∀n,X.Img RA V (k n)<|k' n)->X.Img RA V (.choose q k) (.choose q k')
 |prog {V:Zb} {k:Program->Sem α} {k':Program->Sem β}:X.Img RA V (k X.Q) (k' X.P)->X.Img RA V (.program k) (.program k')
 |room {V:Zb} {k:Sem α} {k':Sem β}:X.Img RA V k k'->X.Img RA V (.mark .noRoom k) (.mark .noRoom k')
 |panic {V:Zb} (v:Zg):X.Img RA V (.halt<|.panic v)<|.halt<|.panic<|Zu X.ρ v
 |ly {V:Zb} {s:Sem α} (s':Sem β):(∀w,∃h w',s.run X.Q w=.halt h w'/\bad h)->X.Img RA V s s'
 |ta {V:Zb} {s:Sem α} {s':Sem β}:X.ky RA V s s'->X.Img RA V s s'
theorem Seen.cons{V w r o}(h:Seen V w)(f:w.heap[r]?=J o)(d:o≠hid):Seen (r::V) w:=λx a=>by
 obtain rfl|a:=Zhs.1 a;simp_all;exact h x a
theorem Seen.step{V w w'}(h:Seen V w)(f:Vis w w'):Seen V w':=λx g=>by
 let⟨o,a,d⟩:=h x g;exact f x o a d
theorem Vis.setCell w a v:Vis w<|w.setCell a v:=λr o d f=>by
 simp[World.setCell,Q0];split;rw[d];grind [hid];simp_all
theorem Vis.push w d:Vis w {w with heap:=w.heap.push d}:=λr o a f=>by
 have:=(Zhe.1 a).1;simp[Zjx];rw[Zhg Z0];simp_all
theorem Vis.set w r{d}(a:d≠hid):Vis w {w with heap:=w.heap.setIfInBounds r d}:=λx o f g=>by
 have:=(Zhe.1 f).1;simp[Zj3];split;rename_i e;subst e;rw[Zhi this];exact⟨d,rfl,a⟩;simp_all
theorem Cx.kf.ox{X:Cx}{o}(h:X.kf o):o≠hid:=λe=>by subst e;exact h.elim
theorem Cx.bq.cm{α β}{X:Cx}{RA:α->β->Prop}{d wc es h w r}(a:bad h):X.bq RA d wc es (.halt h w) r:=by
 cases h<;>first|exact a|exact a.elim
theorem Cx.bq.step{α β}{X:Cx}{RA o wc w1 l es g}{r:Result α}{n:Result β×Array Event}(h:X.Aft o wc w1 l es g)(k:X.bq RA w1 l g r n):X.bq RA o wc es r n:=by
 cases r with
 |ok a w=>
  let⟨b,f,d,e,p,j⟩:=k;exact⟨b,f,d,e,p,h.trans j⟩
 |halt x w=>
  cases x<;>try exact k
  let⟨f,d,e,j⟩:=k;exact⟨f,d,e,h.trans j⟩
theorem Kr{w:Z3}{a v}(h:w.cell? a=J v):a.spot=U/\∃c e d,w.heap[a.block]?=J (.cells c e d)/\c[a.off]?=J v:=by
 unfold World.cell? at h;split at h;simp_all;cases h
theorem Cx.WR.cell{X:Cx}{j wc}(h:X.WR j wc){a v}(n:j.cell? a=J v):wc.cell? (ZW X.ρ a)=J (Zu X.ρ v)/\(¬X.gd a.block->X.G a.block)/\a.block<xz (xj j):=by
 let⟨x,c,e,r,l,w⟩:=Kr n;have g:=(Zhe.1 l).1;have key:∀d,wc.heap[X.ρ a.block]?=J (.cells (c.map<|Zu X.ρ) e d)->wc.cell? (ZW X.ρ a)=J (Zu X.ρ v):=λd f=>by
  simp_all[World.cell?,ZW]
 rcases(h.blk _ _ l)with k|⟨_,o,p,q,d,k,_,u,f⟩|⟨t,_,f,_⟩;cases k;simp_all;exact⟨key _ f,Zgd,g⟩
theorem Cx.WR.kind{X:Cx}{d wc}(h:X.WR d wc){b:Nat}{o}(g:d.heap[b]?=J o):o=hid\/X.kf o:=by
 obtain a|⟨_,j,k,l,f,a,_⟩|n:=h.blk _ _ g;grind;subst a;exact .inr trivial;simp_all
theorem Cx.WR.mf{X:Cx}{f wc}(h:X.WR f wc)a d(j:∀at_ u,f.heap[a.block]? ≠J (.view at_ u)):f.noCell a d=.stuck d:=by
 unfold World.noCell;split;rename_i g;obtain h|h:=h.kind g;cases h;exact h.elim;simp_all;rfl
abbrev Z5:=Program
def Ed(p:Z5)(w:Z3)(a:Addr)(v:Zg)(b:Bool):Except String<|World×List Addr:=w.viewStore p ⟨0,0,J 0⟩ 0 a v b
theorem Pn p(w:Z3)u k b:w.seen p ⟨0,0,J 0⟩ u k b=.error "memory seen as another type: a place without cells" :=by
 unfold World.seen;simp;rfl
theorem Cx.WR.rj{X:Cx}{d wc}(h:X.WR d wc)p a b:∃x,d.farLoad p a b=.error x/\bad x:=by
 unfold World.farLoad;split;rename_i at_ u f;obtain h|h:=h.kind f;cases h;have e:d.viewLoad p ⟨0,0,J 0⟩ 0 a b=.error "memory seen as another type: a place without cells" :=by
  unfold World.viewLoad;simp[Pn,bind,Except.bind]
 simp only[e];exact⟨_,rfl,trivial⟩;exact h.elim;rename_i g;exact⟨_,rfl,by rw[h.mf _ _ g];trivial⟩
theorem Cx.WR.ov{X:Cx}{d wc}(h:X.WR d wc)p a v b:∃x,d.farStore p a v b=.error x/\bad x:=by
 unfold World.farStore;split;rename_i at_ u f;obtain h|h:=h.kind f;cases h;have e:∃m,Ed p d a v b=.error m:=by
  unfold Ed World.viewStore;simp[Pn,bind,Except.bind];split;exact⟨_,rfl⟩;exact⟨_,rfl⟩
 let⟨m,e⟩:=e;unfold Ed at e;simp only[e];exact⟨_,rfl,trivial⟩;exact h.elim;rename_i g;exact⟨_,rfl,by rw[h.mf _ _ g];trivial⟩
theorem Cx.WR.tq{X:Cx}{d wc}(h:X.WR d wc){a v}(p:d.cell? a=J v)(y:d.frozen? a=xw):
  X.gd a.block/\∃c e,a.spot=U/\d.heap[a.block]?=J (.cells c e (0,0))/\wc.heap[X.ρ a.block]?=J (.cells (c.map<|Zu X.ρ) e (0,0)):=by
 let⟨o,c,e,u,g,x⟩:=Kr p;obtain f|⟨_,q,r,t,l,f,w,_⟩|⟨n,_,j,k⟩:=h.blk _ _ g;cases f;grind [World.frozen?];have:=k _ _ _ rfl;subst this;exact⟨n,c,e,o,g,j⟩
theorem Cx.OR.tn{X:Cx}{b a}:X.OR b hid a:=.inl rfl
theorem Cx.WR.tz{X:Cx}{k wc a d}(h:X.WR k wc){r B o}(A:k.heap[r]?=J B)(P:B≠hid)(N:X.gd r)(O:X.kf o)(M:∀c e z,o=.cells c e z->z=(0,0))
  (F:xz (xj a)=xz (xj k)) (G:d.os=a.os) (H:a.heap[r]?=J o) (w:∀b,b≠r->a.heap[b]?=k.heap[b]?) (K:d.heap[X.ρ r]?=J (XW X.ρ o)) (L:∀c,c≠X.ρ r->d.heap[c]?=wc.heap[c]?):X.WR a d:=by
 have p:=(Zhe.1 A).1;have conv:∀x,a.heap[x]? ≠J hid->k.heap[x]? ≠J hid:=λx q l=>by
  by_cases j:x=r;subst j;rw[A]at l;simp_all;rw[w x j]at q;exact q l
 refine⟨G,by rw[F];exact h.nl,h.H,λx y t u q Q e=>h.inj x y (conv x t) (conv y u) Z0 Z0 e,λb C g=> ?_⟩;by_cases f:b=r;subst f;rw[H]at g;cases g;exact .inr<|.inr ⟨N,O,K,M⟩;rw[w b f]at g;by_cases l:C=hid;subst l;exact .tn;have n:=(Zhe.1 g).1;rw[L _ λD=>f<|h.inj b r Zgc Zgc n p D];exact h.blk b C g
theorem Cx.WR.setCell{X:Cx}{d wc}(h:X.WR d wc){a v0 v}(q:d.cell? a=J v0)(l:d.frozen? a=xw):X.WR (d.setCell a v)<|wc.setCell (ZW X.ρ a)<|Zu X.ρ v:=by
 let⟨n,c,e,p,g,f⟩:=h.tq q l;refine h.tz (r:=a.block) (o:=.cells (c.setIfInBounds a.off v) e (0,0)) g (by simp[hid]) n trivial Z1 Z1 h.os ?_ (λb g=> ?_) ?_ λc k=> ?_;simp_all[World.setCell,Q0,ZhA,Zk7,Zhu];simp_all[World.setCell,Q0,ZiX];simp only[World.setCell,Q0,ZW,f,p,XW];simp;simp only[World.setCell,Q0];rw[Zhg (show ¬(ZW X.ρ a).block=c fromλj=>k j.symm)]
theorem Cx.WR.push{X:Cx}{a wc}(h:X.WR a wc){o}(z:X.kf o)(w:∀c e t,o=.cells c e t->t=(0,0))(A:X.ρ (xz<|xj a)=xz (xj wc)):
  X.WR {a with heap:=a.heap.push o} {wc with heap:=wc.heap.push (XW X.ρ o)}:=by
 have D:=h.nl;have lt:∀b,b<xz (xj a)->a.heap[b]? ≠J hid->X.ρ b<xz (xj wc):=λb d l=>h.lt (Zi1 d) λe=>l Zgd;have k:∀b,b<xz (xj a)->(a.heap.push o)[b]?=a.heap[b]? :=λb d=>Zgc;refine⟨h.os,Zge,h.H,λx y n q B C e=> ?_,λb u d=> ?_⟩;simp at B C;by_cases g:x<xz (xj a);have p:a.heap[x]? ≠J hid:=by rw[<-k x g];exact n
 by_cases j:y<xz (xj a);have r:a.heap[y]? ≠J hid:=by rw[<-k y j];exact q
 exact h.inj x y p r g j e;grind;grind;simp[Zjx]at d⊢;by_cases f:b=xz (xj a);subst f;rw[Zhi rfl]at d;cases d;rw[Zhi A];exact .inr<|.inr ⟨.inl D,z,rfl,w⟩;rw[Zhg f]at d;by_cases l:u=hid;subst l;exact .tn;have:=h.lt d l;rw[Zhg Z0];exact h.blk b u d
theorem Cx.WR.set{X:Cx}{a wc}(h:X.WR a wc){r o k}(f:X.gd r)(d:a.heap[r]?=J k)(j:k≠hid)(p:X.kf o)(l:∀c e g,o=.cells c e g->g=(0,0)):
  X.WR {a with heap:=a.heap.setIfInBounds r o} {wc with heap:=wc.heap.setIfInBounds (X.ρ r) (XW X.ρ o)}:=by
 have n:=(Zhe.1 d).1;refine h.tz (r:=r) (o:=o) d j f p l Z1 h.os ?_ (λb q=> ?_) ?_ λc t=> ?_;simp_all;grind;simp[h.lt d j];grind
theorem Cx.WR.obj{X:Cx}{a wc}(h:X.WR a wc){r o}(j:a.heap[r]?=J o)(hc:∀c e f,o≠.cells c e f)(p:o≠hid):X.gd r/\wc.heap[X.ρ r]?=J (XW X.ρ o):=by
 obtain d|⟨_,k,l,n,g,d,_⟩|q:=h.blk _ _ j;simp_all;simp_all;simp_all
theorem je{ρ o}(hc:∀c e a,o≠.cells c e a):∀c e a,XW ρ o≠.cells c e a:=by
 intro c e a h;cases o<;>simp[XW]at h;simp_all
theorem Cx.Aft.ev{X:Cx}{a wc es e}(h:X.WR a wc)(d:X.il a e):X.Aft a wc a wc es<|es.push e:=
 ⟨h,Z0,Z0,Z0,Z0,rfl,rfl,rfl,Z0,Z1,Zgc,.refl _⟩
theorem Z9z{α p w m a x v0}{k:Sem α}{es}(f:∀c,x≠.agg c)(h2:∀c,x≠.tuple c)(hc:w.cell? a=J v0)(d:w.frozen? a=xw):
  (Sem.store m a x k).runT p w es=k.runT p (w.setCell a x) (es.push ⟨.cell a,xk,m==.atomic⟩):=by
 cases x<;>first|(simp only[Sem.runT,hc,d];rfl)|exact absurd rfl _|simp_all
theorem Pd{α p w m a x}{k:Sem α}(d:∀c,x≠.agg c)(h2:∀c,x≠.tuple c):(Sem.store m a x k).run p w=match w.cell? a with
  |some _=>if w.frozen? a then .halt (.unsupported (.unsafePointer "a write to bytes that a string shares")) w else k.run p<|w.setCell a x
  |none=>match w.farStore p a x (m==.atomic)with
   |.ok (w,_)=>k.run p w
   |.error h=>.halt h w:=by
 cases x<;>first|rfl|exact absurd rfl _|simp_all
theorem Sm{α p w r o}{k:Obj->Sem α}(h:w.heap[r]?=J o)(hc:∀c e a,o≠.cells c e a):(Sem.getObj r k).run p w=(k o).run p w:=by
 cases o<;>first|(simp[Sem.run,h];done)|exact absurd rfl<|hc _ _ _
theorem P6{α p w r o}{k:Obj->Sem α}{es}(h:w.heap[r]?=J o)(hc:∀c e a,o≠.cells c e a):(Sem.getObj r k).runT p w es=(k o).runT p w (es.push ⟨.obj r,xw,o.isChan⟩):=by
 cases o<;>first|(simp only[Sem.runT,h];done)|exact absurd rfl<|hc _ _ _
theorem Pc{α p w r o a}{k:Sem α}(h:w.heap[r]?=J o)(hc:∀c e d,o≠.cells c e d):(Sem.setObj r a k).run p w=k.run p {w with heap:=w.heap.setIfInBounds r a}:=by
 cases o<;>first|(simp[Sem.run,h];done)|exact absurd rfl<|hc _ _ _
theorem Z9y{α p w r o a}{k:Sem α}{es}(h:w.heap[r]?=J o)(hc:∀c e d,o≠.cells c e d):(Sem.setObj r a k).runT p w es=k.runT p {w with heap:=w.heap.setIfInBounds r a} (es.push ⟨.obj r,xk,a.isChan⟩):=by
 cases o<;>first|(simp[Sem.runT,h];done)|exact absurd rfl<|hc _ _ _
theorem Kt(o:Option Obj):o=U\/(∃c e a,o=J (.cells c e a))\/∃d,o=J d/\∀c e a,d≠.cells c e a:=by
 obtain _|o:=o;simp;grind
theorem Z9j{ρ v}(d:∀c,v≠.agg c)(h2:∀c,v≠.tuple c):(∀c,Zu ρ v≠.agg c)/\∀c,Zu ρ v≠.tuple c:=by
 cases v with
 |agg c=>simp_all
 |tuple c=>simp_all
 |pointer a=>cases a<;>simp[Zu]
 |slice a n c=>cases a<;>simp[Zu]
 |map r=>cases r<;>simp[Zu]
 |chan r=>cases r<;>simp[Zu]
 |_=>simp[Zu]
theorem Cx.Img.run{α β}{X:Cx}{RA V}{s:Sem α}{s':Sem β}(h:X.Img RA V s s'):X.ky RA V s s':=by
 induction h with
 |pure l=>intro f g y d _ _ _;exact⟨_,_,_,rfl,l,.refl _ d⟩
 | @load V m a k C H w=>
   intro f g y d u n l;simp only[Sem.run,Sem.runT]at n l⊢;cases z:f.cell? a with
   |none=>
    let⟨x,e,M⟩:=d.rj X.Q a<|m==.atomic;simp_all[Cx.bq.cm]
   |some v=>
    let⟨h1,h2,h3⟩:=d.cell z;simp only[h1]at n l⊢;refine Cx.bq.step (.ev d ?_)<|w v f g _ d u n l;exact⟨a.block,h3,rfl,Zgd⟩
 | @store V m a v k C H w=>
   intro f g y d u n l;have key:(∀c,v≠.agg c)->(∀c,v≠.tuple c)->X.bq RA f g y ((Sem.store m a v k).run X.Q f) ((Sem.store m (ZW X.ρ a) (Zu X.ρ v) C).runT X.P g y):=λZ a0=>by
    let⟨a1,a2⟩:=Z9j (ρ:=X.ρ) Z a0;rw[Pd Z a0];rw[Pd a1 a2]at n l;cases z:f.cell? a with
    |none=>
     let⟨x,e,M⟩:=d.ov X.Q a v<|m==.atomic;simp_all[Cx.bq.cm]
    |some v0=>
     cases hf:f.frozen? a with
     |true=>exact Cx.bq.cm trivial
     |false=>
      let⟨h1,h2,h3⟩:=d.cell z;let⟨O,c,e,hs,hb,a3⟩:=d.tq z hf;have T:g.frozen? (ZW X.ρ a)=xw:=by
       simp[World.frozen?,ZW,a3]
      rw[Z9z a1 a2 h1 T];simp only[h1,T,Zhu,Zif]at n l⊢;have p:=d.setCell (v:=v) z hf;refine Cx.bq.step ⟨p,by grind [Rn],by rw[Rn];omega,?_,Zhc _,rfl,rfl,rfl,λb R S=> ?_,λc' F K=> ?_,λx M=> ?_,.setCell _ _ _⟩<|w _ _ _ p (u.step<|.setCell _ _ _) n ?_;show f.drawn+g.drawn=g.drawn+f.drawn;omega;grind [Rn];simp only[World.setCell,Q0];rw[Zhg (λe0=>K a.block O h3 e0.symm)];obtain h|rfl:=Zlh.1 M;grind;exact .inr ⟨a.block,by grind [Rn],rfl,Zgd⟩;simp_all[Rn]
   cases v<;>first|exact Cx.bq.cm trivial|exact key Z1 Z1
 | @new V o k C t hf H w=>
   intro f g y d u n l;simp only[Sem.run,Sem.runT]at n l⊢;have G:=(JK X.P (C<|xz<|xj g) {g with heap:=g.heap.push (XW X.ρ o)}).1;simp only[Zl5]at G;have N:=l 0 Z0;simp only[ZiS]at N;have p:=d.push t hf N;rw[<-N]at n l⊢;refine Cx.bq.step ⟨p,Zge,Z1,?_,Zhc _,rfl,rfl,rfl,λb R S=> ?_,λc' F K=> ?_,λx M=>.inl M,.push _ _⟩ (w (xz<|xj f) _ _ _ p ((u.step<|.push f o).cons Z1 t.ox) n λj hj=> ?_);grind;grind;grind;simp only[Zl5]at hj⊢;have:=l (j+1) Z0;grind
 | @get V r k C W H w=>
   intro f g y d u n l;obtain t|⟨c,e,fr,t⟩|⟨o,t,z⟩:=Kt f.heap[r]?;simp only[Sem.run,t];exact Cx.bq.cm trivial;simp only[Sem.run,t];exact Cx.bq.cm trivial;obtain B|Y:=d.kind t;subst B;rw[Sm t z];let⟨h,w',e,B⟩:=W f;simp_all[Cx.bq.cm];have B:o≠hid:=λh=>by subst h;exact Y.elim
   let⟨O,D⟩:=d.obj t z B;have A:=je (ρ:=X.ρ) z;rw[Sm D A]at n l;rw[Sm t z,P6 D A];refine Cx.bq.step (.ev d ?_)<|w o Y f g _ d (u.cons t B) n l;exact⟨r,O,Zgc,rfl⟩
 | @set V r o k C a4 L F H w=>
   intro f g y d u n l;obtain t|⟨c,e,fr,t⟩|⟨o0,t,z⟩:=Kt f.heap[r]?;simp only[Sem.run,t];exact Cx.bq.cm trivial;simp only[Sem.run,t];exact Cx.bq.cm trivial;have B:o0≠hid:=by
    let⟨o1,D,e2⟩:=u r a4;rw[t]at D;cases D;exact e2
   let⟨O,D⟩:=d.obj t z B;have a5:=(Zhe.1 t).1;have A:=je (ρ:=X.ρ) z;rw[Pc D A]at n l;rw[Pc t z,Z9y D A];have p:=d.set O t B L Zgd;refine Cx.bq.step ⟨p,Zge,Z1,?_,Zhc _,rfl,rfl,rfl,λb R S=> ?_,λc' F K=> ?_,λx M=> ?_,.set _ _ L.ox⟩<|w _ _ _ p (u.step<|.set _ r L.ox) n ?_;grind;grind;grind;obtain h|rfl:=Zlh.1 M;grind;exact .inr ⟨r,O,Zgd,rfl⟩;simp_all
 | @choose V q k C H w=>
   intro f g y d u n l;simp only[Sem.run,Sem.runT]at n l⊢;cases hq:q.forced with
   |true=>
    simp only[hq,Zi9]at n l⊢;exact w 0 f g y d u n l
   |false=>
    simp only[hq,Zhu,Zif]at n l⊢;have G:=(JK X.P (C<|q.cut<|g.tape g.drawn q) {g with drawn:=g.drawn+1}).2;simp only at G;have N:=n 0 Z0;simp only[ZiS]at N;rw[N];have p:X.WR {f with drawn:=f.drawn+1} {g with drawn:=g.drawn+1}:=⟨d.os,d.nl,d.H,d.inj,d.blk⟩;refine Cx.bq.step ⟨p,Zkl _ _,Zhc _,?_,Nat.le_succ _,rfl,rfl,rfl,Zgc,Z1,Zgd,.refl f⟩<|w _ _ _ _ p u (λj hj=> ?_) l;grind;simp only at hj⊢;have:=n (j+1) Z0;grind
 |prog H w=>intro f g y d u n l;exact w f g y d u n l
 | @room V k C H w=>
   intro f g y d u n l;refine Cx.bq.step (.ev d ?_)<|w f g _ d u n l;rfl
 |panic v=>intro f g y d _ _ _;exact⟨_,_,rfl,.refl _ d⟩
 | @ly V s s' hb=>
   intro f g y d _ _ _;let⟨h,w',e,B⟩:=hb f;simp_all[Cx.bq.cm]
 |ta h=>exact h
end
end
section
section
variable {X:Cx}{V:Zb}
theorem Cx.ky.bind{α β γ δ RA r V s l}{f:α->Sem γ}{o:β->Sem δ}(h:X.ky RA V s l)
  (F:∀a b,RA a b->X.ky r V (f a) (o b)):X.ky r V (s.bind f)<|l.bind o:=by
 intro B k t H u A z;have y:xz (xj<|Ye<|l.run X.P k)<=xz (xj<|Ye<|(l.bind o).run X.P k)/\(Ye<|l.run X.P k).drawn<=(Ye<|(l.bind o).run X.P k).drawn:=by
  rw[Zkr];cases l.run X.P k with
  |ok b w=>exact JK X.P _ w
  |halt x w=>exact⟨Zhc _,Zhc _⟩
 have p:=h B k t H u Zgc Zgc;rw[Zkr,Zjn];cases e:s.run X.Q B with
 |halt x w=>
  rw[e]at p;cases x<;>try exact p
  let⟨d,n,q,g⟩:=p;rw[q];exact⟨d,n,rfl,g⟩
 |ok a w=>
  rw[e]at p;let⟨b,d,n,q,M,g⟩:=p;rw[q];have C:l.run X.P k=.ok b d:=by rw[<-Zji X.P l k t,q]
  have D:(l.bind o).run X.P k=(o b).run X.P d:=by rw[Zkr,C];rfl
  rw[D]at A z;refine Cx.bq.step g<|F a b M w d n g.wr (u.step g.ox) (λj G=> ?_) (λj G=> ?_);have K:=g.dr;have L:=g.pz;have:=A (d.drawn-k.drawn+j) Z0;rw[g.tl,g.tc];grind;have K:=g.sz;have L:=g.rx;have:=z (xz (xj d)-xz (xj k)+j) Z0;grind
theorem Cx.Img.bind{α β γ δ RA A V s z}{f:α->Sem γ}{B:β->Sem δ}(h:X.Img RA V s z):
  (∀k a b,(∀r∈V,r∈k)->RA a b->X.Img A k (f a) (B b))->X.Img A V (s>>=f) (z>>=B):=by
 induction h with
 |pure u=>intro d;exact d _ _ _ Z1 u
 |load j g=>intro d;exact .load λv=>g v d
 |store j g=>intro d;exact .store<|g d
 |new l t j g=>intro d;exact .new l t λr=>g r λk a b p=>d k a b λx y=>p x<|ZhK _ y
 |get C j g=>
  intro d;refine .get (λw=> ?_) λo l=>g o l λk a b p=>d k a b λx y=>p x<|ZhK _ y;let⟨h,F,e,q⟩:=C w;simp_all[Zkr]
 |set u l t j g=>intro d;exact .set u l t<|g d
 |choose j g=>intro d;exact .choose λn=>g n d
 |prog j g=>intro d;exact .prog<|g d
 |room j g=>intro d;exact .room<|g d
 |panic v=>intro d;exact .panic v
 |ly z q=>
  intro d;refine .ly _ λw=> ?_;let⟨h,F,e,q⟩:=q w;simp_all[Zkr]
 |ta h=>intro d;exact .ta (h.bind λa b D=>(d _ a b (λ_ h=>h) D).run)
theorem ZE{α β}{RA:α->β->Prop}a d:X.Img RA V (stuck a) d:=.ly _ λw=>⟨_,w,rfl,trivial⟩
theorem Xr{α β}{RA:α->β->Prop}{u}(d:∀g,u≠.initOrder g)a:X.Img RA V (unsupported u) a:=
 .ly _ λw=>⟨_,w,rfl,by cases u<;>first|trivial|simp_all⟩
def WO:X.Img (λp q=>p=X.Q/\q=X.P) V program program:=.prog<|.pure ⟨rfl,rfl⟩
def VR t:X.Img Eq V (typeInfo t)<|typeInfo t:=by
 refine .bind WO ?_;rintro a _ _- ⟨rfl,rfl⟩;rw[X.dx t];split;exact .pure rfl;exact ZE _ _
def Vf t:X.Img Eq V (underlying t)<|underlying t:=by
 refine .bind WO ?_;rintro a _ _- ⟨rfl,rfl⟩;rw[X.dc t];split;exact .pure rfl;exact ZE _ _
def VQ t:X.Img Eq V (sizeOf t)<|sizeOf t:=by
 refine .bind (VR t) ?_;rintro a i _-rfl;exact .pure rfl
def HD t:X.Img Eq V (isAgg t)<|isAgg t:=by
 refine .bind (Vf t) ?_;rintro a i _-rfl;split<;>exact .pure rfl
def Cx.Rv(X:Cx)(a b:Zg):Prop:=b=Zu X.ρ a
def WF ρ cs:Zu ρ (.agg cs)=.agg (cs.map<|Zu ρ):=Zh4
theorem Ul ρ cs:Zu ρ (.tuple cs)=.tuple (cs.map<|Zu ρ):=Zh4
@[simp]theorem Wp ρ k n:Zu ρ (.int k n)=.int k n:=by simp[Zu]
@[simp]theorem Uk ρ b:Zu ρ (.bool b)=.bool b:=by simp[Zu]
@[simp]theorem Si ρ b:Zu ρ (.string b)=.string b:=by simp[Zu]
@[simp]theorem WM ρ a:Zu ρ (.pointer<|J a)=.pointer (J<|ZW ρ a):=by simp[Zu]
@[simp]theorem UG ρ:Zu ρ (.pointer U)=.pointer U:=by simp[Zu]
@[simp]theorem Sg ρ t v:Zu ρ (.iface t v)=.iface t (Zu ρ v):=by simp[Zu]
@[simp]theorem Sh ρ:Zu ρ .nilIface=.nilIface:=by simp[Zu]
@[simp]theorem jg ρ:Zu ρ .nilFunc=.nilFunc:=by simp[Zu]
def Sj ρ:Zu ρ xy=xy:=by simp[xy,Ul]
theorem TM ρ v:(Zu ρ v).cells=v.cells.map (Zu ρ):=by
 cases v with
 |agg c=>rw[WF];rfl
 |pointer a=>cases a<;>simp[Value.cells]
 |slice a n c=>cases a<;>simp[Zu,Value.cells]
 |map r=>cases r<;>simp[Zu,Value.cells]
 |chan r=>cases r<;>simp[Zu,Value.cells]
 |_=>simp[Zu,Value.cells]
def Qs ρ a n:(ZW ρ a).add n=ZW ρ (a.add n):=by
 grind [Addr.add,ZW]
def I0 a:X.Img X.Rv V (load a)<|load<|ZW X.ρ a:=.load λv=>.pure rfl
def Z57 a n:∀V i d,X.Img (λx y=>y=x.map (Zu X.ρ)) V (loadCellsFrom a i n d)<|loadCellsFrom (ZW X.ρ a) i n<|d.map<|Zu X.ρ:=by
 induction n with
 |zero=>intro V i d;exact .pure rfl
 |succ n g=>
  intro V i d;unfold loadCellsFrom;rw[Qs];refine .bind (I0 _) ?_;rintro f v _-rfl;have:=g f (i+1)<|d.push v;simp_all
def I1 a n:X.Img (λx y=>y=x.map (Zu X.ρ)) V (loadCells a n)<|loadCells (ZW X.ρ a) n:=by
 have:=Z57 (X:=X) a n V 0 #[];rw[show(#[]:Array Value).map _=#[]by simp]at this;exact this
def KY t a:X.Img X.Rv V (loadVar t a)<|loadVar t<|ZW X.ρ a:=by
 refine .bind (HD t) ?_;rintro d b _-rfl;split;refine .bind (VQ t) ?_;rintro d n _-rfl;refine .bind (I1 a n) ?_;rintro d f _-rfl;exact .pure (WF _ _).symm;exact I0 a
def L0 a vs:∀V i,X.Img Eq V (storeCells a vs i)<|storeCells (ZW X.ρ a) (vs.map<|Zu X.ρ) i:=by
 induction vs with
 |nil=>intro V i;exact .pure rfl
 |cons v vs d=>
  intro V i;unfold storeCells;simp;rw[Qs];refine .bind (RA:=Eq) (.store<|.pure rfl) ?_;simp_all
def Z5t t a v:X.Img Eq V (storeVar t a v)<|storeVar t (ZW X.ρ a)<|Zu X.ρ v:=by
 refine .bind (VQ t) ?_;rintro d n _-rfl;rw[TM];split;exact ZE _ _;simp_all[L0]
def still:Nat->Value->Bool
 |0,_=>xw
 |n+1,v=>match v with
  |.bool _|.int .. |.float .. |.complex .. |.string _|.pointer U|.slice U _ _|.map U|.chan U|.nilFunc|.nilIface=>xk
  |.func (.func _) a b=>a.isEmpty&&b.isEmpty
  |.iface _ v=>still n v
  |.agg d=>d.all<|still n
  |.tuple d=>d.all<|still n
  |_=>xw
def Qd{α:Type}{f}{cs:Array α}(h:∀x∈cs,f x=x):cs.map f=cs:=by
 grind
theorem LR ρ:∀n v,still n v=xk->Zu ρ v=v
 |0,_,h=>Zgt
 |n+1,v,h=>by
  cases v with
  |pointer a=>cases a<;>first|(simp[still]at h;done)|simp
  |slice a _ _=>cases a<;>first|(simp[still]at h;done)|simp[Zu]
  |map a=>cases a<;>first|(simp[still]at h;done)|simp[Zu]
  |chan a=>cases a<;>first|(simp[still]at h;done)|simp[Zu]
  |func fn a b=>
   cases fn<;>first|(simp[still]at h;done)|skip
   simp[still,Zhb,Array.isEmpty_iff]at h;obtain⟨rfl,rfl⟩:=h;simp[Zu,Vj]
  |iface t v=>simp;rw[LR ρ n v (by simpa[still]using h)]
  |agg f=>
   rw[WF,Qd λx d=>LR ρ n x ?_];simp only[still,Zjh]at h;exact h x d
  |tuple f=>
   rw[Ul,Qd λx d=>LR ρ n x ?_];simp only[still,Zjh]at h;exact h x d
  |_=>simp[Zu]
def Cx.Zero(X:Cx):Prop:=∀t i z,X.Q.info? t=J i->i.zero=J z->Zu X.ρ z=z
def Ty(j:X.Zero)t:X.Img (λa b=>a=b/\Zu X.ρ a=a) V (zeroValue t)<|zeroValue t:=by
 have g:X.Img (λa b=>a=b/\X.Q.info? t=J a) V (typeInfo t)<|typeInfo t:=by
  refine .bind WO ?_;rintro f _ _- ⟨rfl,rfl⟩;rw[X.dx t];split;exact .pure ⟨rfl,by assumption⟩;exact ZE _ _
 refine .bind g ?_;rintro f i _- ⟨rfl,h⟩;cases d:i.zero with
 |none=>simp_all[Xr]
 |some z=>exact .pure ⟨rfl,j t i z h d⟩
theorem Q3{α β}{RA:α->β->Prop}{v v'}(h:Zu X.ρ v=v'):X.Img RA V (goPanic v)<|goPanic v':=by subst h;exact .panic v
def TX{α β}{RA:α->β->Prop}:X.Img RA V (runtimePanic .nilDeref)<|runtimePanic .nilDeref:=by
 refine .bind WO ?_;rintro a _ _- ⟨rfl,rfl⟩;exact Q3 (by simp[strVal];rfl)
theorem Hr{α β}{RA:α->β->Prop}x y s c:X.Img RA V (runtimePanic<|.bounds x y s c)<|runtimePanic<|.bounds x y s c:=by
 refine .bind WO ?_;rintro a _ _- ⟨rfl,rfl⟩;exact Q3 (by simp[WF];rfl)
def TZ{α β}{RA:α->β->Prop}m:X.Img RA V (runtimePanic<|.error m)<|runtimePanic<|.error m:=by
 refine .bind WO ?_;rintro a _ _- ⟨rfl,rfl⟩;exact Q3 (by simp[strVal];rfl)
theorem Bi{α β}{RA:α->β->Prop}m:X.Img RA V (runtimePanic<|.plain m)<|runtimePanic<|.plain m:=by
 refine .bind WO ?_;rintro a _ _- ⟨rfl,rfl⟩;exact Q3 (by simp[strVal];rfl)
def Uy q:X.Img Eq V (choose q)<|choose q:=.choose λn=>.pure rfl
theorem KU{α β}{RA:α->β->Prop}k x y c:X.Img RA V (boundsPanic k x y c)<|boundsPanic k x y c:=by
 unfold boundsPanic;cases(k !=.u64&&decide (0<=x)&&decide (x<=31));grind [Hr];refine .bind (RA:=Eq) (.bind (Uy _) ?_) ?_;rintro a n _-rfl;exact .pure rfl;rintro a b _-rfl;grind [Hr]
def yF v:X.Img Eq V (asIntOf v)<|asIntOf<|Zu X.ρ v:=by
 cases v with
 |int k n=>rw[Wp];exact .pure rfl
 |pointer a=>cases a<;>first|exact Xr Z1 _|exact ZE _ _
 |_=>exact ZE _ _
def KT v:X.Img Eq V (asInt v)<|asInt<|Zu X.ρ v:=by
 refine .bind (yF v) ?_;rintro a n _-rfl;exact .pure rfl
def B6 v:X.Img Eq V (asBool v)<|asBool<|Zu X.ρ v:=by
 cases v with
 |bool b=>rw[Uk];exact .pure rfl
 |_=>exact ZE _ _
def Z4t v:X.Img (λa b=>b=a.map (Zu X.ρ)) V (asAgg v)<|asAgg<|Zu X.ρ v:=by
 cases v with
 |agg c=>rw[WF];exact .pure rfl
 |_=>exact ZE _ _
def B5 v:X.Img (λa b=>b=ZW X.ρ a) V (asAddr v)<|asAddr<|Zu X.ρ v:=by
 cases v with
 |pointer a=>
  obtain _|a:=a;rw[UG];exact TX;rw[WM];exact .pure rfl
 |_=>exact ZE _ _
def yL v:X.Img (λa b=>b=ZW X.ρ a) V (Instr.sureAddr v)<|Instr.sureAddr<|Zu X.ρ v:=by
 cases v with
 |pointer a=>
  obtain _|a:=a;exact ZE _ _;rw[WM];exact .pure rfl
 |_=>exact ZE _ _
def I5 e cs:X.Img (λa b=>b=ZW X.ρ a) V (newRow e cs)<|newRow e<|cs.map<|Zu X.ρ:=
 .new (o:=.cells cs e) trivial Z1 λr=>.pure rfl
def Bg t v:X.Img (λa b=>b=ZW X.ρ a) V (newVar t v)<|newVar t<|Zu X.ρ v:=by
 simp_all[newVar,TM,I5]
def yK t cs off:X.Img X.Rv V (part t cs off)<|part t (cs.map<|Zu X.ρ) off:=by
 refine .bind (HD t) ?_;rintro a b _-rfl;split;refine .bind (VQ t) ?_;rintro a n _-rfl;refine .pure ?_;show _=Zu _ _;simp_all[WF];rw[ZhJ];cases cs[off]? with
 |none=>exact ZE _ _
 |some v=>exact .pure rfl
end
end
section
section
variable {X:Cx}{V:Zb}
def Z4q(j:X.Zero)t:X.Img X.Rv V (Instr.alloc t xk<|.tuple #[])<|Instr.alloc t xk<|.tuple #[]:=by
 refine .bind (Ty j t) ?_;rintro f z _- ⟨rfl,d⟩;have h:=Bg (X:=X) (V:=f) t z;rw[d]at h;refine .bind h ?_;rintro g a _-rfl;exact .pure (WM _ _).symm
def Z4E t v:X.Img X.Rv V (Instr.box t v)<|Instr.box t<|Zu X.ρ v:=by
 refine .bind (Bg t v) ?_;rintro d a _-rfl;exact .pure (WM _ _).symm
def Z56 t v:X.Img X.Rv V (Instr.loadAt t v)<|Instr.loadAt t<|Zu X.ρ v:=by
 refine .bind (yL v) ?_;rintro d a _-rfl;exact KY t a
theorem Z5s t v x:X.Img Eq V (Instr.storeAt t v x)<|Instr.storeAt t (Zu X.ρ v)<|Zu X.ρ x:=by
 refine .bind (yL v) ?_;rintro d a _-rfl;exact Z5t t a x
def Z4X v i:X.Img X.Rv V (Instr.extract v i)<|Instr.extract (Zu X.ρ v) i:=by
 cases v with
 |tuple vs=>
  rw[Ul];unfold Instr.extract;simp;cases vs[i]? with
  |none=>exact ZE _ _
  |some v=>exact .pure rfl
 |_=>exact ZE _ _
def Z59 t v:X.Img X.Rv V (Instr.makeInterface t v)<|Instr.makeInterface t<|Zu X.ρ v:=by
 refine .bind (Vf t) ?_;rintro a d _-rfl;split;exact ZE _ _;exact .pure (Sg _ _ _).symm
def Z5a t r:X.Img X.Rv V (Instr.makeMap t r)<|Instr.makeMap t<|r.map<|Zu X.ρ:=by
 have key:∀V,X.Img X.Rv V (do pure (.map<|J<|<-newObj _):Sem Value) (do pure (.map<|J<|<-newObj _):Sem Value):=λV=>by
  have h:X.Img (λa b=>b=X.ρ a) V _ _:=.new (o:=.map #[] 0) trivial Z1 λr=>.pure rfl;rw[show XW X.ρ _=.map #[] 0 by simp[XW]]at h;refine .bind h ?_;rintro f r _-rfl;exact .pure Zgu
 obtain _|x:=r;exact key V;refine .bind (Vf t) ?_;rintro f d _-rfl;cases d<;>first|exact ZE _ _|skip
 refine .bind (KT x) ?_;simp_all
theorem Z4Y t x f:X.Img X.Rv V (Instr.field t x f)<|Instr.field t (Zu X.ρ x) f:=by
 refine .bind (Vf t) ?_;rintro h d _-rfl;cases d<;>first|exact ZE _ _|skip
 rename_i a;dsimp only;cases a[f]? with
 |none=>exact ZE _ _
 |some g=>
  refine .bind (Z4t x) ?_;rintro h j _-rfl;exact yK _ _ _
theorem Z53 t x i:X.Img X.Rv V (Instr.index t x i)<|Instr.index t (Zu X.ρ x)<|Zu X.ρ i:=by
 refine .bind (yF i) ?_;rintro a ⟨k,n⟩ _-rfl;refine .bind (Vf t) ?_;rintro a d _-rfl;cases d<;>first|exact ZE _ _|skip
 cases x<;>first|exact ZE _ _|skip
 rw[Si];dsimp only;split;exact .pure ZgR;simp_all[KU];cases x<;>first|exact ZE _ _|skip
 rw[WF];dsimp only;split;refine .bind (VQ _) ?_;rintro a m _-rfl;exact yK _ _ _;simp_all[KU]
def Z5q x y c:X.Img Eq V (Instr.sliceBound x y c)<|Instr.sliceBound (Zu X.ρ x) y c:=by
 refine .bind (yF x) ?_;rintro a ⟨k,n⟩ _-rfl;dsimp only;split;exact .pure rfl;simp_all[KU]
def Z5r b n c l h m:X.Img Eq V (Instr.sliceBounds b n c l h m)<|Instr.sliceBounds b n c (l.map<|Zu X.ρ) (h.map<|Zu X.ρ)<|m.map<|Zu X.ρ:=by
 unfold Instr.sliceBounds;cases m<;>cases h<;>cases l
 all_goals
  simp;repeat' first
   |exact .pure rfl
   |exact ZE _ _
   |(refine .bind (Z5q _ _ _) ?_;rintro _ _ _-rfl)
   |(refine .bind (RA:=Eq) _ ?_;rintro _ _ _-rfl)
theorem Z5p t x l h m(f:∃e,X.Q.underlying t=J (.slice e)):X.Img X.Rv V (Instr.sliceAt t x l h m)<|Instr.sliceAt t (Zu X.ρ x) (l.map<|Zu X.ρ) (h.map<|Zu X.ρ)<|m.map<|Zu X.ρ:=by
 let⟨e,f⟩:=f;have g:∀V,X.Img (λa b=>a=b/\a=.slice e) V (underlying t)<|underlying t:=λV=>by
  refine .bind WO ?_;rintro o _ _- ⟨rfl,rfl⟩;rw[X.dc t];rw[f];exact .pure ⟨rfl,rfl⟩
 refine .bind (g V) ?_;rintro j d _- ⟨rfl,rfl⟩;refine .bind (g j) ?_;rintro p d _- ⟨rfl,rfl⟩;cases x<;>first|exact ZE _ _|skip
 rename_i a n c
 have key:∀V (b:Option Addr),X.Img X.Rv V (do
   let(l,h,m)<-Instr.sliceBounds xk n c l h m
   let size<-sizeOf e
   pure (.slice (if m=l then a else a.map (·.add (l*size))) (h-l)<|m-l):Sem Value) (do
   let(l,h,m)<-Instr.sliceBounds xk n c _ _ _
   let size<-sizeOf e
   pure (.slice (if m=l then a.map (ZW X.ρ)else(a.map<|ZW X.ρ).map (·.add (l*size))) (h-l)<|m-l):Sem Value):=λV b=>by
  refine .bind (Z5r _ _ _ _ _ _) ?_;rintro q ⟨y,w,z⟩ _-rfl;refine .bind (VQ e) ?_;rintro r k _-rfl;refine .pure ?_;show _=Zu _ _;split<;>cases a<;>simp[Zu,Qs]
 have u:Zu X.ρ (.slice a n c)=.slice (a.map<|ZW X.ρ) n c:=by cases a<;>simp[Zu]
 simp_all
def yJ e cs n c:X.Img X.Rv V (do pure (.slice (J<|<-newRow e cs) n c):Sem Value) (do pure (.slice (J<|<-newRow e (cs.map<|Zu X.ρ)) n c):Sem Value):=by
 refine .bind (I5 e cs) ?_;rintro d a _-rfl;exact .pure Zgu
def Wg t:X.Img (λa b=>a=b/\X.Q.underlying t=J a) V (underlying t)<|underlying t:=by
 refine .bind WO ?_;rintro d _ _- ⟨rfl,rfl⟩;rw[X.dc t];split;exact .pure ⟨rfl,by assumption⟩;exact ZE _ _
theorem Z54 t x i:X.Img X.Rv V (Instr.indexAt t x i)<|Instr.indexAt t (Zu X.ρ x)<|Zu X.ρ i:=by
 have fin:∀V k (n:Int) (base:Option Addr) len elem,X.Img X.Rv V (do
   let f:=len<=1&&(match<-underlying t with|.array .. =>xk|_=>xw)
   match base with
   |some a=>
    if 0<=n/\n<len then pure<|.pointer<|J<|a.add<|n.toNat*(<-sizeOf elem)
    else if f then unsupported (.noEntry "op/indexAddr.an index out of range at an array of length 0 or 1 (ledger 616)")
    else boundsPanic k n len .index
   |none=>boundsPanic k n 0 .index:Sem Value) (do
   let f:=len<=1&&(match<-underlying t with|.array .. =>xk|_=>xw)
   match base.map (ZW X.ρ)with
   |some a=>
    if 0<=n/\n<len then pure<|.pointer<|J<|a.add<|n.toNat*(<-sizeOf elem)
    else if f then unsupported (.noEntry "op/indexAddr.an index out of range at an array of length 0 or 1 (ledger 616)")
    else boundsPanic k n len .index
   |none=>boundsPanic k n 0 .index:Sem Value):=λV k n base len elem=>by
  refine .bind (Vf t) ?_;rintro j d _-rfl;obtain _|a:=base;grind [KU];simp only[ZhA];split;refine .bind (VQ elem) ?_;rintro h m _-rfl;rw[Qs];exact .pure (WM _ _).symm;generalize (decide (len<=1)&&_)=f;cases f;simp_all[KU];exact Xr Z1 _
 refine .bind (yF i) ?_;rintro j ⟨k,n⟩ _-rfl;refine .bind (Vf t) ?_;rintro h d _-rfl;cases d<;>first|exact ZE _ _|skip
 rename_i elem;cases x<;>first|exact ZE _ _|skip
 rename_i a g c;have o:Zu X.ρ (.slice a g c)=.slice (a.map<|ZW X.ρ) g c:=by cases a<;>simp[Zu]
 rw[o];exact fin h k n a g elem;rename_i len elem;refine .bind (yL x) ?_;rintro l a _-rfl;exact fin l k n (J a) len elem
theorem Cx.Img.map{α β γ δ RA d s j}{f:α->γ}{g:β->δ}(h:X.Img RA V s j)(l:∀a b,RA a b->d (f a) (g b)):X.Img d V (f<$>s)<|g<$>j:=.bind h λk a b _ r=>.pure Zgd
def I2{α β:Type}{f:α->Sem β}(d:∀V a,X.Img Eq V (f a)<|f a):∀(l:List α) V,X.Img Eq V (l.mapM f) (l.mapM f)
 | [],V=>by simp;exact .pure rfl
 |a::l,V=>by
  simp;refine .bind (d V a) ?_;rintro g b _-rfl;refine .bind (I2 d l g) ?_;rintro h j _-rfl;exact .pure rfl
theorem map_set{α β:Type}(g:α->β)(cs:Array α)i c:(cs.map g).setIfInBounds i (g c)=(cs.setIfInBounds i c).map g:=by
 simp
abbrev Zp:=List Value
abbrev Ze:=Array Value
def GY ρ off:∀(l:Zp) k (a:Ze),
  ((l.map<|Zu ρ).zipIdx k).foldl (λa x=>a.setIfInBounds (off+x.2) x.1) (a.map<|Zu ρ)=((l.zipIdx k).foldl (λa x=>a.setIfInBounds (off+x.2) x.1) a).map (Zu ρ)
 | [],_,_=>rfl
 |v::l,k,a=>by
  simp;rw[map_set];exact GY ρ off l _ _
def AM ρ place:∀parts d,
  Instr.fill place (d.map<|Zu ρ) (parts.map λp=>(p.1,Zu ρ p.2))=(Instr.fill place d parts).map λc=>c.map<|Zu ρ
 | [],d=>rfl
 | (i,v)::a,d=>by
   simp only[ZhN,Instr.fill];cases place i with
   |none=>rfl
   |some q=>
    rw[TM];simp only[ZkN];split;rfl;rw[<-AM ρ place a];rw[<-ZjG,<-ZjG,Array.toList_zipIdx];simp_all[GY]
def Z4F(r:X.Zero)t parts:X.Img X.Rv V (Instr.build t parts)<|Instr.build t (parts.map λp=>(p.1,Zu X.ρ p.2)):=by
 refine .bind (Ty r t) ?_;rintro u z _- ⟨rfl,o⟩;have q:z.cells.map (Zu X.ρ)=z.cells:=by rw[<-TM,o]
 refine .bind (Vf t) ?_;rintro w d _-rfl
 have fin:∀V place g,X.Img X.Rv V (do
   let J cells:=Instr.fill place z.cells parts.toList|stuck g
   pure _:Sem Value) (do
   let J cells:=Instr.fill place z.cells (parts.map λp=>(p.1,Zu X.ρ p.2)).toList|stuck g
   pure _:Sem Value):=λV place g=>by
  have:=AM X.ρ place parts.toList z.cells;rw[q]at this;rw[Ziw,this];cases Instr.fill place z.cells parts.toList with
  |none=>exact ZE _ _
  |some x=>exact .pure (WF _ _).symm
 cases d<;>first|exact ZE _ _|skip
 refine .bind (VQ _) ?_;rintro j n _-rfl;exact fin j _ _;rename_i k;dsimp only;rw[ZiH];refine .bind (RA:=Eq) (.map (I2 (λV f=> ?_) _ _) λa b h=>by rw[h]) ?_;refine .bind (VQ _) ?_;rintro j n _-rfl;exact .pure rfl;rintro j l _-rfl;exact fin j _ _
end
end
section
section
variable {X:Cx}{V:Zb}
abbrev Zh:=TypeId
def Z4G(w:X.Zero)(t:Zh)(n:Nat)(parts:Array<|Nat×Value):X.Img X.Rv V (Instr.buildSlice t n parts)<|Instr.buildSlice t n (parts.map λp=>(p.1,Zu X.ρ p.2)):=by
 refine .bind (Vf t) ?_;rintro y d _-rfl;cases d<;>first|exact ZE _ _|skip
 rename_i elem;dsimp only;refine .bind (VQ _) ?_;rintro j k _-rfl
 have fin:∀(V:Zb) (zero:Ze),zero.map (Zu X.ρ)=zero->X.Img X.Rv V (do
   let J cells:=Instr.fill (λi=>J (i*k,k)) ((Array.range<|n*k).map (zero[· %zero.size]!)) parts.toList|stuck "buildSlice: a part of the wrong size"
   pure (.slice (J<|<-newRow elem cells) n n):Sem Value) (do
   let J cells:=Instr.fill (λi=>J (i*k,k)) ((Array.range<|n*k).map (zero[· %zero.size]!)) (parts.map λp=>(p.1,Zu X.ρ p.2)).toList|stuck "buildSlice: a part of the wrong size"
   pure (.slice (J<|<-newRow elem cells) n n):Sem Value):=λV zero q=>by
  have r:((Array.range<|n*k).map (zero[· %zero.size]!)).map (Zu X.ρ)=(Array.range<|n*k).map (zero[· %zero.size]!):=by
   refine Qd λx u=> ?_;obtain⟨i,_,rfl⟩:=ZjY.1 u;by_cases a:i%zero.size<zero.size;rw[Zlw zero _ a];have g:(zero.map<|Zu X.ρ)[i%zero.size]?=zero[i%zero.size]? :=by rw[q]
   rw[ZhJ,Zi1 a]at g;exact ZiJ g;rw[Zlv zero _ a];have e:(default:Zg)=.bool default:=rfl;rw[e,Uk]
  have:=AM X.ρ (λi=>J (i*k,k)) parts.toList ((Array.range<|n*k).map (zero[· %zero.size]!));rw[r]at this;rw[Ziw,this];cases Instr.fill (λi=>J (i*k,k)) ((Array.range<|n*k).map (zero[· %zero.size]!)) parts.toList with
  |none=>exact ZE _ _
  |some o=>exact yJ elem o n n
 split;exact Xr (λ_ h=>Zgt) _;split;exact fin j #[] Z1;refine .bind (Ty w elem) ?_;rintro l z _- ⟨rfl,f⟩;exact fin l z.cells (by rw[<-TM,f])
def Z5v(k:X.Zero)(x:Zg)(a b:Zh):X.Img X.Rv V (Instr.typeAssert x a b xk)<|Instr.typeAssert (Zu X.ρ x) a b xk:=by
 have f:∀V,X.Img X.Rv V (do pure (.tuple #[<-zeroValue b,.bool xw]):Sem Value) (do pure (.tuple #[<-zeroValue b,.bool xw]):Sem Value):=λV=>by
  refine .bind (Ty k b) ?_;rintro l z _- ⟨rfl,g⟩;exact .pure (by simp[Cx.Rv,Ul,g])
 refine .bind (Wg b) ?_;rintro h d _- ⟨rfl,n⟩;cases d;all_goals
  cases x<;>first|exact ZE _ _|skip
  rename_i t v;rw[Sg];dsimp only;first
  |split
   exact .pure (by simp[Cx.Rv,Ul]);exact f h
  |refine .bind (VR t) ?_
   rintro j i _-rfl;split;exact .pure (by simp[Cx.Rv,Ul,Sg]);exact f j
  rw[Sh];exact f h
theorem Z4N(a b:Zh)(x:Zg)(g:∃k,X.Q.underlying a=J (.int k))(j:∃k,X.Q.underlying b=J (.int k)):X.Img X.Rv V (convert a b x)<|convert a b<|Zu X.ρ x:=by
 obtain⟨o,g⟩:=g;obtain⟨q,j⟩:=j;refine .bind (Wg a) ?_;rintro l d _- ⟨rfl,f⟩;rw[g]at f;cases f;refine .bind (Wg b) ?_;rintro n d _- ⟨rfl,f⟩;rw[j]at f;cases f;cases x<;>first|exact Xr (λ_ h=>Zgt) _|skip
 rw[Wp];exact .pure ZgR
 .rename_i s b;simp only[Zu];unfold Conv.floatToInt;repeat' first
   |exact .pure (by simp[Cx.Rv])
   |(refine .bind (Uy _) ?_;rintro _ _ _-rfl)
   |split
 rename_i p;cases p<;>exact Xr (λ_ h=>Zgt) _
end
end
section
section
variable {X:Cx}{V:Zb}
def Z50{α β RA r}{f:Array MapEntry->Nat->Sem α}{g:Array MapEntry->Nat->Sem β}d(h:∀a k,X.Img RA (r::V) (f a k)<|g (a.map<|VY X.ρ) k):
  X.Img RA V (do let .map a k<-getObj r|stuck d
                 f a k) (do let .map a k<-getObj (X.ρ r)|stuck d
                             g a k):=by
 refine .get (λw=>⟨_,w,rfl,trivial⟩) λo j=> ?_;cases o<;>first|exact h _ _|exact ZE _ _
def Z55 t ty ts x(l:ts[0]?=J t)(j:(∃e,X.Q.underlying t=J (.slice e))\/(∃a b,X.Q.underlying t=J (.map a b))\/∃n e,X.Q.underlying t=J (.array n e)):
  X.Img X.Rv V (Builtin.len_ ts ty #[x]) (Builtin.len_ ts ty #[Zu X.ρ x]):=by
 unfold Builtin.len_;have e:∀y,(#[y]:Array Value)[0]?=J y:=Z1;simp[l];refine .bind (Wg t) ?_;rintro o d _- ⟨rfl,h⟩;obtain⟨e,f⟩|⟨a,b,f⟩|⟨n,e,f⟩:=j<;>rw[f]at h<;>cases h
 cases x<;>first|exact ZE _ _|skip
 rename_i a n c;have g:Zu X.ρ (.slice a n c)=.slice (a.map<|ZW X.ρ) n c:=by cases a<;>simp[Zu]
 rw[g];exact .pure (by simp[Cx.Rv,goInt]);cases x<;>first|exact ZE _ _|skip
 rename_i r;obtain _|r:=r;simp[Zu];exact .pure (by simp[Cx.Rv,goInt]);simp[Zu];refine Z50 _ λp k=>.pure ?_;simp[Cx.Rv,goInt];exact .pure (by simp[Cx.Rv,goInt])
def jf ρ v:(∃k n,v=.int k n)\/((∀k n,v≠.int k n)/\∀k n,Zu ρ v≠.int k n):=by
 cases v with
 |int k n=>simp
 |pointer a=>cases a<;>exact .inr ⟨Z1,Z1⟩
 |slice a n c=>cases a<;>exact .inr ⟨Z1,λ_ _ h=>(by simp[Zu]at h)⟩
 |map r=>cases r<;>exact .inr ⟨Z1,λ_ _ h=>(by simp[Zu]at h)⟩
 |chan r=>cases r<;>exact .inr ⟨Z1,λ_ _ h=>(by simp[Zu]at h)⟩
 |_=>exact .inr ⟨Z1,λ_ _ h=>(by simp[Zu]at h)⟩
def Pf{k a b}(h:∀k n,a≠.int k n):Instr.sameNow (.int k) a b=U:=by
 cases a<;>first|rfl|simp_all
def Pg{k a b}(h:∀k n,b≠.int k n):Instr.sameNow (.int k) a b=U:=by
 cases a<;>first|rfl|(cases b<;>first|rfl|simp_all)
def Z9T ρ k a b:Instr.sameNow (.int k) (Zu ρ a) (Zu ρ b)=Instr.sameNow (.int k) a b:=by
 obtain⟨j,n,rfl⟩|⟨d,f⟩:=jf ρ a;obtain⟨l,o,rfl⟩|⟨g,h⟩:=jf ρ b;simp;simp_all[Pg];simp_all[Pf]
def GJ ρ k a:∀d i,Instr.findNow (.int k) (Zu ρ a) (d.map<|VY ρ) i=(Instr.findNow (.int k) a d i).map λr=>r.map λp=>(p.1,Zu ρ p.2)
 | [],i=>rfl
 |e::d,i=>by
  simp[Instr.findNow];rw[show(VY ρ e).key=Zu ρ e.key from rfl,Z9T];cases Instr.sameNow _ a e.key with
  |none=>rfl
  |some b=>
   cases b;simp_all[GJ];rfl
def Hs e n t v{k}(a:X.Q.underlying t=J (.int k)):X.Img Eq V (Instr.checkKey e (n+1) t v)<|Instr.checkKey e (n+1) t<|Zu X.ρ v:=by
 refine .bind (Wg t) ?_;rintro f d _- ⟨rfl,h⟩;rw[a]at h;cases h;exact .pure rfl
def jp p n w:(∃q,(behindNumber n).run p w=.ok q w)\/∃a,(behindNumber n).run p w=.halt (.stuck a) w:=by
 have h:(∃q,(numberAt n.block).run p w=.ok q w)\/∃a,(numberAt n.block).run p w=.halt (.stuck a) w:=by
  unfold numberAt;simp only[ZhV,Zlp];cases j:w.shape? n.block with
  |some x=>simp
  |none=>
   show(∃q,(Sem.getObj n.block _).run p w=.ok q w)\/_;obtain d|⟨c,e,g,d⟩|⟨o,d,f⟩:=Kt w.heap[n.block]?;simp_all[Sem.run,getObj,Bind.bind,Sem.bind];simp_all[Sem.run,getObj,Bind.bind,Sem.bind];rw[Sm d f];cases o<;>exact .inl ⟨_,rfl⟩
 unfold behindNumber;obtain⟨q,h⟩|⟨a,h⟩:=h;simp_all;simp_all
def Ht n t x y{k}(A:X.Q.underlying t=J (.int k))(z:X.Q.globals=#[])(D:∀i u,X.Q.info? t=J i->i.desc≠.named "sync.copyChecker" u):
  X.Img (λa b=>a=b/\(a=xk->∃k n,x=.int k n/\y=.int k n)) V (Op.equalIn (n+1) t x y) (Op.equalIn (n+1) t (Zu X.ρ x)<|Zu X.ρ y):=by
 have g:∀V a b o,X.Img (λa b=>a=b/\(a=xk->∃k n,x=.int k n/\y=.int k n)) V (do
   let(a,b):=((<-behindNumber a).1,(<-behindNumber b).1)
   if a.block==b.block&&a.block< (<-program).globals.size then return (<-byteOf a)==(<-byteOf b)
   let .named "sync.copyChecker" _:=(<-typeInfo t).desc|unsupported .addressObserved
   if a==b then pure xk else unsupported .addressObserved:Sem Bool) o:=λV a b o=>by
  refine .ly _ λw=> ?_;simp only[ZhV];obtain⟨q,h⟩|⟨j,h⟩:=jp X.Q a w;rw[h];simp only[ZhU];obtain⟨H,f⟩|⟨j,f⟩:=jp X.Q b w;rw[f];simp only[ZhU,Zjo,z];have r:(decide (q.1.block< (#[]:Array Global).size))=xw:=Z1;simp only[r,Zkg,Zhu,Zif,ZhV];cases l:X.Q.info? t with
  |none=>exact⟨.stuck "no such type",w,by simp[typeInfo,l],trivial⟩
  |some i=>
   refine⟨.unsupported .addressObserved,w,?_,trivial⟩;simp[typeInfo,l,ZhV,Zjo,ZhU,ZjV];split;rename_i u e;exact absurd e Zgd;rfl
  rw[f];exact⟨_,_,rfl,trivial⟩;rw[h];exact⟨_,_,rfl,trivial⟩
 unfold Op.equalIn;refine .bind (Wg t) ?_;rintro C d _- ⟨rfl,h⟩;rw[A]at h;cases h;cases x with
 |pointer p=>
  obtain _|a:=p;cases y<;>exact Xr Z1 _;cases y with
  |int B m=>
   rw[WM,Wp];obtain(_|m)|m:=m<;>first|exact .pure ⟨rfl,Z1⟩|exact Xr Z1 _
  |pointer q=>cases q<;>first|exact Xr Z1 _|exact g _ _ _ _
  |_=>exact Xr Z1 _
 |int B m=>
  cases y with
  |int F G=>
   rw[Wp,Wp];dsimp only;split;rename_i e;subst e;exact .pure ⟨rfl,Z1⟩;exact ZE _ _
  |pointer q=>
   obtain _|b:=q;obtain _|m:=m<;>exact Xr Z1 _;rw[WM,Wp];obtain(_|m)|m:=m<;>first|exact .pure ⟨rfl,Z1⟩|exact Xr Z1 _
  |_=>exact ZE _ _
 |_=>cases y<;>first|exact ZE _ _|exact Xr Z1 _
structure Cx.IntT (X:Cx) (t:TypeId) (k:IntKind):Prop where
 d:X.Q.underlying t=J (.int k)
 n:∀i u,X.Q.info? t=J i->i.desc≠.named "sync.copyChecker" u
def Hit(key:Zg)(es:List MapEntry)(j:Nat)(r:Option<|Nat×Value):Prop:=∀i v,r=J (i,v)->j<=i/\∃e,es[i-j]?=J e/\∃k n,key=.int k n/\e.key=.int k n
def Hit.none key es j:Hit key es j U:=λ_ _ h=>Zgt
def Hit.cons{key es j r}(h:Hit key es (j+1) r)e:Hit key (e::es) j r:=λi v a=>by
 let⟨f,d,g,k⟩:=h i v a;grind
def Hit.head{key es j e}(h:∃k n,key=.int k n/\e.key=.int k n):Hit key (e::es) j<|J (j,e.val):=λi v a=>by
 simp_all
def Z9U{k a b}(h:Instr.sameNow (.int k) a b=J xk):∃k n,a=.int k n/\b=.int k n:=by
 obtain⟨g,l,rfl⟩|⟨d,_⟩:=jf id a;obtain⟨j,o,rfl⟩|⟨f,_⟩:=jf id b;simp[Instr.sameNow]at h;simp_all;simp_all[Pg];simp_all[Pf]
def GI{k key}:∀a j r,Instr.findNow (.int k) key a j=J r->Hit key a j r
 | [],j,r,h=>by
   simp[Instr.findNow]at h;subst h;exact .none _ _ _
 |e::a,j,r,h=>by
  simp[Instr.findNow]at h;split at h;rename_i d;cases h;exact .head<|Z9U d;exact(GI a _ r h).cons e;cases h
def Cx.Rk(X:Cx)(key:Zg)(es:List MapEntry)(j:Nat)(a b:Option<|Nat×Value):Prop:=(b=a.map λp=>(p.1,Zu X.ρ p.2))/\Hit key es j a
theorem Hy(l:X.Q.globals=#[]){t k}(g:X.IntT t k)key:∀f i V,
  X.Img (X.Rk key f i) V (Instr.findAsking t key f i) (Instr.findAsking t (Zu X.ρ key) (f.map<|VY X.ρ) i)
 | [],i,V=>.pure ⟨rfl,.none _ _ _⟩
 |e::f,i,V=>by
  simp;refine .bind (Ht 9999 t key e.key g.d l g.n) ?_;rintro j b _- ⟨rfl,p⟩;cases b;have h:=Hy l g key f (i+1) j;have o:X.Img (X.Rk key _ i) j (Instr.findAsking t key f _>>=λr=>pure r) (Instr.findAsking t _ _ _>>=λr=>pure r):=
   .bind h λ_ a b _ r=>.pure ⟨r.1,r.2.cons e⟩
  simp_all;exact .pure ⟨rfl,.head Zgd⟩
def Hz(j:X.Q.globals=#[]){t k}(f:X.IntT t k)key es:
  X.Img (X.Rk key es 0) V (Instr.findKey t key es) (Instr.findKey t (Zu X.ρ key)<|es.map<|VY X.ρ):=by
 refine .bind (Wg t) ?_;rintro g d _- ⟨rfl,h⟩;rw[f.d]at h;cases h;rw[GJ];cases a:Instr.findNow _ key es 0 with
 |none=>grind [Hy]
 |some r=>exact .pure ⟨rfl,GI es 0 r a⟩
def Z58(u:X.Zero)(n:X.Q.globals=#[]){t a b k}(q:X.Q.underlying t=J (.map a b))(j:X.IntT a k)x key ok:X.Img X.Rv V (Instr.lookup t x key ok)<|Instr.lookup t (Zu X.ρ x) (Zu X.ρ key) ok:=by
 have fin:∀V (f:Array MapEntry),X.Img X.Rv V (do
   Instr.checkKey f.isEmpty 10000 a key
   let(v,o)<-match<-Instr.findKey a key f.toList with
    |some (_,v)=>pure (v,xk)
    |none=>pure (<-zeroValue b,xw)
   pure (if ok then .tuple #[v,.bool o]else v):Sem Value) (do
   Instr.checkKey (f.map _).isEmpty 10000 a _
   let(v,o)<-match<-Instr.findKey a _ (f.map _).toList with
    |some (_,v)=>pure (v,xk)
    |none=>pure (<-zeroValue b,xw)
   pure (if ok then .tuple #[v,.bool o]else v):Sem Value):=λV f=>by
  have l:(f.map<|VY X.ρ).isEmpty=f.isEmpty:=by simp[Array.isEmpty]
  rw[l];refine .bind (Hs f.isEmpty 9999 a key j.d) ?_;rintro g _ _- -;rw[Ziw];refine .bind (Hz n j key f.toList) ?_;rintro y r _- ⟨rfl,-⟩;obtain _|p:=r;refine .bind (Ty u b) ?_;rintro A z _- ⟨rfl,h⟩;refine .pure ?_;cases ok<;>simp[Cx.Rv,Ul,h];refine .pure ?_;cases ok<;>simp[Cx.Rv,Ul]
 refine .bind (Wg t) ?_;rintro g d _- ⟨rfl,h⟩;rw[q]at h;cases h;cases x<;>first|exact ZE _ _|skip
 rename_i r;obtain _|r:=r;simp[Zu];have:=fin g #[];simp at this;exact this;simp[Zu];refine .get (λw=>⟨_,w,rfl,trivial⟩) λo B=> ?_;cases o<;>first|exact fin _ _|exact ZE _ _
def I3(M:X.Q.globals=#[]){t a b k}(O:X.Q.underlying t=J (.map a b))(K:X.IntT a k)x key v:X.Img Eq V (Instr.mapUpdate t x key v)<|Instr.mapUpdate t (Zu X.ρ x) (Zu X.ρ key)<|Zu X.ρ v:=by
 refine .bind (Wg t) ?_;rintro P d _- ⟨rfl,h⟩;rw[O]at h;cases h;cases x<;>first|exact ZE _ _|skip
 rename_i r;obtain _|r:=r;simp_all[Zu,Bi];simp[Zu];refine .get (λw=>⟨_,w,rfl,trivial⟩) λo S=> ?_;cases o<;>first|exact ZE _ _|skip
 rename_i l g;show X.Img Eq _ (Instr.checkKey xw 10000 a key>>=_)<|Instr.checkKey xw 10000 a _>>=_;refine .bind (Hs xw 9999 a key K.d) ?_;rintro R _ _ B-;rw[Ziw];refine .bind (Hz M K key l.toList) ?_;rintro G f _ C ⟨rfl,D⟩;have H:=C _<|B _<|ZiD ..;obtain _|p:=f;have:=Cx.Img.set (X:=X) (RA:=Eq) (V:=G) (r:=r) (o:=.map (l.push {key,val:=v,born:=g})<|g+1) (k:=.pure ()) (k':=.pure ()) H trivial Z1<|.pure rfl;simp[XW,Array.map_push,VY]at this;exact this;let⟨i,v0⟩:=p;obtain⟨_,e,L,q,n,rfl,y⟩:=D i v0 rfl;have u:l[i]?=J e:=ZgV;have F:(l.map<|VY X.ρ)[i]?=J (VY X.ρ e):=by rw[ZhJ,u];rfl
 have N:(VY X.ρ e).key=.int q n:=by show Zu X.ρ e.key=_;rw[y,Wp]
 simp[ZhA,u,F,ZhE,y,N,Wp];have A:Instr.keyThatStays (.int q n) (.int q n)=pure (.int q n):=by
  unfold Instr.keyThatStays;rw[Zhi (by simp[Instr.sameBits])]
 rw[A];have z:(l.modify i λe=> {e with key:=.int q n,val:=v}).map (VY X.ρ)=(l.map<|VY X.ρ).modify i λe=> {e with key:=.int q n,val:=Zu X.ρ v}:=by
  apply Array.ext_getElem?;intro j;simp[ZhJ,Q0];split;simp_all[VY];rfl
 have:=Cx.Img.set (X:=X) (RA:=Eq) (V:=G) (r:=r) (o:=.map (l.modify i λe=> {e with key:=.int q n,val:=v}) g) (k:=.pure ()) (k':=.pure ()) H trivial Z1<|.pure rfl;simp[XW,z]at this;exact this
end
end
section
section
variable {X:Cx}{V:Zb}
def jt(k:IntKind)(n:Int):X.Rv (.int k n)<|.int k n:=ZgR
def Do(b:Bool):X.Rv (.bool b)<|.bool b:=ZgR
def Z9R(b:ByteArray):X.Rv (.string b)<|.string b:=ZgR
theorem Hm(op:BinOp)(k:IntKind)(x y:Int):X.Img X.Rv V (Op.intArith op k x y)<|Op.intArith op k x y:=by
 unfold Op.intArith;split<;>first|exact .pure (jt _ _)|exact ZE _ _
def Z4P(op:BinOp)(k:IntKind)(x y:Int):X.Img X.Rv V (Op.intDiv op k x y)<|Op.intDiv op k x y:=by
 unfold Op.intDiv;split;exact TZ _;split<;>first|exact .pure (jt _ _)|exact ZE _ _
theorem Hq(op:BinOp)(k:IntKind)(x y:Int):X.Img X.Rv V (Op.intBits op k x y)<|Op.intBits op k x y:=by
 unfold Op.intBits;dsimp only;split<;>first|exact .pure (jt _ _)|exact ZE _ _
def Ib(op:BinOp)(k k':IntKind)(x y:Int):X.Img X.Rv V (Op.shift op k x k' y)<|Op.shift op k x k' y:=by
 unfold Op.shift;split;exact TZ _;dsimp only;split<;>first|exact .pure (jt _ _)|exact ZE _ _
def Z4L(op:BinOp)(x y:Int):X.Img X.Rv V (Op.intCmp op x y)<|Op.intCmp op x y:=by
 unfold Op.intCmp;split<;>first|exact .pure (Do _)|exact ZE _ _
abbrev Zt:=Option Nat
def Hw(op:BinOp)(k:FloatKind)(x y:Nat):X.Img X.Rv V (Op.floatArith op k x y)<|Op.floatArith op k x y:=by
 have fin:∀(V:Zb) (r:Zt),X.Img X.Rv V (match r with|some r=>pure (.float k r)|none=>do pure (.float k<|<-choose (.nanBits k x y)):Sem Value) (match r with|some r=>pure (.float k r)|none=>do pure (.float k<|<-choose (.nanBits k x y)):Sem Value):=λV r=>by
  cases r with
  |some r=>exact .pure Zgu
  |none=>
   refine .bind (Uy _) ?_;rintro a n _-rfl;exact .pure Zgu
 unfold Op.floatArith;cases op<;>first|exact ZE _ _|exact fin _ _
def Hx(op:BinOp)(k:FloatKind)(x y:Nat):X.Img X.Rv V (Op.floatCmp op k x y)<|Op.floatCmp op k x y:=by
 unfold Op.floatCmp;dsimp only;split<;>first|exact .pure (Do _)|exact ZE _ _
def Ic(op:BinOp)(x y:ByteArray):X.Img X.Rv V (Op.stringOp op x y)<|Op.stringOp op x y:=by
 unfold Op.stringOp;dsimp only;split<;>first|exact .pure (Do _)|exact ZE _ _|skip
 split;exact Xr (λ_ h=>Zgt) _;exact .pure<|Z9R _
end
end
section
section
variable {X:Cx}{V:Zb}
def Cx.WR.shape{X:Cx}{f wc}(h:X.WR f wc){r x}(a:f.shape? r=J x):wc.shape? (X.ρ r)=J x:=by
 unfold World.shape? at a⊢;split at a;rename_i c e p k;obtain d|⟨_,l,n,o,j,d,_,q,g⟩|⟨_,_,g,_⟩:=h.blk _ _ k;cases d;simp_all;simp_all[XW];cases a
def Bk{α β RA r}{k:Option (TypeId×Nat)->Sem α}{k':Option (TypeId×Nat)->Sem β}(q:∀w,∃h o,(k U).run X.Q w=.halt h o/\bad h)
  (t:∀x,X.Img RA V (k<|J x)<|k'<|J x):X.Img RA V (shape r>>=k)<|shape (X.ρ r)>>=k':=by
 refine .ta λd a f n p l g=> ?_;show X.bq RA d a f ((k _).run X.Q d)<|(k' _).runT X.P a f;change ∀j,a.drawn+j< (Ye<|(k' _).run X.P a).drawn->_ at l;change ∀j,xz (xj a)+j< xz (xj<|Ye<|(k' _).run X.P a)->_ at g;cases e:d.shape? r with
 |none=>
  let⟨h,o,e,u⟩:=q d;simp_all[Cx.bq.cm]
 |some x=>
  rw[n.shape e]at l g⊢;exact(t x).run d a f n p l g
def Ie{α β RA r}{k:Option (Addr×TypeId)->Sem α}{k':Option (Addr×TypeId)->Sem β}(C:∀x w,∃h F,(k<|J x).run X.Q w=.halt h F/\bad h)
  (D:∀V,X.Img RA V (k U)<|k' U):X.Img RA V (viewAt r>>=k)<|viewAt (X.ρ r)>>=k':=by
 have key:X.Img RA V (getObj r>>=λo=>match o with|.view a t=>k (J (a,t))|_=>k U) (getObj (X.ρ r)>>=λo=>match o with|.view a t=>k' (J (a,t))|_=>k' U):=by
  refine .get (λw=>C _ w) λo g=> ?_;cases o<;>first|exact D _|exact g.elim
 refine .ta λd q f n z l j=> ?_;have H:∀ {γ} r (k:Option _->Sem γ),((getObj r>>=λo=>match o with|.view a t=>pure (J (a,t))|_=>pure U)>>=k)=(getObj r>>=λo=>match o with|.view a t=>k (J (a,t))|_=>k U):=λr k=>by
  show Sem.getObj r _=Sem.getObj r _;congr 1;funext o;cases o<;>rfl
 have u:∀ {γ} P w r (k:Option _->Sem γ) f,(viewAt r>>=k).runT P w f=if(w.shape? r).isSome then(k U).runT P w f else(getObj r>>=λo=>match o with|.view a t=>k _|_=>k U).runT P w f:=λP w r k f=>by
  rw[<-H];show(Sem.bind (if(w.shape? r).isSome then pure U else _) k).runT P w f=_;split<;>rfl
 have p:∀ {γ} P w r (k:Option _->Sem γ),(viewAt r>>=k).run P w=if(w.shape? r).isSome then(k U).run P w else(getObj r>>=λo=>match o with|.view a t=>k (J (a,t))|_=>k U).run P w:=λP w r k=>by
  have:=Zii Prod.fst<|u P w r k #[];grind [Sem.runT_fst]
 rw[p]at l j;rw[u,p];cases e:d.shape? r with
 |some x=>
  rw[n.shape e]at l j⊢;exact(D V).run d q f n z l j
 |none=>
  cases G:q.shape? (X.ρ r)with
  |none=>
   rw[G]at l j;exact key.run d q f n z l j
  |some y=>
   simp only[Zk7,Zhu,Zif];obtain g|⟨c,N,L,g⟩|⟨o,g,A⟩:=Kt d.heap[r]?;have:(getObj r>>=λo=>match o with|.view a t=>k (J (a,t))|_=>k U).run X.Q d=.halt (.stuck "getObj: no such block") d:=by
    show(Sem.getObj r _).run X.Q d=_;simp[Sem.run,g]
   rw[this];exact Cx.bq.cm trivial;grind [World.shape?];by_cases B:o=hid;subst B;have:(getObj r>>=λo=>match o with|.view a t=>k (J (a,t))|_=>k U).run X.Q d=(k<|J (⟨0,0,J 0⟩,0)).run X.Q d:=by
    show(Sem.getObj r _).run X.Q d=_;rw[Sm g A];rfl
   rw[this];let⟨h,F,p,M⟩:=C (⟨0,0,J 0⟩,0) d;grind [Cx.bq.cm];let⟨_,K⟩:=n.obj g A B;grind [je,World.shape?,absurd,Option.some.inj]
theorem zD t:X.P.cellsOf t=X.Q.cellsOf t:=by simp[Program.cellsOf,Cx.dx]
theorem zC t:X.P.bytesOf t=X.Q.bytesOf t:=by simp[Program.bytesOf,Cx.dx]
theorem jZ:∀d t off,byteOfCell X.P d t off=byteOfCell X.Q d t off
 |0,_,_=>rfl
 |d+1,t,off=>by simp_all[byteOfCell,Cx.dc,zD,zC,jZ]
theorem EK:∀d t off,cellOfByte X.P d t off=cellOfByte X.Q d t off
 |0,_,_=>rfl
 |d+1,t,off=>by simp_all[cellOfByte,Cx.dc,zD,zC,EK]
def Z17 e c off n:cellAtBytes X.P X.P.depth e (c / X.P.cellsOf e) off n=cellAtBytes X.Q X.Q.depth e (c / X.Q.cellsOf e) off n:=by
 have:X.P.depth=X.Q.depth:=rfl;grind [cellAtBytes,zD,zC,jZ,EK]
def Id ts t p y:X.Img X.Rv V (Builtin.unsafeAdd_ ts t #[.pointer p,y])<|Builtin.unsafeAdd_ ts t #[.pointer<|p.map<|ZW X.ρ,Zu X.ρ y]:=by
 refine .bind (KT y) ?_;rintro h n _-rfl;by_cases d:n=0;simp[Zhi d];obtain _|a:=p;exact Xr Z1 _;refine Ie (λx w=>⟨_,w,rfl,trivial⟩) λV=> ?_;exact .pure ZgR;simp[Zhg d];by_cases f:n<0;simp[Zhi f];exact Xr Z1 _;simp[Zhg f];obtain _|a:=p;exact Xr Z1 _;refine Bk (λw=>⟨_,w,rfl,trivial⟩) λx=> ?_;let⟨e,cells⟩:=x;refine .bind WO ?_;rintro g _ _- ⟨rfl,rfl⟩;rw[Z17];show X.Img X.Rv g _ (match cellAtBytes X.Q X.Q.depth e _ a.off n with|some off=>pure _|none=>unsupported _);cases cellAtBytes X.Q X.Q.depth e _ a.off n with
 |none=>exact Xr Z1 _
 |some off=>exact .pure (by simp[Cx.Rv,ZW])
def Ho{α β RA n}{k:Addr×Bool->Sem α}{k':Addr×Bool->Sem β}(T:∀w,w.heap[n.block]?=J hid->∃h R,(k (n,xw)).run X.Q w=.halt h R/\bad h)
  (G:∀V a l,X.Img RA V (k (a,l))<|k' (ZW X.ρ a,l)):X.Img RA V (behindNumber n>>=k)<|behindNumber (ZW X.ρ n)>>=k':=by
 refine .ta λd f es u B t q=> ?_;have H:∀ {γ} P w n (k:Addr×Bool->Sem γ) es,(behindNumber n>>=k).runT P w es=if(w.shape? n.block).isSome then(k _).runT P w es else(getObj n.block>>=λo=>match o with|.number a l=>k _|_=>k _).runT P w es:=λP w n k es=>by
  have L:(getObj n.block>>=λo=>match o with|.number a l=>k (a,l)|_=>k (n,xw))=((getObj n.block>>=λo=>match o with|.number a l=>pure (J (a,l))|_=>pure U)>>=λr=>(pure (r.getD (n,xw)):Sem _))>>=k:=by
   show Sem.getObj _ _=Sem.getObj _ _;congr 1;funext o;cases o<;>rfl
  rw[L];show(Sem.bind (Sem.bind (if(w.shape? n.block).isSome then pure U else _) λr=>pure _) k).runT P w es=_;split<;>rfl
 have K:∀ {γ} P w n (k:Addr×Bool->Sem γ),(behindNumber n>>=k).run P w=if(w.shape? n.block).isSome then(k (n,xw)).run P w else(getObj n.block>>=λo=>match o with|.number a l=>k (a,l)|_=>k (n,xw)).run P w:=λP w n k=>by
  have:=Zii Prod.fst<|H P w n k #[];grind [Sem.runT_fst]
 rw[K]at t q;rw[H,K];cases e:d.shape? n.block with
 |some x=>
  rw[show(ZW X.ρ n).block=X.ρ n.block from rfl,u.shape e]at t q⊢;exact(G V n xw).run d f es u B t q
 |none=>
  obtain g|⟨c,W,S,g⟩|⟨o,g,z⟩:=Kt d.heap[n.block]?;have:(getObj n.block>>=λo=>match o with|.number a l=>k (a,l)|_=>k (n,xw)).run X.Q d=.halt (.stuck "getObj: no such block") d:=by
   show(Sem.getObj n.block _).run X.Q d=_;simp[Sem.run,g]
  simp[Zk7,Zhu,Zif,this];exact Cx.bq.cm trivial;grind [World.shape?];by_cases D:o=hid;subst D;have:(getObj n.block>>=λo=>match o with|.number a l=>k (a,l)|_=>k (n,xw)).run X.Q d=(k (n,xw)).run X.Q d:=by
   show(Sem.getObj n.block _).run X.Q d=_;rw[Sm g z];rfl
  simp[Zk7,Zhu,Zif,this];grind [Cx.bq.cm];let⟨_,A⟩:=u.obj g z D;have y:=je (ρ:=X.ρ) z;have M:f.shape? (ZW X.ρ n).block=U:=by
   show f.shape? (X.ρ n.block)=U;unfold World.shape?;rw[A];split;grind;rfl
  rw[M]at t q⊢;have F:=(u.kind g).elim (λh=>absurd h D) id;have C:X.il d ⟨.obj _,xw,(XW X.ρ o).isChan⟩:=⟨n.block,Z0,(Zhe.1 g).1,rfl⟩;have N:=Sm (p:=X.P) (k:=λo=>match o with|.number a l=>k' (a,l)|_=>k' (ZW X.ρ n,xw)) A y;have O:=P6 (p:=X.P) (es:=es) (k:=λo=>match o with|.number a l=>k' (a,l)|_=>k' (ZW X.ρ n,xw)) A y;change ∀j,f.drawn+j< (Ye<|(Sem.getObj (X.ρ n.block) λo=>match o with|.number a l=>k' (a,l)|_=>k' (ZW X.ρ n,xw)).run X.P f).drawn->_ at t;change ∀j,xz (xj f)+j< xz (xj<|Ye<|(Sem.getObj (X.ρ n.block) λo=>match o with|.number a l=>k' (a,l)|_=>k' (ZW X.ρ n,xw)).run X.P f)->_ at q;change X.bq RA d f es ((Sem.getObj n.block λo=>match o with|.number a l=>k (a,l)|_=>k (n,xw)).run X.Q d) ((Sem.getObj (X.ρ n.block) λo=>match o with|.number a l=>k' (a,l)|_=>k' (ZW X.ρ n,xw)).runT X.P f es);rw[N]at t q;rw[Sm (p:=X.Q) (k:=λo=>match o with|.number a l=>k (a,l)|_=>k (n,xw)) g z,O];refine Cx.bq.step (.ev u C) ?_;cases o<;>first|exact F.elim|exact(G V n xw).run d f _ u B t q|exact(G V _ _).run d f _ u B t q
end
end
section
section
variable {X:Cx}{V:Zb}
def Z9Q{p r w}(a:w.heap[r]?=J hid):(viewAt r).run p w=.ok (J (⟨0,0,J 0⟩,0)) w:=by
 have d:w.shape? r=U:=by simp[World.shape?,a,hid]
 unfold viewAt;simp only[ZhV,Zlp,d];show(Sem.getObj r _).run p w=_;rw[Sm a (by simp[hid])];rfl
def Z4m p ts t a y w(j:w.heap[a.block]?=J hid):∃h d,(Builtin.unsafeAdd_ ts t #[.pointer<|J a,y]).run p w=.halt h d/\bad h:=by
 have o:w.shape? a.block=U:=by simp[World.shape?,j,hid]
 have l:∀k n,∃h d,(Builtin.unsafeAdd_ ts t #[.pointer<|J a,.int k n]).run p w=.halt h d/\bad h:=λk n=>by
  have e:Builtin.unsafeAdd_ ts t #[.pointer<|J a,.int k n]=(if n=0 then(do
     if(<-viewAt a.block).isSome then unsupported _
     return .pointer _)else do
    if n<0 then unsupported _
    let J (e,cells)<-shape a.block|unsupported _
    let p<-program
    match cellAtBytes p p.depth e _ a.off n with
    |some off=>pure<|.pointer<|J {a with off}
    |none=>unsupported _):=rfl
  rw[e];by_cases f:n=0;rw[Zhi f];simp only[ZhV,Z9Q j];exact⟨_,_,rfl,trivial⟩;rw[Zhg f];by_cases g:n<0;rw[Zhi g];exact⟨_,w,rfl,trivial⟩;rw[Zhg g];simp only[ZhV,Zlp,o];exact⟨_,_,rfl,trivial⟩
 cases y with
 |int k n=>exact l k n
 |pointer q=>cases q<;>exact⟨_,w,rfl,trivial⟩
 |_=>exact⟨_,w,rfl,trivial⟩
theorem Z4u a l:X.Img X.Rv V (asNumber a l)<|asNumber (ZW X.ρ a) l:=by
 have h:X.Img (λa b=>b=X.ρ a) V _ _:=.new (o:=.number a l) trivial Z1 λr=>.pure rfl;refine .bind h ?_;rintro d r _-rfl;exact .pure (by simp[Cx.Rv,ZW])
def Z5i l u:X.Img X.Rv V (match u with|.pointer (J b)=>asNumber b l|v=>pure v) (match Zu X.ρ u with|.pointer (J b)=>asNumber b l|v=>pure v):=by
 cases u with
 |pointer q=>
  obtain _|b:=q;rw[UG];exact .pure (UG _).symm;grind [WM,Z4u]
 |slice q n c=>cases q<;>(simp[Zu];exact .pure Zgu)
 |map q=>cases q<;>(simp[Zu];exact .pure Zgu)
 |chan q=>cases q<;>(simp[Zu];exact .pure Zgu)
 |_=>simp[Zu];exact .pure Zgu
def Bf t p y:X.Img X.Rv V (movedNumber t (.pointer p) y)<|movedNumber t (Zu X.ρ<|.pointer p)<|Zu X.ρ y:=by
 refine .bind (Wg t) ?_;rintro f d _- ⟨rfl,h⟩
 have key:X.Img X.Rv f (match(generalizing:=false) (Value.pointer p)with
   | .pointer (J n)=>(do
     let(a,YY)<-behindNumber n
     match<-Builtin.unsafeAdd_ #[] t #[.pointer<|J a,y]with
     |.pointer (J b)=>asNumber b YY
     |v=>pure v:Sem Value)
   |_=>Builtin.unsafeAdd_ #[] t #[.pointer p,y]) (match(generalizing:=false) Zu X.ρ (Value.pointer p)with
   | .pointer (J n)=>(do
     let(a,YY)<-behindNumber n
     match<-Builtin.unsafeAdd_ #[] t #[.pointer<|J a,Zu X.ρ y]with
     |.pointer (J b)=>asNumber b YY
     |v=>pure v:Sem Value)
   |_=>Builtin.unsafeAdd_ #[] t #[Zu X.ρ<|.pointer p,Zu X.ρ y]):=by
  obtain _|n:=p;rw[UG];exact Id #[] t U y;rw[WM];refine Ho (λw g=> ?_) λV a l=> ?_;let⟨h,o,e,k⟩:=Z4m X.Q #[] t n y w g;simp_all;refine .bind (Id #[] t _ y) ?_;rintro j v _-rfl;exact Z5i l v
 cases d<;>first|exact key|exact Xr Z1 _
def FP{α β p s}{f:α->Sem β}{w h w'}(e:s.run p w=.halt h w')(a:bad h):∃h w',(s>>=f).run p w=.halt h w'/\bad h:=
 ⟨h,w',Zgd,a⟩
def FR(l:X.Q.globals=#[]){α}a b(f:Addr->Addr->Sem α)(k:∀a b w,∃h d,(f a b).run X.Q w=.halt h d/\bad h)w:
  ∃h d,(do f (<-behindNumber a).1 (<-behindNumber b).1:Sem α).run X.Q w=.halt h d/\bad h:=by
 simp only[ZhV];obtain⟨q,h⟩|⟨g,h⟩:=jp X.Q a w;rw[h];simp only[ZhU];obtain⟨n,j⟩|⟨g,j⟩:=jp X.Q b w;simp_all;rw[j];exact⟨_,_,rfl,trivial⟩;rw[h];exact⟨_,_,rfl,trivial⟩
def FQ(d:X.Q.globals=#[])a b w:∃h f,(Op.twoPlaces a b).run X.Q w=.halt h f/\bad h:=by
 unfold Op.twoPlaces;simp only[ZhV,Zjo,ZhU,d];rw[Zhi Z1];exact⟨_,_,rfl,trivial⟩
def Z2H(g:X.Q.globals=#[])k a b w:∃h d,(Op.addrSub k a b).run X.Q w=.halt h d/\bad h:=by
 let⟨h,d,e,f⟩:=FQ g a b w;exact FP e f
def Z2G(g:X.Q.globals=#[])op a b w:∃h d,(Op.addrCmp op a b).run X.Q w=.halt h d/\bad h:=by
 let⟨h,d,e,f⟩:=FQ g a b w;exact FP e f
def B7 a:X.Img Eq V (byteOf a)<|byteOf<|ZW X.ρ a:=by
 unfold byteOf;cases d:a.spot with
 |some s=>
  simp[ZW,d];exact .pure rfl
 |none=>
  simp[ZW,d];refine .bind WO ?_;rintro f _ _- ⟨rfl,rfl⟩;refine .bind (Ie (λx w=>⟨_,w,rfl,trivial⟩) λV=>.pure rfl) ?_;rintro g _ _- -;refine Bk (λw=>⟨_,w,rfl,trivial⟩) λx=> ?_;let⟨e,c⟩:=x;dsimp only;rw[zD,zC,jZ,show X.P.depth=X.Q.depth from rfl];split;exact .pure rfl;cases byteOfCell X.Q X.Q.depth e _ with
  |none=>exact ZE _ _
  |some b=>exact .pure rfl
def Z2I k a n w(f:w.heap[a.block]?=J hid):∃h g,(Op.addrMod k a n).run X.Q w=.halt h g/\bad h:=by
 have d:w.shape? a.block=U:=by simp[World.shape?,f,hid]
 unfold Op.addrMod;simp only[ZhV,Zlp,d];exact⟨_,_,rfl,trivial⟩
def Z5g k a n:X.Img X.Rv V (Op.addrMod k a n)<|Op.addrMod k (ZW X.ρ a) n:=by
 refine Bk (λw=>⟨_,w,rfl,trivial⟩) λx=> ?_;let⟨e,c⟩:=x;dsimp only;refine .bind (VR e) ?_;rintro d i _-rfl;split;exact Xr Z1 _;refine .bind (B7 a) ?_;rintro f b _-rfl;exact .pure ZgR
def Be k a n:X.Img X.Rv V (do Op.addrMod k (<-behindNumber a).1 n) (do Op.addrMod k (<-behindNumber (ZW X.ρ a)).1 n):=
 Ho (k:=λq=>Op.addrMod k q.1 n) (k':=λq=>Op.addrMod k q.1 n) (λw d=>Z2I k a n w d) λV a l=>Z5g k a n
def J9 op k x y:X.Img Eq V (Op.Complex.arith op k x y)<|Op.Complex.arith op k x y:=by
 refine .bind (Hw op k x y) ?_;rintro a v _-rfl;cases v<;>first|exact ZE _ _|skip
 simp[Zu];exact .pure rfl
def B8 op k x y:X.Img Eq V (Op.Complex.cmp op k x y)<|Op.Complex.cmp op k x y:=by
 refine .bind (Hx op k x y) ?_;rintro a v _-rfl;exact B6 v
def Z4H s x d:X.Img Eq V (Op.Complex.conv s x d)<|Op.Complex.conv s x d:=by
 unfold Op.Complex.conv;split;exact .pure rfl
 .have:X.Img X.Rv V (Conv.floatToFloat s x d)<|Conv.floatToFloat s x d:=by
   unfold Conv.floatToFloat;repeat' first
    |exact .pure (by simp[Cx.Rv,Zu])
    |(refine .bind (Uy _) ?_;rintro _ _ _-rfl)
    |split
    |dsimp only
  refine .bind this ?_;rintro a v _-rfl;cases v<;>first|exact ZE _ _|skip
  simp[Zu];exact .pure rfl
open Go.Op.Complex in
def LI(a b c d e f:Nat):Sem<|Nat×Nat:=do
 let zero:=(<-cmp .eql .f64 c 0)&&(<-cmp .eql .f64 d 0)
 if !(isNaN e&&isNaN f)then pure (e,f)
 else if zero&&(!isNaN a|| !isNaN b)then
  pure (<-mul (copysign inf c) a,<-mul (copysign inf c) b)
 else if(isInf a||isInf b)&&isFinite c&&isFinite d then
  corrected inf (inf2one a) (inf2one b) c d
 else if(isInf c||isInf d)&&isFinite a&&isFinite b then
  corrected 0 a b (inf2one c) (inf2one d)
 else pure (e,f)
open Go.Op.Complex in
def Z8G(a b c d:Nat):quotient a b c d=(do
  if<-cmp .geq .f64 (abs c) (abs d)then do
   let f<-quo d c
   let g<-add c (<-mul f d)
   LI a b c d (<-quo (<-add a (<-mul b f)) g) (<-quo (<-sub b (<-mul a f)) g)
  else do
   let f<-quo c d
   let g<-add d (<-mul f c)
   LI a b c d (<-quo (<-add (<-mul a f) b) g) (<-quo (<-sub (<-mul b f) a) g)):=rfl
def Z4M op k a b c d:X.Img X.Rv V (Op.complexOp op k a b c d)<|Op.complexOp op k a b c d:=by
 have j:∀V a b c d,X.Img Eq V (Op.Complex.product a b c d)<|Op.Complex.product a b c d:=λV a b c d=>by
  unfold Op.Complex.product Op.Complex.sub Op.Complex.mul Op.Complex.add;repeat' first
   |exact .pure rfl
   |(refine .bind (J9 _ _ _ _) ?_;rintro _ _ _-rfl)
 have n:∀V s a b c d,X.Img Eq V (Op.Complex.corrected s a b c d)<|Op.Complex.corrected s a b c d:=λV s a b c d=>by
  unfold Op.Complex.corrected Op.Complex.sub Op.Complex.mul Op.Complex.add;repeat' first
   |exact .pure rfl
   |(refine .bind (J9 _ _ _ _) ?_;rintro _ _ _-rfl)
 have h:∀V a b c d e f,X.Img Eq V (LI a b c d e f)<|LI a b c d e f:=λV a b c d e f=>by
  unfold LI Op.Complex.mul;refine .bind (B8 _ _ _ _) ?_;rintro g z _-rfl;refine .bind (B8 _ _ _ _) ?_;rintro g o _-rfl;dsimp only;split;exact .pure rfl;split;refine .bind (J9 _ _ _ _) ?_;rintro g z _-rfl;refine .bind (J9 _ _ _ _) ?_;rintro g z _-rfl;exact .pure rfl;split;simp_all;split;simp_all;exact .pure rfl
 have l:∀V a b c d,X.Img Eq V (Op.Complex.quotient a b c d)<|Op.Complex.quotient a b c d:=λV a b c d=>by
  rw[Z8G];unfold Op.Complex.quo Op.Complex.sub Op.Complex.mul Op.Complex.add;refine .bind (B8 _ _ _ _) ?_;rintro g z _-rfl;split;all_goals
   repeat' first
    |exact h _ _ _ _ _ _ _
    |(refine .bind (J9 _ _ _ _) ?_;rintro _ _ _-rfl)
 unfold Op.complexOp;cases op<;>first|exact ZE _ _|skip
 all_goals
  repeat' first
   |exact .pure (by simp[Cx.Rv,Zu])
   |(refine .bind (J9 _ _ _ _) ?_;rintro _ _ _-rfl)
   |(refine .bind _ ?_;rintro _ _ _-rfl)
   |(refine .bind (Z4H _ _ _) ?_;rintro _ _ _-rfl)
   |(refine .bind (j _ _ _ _ _) ?_;rintro _ ⟨_,_⟩ _-rfl)
   |(refine .bind (l _ _ _ _ _) ?_;rintro _ ⟨_,_⟩ _-rfl)
end
end
section
def vs:Value->Nat
 |.int .. =>0
 |.float .. =>1
 |.complex .. =>2
 |.string _=>3
 |.pointer _=>4
 |_=>5
def Ec ρ v:vs (Zu ρ v)=vs v:=by
 cases v with
 |pointer q=>cases q<;>simp[vs]
 |slice q n c=>cases q<;>simp[Zu,vs]
 |map q=>cases q<;>simp[Zu,vs]
 |chan q=>cases q<;>simp[Zu,vs]
 |_=>simp[Zu,vs]
def sc(x y:Zg):Prop:=vs x=vs y/\vs x<4
def zN{t x y}(h:¬sc x y):binOp .eql t x y=(do pure (.bool<|<-Op.equal t x y):Sem Value):=by
 cases x<;>cases y<;>first|rfl|exact absurd ⟨rfl,Zj7 rfl⟩ h
def zO{t x y}(h:¬sc x y):binOp .neq t x y=(do pure (.bool<|!(<-Op.equal t x y)):Sem Value):=by
 cases x<;>cases y<;>first|rfl|exact absurd ⟨rfl,Zj7 rfl⟩ h
def gs:Value->Nat
 |.nilIface=>0
 |.agg _=>1
 |_=>2
theorem Hd ρ v:gs (Zu ρ v)=gs v:=by
 cases v with
 |pointer q=>cases q<;>simp[gs]
 |slice q n c=>cases q<;>simp[Zu,gs]
 |map q=>cases q<;>simp[Zu,gs]
 |chan q=>cases q<;>simp[Zu,gs]
 |_=>simp[Zu,gs]
def yA op t x y a b(h:¬(gs a=gs b/\gs a<2)):eqGuard op t x y a b=pure ():=by
 unfold eqGuard;generalize (!match op with|.eql=>xk|.neq=>xk|_=>xw)=g;cases g;simp;cases a<;>cases b<;>first|rfl|exact absurd ⟨rfl,Zj7 rfl⟩ h
 rfl
section
variable {X:Cx}{V:Zb}
def TY{s}a(h:s=unsupported .addressObserved):X.Img X.Rv V s a:=by
 simp_all[Xr]
def Z4w t p y(f:X.Q.underlying t≠J .unsafePointer):X.Img X.Rv V (do if(<-underlying t) matches .unsafePointer then movedPointer t (.pointer p) y else movedNumber t (.pointer p) y)
  (do if(<-underlying t) matches .unsafePointer then movedPointer t (Zu X.ρ<|.pointer p) (Zu X.ρ y)else movedNumber t (Zu X.ρ<|.pointer p)<|Zu X.ρ y):=by
 refine .bind (Wg t) ?_;rintro a d _- ⟨rfl,h⟩;simp_all[Bf]
def Z4B op t p k n(d:op≠.eql/\op≠.neq)(h:X.Q.underlying t≠J .unsafePointer):
  X.Img X.Rv V (binOp op t (.pointer p)<|.int k n) (binOp op t (Zu X.ρ<|.pointer p)<|.int k n):=by
 have f:=Z4w (X:=X) (V:=V) t p (.int k n) h;have g:=Bf (X:=X) (V:=V) t p<|.int k<|-n;rw[Wp]at f g;obtain _|a:=p;rw[UG]at*;cases op<;>first|exact absurd rfl d.1|exact absurd rfl d.2|exact TY _ rfl|exact f|exact g
 rw[WM]at*;cases op<;>first|exact absurd rfl d.1|exact absurd rfl d.2|exact TY _ rfl|exact f|exact g|exact Be k a n|exact Be k a _
def Z4y op t p k n(d:op≠.eql/\op≠.neq)(g:X.Q.underlying t≠J .unsafePointer):
  X.Img X.Rv V (binOp op t (.int k n)<|.pointer p) (binOp op t (.int k n)<|Zu X.ρ<|.pointer p):=by
 have f:=Bf (X:=X) (V:=V) t p<|.int k n;rw[Wp]at f;obtain _|a:=p;rw[UG]at*;cases op<;>first|exact absurd rfl d.1|exact absurd rfl d.2|exact TY _ rfl|exact f
 rw[WM]at*;cases op<;>first|exact absurd rfl d.1|exact absurd rfl d.2|exact TY _ rfl|exact f|exact Be k a _
def Z4C(f:X.Q.globals=#[])op t p q(d:op≠.eql/\op≠.neq)g:X.Img X.Rv V (binOp op t (.pointer p)<|.pointer q) g:=by
 obtain _|a:=p;cases q<;>cases op<;>first|exact absurd rfl d.1|exact absurd rfl d.2|exact TY _ rfl
 obtain _|b:=q;cases op<;>first|exact absurd rfl d.1|exact absurd rfl d.2|exact TY _ rfl
 cases op<;>first|exact absurd rfl d.1|exact absurd rfl d.2|exact TY _ rfl|exact .ly _ (FR f a b _<|Z2H f _)|exact .ly _<|FR f a b _<|Z2G f _
def Z2S op t p y(a:op≠.eql/\op≠.neq)(d:vs y≠0/\vs y≠4):binOp op t (.pointer p) y=unsupported .addressObserved:=by
 cases y<;>first
  |exact absurd rfl d.1
  |exact absurd rfl d.2
  |(cases p<;>cases op<;>first|rfl|exact absurd rfl a.1|exact absurd rfl a.2)
def Z2R op t p y(a:op≠.eql/\op≠.neq)(d:vs y≠0/\vs y≠4):binOp op t y (.pointer p)=unsupported .addressObserved:=by
 cases y<;>first
  |exact absurd rfl d.1
  |exact absurd rfl d.2
  |(cases p<;>cases op<;>first|rfl|exact absurd rfl a.1|exact absurd rfl a.2)
def Z2Q op t x y(a:op≠.eql/\op≠.neq)(hx:vs x≠4)(d:vs y≠4)(h:¬sc x y):binOp op t x y=stuck "BinOp: no such operator on these operands" :=by
 cases x<;>first
  |exact absurd rfl hx
  | (cases y<;>first
    |exact absurd rfl d
    |exact absurd ⟨rfl,Zj7 rfl⟩ h
    |(cases op<;>first|rfl|exact absurd rfl a.1|exact absurd rfl a.2))
def Eb{v}(h:vs v=4):∃p,v=.pointer p:=by cases v<;>first|exact⟨_,rfl⟩|cases h
def Z07{v}(h:vs v=0):∃k n,v=.int k n:=by cases v<;>first|exact⟨_,_,rfl⟩|cases h
def Z4x(o:X.Q.globals=#[])op t x y(g:op≠.eql/\op≠.neq)(l:X.Q.underlying t≠J .unsafePointer)(h:¬sc x y):X.Img X.Rv V (binOp op t x y)<|binOp op t (Zu X.ρ x)<|Zu X.ρ y:=by
 by_cases j:vs x=4;obtain⟨p,rfl⟩:=Eb j;by_cases d:vs y=4;obtain⟨q,rfl⟩:=Eb d;simp_all[Z4C];by_cases f:vs y=0;obtain⟨k,n,rfl⟩:=Z07 f;simp_all[Wp,Z4B];simp_all[TY,Z2S];by_cases d:vs y=4;obtain⟨q,rfl⟩:=Eb d;by_cases a:vs x=0;obtain⟨k,n,rfl⟩:=Z07 a;simp_all[Wp,Z4y];simp_all[TY,Z2R];simp_all[Z2Q,ZE]
def Z4D op t x y(h:sc x y):X.Img X.Rv V (binOp op t x y)<|binOp op t (Zu X.ρ x)<|Zu X.ρ y:=by
 let⟨j,l⟩:=h;cases x<;>first|exact absurd l (ZkM rfl)|skip
 cases y<;>first|cases j|skip
 rename_i k a f b;rw[Wp,Wp];by_cases g:k=f;subst g;have e:∀s:Sem Value,(if k≠k then stuck "BinOp: operands of different kinds" else s)=s:=by simp
 cases op<;>first
  |(unfold binOp;dsimp only;exact Ib _ _ _ _ _)
  |(unfold binOp;dsimp only;rw[e];first|exact Hm _ _ _ _|exact Z4P _ _ _ _|exact Hq _ _ _ _|exact Z4L _ _ _)
 have e:∀s:Sem Value,(if k≠f then stuck "BinOp: operands of different kinds" else s)=stuck "BinOp: operands of different kinds" :=by simp_all
 cases op<;>first
  |(unfold binOp;dsimp only;exact Ib _ _ _ _ _)
  |(unfold binOp;dsimp only;rw[e];exact ZE _ _)
 cases y<;>first|cases j|skip
 rename_i k a f b;simp[Zu];by_cases g:k=f;subst g;have e:∀s:Sem Value,(if k≠k then stuck "BinOp: operands of different kinds" else s)=s:=by simp
 cases op<;>(unfold binOp;dsimp only;rw[e];first|exact Hw _ _ _ _|exact Hx _ _ _ _);have e:∀s:Sem Value,(if k≠f then stuck "BinOp: operands of different kinds" else s)=stuck "BinOp: operands of different kinds" :=by simp_all
 simp_all[binOp,ZE];cases y<;>first|cases j|skip
 rename_i k a b f c d;simp[Zu];by_cases g:k=f;subst g;have e:∀s:Sem Value,(if k≠k then stuck "BinOp: operands of different kinds" else s)=s:=by simp
 cases op<;>(unfold binOp;dsimp only;rw[e];exact Z4M _ _ _ _ _ _);have e:∀s:Sem Value,(if k≠f then stuck "BinOp: operands of different kinds" else s)=stuck "BinOp: operands of different kinds" :=by simp_all
 simp_all[binOp,ZE];cases y<;>first|cases j|skip
 simp_all[Si,binOp,Ic]
def Z4V n t x y(a:X.Q.underlying t=J .bool):X.Img Eq V (Op.equalIn (n+1) t x y)<|Op.equalIn (n+1) t (Zu X.ρ x)<|Zu X.ρ y:=by
 refine .bind (Wg t) ?_;rintro f d _- ⟨rfl,h⟩;rw[a]at h;cases h;cases x<;>cases y<;>first|exact ZE _ _|(rw[Uk,Uk];exact .pure rfl)
def Cx.lj(X:Cx)(t:Zh):Prop:=(∃k,X.IntT t k)\/X.Q.underlying t=J .bool
def Hv(g:X.Q.globals=#[])t x y(a:X.lj t):X.Img Eq V (Op.equal t x y)<|Op.equal t (Zu X.ρ x)<|Zu X.ρ y:=by
 obtain⟨k,a⟩|a:=a;have h:=Ht (X:=X) (V:=V) 9999 t x y a.d g a.n;have f:X.Img Eq V (Op.equal t x y>>=λb=>pure b) (Op.equal t (Zu X.ρ x) (Zu X.ρ y)>>=λb=>pure b):=by
  refine .bind h ?_;rintro j b _- ⟨rfl,-⟩;exact .pure rfl
 simpa using f;exact Z4V 9999 t x y a
def Z4A(g:X.Q.globals=#[])op t x y(a:X.lj t):X.Img X.Rv V (binOp op t x y)<|binOp op t (Zu X.ρ x)<|Zu X.ρ y:=by
 have o:X.Q.underlying t≠J .unsafePointer:=by
  obtain⟨k,a⟩|a:=a;rw[a.d];simp;grind
 by_cases h:sc x y;simp_all[Z4D];have f:¬sc (Zu X.ρ x) (Zu X.ρ y):=by unfold sc at*;rwa[Ec,Ec]
 by_cases l:op=.eql;subst l;rw[zN h,zN f];refine .bind (Hv g t x y a) ?_;rintro j b _-rfl;exact .pure ZgR;by_cases n:op=.neq;subst n;rw[zO h,zO f];refine .bind (Hv g t x y a) ?_;rintro j b _-rfl;exact .pure ZgR;simp_all[Z4x]
def qh:TypeDesc->Value->Bool
 |.pointer _,.pointer U=>xk
 |.interface _,.nilIface=>xk
 |.slice _,.slice U _ _=>xk
 |.map _ _,.map U=>xk
 |.func _ _ _,.nilFunc=>xk
 |_,_=>xw
def Mn ρ{d y}(h:qh d y=xk):Zu ρ y=y/\vs y≥4:=by
 cases y with
 |pointer q=>cases q<;>first|(cases d<;>cases h;done)|simp_all[vs]
 |slice q n c=>cases q<;>first|(cases d<;>cases h;done)|simp_all[Zu,vs]
 |map q=>cases q<;>first|(cases d<;>cases h;done)|simp_all[Zu,vs]
 |nilFunc=>simp_all[vs]
 |nilIface=>simp_all[vs]
 |_=>cases d<;>cases h
def Hu t x y{d}(f:X.Q.underlying t=J d)(a:qh d y=xk):X.Img Eq V (Op.equal t x y)<|Op.equal t (Zu X.ρ x) y:=by
 refine .bind (Wg t) ?_;rintro g k _- ⟨rfl,h⟩;rw[f]at h;cases h;cases d<;>first|(cases y<;>cases a;done)|skip
 all_goals
  cases y<;>first|(cases a;done)|skip
 .rename_i q;cases q<;>first|(cases a;done)|skip
  cases x<;>first|exact ZE _ _|skip
  rename_i p;cases p<;>(simp;exact .pure rfl)
 .rename_i q n c;cases q<;>first|(cases a;done)|skip
  cases x<;>first|exact ZE _ _|skip
  rename_i p l j;cases p<;>(simp[Zu];exact .pure rfl)
 .rename_i q;cases q<;>first|(cases a;done)|skip
  cases x<;>first|exact ZE _ _|skip
  rename_i p;cases p<;>(simp[Zu];exact .pure rfl)
 cases x<;>first|exact ZE _ _|(simp[Zu];exact .pure rfl)
 cases x<;>first|exact ZE _ _|(simp;exact .pure rfl)
def Z4z op(a:op=.eql\/op=.neq)t x y{d}(j:X.Q.underlying t=J d)(f:qh d y=xk):X.Img X.Rv V (binOp op t x y)<|binOp op t (Zu X.ρ x) y:=by
 let⟨_,l⟩:=Mn X.ρ f;have h:¬sc x y:=λh=>by have:=h.1;have:=h.2;omega
 have g:¬sc (Zu X.ρ x) y:=by unfold sc at*;rwa[Ec]
 obtain rfl|rfl:=a;rw[zN h,zN g];refine .bind (Hu t x y j f) ?_;rintro k b _-rfl;exact .pure ZgR;rw[zO h,zO g];refine .bind (Hu t x y j f) ?_;rintro k b _-rfl;exact .pure ZgR
def Z52 op t x y a b(f:X.lj t):X.Img Eq V (eqGuard op t x y a b)<|eqGuard op t x y (Zu X.ρ a)<|Zu X.ρ b:=by
 have n:X.Q.eqGuardType X.Q.depth t=xw/\X.P.eqGuardType X.P.depth t=xw:=by
  have e:X.Q.depth=(X.Q.depth-1)+1:=by simp[Program.depth]
  have o:X.P.depth=(X.Q.depth-1)+1:=e;rw[o,e];unfold Program.eqGuardType;rw[X.dc];obtain⟨k,f⟩|f:=f;rw[f.d];simp;rw[f];simp
 have q:∀V,X.Img (λa b=>a=b/\a=xw) V (Op.eqGuardIn Op.maxDepth t .nilIface .nilIface)<|Op.eqGuardIn Op.maxDepth t .nilIface .nilIface:=λV=>by
  refine .bind (Wg t) ?_;rintro j u _- ⟨rfl,h⟩;obtain⟨k,f⟩|f:=f;rw[f.d]at h;cases h;exact .pure ⟨rfl,rfl⟩;rw[f]at h;cases h;exact .pure ⟨rfl,rfl⟩
 by_cases h:gs a=gs b/\gs a<2
 .let⟨l,p⟩:=h;cases a<;>first|exact absurd p (ZkM rfl)|skip
  .cases b<;>first|cases l|skip
   unfold eqGuard;generalize (!match op with|.eql=>xk|.neq=>xk|_=>xw)=g;cases g
   .simp;repeat' first
     |exact .pure rfl
     |(refine .bind (q V) ?_;rintro j b _- ⟨rfl,rfl⟩;exact .pure rfl)
     |split
   exact .pure rfl
  cases b<;>first|cases l|skip
  rw[WF,WF];unfold eqGuard;generalize (!match op with|.eql=>xk|.neq=>xk|_=>xw)=g;cases g;simp;refine .bind WO ?_;rintro j _ _- ⟨rfl,rfl⟩;refine .bind WO ?_;rintro r _ _- ⟨rfl,rfl⟩;rw[n.1,n.2];exact .pure rfl;exact .pure rfl
 rw[yA op t x y a b h,yA op t x y _ _ (by grind [Hd])];exact .pure rfl
def Z51 op t x c a b(j:gs b≠1):X.Img Eq V (eqGuard op t x (.const c) a b)<|eqGuard op t x (.const c) (Zu X.ρ a) b:=by
 by_cases h:gs a=gs b/\gs a<2;let⟨d,f⟩:=h;cases a<;>first|exact absurd f (ZkM rfl)|exact absurd d.symm j|skip
 cases b<;>first|cases d|skip
 unfold eqGuard;generalize (!match op with|.eql=>xk|.neq=>xk|_=>xw)=g;cases g;simp;exact .pure rfl;exact .pure rfl;rw[yA op t x _ a b h,yA op t x _ _ _ (by rwa[Hd])];exact .pure rfl
end
end
section
def JG(ρ:Zl):Place->Place
 |.val v=>.val<|Zu ρ v
 |.var a=>.var<|ZW ρ a
section
variable {X:Cx}{V:Zb}
def yH(t:Zh)(x:Place):X.Img X.Rv V (x.get t)<|(JG X.ρ x).get t:=by
 cases x with
 |val v=>exact .pure rfl
 |var a=>exact KY t a
def Z5m(a:Addr)(c b:Nat):X.Img (λa b=>b=ZW X.ρ a) V (partAt a c b)<|partAt (ZW X.ρ a) c b:=by
 unfold partAt;refine .bind (B7 a) ?_;rintro d n _-rfl;dsimp only;have h:=B7 (X:=X) (V:=d) {block:=a.block,off:=a.off+c,spot:=U};refine .bind h ?_;rintro f m _-rfl;refine .pure ?_;split<;>rfl
def Bb(a:Addr)(f:Field):X.Img (λa b=>b=ZW X.ρ a) V (fieldPlace a f)<|fieldPlace (ZW X.ρ a) f:=by
 unfold fieldPlace;refine .bind (VQ _) ?_;rintro d n _-rfl;split;exact Z5m _ _ _;rw[Qs];exact .pure rfl
def KW:∀(l:List FieldStep) (V:Zb) (t:Zh) (x:Place),X.Img (λa b=>b=(a.1,JG X.ρ a.2)) V (follow l t x) (follow l t<|JG X.ρ x)
 | [],V,t,x=>.pure rfl
 |s::g,V,t,x=>by
  unfold follow;refine .bind (Vf _) ?_;rintro n d _-rfl;cases d<;>first|exact ZE _ _|skip
  rename_i h;dsimp only;cases h[s.index]? with
  |none=>exact ZE _ _
  |some f=>
   dsimp only;split;refine .bind (yH t x) ?_;rintro o v _-rfl;refine .bind (B5 v) ?_;rintro p a _-rfl;refine .bind (Bb a f) ?_;rintro j b _-rfl;exact KW g j f.type<|.var b;cases x with
   |var a=>
    refine .bind (Bb a f) ?_;rintro j b _-rfl;exact KW g j f.type<|.var b
   |val v=>
    cases v<;>first|exact ZE _ _|skip
    rename_i k;simp only[JG,WF];refine .bind (yK f.type k f.offset) ?_;rintro j b _-rfl;exact KW g j f.type<|.val b
def Z5x(ts:Array TypeId)(t:Zh)(v:Zg)(a b:ByteArray):X.Img X.Rv V (Builtin.ssaWrapNilChk_ ts t #[v,.string a,.string b])<|Builtin.ssaWrapNilChk_ ts t #[Zu X.ρ v,.string a,.string b]:=by
 unfold Builtin.ssaWrapNilChk_;dsimp only;cases v<;>first|exact ZE _ _|skip
 rename_i p;cases p with
 |some p=>rw[WM];exact .pure (WM _ _).symm
 |none=>
  rw[UG];refine .bind (Uy _) ?_;rintro f n _-rfl;split;exact TX;cases ts[0]? with
  |none=>exact ZE _ _
  |some pt=>
   dsimp only;refine .bind (Vf _) ?_;rintro g d _-rfl;cases d<;>first|exact ZE _ _|skip
   dsimp only;refine .bind (VR _) ?_;rintro h i _-rfl;grind [ZE,String.fromUTF8?,Bi,Xr]
def I9(f:Zh)(x:Place)(b:Bool)(o:Option String):X.Img X.Rv V (receiverAt f x b o)<|receiverAt f (JG X.ρ x) b o:=by
 unfold receiverAt;refine .bind (Vf _) ?_;rintro g d _-rfl
 have ptr:∀(V:Zb) (elem:Zh),X.Img X.Rv V (do
   let ptr<-x.get f
   let ptr<-match o with
    |some name=>Builtin.ssaWrapNilChk_ #[f] f #[ptr,strVal "",strVal name]
    |none=>pure ptr
   loadVar elem (<-asAddr ptr)) (do
   let ptr<-(JG X.ρ x).get f
   let ptr<-match o with
    |some name=>Builtin.ssaWrapNilChk_ #[f] f #[ptr,strVal "",strVal name]
    |none=>pure ptr
   loadVar elem (<-asAddr ptr)):=λV elem=>by
  refine .bind (yH f x) ?_;rintro h v _-rfl;have last:∀V u,X.Img X.Rv V (do loadVar elem (<-asAddr u)) (do loadVar elem (<-asAddr (Zu X.ρ u))):=λV u=>by
   refine .bind (B5 u) ?_;rintro k a _-rfl;exact KY _ _
  obtain _|name:=o;simp_all;refine .bind (Z5x _ _ _ _ _) ?_;rintro j u _-rfl;simp_all
 cases b with
 |true=>
  cases x with
  |val v=>cases d<;>first|exact .pure rfl|exact ZE _ _
  |var a=>cases d<;>first|exact KY _ _|exact .pure (WM _ _).symm
 |false=>
  cases d<;>first|exact ptr g _|skip
  all_goals cases x<;>exact yH f _
def Z5n(t:Zh)(v:Zg)(a:Array FieldStep)(b:Bool):X.Img X.Rv V (receiverVia t v a b)<|receiverVia t (Zu X.ρ v) a b:=by
 unfold receiverVia;refine .bind (KW a.toList V t<|.val v) ?_;rintro d ⟨f,x⟩ _-rfl;exact I9 _ _ _ _
def I4:∀(n:Nat) (V:Zb) (t:Zh) (v:Zg) (name:String),X.Img (λa b=>b=(a.1,Zu X.ρ a.2)) V (method n t v name) (method n t (Zu X.ρ v) name)
 |0,V,t,v,name=>Xr (λ_ h=>Zgt) _
 |n+1,V,t,v,name=>by
  unfold method;refine .bind (VR t) ?_;rintro j i _-rfl;cases i.methods.find? (·.name==name)with
  |none=>exact ZE _ _
  |some m=>
   dsimp only;refine .bind (KW m.path.toList j t<|.val v) ?_;rintro l ⟨g,x⟩ _-rfl;dsimp only;cases m.func with
   |none=>
    dsimp only;refine .bind (yH g x) ?_;rintro d u _-rfl;cases u<;>first|exact ZE _ _|skip
    rw[Sg];exact I4 n d _ _ _;rw[Sh];exact TX
   |some k=>
    obtain⟨f,b⟩:=k;dsimp only;refine .bind (I9 g x b _) ?_;rintro d u _-rfl;exact .pure rfl
def OM(ρ:Zl):Except (Option Bool) (TypeId×Option Value)->Except (Option Bool) (TypeId×Option Value)
 |.ok p=>.ok (p.1,p.2.map<|Zu ρ)
 |.error e=>.error e
def yG:∀(l:List FieldStep) (V:Zb) (t:Zh) (x:Option Value),X.Img (λa b=>b=OM X.ρ a) V (followBlind l t x) (followBlind l t<|x.map<|Zu X.ρ)
 | [],V,t,x=>.pure rfl
 |s::g,V,t,x=>by
  unfold followBlind;refine .bind (Vf _) ?_;rintro j d _-rfl;cases d<;>first|exact ZE _ _|skip
  rename_i h;dsimp only;cases h[s.index]? with
  |none=>exact ZE _ _
  |some f=>
   dsimp only;cases s.deref;obtain _|v:=x;exact yG g j f.type U;cases v<;>first|exact ZE _ _|skip
   rename_i n;simp only[ZhA,WF];refine .bind (yK f.type n f.offset) ?_;rintro k b _-rfl;exact yG g k f.type<|J b;obtain _|v:=x;exact .pure rfl;cases v<;>first|exact ZE _ _|skip
   rename_i p;obtain _|a:=p;simp only[ZhA,UG];exact .pure rfl;simp only[ZhA,WM];exact yG g j f.type U
def I6:∀(n:Nat) (V:Zb) (t:Zh) (v:Zg) (name:String),X.Img Eq V (nilAhead n t v name) (nilAhead n t (Zu X.ρ v) name)
 |0,V,t,v,name=>.pure rfl
 |n+1,V,t,v,name=>by
  unfold nilAhead;refine .bind (VR t) ?_;rintro a i _-rfl;cases i.methods.find? (·.name==name)with
  |none=>exact ZE _ _
  |some m=>
   dsimp only;refine .bind (yG m.path.toList a t<|J v) ?_;rintro h r _-rfl;cases r with
   |error e=>exact .pure rfl
   |ok p=>
    obtain⟨k,x⟩:=p;simp only[OM];cases m.func with
    |none=>
     obtain _|u:=x;exact .pure rfl;cases u<;>first|exact ZE _ _|skip
     simp_all[ZhA,Sg,I6];simp only[ZhA,Sh];exact .pure rfl
    |some g=>
     obtain⟨f,b⟩:=g;cases b;dsimp only;refine .bind (Vf _) ?_;rintro j d _-rfl;cases d<;>first|(cases x<;>exact .pure rfl)|skip
     obtain _|u:=x;exact .pure rfl;cases u with
     |pointer q=>cases q<;>(simp only[ZhA,Zu];exact .pure rfl)
     |slice q n c=>cases q<;>(simp only[ZhA,Zu];exact .pure rfl)
     |map q=>cases q<;>(simp only[ZhA,Zu];exact .pure rfl)
     |chan q=>cases q<;>(simp only[ZhA,Zu];exact .pure rfl)
     |_=>simp only[ZhA,Zu];exact .pure rfl
     exact .pure rfl
end
end
section
def Y0:Operand->Bool
 |.tmp _|.func _=>xk
 |.const v=>still 9 v
 |.global _=>xw
section
variable (Q:Z5)
def Uc(t:Zh):Bool:=match Q.underlying t with|some (.int _)=>xk|_=>xw
def Lk(t:Zh):Bool:=match Q.info? t with|some i=>(match i.desc with|.named n _=>n != "sync.copyChecker" |_=>xk)|none=>xk
def Bq(t:Zh):Bool:=(Uc Q t&&Lk Q t)||(match Q.underlying t with|some .bool=>xk|_=>xw)
def Jd(t:Zh):Bool:=match Q.underlying t with|some (.slice _)=>xk|_=>xw
def L2(t:Zh):Bool:=match Q.underlying t with|some (.map a _)=>Uc Q a&&Lk Q a|_=>xw
def MF(op:BinOp)(t:Zh)(y:Operand):Bool:=
 Bq Q t||((match op with|.eql|.neq=>xk|_=>xw)&&(match y with|.const v=>(match Q.underlying t with|some d=>qh d v|none=>xw)|_=>xw))
def Hg(t:Zh):Bool:=match Q.underlying t with|some (.slice _)|some (.map ..)|some (.array ..)=>xk|_=>xw
def Tb(r:Bool)(c:Call):Bool:=match c.callee with
 |.builtin .len=>c.args.size==1&&(match c.argTypes[0]? with|some t=>Hg Q t|none=>xw)
 |.builtin .append=>c.args.size==2&&(match c.argTypes[0]? with|some t=>Jd Q t|none=>xw)&&(match c.argTypes[1]? with|some t=>Jd Q t||Uc Q t|none=>xw)
 |.builtin .recover=> !r
 |.builtin .close=>c.args.size==1
 |.builtin .min|.builtin .max=>xk
 |.builtin .copy=>c.args.size==2
 |.builtin .clear=>c.args.size==1&&(match c.argTypes[0]? with|some t=>Jd Q t||L2 Q t|none=>xw)
 |.builtin _=>xw
 |.value f=>Y0 f
 |.invoke x _=>Y0 x
def XZ(r:Bool):Op->Bool
 |.move x|.assign x|.box _ x|.load _ x|.nilCheck x|.makeInterface _ x|.panic x|.extract x _=>Y0 x
 |.field _ x _|.fieldAddr _ x _=>Y0 x
 |.pick a b c=>Y0 a&&Y0 b&&Y0 c
 |.alloc _=>xk
 |.build _ j|.buildSlice _ _ j=>j.all λp=>Y0 p.2
 |.store _ a v|.index _ a v|.indexAddr _ a v=>Y0 a&&Y0 v
 |.binOp op t x y _=>Y0 x&&Y0 y&&MF Q op t y
 |.unOp _ _ x=>Y0 x
 |.makeSlice _ l c=>Y0 l&&Y0 c
 |.convert s d x=>Y0 x&&Uc Q s&&Uc Q d
 |.makeFunc fn a b=>(match fn with|.yield _=>xw|_=>xk)&&a.all Y0&&b.all Y0
 |.makeMap _ o=>o.all Y0
 |.slice t x l h m=>Y0 x&&l.all Y0&&h.all Y0&&m.all Y0&&Jd Q t
 |.lookup t x y _=>Y0 x&&Y0 y&&L2 Q t
 |.mapUpdate t x y z|.insert t x y z=>Y0 x&&Y0 y&&Y0 z&&L2 Q t
 |.typeAssert x _ _ ok=>Y0 x&&ok
 |.call c=>c.args.all Y0&&Tb Q r c
 |.defer c=> !r&&c.args.all Y0&&(match c.callee with|.builtin _=>xw|.value f=>Y0 f|.invoke x _=>Y0 x)
 |.send g v=>Y0 g&&Y0 v
 |.recv _ g _=>Y0 g
 |.go c=>c.args.all Y0&&(match c.callee with|.value (.func _)=>xk|_=>xw)
 |_=>xw
def jJ:Op->Bool
 |.send .. |.recv .. |.go _=>xk
 |_=>xw
def X1:Bool->Code->Bool
 |r,.region _ d _=>d.all λo=>XZ Q r o.op
 |r,.seq a b=>X1 r a&&X1 r b
 |r,.cond c a b=>Y0 c&&X1 r a&&X1 r b
 |r,.block _ c|r,.loop c|r,.scope c=>X1 r c
 |_,.rangeFunc f _ a b=>Y0 f&&X1 xk a&&X1 xk b
 |_,_=>xk
end
def Jc:Code->Bool
 |.ret|.exit _|.goto _=>xk
 |_=>xw
def Ue(d:Deferred):Bool:=match d.target with
 |.builtin .. |.coroexit _=>xw
 |_=>xk
abbrev Zq:=FuncId
def Cx.se(X:Cx)(f:Zq):Prop:=∃fn c,X.Q.funcs[f]?=J fn/\X.fs[f]?=J fn/\fn.body=J c/\X1 X.Q xw c=xk
def Cx.oy(X:Cx)(f:Zq):Prop:=X.se f\/(X.Q.funcs[f]?=U/\X.fs[f]?=U)\/∃fn a,X.Q.funcs[f]?=J fn/\X.fs[f]?=J a/\a.results=fn.results
structure Cx.Ok (X:Cx):Prop where
 zero:X.Zero
 nu:X.Q.globals=#[]
 kl:∀l,X.KL l↔(X1 X.Q xk l.assign=xk/\X1 X.Q xk l.body=xk/\l.pending.all Jc=xk/\X.oy l.fn)
 kd:∀d,X.KD d↔Ue d=xk
 fn:∀(f:Zq) (fn:Func),X.Q.funcs[f]?=J fn->(fn.name= "?" /\fn.origin= "?" /\fn.body=U)\/((fn.name== "runtime.NumGoroutine")=xw/\X.fs[f]?=J fn/\∃c,fn.body=J c/\X1 X.Q xw c=xk)
def Cx.NR(X:Cx)(rd:Bool):Next->Next->Prop
 |.value v,b=>b=.value (Zu X.ρ v)
 |.skip,b=>b=.skip
 |.enter f args,b=>b=.enter f (args.map<|Zu X.ρ)/\X.se f
 |.round l f g a c,b=>b=.round (X.ρ l) f (g.map<|Zu X.ρ) a c/\X1 X.Q xk a=xk/\X1 X.Q xk c=xk/\X.oy f
 |.defer d,b=>b=.defer (Xg X.ρ d)/\Ue d=xk
 |.recover,b=>b=.recover/\rd=xw
 |_,_=>False
theorem Z9u:Extern.allNextRows.lookup "?" =U:=by kernel_rfl
theorem Zfl:Extern.allGenericRows.lookup "?" =U:=by kernel_rfl
theorem Zfm:Extern.allTypedRows.lookup "?" =U:=by kernel_rfl
theorem Z9v:Extern.allRows.lookup "?" =U:=by kernel_rfl
section
variable {X:Cx}{V:Zb}{rd:Bool}
theorem B9(ok:X.Ok)f args:X.Img (X.NR rd) V (callFunc f args)<|callFunc f<|args.map<|Zu X.ρ:=by
 unfold callFunc;cases g:X.Q.funcs[f]? with
 |none=>
  refine .ly _ λw=>⟨.stuck "call: no such function",w,?_,trivial⟩;simp only[ZhV,Zjo,ZhU,g];rfl
 |some fn=>
  obtain⟨a,d,h⟩|⟨a,d,c,h,l⟩:=ok.fn f fn g;refine .ly _ λw=>⟨.unsupported<|.extern fn.name,w,?_,trivial⟩;have j:Extern.findNext fn=U:=by unfold Extern.findNext;simp only[a,d,Z9u];rfl
  have k:Extern.find fn=U:=by unfold Extern.find;simp only[a,d,Z9v];rfl
  simp[g,a,h,j,k];rfl;refine .bind WO ?_;rintro n _ _- ⟨rfl,rfl⟩;rw[show X.P.funcs[f]?=J fn from d,g];simp[a,h,Option.isNone_some];exact .pure ⟨rfl,fn,c,g,d,h,l⟩
theorem yX{α β:Type}(f:α->β)x:(#[x]:Array α).map f=#[f x]:=Z1
theorem Ba(ok:X.Ok)v name args:X.Img (X.NR rd) V (callMethod v name args)<|callMethod (Zu X.ρ v) name<|args.map<|Zu X.ρ:=by
 unfold callMethod;cases v<;>first|exact ZE _ _|skip
 rw[Sg];refine .bind WO ?_;rintro d _ _- ⟨rfl,rfl⟩;refine .bind (I4 _ _ _ _ _) ?_;rintro a ⟨f,u⟩ _-rfl;have:=B9 (rd:=rd) (V:=a) ok f<|#[u]++args;simp_all;simp_all[Sh,TX]
theorem Z4K ts t v:X.Img X.Rv V (Builtin.close_ ts t #[v])<|Builtin.close_ ts t #[Zu X.ρ v]:=by
 cases v<;>first|exact ZE _ _|skip
 rename_i r;obtain _|r:=r;rw[show Zu X.ρ _=.chan U by simp[Zu]];exact Bi _;rw[show Zu X.ρ _=.chan (J<|X.ρ r)by simp[Zu]];refine .get (λw=>⟨_,w,rfl,trivial⟩) λo a=> ?_;cases o<;>first|exact ZE _ _|exact a.elim
theorem Z0v ρ:∀(f:List Tmp) args (d:Ze),
  (f.zip<|args.map<|Zu ρ).foldl (λd x=>d.setIfInBounds x.1 x.2) (d.map<|Zu ρ)=((f.zip args).foldl (λd x=>d.setIfInBounds x.1 x.2) d).map (Zu ρ)
 | [],_,_=>rfl
 |_::_,[],_=>rfl
 |p::f,a::args,d=>by
  simp;rw[map_set];exact Z0v ρ f args _
theorem KX{α β RA l}{f:Loop->Sem α}{a:Loop->Sem β}(h:∀r,X.KL r->X.Img RA (l::V) (f r) (a<|LQ X.ρ r)):X.Img RA V (Instr.getLoop l>>=f)<|Instr.getLoop (X.ρ l)>>=a:=by
 refine .get (λw=>⟨_,w,rfl,trivial⟩) λo d=> ?_;cases o<;>first|exact h _ d|exact ZE _ _
theorem Z5y(ok:X.Ok)l args:X.Img (X.NR rd) V (Instr.yield l args)<|Instr.yield (X.ρ l)<|args.map<|Zu X.ρ:=by
 refine KX λr g=> ?_;let⟨a,d,_,f⟩:=(ok.kl r).1 g;simp only[ZkN,LQ];split;exact ZE _ _;refine .pure ⟨?_,a,d,f⟩;rw[<-ZjG,<-ZjG];simp_all[Z0v]
theorem Bd(ok:X.Ok)t args(k:Ue ⟨t,args⟩=xk):X.Img (X.NR rd) V (invoke t args)<|invoke (JH X.ρ t)<|args.map<|Zu X.ρ:=by
 have a:(args.map<|Zu X.ρ).extract 1 (args.map<|Zu X.ρ).size=(args.extract 1 args.size).map (Zu X.ρ):=Z1;unfold invoke;cases t with
 |nil=>exact TX
 |builtin=>cases k
 |coroexit=>cases k
 |collected r=>exact ZE _ _
 |fn fn c=>
  cases fn with
  |func f=>
   have:=B9 (rd:=rd) (V:=V) ok f<|args++c;rw[Zjf]at this;exact this
  |method name=>
   simp only[ZhJ];rw[a];cases args[0]? with
   |none=>exact ZE _ _
   |some v=>exact Ba ok v name _
  |methodOf t name=>
   simp only[ZhJ];rw[a];cases args[0]? with
   |none=>exact ZE _ _
   |some v=>
    refine .bind (Vf _) ?_;rintro h d _-rfl;have j:=Ba (rd:=rd) (V:=h) ok (.iface t v) name<|args.extract 1 args.size;rw[Sg]at j;cases d<;>first|exact(Ba (rd:=rd) (V:=h) ok v name _)|exact j
  |via t g f b=>
   simp only[ZhJ];rw[a];cases args[0]? with
   |none=>exact ZE _ _
   |some v=>
    refine .bind (Z5n t v g b) ?_;rintro n u _-rfl;have:=B9 (rd:=rd) (V:=n) ok f<|#[u]++args.extract 1;rw[Zjf,yX]at this;exact this
  |yield l=>exact Z5y ok l args
theorem I7 f args:X.Img (λa b=>b=Xg X.ρ a/\Ue a=xk) V (Deferred.ofValue f args)<|Deferred.ofValue (Zu X.ρ f)<|args.map<|Zu X.ρ:=by
 cases f<;>first|exact ZE _ _|skip
 simp[Zu];refine .pure ⟨?_,rfl⟩;simp[Xg,JH];rw[jg];exact .pure ⟨rfl,rfl⟩
theorem Z4T(ok:X.Ok)fn tmps f a b o(q:X.oy fn)(n:X1 X.Q xk a=xk)(p:X1 X.Q xk b=xk):
  X.Img (λx y=>y=(X.ρ x.1,x.2.map<|Xg X.ρ)/\∀d∈x.2,Ue d=xk) V (Instr.enterLoop fn tmps f a b o) (Instr.enterLoop fn (tmps.map<|Zu X.ρ) f a b<|o.map X.ρ):=by
 have last:∀V r mk,(∀d∈mk,Ue d=xk)->X.Img (λx y=>y=(X.ρ x.1,x.2.map<|Xg X.ρ)/\∀d∈x.2,Ue d=xk) V
   (do pure (<-newObj (.loop {state:=.ready,pending:=U,fn,tmps,params:=f,assign:=a,body:=b,defers:=r}),mk):Sem<|Nat×List Deferred)
   (do pure (<-newObj (.loop {state:=.ready,pending:=U,fn,tmps:=tmps.map _,params:=f,assign:=a,body:=b,defers:=X.ρ r}),mk.map _):Sem _):=λV r mk j=>by
  have h:X.Img (λa b=>b=X.ρ a) V _<|newObj<|XW X.ρ<|.loop ⟨.ready,U,fn,tmps,f,a,b,r⟩:=
   .new (o:=.loop _) ((ok.kl _).2 ⟨n,p,rfl,q⟩) Z1 λr=>.pure rfl
  refine .bind h ?_;rintro k l _-rfl;exact .pure ⟨rfl,j⟩
 obtain _|l:=o;have h:X.Img (λa b=>b=X.ρ a) V _ _:=
  .new (o:=.deferred<|J []) (λd g=>by cases g) Z1 λr=>.pure rfl
 refine .bind h ?_;rintro k r _-rfl;have h:=last k r [{target:=.collected r,args:=#[]}] (λd g=>by simp at g;subst g;rfl);simp_all[List.map,Xg,JH];refine KX λr t=> ?_;exact last _ r.defers [] Z1
theorem Bj{α β RA l r}{k:Sem α}{k':Sem β}(a:l∈V)(d:X.KL r)(h:X.Img RA V k k'):X.Img RA V (setObj l (.loop r)>>=λ_=>k) (setObj (X.ρ l) (.loop<|LQ X.ρ r)>>=λ_=>k'):=
 .set (o:=.loop r) a d Z1 h
theorem Z4v(ok:X.Ok)l:X.Img Eq V (Instr.beginRound l)<|Instr.beginRound<|X.ρ l:=by
 refine KX λr a=> ?_;refine Bj (r:= {r with state:=.busy}) Z1 ((ok.kl _).2<|(ok.kl r).1 a) ?_;show X.Img Eq _ _ (match r.state with|.ready=>_|.done=>_|.busy=>_|.exhausted=>_);cases r.state<;>first|exact .pure rfl|exact TZ _
theorem Z4S(ok:X.Ok)l j(g:j.all Jc=xk):X.Img X.Rv V (Instr.endRound l j)<|Instr.endRound (X.ρ l) j:=by
 refine KX λr h=> ?_;let⟨a,d,_,f⟩:=(ok.kl _).1 h;refine Bj (r:= {r with state:=if j.isNone then .ready else .done,pending:=j}) Z1 ((ok.kl _).2 ⟨a,d,g,f⟩) ?_;exact .pure ZgR
theorem Z4R(ok:X.Ok)l:X.Img (λa b=>a=b/\a.all Jc=xk) V (Instr.endLoop l)<|Instr.endLoop<|X.ρ l:=by
 refine KX λr d=> ?_;have e:(LQ X.ρ r).state=r.state:=rfl;rw[e];have h:=(ok.kl _).1 d;split;exact TZ _;refine Bj (r:= {r with state:=.exhausted}) Z1 ((ok.kl _).2 h) ?_;exact .pure ⟨rfl,h.2.2.1⟩
theorem Z5u(ok:X.Ok)l:X.Img (λa b=>b=a.map (Xg X.ρ)/\∀d∈a,Ue d=xk) V (Instr.takeDeferred l)<|Instr.takeDeferred<|X.ρ l:=by
 refine .get (λw=>⟨_,w,rfl,trivial⟩) λo h=> ?_;cases o<;>first|exact ZE _ _|skip
 rename_i f;obtain _|f:=f;exact ZE _ _;refine .set (o:=.deferred U) Z1 trivial Z1<|.pure ⟨rfl,λd g=>(ok.kd d).1<|h d g⟩
end
end
section
section
variable {X:Cx}{V:Zb}
def HY(x:Zg):X.Img Eq V (Builtin.lenOf x)<|Builtin.lenOf<|Zu X.ρ x:=by
 cases x<;>first|exact ZE _ _|skip
 rw[Si];exact .pure rfl;rename_i a n c;have d:Zu X.ρ (.slice a n c)=.slice (a.map<|ZW X.ρ) n c:=by cases a<;>simp[Zu]
 rw[d];exact .pure rfl
def KV(s n:Nat)(x:Zg):X.Img (λa b=>b=a.map (Zu X.ρ)) V (Builtin.firstCells s n x)<|Builtin.firstCells s n<|Zu X.ρ x:=by
 cases x<;>first|exact ZE _ _|skip
 rw[Si];refine .pure ?_;have e:(Zu X.ρ∘λb:UInt8=>Value.int .u8 b.toNat)=λb=>Value.int .u8 b.toNat:=by funext b;simp
 simp[Array.map_map,e];rename_i a m c;obtain _|a:=a;simp only[Zu];exact .pure Z1;simp only[Zu];exact I1 a _
def jT(ρ:Zl)(z:Ze)(n:Nat)(h:z.map (Zu ρ)=z):(Builtin.zeroCells z n).map (Zu ρ)=Builtin.zeroCells z n:=by
 unfold Builtin.zeroCells;refine Qd λx f=> ?_;obtain⟨i,_,rfl⟩:=ZjY.1 f;by_cases a:i%z.size<z.size;rw[Zlw z _ a];have d:(z.map<|Zu ρ)[i%z.size]?=z[i%z.size]? :=by rw[h]
 rw[ZhJ,Zi1 a]at d;exact ZiJ d;rw[Zlv z _ a];have e:(default:Zg)=.bool default:=rfl;rw[e,Uk]
def Z9J(p:Z5)(a b n:Nat)(base:Option Addr)(x:Zg)(w:Z3):∃r,(Builtin.mayShare a b n base x).run p w=.ok r w:=by
 have f:∀(c:Addr) (m:Nat),∃r,(Builtin.holdsCells c m).run p w=.ok r w:=λc m=>by
  unfold Builtin.holdsCells;simp only[ZhV,Zlp,ZhU];split<;>exact⟨_,rfl⟩
 have last:∃r,(match x with
   |.slice (J b) _ _=>do pure (!(<-Builtin.holdsCells b (n*a))||base.any (·.block==b.block))
   |_=>pure xw:Sem Bool).run p w=.ok r w:=by
  cases x with
  |slice q _ _=>
   obtain _|q:=q;exact⟨_,rfl⟩;obtain⟨r,d⟩:=f q<|n*a;simp only[ZhV,d,ZhU];exact⟨_,rfl⟩
  |_=>exact⟨_,rfl⟩
 unfold Builtin.mayShare;obtain _|c:=base;obtain⟨r,d⟩:=last;exact⟨r,d⟩;obtain⟨r,d⟩:=f c<|b*a;simp only[ZhV,d,ZhU,run_frozen,ZjV];cases(r&& !w.frozen? (c.add<|b / 2*a))with
 |false=>exact⟨_,rfl⟩
 |true=>exact last
def Z4r(S:X.Zero)(ts:Array TypeId)(ty t u e M:Zh)(s x:Zg)(N:ts[0]?=J t)(O:ts[1]?=J u)(R:X.Q.underlying t=J (.slice e))(hx:X.Q.underlying u=J (.slice M)):
  X.Img X.Rv V (Builtin.append_ ts ty #[s,x]) (Builtin.append_ ts ty #[Zu X.ρ s,Zu X.ρ x]):=by
 have K:∀y z:Zg,(#[y,z]:Array Value)[0]?=J y:=λ_ _=>rfl;have L:∀y z:Zg,(#[y,z]:Array Value)[1]?=J z:=λ_ _=>rfl;unfold Builtin.append_;simp only[N,O,K,L];refine .bind (Wg t) ?_;rintro D d _- ⟨rfl,h⟩;rw[R]at h;cases h;cases s<;>first|exact ZE _ _|skip
 rename_i base n c;have A:Zu X.ρ (.slice base n c)=.slice (base.map<|ZW X.ρ) n c:=by cases base<;>simp[Zu]
 rw[A];dsimp only;refine .bind (VQ e) ?_;rintro F size _-rfl;refine .bind (Wg u) ?_;rintro G d _- ⟨rfl,h⟩;rw[hx]at h;cases h;simp only[pure_bind,Zhu,Zif,Bool.not_false,Zi9,false_or];refine .bind (HY x) ?_;rintro H m _-rfl;by_cases C:n+m<=c;simp only[Zhi C];refine .bind (KV size m x) ?_;rintro o new _-rfl;obtain _|a:=base;exact .pure Zgu;simp only[ZhA];rw[Qs,Ziw];refine .bind (L0 (a.add<|n*size) new.toList o 0) ?_;rintro l _ _- -;exact .pure Zgu;simp only[Zhg C];refine .bind (VR e) ?_;rintro o i _-rfl
 have g:∀V,X.Img X.Rv V (do
   let f<-choose (.appendCap (n+m) c e)
   askRoom (f*(<-typeInfo e).bytes)
   let j<-Builtin.firstCells size n (.slice base n c)
   let new<-Builtin.firstCells size m x
   let g:=Builtin.zeroCells (<-zeroValue e).cells<|f- (n+m)
   pure (.slice (J<|<-newRow e (j++new++g)) (n+m) f):Sem Value) (do
   let f<-choose (.appendCap (n+m) c e)
   askRoom (f*(<-typeInfo e).bytes)
   let j<-Builtin.firstCells size n (.slice (base.map<|ZW X.ρ) n c)
   let new<-Builtin.firstCells size m (Zu X.ρ x)
   let g:=Builtin.zeroCells (<-zeroValue e).cells<|f- (n+m)
   pure (.slice (J<|<-newRow e (j++new++g)) (n+m) f):Sem Value):=λV=>by
  refine .bind (Uy _) ?_;rintro D k _-rfl;refine .bind (VR e) ?_;rintro F i _-rfl;refine .bind (RA:=Eq) ?_ ?_;unfold askRoom;split;exact .room<|.pure rfl;exact .pure rfl;rintro G _ _- -;rw[<-A];refine .bind (KV size n _) ?_;rintro H j _-rfl;refine .bind (KV size m x) ?_;rintro o new _-rfl;refine .bind (Ty S e) ?_;rintro l z _- ⟨rfl,p⟩;have q:z.cells.map (Zu X.ρ)=z.cells:=by rw[<-TM,p]
  have h:=yJ (X:=X) (V:=l) e (j++new++Builtin.zeroCells z.cells (k- (n+m))) (n+m) k;rw[Zjf,Zjf,jT X.ρ z.cells _ q]at h;exact h
 split;exact .bind (RA:=λ_ _=>False) (TZ _) λ_ _ _ _ h=>h.elim;refine .bind (VR e) ?_;rintro l T _-rfl;by_cases B:Builtin.nextslicecap (n+m) c*T.bytes>2 ^ 48;simp only[Zhi B];refine .ly _ λw=> ?_;obtain⟨r,P⟩:=Z9J X.Q size n m base x w;refine⟨.unsupported (.resourceLimit "append: a slice or a string whose bytes no memory bears"),w,?_,trivial⟩;simp only[ZhV,P,ZhU];cases r<;>rfl;simp only[Zhg B];exact g l
end
end
section
section
variable {X:Cx}{V:Zb}
def Sf ρ k b:Zu ρ (.float k b)=.float k b:=Zh4
def Df ρ k a b:Zu ρ (.complex k a b)=.complex k a b:=Zh4
def Z5w op x:X.Img X.Rv V (Op.unary op x)<|Op.unary op<|Zu X.ρ x:=by
 unfold Op.unary;cases op<;>cases x<;>first|exact ZE _ _|skip
 grind [Wp,Hm];rw[Sf];exact .pure (Sf ..).symm;rw[Df];exact .pure (Df ..).symm;grind [ZE,Xr];grind [Wp,Hq];grind [ZE,Xr];rw[Uk];exact .pure (Uk ..).symm
def Hn n:X.Img Eq V (askRoom n)<|askRoom n:=by
 unfold askRoom;split;exact .room<|.pure rfl;exact .pure rfl
def Z5b(C:X.Zero)t x y:X.Img X.Rv V (Instr.makeSlice t x y)<|Instr.makeSlice t (Zu X.ρ x)<|Zu X.ρ y:=by
 refine .bind (Wg t) ?_;rintro q d _- ⟨rfl,F⟩;cases d<;>first|exact ZE _ _|skip
 rename_i e;refine .bind (KT x) ?_;rintro r l _-rfl;refine .bind (KT y) ?_;rintro u c _-rfl;refine .bind (VR e) ?_;rintro w i _-rfl;dsimp only
 have f:∀V,X.Img X.Rv V (do
   askRoom _
   let n:=(IntKind.i64.wrap c).toNat*(<-sizeOf e);let zero<-if n=0 then pure #[]else do pure (<-zeroValue e).cells
   let a<-newRow e ((Array.range n).map (zero[· %zero.size]!))
   pure (.slice (J a) (IntKind.i64.wrap l).toNat (IntKind.i64.wrap c).toNat):Sem Value) (do
   askRoom ((IntKind.i64.wrap c).toNat*i.bytes)
   let n:=(IntKind.i64.wrap c).toNat*(<-sizeOf e);let zero<-if n=0 then pure #[]else do pure (<-zeroValue e).cells
   let a<-newRow e ((Array.range n).map (zero[· %zero.size]!))
   pure (.slice (J a) (IntKind.i64.wrap l).toNat (IntKind.i64.wrap c).toNat):Sem Value):=λV=>by
  refine .bind (Hn _) ?_;rintro q _ _- -;refine .bind (VQ e) ?_;rintro r s _-rfl;dsimp only
  have fin:∀V (z:Ze),z.map _=z->X.Img X.Rv V (do
    let a<-newRow e _
    pure _:Sem Value) (do
    let a<-newRow e _
    pure _:Sem Value):=λV z o=>by
   have h:=yJ (X:=X) (V:=V) e ((Array.range<|(IntKind.i64.wrap c).toNat*s).map (z[· %z.size]!)) (IntKind.i64.wrap l).toNat (IntKind.i64.wrap c).toNat;have A:((Array.range<|(IntKind.i64.wrap c).toNat*s).map (z[· %z.size]!)).map (Zu X.ρ)=(Array.range<|(IntKind.i64.wrap c).toNat*s).map (z[· %z.size]!):=by
    refine Qd λx B=> ?_;obtain⟨i,_,rfl⟩:=ZjY.1 B;by_cases g:i%z.size<z.size;rw[Zlw z _ g];have p:(z.map<|Zu X.ρ)[i%z.size]?=z[i%z.size]? :=by rw[o]
    rw[ZhJ,Zi1 g]at p;exact ZiJ p;rw[Zlv z _ g];exact Uk _ _
   rw[A]at h;exact h
  split;simp only[pure_bind];exact fin _ _ Z1;refine .bind (Ty C e) ?_;rintro u z _- ⟨rfl,j⟩;simp;exact fin _ _ (by rw[<-TM,j])
 split;split;exact .bind (RA:=λ_ _=>False) (TZ _) λ_ _ _ _ h=>h.elim;split;exact .bind (RA:=λ_ _=>False) (TZ _) λ_ _ _ _ h=>h.elim;refine .bind (Uy _) ?_;rintro D k _-rfl;exact .bind (RA:=λ_ _=>False) (TZ _) λ_ _ _ _ h=>h.elim;exact f w
def zP(x y:Zg):Prop:=(∃k a l b,x=.int k a/\y=.int l b)\/(∃k a l b,x=.float k a/\y=.float l b)\/∃a b,x=.string a/\y=.string b
theorem Z6l{x y}(h:¬zP x y):(∃s,Builtin.min2 x y=stuck s)\/Builtin.min2 x y=unsupported .addressObserved:=by
 cases x<;>cases y<;>first
  |exact .inl ⟨_,rfl⟩
  |exact .inr rfl
  |exact absurd (.inl ⟨_,_,_,_,rfl,rfl⟩) h
  |exact absurd (.inr<|.inl ⟨_,_,_,_,rfl,rfl⟩) h
  |exact absurd (.inr<|.inr ⟨_,_,rfl,rfl⟩) h
  |(rename_i p;cases p<;>first|exact .inl ⟨_,rfl⟩|exact .inr rfl)
  |(rename_i p q;cases p<;>cases q<;>first|exact .inl ⟨_,rfl⟩|exact .inr rfl)
  |(rename_i p q;cases p<;>first|exact .inl ⟨_,rfl⟩|exact .inr rfl)
  |(rename_i p q r;cases p<;>first|exact .inl ⟨_,rfl⟩|exact .inr rfl)
  |(rename_i p q r s;cases p<;>first|exact .inl ⟨_,rfl⟩|exact .inr rfl)
theorem Z6h{x y}(h:¬zP x y):(∃s,Builtin.max2 x y=stuck s)\/Builtin.max2 x y=unsupported .addressObserved:=by
 cases x<;>cases y<;>first
  |exact .inl ⟨_,rfl⟩
  |exact .inr rfl
  |exact absurd (.inl ⟨_,_,_,_,rfl,rfl⟩) h
  |exact absurd (.inr<|.inl ⟨_,_,_,_,rfl,rfl⟩) h
  |exact absurd (.inr<|.inr ⟨_,_,rfl,rfl⟩) h
  |(rename_i p;cases p<;>first|exact .inl ⟨_,rfl⟩|exact .inr rfl)
  |(rename_i p q;cases p<;>cases q<;>first|exact .inl ⟨_,rfl⟩|exact .inr rfl)
  |(rename_i p q;cases p<;>first|exact .inl ⟨_,rfl⟩|exact .inr rfl)
  |(rename_i p q r;cases p<;>first|exact .inl ⟨_,rfl⟩|exact .inr rfl)
  |(rename_i p q r s;cases p<;>first|exact .inl ⟨_,rfl⟩|exact .inr rfl)
theorem I8{op}a b:X.Img X.Rv V (do pure (.string<|if<-asBool (<-Op.stringOp op a b)then a else b):Sem Value) (do pure (.string<|if<-asBool (<-Op.stringOp op a b)then a else b):Sem Value):=by
 refine .bind (Ic op a b) ?_;rintro d v _-rfl;refine .bind (B6 v) ?_;rintro f c _-rfl;exact .pure (Si ..).symm
theorem Z5f x y:X.Img X.Rv V (Builtin.min2 x y)<|Builtin.min2 (Zu X.ρ x)<|Zu X.ρ y:=by
 by_cases h:zP x y
 .obtain⟨k,a,l,b,rfl,rfl⟩|⟨k,a,l,b,rfl,rfl⟩|⟨a,b,rfl,rfl⟩:=h;simp;exact .pure (Wp ..).symm
  .simp[Sf,Builtin.min2];split;refine .bind (Uy _) ?_;rintro d k _-rfl;exact .pure (Sf ..).symm;all_goals exact .pure (Sf ..).symm
  grind [Si,Builtin.min2,I8]
 grind [Z6l,ZE,Xr]
theorem Z5d x y:X.Img X.Rv V (Builtin.max2 x y)<|Builtin.max2 (Zu X.ρ x)<|Zu X.ρ y:=by
 by_cases h:zP x y
 .obtain⟨k,a,l,b,rfl,rfl⟩|⟨k,a,l,b,rfl,rfl⟩|⟨a,b,rfl,rfl⟩:=h;simp;exact .pure (Wp ..).symm
  .simp[Sf,Builtin.max2];split;refine .bind (Uy _) ?_;rintro d k _-rfl;exact .pure (Sf ..).symm;all_goals exact .pure (Sf ..).symm
  grind [Si,Builtin.max2,I8]
 grind [Z6h,ZE,Xr]
theorem Bc{f}(a:∀V x y,X.Img X.Rv V (f x y)<|f (Zu X.ρ x)<|Zu X.ρ y):∀(l:Zp) V x,X.Img X.Rv V (l.foldlM f x) ((l.map<|Zu X.ρ).foldlM f<|Zu X.ρ x)
 | [],V,x=>.pure rfl
 |y::l,V,x=>by
  refine .bind (a V x y) ?_;rintro d z _-rfl;exact Bc a l d z
def Z5e ts t aq_:X.Img X.Rv V (Builtin.min_ ts t aq_)<|Builtin.min_ ts t<|aq_.map<|Zu X.ρ:=by
 grind [Builtin.min_,Array.toList_map,ZE,Bc,Z5f]
def Z5c ts t aq_:X.Img X.Rv V (Builtin.max_ ts t aq_)<|Builtin.max_ ts t<|aq_.map<|Zu X.ρ:=by
 grind [Builtin.max_,Array.toList_map,ZE,Bc,Z5d]
def Z4O ts t d s:X.Img X.Rv V (Builtin.copy_ ts t #[d,s])<|Builtin.copy_ ts t #[Zu X.ρ d,Zu X.ρ s]:=by
 unfold Builtin.copy_;simp;cases ts[0]? with
 |none=>exact ZE _ _
 |some j=>
  refine .bind (Wg j) ?_;rintro l h _- ⟨rfl,r⟩;cases h<;>first|exact ZE _ _|skip
  rename_i e;cases d<;>first|exact ZE _ _|skip
  rename_i base n c;have k:Zu X.ρ (.slice base n c)=.slice (base.map<|ZW X.ρ) n c:=by cases base<;>simp[Zu]
  rw[k];refine .bind (HY s) ?_;rintro o m _-rfl;refine .bind (VQ e) ?_;rintro p size _-rfl;refine .bind (KV size _ s) ?_;rintro f g _-rfl;obtain _|a:=base;exact .pure (by simp[Cx.Rv,goInt]);rw[Ziw];refine .bind (L0 a g.toList f 0) ?_;rintro q _ _- -;exact .pure (by simp[Cx.Rv,goInt])
def Z4J(D:X.Zero)ts t g(A:ts[0]?=J g)(B:(∃e,X.Q.underlying g=J (.slice e))\/∃a b,X.Q.underlying g=J (.map a b))x:X.Img X.Rv V (Builtin.clear_ ts t #[x])<|Builtin.clear_ ts t #[Zu X.ρ x]:=by
 have G:∀y,(#[y]:Array Value)[0]?=J y:=Z1;have fin:∀V,X.Img X.Rv V (pure (.tuple #[]):Sem Value) (pure (.tuple #[]):Sem Value):=λV=>.pure Zgu;unfold Builtin.clear_;simp[A];refine .bind (Wg g) ?_;rintro l d _- ⟨rfl,h⟩;obtain⟨e,p⟩|⟨a,b,p⟩:=B<;>rw[p]at h<;>cases h
 cases x<;>first|exact ZE _ _|skip
 rename_i b n c;obtain _|a:=b;simp_all[Zu];simp[Zu];cases n with
 |zero=>exact fin _
 |succ n=>
  refine .bind (Ty D e) ?_;rintro q z _- ⟨rfl,F⟩;have j:z.cells.map (Zu X.ρ)=z.cells:=by grind [TM]
  have h:=L0 (X:=X) a (Builtin.zeroCells z.cells<|n+1).toList q 0;rw[<-Ziw,jT X.ρ z.cells _ j]at h;exact .bind h λ_ _ _ _ _=>fin _
 rename_i r;obtain _|r:=r;simp_all[Zu];simp[Zu];refine .get (λw=>⟨_,w,rfl,trivial⟩) λo C=> ?_;cases o<;>first|exact ZE _ _|skip
 rename_i u f;have:=Cx.Img.set (X:=X) (RA:=X.Rv) (V:=r::l) (r:=r) (o:=.map #[] f) (k:=pure _) (k':=pure _) Z1 trivial Z1<|fin _;simp[XW]at this;exact this;cases x<;>first|exact ZE _ _|skip
 rename_i b n c;obtain _|a:=b;simp_all[Zu];simp[Zu];cases n with
 |zero=>exact fin _
 |succ n=>exact ZE _ _
 rename_i r;obtain _|r:=r;simp_all[Zu];simp[Zu];refine .get (λw=>⟨_,w,rfl,trivial⟩) λo C=> ?_;cases o<;>first|exact ZE _ _|skip
 rename_i u f;have:=Cx.Img.set (X:=X) (RA:=X.Rv) (V:=r::l) (r:=r) (o:=.map #[] f) (k:=pure _) (k':=pure _) Z1 trivial Z1<|fin _;simp[XW]at this;exact this
def yI{α β RA c} [Decidable c]{a b:Sem α}{a' d:Sem β}(h:X.Img RA V a a')(k:X.Img RA V b d):X.Img RA V (if c then a else b) (if c then a' else d):=by
 grind
def Z4s(C:X.Zero)ts ty t r e k s x(M:ts[0]?=J t)(N:ts[1]?=J r)(O:X.Q.underlying t=J (.slice e))(hx:X.Q.underlying r=J (.int k)):
  X.Img X.Rv V (Builtin.append_ ts ty #[s,x]) (Builtin.append_ ts ty #[Zu X.ρ s,Zu X.ρ x]):=by
 have H:∀y z,(#[y,z]:Array Value)[0]?=J y:=Z1;have K:∀y z,(#[y,z]:Array Value)[1]?=J z:=Z1;unfold Builtin.append_;simp only[M,N,H,K];refine .bind (Wg t) ?_;rintro u d _- ⟨rfl,h⟩;rw[O]at h;cases h;cases s<;>first|exact ZE _ _|skip
 rename_i base n c;have B:Zu X.ρ (.slice base n c)=.slice (base.map<|ZW X.ρ) n c:=by cases base<;>simp[Zu]
 rw[B];refine .bind (VQ e) ?_;rintro F size _-rfl;refine .bind (Wg r) ?_;rintro G d _- ⟨rfl,h⟩;rw[hx]at h;cases h;simp only[pure_bind,Zkq,Zhu,Zif,Zi9,true_or];refine .bind (KT x) ?_;rintro w l _-rfl;have bad:∀ {V} m {f L:Unit->Sem Value},X.Img X.Rv V (runtimePanic _>>=f)<|runtimePanic (.error m)>>=L:=λm=>.bind (RA:=λ_ _=>False) (TZ _) λ_ _ _ _ h=>h.elim;have D:∀V m,X.Img (λa b=>b=a.map (Zu X.ρ)) V (if m*size=0 then pure #[]else do pure (Builtin.zeroCells (<-zeroValue e).cells m):Sem _) (if m*size=0 then pure #[]else do pure (Builtin.zeroCells (<-zeroValue e).cells m):Sem _):=λV m=>by
  split;exact .pure Z1;refine .bind (Ty C e) ?_;rintro u z _- ⟨rfl,q⟩;exact .pure (jT X.ρ z.cells _<|by grind [TM]).symm
 generalize S:(IntKind.i64.wrap l).toNat=m
 have j:∀V,X.Img X.Rv V (do
   let g<-choose _
   askRoom (g*(<-typeInfo e).bytes)
   let o<-Builtin.firstCells size n _
   let new<-(if m*size=0 then pure #[]else do pure (Builtin.zeroCells (<-zeroValue e).cells m):Sem _)
   let j:=Builtin.zeroCells (<-zeroValue e).cells<|g- (n+m)
   pure (.slice (J<|<-newRow e (o++new++j)) (n+m) g):Sem Value) (do
   let g<-choose (.appendCap (n+m) c e)
   askRoom (g*(<-typeInfo e).bytes)
   let o<-Builtin.firstCells size n (.slice (base.map<|ZW X.ρ) n c)
   let new<-(if m*size=0 then pure #[]else do pure (Builtin.zeroCells (<-zeroValue e).cells m):Sem<|Array Value)
   let j:=Builtin.zeroCells (<-zeroValue e).cells<|g- (n+m)
   pure (.slice (J<|<-newRow e (o++new++j)) (n+m) g):Sem Value):=λV=>by
  refine .bind (Uy _) ?_;rintro u k _-rfl;refine .bind (VR e) ?_;rintro F i _-rfl;refine .bind (Hn _) ?_;rintro G _ _- -;rw[<-B];refine .bind (KV size n _) ?_;rintro w o _-rfl;refine .bind (D w m) ?_;rintro A new _-rfl;refine .bind (Ty C e) ?_;rintro p z _- ⟨rfl,q⟩;have P:z.cells.map (Zu X.ρ)=z.cells:=by grind [TM]
  have h:=yJ (X:=X) (V:=p) e (o++new++Builtin.zeroCells z.cells (k- (n+m))) (n+m) k;simp_all[Zjf,jT]
 refine yI ?_ ?_;exact bad _;refine .bind (VR e) ?_;rintro A i _-rfl;refine yI ?_ ?_;refine .bind (Uy _) ?_;grind;refine yI ?_ ?_;refine .bind (D A m) ?_;rintro p new _-rfl;obtain _|a:=base;exact .pure Zgu;simp only[ZhA];rw[Qs,Ziw];refine .bind (L0 (a.add<|n*size) new.toList p 0) ?_;rintro R _ _- -;exact .pure Zgu;refine .bind (VR e) ?_;rintro p T _-rfl;refine yI ?_ ?_;exact bad _;refine .bind (VR e) ?_;grind
end
end
section
section
variable {X:Cx}{V:Zb}{rd:Bool}
theorem Z4U{α β RA}{k:SysRet->Sem α}{k':SysRet->Sem β}(h:∀r,X.Img RA V (k r)<|k' r):X.Img RA V (sys .env>>=k)<|sys .env>>=k':=by
 refine .ta λp o g f n d a=> ?_;have j:∀ {γ} P w (k:SysRet->Sem γ),(sys .env>>=k).run P w=(k<|.strings w.os.env).run P w:=λ_ _ _=>rfl;have l:∀ {γ} P w (k:SysRet->Sem γ) g,(sys .env>>=k).runT P w g=(k<|.strings w.os.env).runT P w _:=λ_ _ _ _=>rfl;rw[j]at d a;rw[l];rw[f.os]at d a⊢;exact Cx.bq.step (.ev (e:=⟨.output,xk,xw⟩) f True.intro)<|(h _).run p o _ f n d a
theorem Z4Q t:X.Img Eq V (elemOf t)<|elemOf t:=by
 refine .bind (Vf _) ?_;rintro a d _-rfl;cases d<;>first|exact .pure rfl|exact ZE _ _
theorem Z5l{α β}{RA:α->β->Prop}:X.Img RA V (runtimePanic .panicNil)<|runtimePanic .panicNil:=by
 refine .bind WO ?_;rintro f _ _- ⟨rfl,rfl⟩;refine .bind (Z4Q _) ?_;rintro d t _-rfl;have h:=Bg (X:=X) (V:=d) t<|.agg #[];rw[show Zu X.ρ _=.agg #[]by simp[WF]]at h;refine .bind h ?_;rintro g a _-rfl;exact Q3 (by simp;rfl)
theorem Z5k x:X.Img X.Rv V (Instr.panic x)<|Instr.panic<|Zu X.ρ x:=by
 unfold Instr.panic;cases x<;>first|exact ZE _ _|skip
 simp_all[Sg,Q3];rw[Sh];refine .bind (RA:=Eq) ?_ ?_;refine Z4U λr=> ?_;cases r<;>first|exact ZE _ _|skip
 refine .bind WO ?_;rintro a _ _- ⟨rfl,rfl⟩;exact .pure rfl;rintro a n _-rfl;grind [Q3,Sh,Z5l]
theorem Xd{s a}(h:X.Img X.Rv V s a):X.Img (X.NR rd) V (do pure (.value<|<-s):Sem Next) (do pure (.value<|<-a):Sem Next):=by
 refine .bind h ?_;rintro d v _-rfl;exact .pure rfl
theorem yM{s a}(h:X.Img Eq V s a):X.Img (X.NR rd) V (do s;pure .skip:Sem Next) (do a;pure .skip:Sem Next):=by
 refine .bind h ?_;rintro d v _-rfl;exact .pure rfl
def Lj(v:Zg):Sem Next:=
 match v with
 |.pointer U|.nilIface|.nilFunc=>runtimePanic .nilDeref
 | .func (.method name) first a=>
   match(first[0]? :Option Value)with
   |some .nilIface=>runtimePanic .nilDeref
   |some (.iface t w)=>do
    if(<-nilAhead ((<-program).types.size+Made.depth) t w name) !=J xw then
     unsupported (.noEntry "op/nilCheck.the method's receiver behind this interface value is a nil pointer, or cannot be seen to be none, and the arguments act or may panic (ledger 612)")
    pure (.value<|.func (.method name) first a)
   |_=>pure<|.value<|.func (.method name) first a
 |x=>pure<|.value x
theorem Z5h v:X.Img (X.NR rd) V (Lj v)<|Lj<|Zu X.ρ v:=by
 have d:∀V u,X.Img (X.NR rd) V (pure (.value u):Sem Next) (pure _:Sem Next):=λV u=>.pure rfl;cases v with
 |pointer q=>
  obtain _|a:=q;rw[UG];exact TX;rw[WM];exact .pure (by simp[Cx.NR])
 |slice q n c=>have h:=d V<|.slice q n c;cases q<;>(simp[Zu]at h⊢;exact h)
 |map q=>have h:=d V<|.map q;cases q<;>(simp[Zu]at h⊢;exact h)
 |chan q=>have h:=d V<|.chan q;cases q<;>(simp[Zu]at h⊢;exact h)
 |nilIface=>rw[Sh];exact TX
 |nilFunc=>rw[jg];exact TX
 |func fn a b=>
  cases fn with
  |method name=>
   have h:∀V,X.Img (X.NR rd) V (pure (.value<|.func (.method name) a b):Sem Next) (pure (.value<|.func (.method name) (a.map<|Zu X.ρ)<|b.map<|Zu X.ρ):Sem Next):=λV=>.pure (by simp[Cx.NR,Zu,Vj]);simp only[Zu,Vj,Lj,ZhJ];cases a[0]? with
   |none=>exact h V
   |some u=>
    cases u with
    |nilIface=>simp_all[ZhA,Sh,TX]
    |iface t w=>
     simp only[ZhA,Sg];refine .bind WO ?_;rintro g _ _- ⟨rfl,rfl⟩;refine .bind (I6 _ _ _ _ _) ?_;rintro j n _-rfl;split;exact Xr Z1 _;grind
    |pointer q=>cases q<;>(simp;exact h V)
    |slice q n c=>cases q<;>(simp[ZhA,Zu];exact h V)
    |map q=>cases q<;>(simp[ZhA,Zu];exact h V)
    |chan q=>cases q<;>(simp[ZhA,Zu];exact h V)
    |_=>simp[ZhA,Zu];exact h V
  |func f=>have h:=d V<|.func (.func f) a b;simp[Zu,Vj]at h⊢;exact h
  |methodOf t n=>have h:=d V<|.func (.methodOf t n) a b;simp[Zu,Vj]at h⊢;exact h
  |via t p f q=>have h:=d V<|.func (.via t p f q) a b;simp[Zu,Vj]at h⊢;exact h
  |yield l=>have h:=d V<|.func (.yield l) a b;simp[Zu,Vj]at h⊢;exact h
 |bool b=>have h:=d V<|.bool b;simp at h⊢;exact h
 |int k n=>have h:=d V<|.int k n;simp at h⊢;exact h
 |float k n=>have h:=d V<|.float k n;simp[Zu]at h⊢;exact h
 |complex k a b=>have h:=d V<|.complex k a b;simp[Zu]at h⊢;exact h
 |string s=>have h:=d V<|.string s;simp at h⊢;exact h
 |iface t v=>have h:=d V<|.iface t v;simp at h⊢;exact h
 |agg c=>have h:=d V<|.agg c;simp[Zu]at h⊢;exact h
 |tuple c=>have h:=d V<|.tuple c;simp[Zu]at h⊢;exact h
theorem Z4Z t x f:X.Img X.Rv V (Instr.fieldAt t x f)<|Instr.fieldAt t (Zu X.ρ x) f:=by
 refine .bind (Wg t) ?_;rintro j d _- ⟨rfl,n⟩;cases d<;>first|exact ZE _ _|skip
 rename_i h;dsimp only;cases o:h[f]? with
 |none=>exact ZE _ _
 |some g=>
  refine .bind (yL x) ?_;rintro k a _-rfl;refine .bind (Bb a g) ?_;rintro l b _-rfl;exact .pure (WM _ _).symm
theorem Bn{Q t}(h:Uc Q t=xk):∃k,Q.underlying t=J (.int k):=by
 grind [Uc]
theorem Z6W{t}(h:Lk X.Q t=xk):∀i u,X.Q.info? t=J i->i.desc≠.named "sync.copyChecker" u:=by
 grind [Lk]
theorem Ii{t}(h:(Uc X.Q t&&Lk X.Q t)=xk):∃k,X.IntT t k:=by
 simp at h;let⟨k,a⟩:=Bn h.1;exact⟨k,a,Z6W h.2⟩
theorem PG{t}(h:Bq X.Q t=xk):X.lj t:=by
 unfold Bq at h;rw[Zhr]at h;obtain h|h:=h;exact .inl<|Ii h;refine .inr ?_;grind
theorem jG{Q t}(h:Jd Q t=xk):∃e,Q.underlying t=J (.slice e):=by
 grind [Jd]
theorem yW{t}(h:L2 X.Q t=xk):∃a b k,X.Q.underlying t=J (.map a b)/\X.IntT a k:=by
 unfold L2 at h;split at h;simp_all[Ii];cases h
theorem t5{α:Type}{a:Array α}(h:a.size=2):∃x y,a=#[x,y]:=by
 let⟨l⟩:=a;simp at h
 match l,h with
 | [x,y],_=>simp
theorem Cb{α:Type}{a:Array α}(h:a.size=1):∃x,a=#[x]:=by
 let⟨l⟩:=a;simp at h
 match l,h with
 | [x],_=>simp
section
variable {ev ev':Operand->Value}(he:∀x,Y0 x=xk->ev' x=Zu X.ρ (ev x))
include he
theorem zY{l:Array Operand}(h:l.all Y0=xk):l.map ev'=(l.map ev).map (Zu X.ρ):=by
 grind
theorem yc{o:Option Operand}(h:o.all Y0=xk):o.map ev'=(o.map ev).map (Zu X.ρ):=by
 obtain _|x:=o;rfl;simp_all
theorem Gs{l:Array (Nat×Operand)}(h:(l.all λp=>Y0 p.2)=xk):(l.map λ(i,x)=>(i,ev' x))=(l.map λ(i,x)=>(i,ev x)).map λp=>(p.1,Zu X.ρ p.2):=by
 grind [Array.map_map,Array.map_congr_left,Array.all_eq_true',Zu]
theorem Ia c t(d:c.args.all Y0=xk)(hc:(match c.callee with|.builtin _=>xw|.value f=>Y0 f|.invoke x _=>Y0 x)=xk):
  X.Img (λa b=>b=Xg X.ρ a/\Ue a=xk) V (resolve ev c t) (resolve ev' c t):=by
 unfold resolve;rw[zY he d];cases g:c.callee with
 |builtin b=>simp_all
 |value f=>
  grind [I7]
 |invoke x name=>
  rw[g]at hc;dsimp only at hc⊢;rw[he x hc];exact .pure ⟨by simp[Xg,JH,Vj],rfl⟩
theorem Z5j(ok:X.Ok)c t(B:c.args.all Y0=xk)(hc:Tb X.Q rd c=xk):
  X.Img (X.NR rd) V (do let d<-resolve ev c t;invoke d.target d.args) (do let d<-resolve ev' c t;invoke d.target d.args):=by
 have plain:(match c.callee with|.builtin _=>xw|.value f=>Y0 f|.invoke x _=>Y0 x)=xk->X.Img (X.NR rd) V (do let d<-resolve ev c t;invoke d.target d.args) (do let d<-resolve ev' c t;invoke d.target d.args):=λh=>by
  refine .bind (Ia he c t B h) ?_;rintro G d _- ⟨rfl,F⟩;exact Bd ok d.target d.args F
 cases g:c.callee with
 |value f=>simp_all[Tb]
 |invoke x name=>simp_all[Tb]
 |builtin b=>
  have e:∀ev,(do let d<-resolve ev c t;invoke d.target d.args:Sem Next)=builtin b c.argTypes t _ _:=λev=>by
   unfold resolve;simp[g];rfl
  rw[e,e,zY he B];cases b<;>first|(simp[Tb,g]at hc;done)|skip
  ·
   simp[Tb,g,Zhb,Zi2]at hc;let⟨⟨A,l⟩,p⟩:=hc;let⟨x,y,o⟩:=t5 (a:=c.args.map ev) Zgc;cases j:c.argTypes[0]? with
   |none=>simp_all
   |some q=>
    cases n:c.argTypes[1]? with
    |none=>simp_all
    |some C=>
     rw[j]at l;rw[n]at p;let⟨z,r⟩:=jG l;rw[o];obtain p|p:=Zhr _ _▸p;rotate_left;let⟨k,g⟩:=Bn p;have:=Z4s (X:=X) (V:=V) ok.zero c.argTypes t q C z k x y j n r g;rw[show(#[x,y]:Array Value).map _=#[Zu X.ρ x,Zu X.ρ y]by simp];exact Xd this;let⟨D,w⟩:=jG p;have:=Z4r (X:=X) (V:=V) ok.zero c.argTypes t q C z D x y j n r w;rw[show(#[x,y]:Array Value).map _=#[Zu X.ρ x,Zu X.ρ y]by simp];exact Xd this
  ·
   simp[Tb,g,Zhb,Zi2]at hc;let⟨A,l⟩:=hc;let⟨x,u⟩:=Cb (a:=c.args.map ev) Zgc;cases j:c.argTypes[0]? with
   |none=>simp_all
   |some q=>
    rw[j]at l;rw[u,yX];refine Xd<|Z4J ok.zero c.argTypes t q j ?_ x;obtain l|l:=Zhr _ _▸l;grind [jG];grind [yW]
  ·
   simp[Tb,g,Zi2]at hc;let⟨x,u⟩:=Cb (a:=c.args.map ev) Zgc;rw[u,yX];exact Xd<|Z4K _ _ _
  ·
   simp[Tb,g,Zi2]at hc;let⟨x,y,o⟩:=t5 (a:=c.args.map ev) Zgc;rw[o,show(#[x,y]:Array Value).map _=#[Zu X.ρ x,Zu X.ρ y]by simp];exact Xd<|Z4O _ _ x y
  ·
   simp[Tb,g,Zhb,Zi2]at hc;let⟨A,l⟩:=hc;let⟨x,u⟩:=Cb (a:=c.args.map ev) Zgc;cases j:c.argTypes[0]? with
   |none=>simp_all
   |some q=>
    rw[u,yX];refine Xd<|Z55 q t c.argTypes x j ?_;grind [Hg]
  exact Xd<|Z5c ..;exact Xd<|Z5e ..;exact .pure ⟨rfl,by simp_all[Tb]⟩
theorem Z4W(hc:∀v,ev (.const v)=v)(ok:X.Ok)(o:Oper)(h:XZ X.Q rd o.op=xk)(p:jJ o.op=xw):X.Img (X.NR rd) V (execOp ev o)<|execOp ev' o:=by
 obtain⟨B,op,type,pos,after,guard⟩:=o;unfold execOp;dsimp only at h⊢;cases op with
 |move x=>dsimp only;rw[he x h];exact .pure rfl
 |assign x=>dsimp only;rw[he x h];exact .pure rfl
 |pick a b c=>
  simp only[XZ,Zhb]at h;dsimp only;rw[he a h.1.1,he b h.1.2,he c h.2];refine .bind (B6 _) ?_;rintro u z _-rfl;refine .pure ?_;cases z<;>rfl
 |alloc t=>exact Xd<|Z4q ok.zero t
 |box t x=>dsimp only;rw[he x h];exact Xd<|Z4E t _
 |build t K=>dsimp only;rw[Gs he h];exact Xd<|Z4F ok.zero t _
 |buildSlice t n K=>dsimp only;rw[Gs he h];exact Xd<|Z4G ok.zero t n _
 |load t x=>dsimp only;rw[he x h];exact Xd<|Z56 t _
 |store t a v=>
  simp only[XZ,Zhb]at h;grind [yM,Z5s]
 |nilCheck x=>
  have e:ev' x=Zu X.ρ (ev x):=he x h;show X.Img (X.NR rd) V (Lj<|ev x)<|Lj<|ev' x;simp_all[Z5h]
 |binOp op t x y M=>
  simp only[XZ,Zhb]at h;obtain⟨⟨G,H⟩,g⟩:=h;dsimp only;unfold MF at g;rw[Zhr]at g;rw[he x G,he y H];obtain g|g:=g;refine Xd<|.bind (Z52 op t x y _ _<|PG g) ?_;rintro u _ _- -;exact Z4A ok.nu op t _ _<|PG g
  .rw[Zhb]at g;obtain⟨D,j⟩:=g;cases y with
   |const v=>
    dsimp only at j;split at j
    .rename_i d w;rw[hc v];obtain⟨F,_⟩:=Mn X.ρ j;have C:gs v≠1:=by cases v<;>first|(intro h;cases h;done)|(cases d<;>cases j)
     rw[F];refine Xd<|.bind (Z51 op t x v _ v C) ?_;rintro u _ _- -;refine Z4z op ?_ t _ v w j;grind
    cases j
   |_=>cases j
 |unOp op t x=>
  dsimp only;rw[he x h];exact Xd<|Z5w op _
 |makeSlice t l c=>
  simp only[XZ,Zhb]at h;dsimp only;rw[he l h.1,he c h.2];exact Xd<|Z5b ok.zero t _ _
 |convert s d x=>
  simp only[XZ,Zhb]at h;grind [Xd,Z4N,Bn]
 |makeInterface t x=>dsimp only;rw[he x h];exact Xd<|Z59 t _
 |makeFunc fn a b=>
  simp only[XZ,Zhb]at h;dsimp only;rw[zY he h.1.2,zY he h.2];refine Xd<|.pure ?_;grind [Cx.Rv,Zu,Vj]
 |makeMap t o=>dsimp only;rw[yc he h];exact Xd<|Z5a t _
 |slice t x l L m=>
  simp only[XZ,Zhb]at h;dsimp only;rw[he x h.1.1.1.1,yc he h.1.1.1.2,yc he h.1.1.2,yc he h.1.2];grind [Xd,Z5p,jG]
 |fieldAddr t x f=>dsimp only;rw[he x h];grind [Xd,Z4Z]
 |field t x f=>dsimp only;rw[he x h];grind [Xd,Z4Y]
 |indexAddr t x i=>
  simp only[XZ,Zhb]at h;grind [Xd,Z54]
 |index t x i=>
  simp only[XZ,Zhb]at h;grind [Xd,Z53]
 |lookup t x i b=>
  simp only[XZ,Zhb]at h;dsimp only;rw[he x h.1.1,he i h.1.2];obtain⟨a,A,k,q,r⟩:=yW h.2;exact Xd<|Z58 ok.zero ok.nu q r _ _ b
 |mapUpdate t x k v=>
  simp only[XZ,Zhb]at h;dsimp only;rw[he x h.1.1.1,he k h.1.1.2,he v h.1.2];obtain⟨a,A,k,q,r⟩:=yW h.2;exact yM<|I3 ok.nu q r _ _ _
 |insert t x k v=>
  simp only[XZ,Zhb]at h;dsimp only;rw[he x h.1.1.1,he k h.1.1.2,he v h.1.2];obtain⟨a,A,k,q,r⟩:=yW h.2;exact yM<|I3 ok.nu q r _ _ _
 |typeAssert x t a b=>
  simp only[XZ,Zhb]at h;dsimp only;rw[he x h.1,h.2];exact Xd<|Z5v ok.zero _ t a
 |extract x i=>dsimp only;rw[he x h];exact Xd<|Z4X _ i
 |call c=>
  simp_all[XZ,Zhb,Z5j]
 |defer c=>
  simp only[XZ,Zhb]at h;refine .bind (Ia he c type h.1.2 h.2) ?_;rintro u d _- ⟨rfl,w⟩;exact .pure ⟨rfl,w⟩
 |panic x=>dsimp only;rw[he x h];exact Xd<|Z5k _
 |send=>cases p
 |recv=>cases p
 |go=>cases p
 |_=>cases h
end
end
end
end Vm
end
section
namespace Vm
open Go Go.Conc
section
section
variable (ρ:Zl)
def YJ:Item->Item
 |.inRangeFunc l=>.inRangeFunc<|ρ l
 |.endRangeFunc l=>.endRangeFunc<|ρ l
 |i=>i
def Rj(e:PanicEntry):PanicEntry:= {e with v:=Zu ρ e.v}
def Wo:FrameMode->FrameMode
 |.panicking a=>.panicking<|a.map<|Rj ρ
 |m=>m
abbrev Zf:=Frame
def Zy(fr:Zf):Frame:= {fr with tmps:=fr.tmps.map<|Zu ρ,todo:=fr.todo.map<|YJ ρ,defers:=fr.defers.map<|Xg ρ,mode:=Wo ρ fr.mode,roundOf:=fr.roundOf.map ρ}
end
def VT(Q:Z5)(r:Bool):Item->Bool
 |.code c|.inLoop c|.inScope c=>X1 Q r c
 |.inRegion a _=>a.all λo=>XZ Q r o.op
 |.inBlock _|.inRangeFunc _|.endRangeFunc _|.beginRound=>xk
 |.call .. |.extern .. =>xw
structure Cx.OkF (X:Cx) (fr:Frame):Prop where
 todo:∀i∈fr.todo,VT X.Q fr.roundOf.isSome i=xk
 defers:∀d∈fr.defers,Ue d=xk
 kind:fr.kind=.normal\/fr.kind=.deferred
 fn:X.oy fr.fn
theorem RZ ρ(a:Ze)t:(a.map<|Zu ρ).getD t xy=Zu ρ (a.getD t xy):=by
 simp[Zhd,ZhJ];cases a[t]? with
 |none=>simp[Option.map_none,ZkZ,Sj]
 |some v=>rfl
theorem RQ ρ fr x(h:Y0 x=xk):(Zy ρ fr).eval x=Zu ρ (fr.eval x):=by
 cases x with
 |tmp t=>exact RZ ρ _ _
 |const v=>exact(LR ρ 9 v h).symm
 |global g=>cases h
 |func f=>simp[Frame.eval,Zu,Vj]
theorem Z9i{ρ v b}:Zu ρ v=.bool b↔v=.bool b:=by
 cases v with
 |pointer q=>cases q<;>simp
 |slice q n c=>cases q<;>simp[Zu]
 |map q=>cases q<;>simp[Zu]
 |chan q=>cases q<;>simp[Zu]
 |_=>simp[Zu]
theorem Ek ρ ops a j:yielded ops (a.map<|Zu ρ) j=yielded ops a j:=by
 unfold yielded;cases(ops[j]?).bind (·.dst)with
 |none=>rfl
 |some d=>
  simp[Zhk,ZhJ];cases a[d]? with
  |none=>rfl
  |some v=>
   simp[ZhA];by_cases h:∃b,v=.bool b;obtain⟨b,rfl⟩:=h;simp;have f:∀u:Zg,(∀b,u≠.bool b)->(match J u with|some (.bool b)=>J b|_=>U:Option Bool)=U:=λu g=>by
    cases u<;>first|rfl|exact absurd rfl<|g _
   exact(f _ λb e=>h ⟨b,Z9i.1 e⟩).trans (f v λb e=>h ⟨b,e⟩).symm
theorem KI ρ Q fr v(h:∀i∈fr.todo,VT Q fr.roundOf.isSome i=xk):(Zy ρ fr).finish (Zu ρ v)=Zy ρ (fr.finish v):=by
 let⟨fn,j,a,d,g,kind,o⟩:=fr;obtain _|⟨i,k⟩:=a;rfl;have f:=h i<|ZiD ..;cases i with
 |inRegion n l=>
  grind [Frame.finish,Zy,YJ,bind,map_set]
 |call=>cases f
 |extern=>cases f
 |_=>rfl
theorem J3{X:Cx}{fr}(h:X.OkF fr)v:X.OkF<|fr.finish v:=by
 let⟨fn,w,o,p,t,kind,y⟩:=fr;let⟨n,d,f,g⟩:=h;obtain _|⟨i,k⟩:=o;exact⟨n,d,f,g⟩;have q:=n i<|ZiD ..;have r:=λj a=>n j<|ZhK _ a;cases i with
 |inRegion x l=>
  obtain _|⟨i,u⟩:=l;exact⟨n,d,f,g⟩;exact⟨λj a=>by obtain rfl|a:=Zhs.1 a;exact q;exact r j a,d,f,g⟩
 |call=>cases q
 |extern=>cases q
 |inRangeFunc l=>exact⟨λj a=>by obtain rfl|a:=Zhs.1 a;rfl;exact r j a,d,f,g⟩
 |beginRound=>exact⟨r,d,f,g⟩
 |_=>exact⟨n,d,f,g⟩
def VI(fr:Zf):Bool:=
 match fr.mode,fr.todo with
 | .run,.inRegion a (i::_)::_=>(match a[i]? with
   |some o=>Region.wanted o (yielded a fr.tmps)&&jJ o.op
   |none=>xw)
 |_,_=>xw
theorem Z2z ρ fr:VI (Zy ρ fr)=VI fr:=by
 let⟨fn,d,f,g,a,kind,n⟩:=fr;have l:=λh=>funext λj=>Ek ρ h d j;cases a<;>first|rfl|skip
 obtain _|⟨i,k⟩:=f;rfl;cases i<;>first|rfl|skip
 grind [VI,Zy,Wo,YJ]
theorem AK ρ id:∀k,exitTo id (k.map<|YJ ρ)=(exitTo id k).map (List.map<|YJ ρ)
 | []=>rfl
 |i::k=>by
  have a:=AK ρ id k;cases i<;>simp[ZhN,YJ,exitTo]<;>first|exact a|(split<;>first|rfl|exact a)
theorem Gw id:∀k a,exitTo id k=J a->∀i∈a,i∈k
 | [],a,h,i,d=>Zgt
 |x::k,a,h,i,d=>by
  have f:=Gw id k a;cases x<;>simp[exitTo]at h<;>first
   |exact ZhK _<|f h i d
   | (split at h
      cases h;exact ZhK _ d;exact ZhK _<|f h i d)
theorem Z3L Q r l:∀c f,X1 Q r c=xk->findLabel c l=J f->X1 Q r f=xk:=by
 intro c;induction c with
 |seq a b g j=>
  intro f h d;simp[X1,Zhb]at h;simp[findLabel]at d;split at d;cases d;simp_all[X1,Zhb];simp_all
 |label k=>
  intro f h d;simp only[findLabel]at d;split at d;cases d;rfl;cases d
 |_=>intro f h d;simp[findLabel]at d
theorem B2 ρ l:∀k,gotoIn l (k.map<|YJ ρ)=(gotoIn l k).map (List.map<|YJ ρ)
 | []=>rfl
 |i::k=>by
  have a:=B2 ρ l k;cases i<;>simp[ZhN,YJ,gotoIn]<;>first|exact a|(split<;>first|rfl|exact a)
theorem Hc Q r l:∀k a,(∀i∈k,VT Q r i=xk)->gotoIn l k=J a->∀i∈a,VT Q r i=xk
 | [],a,f,h,i,d=>Zgt
 |x::k,a,f,h,i,d=>by
  have o:=λj n=>f j<|ZhK _ n;have t:=Hc Q r l k a o;have q:=f x<|ZiD ..;cases x<;>simp[gotoIn]at h<;>first
   |exact t h i d
   | (split at h
      rename_i g p;cases h;obtain rfl|d:=Zhs.1 d;exact Z3L Q r l _ _ q p;grind;simp_all)
theorem ja ρ fr a:(Zy ρ fr).raise (a.map<|Rj ρ)=Zy ρ (fr.raise a):=by
 grind [Frame.raise,Zy,Wo]
theorem qZ{X:Cx}{fr}(h:X.OkF fr)j:X.OkF<|fr.raise j:=by
 let⟨fn,f,g,d,a,kind,k⟩:=fr;cases a<;>exact⟨h.todo,h.defers,h.kind,h.fn⟩
theorem Gn{X:Cx}{f}(d:X.se f)args kd:Frame.enter X.P f (args.map<|Zu X.ρ) kd=Zy X.ρ (Frame.enter X.Q f args kd):=by
 let⟨fn,c,g,a,h,j⟩:=d;have e:X.P.funcs[f]?=J fn:=a;simp_all[Frame.enter,Zy,ZhA,ZhE,Zhk,YJ,Wo,Sj]
theorem Gm{X:Cx}{f}(a:X.se f)args kd(n:kd=.normal\/kd=.deferred):X.OkF<|Frame.enter X.Q f args kd:=by
 refine⟨λi g=> ?_,λd l=>(by cases l),n,.inl a⟩;let⟨fn,c,h,o,j,k⟩:=a;simp[Frame.enter,h,Zhk,j,ZhE,Zic]at g;subst g;exact k
def bot:Frame->List Frame->CallKind×Option Nat
 |a,[]=>(a.kind,a.roundOf)
 |_,c::d=>bot c d
structure Cx.St (X:Cx) (fr:Frame) (cs:List Frame):Prop where
 bo:X.OkF fr
 all:∀c∈cs,X.OkF c
 bot:bot fr cs=(.normal,U)
theorem Z8Y{X:Cx}{fr cs}(h:X.St fr cs)c0 ds:
  (tryRecover fr (cs++[c0])=U/\tryRecover (Zy X.ρ fr) (cs.map (Zy X.ρ)++ds)=U)\/
  ∃v d,tryRecover fr (cs++[c0])=J (v,d++[c0])/\tryRecover (Zy X.ρ fr) (cs.map (Zy X.ρ)++ds)=J (Zu X.ρ v,d.map (Zy X.ρ)++ds)/\X.St fr d:=by
 let⟨o,u,p⟩:=h;have q:(Zy X.ρ fr).kind=fr.kind:=rfl;obtain y|w:=o.kind;left;unfold tryRecover;rw[q,y];exact⟨rfl,rfl⟩;obtain _|⟨c,cs⟩:=cs;simp_all[Vm.bot];have l:=u c<|ZiD ..;simp[ZhN,Zix];unfold tryRecover;rw[q,w];let⟨fn,j,k,a,g,kind,z⟩:=c;cases g with
 |run=>exact .inl ⟨rfl,rfl⟩
 |returning=>exact .inl ⟨rfl,rfl⟩
 |panicking t=>
  obtain _|⟨e,f⟩:=t;exact .inl ⟨rfl,rfl⟩;let⟨v,n,ge⟩:=e;cases n;cases ge;refine .inr ⟨v,⟨fn,j,k,a,.panicking<|{v,recovered:=xk}::f,kind,z⟩::cs,rfl,rfl,o,λx r=> ?_,?_⟩;obtain rfl|r:=Zhs.1 r;exact⟨l.todo,l.defers,l.kind,l.fn⟩;simp_all;cases cs with
  |nil=>exact p
  |cons=>exact p
  exact .inl ⟨rfl,rfl⟩;exact .inl ⟨rfl,rfl⟩
theorem FT{fr fr'}cs(h:fr'.kind=fr.kind)(h2:fr'.roundOf=fr.roundOf):bot fr' cs=bot fr cs:=by
 cases cs with
 |nil=>simp_all[bot]
 |cons=>rfl
theorem Cx.St.with{X:Cx}{fr fr' cs}(h:X.St fr cs)(a:X.OkF fr')(d:fr'.kind=fr.kind)(f:fr'.roundOf=fr.roundOf):X.St fr' cs:=⟨a,h.all,(FT cs d f).trans h.bot⟩
theorem Cx.St.push{X:Cx}{fr fr' cs}(h:X.St fr cs)(d:X.OkF fr'):X.St fr'<|fr::cs:=⟨d,λc a=>by obtain rfl|a:=Zhs.1 a;exact h.bo;exact h.all c a,h.bot⟩
theorem Cx.St.ui{X:Cx}{fr c a cs}(h:X.St fr<|c::cs)(d:X.OkF a)(f:a.kind=c.kind)(g:a.roundOf=c.roundOf):X.St a cs:=⟨d,λx j=>h.all x<|ZhK _ j,(FT cs f g).trans h.bot⟩
theorem J2(fr:Zf)v:(fr.finish v).kind=fr.kind:=by
 grind [Frame.finish]
theorem J4(fr:Zf)v:(fr.finish v).roundOf=fr.roundOf:=by
 grind [Frame.finish]
theorem jb(fr:Zf)a:(fr.raise a).roundOf=fr.roundOf:=by
 grind [Frame.raise]
theorem qY(fr:Zf)a:(fr.raise a).kind=fr.kind:=by
 grind [Frame.raise]
end
section
def Q8(fr:Zf)(j:Option Code):Sem Unit:=
 match fr.roundOf with
 |some l=>Instr.endRound l j>>=λ_=>pure ()
 |none=>pure ()
def YK(fr:Zf):Sem Unit:=
 match fr.mode with
 | .run=>
   match fr.todo with
   | []=>Q8 fr U
   |.code .ret::_=>Q8 fr<|J .ret
   |.code (.exit id)::k=>if(exitTo id k).isSome then pure ()else Q8 fr<|J<|.exit id
   |.code (.goto l)::k=>if(gotoIn l k).isSome then pure ()else Q8 fr<|J<|.goto l
   | .code (.rangeFunc f a assign g)::_=>Instr.enterLoop fr.fn fr.tmps a assign g fr.roundOf>>=λx=>
     (do let d<-resolve fr.eval {callee:=.value f,args:=#[.const<|.func (.yield x.1) #[] #[]],argTypes:=#[]} 0;invoke d.target d.args)>>=λ_=>pure ()
   |.beginRound::_=>fr.roundOf.elim (stuck "beginRound: no round") Instr.beginRound
   |.endRangeFunc l::_=>Instr.endLoop l>>=λ_=>pure ()
   |.code (.region id _ xk)::_=>choose (.order fr.fn id)>>=λ_=>pure ()
   | .inRegion h (i::_)::_=>(match h[i]? with
     |some o=>if Region.wanted o (yielded h fr.tmps)then execOp fr.eval o>>=λ_=>pure ()else pure ()
     |none=>pure ())
   |_=>pure ()
 |_=>match fr.defers with
  | {target:=.collected b, .. }::_=>Instr.takeDeferred b>>=λ_=>pure ()
  |d::_=>invoke d.target d.args>>=λ_=>pure ()
  | []=>(match fr.mode with
    | .returning=>program>>=λp=>(match p.funcs[fr.fn]? with
      |some fn=>results fn fr.tmps>>=λ_=>pure ()
      |none=>pure ())
    |_=>pure ())
theorem Rx{α}p(s:Sem α)w:Ye ((s>>=λ_=>(pure ():Sem Unit)).run p w)=Ye (s.run p w):=by
 rw[ZhV];cases s.run p w<;>rfl
def Cx.cj(X:Cx)(a wc W:Z3):Prop:=(∀j,wc.drawn+j<W.drawn->a.tape (a.drawn+j)=wc.tape (wc.drawn+j))/\∀j,xz (xj wc)+j<xz (xj W)->X.ρ (xz (xj a)+j)=xz (xj wc)+j
def Cx.Img.ip{X:Cx}{α β RA}{s:Sem α}{f:Sem β}(h:X.Img RA [] s f){a wc}(g:X.WR a wc)(d:X.cj a wc<|Ye<|f.run X.P wc):=
 h.run a wc #[] g (λ_ h=>Zgt) d.1 d.2
theorem Cx.Aft.es{X:Cx}{g wc f d es a es2}(h:X.Aft g wc f d es a)(k:∀e∈es2,e∈a):X.Aft g wc f d es es2:=
 ⟨h.wr,h.sz,h.rx,h.dr,h.pz,h.tl,h.tc,h.oc,h.new,h.keep,λe j=>h.nf e Zgd,h.ox⟩
abbrev Z8:=List Frame
def Cx.fa(X:Cx)(c0:Zf)(ds:Z8)(h wc W:Z3)(s g:GStep):Prop:=
 (∃o w es,s=.ended o w es)\/
 ∃fr cs d f a,s=.go (Conc.G fr<|cs++[c0]) d f/\g=.go (Conc.G (Zy X.ρ fr)<|cs.map (Zy X.ρ)++ds) W a/\X.St fr cs/\X.Aft h wc d W #[] a
section
variable {X:Cx}{c0:Zf}{ds:Z8}
def Qx{α}p(s:Sem α)w es:∃a,s.runT p w es=(s.run p w,a):=⟨_,ZjP (Zji p s w es) rfl⟩
def UP(fr:Zf):Prop:=(match fr.todo with|.call _ xk _ _::_=>CallKind.wrapped|_=>.normal)=.normal/\(fr.kind==.early)=xw
def Cx.OkF.plain{fr}(h:X.OkF fr):UP fr:=by
 constructor;have a:=h.todo;cases e:fr.todo with
 |nil=>rfl
 |cons i k=>
  have:=a i Zgd;cases i<;>first|rfl|cases this
 obtain e|e:=h.kind<;>rw[e]<;>rfl
def Z8l{ρ fr}(h:UP fr):UP<|Zy ρ fr:=by
 refine⟨?_,h.2⟩;have g:=h.1;let⟨fn,l,a,f,j,kind,n⟩:=fr;obtain _|⟨i,k⟩:=a;rfl;cases i with
 |call d b r s=>cases b<;>exact g
 |_=>exact g
section
variable {p:Z5}{fr:Zf}{cs:Z8}{s:Sem Next}{w w':Z3}{es:Zc}
def FF(h:UP fr){v}(e:s.runT p w #[]=(.ok (.value v) w',es)):stepG.apply p xk fr cs U s w=.go (Conc.G (fr.finish v) cs) w' (seen p fr.fn es):=by
 unfold stepG.apply Conc.G;simp only[Zi9,e,h.2,Zhu,Zif,GStep.after,Zi4]
def FD(h:UP fr)(e:s.runT p w #[]=(.ok .skip w',es)):stepG.apply p xk fr cs U s w=.go (Conc.G (fr.finish xy) cs) w' (seen p fr.fn es):=by
 unfold stepG.apply Conc.G;simp only[Zi9,e,h.2,Zhu,Zif,GStep.after,Zi4]
def Fy(h:UP fr){f args}(e:s.runT p w #[]=(.ok (.enter f args) w',es)):stepG.apply p xk fr cs U s w=.go (Conc.G (Frame.enter p f args .normal)<|fr::cs) w' (seen p fr.fn es):=by
 unfold stepG.apply Conc.G;simp only[e,h.2];exact Zii (λk=>GStep.go (Conc.G _ _) w' _) h.1
def FB(h:UP fr){l f d a b}(e:s.runT p w #[]=(.ok (.round l f d a b) w',es)):stepG.apply p xk fr cs U s w=.go (Conc.G (Frame.round l f d a b .normal)<|fr::cs) w' (seen p fr.fn es):=by
 unfold stepG.apply Conc.G;simp only[Zi9,e,h.2,Zhu,Zif,GStep.after,Zi4]
def Fx(h:UP fr){d}(e:s.runT p w #[]=(.ok (.defer d) w',es)):stepG.apply p xk fr cs U s w=.go (Conc.G ({fr with defers:=d::fr.defers}.finish xy) cs) w' (seen p fr.fn es):=by
 unfold stepG.apply Conc.G;simp only[Zi9,e,h.2,Zhu,Zif,GStep.after,Zi4]
def FA(h:UP fr){v}(e:s.runT p w #[]=(.halt (.panic v) w',es)):stepG.apply p xk fr cs U s w=.go (Conc.G (fr.raise [{v,recovered:=xw}]) cs) w' (seen p fr.fn es):=by
 unfold stepG.apply Conc.G;simp only[Zi9,e,h.2,Zhu,Zif,GStep.after,Zi4]
def Fz(h:UP fr)(d:fr.roundOf=U)(e:s.runT p w #[]=(.ok .recover w',es))(a:tryRecover fr cs=U):stepG.apply p xk fr cs U s w=.go (Conc.G (fr.finish .nilIface) cs) w' (seen p fr.fn es):=by
 unfold stepG.apply Conc.G;simp only[Zi9,e,h.2,d,a,Zhu,Zif,GStep.after,Zi4]
def FE(h:UP fr)(f:fr.roundOf=U){v a}(e:s.runT p w #[]=(.ok .recover w',es))(d:tryRecover fr cs=J (v,a)):stepG.apply p xk fr cs U s w=.go (Conc.G (fr.finish v) a) w' (seen p fr.fn es):=by
 unfold stepG.apply Conc.G;simp only[Zi9,e,h.2,f,d,Zhu,Zif,GStep.after,Zi4]
def Af{h}(f:bad h)(e:s.runT p w #[]=(.halt h w',es)):∃o d a,stepG.apply p xk fr cs U s w=.ended o d a:=by
 unfold stepG.apply;simp only[e];cases h<;>first|exact f.elim|skip
 rename_i u;cases u<;>first|exact f.elim|exact⟨_,_,_,rfl⟩
 exact⟨_,_,_,rfl⟩
end
def Zfk{ρ}l f d a b kd:Frame.round (ρ l) f (d.map<|Zu ρ) a b kd=Zy ρ (Frame.round l f d a b kd):=by
 rfl
def P0{fr}(h:X.OkF fr)l f(p:X.oy f)g a b(k:X1 X.Q xk a=xk)(n:X1 X.Q xk b=xk)kd(q:kd=.normal\/kd=.deferred):X.OkF<|Frame.round l f g a b kd:=by
 refine⟨λi j=> ?_,λd o=>(by cases o),q,p⟩;simp[Frame.round]at j;obtain rfl|rfl|rfl:=j;exact k;rfl;exact n
def QD{β P W wc a}{f:Sem β}{r d}(g:W=Ye (f.run P wc))(e:f.runT P wc #[]=(r,d))(h:Ye r=a):W=a:=by
 simp_all
def DA{fr cs}(h:X.St fr cs){s K}(hi:X.Img (X.NR fr.roundOf.isSome) [] s K){D wc}(hw:X.WR D wc){W}(hW:W=Ye (K.run X.P wc))(ha:X.cj D wc W):
  X.fa c0 ds D wc W (stepG.apply X.Q xk fr (cs++[c0]) U s D) (stepG.apply X.P xk (Zy X.ρ fr) (cs.map (Zy X.ρ)++ds) U K wc):=by
 have C:=hi.ip hw Zgd;have F:∀r p g,K.runT X.P wc #[]=(r,g)->Ye r=p->W=p:=Zgd;have w:=h.bo.plain;have k:=Z8l (ρ:=X.ρ) w;let⟨S,q⟩:=Qx X.Q s D #[];cases R:s.run X.Q D with
 |halt x j=>
  rw[R]at q C;cases x with
  |panic v=>
   let⟨p,g,t,u⟩:=C;obtain rfl:=F _ p _ t rfl;refine .inr ⟨fr.raise [{v,recovered:=xw}],cs,j,_,seen X.P fr.fn g,FA w q,?_,h.with (qZ h.bo _) (qY _ _)<|jb _ _,u.es λe n=>mem_seen n⟩;rw[<-ja];exact FA k t
  |stuck=>exact .inl<|Af (h:=.stuck _) C q
  |unsupported=>exact .inl<|Af (h:=.unsupported _) C q
  |_=>exact False.elim C
 |ok a j=>
  rw[R]at q C;let⟨b,p,g,t,A,u⟩:=C;obtain rfl:=F _ p _ t rfl;have fin:=λv=>h.with (J3 h.bo v) (J2 _ _)<|J4 _ _;have o:=λv=>KI X.ρ X.Q fr v h.bo.todo;cases a with
  |value v=>
   obtain rfl:b=_:=A;refine .inr ⟨fr.finish v,cs,j,_,seen X.P fr.fn g,FF w q,?_,fin v,u.es λe n=>mem_seen n⟩;rw[<-o];exact FF k t
  |skip=>
   obtain rfl:b=_:=A;refine .inr ⟨fr.finish xy,cs,j,_,seen X.P fr.fn g,FD w q,?_,fin xy,u.es λe n=>mem_seen n⟩;rw[<-o,Sj];exact FD k t
  |enter f args=>
   obtain⟨rfl,H⟩:b=_/\_:=A;refine .inr ⟨Frame.enter X.Q f args .normal,fr::cs,j,_,seen X.P fr.fn g,Fy w q,?_,h.push<|Gm H args _ Z1,u.es λe n=>mem_seen n⟩;rw[<-Gn H];exact Fy k t
  |round l f z a c=>
   obtain⟨rfl,T,Y,H⟩:b=_/\_:=A;refine .inr ⟨Frame.round l f z a c .normal,fr::cs,j,_,seen X.P fr.fn g,FB w q,?_,h.push<|P0 h.bo l f H z a c T Y _ Z1,u.es λe n=>mem_seen n⟩;exact FB k t
  |defer d=>
   obtain⟨rfl,Z⟩:b=_/\_:=A;have G:X.OkF {fr with defers:=d::fr.defers}:=⟨h.bo.todo,λx M=>by obtain rfl|M:=Zhs.1 M;exact Z;exact h.bo.defers x M,h.bo.kind,h.bo.fn⟩;refine .inr ⟨({fr with defers:=d::fr.defers}:Frame).finish xy,cs,j,_,seen X.P fr.fn g,Fx w q,?_,h.with (J3 G _) (J2 _ _)<|J4 _ _,u.es λe n=>mem_seen n⟩;rw[<-KI X.ρ X.Q _ _ G.todo,Sj];exact Fx k t
  |recover=>
   obtain⟨rfl,a0⟩:b=_/\_:=A;have B:fr.roundOf=U:=by cases e:fr.roundOf with
    |none=>rfl
    |some l=>simp_all
   have y:(Zy X.ρ fr).roundOf=U:=by simp[Zy,B]
   obtain⟨N,O⟩|⟨v,L,N,O,hs⟩:=Z8Y h c0 ds;refine .inr ⟨fr.finish .nilIface,cs,j,_,seen X.P fr.fn g,Fz w B q N,?_,fin _,u.es λe n=>mem_seen n⟩;rw[<-o,Sh];exact Fz k y t O;refine .inr ⟨fr.finish v,L,j,_,seen X.P fr.fn g,FE w B q N,?_,hs.with (J3 h.bo v) (J2 _ _)<|J4 _ _,u.es λe n=>mem_seen n⟩;rw[<-o];exact FE k y t O
  |_=>exact A.elim
def Gf ρ:∀l:List PanicEntry,(l.map<|Rj ρ).dropWhile (!·.goexit)=(l.dropWhile (!·.goexit)).map (Rj ρ)
 | []=>rfl
 |e::l=>by
  simp[List.dropWhile_cons];have:(Rj ρ e).goexit=e.goexit:=rfl;rw[this];cases e.goexit;exact Gf ρ l;rfl
def TT(c:Zf):Frame:=
 match c.mode with
 | .panicking ({recovered:=xk, .. }::a)=>
   match a.dropWhile (!·.goexit)with
   | []=> {c with mode:=.returning}
   |d=> {c with mode:=.panicking d}
 |_=>c
theorem Z2D ρ c:TT (Zy ρ c)=Zy ρ (TT c):=by
 let⟨fn,h,j,f,d,kind,l⟩:=c;cases d with
 |panicking k=>
  obtain _|⟨e,a⟩:=k;rfl;let⟨v,g,ge⟩:=e;cases g;rfl;simp[TT,Zy,Wo,Rj];have:=Gf ρ a;rw[this];cases a.dropWhile _<;>rfl
 |_=>rfl
def Al c:(TT c).kind=c.kind/\(TT c).roundOf=c.roundOf/\(X.OkF c->X.OkF (TT c)):=by
 unfold TT;split;split<;>exact⟨rfl,rfl,λh=>⟨h.todo,h.defers,h.kind,h.fn⟩⟩;simp
def jh{p main fr c cs v w}(h:fr.kind=.normal):doReturn p main fr (c::cs) U v w=.go (G (c.finish v) cs) w:=by
 simp[doReturn,h,Conc.G]
theorem OW{p main fr c cs v w}(h:fr.kind=.deferred):doReturn p main fr (c::cs) U v w=.go (G (TT c) cs) w:=by
 simp[doReturn,h];rfl
def DB{main fr c cs}(h:X.St fr<|c::cs)v g wc:
  ∃a,doReturn X.Q xk fr (c::cs++[c0]) U v g=.go (G a<|cs++[c0]) g/\doReturn X.P main (Zy X.ρ fr) ((c::cs).map (Zy X.ρ)++ds) U (Zu X.ρ v) wc=.go (G (Zy X.ρ a)<|cs.map (Zy X.ρ)++ds) wc/\X.St a cs:=by
 have d:=h.all c Z1;obtain f|f:=h.bo.kind;refine⟨c.finish v,jh f,?_,h.ui (J3 d v) (J2 _ _)<|J4 _ _⟩;rw[<-KI X.ρ X.Q c v d.todo];simp_all[jh,Zy];refine⟨TT c,OW f,?_,h.ui ((Al c).2.2 d) (Al (X:=X) c).1 (Al (X:=X) c).2.1⟩;grind [Z2D,OW,Zy]
def Sim.same{fr cs}(h:X.St fr cs){a wc}(d:X.WR a wc):X.fa c0 ds a wc wc (.go (G fr<|cs++[c0]) a)<|.go (G (Zy X.ρ fr)<|cs.map (Zy X.ρ)++ds) wc:=
 .inr ⟨fr,cs,a,_,_,rfl,rfl,h,.refl _ d⟩
end
end
section
section
variable {X:Cx}{c0:Zf}{ds:Z8}
def Cx.cj.mono{d wc W a:Z3}(h:X.cj d wc W)(g:xz (xj a)<=xz (xj W)/\a.drawn<=W.drawn):X.cj d wc a:=
 ⟨λj f=>h.1 j Z0,λj f=>h.2 j Z0⟩
def Cx.cj.next{k wc d a W:Z3}{es g:Zc}(h:X.cj k wc W)(f:X.Aft k wc d a es g):X.cj d a W:=by
 have n:=f.dr;have o:=f.pz;have p:=f.sz;have q:=f.rx;refine⟨λj l=> ?_,λj l=> ?_⟩;have:=h.1 (a.drawn-wc.drawn+j) Z0;rw[f.tl,f.tc,show d.drawn+j=k.drawn+(a.drawn-wc.drawn+j)from by omega,this];grind;have:=h.2 (xz (xj a)-xz (xj wc)+j) Z0;grind
def Cx.Aft.we{j wc f d:Z3}{es:Zc}(a:Zc)(h:X.Aft j wc f d #[] es):X.Aft j wc f d a<|a++es:=
 ⟨h.wr,h.sz,h.rx,h.dr,h.pz,h.tl,h.tc,h.oc,h.new,h.keep,λe g=>by
  obtain g|g:=ZiK.1 g;grind;obtain h|h:=h.nf e g;simp at h;simp_all,h.ox⟩
def Cx.fa.after{l wc f d W:Z3}{g a:Zc}{s k:GStep}(n:X.Aft l wc f d #[] a)(h:X.fa c0 ds f d W s k):X.fa c0 ds l wc W (GStep.after g s)<|GStep.after a k:=by
 obtain⟨o,w,y,rfl⟩|⟨t,p,j,r,q,rfl,rfl,x,u⟩:=h;exact .inl ⟨_,_,_,rfl⟩;exact .inr ⟨t,p,j,_,_,rfl,rfl,x,n.trans<|u.we a⟩
def S8(p:Z5)(main:Bool)(fr:Zf)(cs:Z8)(j:Option Code)(YY:GStep)(w:Z3):GStep:=
 match fr.roundOf with
 |none=>if(match j with|none|some .ret=>xk|_=>xw)then .go (G {fr with mode:=.returning} cs) w else YY
 |some l=>
  let(r,es):=(Instr.endRound l j).runT p w #[]
  GStep.after (seen p fr.fn es)<|match r with
  |.ok v w=>doReturn p main fr cs U v w
  |.halt _ w=>.ended (.stuck "range over a function: no such loop" (fr.pos p)) w
def jC(ok:X.Ok){main:Bool}{fr:Zf}{cs:Z8}(h:X.St fr cs)(j:Option Code)(K:j.all Jc=xk){o:Outcome}{R:Z3}{B:Zc}(YY:GStep){g wc:Z3}(y:X.WR g wc)
  {W:Z3} (d:W=Ye ((Q8 (Zy X.ρ fr) j).run X.P wc)) (F:X.cj g wc W):
  X.fa c0 ds g wc W (S8 X.Q xk fr (cs++[c0]) j (.ended o R B) g) (S8 X.P main (Zy X.ρ fr) (cs.map (Zy X.ρ)++ds) j YY wc):=by
 cases n:fr.roundOf with
 |none=>
  have a:(Zy X.ρ fr).roundOf=U:=by simp[Zy,n]
  obtain rfl:W=wc:=by
   unfold Q8 at d;rw[a]at d;exact d
  have r:=Sim.same (c0:=c0) (ds:=ds) (fr:= {fr with mode:=.returning}) (cs:=cs) (h.with ⟨h.bo.todo,h.bo.defers,h.bo.kind,h.bo.fn⟩ rfl rfl) y;have e:∀(p:Z5) (main:Bool) (fr:Zf) (cs:Z8) (YY:GStep) (w:Z3),fr.roundOf=U->S8 p main fr cs j YY w=if(match j with|none|some .ret=>xk|_=>xw)then .go (G {fr with mode:=.returning} cs) w else YY:=λp main fr cs YY w h=>by
   unfold S8;split;rfl;rename_i l e;rw[h]at e;cases e
  rw[e _ _ _ _ _ _ n,e _ _ _ _ _ _ a];generalize (match j with|none|some .ret=>xk|_=>xw)=b;cases b;exact .inl ⟨_,_,_,rfl⟩;exact r
 |some l=>
  have a:(Zy X.ρ fr).roundOf=J (X.ρ l):=by simp[Zy,n]
  unfold Q8 at d;unfold S8;rw[a,n];rw[a]at d;dsimp only at d⊢;rw[Rx]at d;have u:=(Z4S (V:=[]) ok l j K).ip y<|d▸F;obtain⟨D,A⟩:=Qx X.Q (Instr.endRound l j) g #[];rw[A];cases L:(Instr.endRound l j).run X.Q g with
  |halt x f=>exact .inl ⟨_,_,_,rfl⟩
  |ok v f=>
   rw[L]at u;obtain⟨b,O,C,t,H,z⟩:=u;obtain rfl:=QD d t rfl;obtain rfl:b=_:=H;rw[t];dsimp only;obtain _|⟨c,cs⟩:=cs;have:=h.bot;simp only[bot,n,Zho,reduceCtorEq,and_false]at this;obtain⟨q,M,N,r⟩:=DB (c0:=c0) (ds:=ds) (main:=main) h v f W;rw[M,N];refine .inr ⟨q,cs,f,_,_,rfl,rfl,r,(z.es λe k=> ?_)⟩;obtain k|k:=ZiK.1 k;exact mem_seen k;simp at k
abbrev Zn:=List Item
def jD{fr:Zf}{cs:Z8}(h:X.St fr cs)(k:Zn)(d:∀i∈k,VT X.Q fr.roundOf.isSome i=xk){a wc:Z3}(f:X.WR a wc):
  X.fa c0 ds a wc wc (.go (G {fr with todo:=k}<|cs++[c0]) a) (.go (G {Zy X.ρ fr with todo:=k.map (YJ X.ρ)}<|cs.map (Zy X.ρ)++ds) wc):=
 Sim.same (fr:= {fr with todo:=k}) (h.with ⟨d,h.bo.defers,h.bo.kind,h.bo.fn⟩ rfl rfl) f
def Z9M{α β:Type}{RA:α->β->Prop}{k wc g:Z3}{es:Zc}{a:α}{j:Sem β}(h:X.bq RA k wc es (.ok a g)<|j.runT X.P wc es):∃b d f,j.run X.P wc=.ok b d/\RA a b/\X.Aft k wc g d es f:=by
 obtain⟨b,d,f,e,l,n⟩:=h;grind [Sem.runT_fst]
def Z5G{c:Code}(h:Jc c=xk)(Q:Z5)(r:Bool):X1 Q r c=xk:=by cases c<;>first|rfl|cases h
abbrev Zm:=Array Oper
def Kz{p:Z5}{main:Bool}{fr:Zf}{cs:Z8}{w:Z3}{ops:Zm}{i:Nat}{rest:Zb}{k:Zn}{o:Oper}(f:fr.todo=.inRegion ops (i::rest)::k)(q:ops[i]?=J o)
  (g:Region.wanted o (yielded ops fr.tmps)=xk) (d:fr.roundOf.isSome=xk->∀c,o.op≠.defer c):stepG.exec p main xk fr cs U w=stepG.apply p xk fr cs U (execOp fr.eval o) w:=by
 obtain⟨fn,j,n,a,h,kind,r⟩:=fr;dsimp only at f g d;subst f;simp only[stepG.exec,q,ZhA,g,ZhE,Zi9,stepG.oper,Frame.oper?];obtain _|l:=r;rfl;split;rename_i c e;exact absurd e<|d rfl _;rfl
def Gv{p:Z5}{main:Bool}{fr:Zf}{cs:Z8}{w:Z3}{ops:Zm}{i:Nat}{rest:Zb}{k:Zn}(d:fr.todo=.inRegion ops (i::rest)::k)
  (f:((ops[i]?).map (Region.wanted · (yielded ops fr.tmps))).getD xw=xw):stepG.exec p main xk fr cs U w=.go (G (fr.finish xy) cs) w:=by
 obtain⟨fn,h,j,a,g,kind,l⟩:=fr;dsimp only at d f;subst d;simp only[stepG.exec,f,Zhu,Zif];rfl
def Zai(ok:X.Ok){main:Bool}{fr:Zf}{cs:Z8}(h:X.St fr cs){ops:Zm}{i:Nat}{rest:Zb}{k:Zn}(t:fr.todo=.inRegion ops (i::rest)::k)(A:fr.mode=.run)(C:VI fr=xw){p wc:Z3}(u:X.WR p wc)
  {W:Z3} (d:W=Ye ((YK<|Zy X.ρ fr).run X.P wc)) (y:X.cj p wc W):X.fa c0 ds p wc W (stepG.exec X.Q xk xk fr (cs++[c0]) U p)<|stepG.exec X.P main xk (Zy X.ρ fr) (cs.map (Zy X.ρ)++ds) U wc:=by
 have a:(Zy X.ρ fr).todo=.inRegion ops (i::rest)::k.map (YJ X.ρ):=by simp[Zy,t,YJ]
 have w:yielded ops (Zy X.ρ fr).tmps=yielded ops fr.tmps:=funext λj=>Ek X.ρ ops fr.tmps j;have g:(Zy X.ρ fr).mode=.run:=by simp[Zy,A,Wo]
 have skip:W=wc->((ops[i]?).map (Region.wanted · (yielded ops fr.tmps))).getD xw=xw->X.fa c0 ds p wc W (stepG.exec X.Q xk xk fr (cs++[c0]) U p) (stepG.exec X.P main xk (Zy X.ρ fr) (cs.map (Zy X.ρ)++ds) U wc):=λq B=>by
  subst q;rw[Gv t B,Gv a Zgc];have:=KI X.ρ X.Q fr xy h.bo.todo;rw[Sj]at this;rw[this];exact Sim.same (h.with (J3 h.bo _) (J2 _ _)<|J4 _ _) u
 have f:VT X.Q fr.roundOf.isSome (.inRegion ops<|i::rest)=xk:=h.bo.todo _ Zgd;cases n:ops[i]? with
 |none=>
  refine skip ?_ Zgc;unfold YK at d;rw[g,a]at d;simp only[n]at d;exact d
 |some o=>
  cases l:Region.wanted o (yielded ops fr.tmps)with
  |false=>
   refine skip ?_ Zgd;unfold YK at d;rw[g,a]at d;simp only[n,w,l,Zhu,Zif]at d;exact d
  |true=>
   have r:XZ X.Q fr.roundOf.isSome o.op=xk:=by
    simp only[VT,Zjh]at f;exact f o<|ZjJ n
   have z:fr.roundOf.isSome=xk->∀c,o.op≠.defer c:=λF c e=>by
    simp_all[XZ]
   rw[Kz t n l z,Kz a n Zgd (by simp_all[Zy])];refine DA h (Z4W (λx D=>RQ X.ρ fr x D) (λv=>rfl) ok o r<|by simp_all[VI]) u ?_ y;have e:YK (Zy X.ρ fr)=(execOp (Zy X.ρ fr).eval o>>=λ_=>pure ()):=by
    unfold YK;rw[g,a];simp only[n,w,l,Zi9]
   grind [Rx]
end
end
section
section
variable {X:Cx}{c0:Zf}{ds:Z8}
def qx{X:Cx}{fr}(h:X.OkF fr){i k}(e:fr.todo=i::k):VT X.Q fr.roundOf.isSome i=xk/\∀j∈k,VT X.Q fr.roundOf.isSome j=xk:=
 ⟨h.todo _ Zgd,λj a=>h.todo _ Zgd⟩
def Z5o{V rd s a}(h:X.Img Eq V s a):X.Img (X.NR rd) V (do s;pure .skip:Sem Next) (do a;pure .skip:Sem Next):=yM h
def Zad(ok:X.Ok){main fr cs}(h:X.St fr cs){k}(o:fr.todo=.beginRound::k)(y:fr.mode=.run){f wc}(z:X.WR f wc)
  {W} (g:W=Ye ((YK<|Zy X.ρ fr).run X.P wc)) (u:X.cj f wc W):X.fa c0 ds f wc W (stepG.exec X.Q xk xk fr (cs++[c0]) U f)<|stepG.exec X.P main xk (Zy X.ρ fr) (cs.map (Zy X.ρ)++ds) U wc:=by
 have n:∀p main fr cs k w,fr.todo=.beginRound::k->stepG.exec p main xk fr cs U w=stepG.apply p xk fr cs U (do fr.roundOf.elim _ Instr.beginRound;pure .skip) w:=λp main fr cs k w e=>by
  let⟨fn,r,t,d,q,kind,A⟩:=fr;subst e;rfl
 have a:(Zy X.ρ fr).todo=.beginRound::k.map (YJ X.ρ):=by simp[Zy,o,YJ]
 have j:(Zy X.ρ fr).mode=.run:=by simp[Zy,y,Wo]
 rw[n _ _ _ _ _ _ o,n _ _ _ _ _ _ a];have x:X.Img Eq [] (fr.roundOf.elim (stuck "beginRound: no round") Instr.beginRound) ((Zy X.ρ fr).roundOf.elim (stuck "beginRound: no round") Instr.beginRound):=by
  show X.Img Eq [] _<|(fr.roundOf.map X.ρ).elim _ _;cases fr.roundOf with
  |none=>exact ZE _ _
  |some l=>exact Z4v ok l
 refine DA h (Z5o x) z ?_ u;unfold YK at g;rw[j,a]at g;rw[g,ZhV];cases((Zy X.ρ fr).roundOf.elim _ Instr.beginRound).run X.P wc<;>rfl
def Zag(ok:X.Ok){main fr cs}(h:X.St fr cs){l k}(C:fr.todo=.endRangeFunc l::k)(T:fr.mode=.run){g wc}(Y:X.WR g wc)
  {W} (z:W=Ye ((YK<|Zy X.ρ fr).run X.P wc)) (O:X.cj g wc W):X.fa c0 ds g wc W (stepG.exec X.Q xk xk fr (cs++[c0]) U g)<|stepG.exec X.P main xk (Zy X.ρ fr) (cs.map (Zy X.ρ)++ds) U wc:=by
 have F:∀p main fr cs l k w,fr.todo=.endRangeFunc l::k->stepG.exec p main xk fr cs U w=
   GStep.after (seen p fr.fn ((Instr.endLoop l).runT p w #[]).2) (match((Instr.endLoop l).runT p w #[]).1 with
    |.ok r w=>.go (G {fr with todo:=(r.map Item.code).toList++k} cs) w
    |.halt (.panic v) w=>.go (G (fr.raise [{v,recovered:=xw}]) cs) w
    |.halt _ w=>.ended (.stuck "range over a function: no such loop" (fr.pos p)) w):=λp main fr cs l k w e=>by
  let⟨fn,L,todo,t,K,kind,Z⟩:=fr;subst e;rfl
 have q:(Zy X.ρ fr).todo=.endRangeFunc (X.ρ l)::k.map (YJ X.ρ):=by simp[Zy,C,YJ]
 have B:(Zy X.ρ fr).mode=.run:=by simp[Zy,T,Wo]
 rw[F _ _ _ _ _ _ _ C,F _ _ _ _ _ _ _ q];have A:W=Ye ((Instr.endLoop<|X.ρ l).run X.P wc):=by
  unfold YK at z;rw[B,q]at z;rwa[Rx]at z
 have u:=(Z4R (V:=[]) ok l).ip Y<|A▸O;let⟨N,M⟩:=Qx X.Q (Instr.endLoop l) g #[];rw[M];cases H:(Instr.endLoop l).run X.Q g with
 |halt x f=>
  rw[H]at u;cases x with
  |panic v=>
   let⟨D,d,n,y⟩:=u;obtain rfl:=QD A n rfl;rw[n];refine .inr ⟨fr.raise [{v,recovered:=xw}],cs,f,_,_,rfl,?_,h.with (qZ h.bo _) (qY _ _)<|jb _ _,(y.es (es2:=seen X.P fr.fn d++ #[]) λe o=> ?_)⟩;rw[<-ja];rfl;rw[Zi4]at o;exact mem_seen o
  |_=>exact .inl ⟨_,_,_,rfl⟩
 |ok j f=>
  rw[H]at u;obtain⟨b,D,d,n,⟨rfl,R⟩,y⟩:=u;obtain rfl:=QD A n rfl;rw[n];let⟨a,S⟩:=qx h.bo C;refine .inr ⟨{fr with todo:=(j.map Item.code).toList++k},cs,f,_,_,rfl,?_,h.with ⟨λi a=> ?_,h.bo.defers,h.bo.kind,h.bo.fn⟩ rfl rfl,(y.es (es2:=seen X.P fr.fn d++ #[]) λe o=> ?_)⟩;cases j<;>simp[Zy,YJ,GStep.after];obtain a|a:=ZhC.1 a;obtain _|c:=j;cases a;simp[ZhA,Option.toList_some,Zic]at a;subst a;exact Z5G (by simpa using R) _ _;exact S i a;rw[Zi4]at o;exact mem_seen o
def Zaf(ok:X.Ok){main fr cs}(h:X.St fr cs){id ops k}(o:fr.todo=.code (.region id ops xk)::k)(L:fr.mode=.run){f wc}(N:X.WR f wc)
  {W} (l:W=Ye ((YK<|Zy X.ρ fr).run X.P wc)) (F:X.cj f wc W):X.fa c0 ds f wc W (stepG.exec X.Q xk xk fr (cs++[c0]) U f)<|stepG.exec X.P main xk (Zy X.ρ fr) (cs.map (Zy X.ρ)++ds) U wc:=by
 have r:∀p main fr cs k w,fr.todo=.code (.region id ops xk)::k->stepG.exec p main xk fr cs U w=
   (match(choose<|.order fr.fn id).run p w with
    |.ok t w=>.go (G {fr with todo:=.inRegion ops (Region.schedule _ ops t)::k} cs) w
    |.halt _ w=>.ended (.stuck "order" (fr.pos p)) w):=λp main fr cs k w e=>by
  let⟨fn,B,todo,j,A,kind,R⟩:=fr;subst e;rfl
 have d:(Zy X.ρ fr).todo=.code (.region id ops xk)::k.map (YJ X.ρ):=by simp[Zy,o,YJ]
 have n:(Zy X.ρ fr).mode=.run:=by simp[Zy,L,Wo]
 rw[r _ _ _ _ _ _ o,r _ _ _ _ _ _ d];have z:W=Ye ((choose<|.order fr.fn id).run X.P wc):=by
  unfold YK at l;rw[n,d]at l;rwa[Rx]at l
 have y:=(Uy (X:=X) (V:=[]) _).ip N<|z▸F;cases M:(choose _).run X.Q f with
 |halt x g=>exact .inl ⟨_,_,_,rfl⟩
 |ok t g=>
  rw[M]at y;obtain⟨b,q,D,u,rfl,C⟩:=Z9M y;obtain rfl:W=q:=by rw[z,u];rfl
  rw[show(Zy X.ρ fr).fn=fr.fn from rfl,u];let⟨K,O⟩:=qx h.bo o;exact .inr ⟨{fr with todo:=.inRegion ops _::k},cs,g,_,_,rfl,rfl,h.with ⟨λi a=>by obtain rfl|a:=Zhs.1 a;exact K;grind,h.bo.defers,h.bo.kind,h.bo.fn⟩ rfl rfl,(C.es (es2:=#[]) λe H=>by simp at H)⟩
def Km(fr:Zf)(f:Operand)(l:Nat):Sem Next:=do let d<-resolve fr.eval {callee:=.value f,args:=#[.const<|.func (.yield l) #[] #[]],argTypes:=#[]} 0;invoke d.target d.args
def Z4I(ok:X.Ok){fr fr'}(j:∀x,Y0 x=xk->fr'.eval x=Zu X.ρ (fr.eval x)){f}(k:Y0 f=xk)l{rd V}:X.Img (X.NR rd) V (Km fr f l)<|Km fr' f<|X.ρ l:=by
 unfold Km resolve;dsimp only;have a:(#[.const<|.func (.yield<|X.ρ l) #[] #[]]:Array Operand).map fr'.eval=(#[.func (.yield l) #[] #[]]:Array Value).map (Zu X.ρ):=by
  simp[Frame.eval,Zu,Vj]
 have g:(#[.const<|.func (.yield l) #[] #[]]:Array Operand).map fr.eval=(#[.func (.yield l) #[] #[]]:Array Value):=by
  simp[Frame.eval]
 rw[a,g,j f k];refine .bind (I7 _ _) ?_;rintro n d _- ⟨rfl,h⟩;exact Bd ok d.target d.args h
def Zaj(ok:X.Ok){main fr cs}(h:X.St fr cs){f g a b k}(K:fr.todo=.code (.rangeFunc f g a b)::k)(hm:fr.mode=.run){o wc}(hw:X.WR o wc)
  {W} (B:W=Ye ((YK<|Zy X.ρ fr).run X.P wc)) (R:X.cj o wc W):X.fa c0 ds o wc W (stepG.exec X.Q xk xk fr (cs++[c0]) U o)<|stepG.exec X.P main xk (Zy X.ρ fr) (cs.map (Zy X.ρ)++ds) U wc:=by
 have M:∀p main fr cs k w,fr.todo=.code (.rangeFunc f g a b)::k->stepG.exec p main xk fr cs U w=
   GStep.after (seen p fr.fn ((Instr.enterLoop fr.fn fr.tmps g a b fr.roundOf).runT p w #[]).2) (match((Instr.enterLoop fr.fn fr.tmps g a b fr.roundOf).runT p w #[]).1 with
    |.ok (l,mark) w=>stepG.apply p xk {fr with todo:=.inRangeFunc l::k,defers:=mark++fr.defers} cs U (Km fr f l) w
    |.halt _ w=>.ended (.stuck "range over a function: no such loop" (fr.pos p)) w):=λp main fr cs k w e=>by
  let⟨fn,T,todo,defers,S,kind,ro⟩:=fr;subst e;rfl
 have z:(Zy X.ρ fr).todo=.code (.rangeFunc f g a b)::k.map (YJ X.ρ):=by simp[Zy,K,YJ]
 have D:(Zy X.ρ fr).mode=.run:=by simp[Zy,hm,Wo]
 rw[M _ _ _ _ _ _ K,M _ _ _ _ _ _ z];let⟨t,hk⟩:=qx h.bo K;simp[VT,X1,Zhb]at t;let⟨⟨hf,G⟩,H⟩:=t;have u:=Z4T (V:=[]) ok fr.fn fr.tmps g a b fr.roundOf h.bo.fn G H;have Z:YK (Zy X.ρ fr)=(Instr.enterLoop fr.fn (fr.tmps.map<|Zu X.ρ) g a b (fr.roundOf.map X.ρ)>>=λx=>Km (Zy X.ρ fr) f x.1>>=λ_=>pure ()):=by
  unfold YK;rw[D,z];rfl
 rw[Z]at B;have hg:X.cj o wc<|Ye<|(Instr.enterLoop fr.fn (fr.tmps.map<|Zu X.ρ) g a b<|fr.roundOf.map X.ρ).run X.P wc:=by
  refine R.mono ?_;rw[B,ZhV];cases(Instr.enterLoop fr.fn _ g a b _).run X.P wc with
  |ok x w=>exact JK X.P _ w
  |halt x w=>exact⟨Zhc _,Zhc _⟩
 have O:=u.ip hw hg;let⟨a0,Y⟩:=Qx X.Q (Instr.enterLoop fr.fn fr.tmps g a b fr.roundOf) o #[];rw[Y];cases hq:(Instr.enterLoop fr.fn fr.tmps g a b fr.roundOf).run X.Q o with
 |halt x a1=>exact .inl ⟨_,_,_,rfl⟩
 |ok x L=>
  let⟨l,mark⟩:=x;rw[hq]at O;obtain⟨q,j,n,N,y,⟨rfl,F⟩,A⟩:∃q j n,(Instr.enterLoop fr.fn (fr.tmps.map<|Zu X.ρ) g a b<|fr.roundOf.map X.ρ).runT X.P wc #[]=(.ok q j,n)/\(Instr.enterLoop fr.fn (fr.tmps.map<|Zu X.ρ) g a b<|fr.roundOf.map X.ρ).run X.P wc=.ok q j/\(q=(X.ρ l,mark.map<|Xg X.ρ)/\∀d∈mark,Ue d=xk)/\X.Aft o wc L j #[] n:=by
   let⟨q,j,n,N,hb,A⟩:=O;grind [Sem.runT_fst]
  rw[show(Instr.enterLoop (Zy X.ρ fr).fn (Zy X.ρ fr).tmps g a b (Zy X.ρ fr).roundOf).runT X.P wc #[]=_ from N];dsimp only;rw[ZhV,y,ZhU,Rx]at B;have C:X.OkF {fr with todo:=.inRangeFunc l::k,defers:=mark++fr.defers}:=⟨λi t=>by obtain rfl|t:=Zhs.1 t;rfl;grind,λd r=>by obtain r|r:=ZhC.1 r;exact F d r;exact h.bo.defers d r,h.bo.kind,h.bo.fn⟩;have hs:=DA (c0:=c0) (ds:=ds) (h.with C rfl rfl) (Z4I ok (fr:=fr) (fr':=Zy X.ρ fr) (λx hx=>RQ X.ρ fr x hx) hf l) A.wr B<|R.next A;have e4:({Zy X.ρ fr with todo:=.inRangeFunc (X.ρ l)::k.map (YJ X.ρ),defers:=mark.map (Xg X.ρ)++(Zy X.ρ fr).defers}:Frame)=Zy X.ρ {fr with todo:=.inRangeFunc l::k,defers:=mark++fr.defers}:=by
   simp[Zy,YJ]
  rw[e4];exact hs.after (A.es λe he=>mem_seen he)
end
end
section
section
variable {X:Cx}{c0:Zf}{ds:Z8}
theorem Zah(ok:X.Ok){main:Bool}{fr:Zf}{cs:Z8}(h:X.St fr cs)(O:fr.mode=.run)(Z:VI fr=xw){F wc:Z3}(D:X.WR F wc)
  {W:Z3} (g:W=Ye ((YK<|Zy X.ρ fr).run X.P wc)) (L:X.cj F wc W):X.fa c0 ds F wc W (stepG.exec X.Q xk xk fr (cs++[c0]) U F)<|stepG.exec X.P main xk (Zy X.ρ fr) (cs.map (Zy X.ρ)++ds) U wc:=by
 have t:(Zy X.ρ fr).mode=.run:=by simp[Zy,O,Wo]
 cases u:fr.todo with
 |nil=>
  have j:(Zy X.ρ fr).todo=[]:=by simp[Zy,u]
  have y:∀(p:Z5) (main:Bool) (fr:Zf) (cs:Z8) (w:Z3),fr.todo=[]->stepG.exec p main xk fr cs U w=S8 p main fr cs U (.ended (.stuck "exit, goto: no such block or label" (fr.pos p)) w) w:=λp main fr cs w e=>by
   obtain⟨fn,q,todo,d,n,kind,B⟩:=fr;dsimp only at e;subst e;rfl
  rw[y _ _ _ _ _ u,y _ _ _ _ _ j];unfold YK at g;rw[t,j]at g;exact jC ok h U rfl _ D g L
 |cons i k=>
  obtain⟨A,C⟩:=qx h.bo u;have j:(Zy X.ρ fr).todo=YJ X.ρ i::k.map (YJ X.ρ):=by simp[Zy,u]
  have K:∀x:Zn,(∀i∈x,VT X.Q fr.roundOf.isSome i=xk)->(∀(p:Z5) (main:Bool) fn q d n kind B (cs:Z8) (w:Z3),stepG.exec p main xk ⟨fn,q,i::k,d,n,kind,B⟩ cs U w=.go (G ⟨fn,q,x,d,n,kind,B⟩ cs) w)->
    (∀(p:Z5) (main:Bool) fn q d n kind B (cs:Z8) (w:Z3),stepG.exec p main xk ⟨fn,q,YJ X.ρ i::k.map (YJ X.ρ),d,n,kind,B⟩ cs U w=.go (G ⟨fn,q,x.map<|YJ X.ρ,d,n,kind,B⟩ cs) w)->
    W=wc->X.fa c0 ds F wc W (stepG.exec X.Q xk xk fr (cs++[c0]) U F) (stepG.exec X.P main xk (Zy X.ρ fr) (cs.map (Zy X.ρ)++ds) U wc):=λx Y y e2 T=>by
   rw[T];have r:=jD (c0:=c0) (ds:=ds) h x Y D
   rw[show stepG.exec X.Q xk xk fr (cs++[c0]) U F=.go (G {fr with todo:=x}<|cs++[c0]) F from by
    obtain⟨fn,q,todo,d,n,kind,B⟩:=fr;dsimp only at u;subst u;exact y _ _ _ _ _ _ _ _ _ _]
   have S:∀H:Zf,H.todo=YJ X.ρ i::k.map (YJ X.ρ)->stepG.exec X.P main xk H (cs.map (Zy X.ρ)++ds) U wc=.go (G {H with todo:=x.map (YJ X.ρ)}<|cs.map (Zy X.ρ)++ds) wc:=λH e=>by
    obtain⟨fn,q,todo,d,n,kind,B⟩:=H;dsimp only at e;subst e;exact e2 _ _ _ _ _ _ _ _ _ _
   rw[S _ j];exact r
  have no:(∀fn q d n kind B,∃o w es,stepG.exec X.Q xk xk ⟨fn,q,i::k,d,n,kind,B⟩ (cs++[c0]) U F=.ended o w es)->X.fa c0 ds F wc W (stepG.exec X.Q xk xk fr (cs++[c0]) U F) (stepG.exec X.P main xk (Zy X.ρ fr) (cs.map (Zy X.ρ)++ds) U wc):=λe=>by
   refine .inl ?_;obtain⟨fn,q,todo,d,n,kind,B⟩:=fr;dsimp only at u;subst u;exact e _ _ _ _ _ _
  cases i with
  |inBlock id=>exact K k C (λ_ _ _ _ _ _ _ _ _ _=>rfl) (λ_ _ _ _ _ _ _ _ _ _=>rfl) Zgl
  |inScope c=>exact K k C (λ_ _ _ _ _ _ _ _ _ _=>rfl) (λ_ _ _ _ _ _ _ _ _ _=>rfl) Zgl
  |inLoop c=>exact K (.code c:: .inLoop c::k) (λi r=>by obtain rfl|r:=Zhs.1 r;exact A;obtain rfl|r:=Zhs.1 r;exact A;exact C i r) (λ_ _ _ _ _ _ _ _ _ _=>rfl) (λ_ _ _ _ _ _ _ _ _ _=>rfl) Zgl
  |inRangeFunc l=>exact no λ_ _ _ _ _ _=>⟨_,_,_,rfl⟩
  |beginRound=>exact Zad ok h u O D g L
  |endRangeFunc l=>exact Zag ok h u O D g L
  |call=>cases A
  |extern=>cases A
  |inRegion N l=>
   obtain _|⟨i,a0⟩:=l;exact K k C (λ_ _ _ _ _ _ _ _ _ _=>rfl) (λ_ _ _ _ _ _ _ _ _ _=>rfl) Zgl;exact Zai ok h u O Z D g L
  |code c=>
   cases c with
   |skip=>exact K k C (λ_ _ _ _ _ _ _ _ _ _=>rfl) (λ_ _ _ _ _ _ _ _ _ _=>rfl) Zgl
   |label l=>exact K k C (λ_ _ _ _ _ _ _ _ _ _=>rfl) (λ_ _ _ _ _ _ _ _ _ _=>rfl) Zgl
   |seq a b=>
    simp only[VT,X1,Zhb]at A;exact K (.code a:: .code b::k) (λi r=>by obtain rfl|r:=Zhs.1 r;exact A.1;obtain rfl|r:=Zhs.1 r;exact A.2;exact C i r) (λ_ _ _ _ _ _ _ _ _ _=>rfl) (λ_ _ _ _ _ _ _ _ _ _=>rfl) Zgl
   |block id c=>exact K (.code c:: .inBlock id::k) (λi r=>by obtain rfl|r:=Zhs.1 r;exact A;obtain rfl|r:=Zhs.1 r;rfl;exact C i r) (λ_ _ _ _ _ _ _ _ _ _=>rfl) (λ_ _ _ _ _ _ _ _ _ _=>rfl) Zgl
   |loop c=>exact K (.code c:: .inLoop c::k) (λi r=>by obtain rfl|r:=Zhs.1 r;exact A;obtain rfl|r:=Zhs.1 r;exact A;exact C i r) (λ_ _ _ _ _ _ _ _ _ _=>rfl) (λ_ _ _ _ _ _ _ _ _ _=>rfl) Zgl
   |scope c=>exact K (.code c:: .inScope c::k) (λi r=>by obtain rfl|r:=Zhs.1 r;exact A;obtain rfl|r:=Zhs.1 r;exact A;exact C i r) (λ_ _ _ _ _ _ _ _ _ _=>rfl) (λ_ _ _ _ _ _ _ _ _ _=>rfl) Zgl
   |refuse a1=>exact no λ_ _ _ _ _ _=>⟨_,_,_,rfl⟩
   |rangeFunc f ps a b=>exact Zaj ok h u O D g L
   |region id N R=>
    cases R with
    |true=>exact Zaf ok h u O D g L
    |false=>exact K (.inRegion N (List.range N.size)::k) (λi r=>by obtain rfl|r:=Zhs.1 r;exact A;exact C i r) (λ_ _ _ _ _ _ _ _ _ _=>rfl) (λ_ _ _ _ _ _ _ _ _ _=>rfl) Zgl
   |cond c a b=>
    simp only[VT,X1,Zhb]at A;obtain⟨⟨r,S⟩,h3⟩:=A;have y:∀(p:Z5) (main:Bool) (fr:Zf) (cs:Z8) (k:Zn) (w:Z3),fr.todo=.code (.cond c a b)::k->stepG.exec p main xk fr cs U w=match fr.eval c with
      |.bool z=>.go (G {fr with todo:=.code (if z then a else b)::k} cs) w
      |_=>.ended (.stuck "cond: bool expected" (fr.pos p)) w:=λp main fr cs k w e=>by
     obtain⟨fn,q,todo,d,n,kind,B⟩:=fr;dsimp only at e;subst e;rfl
    rw[y _ _ _ _ _ _ u,y _ _ _ _ _ _ j,RQ X.ρ fr c r];obtain rfl:W=wc:=Zgl;by_cases hb:∃z,fr.eval c=.bool z;obtain⟨z,hz⟩:=hb;rw[hz,Uk]
    exact jD h (.code (if z then a else b)::k) (λi r=>by
     obtain rfl|r:=Zhs.1 r;cases z;exact h3;exact S;exact C i r) D
    refine .inl ⟨.stuck "cond: bool expected" (fr.pos X.Q),F, #[],?_⟩;split;rename_i z hz;exact absurd ⟨z,hz⟩ hb;rfl
   |ret=>
    have y:∀(p:Z5) (main:Bool) (fr:Zf) (cs:Z8) (k:Zn) (w:Z3),fr.todo=.code .ret::k->stepG.exec p main xk fr cs U w=S8 p main fr cs (J .ret) (.ended (.stuck "exit, goto: no such block or label" (fr.pos p)) w) w:=λp main fr cs k w e=>by
     obtain⟨fn,q,todo,d,n,kind,B⟩:=fr;dsimp only at e;subst e;rfl
    rw[y _ _ _ _ _ _ u,y _ _ _ _ _ _ j];unfold YK at g;rw[t,j]at g;exact jC ok h (J .ret) rfl _ D g L
   |exit id=>
    have y:∀(p:Z5) (main:Bool) (fr:Zf) (cs:Z8) (k:Zn) (w:Z3),fr.todo=.code (.exit id)::k->stepG.exec p main xk fr cs U w=(exitTo id k).elim (S8 p main fr cs (J<|.exit id) (.ended (.stuck "exit, goto: no such block or label" (fr.pos p)) w) w) (λx=>.go (G {fr with todo:=x} cs) w):=λp main fr cs k w e=>by
     obtain⟨fn,q,todo,d,n,kind,B⟩:=fr;dsimp only at e;subst e;rfl
    rw[y _ _ _ _ _ _ u,y _ _ _ _ _ _ j,AK];unfold YK at g;rw[t,j]at g;dsimp only[YJ]at g;rw[AK]at g;cases M:exitTo id k with
    |none=>
     rw[M]at g;exact jC ok h (J<|.exit id) rfl _ D g L
    |some x=>
     obtain rfl:W=wc:=by rw[M]at g;exact g
     exact jD h x (λi r=>C i<|Gw id k x M i r) D
   |goto l=>
    have y:∀(p:Z5) (main:Bool) (fr:Zf) (cs:Z8) (k:Zn) (w:Z3),fr.todo=.code (.goto l)::k->stepG.exec p main xk fr cs U w=(gotoIn l k).elim (S8 p main fr cs (J<|.goto l) (.ended (.stuck "exit, goto: no such block or label" (fr.pos p)) w) w) (λx=>.go (G {fr with todo:=x} cs) w):=λp main fr cs k w e=>by
     obtain⟨fn,q,todo,d,n,kind,B⟩:=fr;dsimp only at e;subst e;rfl
    rw[y _ _ _ _ _ _ u,y _ _ _ _ _ _ j,B2];unfold YK at g;rw[t,j]at g;dsimp only[YJ]at g;rw[B2]at g;cases M:gotoIn l k with
    |none=>
     rw[M]at g;exact jC ok h (J<|.goto l) rfl _ D g L
    |some x=>
     obtain rfl:W=wc:=by rw[M]at g;exact g
     exact jD h x (λi r=>Hc X.Q _ l k x C M i r) D
end
end
section
section
variable {X:Cx}{c0:Zf}{ds:Z8}
def qO(m:FrameMode):Bool:=match m with|.panicking _=>xk|_=>xw
section
variable {p:Z5}{fr:Zf}{cs:Z8}{d:Deferred}{w w':Z3}{es:Zc}
def Jo(fr:Zf)(d:Deferred):Prop:=((match d.target with|.nil=>xk|_=>xw)&&qO fr.mode)=xw
def Z3e(h:¬Jo fr d):∃o w' es,callDeferred p fr cs U d w=.ended o w' es:=by
 have h:((match d.target with|.nil=>xk|_=>xw)&&(match fr.mode with|.panicking _=>xk|_=>xw))=xk:=by simpa[Jo,qO]using h
 exact⟨_,_,_,Zhi h⟩
def G7(o:Jo fr d):callDeferred p fr cs U d w=(
  let(r,es):=(invoke d.target d.args).runT p w #[];let es:=match r with|.halt .blocked _|.halt .waiting _=> #[] |_=>es
  GStep.after (seen p fr.fn es)<|match r with
  |.ok (.enter f args) w=>.go (G (Frame.enter p f args .deferred)<|fr::cs) w
  |.ok (.round l f n assign j) w=>.go (G (Frame.round l f n assign j .deferred)<|fr::cs) w
  |.ok (.callThen d g h a) w=>.go (G (Frame.ofExtern p d g h a .deferred)<|fr::cs) w
  |.ok (.row row args) w=>.go (G (Frame.ofRow p row args .deferred)<|fr::cs) w
  | .ok .recover w=>
    match fr.mode,tryRecover fr cs with
    |.returning,J (_,callers)=>.go (G fr callers) w
    |_,_=>.go (G fr cs) w
  |.ok (.sleep k) w=>.go {frame:=fr,callers:=cs,status:=.sleeping k,dying:=U} w
  |.ok (.alone xw _) w=>.alone (G fr cs) xw w
  | .ok (.timer _) w|.ok (.alone _ _) w=>
    .ended (.unsupported (.noEntry "time.newTimer, stopTimer, resetTimer, runtime_procPin or procUnpin as a deferred call")<|fr.pos p) w
  |.ok .collect w=>.collect (G fr cs) w
  |.ok (.watch _) w=>.watch (G fr cs) w
  |.ok (.coroswitch c xk) w=>.coroswitch (G fr cs) c xk w
  |.ok (.coroswitch _ xw) w|.ok (.newcoro ..) w=>.ended (.unsupported (.noEntry "a deferred call of iter.newcoro or iter.coroswitch")<|fr.pos p) w
  |.ok (.stack ..) w=>.ended (.unsupported (.noEntry "runtime.Caller or Callers as a deferred call or in a go statement")<|fr.pos p) w
  |.ok _ w=>.go (G fr cs) w
  |.halt (.panic v) w=>.go (G (fr.raise [{v,recovered:=xw}]) cs) w
  |.halt (.exit c) w=>.ended (.exit c) w
  |.halt (.fatal m) w=>endFatal p fr cs U m w
  |.halt (.throw m) w=>endThrow fr m w
  |.halt (.unsupported u) w=>.ended (.unsupported u<|fr.pos p) w
  |.halt (.stuck s) w=>.ended (.stuck s<|fr.pos p) w
  |.halt .goexit w=>.go (G (fr.raise [goexitEntry]) cs) w
  |.halt .blocked w=>.go {frame:= {fr with defers:=d::fr.defers},callers:=cs,status:=.blocked,dying:=U} w
  |.halt .waiting w=>.go {frame:= {fr with defers:=d::fr.defers},callers:=cs,status:=.waiting,dying:=U} w):=by
 exact Zhg (λe=>Bool.false_ne_true<|o.symm.trans e)
end
def Zae(ok:X.Ok){fr cs}(h:X.St fr cs)d(T:Ue d=xk){r wc}(Y:X.WR r wc){W}(B:W=Ye ((invoke (Xg X.ρ d).target (Xg X.ρ d).args).run X.P wc))(S:X.cj r wc W):
  X.fa c0 ds r wc W (callDeferred X.Q fr (cs++[c0]) U d r) (callDeferred X.P (Zy X.ρ fr) (cs.map (Zy X.ρ)++ds) U (Xg X.ρ d) wc):=by
 by_cases C:Jo fr d;have D:Jo (Zy X.ρ fr)<|Xg X.ρ d:=by
  have o:qO (Zy X.ρ fr).mode=qO fr.mode:=by let⟨fn,n,H,y,w,kind,Z⟩:=fr;cases w<;>rfl
  have L:(match(Xg X.ρ d).target with|.nil=>xk|_=>xw)=(match d.target with|.nil=>xk|_=>xw):=by let⟨t,a⟩:=d;cases t<;>rfl
  unfold Jo;rw[o,L];exact C
 have u:=(Bd (V:=[]) (rd:=xk) ok d.target d.args T).ip Y<|B▸S;let⟨M,K⟩:=Qx X.Q (invoke d.target d.args) r #[];rw[G7 C,G7 D,K];have last:∀(es j:Zc) e,(∀e∈es,e∈j)->e∈es++(#[]:Array Event)->e∈j:=Zgd;cases G:(invoke d.target d.args).run X.Q r with
 |halt x g=>
  rw[G]at u;cases x with
  |panic v=>
   let⟨F,j,o,A⟩:=u;obtain rfl:=QD B o rfl;rw[show(invoke (Xg X.ρ d).target (Xg X.ρ d).args).runT X.P wc #[]=_ from o];refine .inr ⟨fr.raise [{v,recovered:=xw}],cs,g,_,seen X.P fr.fn j++ #[],rfl,?_,h.with (qZ h.bo _) (qY _ _)<|jb _ _,A.es λe q=>last _ _ e (λe q=>mem_seen q) q⟩;rw[<-ja];rfl
  |stuck=>exact .inl ⟨_,_,_,rfl⟩
  |unsupported=>exact .inl ⟨_,_,_,rfl⟩
  |_=>exact False.elim u
 |ok a g=>
  rw[G]at u;let⟨b,F,j,o,p,A⟩:=u;obtain rfl:=QD B o rfl;rw[show(invoke (Xg X.ρ d).target (Xg X.ρ d).args).runT X.P wc #[]=_ from o];have k:X.Aft r wc g W #[] (seen X.P fr.fn j++ #[]):=A.es λe q=>last _ _ e (λe q=>mem_seen q) q;cases a with
  |value v=>obtain rfl:b=_:=p;exact .inr ⟨fr,cs,g,_,_,rfl,rfl,h,k⟩
  |skip=>obtain rfl:b=_:=p;exact .inr ⟨fr,cs,g,_,_,rfl,rfl,h,k⟩
  |defer=>obtain⟨rfl,_⟩:b=_/\_:=p;exact .inr ⟨fr,cs,g,_,_,rfl,rfl,h,k⟩
  |recover=>obtain⟨_,N⟩:b=_/\_:=p;cases N
  |enter f args=>
   obtain⟨rfl,z⟩:b=_/\_:=p;refine .inr ⟨Frame.enter X.Q f args .deferred,fr::cs,g,_,_,rfl,?_,h.push<|Gm z args _ Z1,k⟩;rw[<-Gn z];rfl
  |round l f n a c=>
   obtain⟨rfl,O,R,z⟩:b=_/\_:=p;refine .inr ⟨Frame.round l f n a c .deferred,fr::cs,g,_,_,rfl,?_,h.push<|P0 h.bo l f z n a c O R _ Z1,k⟩;rfl
  |_=>exact False.elim p
 exact .inl<|Z3e C
def Bh fn d{V}:X.Img X.Rv V (results fn d)<|results fn<|d.map<|Zu X.ρ:=by
 have one:∀V (r:ResultVar),X.Img X.Rv V (match r with|.tmp t=>pure (d.getD t xy)|.cell a t=>do loadVar t (<-asAddr (d.getD a xy)):Sem Value)
   (match r with|.tmp t=>pure ((d.map _).getD t xy)|.cell a t=>do loadVar t (<-asAddr ((d.map _).getD a xy)):Sem Value):=λV r=>by
  cases r with
  |tmp t=>dsimp only;rw[RZ];exact .pure rfl
  |cell a t=>
   dsimp only;rw[RZ];refine .bind (B5 _) ?_;rintro f a _-rfl;exact KY _ _
 have all:∀(l:List ResultVar) V,X.Img (λa b=>b=a.map (Zu X.ρ)) V (l.mapM λr=>(match r with|.tmp t=>pure (d.getD t xy)|.cell a t=>do loadVar t (<-asAddr (d.getD a xy)):Sem Value))
   (l.mapM λr=>(match r with|.tmp t=>pure ((d.map<|Zu X.ρ).getD t xy)|.cell a t=>do loadVar t (<-asAddr ((d.map<|Zu X.ρ).getD a xy)):Sem Value)):=λl=>by
  induction l with
  |nil=>intro V;simp;exact .pure rfl
  |cons r l g=>
   intro V;simp only[Zki];refine .bind (one V r) ?_;rintro f v _-rfl;refine .bind (g f) ?_;rintro j vs _-rfl;exact .pure rfl
 unfold results;rw[ZiH,ZiH];refine .bind (RA:=λa b=>b=a.map (Zu X.ρ)) (.map (all _ _) λa b h=>Zgc) ?_;rintro f vs _-rfl;refine .pure ?_;show _=Zu _ _;grind [vs,Ul]
def G6{p fr}(h:X.OkF fr):fr.catches p=xw:=by
 unfold Frame.catches;split;rename_i e;have:=h.todo _ (by rw[e];exact ZiD ..);cases this;rfl
def Z3d{p fr}(h:X.OkF fr):(Zy X.ρ fr).catches p=xw:=by
 unfold Frame.catches;split
 .rename_i e;have e:fr.todo.map _=_:=e;cases a:fr.todo with
  |nil=>simp_all
  |cons i k=>
   rw[a]at e;have:=h.todo i Zgd;cases i<;>first|(cases this;done)|cases e
 rfl
def GU{fr}(h:X.OkF fr):(∃fn a,X.Q.funcs[fr.fn]?=J fn/\X.P.funcs[(Zy X.ρ fr).fn]?=J a/\a.results=fn.results)\/(X.Q.funcs[fr.fn]?=U/\X.P.funcs[(Zy X.ρ fr).fn]?=U):=by
 obtain⟨fn,c,d,f,_⟩|h|⟨fn,a,d,f,g⟩:=h.fn;exact .inl ⟨fn,fn,d,f,rfl⟩;exact .inr h;exact .inl ⟨fn,a,d,f,g⟩
def OU{fn a}(h:a.results=fn.results)t:results a t=results fn t:=by grind [results]
def E8{p main fr cs w}(a:fr.defers=[])(f:fr.mode=.returning)(d:p.funcs[fr.fn]?=U):unwind p main fr cs U w=doReturn p main fr cs U (fr.tmps.getD 0 xy) w:=by
 simp_all[unwind]
def E6{p main fr c cs w a}(d:fr.defers=[])(f:fr.mode=.panicking a)(hc:fr.catches p=xw):unwind p main fr (c::cs) U w=.go (G (c.raise a) cs) w:=by
 unfold unwind;simp[d,f,hc];rfl
def E7{p main fr cs w fn}(a:fr.defers=[])(f:fr.mode=.returning)(d:p.funcs[fr.fn]?=J fn):unwind p main fr cs U w=
  GStep.after (seen p fr.fn ((results fn fr.tmps).runT p w #[]).2) (match((results fn fr.tmps).runT p w #[]).1 with
   |.ok v w=>doReturn p main fr cs U v w
   |.halt (.stuck s) w=>.ended (.stuck s<|fr.pos p) w
   |.halt _ w=>.ended (.stuck "return: the result variables cannot be read" (fr.pos p)) w):=by
 simp_all[unwind];rfl
def Z05{p main fr cs w b args dl}(d:fr.defers= {target:=.collected b,args}::dl):unwind p main fr cs U w=
  GStep.after (seen p fr.fn ((Instr.takeDeferred b).runT p w #[]).2) (match((Instr.takeDeferred b).runT p w #[]).1 with
   |.ok a w=>.go (G {fr with defers:=a++dl} cs) w
   |.halt _ w=>.ended (.stuck "the deferred calls of a range-over-func loop have been taken" (fr.pos p)) w):=by
 unfold unwind;simp[d];rfl
def Z04{p main fr cs w d dl}(f:fr.defers=d::dl)(g:∀b,d.target≠.collected b):unwind p main fr cs U w=callDeferred p {fr with defers:=dl} cs U d w:=by
 let⟨t,a⟩:=d;unfold unwind;simp;cases t<;>first|rfl|simp_all
def Zal(ok:X.Ok){main fr cs}(h:X.St fr cs)(hm:fr.mode≠.run)(y:¬(cs=[]/\fr.mode=.returning/\fr.defers=[])){q wc}(N:X.WR q wc)
  {W} (n:W=Ye ((YK<|Zy X.ρ fr).run X.P wc)) (ha:X.cj q wc W):
  X.fa c0 ds q wc W (unwind X.Q xk fr (cs++[c0]) U q) (unwind X.P main (Zy X.ρ fr) (cs.map (Zy X.ρ)++ds) U wc)\/∃R,cs=[]/\unwind X.Q xk fr (cs++[c0]) U q=.go (G (c0.raise R) []) q:=by
 have a0:(Zy X.ρ fr).mode≠.run:=by
  let⟨fn,a4,a5,defers,O,kind,ro⟩:=fr;cases O<;>first|exact absurd rfl hm|simp[Zy,Wo]
 have last:∀(es r:Zc) e,(∀e∈es,e∈r)->e∈es++(#[]:Array Event)->e∈r:=Zgd
 have K:∀g,g.mode≠.run->YK g=(match g.defers with
   | {target:=.collected b, .. }::_=>Instr.takeDeferred b>>=λ_=>pure ()
   |d::_=>invoke d.target d.args>>=λ_=>pure ()
   | []=>(match g.mode with
     | .returning=>program>>=λp=>(match p.funcs[g.fn]? with
       |some fn=>results fn g.tmps>>=λ_=>pure ()
       |none=>pure ())
     |_=>pure ())):=λg z=>by
  unfold YK;cases e:g.mode<;>first|exact absurd e z|rfl
 rw[K _ a0]at n;cases o:fr.defers with
 |cons d dl=>
  left;have a2:=h.bo.defers d (by rw[o];exact ZiD ..);have L:=λx D=>h.bo.defers x (by rw[o];exact ZhK _ D);have j:(Zy X.ρ fr).defers=Xg X.ρ d::dl.map (Xg X.ρ):=by simp[Zy,o]
  rw[j]at n;by_cases hc:∃b,d.target=.collected b;let⟨b,hb⟩:=hc;let⟨t,a⟩:=d;subst hb;rw[Z05 o,Z05 j];have z:W=(Ye<|(Instr.takeDeferred<|X.ρ b).run X.P wc):=by
   have Z:W=(Ye<|(Instr.takeDeferred _>>=λ_=>(pure ():Sem Unit)).run X.P wc):=n;rwa[Rx]at Z
  have M:=(Z5u (V:=[]) ok b).ip N<|z▸ha;let⟨Y,T⟩:=Qx X.Q (Instr.takeDeferred b) q #[];rw[T];cases hr:(Instr.takeDeferred b).run X.Q q with
  |halt x l=>exact .inl ⟨_,_,_,rfl⟩
  |ok B l=>
   rw[hr]at M;obtain⟨b',a3,r,F,⟨rfl,w⟩,S⟩:=M;obtain rfl:=QD z F rfl;rw[F];refine .inr ⟨{fr with defers:=B++dl},cs,l,_,seen X.P fr.fn r++ #[],rfl,?_,h.with ⟨h.bo.todo,λx D=> ?_,h.bo.kind,h.bo.fn⟩ rfl rfl,S.es λe C=>last _ _ e (λe C=>mem_seen C) C⟩;simp[Zy,GStep.after];obtain D|D:=ZhC.1 D;exact w x D;exact L x D
  .have hn:=λb e=>hc ⟨b,e⟩;have a1:∀b,(Xg X.ρ d).target≠.collected b:=λb e=>by
    let⟨t,a⟩:=d;cases t<;>first|(simp[Xg,JH]at e;done)|exact absurd rfl<|hn _
   rw[Z04 o hn,Z04 j a1];have z:W=(Ye<|(invoke (Xg X.ρ d).target (Xg X.ρ d).args).run X.P wc):=by
    have Z:W=(Ye<|(invoke (Xg X.ρ d).target (Xg X.ρ d).args>>=λ_=>(pure ():Sem Unit)).run X.P wc):=by
     let⟨t,a⟩:=d;cases t<;>first|exact n|exact absurd rfl<|hn _
    rwa[Rx]at Z
   exact Zae ok (fr:= {fr with defers:=dl}) (h.with ⟨h.bo.todo,L,h.bo.kind,h.bo.fn⟩ rfl rfl) d a2 N z ha
 |nil=>
  have j:(Zy X.ρ fr).defers=[]:=by simp[Zy,o]
  cases k:fr.mode with
  |run=>exact absurd k hm
  |panicking R=>
   have f:(Zy X.ρ fr).mode=.panicking (R.map<|Rj X.ρ):=by simp[Zy,k,Wo]
   obtain _|⟨c,cs⟩:=cs;exact .inr ⟨R,rfl,E6 o k<|G6 h.bo⟩;left;rw[show unwind X.Q xk fr (c::cs++[c0]) U q=_ from E6 o k<|G6 h.bo,show unwind X.P main _ ((c::cs).map _++ds) U wc=_ from E6 j f<|Z3d h.bo,ja];obtain rfl:W=wc:=by
    rw[j,f]at n;exact n
   exact Sim.same (h.ui (qZ (h.all c Z1) _) (qY _ _)<|jb _ _) N
  |returning=>
   left;have f:(Zy X.ρ fr).mode=.returning:=by simp[Zy,k,Wo]
   obtain⟨fn,a6,hf,u,A⟩|⟨hf,u⟩:=GU h.bo;rw[E7 o k hf,E7 j f u,OU A];have z:W=(Ye<|(results fn<|fr.tmps.map<|Zu X.ρ).run X.P wc):=by
    rw[j,f]at n;rw[ZhV,Zjo,ZhU,u]at n;rwa[Rx,OU A]at n
   have M:=(Bh (X:=X) (V:=[]) fn fr.tmps).ip N Zgd;let⟨Y,T⟩:=Qx X.Q (results fn fr.tmps) q #[];rw[T];cases hr:(results fn fr.tmps).run X.Q q with
   |halt x l=>cases x<;>exact .inl ⟨_,_,_,rfl⟩
   |ok v l=>
    rw[hr]at M;let⟨b',a3,r,F,hb,S⟩:=M;obtain rfl:b'=_:=hb;obtain rfl:=QD z F rfl;rw[show(results fn (Zy X.ρ fr).tmps).runT X.P wc #[]=_ from F];obtain _|⟨c,cs⟩:=cs;exact absurd ⟨rfl,k,o⟩ y;let⟨H,t1,t2,hs⟩:=DB (c0:=c0) (ds:=ds) (main:=main) h v l W;dsimp only;rw[t1,t2];exact .inr ⟨H,cs,l,_,_,rfl,rfl,hs,S.es λe C=>last _ _ e (λe C=>mem_seen C) C⟩
   rw[E8 o k hf,E8 j f u];obtain rfl:W=wc:=by
    rw[j,f]at n;rw[ZhV,Zjo,ZhU,u]at n;exact n
   obtain _|⟨c,cs⟩:=cs;exact absurd ⟨rfl,k,o⟩ y;let⟨H,t1,t2,hs⟩:=DB (c0:=c0) (ds:=ds) (main:=main) h (fr.tmps.getD 0 xy) q W;rw[show(Zy X.ρ fr).tmps.getD 0 xy=Zu X.ρ _ from RZ X.ρ fr.tmps 0];rw[t1,t2];exact Sim.same hs N
def Zak(ok:X.Ok){main fr cs}(h:X.St fr cs)(t:VI fr=xw)(d:¬(cs=[]/\fr.mode=.returning/\fr.defers=[])){a wc}(u:X.WR a wc)
  {W} (q:W=Ye ((YK<|Zy X.ρ fr).run X.P wc)) (r:X.cj a wc W):
  X.fa c0 ds a wc W (stepG X.Q xk (G fr<|cs++[c0]) a) (stepG X.P main (G (Zy X.ρ fr)<|cs.map (Zy X.ρ)++ds) wc)\/∃p,cs=[]/\stepG X.Q xk (G fr<|cs++[c0]) a=.go (G (c0.raise p) []) a:=by
 have x:∀P main fr cs w,fr.mode=.run->stepG P main (G fr cs) w=stepG.exec P main xk fr cs U w:=λP main fr cs w h=>by
  simp_all[stepG,G]
 have l:∀P main fr cs w,fr.mode≠.run->stepG P main (G fr cs) w=unwind P main fr cs U w:=λP main fr cs w h=>by
  simp_all[stepG,G]
 by_cases j:fr.mode=.run;grind [Zy,Wo,Zah];have k:(Zy X.ρ fr).mode≠.run:=by
  let⟨fn,n,o,g,f,kind,y⟩:=fr;cases f<;>first|exact absurd rfl j|simp[Zy,Wo]
 rw[l _ _ _ _ _ j,l _ _ _ _ _ k];exact Zal ok h j d u q r
end
end
section
abbrev Z4:=Nat->Prop
def Vd(O:Z4)(w w':Z3):Nat->Prop:=λb=>O b\/(xz (xj w)<=b/\b<xz (xj w'))
structure Rely (K O:Nat->Prop) (w w1:World):Prop where
 sz:xz (xj w)<=xz (xj w1)
 tape:w1.tape=w.tape
 os:(w1.os,w1.output)=(w.os,w.output)
 keep:∀b,b<xz (xj w)->(O b\/K b)->w1.heap[b]?=w.heap[b]?
def EvC(K O:Z4)(e:Event):Prop:=
 match e.loc with
 |.cell a=>O a.block\/(e.write=xw/\K a.block)
 |.obj r=>O r
 |.mark m=>m=.noRoom
 |.output=>True
 |_=>False
structure Guar (K O:Nat->Prop) (w w':World) (es:Array Event):Prop where
 sz:xz (xj w)<=xz (xj w')
 dr:w.drawn<=w'.drawn
 tape:w'.tape=w.tape
 os:(w'.os,w'.output)=(w.os,w.output)
 keep:∀b,b<xz (xj w)->¬O b->w'.heap[b]?=w.heap[b]?
 nf:∀e∈es,EvC K (Vd O w w') e
def Rely.refl(K O:Z4)(w:Z3):Rely K O w w:=⟨Zhc _,rfl,rfl,λ_ _ _=>rfl⟩
theorem Rely.trans{K O:Z4}{a b c:Z3}(h:Rely K O a b)(k:Rely K O b c):Rely K O a c:=
 ⟨ZhD h.sz k.sz,k.tape.trans h.tape,k.os.trans h.os,λx f d=>(k.keep x (Zhj f h.sz) d).trans<|h.keep x f d⟩
def Wm(a:Zl):Nat->Nat
 |0=>0
 |i+1=>Wm a i+a i
def Z8q(a:Zl){i j:Nat}(h:i<=j):Wm a i<=Wm a j:=by
 induction h with
 |refl=>omega
 |step _ d=>exact ZhD d<|Nat.le_add_right _ _
theorem Z8p(a:Zl){i d j f:Nat}(h:j<a i)(h':f<a d)(e:Wm a i+j=Wm a d+f):i=d/\j=f:=by
 have key:∀ {x g y y':Nat},y<a x->x<g->Wm a x+y<Wm a g+y':=λ{x g y y'} n l=>by
  have:=Z8q a (show x+1<=g from l);grind [Wm]
 obtain k|rfl|k:=Nat.lt_trichotomy i d;have:=key (y':=f) h k;omega;omega;have:=key (y':=j) h' k;omega
def Z0f{α:Type}(a:Zl)(F:Nat->Nat->α)(d:α):∃f:Nat->α,∀i j,j<a i->f (Wm a i+j)=F i j:=by
 classical
 refine⟨λm=>if h:∃p:Nat×Nat,p.2<a p.1/\m=Wm a p.1+p.2 then F h.choose.1 h.choose.2 else d,λi j k=> ?_⟩;have g:∃p:Nat×Nat,p.2<a p.1/\Wm a i+j=Wm a p.1+p.2:=⟨(i,j),k,rfl⟩;dsimp only;rw[dif_pos g];grind [Z8p]
def SX(n:Nat)(ρ:Zl):Prop:=∀b,b<n->ρ b=b
def FixV(n:Nat)(v:Zg):Prop:=∀ρ,SX n ρ->Zu ρ v=v
def Kd(n:Nat)(o:Obj):Prop:=∀ρ,SX n ρ->XW ρ o=o
def Ez(n:Nat)(f:Zf):Prop:=∀ρ,SX n ρ->Zy ρ f=f
def Cx.at(X:Cx)(ρ:Zl):Cx:= {X with ρ}
open Classical in
noncomputable def Cx.iz (X:Cx) (b:Nat) (o:Option Obj):Obj:=
 match o with
 |some o=>if X.O b then(if X.kf o/\(∀c e a,o=.cells c e a->a=(0,0))then o else hid)
  else if X.G b then(match o with|.cells c e _=>.cells c e (0,c.size)|_=>hid)else hid
 |none=>hid
noncomputable def Cx.cq (X:Cx) (w:Z3) (t:Nat->Question->Nat):World:=
 {w with heap:=(Array.range X.n0).map λb=>X.iz b w.heap[b]?,tape:=t,drawn:=0}
def BO(X:Cx)(w:Z3)(t:Nat->Question->Nat)(b:Nat):(X.cq w t).heap[b]?=if b<X.n0 then J (X.iz b w.heap[b]?)else U:=by
 simp_all[Cx.cq,ZhJ,Array.getElem?_range]
def Z6g(X:Cx){w:Z3}(t:Nat->Question->Nat){ρ:Zl}(d:SX X.n0 ρ)(u:∀b o,w.heap[b]?=J o->(X.O b\/X.G b)->Kd X.n0 o):(X.at ρ).WR (X.cq w t) w:=by
 have l:xz (xj<|X.cq w t)=X.n0:=by simp[Cx.cq]
 refine⟨rfl,by rw[l];exact Zhc _,d,λb n _ _ a g e=> ?_,λb o a=> ?_⟩;rw[l]at a g;have B:ρ b=b:=d b a;have C:ρ n=n:=d n g;have e:ρ b=ρ n:=e;omega;rw[BO]at a;split at a;rename_i j;have a:=(ZiJ a).symm;have x:(X.at ρ).ρ b=b:=d b j;rw[x];cases q:w.heap[b]? with
 |none=>rw[q]at a;exact .inl a
 |some A=>
  rw[q]at a;unfold Cx.iz at a;dsimp only at a;by_cases f:X.O b;rw[Zhi f]at a;split at a;rename_i k;subst a;refine .inr<|.inr ⟨.inr f,k.1,?_,k.2⟩;exact Zii J (u b _ q (.inl f) ρ d).symm;exact .inl a;rw[Zhg f]at a;have r:¬(X.at ρ).gd b:=λh=>by
   obtain h|h:=h;exact absurd j<|Zlr.2 h;exact f h
  by_cases p:X.G b;rw[Zhi p]at a;cases A<;>first|exact .inl a|skip
  rename_i c e y;dsimp only at a;refine .inr<|.inl ⟨r,c,e,(0,c.size),y,a,λi z=>⟨Zjc _,z⟩,p,?_⟩;have:=u b _ q (.inr p) ρ d;simp only[XW]at this;exact Zii J this.symm;rw[Zhg p]at a;exact .inl a
 cases a
def De{X:Cx}{O:Z4}{q w w1:Z3}(h:X.WR q w)(n:Rely X.G O w w1)(x:∀b,X.gd b->b<xz (xj q)->O (X.ρ b)):X.WR q w1:=by
 refine⟨(Zii Prod.fst n.os).trans h.os,h.nl,h.H,h.inj,λb o r=> ?_⟩;have l:=(Zhe.1 r).1;obtain e|⟨t,c,e,u,g,d,j,a,f⟩|⟨d,j,a,f⟩:=h.blk b o r;exact .inl e;have k:b<X.n0:=Nat.lt_of_not_le λh=>t<|.inl h;have p:=(Zhe.1 f).1;exact .inr<|.inl ⟨t,c,e,u,g,d,j,a,by rw[n.keep _ p<|.inr (by rw[h.H b k];exact a)];exact f⟩;have p:=(Zhe.1 a).1;exact .inr<|.inr ⟨d,j,by rw[n.keep _ p<|.inl<|x b d l];exact a,f⟩
def YS(Q:Z5):Frame:= {fn:=Q.funcs.size,tmps:=#[],todo:=[.call {target:=.nil,args:=#[]} xw "fmt's door" #[]],defers:=[],mode:=.run,kind:=.normal}
def Z9t:Extern.allNextRows.lookup "fmt's door" =U:=by kernel_rfl
def Z3r:("fmt's door").startsWith "fmt's door" =xk:=by kernel_rfl
def Z37(Q:Z5)(a:List PanicEntry):((YS Q).raise a).catches Q=xk:=by
 simp_all[Frame.catches,Frame.raise,YS,ZjE,Zhc,Z3r]
def Zbb{p:Z5}{main:Bool}{fr:Zf}{cs:Z8}{w:Z3}{a:List PanicEntry}(d:fr.defers=[])(f:fr.mode=.panicking a)(hc:fr.catches p=xk):∃o,unwind p main fr cs U w=.ended o w:=by
 unfold unwind;simp only[d,f,hc,Zi9];exact⟨_,rfl⟩
def PQ(P:Z5)(main:Bool)(fr:Zf)(cs:Z8)(w:Z3)(h:fr.mode≠.run):stepG P main (G fr cs) w=unwind P main fr cs U w:=by
 simp_all[stepG,G,absurd]
def Z39(Q:Z5)(a:List PanicEntry)(w:Z3):∃o d,step Q (lone ((YS Q).raise a) [] w)=.ended o d:=by
 obtain⟨o,h⟩:=Zbb (p:=Q) (main:=xk) (fr:=(YS Q).raise a) (cs:=[]) (w:=w) rfl rfl<|Z37 Q a;refine⟨o,w,Zl7 ?_⟩;have:=PQ Q xk ((YS Q).raise a) [] w (by simp[YS,Frame.raise]);simp_all[G]
def Z38(Q:Z5)(v:Zg)(w:Z3):∃o w',step Q (lone ((YS Q).finish v) [] w)=.ended o w':=by
 refine⟨_,_,Zl7 (o:=.stuck ("no extern row " ++ "fmt's door")<|((YS Q).finish v).pos Q) (w':=w) ?_⟩;simp_all[Extern.next,Z9t,stepG,stepG.exec,Frame.finish,YS]
def Mo{Q:Z5}{c:Zf}{w:Z3}(h:∃o w',step Q (lone c [] w)=.ended o w')(k:Nat)(fr:Zf)(cs:Z8)(c0:Zf)(w':Z3):runN Q k (lone c [] w)≠.next (lone fr (cs++[c0]) w'):=by
 obtain⟨o,w2,e⟩:=h;intro a;cases k with
 |zero=>
  simp_all[runN,lone,ZkX,Zli,Zl9,Goroutine.mk.injEq]
 |succ k=>
  simp_all[runN]
end
def Pq{S:Type}(N:S->S)(a:S):Nat->S
 |0=>a
 |i+1=>N<|Pq N a i
def Z5Z{a b:Zf}{aq_ d:Z8}{w w':Z3}(h:lone a aq_ w=lone b d w'):a=b/\aq_=d/\w=w':=by
 simp only[lone,ZkX,Zli,Zl9,Goroutine.mk.injEq]at h;exact⟨h.2.1.1.1,h.2.1.1.2.1,h.1⟩
def Z4g{X:Cx}{O:Z4}{l w k w':Z3}{es:Zc}(d:X.Aft l w k w' #[] es)(H:X.WR l w)(z:∀b,X.gd b->b<xz (xj l)->O (X.ρ b)):Guar X.G O w w' es:=by
 have q:=d.sz;have u:xz (xj w)<=xz (xj w'):=by have:=d.rx;omega
 have f:∀b,X.gd b->b<xz (xj k)->Vd O w w' (X.ρ b):=λb g t=>by
  by_cases h:b<xz (xj l);exact .inl<|z b g h;exact .inr<|d.new b Z0 t
 refine⟨u,?_,d.tc,d.oc,λb g C=> ?_,λe D=> ?_⟩;have:=d.dr;have:=d.pz;omega;exact d.keep b g λx F y e=>C (by rw[e];exact z x F y);obtain h|h:=d.nf e D;simp at h;unfold Cx.il at h;unfold EvC;split at h;rename_i a j;try rw[j]
 obtain⟨b,n,o,p⟩:=h;try dsimp only
 rw[o];by_cases g:X.gd b;exact .inl<|f b g n;obtain⟨A,B⟩:=p g;refine .inr ⟨A,?_⟩;rw[d.wr.H b (Nat.lt_of_not_le λh=>g<|.inl h)];exact B;rename_i r j;try rw[j]
 obtain⟨b,n,o,p⟩:=h;try dsimp only
 rw[p];exact f b n o;rename_i m j;try rw[j]
 exact h;rename_i j;try rw[j]
 trivial;exact h.elim
def jL{Q:Z5}{fr fr':Zf}{cs a:Z8}{w w':Z3}{es:Zc}(h:stepG Q xk (G fr cs) w=.go (G fr' a) w' es):step Q (lone fr cs w)=.next (lone fr' a w'):=
 ZkI (by unfold G at h;rw[h];rfl)
def DQ{Q:Z5}{fr:Zf}{cs:Z8}{w w':Z3}{o:Outcome}{es:Zc}(h:stepG Q xk (G fr cs) w=.ended o w' es):step Q (lone fr cs w)=.ended o w':=
 Zl7 (by unfold G at h;rw[h];rfl)
def Z3y{X:Cx}{fr:Zf}(h:X.OkF fr)(j:fr.kind=.normal)(f:fr.mode=.returning)(g:fr.defers=[])(c0:Zf)(w:Z3):
  (∃v a,step X.Q (lone fr [c0] w)=.next (lone (c0.finish v) [] a))\/∃o a,step X.Q (lone fr [c0] w)=.ended o a:=by
 have e:=PQ X.Q xk fr [c0] w (by rw[f];simp);obtain⟨fn,_,d,_⟩|⟨d,_⟩:=GU h;rotate_left;rw[E8 g f d,jh j]at e;exact .inl ⟨_,w,jL e⟩;rw[E7 g f d]at e;cases k:((results fn fr.tmps).runT X.Q w #[]).1 with
 |ok v a=>
  rw[k]at e;dsimp only at e;rw[jh j]at e;exact .inl ⟨v,a,jL e⟩
 |halt x a=>
  rw[k]at e;cases x<;>exact .inr ⟨_,_,DQ e⟩
theorem Kx{Q:Z5}{m:Machine}{o:Outcome}{w:Z3}(h:step Q m=.ended o w){k:Nat}(a:0<k)(m':Machine):runN Q k m≠.next m':=by
 cases k with
 |zero=>omega
 |succ k=>simp_all[runN]
abbrev Zj:=Goroutine
def Z2T{Q:Z5}{g:Zj}{w:Z3}(h:g.status=.blocked):∃o a,step Q {world:=w,gs:=#[g],rest:= {timers:=#[],alone:=U,slice:=U}}=.ended o a:=by
 unfold step stepT;simp[move,ask,askOn,runnable_eq,due,ahead,Goroutine.canRun,Zjv,choose,pure,Sem.run,Question.forced,h];cases endWith w 2 (bytes "fatal error: all goroutines are asleep - deadlock!\n") (Outcome.fatal "all goroutines are asleep - deadlock!")<;>exact⟨_,_,rfl⟩
theorem Gb{Q:Z5}{fr:Zf}{cs:Z8}{w w':Z3}{g2:Zj}{c:CommCase}{sh:CommShape}{es:Zc}(h:stepG Q xk (G fr cs) w=.comm g2 #[c] xk sh w' es)
  (hc:∀(r:Nat) q b p s y z,w'.heap[r]? ≠J (Obj.chan q b p s y z)) {k:Nat} (n:0<k) (fr':Zf) (a:Z8) (g:Z3):runN Q k (lone fr cs w)≠.next (lone fr' a g):=by
 have f:(∃o w2,step Q (lone fr cs w)=.ended o w2)\/∃d w2,d.status=.blocked/\step Q (lone fr cs w)=.next {world:=w2,gs:=#[d],rest:= {timers:=#[],alone:=U,slice:=U}}:=by
  have e:step Q (lone fr cs w)=(communicate Q {timers:=#[],alone:=U,slice:=U} #[{(default:Zj)with status:=.finished}] 0 g2 #[c] xk sh w').1:=by
   unfold G at h;rw[step,stepT,move_lone];simp[runT,lone,Array.swapAt!,Array.swapAt,h]
  rw[e];unfold communicate;dsimp only;split;simp;rename_i l;have u:ways w' #[{(default:Zj)with status:=.finished}] c=[]:=by
   unfold ways;split;simp_all;rfl
  have x:((#[c].zipIdx.toList.map λ(c,k)=>(k,c,ways w' #[{(default:Zj)with status:=.finished}] c)).filter λ(_,_,A)=> !A.isEmpty)=[]:=by
   simp[u]
  rw[x];simp only[List.isEmpty_nil,Zi9,waitingAt];have B:timerAhead {timers:=#[],alone:=U,slice:=U} w'.os.mono #[c]=xw:=by
   unfold timerAhead;rw[Array.any_eq_false];intro k n;split<;>simp
  simp_all
 obtain⟨o,w2,e⟩|⟨d,w2,t,e⟩:=f;exact Kx e n _;obtain⟨k,rfl⟩:∃j,k=j+1:=⟨k-1,Z0⟩;simp only[runN,e];cases k with
 |zero=>
  grind [runN,lone,Machine.mk.injEq,Array.mk.injEq,List.cons.injEq]
 |succ k=>
  obtain⟨o,w3,e⟩:=Z2T (Q:=Q) (w:=w2) t;grind [Kx]
def P5{Q:Z5}:∀(n:Nat) (m a:Machine),runN Q n m=.next a->m.gs.size<=a.gs.size
 |0,m,a,h=>by simp_all[runN,Zhc]
 |n+1,m,a,h=>by
  simp only[runN]at h;cases d:step Q m with
  |ended o w=>simp_all
  |next f=>
   rw[d]at h;exact ZhD (stepT_size Q m f xk d)<|P5 n f a h
theorem ZaD{Q:Z5}{fr:Zf}{cs:Z8}{w w':Z3}{g2 f:Zj}{es:Zc}(h:stepG Q xk (G fr cs) w=.spawn g2 f w' es)
  {k:Nat} (g:0<k) (fr':Zf) (a:Z8) (d:Z3):runN Q k (lone fr cs w)≠.next (lone fr' a d):=by
 have e:step Q (lone fr cs w)=.next {world:=w',gs:=#[g2,f],rest:= {timers:=#[],alone:=U,slice:=U}}:=by
  unfold G at h;rw[step,stepT,move_lone];simp[runT,lone,Array.swapAt!,Array.swapAt,h]
 obtain⟨k,rfl⟩:∃j,k=j+1:=⟨k-1,Z0⟩;simp only[runN,e];intro h;have:=P5 _ _ _ h;grind [lone]
def Fv{p:Z5}{fr:Zf}{cs:Z8}{s:Sem Next}{w w':Z3}{es:Zc}{c:Array CommCase}{b:Bool}{sh:CommShape}(e:s.runT p w #[]=(.ok (.comm c b sh) w',es)):∃a,stepG.apply p xk fr cs U s w=.comm (G fr cs) c b sh w' a:=by
 unfold stepG.apply Conc.G;simp only[Zi9,e,GStep.after];exact⟨_,rfl⟩
def DN(P:Z5)(main:Bool)(fr:Zf)(cs:Z8)(w:Z3)(h:fr.mode=.run):stepG P main (G fr cs) w=stepG.exec P main xk fr cs U w:=by
 simp_all[stepG,G]
def Z2y{fr:Zf}(h:VI fr=xk):fr.mode=.run/\∃a i d k o,fr.todo=.inRegion a (i::d)::k/\a[i]?=J o/\Region.wanted o (yielded a fr.tmps)=xk/\jJ o.op=xk:=by
 obtain⟨fn,n,g,j,f,kind,p⟩:=fr;cases f with
 |run=>
  obtain _|⟨i,k⟩:=g;cases h;cases i with
  |inRegion a l=>
   obtain _|⟨i,d⟩:=l;cases h;simp only[VI]at h;grind
  |_=>cases h
 |_=>cases h
def ZaC{X:Cx}{fr:Zf}{cs:Z8}{w:Z3}(O:X.OkF fr)(h:VI fr=xk)(hw:∀(r:Nat) H b G s Z tm,w.heap[r]? ≠J (Obj.chan H b G s Z tm))
  {k:Nat} (P:0<k) (fr':Zf) (u:Z8) (B:Z3):runN X.Q k (lone fr cs w)≠.next (lone fr' u B):=by
 obtain⟨R,Y,i,F,kk,o,D,C,A,q⟩:=Z2y h;have N:fr.roundOf.isSome=xk->∀c,o.op≠.defer c:=λ_ c e=>by rw[e]at q;cases q
 have e:=DN X.Q xk fr cs w R;rw[Kz D C A N]at e;obtain⟨a,op,type,pos,after,guard⟩:=o;have g:XZ X.Q fr.roundOf.isSome op=xk:=by
  have:=O.todo _ (by rw[D];exact ZiD ..);simp only[VT,Zjh]at this;exact this _<|ZjJ C
 dsimp only at q;cases op with
 |send j v=>
  obtain⟨es,l⟩:=Fv (p:=X.Q) (fr:=fr) (cs:=cs) (s:=execOp fr.eval ⟨a,.send j v,type,pos,after,guard⟩) (w:=w) (w':=w) (es:=#[]) rfl;grind [Gb]
 |recv t j b=>
  have S:(∃h es,(execOp fr.eval ⟨a,.recv t j b,type,pos,after,guard⟩).runT X.Q w #[]=(.halt h w,es)/\bad h)\/∃c es,(execOp fr.eval ⟨a,.recv t j b,type,pos,after,guard⟩).runT X.Q w #[]=(.ok (.comm #[c] xk (.recv b)) w,es):=by
   have x:execOp fr.eval ⟨a,.recv t j b,type,pos,after,guard⟩=(do
    let .chan _ elem<-underlying t|stuck "receive: channel type expected"
    pure (.comm #[{chan:=fr.eval j,send:=U,zero:= <-zeroValue elem}] xk (.recv b)):Sem Next):=rfl
   rw[x];have T:∀ {α:Type} (f:TypeDesc->Sem α) (es:Zc),(underlying t>>=f).runT X.Q w es=match X.Q.underlying t with|some d=>(f d).runT X.Q w es|none=>(.halt (.stuck "no such type") w,es):=λf es=>by
    have l:(underlying t).runT X.Q w es=match X.Q.underlying t with|some d=>(.ok d w,es)|none=>(.halt (.stuck "no such type") w,es):=by
     show(match X.Q.underlying t with|some d=>pure d|none=>stuck "no such type" :Sem TypeDesc).runT X.Q w es=_;cases X.Q.underlying t<;>rfl
    show(Sem.bind _ _).runT X.Q w es=_;grind [Sem.runT_bind']
   rw[T];cases X.Q.underlying t with
   |none=>exact .inl ⟨_,_,rfl,trivial⟩
   |some d=>
    cases d<;>first|exact .inl ⟨_,_,rfl,trivial⟩|skip
    rename_i elem;have W:∀ {α:Type} (f:Value->Sem α) (es:Zc),(zeroValue elem>>=f).runT X.Q w es=match X.Q.info? elem with
     |some i=>(match i.zero with|some z=>(f z).runT X.Q w es|none=>(.halt (.unsupported (.resourceLimit "a value of more than 2^22 cells")) w,es))
     |none=>(.halt (.stuck "no such type") w,es):=λf es=>by
     have l:(typeInfo elem).runT X.Q w es=match X.Q.info? elem with|some d=>(.ok d w,es)|none=>(.halt (.stuck "no such type") w,es):=by
      show(match X.Q.info? elem with|some d=>pure d|none=>stuck "no such type" :Sem TypeInfo).runT X.Q w es=_;cases X.Q.info? elem<;>rfl
     have y:(zeroValue elem).runT X.Q w es=match X.Q.info? elem with
      |some i=>(match i.zero with|some z=>(.ok z w,es)|none=>(.halt (.unsupported (.resourceLimit "a value of more than 2^22 cells")) w,es))
      |none=>(.halt (.stuck "no such type") w,es):=by
      show(Sem.bind (typeInfo elem) _).runT X.Q w es=_;rw[Zjn,l];cases X.Q.info? elem with
      |none=>rfl
      |some i=>dsimp only;cases i.zero<;>rfl
     show(Sem.bind _ _).runT X.Q w es=_;grind [Sem.runT_bind']
    dsimp only;rw[W];cases X.Q.info? elem with
    |none=>exact .inl ⟨_,_,rfl,trivial⟩
    |some i=>
     dsimp only;cases i.zero with
     |none=>exact .inl ⟨_,_,rfl,trivial⟩
     |some z=>simp
  obtain⟨h,es,l,M⟩|⟨c,es,l⟩:=S;obtain⟨o,w2,L,y⟩:=Af (fr:=fr) (cs:=cs) M l;rw[y]at e;exact Kx (DQ e) P _;obtain⟨K,y⟩:=Fv (fr:=fr) (cs:=cs) l;grind [Gb]
 |go c=>
  simp only[XZ,Zhb]at g;obtain⟨callee,args,n⟩:=c;cases callee<;>first|(cases g.2;done)|skip
  rename_i f;cases f<;>first|(cases g.2;done)|skip
  rename_i f;have l:∃g2 j es,stepG.apply X.Q xk fr cs U (execOp fr.eval ⟨a,.go ⟨.value<|.func f,args,n⟩,type,pos,after,guard⟩) w=.spawn g2 j w es:=by
   have x:(execOp fr.eval ⟨a,.go ⟨.value<|.func f,args,n⟩,type,pos,after,guard⟩).runT X.Q w #[]=(.ok (.spawn {target:=.fn (.func f) #[],args:=#[]++args.map fr.eval}) w, #[]):=rfl;unfold stepG.apply;simp only[Zi9,x];simp only[Zkg,Zkh,Zhu,Zif,GStep.after];exact⟨_,_,_,rfl⟩
  grind [ZaD]
 |_=>cases q
inductive Ev where
 |recv (v:Zg)
 |closed (z:Zg)
 |send (v:Zg)
def VG(P:Z5)(c:Nat)(e:Ev)(fr:Zf):Prop:=
 ∃f i h k o,fr.mode=.run/\fr.todo=.inRegion f (i::h)::k/\f[i]?=J o/\Region.wanted o (yielded f fr.tmps)=xk/\
  match e with
  |.recv _=>∃t a d g inf z,o.op=.recv t a xk/\Y0 a=xk/\fr.eval a=.chan (J c)/\P.underlying t=J (.chan d g)/\P.info? g=J inf/\inf.zero=J z
  |.closed z=>∃t a d g inf,o.op=.recv t a xk/\Y0 a=xk/\fr.eval a=.chan (J c)/\P.underlying t=J (.chan d g)/\P.info? g=J inf/\inf.zero=J z
  |.send v=>∃a x,o.op=.send a x/\Y0 a=xk/\Y0 x=xk/\fr.eval a=.chan (J c)/\fr.eval x=v
def Ev.val:Ev->Value
 |.recv v=>.tuple #[v,.bool xk]
 |.closed z=>.tuple #[z,.bool xw]
 |.send _=>xy
def XB(e:Ev)(fr:Zf):Frame:=fr.finish e.val
def zB(n:Nat):Ev->Prop
 |.recv v|.closed v|.send v=>FixV n v
def Z3P{n:Nat}{e:Ev}(h:zB n e):FixV n e.val:=by
 intro ρ a;cases e with
 |recv v=>simp only[Ev.val,Ul];simp[h ρ a]
 |closed v=>simp only[Ev.val,Ul];simp[h ρ a]
 |send v=>exact Sj ρ
def Z2x{P:Z5}{c:Nat}{e:Ev}{fr:Zf}(h:VG P c e fr):VI fr=xk:=by
 obtain⟨d,i,a,k,o,g,l,j,n,f⟩:=h;grind [jJ,VI]
def Z2w{X:Cx}{ρ:Zl}{n c:Nat}{e:Ev}{fr:Zf}(h:VG X.Q c e fr)(A:SX n ρ)(hc:c<n)(C:zB n e):VG X.P c e<|Zy ρ fr:=by
 obtain⟨a,i,q,k,o,D,G,F,H,h⟩:=h;have K:yielded a (Zy ρ fr).tmps=yielded a fr.tmps:=funext λj=>Ek ρ a fr.tmps j;have B:Zu ρ (.chan<|J c)=.chan (J c):=by simp[Zu,A c hc]
 refine⟨a,i,q,k.map<|YJ ρ,o,by simp[Zy,D,Wo],by simp[Zy,G,YJ],F,Zgc,?_⟩;cases e with
 |recv v=>
  obtain⟨t,f,d,w,inf,z,g,l,r,u,p,y⟩:=h;exact⟨t,f,d,w,inf,z,g,l,by simp_all[RQ],by rw[X.dc];exact u,by rw[X.dx];exact p,y⟩
 |closed v=>
  obtain⟨t,f,d,w,inf,g,l,r,u,p,y⟩:=h;exact⟨t,f,d,w,inf,g,l,by simp_all[RQ],by rw[X.dc];exact u,by rw[X.dx];exact p,y⟩
 |send v=>
  obtain⟨f,x,g,l,r,u,p⟩:=h;exact⟨f,x,g,l,r,by simp_all[RQ],by rw[RQ ρ fr x r,p];exact C ρ A⟩
inductive Play (P:Program) (main:Bool) (c:Nat) (K:Nat->Prop) (Stop:(Nat->Prop)->Goroutine->World->Prop):List Ev->(Nat->Prop)->Goroutine->World->Prop where
 |stop {O:Z4} {g:Zj} {w:Z3}:(∀w1,Rely K O w w1->Stop O g w1)->Play P main c K Stop [] O g w
 |ev {e:Ev} {es:List Ev} {O:Z4} {fr:Zf} {cs:Z8} {w:Z3}:VG P c e fr->(∀w1,Rely K O w w1->Play P main c K Stop es O (G (XB e fr) cs) w1)->Play P main c K Stop (e::es) O (G fr cs) w
 |step {es:List Ev} {O:Z4} {fr:Zf} {cs:Z8} {w:Z3}:(∀w1,Rely K O w w1->∃fr' cs' w' es',stepG P main (G fr cs) w1=.go (G fr' cs') w' es'/\Guar K O w1 w' es')->
   (∀w1 g' w' es',Rely K O w w1->stepG P main (G fr cs) w1=.go g' w' es'->Play P main c K Stop es (Vd O w1 w') g' w')->Play P main c K Stop es O (G fr cs) w
def Play.gx{P:Z5}{main:Bool}{c:Nat}{K:Z4}{a:(Nat->Prop)->Goroutine->World->Prop}{es:List Ev}{O:Z4}{g:Zj}{w w1:Z3}(h:Play P main c K a es O g w)(f:Rely K O w w1):Play P main c K a es O g w1:=by
 cases h with
 |stop h=>exact .stop λw2 d=>h w2<|f.trans d
 |ev j d=>exact .ev j λw2 h=>d w2<|f.trans h
 |step j d=>exact .step (λw2 h=>j w2<|f.trans h) λw2 k l es h=>d w2 k l es<|f.trans h
def Play.mono{P:Z5}{main:Bool}{c:Nat}{K:Z4}{d a:(Nat->Prop)->Goroutine->World->Prop}{es:List Ev}{O:Z4}{g:Zj}{w:Z3}(h:Play P main c K d es O g w)(o:∀O g w,d O g w->a O g w):Play P main c K a es O g w:=by
 induction h with
 |stop h=>exact .stop λw2 j=>o _ _ _<|h w2 j
 |ev f j l=>exact .ev f λw2 h=>l w2 h
 |step f j l=>exact .step f λw2 n p es h k=>l w2 n p es h k
abbrev Za:=Frame->List Frame->World->Prop
def LS(Q:Z5)(c:Nat)(Post:Za):List Ev->Frame->List Frame->World->Prop
 | [],h,g,j=>∃n a d f,runN Q n (lone h (g++[YS Q]) j)=.next (lone a (d++[YS Q]) f)/\Post a d f
 |e::k,h,g,j=>∃n a d f,runN Q n (lone h (g++[YS Q]) j)=.next (lone a (d++[YS Q]) f)/\VG Q c e a/\LS Q c Post k (XB e a) d f
def Z6X{P:Z5}{main:Bool}{c:Nat}{K:Z4}{d:(Nat->Prop)->Goroutine->World->Prop}{es:List Ev}{O:Z4}{fr:Zf}{cs:Z8}{w:Z3}(h:¬Play P main c K d es O (G fr cs) w):
  ∃w1,Rely K O w w1/\((¬ ∃j g f a,stepG P main (G fr cs) w1=.go (G j g) f a/\Guar K O w1 f a)\/∃k f a,stepG P main (G fr cs) w1=.go k f a/\¬Play P main c K d es (Vd O w1 f) k f):=by
 refine Zjm λo=>h (.step (λw1 l=> ?_) λw1 k f a l n=> ?_);simp_all;simp_all
def Z6Y{P:Z5}{main:Bool}{c:Nat}{K:Z4}{a:(Nat->Prop)->Goroutine->World->Prop}{e:Ev}{es:List Ev}{O:Z4}{fr:Zf}{cs:Z8}{w:Z3}(h:¬Play P main c K a (e::es) O (G fr cs) w)(g:VG P c e fr):
  ∃w1,Rely K O w w1/\¬Play P main c K a es O (G (XB e fr) cs) w1:=
 Zjm λj=>h (.ev g λw1 d=>Zjm λf=>j ⟨w1,d,f⟩)
structure Cx.Woven (X:Cx) (ds:List Frame) (wc:World) (fr:Frame) (cs:List Frame) (wl:World) (O:Nat->Prop) (fc:Frame) (cc:List Frame) (w:World):Prop where
 bo:fc=Zy X.ρ fr
 under:cc=cs.map (Zy X.ρ)++ds
 st:X.St fr cs
 wr:X.WR wl w
 own:∀b,X.gd b->b<xz (xj wl)->O (X.ρ b)
 new:∀b,X.n0<=b->b<xz (xj wl)->xz (xj wc)<=X.ρ b
 sz:xz (xj wc)<=xz (xj w)
 sub:∀b,O b->X.O b\/xz (xj wc)<=b
def Z6R{X:Cx}{a w}(h:X.WR a w)(r f:Nat)b d s g j:a.heap[r]? ≠J (Obj.chan f b d s g j):=λe=>by
 obtain h|h:=h.kind e;cases h;exact h.elim
def Ee(X:Cx)(f6:∀ρ,(X.at ρ).Ok){c es fr cs ds main wc}(f3:∀e∈es,zB X.n0 e/\c<X.n0)(f7:∀ρ,(X.at ρ).St fr cs)
  (b0:∀f∈fr::cs,Ez X.n0 f) (f4:∀b o,wc.heap[b]?=J o->(X.O b\/X.G b)->Kd X.n0 o) {Post:World->Frame->List Frame->World->Prop}
  (hl:∀t,LS X.Q c (Post<|X.cq wc t) es fr cs<|X.cq wc t):
  Play X.P main c X.G (λO g w=>∃ρ t p u z fc cc,g=G fc cc/\SX X.n0 ρ/\Post (X.cq wc t) p u z/\(X.at ρ).Woven ds wc p u z O fc cc w) es X.O (G fr<|cs++ds) wc:=by
 classical
 refine Zjm λa9=> ?_;generalize b3:(λO g w=>∃ρ t p u z fc cc,g=G fc cc/\SX X.n0 ρ/\Post (X.cq wc t) p u z/\(X.at ρ).Woven ds wc p u z O fc cc w)=a7 at a9;let S:=List Ev×(Nat->Prop)×Frame×List Frame×World;let a2:S->Prop:=λs=>¬Play X.P main c X.G a7 s.1 s.2.1 (G s.2.2.1 s.2.2.2.1) s.2.2.2.2;let T:S->Prop:=λs=>∃e es,s.1=e::es/\VG X.P c e s.2.2.1
 have b5:∀s:S,∃(w1:Z3) (s':S),a2 s->Rely X.G s.2.1 s.2.2.2.2 w1/\((∃e es,s.1=e::es/\VG X.P c e s.2.2.1/\s'=(es,s.2.1,XB e s.2.2.1,s.2.2.2.1,w1)/\a2 s')\/
   (¬T s/\((¬ ∃p u w' r,stepG X.P main (G s.2.2.1 s.2.2.2.1) w1=.go (G p u) w' r/\Guar X.G s.2.1 w1 w' r)\/
    ∃r,stepG X.P main (G s.2.2.1 s.2.2.2.1) w1=.go (G s'.2.2.1 s'.2.2.2.1) s'.2.2.2.2 r/\s'.2.1=Vd s.2.1 w1 s'.2.2.2.2/\s'.1=s.1/\a2 s'))):=λs=>by
  by_cases h:a2 s;by_cases he:T s;let⟨e,es,h1,A⟩:=he;have h':¬Play X.P main c X.G a7 (e::es) s.2.1 (G s.2.2.1 s.2.2.2.1) s.2.2.2.2:=by rw[<-h1];exact h
  let⟨w1,h3,h4⟩:=Z6Y h' A;exact⟨w1,(es,s.2.1,XB e s.2.2.1,s.2.2.2.1,w1),λ_=>⟨h3,.inl ⟨e,es,h1,A,rfl,h4⟩⟩⟩;let⟨w1,h1,A⟩:=Z6X h;by_cases hg:∃p u w' r,stepG X.P main (G s.2.2.1 s.2.2.2.1) w1=.go (G p u) w' r/\Guar X.G s.2.1 w1 w' r;obtain A|⟨g',w',r,A,h3⟩:=A;simp_all;let⟨p,u,w2,b7,h4,h5⟩:=hg;rw[h4]at A;injection A with q1 q2 q3;subst q1 q2;exact⟨w1,(s.1,Vd s.2.1 w1 w2,p,u,w2),λ_=>⟨h1,.inr ⟨he,.inr ⟨b7,h4,rfl,rfl,h3⟩⟩⟩⟩;grind;simp_all
 let⟨L,f0⟩:=ZjZ b5;let⟨N,hN⟩:=ZjZ f0;let s:=Pq N (es,X.O,fr,cs++ds,wc);let W:=λi=>if T (s i)then L (s i)else Ye ((YK (s i).2.2.1).run X.P<|L<|s i)
 let a:=λi=>xz (xj<|W i)- xz (xj<|L<|s i);let b:=λi=>(W i).drawn- (L<|s i).drawn;let⟨f,hf⟩:=Z0f a (λi j=>xz (xj<|L<|s i)+j) 0;let⟨t,ht⟩:=Z0f b (λi j=>(L<|s i).tape<|(L<|s i).drawn+j) (λ_=>0);let ρ:=λx=>if x<X.n0 then x else f<|x-X.n0
 have hid:SX X.n0 ρ:=λx R=>Zhi R;have hρ:∀i j,j<a i->ρ (X.n0+Wm a i+j)=xz (xj<|L<|s i)+j:=λi j hj=>by
  show(if X.n0+Wm a i+j<X.n0 then _ else _)=_;rw[Zhg Z0,show X.n0+Wm a i+j-X.n0=Wm a i+j from by omega];grind
 have a3:xz (xj<|X.cq wc t)=X.n0:=by simp[Cx.cq]
 let Inv:=λi p u z=>a2 (s i)/\(X.at ρ).Woven ds wc p u z (s i).2.1 (s i).2.2.1 (s i).2.2.2.1 (s i).2.2.2.2/\xz (xj z)=X.n0+Wm a i/\z.drawn=Wm b i/\z.tape=t
 have one:∀i n k y l C B H,Inv i k y l->runN X.Q (n+1) (lone k (y++[YS X.Q]) l)=.next (lone C (B++[YS X.Q]) H)->
   ∃Z Y a0,Inv (i+1) Z Y a0/\(s<|i+1).1=(s i).1/\runN X.Q n (lone Z (Y++[YS X.Q]) a0)=.next (lone C (B++[YS X.Q]) H):=by
  rintro i n k y l C B H ⟨f2,q,d9,c1,a6⟩ d;have b2:VI k=xw:=by
   cases h:VI k with
   |false=>rfl
   |true=>exact absurd d<|ZaC (X:=X.at ρ) q.st.bo h (Z6R q.wr) Z0 _ _ _
  have b1:¬T (s i):=λ⟨e,es,h1,A⟩=>by
   have:=Z2x A;rw[q.bo,Z2z,b2]at this;cases this
  let⟨K,a1⟩:=hN (s i) f2;have e0:=De q.wr K q.own;have a8:W i=Ye ((YK (s i).2.2.1).run X.P<|L<|s i):=Zhg b1;have g5:xz (xj<|L<|s i)<=xz (xj<|W i)/\(L<|s i).drawn<=(W i).drawn:=by rw[a8];exact JK X.P _ _
  have a5:(X.at ρ).cj l (L<|s i)<|W i:=by
   refine⟨λj hj=> ?_,λj hj=> ?_⟩;rw[c1,a6];exact ht i j (by show j< (W i).drawn- (L<|s i).drawn;omega);rw[d9];exact hρ i j (by show j< xz (xj<|W i)- xz (xj<|L<|s i);omega)
  have a4:W i=Ye ((YK<|Zy (X.at ρ).ρ k).run (X.at ρ).P<|L<|s i):=by
   rw[a8,q.bo];rfl
  have c7:¬(y=[]/\k.mode=.returning/\k.defers=[]):=λ⟨h1,A,h3⟩=>by
   subst h1;have hk:k.kind=.normal:=by have:=q.st.bot;simp only[bot,Zho]at this;exact this.1
   obtain⟨v,w',e⟩|⟨o,w',e⟩:=Z3y q.st.bo hk A h3 (YS X.Q) l;have:runN X.Q n (lone ((YS X.Q).finish v) [] w')=.next (lone C (B++[YS X.Q]) H):=by
    simp only[runN]at d;rw[show step X.Q (lone k ([]++[YS X.Q]) l)=_ from e]at d;exact d
   exact Mo (Z38 X.Q v w') _ _ _ _ _ this;exact Kx e Z0 _ d
  obtain d7|⟨ch,h1,A⟩:=Zak (c0:=YS X.Q) (ds:=ds) (f6 ρ) (main:=main) q.st b2 c7 e0 a4 a5;obtain⟨o,w',r,e⟩|⟨Z,Y,a0,f9,r,e1,e2,d8,af⟩:=d7;exact absurd d<|Kx (DQ e) Z0 _;have hg:=Z4g af e0 q.own;have b6:stepG X.P main (G (s i).2.2.1 (s i).2.2.2.1) (L<|s i)=.go (G (Zy ρ Z)<|Y.map (Zy ρ)++ds) (W i) r:=by rw[q.bo,q.under];exact e2
  obtain⟨e,es,h1,A,_⟩|⟨_,f5|⟨f8,e3,e4,e5,e6⟩⟩:=a1;exact absurd ⟨e,es,h1,A⟩ b1;exact absurd ⟨_,_,_,_,b6,hg⟩ f5;rw[b6]at e3;injection e3 with e7 e8 e9;have q5:Zy ρ Z=(N<|s i).2.2.1:=Zii Goroutine.frame e7;have q6:Y.map (Zy ρ)++ds=(N<|s i).2.2.2.1:=Zii Goroutine.callers e7;have D:s (i+1)=N (s i):=rfl;have q1:=af.sz;have q2:=af.rx;have q3:=af.dr;have q4:=af.pz;refine⟨Z,Y,a0,⟨by rw[D];exact e6,⟨by rw[D,<-q5];rfl,by rw[D,<-q6];rfl,d8,by rw[D,<-e8];exact af.wr,?_,?_,?_,?_⟩,?_,?_,af.tl.trans a6⟩,by rw[D];exact e5,?_⟩;intro x R M;rw[D,e4,<-e8];by_cases h:x<xz (xj l);exact .inl<|q.own x R h;exact .inr<|af.new x Z0 M;intro x R M;by_cases h:x<xz (xj l);exact q.new x R h;have:=(af.new x Z0 M).1;have:=q.sz;have:=K.sz;omega;rw[D,<-e8];have:=q.sz;have:=K.sz;omega;intro x R;rw[D,e4]at R;obtain R|R:=R;exact q.sub x R;have:=q.sz;have:=K.sz;omega;show xz (xj a0)=X.n0+(Wm a i+(xz (xj<|W i)- xz (xj<|L<|s i)));omega;show a0.drawn=Wm b i+((W i).drawn- (L<|s i).drawn);omega;simp only[runN]at d;rw[show step X.Q (lone k (y++[YS X.Q]) l)=_ from jL e1]at d;exact d;subst h1;have e:=jL A;have:runN X.Q n (lone ((YS X.Q).raise ch) [] l)=.next (lone C (B++[YS X.Q]) H):=by
   simp only[runN]at d;rw[show step X.Q (lone k ([]++[YS X.Q]) l)=_ from e]at d;exact d
  exact absurd this<|Mo (Z39 X.Q ch l) _ _ _ _ _
 have b8:∀n i k y l C B H,Inv i k y l->runN X.Q n (lone k (y++[YS X.Q]) l)=.next (lone C (B++[YS X.Q]) H)->
   ∃F,Inv F C B H/\(s F).1=(s i).1:=by
  intro n;induction n with
  |zero=>
   intro i k y l C B H hi hr;simp only[runN]at hr;injection hr with hr;obtain⟨rfl,A,rfl⟩:=Z5Z hr;obtain rfl:=List.append_cancel_right A;exact⟨i,hi,rfl⟩
  |succ n ih=>
   intro i k y l C B H hi hr;let⟨Z,Y,a0,h1,A,h3⟩:=one i n k y l C B H hi hr;let⟨F,h4,h5⟩:=ih (i+1) Z Y a0 C B H h1 h3;exact⟨F,h4,h5.trans A⟩
 have all:∀r,(∀e∈r,zB X.n0 e/\c<X.n0)->∀i k y l,(s i).1=r->LS X.Q c (Post<|X.cq wc t) r k y l->Inv i k y l->False:=by
  intro r;induction r with
  |nil=>
   intro _ i k y l hs b4 hi;let⟨n,p,u,z,hr,hp⟩:=b4;let⟨F,⟨hb,q,_⟩,A⟩:=b8 n i _ _ _ _ _ _ hi hr;refine hb ?_;rw[A,hs];refine .stop λw1 h1=> ?_;rw[<-b3];exact⟨ρ,t,p,u,z,_,_,rfl,hid,hp,q.bo,q.under,q.st,De q.wr h1 q.own,q.own,q.new,ZhD q.sz h1.sz,q.sub⟩
  |cons e r ih=>
   intro d6 i k y l hs b4 hi;let⟨n,p,u,z,hr,f1,d⟩:=b4;let⟨F,⟨hb,q,d9,c1,a6⟩,A⟩:=b8 n i _ _ _ _ _ _ hi hr;let⟨d0,hc⟩:=d6 e Z1;have b9:VG X.P c e (s F).2.2.1:=by
    rw[q.bo];exact Z2w f1 hid hc d0
   have c8:T<|s F:=⟨e,r,A.trans hs,b9⟩;let⟨K,a1⟩:=hN (s F) hb;have a4:W F=L (s F):=Zhi c8;have g3:a F=0:=by show xz (xj<|W F)- xz (xj<|L<|s F)=0;rw[a4];omega
   have g4:b F=0:=by show(W F).drawn- (L<|s F).drawn=0;rw[a4];omega
   obtain⟨e2,b7,h3,h4,h5,h6⟩|⟨h3,_⟩:=a1;rw[A,hs]at h3;injection h3 with h7 h8;subst h7 h8;have D:s (F+1)=N (s F):=rfl;have d5:Zy ρ (XB e p)=XB e (Zy ρ p):=by
    unfold XB;rw[<-KI ρ X.Q p e.val q.st.bo.todo,Z3P d0 ρ hid]
   refine ih (λx R=>d6 x<|ZhK _ R) (F+1) (XB e p) u z (by rw[D,h5]) d ⟨by rw[D];exact h6,?_,?_,?_,a6⟩;rw[D,h5];refine⟨?_,q.under,q.st.with (J3 q.st.bo _) (J2 _ _)<|J4 _ _,De q.wr K q.own,q.own,q.new,ZhD q.sz K.sz,q.sub⟩;show XB e (s F).2.2.1=Zy ρ (XB e p);rw[d5,q.bo];rfl;show xz (xj z)=X.n0+(Wm a F+a F);omega;show z.drawn=Wm b F+b F;omega;exact absurd c8 h3
 refine all es f3 0 fr cs (X.cq wc t) rfl (hl t) ⟨a9,⟨?_,?_,f7 ρ,Z6g X t hid f4,λx R M=> ?_,λx R M=> ?_,Zhc _,λb hb=>.inl hb⟩,by rw[a3];rfl,rfl,rfl⟩;exact(b0 fr Z1 ρ hid).symm;have A:cs.map (Zy ρ)=cs:=by
  have:=λc hc=>b0 c (ZhK _ hc) ρ hid;exact(Ziv this).trans Z1
 show cs++ds=cs.map (Zy ρ)++ds;rw[A];rw[a3]at M;obtain R|R:=R;exact absurd M<|Zlr.2 R;have e:(X.at ρ).ρ x=x:=hid x M;rw[e];exact R;rw[a3]at M;exact absurd M<|Zlr.2 R
section
def blk:Loc->Option Nat
 |.cell a=>J a.block
 |.obj r=>J r
 |_=>U
def BK(n:Nat)(op:MemOp):Prop:=∀x b,op.act.touch?=J x->blk x.loc=J b->b<n
def IX{l:Loc}(h:l.isMemory=xk):∃b,blk l=J b:=by
 cases l<;>first|exact⟨_,rfl⟩|cases h
def EvC.nh{K O:Z4}{e:Event}(h:EvC K O e):∀m,e.loc=.mark m->Neutral m:=by
 intro m a;unfold EvC at h;rw[a]at h;exact h
structure TI (n:Nat) (OA OB KB:Nat->Prop) (sz:Nat) (t:Trace):Prop where
 gi:∀said,¬Race said t
 du:∀i,Deaf t i=0
 H:∀op∈t,BK sz op
 j1:∀(i:Nat) (op:MemOp) (x:Touch),t[i]?=J op->op.act.touch?=J x->x.loc.isMemory=xk->Knows t 0 i\/(op.g=n/\∃b,blk x.loc=J b/\(OB b\/(x.write=xw/\KB b)))
 j2:∀(i:Nat) (op:MemOp) (x:Touch),t[i]?=J op->op.act.touch?=J x->x.loc.isMemory=xk->op.g=n\/Knows t n i\/((x.write=xk->∃b,blk x.loc=J b/\OA b)/\∀b,blk x.loc=J b->¬OB b)
section
variable {n:Nat}{OA OB KB KA:Z4}{sz sz':Nat}{t:Trace}
def zZ{K O:Z4}{g:Nat}{fn:Zq}{pos:String}{es:Zc}(j:∀e∈es,EvC K O e){op:MemOp}(h:op∈MemOp.ofEvents g fn pos es){x:Touch}(hx:op.act.touch?=J x)(l:x.loc.isMemory=xk):
  op.g=g/\∃b,blk x.loc=J b/\(O b\/(x.write=xw/\K b)):=by
 rw[ofEvents_eq]at h;obtain⟨e,q,rfl⟩:=ZjY.1 h;refine⟨rfl,?_⟩;have f:=j e q;obtain⟨n,o⟩:=ofEvent_touch f.nh hx;obtain⟨b,d⟩:=IX l;refine⟨b,d,?_⟩;unfold EvC at f;rw[n]at d l;rw[o];split at f;rename_i a p;rw[p]at d;cases d;exact f;rename_i r u;rw[u]at d;cases d;grind;rename_i m k;rw[k]at d;cases d;rename_i t;rw[t]at d;cases d;simp_all
def AH{K O:Z4}{g:Nat}{fn:Zq}{pos:String}{es:Zc}(j:∀e∈es,EvC K O e)(y:∀b,O b->b<sz)(w:∀b,K b->b<sz):∀op∈MemOp.ofEvents g fn pos es,BK sz op:=by
 intro op h x b t d;rw[ofEvents_eq]at h;obtain⟨e,o,rfl⟩:=ZjY.1 h;have f:=j e o;obtain⟨l,u⟩:=ofEvent_touch f.nh t;rw[l]at d;unfold EvC at f;split at f;rename_i a n;rw[n]at d;cases d;grind;rename_i r q;rw[q]at d;cases d;grind;rename_i m k;rw[k]at d;cases d;rename_i p;rw[p]at d;cases d;simp_all
def AG{K O:Z4}{g:Nat}{fn:Zq}{pos:String}{es:Zc}(a:∀e∈es,EvC K O e)(h:∀i,Deaf t i=0)(i:Nat):Deaf (t++MemOp.ofEvents g fn pos es) i=0:=by
 by_cases j:g=i;subst j;rw[Deaf_own,h];obtain⟨l⟩:=es;induction l with
 |nil=>rfl
 |cons e l o=>
  have k:=(a e Z1).nh;have n:deafBehind 0 (e::l).toArray=deafBehind 0 l.toArray:=by
   simp only[deafBehind,List.foldl_toArray',ZiP];congr 1;obtain⟨f,wr,p⟩:=e;cases f with
   |mark m=>
    have:=k m rfl;cases m<;>first|rfl|cases this
   |_=>rfl
  simp_all
 rw[Deaf_other t j _ (λop d=>by rw[ofEvents_eq]at d;grind)];exact h i
def TI.main{j:Z4}(h:TI n OA OB KB sz t)(hn:n≠0)(F:∀b,OA b->j b)(D:∀b,j b->OA b\/sz<=b)(r:sz<=sz')(G:∀b,j b->b<sz')(z:∀b,KA b->b<sz)
  (K:∀b,j b->¬OB b) (L:∀b,j b->¬KB b) (W:∀b,KA b->¬OB b) {fn:Zq} {pos:String} {es:Zc} (k:∀e∈es,EvC KA j e):TI n j OB KB sz'<|t++MemOp.ofEvents 0 fn pos es:=by
 have X:∀op∈MemOp.ofEvents 0 fn pos es,op.g=0:=λop f=>by rw[ofEvents_eq]at f;grind
 refine⟨λsaid=>noRace_append (h.gi said) X λi a H op f b p O=> ?_,AG k h.du,λop f=> ?_,λi op x A o u=> ?_,λi op x A o u=> ?_⟩
 .obtain⟨y,Y,C⟩:=touch_of H;obtain⟨he,B,hw,_⟩:=O;obtain T|⟨hg,c,P,Q⟩:=h.j1 i y a Y C B;rotate_left;obtain⟨_,d,R,S⟩:=zZ k f p Zgd;grind;exact T
 obtain f|f:=ZiK.1 f;exactλx b o p=>Zhj (h.H op f x b o p) r;exact AH k G (λb p=>Zhj (z b p) r) op f;obtain⟨_,l⟩|⟨_,q⟩:=getElem?_append_cases A;exact(h.j1 i op x l o u).imp (Knows.app _) id;grind [knows_own];obtain⟨_,l⟩|⟨_,q⟩:=getElem?_append_cases A;obtain w|w|⟨w,Z⟩:=h.j2 i op x l o u;omega;exact .inr<|.inl<|w.app _;grind;obtain⟨_,b,M,N⟩:=zZ k q o u;grind
def TI.pp{j:Z4}(h:TI n OA OB KB sz t)(z:∀b,OB b->j b)(w:∀b,j b->OB b\/sz<=b)(A:sz<=sz')(N:∀b,j b->b<sz')(F:∀b,KB b->b<sz)
  (P:∀b,OA b->¬j b) (Q:∀b,OA b->¬KB b) {fn:Zq} {pos:String} {es:Zc} (k:∀e∈es,EvC KB j e):TI n OA j KB sz'<|t++MemOp.ofEvents n fn pos es:=by
 have M:∀op∈MemOp.ofEvents n fn pos es,op.g=n:=λop f=>by rw[ofEvents_eq]at f;grind
 have L:∀(i:Nat) (op:MemOp) (x:Touch) (b:Nat),t[i]?=J op->op.act.touch?=J x->blk x.loc=J b->¬OB b->¬j b:=λi op x b u o p X B=>by
  obtain l|l:=w b B;grind;have:=h.H op (ZjJ u) x b o p;omega
 refine⟨λsaid=>noRace_append (h.gi said) M λi a O op f b p R=> ?_,AG k h.du,λop f=> ?_,λi op x u o C=> ?_,λi op x u o C=> ?_⟩;obtain⟨y,Y,H⟩:=touch_of O;obtain⟨Z,G,hw,_⟩:=R;obtain K|W|⟨l,D⟩:=h.j2 i y a Y H G;grind [knows_own];exact W;exfalso;obtain⟨_,d,S,T⟩:=zZ k f p Zgd;grind;obtain f|f:=ZiK.1 f;exactλx b o p=>Zhj (h.H op f x b o p) A;exact AH k N (λb p=>Zhj (F b p) A) op f;obtain⟨_,q⟩|⟨_,r⟩:=getElem?_append_cases u;exact(h.j1 i op x q o C).imp (Knows.app _) λ⟨K,b,l,D⟩=>⟨K,b,l,D.imp (z b) id⟩;exact .inr ⟨M op r,(zZ k r o C).2⟩;obtain⟨_,q⟩|⟨_,r⟩:=getElem?_append_cases u;obtain l|l|⟨l,D⟩:=h.j2 i op x q o C;omega;exact .inr<|.inl<|l.app _;grind;simp_all
def TI.comm(h:TI n OA OB KB sz t)(w:sz<=sz')(u:Trace)(O:∀op∈u,op.act.touch?=U/\op.act≠.mark .disable/\op.act≠.mark .enable):TI n OA OB KB sz'<|t++u:=by
 refine⟨λsaid=> ?_,λi=> ?_,λop d=> ?_,λi op x k f r=> ?_,λi op x k f r=> ?_⟩;rintro⟨i,j,p,⟨a,b,z,o,A⟩,L,M⟩;obtain⟨x,f,C⟩:=touch_of z;obtain⟨y,F,H⟩:=touch_of o;obtain⟨N,G⟩|⟨_,K⟩:=getElem?_append_cases F;obtain⟨k,B⟩|⟨_,D⟩:=getElem?_append_cases f;exact h.gi said ⟨i,j,p,⟨a,b,by simp_all[Trace.act?],by simp_all[Trace.act?],A⟩,λe=>L<|hb_app u e,λe=>M<|hb_app u e⟩;omega;simp_all;obtain⟨l⟩:=u;rw[Deaf_append,h.du];induction l with
 |nil=>rfl
 |cons y l P=>
  simp_all[deafStep,absurd,ZiP]
 obtain d|d:=ZiK.1 d;exactλx b f o=>Zhj (h.H op d x b f o) w;exactλx b f _=>Zgd;obtain⟨_,g⟩|⟨_,q⟩:=getElem?_append_cases k;exact(h.j1 i op x g f r).imp (Knows.app _) id;simp_all;obtain⟨_,g⟩|⟨_,q⟩:=getElem?_append_cases k;exact(h.j2 i op x g f r).imp id (Or.imp (Knows.app _) id);simp_all
end
end
end Vm
end
section
namespace Vm
open Go Go.Conc Go.ConcN
section
abbrev Zd:=Array Goroutine
def YO(P:Z5)(n:Nat)(gs:Zd)(q:Zl):Prop:=∀i g,0<i->i≠n->gs[i]?=J g->QuitsIn P (q i) g
abbrev Zo:=Array Goroutine->World->Trace->Prop
def Win(P:Z5)(Final:Zo)(gs:Zd)(w:Z3)(sl:Option<|Nat×Nat)(t:Trace):Prop:=
 ∃N a g d f,runNT P N (crowd gs w sl) t=(.next<|crowd a g d,f)/\Final a g f
section
variable {P:Z5}{Final:Zo}{n:Nat}
def Win.ke{gs:Zd}{w:Z3}{sl:Option (Nat×Nat)}{t:Trace}(h:Final gs w t):Win P Final gs w sl t:=⟨0,gs,w,sl,t,rfl,h⟩
def Win.step{gs a:Zd}{w w1:Z3}{sl d:Option (Nat×Nat)}{t:Trace}{ops:Array MemOp}(h:stepT P (crowd gs w sl)=(.next<|crowd a w1 d,ops))(k:Win P Final a w1 d<|t++ops):Win P Final gs w sl t:=by
 obtain⟨N,f,o,g,n,j,l⟩:=k;exact⟨N+1,f,o,g,n,by simp only[runNT,h];exact j,l⟩
theorem Z0i{g g' b:Zj}{w':Z3}{k:Nat}(a:QuitsIn P k b):woken P g g' w' b=b:=woken_quitsD<|QuitsD.of_quitsIn a
def PB{Wn:Array Goroutine->World->Option (Nat×Nat)->Trace->Prop}(K:∀ {gs N:Zd} {w w1:Z3} {sl Y:Option (Nat×Nat)} {t:Trace} {W:Array MemOp},stepT P (crowd gs w sl)=(.next<|crowd N w1 Y,W)->Wn N w1 Y (t++W)->Wn gs w sl t)
  {gs:Zd} {w:Z3} {sl:Option (Nat×Nat)} {t:Trace} {q:Zl} (hl:YO P n gs q)
  (D:∀i g,(i=0\/i=n)->gs[i]?=J g->awake g/\∀g1 g2 d,woken P g1 g2 (w.at d) g=g)
  (hr:∃i g,(i=0\/i=n)/\gs[i]?=J g/\g.status=.running)
  (H:∀a d0 X d o q' i g,stepT P (crowd a (w.at d0) X)=runT P (crowd a (w.at d) o) i->a.size=gs.size->(∀j,(j=0\/j=n)->a[j]?=gs[j]?)->YO P n a q'->(i=0\/i=n)->a[i]?=J g->g.status=.running->Wn a (w.at d0) X t):Wn gs w sl t:=by
 have key:∀M a d sl q,sumTo gs.size q<=M->a.size=gs.size->(∀j,(j=0\/j=n)->a[j]?=gs[j]?)->YO P n a q->Wn a (w.at d) sl t:=by
  intro M;induction M with
  |zero=>
   intro a d sl q hM u f C;have z:∀g∈a,awake g:=λg r=>by
    obtain⟨i,p,rfl⟩:=Zl4.1 r;by_cases h:i=0\/i=n;exact(D i _ h (by rw[<-f i h];exact Zi1 p)).1;have:=C i _ Z0 Z0<|Zi1 p;exactλt S=>by obtain h|h:=this.status<;>rw[h]at S<;>cases S
   obtain⟨T,g0,h1,Z,h3⟩:=hr;obtain⟨i,g,L,o,p,r,B⟩:=crowd_pick (P:=P) (w:=w.at d) (sl:=sl) z ⟨T,g0,by rw[f T h1];exact Z,h3⟩;by_cases h:i=0\/i=n;exact H a d sl L o q i g B u f C h p r;have l:=C i g Z0 Z0 p;have G:i<gs.size:=by rw[<-u];exact(Zhe.1 p).1
   have a6:q i=0:=by
    have Z:sumTo gs.size (upd q i 0)+q i=sumTo gs.size q+0:=by simpa using sumTo_upd q 0 id G
    omega
   rw[a6]at l;rw[show g.status=.finished from l]at r;cases r
  |succ M ih=>
   intro a d sl q hM u f C;have z:∀g∈a,awake g:=λg r=>by
    obtain⟨i,p,rfl⟩:=Zl4.1 r;by_cases h:i=0\/i=n;exact(D i _ h (by rw[<-f i h];exact Zi1 p)).1;have:=C i _ Z0 Z0<|Zi1 p;exactλt S=>by obtain h|h:=this.status<;>rw[h]at S<;>cases S
   obtain⟨T,g0,h1,Z,h3⟩:=hr;obtain⟨i,g,L,o,p,r,B⟩:=crowd_pick (P:=P) (w:=w.at d) (sl:=sl) z ⟨T,g0,by rw[f T h1];exact Z,h3⟩;by_cases h:i=0\/i=n;exact H a d sl L o q i g B u f C h p r;have l:=C i g Z0 Z0 p;have G:i<gs.size:=by rw[<-u];exact(Zhe.1 p).1
   cases hk:q i with
   |zero=>
    rw[hk]at l;rw[show g.status=.finished from l]at r;cases r
   |succ k=>
    rw[hk]at l;obtain hf|⟨_,g',R,a5⟩:=l;rw[hf]at r;cases r;have a1:(i==0)=xw:=Zge;have A:=runT_crowd_go (P:=P) (sl:=o) (i:=i) p (by rw[a1];exact R<|w.at L);have a7:sumTo gs.size (upd q i k)+(k+1)=sumTo gs.size q+k:=by
     have:=sumTo_upd q k id G;simpa[hk]using this
    have a4:MemOp.ofEvents i g.frame.fn g.frame.place #[]=#[]:=rfl;rw[a4]at A;refine K (B.trans A) ?_;rw[Zi4];refine ih _ L o (upd q i k) Z0 (by simp[u]) (λj hj=> ?_) λj x hj a2 hx=> ?_;have a3:i≠j:=Z0;rw[Zi5 a3,ZhJ,f j hj];cases a0:gs[j]? with
    |none=>rfl
    |some y=>simp only[ZhA];rw[(D j y hj a0).2]
    by_cases F:i=j;subst F;have O:i<a.size:=Z0;rw[ZjI (by simpa using O)]at hx;cases hx;rw[upd_same];exact a5;rw[Zi5 F,ZhJ]at hx;obtain⟨y,hy,rfl⟩:=Zha.1 hx;have Q:=C j y hj a2 hy;rw[Z0i Q,upd_ne q k<|ZiX F];exact Q
 have:=key (sumTo gs.size q) gs w.drawn sl q (Zhc _) rfl (λ_ _=>rfl) hl;exact this
def skip{gs:Zd}{w:Z3}{sl:Option (Nat×Nat)}{t:Trace}{q:Zl}(F:YO P n gs q)
  (o:∀i g,(i=0\/i=n)->gs[i]?=J g->awake g/\∀g1 g2 d,woken P g1 g2 (w.at d) g=g)
  (G:∃i g,(i=0\/i=n)/\gs[i]?=J g/\g.status=.running)
  (H:∀a d k r i g,a.size=gs.size->(∀j,(j=0\/j=n)->a[j]?=gs[j]?)->YO P n a r->(i=0\/i=n)->a[i]?=J g->g.status=.running->
   ∃f w1 l h,runT P (crowd a (w.at d) k) i=(.next<|crowd f w1 l,h)/\Win P Final f w1 l (t++h)):Win P Final gs w sl t:=
 PB (Wn:=Win P Final) Win.step F o G λa L K d k r i g p y z A B C D=>by
  obtain⟨f,w1,l,h,u,x⟩:=H a d k r i g y z A B C D;exact Win.step (p.trans u) x
end
end
section
structure Cfg (P:Program) (n c:Nat) (KA KB OA0:Nat->Prop) (w0:World) (OA OB:Nat->Prop) (gs:Array Goroutine) (w:World) (t:Trace) (q:Nat->Nat):Prop where
 n0:0<n
 lv:YO P n gs q
 ti:TI n OA (λb=>OB b\/b=c) KB (xz<|xj w) t
 la:∀b,OA b->b<xz (xj w)
 lb:∀b,OB b->b<xz (xj w)
 ka:∀b,KA b->b<xz (xj w0)
 kb:∀b,KB b->b<xz (xj w0)
 mo:∀b,OA b->¬OB b
 mq:∀b,OA b->¬KB b
 ca:¬OA c
 lp:¬KA c
 nd:¬KB c
 c0:c<xz (xj w0)
 b0:xz (xj w0)<=xz (xj w)
 tape:w.tape=w0.tape
 os:(w.os,w.output)=(w0.os,w0.output)
 oa:∀b,OA b->OA0 b\/xz (xj w0)<=b
 ob:∀b,OB b->xz (xj w0)<=b
 fr:∀b,b<xz (xj w0)->¬OA0 b->b≠c->w.heap[b]?=w0.heap[b]?
section
variable {P:Z5}{n c:Nat}{KA KB OA0 OA OB:Z4}{w0 w:Z3}{gs:Zd}{t:Trace}{q:Zl}
def EvC.mono{K O a:Z4}{e:Event}(h:EvC K O e)(d:∀b,O b->a b):EvC K a e:=by
 unfold EvC at*;split<;>simp only[*]at h;exact h.imp (d _) id;exact d _ h;exact h;trivial
def Cfg.vm(h:Cfg P n c KA KB OA0 w0 OA OB gs w t q)(b:Nat)(a:KA b):¬OB b:=λd=>by
 have:=h.ka b a;have:=h.ob b d;omega
def Cfg.cb(h:Cfg P n c KA KB OA0 w0 OA OB gs w t q):¬OB c:=λa=>by
 have:=h.ob c a;have:=h.c0;omega
theorem Cfg.at(h:Cfg P n c KA KB OA0 w0 OA OB gs w t q)(d:Nat){a:Zd}{f:Zl}(g:YO P n a f):Cfg P n c KA KB OA0 w0 OA OB a (w.at d) t f:=
 ⟨h.n0,g,h.ti,h.la,h.lb,h.ka,h.kb,h.mo,h.mq,h.ca,h.lp,h.nd,h.c0,h.b0,h.tape,h.os,h.oa,h.ob,h.fr⟩
theorem Rely.at(K O:Z4)(w:Z3)(d:Nat):Rely K O w<|w.at d:=⟨Zhc _,rfl,rfl,λ_ _ _=>rfl⟩
def Cfg.uk(h:Cfg P n c KA KB OA0 w0 OA OB gs w t q){w':Z3}{es:Zc}(a:Guar KA OA w w' es):Rely KB OB w w':=
 ⟨a.sz,a.tape,a.os,λb f g=>a.keep b f λd=>g.elim (h.mo b d)<|h.mq b d⟩
def Cfg.uj(h:Cfg P n c KA KB OA0 w0 OA OB gs w t q){w':Z3}{es:Zc}(a:Guar KB OB w w' es):Rely KA OA w w':=
 ⟨a.sz,a.tape,a.os,λb g k=>a.keep b g λd=>k.elim (λf=>h.mo b f d) λj=>h.vm b j d⟩
def WJ(w:Z3)(c:Nat)(o:Obj):World:= {w with heap:=w.heap.setIfInBounds c o}
def Ku{K O:Z4}(w:Z3)(c:Nat)(o:Obj)(a:¬O c)(h2:¬K c):Rely K O w<|WJ w c o:=
 ⟨by simp[WJ],rfl,rfl,λb f d=>by
  have:c≠b:=λe=>by subst e;exact d.elim a h2
  simp[WJ,Zj3,this]⟩
def AC{w:Z3}{c:Nat}{o:Obj}(h:c<xz (xj w)):(WJ w c o).heap[c]?=J o:=by simp[WJ,Zj3,h]
def Cfg.chan(h:Cfg P n c KA KB OA0 w0 OA OB gs w t q)(o:Obj){a:Zd}{j:Zl}(l:YO P n a j)(u:Trace)(p:∀op∈u,op.act.touch?=U/\op.act≠.mark .disable/\op.act≠.mark .enable):
  Cfg P n c KA KB OA0 w0 OA OB a (WJ w c o) (t++u) j:=by
 have f:xz (xj<|WJ w c o)=xz (xj w):=by simp[WJ]
 refine⟨h.n0,l,by rw[f];exact h.ti.comm (Zhc _) u p,λb d=>by rw[f];exact h.la b d,λb d=>by rw[f];exact h.lb b d,h.ka,h.kb,h.mo,h.mq,h.ca,h.lp,h.nd,h.c0,by rw[f];exact h.b0,h.tape,h.os,h.oa,h.ob,λb d k g=> ?_⟩;rw[<-h.fr b d k g];simp[WJ,Zj3,ZiX g]
def Cfg.same(h:Cfg P n c KA KB OA0 w0 OA OB gs w t q){a:Zd}{d:Zl}(f:YO P n a d)(u:Trace)(g:∀op∈u,op.act.touch?=U/\op.act≠.mark .disable/\op.act≠.mark .enable):
  Cfg P n c KA KB OA0 w0 OA OB a w (t++u) d:=
 ⟨h.n0,f,h.ti.comm (Zhc _) u g,h.la,h.lb,h.ka,h.kb,h.mo,h.mq,h.ca,h.lp,h.nd,h.c0,h.b0,h.tape,h.os,h.oa,h.ob,h.fr⟩
def Cfg.vh(h:Cfg P n c KA KB OA0 w0 OA OB gs w t q)(fn:Zq)(pos:String):Cfg P n c KA KB OA0 w0 OA OB gs w (t++MemOp.ofEvents n fn pos #[⟨.obj c,xw,xk⟩]) q:=by
 have g:=h.b0;have j:=h.c0;refine⟨h.n0,h.lv,h.ti.pp (λb a=>a) (λb a=>.inl a) (Zhc _) (λb a=>by obtain a|a:=a;exact h.lb b a;omega) (λb a=>by have:=h.kb b a;omega) (λb f a=>by obtain a|a:=a;exact h.mo b f a;subst a;exact h.ca f) h.mq (λe d=> ?_),h.la,h.lb,h.ka,h.kb,h.mo,h.mq,h.ca,h.lp,h.nd,h.c0,h.b0,h.tape,h.os,h.oa,h.ob,h.fr⟩;have d:e=⟨.obj c,xw,xk⟩:=Zgp;subst d;exact .inr rfl
def Cfg.lr(h:Cfg P n c KA KB OA0 w0 OA OB gs w t q){w':Z3}{es:Zc}(j:Guar KA OA w w' es){d:Zd}{u:Zl}(A:YO P n d u)(fn:Zq)(pos:String):
  Cfg P n c KA KB OA0 w0 (Vd OA w w') OB d w' (t++MemOp.ofEvents 0 fn pos es) u:=by
 have y:=h.b0;have o:=j.sz;have f:∀b,Vd OA w w' b->¬OB b:=λb a l=>by
  obtain a|a:=a;exact h.mo b a l;have:=h.lb b l;omega
 have g:∀b,Vd OA w w' b->¬KB b:=λb a l=>by
  obtain a|a:=a;exact h.mq b a l;have:=h.kb b l;omega
 have k:∀b,Vd OA w w' b->b<xz (xj w'):=λb a=>by
  obtain a|a:=a;have:=h.la b a;omega;omega
 refine⟨h.n0,A,h.ti.main (KA:=KA) (by have:=h.n0;omega) (λb a=>.inl a) (λb a=>a.imp id (·.1)) o k (λb a=>by have:=h.ka b a;omega) (λb a p=>p.elim (f b a) λe=>by subst e;obtain a|a:=a;exact h.ca a;have:=h.c0;omega) g (λb a p=>p.elim (h.vm b a) λe=>by subst e;exact h.lp a) j.nf,k,λb a=>by have:=h.lb b a;omega,h.ka,h.kb,f,g,λa=> ?_,h.lp,h.nd,h.c0,Z0,j.tape.trans h.tape,j.os.trans h.os,λb a=> ?_,h.ob,λb a r z=> ?_⟩;obtain a|a:=a;exact h.ca a;have:=h.c0;omega;obtain a|a:=a;exact h.oa b a;omega;rw[j.keep b Z0 λx=>(h.oa b x).elim r Z0];exact h.fr b a r z
def Cfg.pq(h:Cfg P n c KA KB OA0 w0 OA OB gs w t q){w':Z3}{es:Zc}(j:Guar KB OB w w' es){d:Zd}{o:Zl}(y:YO P n d o)(fn:Zq)(pos:String):
  Cfg P n c KA KB OA0 w0 OA (Vd OB w w') d w' (t++MemOp.ofEvents n fn pos es) o:=by
 have r:=h.b0;have l:=j.sz;have g:∀b,OA b->¬Vd OB w w' b:=λb f a=>by
  obtain a|a:=a;exact h.mo b f a;have:=h.la b f;omega
 have k:∀b,Vd OB w w' b->b<xz (xj w'):=λb a=>by
  obtain a|a:=a;have:=h.lb b a;omega;omega
 refine⟨h.n0,y,h.ti.pp (λb a=>a.imp .inl id) (λb a=>by obtain(a|a)|a:=a;exact .inl<|.inl a;exact .inr a.1;omega) l (λb a=>by obtain a|a:=a;exact k b a;subst a;have:=h.c0;omega) (λb a=>by have:=h.kb b a;omega) (λb f a=>by obtain a|a:=a;exact g b f a;subst a;exact h.ca f) h.mq (λe x=>(j.nf e x).mono λb a=>.inl a),λb a=>by have:=h.la b a;omega,k,h.ka,h.kb,g,h.mq,h.ca,h.lp,h.nd,h.c0,Z0,j.tape.trans h.tape,j.os.trans h.os,h.oa,λb a=> ?_,λb a p u=> ?_⟩;obtain a|a:=a;exact h.ob b a;omega;rw[j.keep b Z0 λz=>by have:=h.ob b z;omega];exact h.fr b a p u
end
def UN(P:Z5)(c:Nat)(O:Z4)(g:Zj)(w:Z3):Prop:=
 g.status=.running/\mayWake P g=xk/\∃a k,(∀s r d,w.heap[c]?=J (.chan 0 #[] xw s r d)->stepG P xw g w=.go a (WJ w c<|.chan 0 #[] xk s r d) #[⟨.obj c,xw,xk⟩,⟨.obj c,xk,xk⟩])/\QuitsIn P k a
inductive BSit (P:Program) (c:Nat) (KB:Nat->Prop):List Value->(Nat->Prop)->Goroutine->World->Prop where
 |run {vs:Zp} {O:Z4} {b:Zj} {w:Z3}:Play P false c KB (UN P c) (vs.map .send) O b w->BSit P c KB vs O b w
 |ve {v:Zg} {vs:Zp} {O:Z4} {fr:Zf} {cs:Z8} {z:Zg} {w:Z3}:Play P false c KB (UN P c) (vs.map .send) O (G (XB (.send v) fr) cs) w->BSit P c KB (v::vs) O (parked (G fr cs) #[scase c v z] .send) w
def BSit.gx{P:Z5}{c:Nat}{KB:Z4}{vs:Zp}{O:Z4}{b:Zj}{w w1:Z3}(h:BSit P c KB vs O b w)(a:Rely KB O w w1):BSit P c KB vs O b w1:=by
 cases h with
 |run h=>exact .run<|h.gx a
 |ve h=>exact .ve<|h.gx a
def Play.running{P:Z5}{main:Bool}{c:Nat}{K:Z4}{a:(Nat->Prop)->Goroutine->World->Prop}(d:∀O g w,a O g w->g.status=.running){es:List Ev}{O:Z4}{g:Zj}{w:Z3}(h:Play P main c K a es O g w):g.status=.running:=by
 cases h with
 |stop h=>exact d _ _ _<|h w<|.refl _ _ _
 |ev=>rfl
 |step=>rfl
end
section
theorem Fw{p:Z5}{fr:Zf}{cs:Z8}{s:Sem Next}{w w':Z3}{c:Array CommCase}{b:Bool}{sh:CommShape}(e:s.runT p w #[]=(.ok (.comm c b sh) w', #[])):stepG.apply p xk fr cs U s w=.comm (G fr cs) c b sh w' #[]:=by
 simp_all[stepG.apply,Conc.G,Zi9,GStep.after,seen_none]
theorem Z9A{P:Z5}{t:Zh}{d:TypeDesc}(h:P.underlying t=J d){α:Type}(f:TypeDesc->Sem α)(w:Z3)(es:Zc):(underlying t>>=f).runT P w es=(f d).runT P w es:=by
 simp_all[underlying,runT,pure,stuck,Sem.bind,Zjn]
theorem Z9B{P:Z5}{t:Zh}{i:TypeInfo}{z:Zg}(h:P.info? t=J i)(a:i.zero=J z){α:Type}(f:Value->Sem α)(w:Z3)(es:Zc):(zeroValue t>>=f).runT P w es=(f z).runT P w es:=by
 simp_all[typeInfo,runT,pure,stuck,zeroValue,Sem.bind,Zjn]
section
variable {P:Z5}{main:Bool}{c:Nat}{fr:Zf}{cs:Z8}{v z:Zg}
theorem OI{ops:Zm}{i:Nat}{rest:Zb}{k:Zn}{o:Oper}{t g:Zh}{a:Operand}{d:ChanDir}{inf:TypeInfo}(q:fr.mode=.run)(u:fr.todo=.inRegion ops (i::rest)::k)(r:ops[i]?=J o)(x:Region.wanted o (yielded ops fr.tmps)=xk)
  (h:o.op=.recv t a xk) (h2:fr.eval a=.chan (J c)) (l:P.underlying t=J (.chan d g)) (n:P.info? g=J inf) (p:inf.zero=J z) (w:Z3):stepG P main (G fr cs) w=.comm (G fr cs) #[rcase c z] xk (.recv xk) w #[]:=by
 rw[DN P main fr cs w q,Kz u r x (λ_ c e=>Zgd)];refine Fw ?_;obtain⟨f,op,type,pos,after,guard⟩:=o;dsimp only at h;subst h
 have j:execOp fr.eval ⟨f,.recv t a xk,type,pos,after,guard⟩=(do
  let .chan _ elem<-underlying t|stuck "receive: channel type expected"
  pure (.comm #[{chan:=fr.eval a,send:=U,zero:= <-zeroValue elem}] xk (.recv xk)):Sem Next):=rfl
 rw[j,Z9A l];dsimp only;rw[Z9B n p,h2];rfl
theorem Z8Z(h:VG P c (.recv v) fr):∃z,∀w,stepG P main (G fr cs) w=.comm (G fr cs) #[rcase c z] xk (.recv xk) w #[]:=by
 obtain⟨x,i,a,k,o,p,r,q,u,t,y,d,A,inf,z,f,_,g,j,l,n⟩:=h;exact⟨z,λw=>OI p r q u f g j l n w⟩
theorem Ga(h:VG P c (.closed z) fr)(w:Z3):stepG P main (G fr cs) w=.comm (G fr cs) #[rcase c z] xk (.recv xk) w #[]:=by
 obtain⟨f,i,a,k,o,u,y,x,A,t,g,d,j,inf,l,_,n,p,q,r⟩:=h;grind [OI]
theorem Ds(h:VG P c (.send v) fr):∃z,∀w,stepG P main (G fr cs) w=.comm (G fr cs) #[scase c v z] xk .send w #[]:=by
 obtain⟨t,i,d,k,o,n,q,p,r,f,x,a,_,_,j,l⟩:=h;refine⟨.tuple #[],λw=> ?_⟩;rw[DN P main fr cs w n,Kz q p r (λ_ c e=>Zgd)];refine Fw ?_;obtain⟨g,op,type,pos,after,guard⟩:=o;dsimp only at a;subst a;subst l;show(Result.ok (Next.comm #[{chan:=fr.eval f,send:=J<|fr.eval x,zero:=.tuple #[]}] xk .send) w,(#[]:Array Event))=_;rw[j];rfl
end
theorem Ox{P:Z5}{k:Nat}{g:Zj}(h:QuitsIn P k g)(c:Nat)(b:Bool):offersAt g c b=[]:=offersAt_of_not_blocked (by obtain h|h:=h.status<;>rw[h]<;>simp) c b
section
variable {P:Z5}{n c:Nat}{gs:Zd}{q:Zl}{w:Z3}{sl:Option (Nat×Nat)}{s r:Nat}{tm:Bool}{g:Zj}{z v z':Zg}
theorem S9(h:YO P n gs q)(i:Nat)(k:i=0\/i=n)(x:Zj):YO P n (gs.setIfInBounds i x) q:=λj y f g d=>by
 have a:i≠j:=Z0;rw[Zi5 a]at d;exact h j y f g d
theorem R1(h:YO P n gs q)(i:Nat)(p:i=0\/i=n)(g g' x:Zj)(w':Z3):YO P n ((gs.map<|woken P g g' w').setIfInBounds i x) q:=λj y f k d=>by
 have a:i≠j:=Z0;rw[Zi5 a,ZhJ]at d;obtain⟨o,l,rfl⟩:=Zha.1 d;have:=h j o f k l;grind [Z0i]
theorem Th{i:Nat}{x y:Zj}(h:gs[i]?=J y):(gs.setIfInBounds i x)[i]?=J x:=ZjI (Zhe.1 h).1
theorem Du{i j:Nat}{x:Zj}(h:i≠j):(gs.setIfInBounds i x)[j]?=gs[j]? :=Zi5 h
theorem C3(d:YO P n gs q)(i:Nat)(g:i=0\/i=n)(k:∀j x,(j=0\/j=n)->j≠i->gs[j]?=J x->x.status≠.blocked)(b:Bool):partners (gs.setIfInBounds i ph) c b=[]:=by
 refine partners_nil λj x a=> ?_;obtain⟨_,rfl⟩|⟨f,a⟩:=getElem?_stand gs i j x a;rfl;by_cases h:j=0\/j=n;grind [offersAt_of_not_blocked];exact Ox (d j x Z0 Z0 a) _ _
theorem ML(f:YO P n gs q)(i j:Nat)(o:i=0\/i=n)(p:j=0\/j=n)(a:j≠i){x:Zj}(hx:gs[j]?=J x)(b:Bool)(h:∀k,(k=0\/k=n)->k=i\/k=j):partners (gs.setIfInBounds i ph) c b=(offersAt x c b).map λk=>(j,k):=by
 refine partners_one (stand_get a hx) λk y r d=> ?_;obtain⟨_,rfl⟩|⟨g,d⟩:=getElem?_stand gs i k y d;rfl;by_cases l:k=0\/k=n;omega;exact Ox (f k y Z0 Z0 d) _ _
variable {fr frb:Zf}{cs csb:Z8}
theorem Z6c(k:YO P n gs q)(f:gs[0]?=J g)(a:stepG P xk g w=.comm (G fr cs) #[rcase c z] xk (.recv xk) w #[])(hc:w.heap[c]?=J (.chan 0 #[] xw s r tm))(p:∀x,n≠0->gs[n]?=J x->x.status≠.blocked):
  runT P (crowd gs w sl) 0=(.next<|crowd (gs.setIfInBounds 0<|parked (G fr cs) #[rcase c z] (.recv xk)) w sl, #[]):=by
 refine crowd_waits (g:=g) f a λd h=> ?_;obtain rfl:d=rcase c z:=Zgd;exact ways_recv_none hc<|C3 k 0 (.inl rfl) (λj x o l t=>Zgd) xk
theorem IR(l:n≠0)(k:YO P n gs q)(f:gs[n]?=J g)(a:stepG P xw g w=.comm (G frb csb) #[scase c v z] xk .send w #[])(hc:w.heap[c]?=J (.chan 0 #[] xw s r tm))(p:∀x,gs[0]?=J x->x.status≠.blocked):
  runT P (crowd gs w sl) n=(.next<|crowd (gs.setIfInBounds n<|parked (G frb csb) #[scase c v z] .send) w sl, #[]):=by
 refine crowd_waits (g:=g) f (by rw[show(n==0)=xw by simp_all];exact a) λd h=> ?_;obtain rfl:d=scase c v z:=Zgd;exact ways_send_none hc Z1<|C3 k n (.inr rfl) (λj x t o u=>Zgd) xw
theorem Z6d(a:n≠0)(p:YO P n gs q)(o:gs[n]?=J g)(f:stepG P xw g w=.comm (G frb csb) #[scase c v z] xk .send w #[])(hc:w.heap[c]?=J (.chan 0 #[] xw s r tm))
  (h:gs[0]?=J (parked (G fr cs) #[rcase c z'] (.recv xk))):
  ∃u:Array MemOp,(∀op∈u,op.act.touch?=U/\op.act≠.mark .disable/\op.act≠.mark .enable)/\
   runT P (crowd gs w sl) n=(.next<|crowd ((gs.setIfInBounds 0<|G (XB (.recv v) fr) cs).setIfInBounds n<|G (XB (.send v) frb) csb) (WJ w c<|.chan 0 #[] xw (s+1) (r+1) tm) sl,u):=by
 have l:=ML (c:=c) p n 0 (.inr rfl) (.inl rfl) (ZiX a) h xw (λk t=>Z0);rw[offersAt_parked_recv,Zhi rfl]at l;have:=crowd_send_meets (sl:=sl) (i:=n) (j:=0) o (by rw[show(n==0)=xw by simp_all];exact f) hc (ZiX a) h l;refine⟨_,?_,this⟩;intro op d;simp[MemOp.ofEvents]at d;obtain rfl|rfl|rfl|rfl:=d<;>simp[MemAct.touch?]
theorem Z6b(a:n≠0)(p:YO P n gs q)(o:gs[0]?=J g)(f:stepG P xk g w=.comm (G fr cs) #[rcase c z] xk (.recv xk) w #[])(hc:w.heap[c]?=J (.chan 0 #[] xw s r tm))
  (h:gs[n]?=J (parked (G frb csb) #[scase c v z'] .send)):
  ∃u:Array MemOp,(∀op∈u,op.act.touch?=U/\op.act≠.mark .disable/\op.act≠.mark .enable)/\
   runT P (crowd gs w sl) 0=(.next<|crowd ((gs.setIfInBounds n<|G (XB (.send v) frb) csb).setIfInBounds 0<|G (XB (.recv v) fr) cs) (WJ w c<|.chan 0 #[] xw (s+1) (r+1) tm) sl,u):=by
 have l:=ML (c:=c) p 0 n (.inl rfl) (.inr rfl) a h xk (λk t=>Z0);rw[offersAt_parked_send,Zhi rfl]at l;have:=crowd_recv_meets (sl:=sl) (i:=0) (j:=n) o f hc a h l;refine⟨_,?_,this⟩;intro op d;simp[MemOp.ofEvents]at d;obtain rfl|rfl|rfl|rfl:=d<;>simp[MemAct.touch?]
theorem Z6a(f:YO P n gs q)(d:gs[0]?=J g)(a:stepG P xk g w=.comm (G fr cs) #[rcase c z] xk (.recv xk) w #[])(hc:w.heap[c]?=J (.chan 0 #[] xk s r tm))(o:∀x,n≠0->gs[n]?=J x->x.status≠.blocked):
  ∃op:MemOp,op.g=0/\op.act=.recvClosed c/\runT P (crowd gs w sl) 0=(.next<|crowd (gs.setIfInBounds 0<|G (XB (.closed z) fr) cs) w sl, #[op]):=by
 have k:=C3 (c:=c) f 0 (.inl rfl) (λj x l h p=>Zgd) xk;have:=crowd_recv_closed (sl:=sl) (i:=0) d a hc k;exact⟨_,rfl,rfl,this⟩
end
end
section
def ClosedAt(t:Trace)(n c:Nat):Prop:=∃pc op,t[pc]?=J op/\op.g=n/\op.act=.close c/\t.heard pc/\∀(i:Nat) (a:MemOp),t[i]?=J a->a.g=n->i<=pc
def ClosedAt.app{t:Trace}{n c:Nat}(h:ClosedAt t n c)(u:Trace)(x:∀op∈u,op.g≠n):ClosedAt (t++u) n c:=by
 obtain⟨pc,op,k,o,p,q,r⟩:=h;have a:=lt_size_of_getElem? k;refine⟨pc,op,by rw[getElem?_append_old a];exact k,o,p,(heard_old a).2 q,λi d w l=> ?_⟩;obtain⟨_,f⟩|⟨_,j⟩:=getElem?_append_cases w;exact r i d f l;exact absurd l<|x d j
def Hi{t:Trace}{op:MemOp}(h:Deaf t op.g=0):(t++ #[op]).heard t.size:=⟨op.g,by simp[Trace.g?],by rw[deaf_old<|Zhc _];exact h⟩
def ClosedAt.new{t:Trace}{n c:Nat}{op:MemOp}(a:op.g=n)(d:op.act=.close c)(f:Deaf t n=0):ClosedAt (t++ #[op]) n c:=by
 refine⟨t.size,op,Z1,a,d,Hi (by rw[a];exact f),λi j h _=> ?_⟩;have:=lt_size_of_getElem? h;simp at this;omega
section
variable {P:Z5}{n c:Nat}{KA KB OA0:Z4}{w0:Z3}{Final:Zo}
def Ai(O:Z4)(g:Zj)(w:Z3)(h:UN P c O g w):g.status=.running:=h.1
def Bm{OA:Z4}{a:Zj}{R:List Value->Prop}{Ra:World->Prop}(a0:∀w w',Rely KA OA w w'->Ra w->Ra w')
  (a5:awake a/\∀(w:Z3) s r p g1 g2,w.heap[c]?=J (.chan 0 #[] xw s r p)->woken P g1 g2 w a=a)
  (H0:a.status=.running->∀vs D b gs w sl t q s r p,Cfg P n c KA KB OA0 w0 OA D gs w t q->gs.size=n+1->gs[0]?=J a->gs[n]?=J b->Ra w->w.heap[c]?=J (.chan 0 #[] xw s r p)->R vs->
   Play P xw c KB (UN P c) (vs.map .send) D b w->∃H w1 L K,runT P (crowd gs w sl) 0=(.next<|crowd H w1 L,K)/\Win P Final H w1 L (t++K))
  (HC:∀D b b2 gs w sl t q s r p,Cfg P n c KA KB OA0 w0 OA D gs w t q->YO P gs.size gs q->gs.size=n+1->mayWake P b=xk->b2.status≠.blocked->b2.status≠.waiting->gs[0]?=J (woken P b b2 w a)->Ra w->w.heap[c]?=J (.chan 0 #[] xk s r p)->R []->
   ClosedAt t n c->Win P Final gs w sl t)
  (HV:∀v vs D fr cs gs w sl t q s r p,Cfg P n c KA KB OA0 w0 OA D gs w t q->gs.size=n+1->gs[0]?=J a->gs[n]?=J (G fr cs)->Ra w->w.heap[c]?=J (.chan 0 #[] xw s r p)->R (v::vs)->
   VG P c (.send v) fr->(∀w1,Rely KB D w w1->Play P xw c KB (UN P c) (vs.map .send) D (G (XB (.send v) fr) cs) w1)->∃H w1 L K,runT P (crowd gs w sl) n=(.next<|crowd H w1 L,K)/\Win P Final H w1 L (t++K)):
  ∀vs D b wB,Play P xw c KB (UN P c) (vs.map .send) D b wB->∀gs w sl t q s r p,Cfg P n c KA KB OA0 w0 OA D gs w t q->gs.size=n+1->gs[0]?=J a->gs[n]?=J b->Ra w->Rely KB D wB w->
   w.heap[c]?=J (.chan 0 #[] xw s r p)->R vs->Win P Final gs w sl t:=by
 intro vs D b wB hB;generalize he:vs.map Ev.send=es at hB
 have pick:∀ {vs D b gs w sl t q s r p},Cfg P n c KA KB OA0 w0 OA D gs w t q->gs.size=n+1->gs[0]?=J a->gs[n]?=J b->Ra w->w.heap[c]?=J (.chan 0 #[] xw s r p)->R vs->Play P xw c KB (UN P c) (vs.map .send) D b w->
   (∀f d C W,Cfg P n c KA KB OA0 w0 OA D f (w.at d) t W->f.size=n+1->f[0]?=J a->f[n]?=J b->∃H w1 L K,runT P (crowd f (w.at d) C) n=(.next<|crowd H w1 L,K)/\Win P Final H w1 L (t++K))->Win P Final gs w sl t:=by
  intro vs D b gs w sl t q s r p Q N h0 hn A o Z b4 a7;have a6:b.status=.running:=b4.running Ai;refine skip Q.lv (λi g hi hg=> ?_) ⟨n,b,.inr rfl,hn,a6⟩ λf d C W i g u Y b9 hi b0 a2=> ?_;by_cases h:i=0;subst h;rw[h0]at hg;cases hg;exact⟨a5.1,λg1 g2 d=>a5.2 (w.at d) s r p g1 g2 o⟩;have hi:i=n:=hi.resolve_left h;subst hi;rw[hn]at hg;cases hg;exact⟨awake_of<|.inl a6,λg1 g2 d=>woken_run a6⟩;have l:=Q.at d b9;have F:f[0]?=J a:=by rw[Y 0<|.inl rfl];exact h0
  have z:f[n]?=J b:=by rw[Y n<|.inr rfl];exact hn
  have a3:f.size=n+1:=by rw[u,N]
  by_cases h:i=0;subst h;rw[F]at b0;cases b0;exact H0 a2 vs D b f (w.at d) C t W s r p l a3 F z (a0 _ _ (Rely.at _ _ _ d) A) o Z<|b4.gx<|Rely.at _ _ _ d;have hi:i=n:=hi.resolve_left h;subst hi;exact a7 f d C W l a3 F z
 induction hB generalizing vs with
 | @stop O g wB h=>
   intro gs w sl t q s r p Q N h0 hn A B o Z;have c0:vs=[]:=by cases vs with
    |nil=>rfl
    |cons=>cases he
   subst c0;refine pick Q N h0 hn A o Z (.stop λw1 T=>h w1<|B.trans T) λf d C W l u F z=> ?_;obtain⟨a2,c1,g₂,k,S,hq⟩:=h (w.at d)<|B.trans<|Rely.at _ _ _ d;have X:n≠0:=by have:=Q.n0;omega
   have S:=S s r p o;have a9:c<xz (xj w):=(Zhe.1 o).1;have M:=runT_crowd_go (P:=P) (sl:=C) (i:=n) z (by rw[show(n==0)=xw by simpa using X];exact S);refine⟨_,_,_,_,M,?_⟩;have b3:MemOp.ofEvents n g.frame.fn g.frame.place #[⟨.obj c,xw,xk⟩,⟨.obj c,xk,xk⟩]=MemOp.ofEvents n g.frame.fn g.frame.place #[⟨.obj c,xw,xk⟩]++ #[{g:=n,fn:=g.frame.fn,pos:=g.frame.place,act:=.close c}]:=by
    rw[ofEvents_eq,ofEvents_eq];simp[MemAct.ofEvent]
   rw[b3,<-Array.append_assoc];replace l:=l.vh g.frame.fn g.frame.place;have b1:YO P n ((f.map<|woken P g g₂<|WJ (w.at d) c<|.chan 0 #[] xk s r p).setIfInBounds n g₂)<|upd W n k:=λj x T h2 h3=>by
    have:=R1 l.lv n (.inr rfl) g g₂ g₂ (WJ (w.at d) c<|.chan 0 #[] xk s r p) j x T h2 h3;rw[upd_ne W k h2];exact this
   refine HC O g g₂ _ (WJ (w.at d) c<|.chan 0 #[] xk s r p) _ _ (upd W n k) s r p (l.chan _ b1 _<|by simp[MemAct.touch?]) (λj x T h2 h3=> ?_) (by simpa using u) c1 ?_ ?_ ?_ (a0 _ _ ((Rely.at _ _ _ d).trans<|Ku (w.at d) c _ Q.ca Q.lp) A) (AC a9) Z<|ClosedAt.new rfl rfl<|l.ti.du n;by_cases hj:j=n;subst hj;rw[Th (y:=woken P g g₂ (WJ (w.at d) c<|.chan 0 #[] xk s r p) g) (by rw[ZhJ,z];rfl)]at h3;cases h3;rw[upd_same];exact hq;exact b1 j x T hj h3;obtain h|h:=hq.status<;>rw[h]<;>simp;obtain h|h:=hq.status<;>rw[h]<;>simp;rw[Du X,ZhJ,F];rfl
 | @ev e es O fr cs wB a8 hk ih=>
   intro gs w sl t q s r p Q N h0 hn A B o Z;obtain _|⟨v,vs⟩:=vs;cases he;injection he with b7 b8;subst b7;subst b8;exact pick Q N h0 hn A o Z (.ev a8 λw1 T=>hk w1<|B.trans T) λf d C W l u F z=>
    HV v vs O fr cs f (w.at d) C t W s r p l u F z (a0 _ _ (Rely.at _ _ _ d) A) o Z a8 λw1 T=>hk w1<|B.trans<|(Rely.at _ _ _ d).trans T
 | @step es O fr cs wB T h2 ih=>
   intro gs w sl t q s r p Q N h0 hn A B o Z;subst he;refine pick Q N h0 hn A o Z (.step (λw1 h=>T w1<|B.trans h) λw1 g' w' a4 h k=>h2 w1 g' w' a4 (B.trans h) k) λf d C W l u F z=> ?_;obtain⟨b6,b5,w',a4,S,hg⟩:=T (w.at d)<|B.trans<|Rely.at _ _ _ d;have X:n≠0:=by have:=Q.n0;omega
   have M:=runT_crowd_go (P:=P) (sl:=C) (i:=n) z (by rw[show(n==0)=xw by simpa using X];exact S);have a1:w'.heap[c]?=J (.chan 0 #[] xw s r p):=by
    rw[hg.keep c (Zhe.1 o).1 Q.cb];exact o
   refine⟨_,_,_,_,M,?_⟩;refine ih (w.at d) (G b6 b5) w' a4 (B.trans<|Rely.at _ _ _ d) S vs rfl _ w' _ _ W s r p (l.pq hg (R1 l.lv n (.inr rfl) _ _ _ _) _ _) (by simpa using u) ?_ (Th (by rw[ZhJ,z];rfl)) (a0 _ _ ((Rely.at _ _ _ d).trans<|l.uj hg) A) (.refl _ _ _) a1 Z;rw[Du X,ZhJ,F];simp only[ZhA];rw[a5.2 w' s r p _ _ a1]
end
end
section
def KnownAll(t:Trace):Prop:=∀(i:Nat) (op:MemOp) (x:Touch),t[i]?=J op->op.act.touch?=J x->x.loc.isMemory=xk->Knows t 0 i
theorem KnownAll.tf{t u}(h:KnownAll t)(l:∀op∈u,op.g=0):KnownAll<|t++u:=λi op x d k j=>by
 obtain⟨_,a⟩|⟨_,f⟩:=getElem?_append_cases d;exact(h i op x a k j).app u;grind [knows_own]
theorem Z5K{n c OA u KB sz t}(h:TI n OA u KB sz t)(hc:ClosedAt t n c){y:MemOp}(p:y.g=0)(B:y.act=.recvClosed c):KnownAll<|t++ #[y]:=by
 intro i op x q L K;obtain⟨H,d⟩|⟨_,F⟩:=getElem?_append_cases q;obtain k|⟨k,_⟩:=h.j1 i op x d L K;exact k.app _;let⟨pc,l,o,M,w,z,A⟩:=hc;have j:=lt_size_of_getElem? o;have G:=A i op d k;have r:(t++ #[y])[t.size]?=J y:=Z1;have f:(t++ #[y])[pc]?=J l:=by rw[getElem?_append_old j];exact o
 have a:HappensBefore _ pc t.size:=.single<|.inr ⟨.closed (c:=c) (by rw[act?_of f,w]) (by rw[act?_of r,B]),(heard_old j).2 z,Hi (by rw[p];exact h.du 0)⟩;have C:Before (t++ #[y]) i pc:=by
  by_cases D:i=pc;exact .inl D;exact .inr<|hb_po Z0 q f Z0
 exact⟨t.size,y,r,p,.inr<|C.hb a⟩;grind [knows_own]
theorem Cd{g fn pos es}:∀op∈MemOp.ofEvents g fn pos es,op.g=g:=λop a=>by
 rw[ofEvents_eq]at a;grind
section
variable {P:Z5}{n c:Nat}{KA KB OA0:Z4}{w0:Z3}{StopA:(Nat->Prop)->Goroutine->World->Prop}
def UO(P:Z5)(n c:Nat)(KA KB OA0:Z4)(w0:Z3)(StopA:(Nat->Prop)->Goroutine->World->Prop)(gs:Zd)(w:Z3)(t:Trace):Prop:=
 ∃a d f q,gs[0]?=J a/\gs.size=n+1/\StopA d a w/\Cfg P n c KA KB OA0 w0 d f gs w t q/\YO P gs.size gs q/\KnownAll t
structure Ph (P:Program) (n c:Nat) (KA KB OA0:Nat->Prop) (w0:World) (StopA:(Nat->Prop)->Goroutine->World->Prop) (es:List Ev) (OA:Nat->Prop) (a:Goroutine) (wA:World):Prop where
 ug:∀vs z OB b gs w sl t q s r tm,es=vs.map .recv++[.closed z]->Cfg P n c KA KB OA0 w0 OA OB gs w t q->gs.size=n+1->gs[0]?=J a->gs[n]?=J b->Rely KA OA wA w->BSit P c KB vs OB b w->
  w.heap[c]?=J (.chan 0 #[] xw s r tm)->Win P (UO P n c KA KB OA0 w0 StopA) gs w sl t
 xc:∀z OB gs w sl t q s r tm,es=[.closed z]->Cfg P n c KA KB OA0 w0 OA OB gs w t q->YO P gs.size gs q->gs.size=n+1->gs[0]?=J a->Rely KA OA wA w->
  w.heap[c]?=J (.chan 0 #[] xk s r tm)->ClosedAt t n c->Win P (UO P n c KA KB OA0 w0 StopA) gs w sl t
 vt:∀OB gs w sl t q,es=[]->Cfg P n c KA KB OA0 w0 OA OB gs w t q->YO P gs.size gs q->gs.size=n+1->gs[0]?=J a->Rely KA OA wA w->KnownAll t->Win P (UO P n c KA KB OA0 w0 StopA) gs w sl t
theorem DD{Final OA C gs a w sl t q}(L:Cfg P n c KA KB OA0 w0 OA C gs w t q)(O:YO P gs.size gs q)(Q:gs.size=n+1)(F:gs[0]?=J a)(M:a.status=.running)
  (H:∀f d h r,Cfg P n c KA KB OA0 w0 OA C f (w.at d) t r->YO P f.size f r->f.size=n+1->f[0]?=J a->∃k w1 u p,runT P (crowd f (w.at d) h) 0=(.next<|crowd k w1 u,p)/\Win P Final k w1 u (t++p)):Win P Final gs w sl t:=by
 have A:∀(f:Zd) g,f[f.size]? ≠J g:=Z1;refine skip O (λi g y S=> ?_) ⟨0,a,.inl rfl,F,M⟩ λf d h r i g o B z y N D=> ?_;obtain rfl|rfl:=y;simp_all[awake_of,woken_run];simp_all;obtain rfl|rfl:=y;have l:YO P f.size f r:=by rw[o];exact z
 exact H f d h r (L.at d<|λj x G R K=>l j x G Zgc K) l Z0 Zgd;simp_all
theorem Z7U{es OA a wA}(h:Play P xk c KA StopA es OA a wA):Ph P n c KA KB OA0 w0 StopA es OA a wA:=by
 induction h with
 | @stop OA g wA h=>
   refine⟨λvs z _ _ _ _ _ _ _ _ _ _ W=> ?_,λz _ _ _ _ _ _ _ _ _ W=> ?_,λp gs w sl t q _ l hl o H K hk=> ?_⟩;simp_all;cases W;exact Win.ke ⟨g,OA,p,q,H,o,h w K,l,hl,hk⟩
 | @ev e es OA L cs wA b4 hk ih=>
   have SH:∀a2:Zj,a2.frame=L->a2.callers=cs->a2.dying=U->a2.status=.running->∀z,e=.closed z->es=[]->∀p gs w sl t q s r C,Cfg P n c KA KB OA0 w0 OA p gs w t q->YO P gs.size gs q->gs.size=n+1->gs[0]?=J a2->Rely KA OA wA w->
     w.heap[c]?=J (.chan 0 #[] xk s r C)->ClosedAt t n c->Win P (UO P n c KA KB OA0 w0 StopA) gs w sl t:=by
    intro a2 e1 e2 e3 e4 z W d6 p gs w sl t q s r C l hl o H K f Y;subst W;refine DD l hl o H e4 λM d a0 q' S N a5 Q=> ?_;have d9:stepG P xk a2 (w.at d)=.comm (G L cs) #[rcase c z] xk (.recv xk) (w.at d) #[]:=by
     rw[stepG_same (h:=G L cs) e1 e2 e3];exact Ga b4 _
    obtain⟨op,hg,ha,a3⟩:=Z6a (sl:=a0) N Q d9 f Z1;refine⟨_,_,_,_,a3,?_⟩;have d7:YO P (M.setIfInBounds 0<|G (XB (.closed z) L) cs).size (M.setIfInBounds 0<|G (XB (.closed z) L) cs) q':=by
     rw[Zjs];exact S9 N 0 Z0 _
    exact(ih (w.at d)<|K.trans<|Rely.at _ _ _ d).vt p _ _ _ _ q' d6 (S.same (S9 S.lv 0 Z0 _) _<|λx hx=>by simp_all[MemAct.touch?]) d7 Zgd Zgd (.refl _ _ _)
     (Z5K S.ti Y hg ha)
   refine⟨?_,λz p gs w sl t q s r C W l hl o H K f Y=> ?_,Z1⟩
   .intro vs z p b gs w sl t q s r C W l o H X K hB f;have a6:n≠0:=by have:=l.n0;omega
    obtain⟨zz,c1⟩:∃zz,∀w,stepG P xk (G L cs) w=.comm (G L cs) #[rcase c zz] xk (.recv xk) w #[]:=by
     obtain _|⟨v,vs⟩:=vs;injection W with h1 h2;subst h1;exact⟨z,Ga b4⟩;injection W with h1 h2;subst h1;exact Z8Z b4
    have b3:∀v A z,e::es=(v::A).map .recv++[.closed z]->e=.recv v/\es=A.map .recv++[.closed z]:=Z1
    have MB:∀v A p F B zb gs w sl t q s r C,e::es=(v::A).map .recv++[.closed z]->Cfg P n c KA KB OA0 w0 OA p gs w t q->gs.size=n+1->gs[0]?=J (G L cs)->gs[n]?=J (parked (G F B) #[scase c v zb] .send)->Rely KA OA wA w->
      Play P xw c KB (UN P c) (A.map .send) p (G (XB (.send v) F) B) w->w.heap[c]?=J (.chan 0 #[] xw s r C)->Win P (UO P n c KA KB OA0 w0 StopA) gs w sl t:=by
     intro v A p F B zb gs w sl t q s r C W l o H X K D f;refine skip l.lv (λi g hi hg=> ?_) ⟨0,_,.inl rfl,H,rfl⟩ λM d a0 q' i g a5 a4 N hi a8 a3=> ?_;by_cases h:i=0;subst h;rw[H]at hg;cases hg;exact⟨awake_of<|.inl rfl,λg1 g2 d=>woken_run rfl⟩;obtain rfl:=hi.resolve_left h;rw[X]at hg;cases hg;exact⟨awake_of<|.inr<|.inl rfl,λg1 g2 d=>woken_send_open g1 g2 (w:=w.at d) f⟩;have Q:M[0]?=J (G L cs):=Zgd;have a9:M[n]?=J (parked (G F B) #[scase c v zb] .send):=by rw[a4 n Z0];exact X
     by_cases h:i=0;subst h;obtain⟨u,hu,j⟩:=Z6b (sl:=a0) a6 N Q (c1<|w.at d) f a9;refine⟨_,_,_,_,j,?_⟩;obtain⟨b5,b6⟩:=b3 v A z W;subst b5
     refine(ih (w.at d)<|K.trans<|Rely.at _ _ _ d).ug A z p _ _ _ _ _ q' (s+1) (r+1) C b6 ((l.at d N).chan _ (S9 (S9 N n Z0 _) 0 Z0 _) u hu) Zgc (Th (y:=G L cs) Zgc) Zgc
      (Ku _ _ _ l.ca l.lp) (.run<|D.gx<|(Rely.at _ _ _ d).trans<|Ku _ _ _ l.cb l.nd) (AC (Zhe.1 f).1)
     obtain rfl:=hi.resolve_left h;rw[a9]at a8;cases a8;cases a3
    have PK:=Bm (P:=P) (n:=n) (c:=c) (KA:=KA) (KB:=KB) (OA0:=OA0) (w0:=w0) (Final:=UO P n c KA KB OA0 w0 StopA) (OA:=OA) (a:=parked (G L cs) #[rcase c zz] (.recv xk)) (R:=λvs=>e::es=vs.map .recv++[.closed z]) (Ra:=λw=>Rely KA OA wA w)
     (λw Z h k=>k.trans h) ⟨awake_of<|.inr<|.inl rfl,λw s r C g1 g2 hc=>woken_recv_open g1 g2 hc⟩ (λh=>Zgt)
     (λp b b2 gs w sl t q s r C l hl o b9 b7 b8 H K f hR Y=>by
      injection hR with h1 h2;refine SH _ ?_ ?_ ?_ ?_ z h1 h2 p gs w sl t q s r C l hl o H K f Y;all_goals
       have hw:woken P b b2 w (parked (G L cs) #[rcase c zz] (.recv xk))= {parked (G L cs) #[rcase c zz] (.recv xk)with status:=.running}:=by
        unfold woken;rw[Zhi (by simp[b9,b7,b8])];exact again_recv_closed f
       first|(rw[hw];done)|(rw[hw];rfl))
     (λv A p F B gs w sl t q s r C l o H X K f hR a1 D=>by
      obtain⟨zb,T⟩:=Ds (main:=xw) (cs:=B) a1;obtain⟨u,hu,j⟩:=Z6d (sl:=sl) a6 l.lv X (T w) f H;refine⟨_,_,_,_,j,?_⟩;obtain⟨b5,b6⟩:=b3 v A z hR;subst b5
      exact(ih w K).ug A z p _ _ _ _ _ q (s+1) (r+1) C b6 (l.chan _ (S9 (S9 l.lv 0 Z0 _) n Z0 _) u hu) (by simp[o]) Zgc (Th (y:=G F B) Zgc)
       (Ku _ _ _ l.ca l.lp) (.run<|D _<|Ku _ _ _ l.cb l.nd) (AC (Zhe.1 f).1))
    have RN:=Bm (P:=P) (n:=n) (c:=c) (KA:=KA) (KB:=KB) (OA0:=OA0) (w0:=w0) (Final:=UO P n c KA KB OA0 w0 StopA) (OA:=OA) (a:=G L cs) (R:=λvs=>e::es=vs.map .recv++[.closed z]) (Ra:=λw=>Rely KA OA wA w)
     (λw Z h k=>k.trans h) ⟨awake_of<|.inl rfl,λw s r C g1 g2 hc=>woken_run rfl⟩
     (λ_ A p b gs w sl t q s r C l o H X K f hR D=>by
      have e0:=D.running Ai;have j:=Z6c (sl:=sl) l.lv H (c1 w) f (λx _ hx=>Zgc);refine⟨_,_,_,_,j,?_⟩;rw[Zi4];have:=l.same (S9 l.lv 0 Z0<|parked (G L cs) #[rcase c zz] (.recv xk)) #[] Z1;rw[Zi4]at this;exact PK A p b w D _ _ _ _ q s r C this Zgc (Th H) Zgc K (.refl _ _ _) f hR)
     (λp b b2 gs w sl t q s r C l hl o b9 b7 b8 H K f hR Y=>by
      injection hR with h1 h2;rw[woken_run (b:=G L cs) rfl]at H;exact SH _ rfl rfl rfl rfl z h1 h2 p gs w sl t q s r C l hl o H K f Y)
     (λv A p F B gs w sl t q s r C l o H X K f hR a1 D=>by
      obtain⟨zb,T⟩:=Ds (main:=xw) (cs:=B) a1;have j:=IR (sl:=sl) a6 l.lv X (T w) f (λx hx=>by grind [G]);refine⟨_,_,_,_,j,?_⟩;rw[Zi4];have:=l.same (S9 l.lv n Z0<|parked (G F B) #[scase c v zb] .send) #[] Z1;rw[Zi4]at this;exact MB v A p F B zb _ w sl t q s r C hR this Zgc Zgc (Th X) K (D w<|.refl _ _ _) f)
    cases hB with
    |run D=>exact RN vs p b w D gs w sl t q s r C l o H X K (.refl _ _ _) f W
    | @ve v A O F B zb w D=>grind
   injection W with h1 h2;exact SH _ rfl rfl rfl rfl z h1 h2 p gs w sl t q s r C l hl o H K f Y
 | @step es OA L cs wA h1 h2 ih=>
   have own:∀p gs w sl t q,Cfg P n c KA KB OA0 w0 OA p gs w t q->gs[0]?=J (G L cs)->Rely KA OA wA w->∃g' Z a7,Guar KA OA w Z a7/\Ph P n c KA KB OA0 w0 StopA es (Vd OA w Z) g' Z/\
     runT P (crowd gs w sl) 0=(.next<|crowd ((gs.map<|woken P (G L cs) g' Z).setIfInBounds 0 g') Z sl,MemOp.ofEvents 0 (G L cs).frame.fn (G L cs).frame.place a7):=λp gs w sl t q l H K=>by
    grind [runT_crowd_go]
   have SH:∀z p gs w sl t q s r C,es=[.closed z]->Cfg P n c KA KB OA0 w0 OA p gs w t q->YO P gs.size gs q->gs.size=n+1->gs[0]?=J (G L cs)->Rely KA OA wA w->w.heap[c]?=J (.chan 0 #[] xk s r C)->ClosedAt t n c->Win P (UO P n c KA KB OA0 w0 StopA) gs w sl t:=by
    intro z p gs w sl t q s r C W l hl o H K f Y;refine DD l hl o H rfl λM d a0 q' S N a5 Q=> ?_;obtain⟨g',Z,a7,hg,b0,j⟩:=own p M (w.at d) a0 t q' S Q<|K.trans<|Rely.at _ _ _ d;refine⟨_,_,_,_,j,?_⟩;have a6:n≠0:=by have:=l.n0;omega
    refine b0.xc z p _ Z _ _ q' s r C W (S.lr hg (R1 S.lv 0 Z0 _ _ _ _) _ _) ?_ Zgd (Th (by rw[ZhJ,Q];rfl)) (.refl _ _ _) ?_ (Y.app _ λop d8=>by rw[Cd op d8];omega);rw[Zjs,ZkN];exact R1 N 0 Z0 _ _ _ _;rw[hg.keep c (Zhe.1 f).1 l.ca];exact f
   refine⟨?_,SH,λp gs w sl t q W l hl o H K hk=> ?_⟩;intro vs z p b gs w sl t q s r C W l o H X K hB f;have a6:n≠0:=by have:=l.n0;omega
   have move:∀vs p b gs w sl t q s r C,es=vs.map .recv++[.closed z]->Cfg P n c KA KB OA0 w0 OA p gs w t q->gs.size=n+1->gs[0]?=J (G L cs)->gs[n]?=J b->(∀g1 g2 Z,Z.heap[c]?=J (.chan 0 #[] xw s r C)->woken P g1 g2 Z b=b)->Rely KA OA wA w->BSit P c KB vs p b w->
     w.heap[c]?=J (.chan 0 #[] xw s r C)->∃c0 w1 c8 c7,runT P (crowd gs w sl) 0=(.next<|crowd c0 w1 c8,c7)/\Win P (UO P n c KA KB OA0 w0 StopA) c0 w1 c8 (t++c7):=by
    intro vs p b gs w sl t q s r C W l o H X d0 K hB f;obtain⟨g',Z,a7,hg,b0,j⟩:=own p gs w sl t q l H K;refine⟨_,_,_,_,j,?_⟩;have b1:Z.heap[c]?=J (.chan 0 #[] xw s r C):=by
     rw[hg.keep c (Zhe.1 f).1 l.ca];exact f
    refine b0.ug vs z p b _ Z _ _ q s r C W (l.lr hg (R1 l.lv 0 Z0 _ _ _ _) _ _) Zgc (Th (by rw[ZhJ,H];rfl)) ?_ (.refl _ _ _) (hB.gx<|l.uk hg) b1;rw[Du Z0,ZhJ,X];simp only[ZhA];rw[d0 _ _ Z b1]
   have MB:∀v A p F B zb gs w sl t q s r C,es=(v::A).map .recv++[.closed z]->Cfg P n c KA KB OA0 w0 OA p gs w t q->gs.size=n+1->gs[0]?=J (G L cs)->gs[n]?=J (parked (G F B) #[scase c v zb] .send)->Rely KA OA wA w->
     Play P xw c KB (UN P c) (A.map .send) p (G (XB (.send v) F) B) w->w.heap[c]?=J (.chan 0 #[] xw s r C)->Win P (UO P n c KA KB OA0 w0 StopA) gs w sl t:=by
    intro v A p F B zb gs w sl t q s r C W l o H X K D f;refine skip l.lv (λi g hi hg=> ?_) ⟨0,_,.inl rfl,H,rfl⟩ λM d a0 q' i g a5 a4 N hi a8 a3=> ?_;by_cases h:i=0;subst h;rw[H]at hg;cases hg;exact⟨awake_of<|.inl rfl,λg1 g2 d=>woken_run rfl⟩;obtain rfl:=hi.resolve_left h;rw[X]at hg;cases hg;exact⟨awake_of<|.inr<|.inl rfl,λg1 g2 d=>woken_send_open g1 g2 (w:=w.at d) f⟩;have Q:M[0]?=J (G L cs):=Zgd;have a9:M[n]?=J (parked (G F B) #[scase c v zb] .send):=by rw[a4 n Z0];exact X
    by_cases h:i=0;subst h;exact move (v::A) p _ M (w.at d) a0 t q' s r C W (l.at d N) Z0 Q a9 (λg1 g2 Z d5=>woken_send_open g1 g2 d5) (K.trans<|Rely.at _ _ _ d) (.ve<|D.gx<|Rely.at _ _ _ d) f;obtain rfl:=hi.resolve_left h;rw[a9]at a8;cases a8;cases a3
   have RN:=Bm (P:=P) (n:=n) (c:=c) (KA:=KA) (KB:=KB) (OA0:=OA0) (w0:=w0) (Final:=UO P n c KA KB OA0 w0 StopA) (OA:=OA) (a:=G L cs) (R:=λvs=>es=vs.map .recv++[.closed z]) (Ra:=λw=>Rely KA OA wA w)
    (λw Z h k=>k.trans h) ⟨awake_of<|.inl rfl,λw s r C g1 g2 hc=>woken_run rfl⟩
    (λ_ A p b gs w sl t q s r C l o H X K f hR D=>move A p b gs w sl t q s r C hR l o H X (λg1 g2 Z _=>woken_run<|D.running Ai) K (.run D) f)
    (λp b b2 gs w sl t q s r C l hl o b9 b7 b8 H K f hR Y=>by
     rw[woken_run (b:=G L cs) rfl]at H;grind)
    (λv A p F B gs w sl t q s r C l o H X K f hR a1 D=>by
     obtain⟨zb,T⟩:=Ds (main:=xw) (cs:=B) a1;have j:=IR (sl:=sl) a6 l.lv X (T w) f (λx hx=>by grind [G]);refine⟨_,_,_,_,j,?_⟩;rw[Zi4];have:=l.same (S9 l.lv n Z0<|parked (G F B) #[scase c v zb] .send) #[] Z1;rw[Zi4]at this;exact MB v A p F B zb _ w sl t q s r C hR this Zgc Zgc (Th X) K (D w<|.refl _ _ _) f)
   cases hB with
   |run D=>exact RN vs p b w D gs w sl t q s r C l o H X K (.refl _ _ _) f W
   | @ve v A O F B zb w D=>grind
   refine DD l hl o H rfl λM d a0 q' S N a5 Q=> ?_;obtain⟨g',Z,a7,hg,b0,j⟩:=own p M (w.at d) a0 t q' S Q<|K.trans<|Rely.at _ _ _ d;refine⟨_,_,_,_,j,?_⟩;refine b0.vt p _ Z _ _ q' W (S.lr hg (R1 S.lv 0 Z0 _ _ _ _) _ _) ?_ Zgd (Th (by rw[ZhJ,Q];rfl)) (.refl _ _ _)<|hk.tf Cd;rw[Zjs,ZkN];exact R1 N 0 Z0 _ _ _ _
end
end
end Vm
end
section
namespace Vm
open Go Go.Conc
class inductive Calm {α:Type}:Sem α->Prop where
 |pure (a:α):Calm<|.pure a
 |halt (h:Halt):Calm<|.halt h
 |load {m:Mode} {a:Addr} {k:Value->Sem α}:(∀v,Calm<|k v)->Calm (.load m a k)
 |store {m:Mode} {a:Addr} {v:Zg} {k:Sem α}:Calm k->Calm (.store m a v k)
 |new {o:Obj} {k:Nat->Sem α}:(∀r,Calm<|k r)->Calm (.new o k)
 |shape {r:Nat} {k:Option (TypeId×Nat)->Sem α}:(∀x,Calm<|k x)->Calm (.shape r k)
 |freeze {a:Addr} {n:Nat} {k:Sem α}:Calm k->Calm (.freeze a n k)
 |frozen {a:Addr} {k:Bool->Sem α}:(∀x,Calm<|k x)->Calm (.frozen a k)
 |getObj {r:Nat} {k:Obj->Sem α}:(∀o,Calm<|k o)->Calm (.getObj r k)
 |setObj {r:Nat} {o:Obj} {k:Sem α}:Calm k->Calm (.setObj r o k)
 |choose {q:Question} {k:Nat->Sem α}:(∀n,Calm<|k n)->Calm (.choose q k)
 |sys {c:Sys} {k:SysRet->Sem α}:(∀r,Calm<|k r)->Calm (.sys c k)
 |prog {k:Program->Sem α}:(∀p,Calm<|k p)->Calm (.program k)
 |room {k:Sem α}:Calm k->Calm (.mark .noRoom k)
theorem Calm.bind{α β:Type}{s:Sem α}{f:α->Sem β}(h:Calm s)(g:∀a,Calm<|f a):Calm<|s>>=f:=by
 show Calm<|s.bind f;induction h with
 |pure a=>exact g a
 |halt h=>exact .halt h
 |load _ d=>exact .load d
 |store _ d=>exact .store d
 |new _ d=>exact .new d
 |shape _ d=>exact .shape d
 |freeze _ d=>exact .freeze d
 |frozen _ d=>exact .frozen d
 |getObj _ d=>exact .getObj d
 |setObj _ d=>exact .setObj d
 |choose _ d=>exact .choose d
 |sys _ d=>exact .sys d
 |prog _ d=>exact .prog d
 |room _ d=>exact .room d
theorem Calm.map{α β:Type}{s:Sem α}{f:α->β}(h:Calm s):Calm<|f<$>s:=by
 rw[map_eq_pure_bind];exact h.bind λa=>.pure _
theorem G0{α β:Type}{f:α->Sem β}(d:∀a,Calm<|f a):∀l:List α,Calm (l.mapM f)
 | []=>by simp only[Zlq];exact .pure _
 |a::l=>by
  simp only[Zki];exact(d a).bind λb=>(G0 d l).bind λg=>.pure _
theorem Ar{α β:Type}{f:α->β->Sem (ForInStep β)}(d:∀a b,Calm<|f a b):∀(l:List α) (b:β),Calm (forIn l b f)
 | [],b=>by simp only[List.forIn_nil];exact .pure _
 |a::l,b=>by
  rw[List.forIn_cons];refine(d a b).bind λx=> ?_;cases x with
  |done b=>exact .pure _
  |yield b=>exact Ar d l b
theorem Z30{α β:Type}{f:α->β->Sem (ForInStep β)}(d:∀a b,Calm<|f a b)(l:Array α)(b:β):Calm<|forIn l b f:=by
 rw[<-Array.forIn_toList];exact Ar d _ _
theorem Z31{β:Type}{f:Nat->β->Sem (ForInStep β)}(d:∀a b,Calm<|f a b)(r:Std.Legacy.Range)(b:β):Calm<|forIn r b f:=by
 rw[Std.Legacy.Range.forIn_eq_forIn_range'];exact Ar d _ _
theorem FZ{α β:Type}{f:α->Sem β}(d:∀a,Calm<|f a)(l:Array α):Calm<|l.mapM f:=by
 rw[ZiH];exact(G0 d _).map
theorem Aq{α β:Type}{f:β->α->Sem β}(d:∀b a,Calm<|f b a):∀(l:List α) (b:β),Calm (l.foldlM f b)
 | [],b=>.pure _
 |a::l,b=>by
  rw[List.foldlM_cons];exact(d b a).bind λb=>Aq d l b
theorem Z32{α:Type}{c:Prop} [Decidable c]{a b:Sem α}(h:Calm a)(k:Calm b):Calm (if c then a else b):=by
 split;exact h;exact k
theorem ZK{α:Type}{s:Sem α}(h:Calm s:=by repeat' first|infer_instance|(with_reducible refine .bind ?_ λ_=> ?_)|(intro _)|(with_reducible refine FZ (λ_=> ?_) _)|(with_reducible refine Z30 (λ_ _=> ?_) _ _)|(with_reducible refine Z31 (λ_ _=> ?_) _ _)|(with_reducible refine Calm.map ?_)|(with_reducible refine Z32 ?_ ?_)|split|dsimp only):Calm s:=h
instance calm_pure {α:Type} (a:α):Calm (pure a:Sem α):=.pure a
instance calm_load (a:Addr) (m:Mode):Calm<|load a m:=.load λv=>.pure v
instance calm_store (a:Addr) (v:Zg) (m:Mode):Calm<|store a v m:=.store<|.pure ()
instance calm_new (o:Obj):Calm<|newObj o:=.new λr=>.pure r
instance calm_shape (r:Nat):Calm<|shape r:=.shape λr=>.pure r
instance calm_freeze (a:Addr) (n:Nat):Calm<|freeze a n:=.freeze<|.pure ()
instance calm_frozen (a:Addr):Calm<|frozen a:=.frozen λr=>.pure r
instance calm_get (r:Nat):Calm<|getObj r:=.getObj λo=>.pure o
instance calm_set (r:Nat) (o:Obj):Calm<|setObj r o:=.setObj<|.pure ()
instance calm_choose (q:Question):Calm<|choose q:=.choose λn=>.pure n
instance calm_sys (c:Sys):Calm<|sys c:=.sys λr=>.pure r
instance calm_prog:Calm program:=.prog λp=>.pure p
instance calm_room:Calm<|mark .noRoom:=.room<|.pure ()
instance calm_stuck {α:Type} (s:String):Calm (stuck s:Sem α):=.halt _
instance calm_unsup {α:Type} (u:Unsupported):Calm (unsupported u:Sem α):=.halt _
instance calm_panic {α:Type} (v:Zg):Calm (goPanic v:Sem α):=.halt _
instance calm_askRoom (n):Calm<|askRoom n:=by
 unfold askRoom;exact ZK
instance calm_viewAt (r):Calm<|viewAt r:=by
 unfold viewAt;exact ZK
instance calm_numberAt (r):Calm<|numberAt r:=by
 unfold numberAt;exact ZK
instance calm_noView (a):Calm<|noView a:=by
 unfold noView;exact ZK
instance calm_asNumber (a l):Calm<|asNumber a l:=by
 unfold asNumber;exact ZK
instance calm_behind (a):Calm<|behindNumber a:=by
 unfold behindNumber;exact ZK
instance calm_stringish (a):Calm<|stringish a:=by
 unfold stringish;exact ZK
instance calm_mayBeOne (a b):Calm<|mayBeOne a b:=by
 unfold mayBeOne;exact ZK
instance calm_sameAddr (a b):Calm<|sameAddr a b:=by
 unfold sameAddr;exact ZK
instance calm_samePointer (a b):Calm<|samePointer a b:=by
 unfold samePointer;exact ZK
instance calm_typeInfo (t):Calm<|typeInfo t:=by
 unfold typeInfo;exact ZK
instance calm_underlying (t):Calm<|underlying t:=by
 unfold underlying;exact ZK
instance calm_typeStr (t):Calm<|typeStr t:=by
 unfold typeStr;exact ZK
instance calm_zeroValue (t):Calm<|zeroValue t:=by
 unfold zeroValue;exact ZK
instance calm_sizeOf (t):Calm<|Go.sizeOf t:=by
 unfold Go.sizeOf;exact ZK
instance calm_isAgg (t):Calm<|isAgg t:=by
 unfold isAgg;exact ZK
instance calm_loadFrom (a:Addr):∀(n i:Nat) (d:Ze),Calm (loadCellsFrom a i n d)
 |0,_,_=>.pure _
 |n+1,i,d=>(calm_load _ _).bind λv=>calm_loadFrom a n _ _
instance calm_loadCells (a n):Calm<|loadCells a n:=by
 unfold loadCells;exact ZK
instance calm_storeCells (a:Addr):∀(vs:Zp) (i:Nat),Calm (storeCells a vs i)
 | [],_=>.pure _
 |v::vs,i=>(calm_store _ _ _).bind λ_=>calm_storeCells a vs _
instance calm_loadVar (t a):Calm<|loadVar t a:=by
 unfold loadVar;exact ZK
instance calm_storeVar (t a v):Calm<|storeVar t a v:=by
 unfold storeVar;exact ZK
instance calm_newRow (t cs):Calm<|newRow t cs:=by
 unfold newRow;exact ZK
instance calm_newVar (t v):Calm<|newVar t v:=by
 unfold newVar;exact ZK
instance calm_elemOf (t):Calm<|elemOf t:=by
 unfold elemOf;exact ZK
instance calm_part (t cs n):Calm<|part t cs n:=by
 unfold part;exact ZK
instance calm_rtPanic {α:Type} (e):Calm (runtimePanic e:Sem α):=by
 unfold runtimePanic;exact ZK
instance calm_bounds {α:Type} (k:IntKind) (x y:Int) (c:BoundsCode):Calm (boundsPanic k x y c:Sem α):=by
 unfold boundsPanic;dsimp only;split;exact .bind (calm_choose _).map λ_=>calm_rtPanic _;exact .bind (.pure _) λ_=>calm_rtPanic _
instance calm_asIntOf (v):Calm<|asIntOf v:=by
 unfold asIntOf;exact ZK
instance calm_asInt (v):Calm<|asInt v:=by
 unfold asInt;exact ZK
instance calm_asBool (v):Calm<|asBool v:=by
 unfold asBool;exact ZK
instance calm_asAgg (v):Calm<|asAgg v:=by
 unfold asAgg;exact ZK
instance calm_asAddr (v):Calm<|asAddr v:=by
 unfold asAddr;exact ZK
instance calm_sureAddr (v):Calm<|Instr.sureAddr v:=by
 unfold Instr.sureAddr;exact ZK
instance calm_byteOf (a):Calm<|byteOf a:=by
 unfold byteOf;exact ZK
instance calm_partAt (a c b):Calm<|partAt a c b:=by
 unfold partAt;exact ZK
instance calm_fieldPlace (a f):Calm<|fieldPlace a f:=by
 unfold fieldPlace;exact ZK
instance calm_alloc (t b v):Calm<|Instr.alloc t b v:=by
 unfold Instr.alloc;exact ZK
instance calm_box (t v):Calm<|Instr.box t v:=by
 unfold Instr.box;exact ZK
instance calm_loadAt (t v):Calm<|Instr.loadAt t v:=by
 unfold Instr.loadAt;exact ZK
instance calm_storeAt (t v x):Calm<|Instr.storeAt t v x:=by
 unfold Instr.storeAt;exact ZK
instance calm_extract (v i):Calm<|Instr.extract v i:=by
 unfold Instr.extract;exact ZK
instance calm_makeInterface (t v):Calm<|Instr.makeInterface t v:=by
 unfold Instr.makeInterface;exact ZK
instance calm_makeFunc (f a b):Calm<|Instr.makeFunc f a b:=by
 unfold Instr.makeFunc;exact ZK
instance calm_makeMap (t r):Calm<|Instr.makeMap t r:=by
 unfold Instr.makeMap;exact ZK
instance calm_field (t x f):Calm<|Instr.field t x f:=by
 unfold Instr.field;exact ZK
instance calm_index (t x i):Calm<|Instr.index t x i:=by
 unfold Instr.index;exact ZK
instance calm_sliceBound (x y c):Calm<|Instr.sliceBound x y c:=by
 unfold Instr.sliceBound;exact ZK
instance calm_sliceBounds (b n c l h m):Calm<|Instr.sliceBounds b n c l h m:=by
 unfold Instr.sliceBounds;exact ZK
instance calm_fieldAt (t x f):Calm<|Instr.fieldAt t x f:=by
 unfold Instr.fieldAt;exact ZK
instance calm_indexAt (t x i):Calm<|Instr.indexAt t x i:=by
 unfold Instr.indexAt;exact ZK
instance calm_build (t a):Calm<|Instr.build t a:=by
 unfold Instr.build;exact ZK
instance calm_buildSlice (t n a):Calm<|Instr.buildSlice t n a:=by
 unfold Instr.buildSlice;exact ZK
instance calm_slice (t x l h m):Calm<|Instr.slice t x l h m:=by
 unfold Instr.slice;exact ZK
instance calm_sliceAt (t x l h m):Calm<|Instr.sliceAt t x l h m:=by
 unfold Instr.sliceAt;exact ZK
instance calm_makeSlice (t x y):Calm<|Instr.makeSlice t x y:=by
 unfold Instr.makeSlice;exact ZK
instance calm_len (ts t aq_):Calm<|Builtin.len_ ts t aq_:=by
 unfold Builtin.len_;exact ZK
instance calm_holds (a n):Calm<|Builtin.holdsCells a n:=by
 unfold Builtin.holdsCells;exact ZK
instance calm_mayShare (a b n o x):Calm<|Builtin.mayShare a b n o x:=by
 unfold Builtin.mayShare;exact ZK
instance calm_lenOf (x):Calm<|Builtin.lenOf x:=by
 unfold Builtin.lenOf;exact ZK
instance calm_first (a n x):Calm<|Builtin.firstCells a n x:=by
 unfold Builtin.firstCells;exact ZK
instance calm_append (ts t aq_):Calm<|Builtin.append_ ts t aq_:=by
 unfold Builtin.append_;exact ZK
instance calm_intArith (op k x y):Calm<|Op.intArith op k x y:=by
 unfold Op.intArith;exact ZK
instance calm_intDiv (op k x y):Calm<|Op.intDiv op k x y:=by
 unfold Op.intDiv;exact ZK
instance calm_intBits (op k x y):Calm<|Op.intBits op k x y:=by
 unfold Op.intBits;exact ZK
instance calm_intCmp (op x y):Calm<|Op.intCmp op x y:=by
 unfold Op.intCmp;exact ZK
instance calm_shift (op k k' x y):Calm<|Op.shift op k x k' y:=by
 unfold Op.shift;exact ZK
instance calm_fArith (op k x y):Calm<|Op.floatArith op k x y:=by
 unfold Op.floatArith;exact ZK
instance calm_fCmp (op k x y):Calm<|Op.floatCmp op k x y:=by
 unfold Op.floatCmp;exact ZK
instance calm_strOp (op x y):Calm<|Op.stringOp op x y:=by
 unfold Op.stringOp;exact ZK
instance calm_unary (op x):Calm<|Op.unary op x:=by
 unfold Op.unary;exact ZK
instance calm_cArith (op k x y):Calm<|Op.Complex.arith op k x y:=by
 unfold Op.Complex.arith;exact ZK
instance calm_cCmp (op k x y):Calm<|Op.Complex.cmp op k x y:=by
 unfold Op.Complex.cmp;exact ZK
instance calm_f2f (s x d):Calm<|Conv.floatToFloat s x d:=by
 unfold Conv.floatToFloat;exact ZK
instance calm_cConv (s x d):Calm<|Op.Complex.conv s x d:=by
 unfold Op.Complex.conv;exact ZK
instance calm_cadd (x y:Nat):Calm<|Op.Complex.add x y:=calm_cArith ..
instance calm_csub (x y:Nat):Calm<|Op.Complex.sub x y:=calm_cArith ..
instance calm_cmul (x y:Nat):Calm<|Op.Complex.mul x y:=calm_cArith ..
instance calm_cquo (x y:Nat):Calm<|Op.Complex.quo x y:=calm_cArith ..
instance calm_product (a b c d):Calm<|Op.Complex.product a b c d:=by
 unfold Op.Complex.product;exact ZK
instance calm_corrected (s a b c d):Calm<|Op.Complex.corrected s a b c d:=by
 unfold Op.Complex.corrected;exact ZK
instance calm_quotient (a b c d):Calm<|Op.Complex.quotient a b c d:=by
 unfold Op.Complex.quotient;exact ZK
instance calm_complexOp (op k a b c d):Calm<|Op.complexOp op k a b c d:=by
 unfold Op.complexOp;exact ZK
instance calm_unsafeAdd2 (ts:Array TypeId) (t:Zh) (p:Option Addr) (b:Zg):Calm<|Builtin.unsafeAdd_ ts t #[.pointer p,b]:=by
 unfold Builtin.unsafeAdd_;refine .bind (calm_asInt b) λn=> ?_;dsimp only;exact ZK
instance calm_unsafeAdd (ts:Array TypeId) (t:Zh) (aq_:Ze):Calm<|Builtin.unsafeAdd_ ts t aq_:=by
 obtain⟨l⟩:=aq_;obtain _|⟨a,_|⟨b,_|⟨c,r⟩⟩⟩:=l;exact calm_stuck _;exact calm_stuck _;cases a<;>first|exact calm_stuck _|exact calm_unsafeAdd2 ..
 exact calm_stuck _
instance calm_movedN (t x y):Calm<|movedNumber t x y:=by
 unfold movedNumber;exact ZK
instance calm_movedP (t x y):Calm<|movedPointer t x y:=by
 unfold movedPointer;exact ZK
instance calm_twoPlaces (a b):Calm<|Op.twoPlaces a b:=by
 unfold Op.twoPlaces;exact ZK
instance calm_addrSub (k a b):Calm<|Op.addrSub k a b:=by
 unfold Op.addrSub;exact ZK
instance calm_addrCmp (op a b):Calm<|Op.addrCmp op a b:=by
 unfold Op.addrCmp;exact ZK
instance calm_addrMod (k a n):Calm<|Op.addrMod k a n:=by
 unfold Op.addrMod;exact ZK
instance calm_equalIn:∀(n:Nat) (t:Zh) (x y:Zg),Calm (Op.equalIn n t x y)
 |0,_,_,_=>.halt _
 |n+1,t,x,y=>by
  have a:=calm_equalIn n;unfold Op.equalIn;exact ZK
instance calm_guardIn:∀(n:Nat) (t:Zh) (x y:Zg),Calm (Op.eqGuardIn n t x y)
 |0,_,_,_=>.halt _
 |n+1,t,x,y=>by
  have a:=calm_guardIn n;unfold Op.eqGuardIn;exact ZK
instance calm_equal (t x y):Calm<|Op.equal t x y:=by
 unfold Op.equal;exact ZK
instance calm_guard (op t x y a b):Calm<|eqGuard op t x y a b:=by
 unfold eqGuard;exact ZK
instance calm_binOp (op t x y):Calm<|binOp op t x y:=by
 unfold binOp;exact ZK
instance calm_min2 (x y):Calm<|Builtin.min2 x y:=by
 unfold Builtin.min2;exact ZK
instance calm_min (ts:Array TypeId) (t:Zh) (aq_:Ze):Calm<|Builtin.min_ ts t aq_:=by
 unfold Builtin.min_;split;exact .halt _;exact Aq calm_min2 _ _
instance calm_max2 (x y):Calm<|Builtin.max2 x y:=by
 unfold Builtin.max2;exact ZK
instance calm_max (ts:Array TypeId) (t:Zh) (aq_:Ze):Calm<|Builtin.max_ ts t aq_:=by
 unfold Builtin.max_;split;exact .halt _;exact Aq calm_max2 _ _
def EvB(n:Nat)(e:Event):Prop:=EvC (λ_=>False) (λb=>b<n) e
def EvB.mono{n d:Nat}{e:Event}(h:EvB n e)(a:n<=d):EvB d e:=by
 unfold EvB EvC at*;split<;>simp only[*]at h;exact .inl<|Zhj (h.resolve_right λx=>x.2) a;exact Zhj h a;exact h;trivial
def EvB.cell{n:Nat}{a:Addr}(h:a.block<n)(w s:Bool):EvB n ⟨.cell a,w,s⟩:=.inl h
def EvB.obj{n r:Nat}(h:r<n)(w s:Bool):EvB n ⟨.obj r,w,s⟩:=h
def Au{w:Z3}{a:Addr}{v:Zg}(h:w.cell? a=J v):a.block<xz (xj w):=by
 obtain⟨_,c,e,f,d,_⟩:=Kr h;exact(Zhe.1 d).1
def Po{p:Z5}{w:Z3}{at_:Addr}{u:Zh}{k:Addr}{b:Bool}{r:Array Value×TypeId×(Nat×Nat)×Nat×Value×List (Nat×Nat×List UInt8)}(h:w.seen p at_ u k b=.ok r):at_.block<xz (xj w):=by
 obtain a|a:=Zlu at_.block<|xz<|xj w;exact a
 .exfalso;have d:w.heap[at_.block]?=U:=ZjE a;unfold World.seen at h;simp only[d,bind,Except.bind]at h;repeat' split at h
  all_goals cases h
def Z3G{p:Z5}{w:Z3}{a:Addr}{b:Bool}{v:Zg}{l:List Addr}(h:w.farLoad p a b=.ok (v,l)):∀x∈l,x.block<xz (xj w):=by
 unfold World.farLoad at h;split at h
 .split at h
  .rename_i at_ u _ r e;cases h;unfold World.viewLoad at e;simp only[bind,Except.bind]at e;split at e;cases e
   .rename_i r f;have d:=Po f;repeat' split at e
    all_goals first|(cases e;done)|skip
    all_goals
     cases e;intro x g;obtain⟨y,_,rfl⟩:=Zhq.1 g;exact d
  cases h
 cases h
def Z3H{p:Z5}{w w':Z3}{a:Addr}{v:Zg}{b:Bool}{l:List Addr}(h:w.farStore p a v b=.ok (w',l)):∀x∈l,x.block<xz (xj w):=by
 unfold World.farStore at h;split at h
 .split at h
  .rename_i at_ u _ r e;cases h;unfold World.viewStore at e;simp only[bind,Except.bind]at e;split at e;cases e
   .split at e;cases e
    .rename_i r f;have d:=Po f;repeat' split at e
     all_goals first|(cases e;done)|skip
     all_goals
      cases e;intro x g;obtain⟨y,_,rfl⟩:=Zhq.1 g;exact d
  cases h
 cases h
def EvsB(n:Nat)(es:Zc):Prop:=∀e∈es,EvB n e
def EvsB.mono{n a:Nat}{es:Zc}(h:EvsB n es)(f:n<=a):EvsB a es:=λe d=>(h e d).mono f
def EvsB.push{n:Nat}{es:Zc}{e:Event}(h:EvsB n es)(d:EvB n e):EvsB n<|es.push e:=λx a=>by
 obtain a|rfl:=Zlh.1 a;exact h x a;exact d
def EvsB.aj{n:Nat}{es:Zc}(h:EvsB n es){l:List Addr}(g:∀x∈l,x.block<n)(b s:Bool):EvsB n (es++l.toArray.map (⟨.cell ·,b,s⟩)):=λx d=>by
 obtain d|d:=ZiK.1 d;exact h x d;obtain⟨a,f,rfl⟩:=ZjY.1 d;exact .cell (g a Zgs) _ _
theorem Calm.nf{α:Type}{p:Z5}{s:Sem α}(h:Calm s):∀(w:Z3) (f:Zc),EvsB (xz<|xj w) f->EvsB (xz<|xj<|Ye<|s.run p w) (s.runT p w f).2:=by
 induction h with
 |pure a=>intro w f h;exact h
 |halt x=>intro w f h;exact h
 |load _ d=>
  intro w f h;unfold Sem.run Sem.runT;split;rename_i e;exact d _ w _<|h.push<|.cell (Au e) _ _;split;rename_i e;exact d _ w _<|h.aj (Z3G e) _ _;exact h
 | @store m a v k _ d=>
   intro w f h;cases v<;>simp only[Sem.run,Sem.runT]<;>first|exact h|skip
   all_goals
    split;rename_i e;split;exact h;refine d _ _<|EvsB.push ?_<|.cell ?_ _ _;rw[Rn];exact h;rw[Rn];exact Au e;split;rename_i e;have g:=(Gx e).1;refine d _ _<|EvsB.aj ?_ ?_ _ _;rw[g];exact h;rw[g];exact Z3H e;exact h
 |new _ d=>intro w f h;exact d _ {w with heap:=w.heap.push _} f<|h.mono Z1
 |shape _ d=>intro w f h;exact d _ w f h
 |freeze _ d=>intro w f h;exact d (w.freeze _ _) f (by rw[(H2 _ _ _).1];exact h)
 |frozen _ d=>intro w f h;exact d _ w f h
 |getObj _ d=>
  intro w f h;unfold Sem.run Sem.runT;split;exact h;rename_i e;exact d _ w _<|h.push<|.obj (Zhe.1 e).1 _ _;exact h
 | @setObj r o k _ d=>
   intro w f h;unfold Sem.run Sem.runT;split;exact h;rename_i e;have g:xz (xj ({w with heap:=w.heap.setIfInBounds r o}:World))=xz (xj w):=Z1;refine d _ _<|EvsB.push ?_<|.obj ?_ _ _;rw[g];exact h;rw[g];exact(Zhe.1 e).1;exact h
 |choose _ d=>
  intro w f h;unfold Sem.run Sem.runT;split;exact d _ w f h;exact d _ {w with drawn:=w.drawn+1} f h
 | @sys c k _ d=>
   intro w f h;have g:=(PS w c).1;exact d _ (w.sys c).2 _<|EvsB.push (by rw[g];exact h) (show EvB _ _ from True.intro)
 |prog _ d=>intro w f h;exact d _ w f h
 |room _ d=>intro w f h;exact d w _<|h.push (show EvB _ _ from(rfl:Mark.noRoom=Mark.noRoom))
def QU(P:Z5):Op->Bool
 |.move _|.assign _|.pick _ _ _|.alloc _|.box _ _|.build _ _|.buildSlice _ _ _|.load _ _|.store _ _ _|.binOp _ _ _ _ _|.unOp _ _ _|.makeInterface _ _|.makeFunc _ _ _|.makeMap _ _
 |.makeSlice _ _ _|.slice _ _ _ _ _|.fieldAddr _ _ _|.field _ _ _|.indexAddr _ _ _|.index _ _ _|.extract _ _=>xk
 |.convert s d _=>Uc P s&&Uc P d
 | .call c=>match c.callee with
   |.builtin .append|.builtin .len|.builtin .min|.builtin .max=>xk
   | .value (.func f)=>match P.funcs[f]? with
     |some fn=> !(fn.name== "runtime.NumGoroutine")&&fn.body.isSome
     |none=>xw
   |_=>xw
 |_=>xw
def Ts(P:Z5):Code->Bool
 |.region _ a _=>a.all λo=>QU P o.op
 |.seq x y=>Ts P x&&Ts P y
 |.cond _ x y=>Ts P x&&Ts P y
 |.block _ x|.loop x|.scope x=>Ts P x
 |.skip|.label _|.exit _|.ret=>xk
 |_=>xw
end Vm
end
section
namespace Vm
open Go Go.Conc Go.ConcN
section
theorem Wu{s:Sem Value}(h:Calm s):Calm (do pure (.value<|<-s):Sem Next):=h.bind λ_=>.pure _
theorem Z34{s:Sem Unit}(h:Calm s):Calm (do s;pure .skip:Sem Next):=h.bind λ_=>.pure _
theorem Ky{α:Type}{P:Z5}{s:Sem α}(h:Calm s)(w:Z3):EvsB (xz<|xj<|Ye<|s.run P w)<|s.events P w #[]:=h.nf w #[] λe a=>by simp at a
def Z3p{P:Z5}{s d:Zh}(h:(Uc P s&&Uc P d)=xk)(x:Zg)(w:Z3):EvsB (xz<|xj<|Ye<|(do pure (.value<|<-convert s d x):Sem Next).run P w)<|(do pure (.value<|<-convert s d x):Sem Next).events P w #[]:=by
 simp only[Zhb,Uc]at h;obtain⟨a,f⟩:=h;split at a
 .split at f
  .rename_i k e o g;have key:∃c:Sem Next,Calm c/\(do pure (.value<|<-convert s d x):Sem Next).run P w=c.run P w/\(do pure (.value<|<-convert s d x):Sem Next).events P w #[]=c.events P w #[]:=by
    unfold convert underlying;simp only[bind,Sem.bind,program,Sem.run,Sem.events,Sem.runT,k,g,pure];cases x;all_goals
     first
     |exact⟨.halt _,.halt _,rfl,rfl⟩
     |exact⟨.pure _,.pure _,rfl,rfl⟩
     |skip
    .refine⟨(Conv.floatToInt _ _ _).bind λv=>.pure<|.value v,?_,rfl,rfl⟩;refine Calm.bind ?_ λ_=>.pure _;unfold Conv.floatToInt;dsimp only;repeat' first|exact .pure _|exact Calm.choose λ_=>.pure _|split
    rename_i p;cases p<;>exact⟨.halt _,.halt _,rfl,rfl⟩
   obtain⟨c,n,j,l⟩:=key;rw[j,l];exact Ky n w
  cases f
 cases a
def Gu{P:Z5}{o:Oper}(h:QU P o.op=xk)(a:Act)(w:Z3):EvsB (xz<|xj<|Ye<|(execOp a.eval o).run P w)<|(execOp a.eval o).events P w #[]:=by
 cases d:o.op with
 |call c=>
  obtain⟨callee,args,g⟩:=c;rw[d]at h;simp only[QU]at h;split at h
  iterate 4
   refine Ky ?_ w;unfold execOp;simp only[d,resolve,builtin];first|exact Wu (calm_append ..)|exact Wu (calm_len ..)|exact Wu (calm_min ..)|exact Wu<|calm_max ..
  rename_i f;split at h;rename_i fn k;simp only[Zhb,Ziz]at h;rw[events_call_body d k h.1 (by cases l:fn.body<;>simp_all)];exactλe j=>by simp at j
  cases h;cases h
 |_=>
  rw[d]at h;first
  |cases h;done
  |(unfold execOp;simp only[d];exact Z3p h _ w)
  | (refine Ky ?_ w
     unfold execOp;simp only[d];first
     |exact .pure _
     |exact Wu<|calm_alloc ..
     |exact Wu<|calm_box ..
     |exact Wu<|calm_build ..
     |exact Wu<|calm_buildSlice ..
     |exact Wu<|calm_loadAt ..
     |exact Z34<|calm_storeAt ..
     |exact Wu (.bind (calm_guard ..) λ_=>calm_binOp ..)
     |exact Wu<|calm_unary ..
     |exact Wu<|calm_makeInterface ..
     |exact Wu<|calm_makeFunc ..
     |exact Wu<|calm_makeMap ..
     |exact Wu<|calm_makeSlice ..
     |exact Wu<|calm_sliceAt ..
     |exact Wu<|calm_fieldAt ..
     |exact Wu<|calm_field ..
     |exact Wu<|calm_indexAt ..
     |exact Wu<|calm_index ..
     |exact Wu<|calm_extract ..
     |exact .bind (calm_asBool _) λ_=>.pure _)
structure TBt (sz:Nat) (t:Trace):Prop where
 gi:∀said,¬Race said t
 du:∀i,Deaf t i=0
 H:∀op∈t,BK sz op
 iy:KnownAll t
def TBt.main{sz f:Nat}{t:Trace}(h:TBt sz t)(q:sz<=f){fn:Zq}{pos:String}{es:Zc}(k:EvsB f es):TBt f<|t++MemOp.ofEvents 0 fn pos es:=by
 have n:=Cd (g:=0) (fn:=fn) (pos:=pos) (es:=es);refine⟨λsaid=>noRace_append (h.gi said) n λi a o op d b j p=> ?_,AG k h.du,λop d=> ?_,h.iy.tf n⟩;obtain⟨y,u,l⟩:=touch_of o;exact h.iy i y a u l p.2.1;obtain d|d:=ZiK.1 d;exactλx b r j=>Zhj (h.H op d x b r j) q;exact AH k (λb j=>j) (λb j=>j.elim) op d
def jo{P:Z5}:∀(N:Nat) {K:Nat} {m a:Machine} {r:Stepped×Trace} {t d:Trace},runNT P N m t=(.next a,d)->runNT P K a d=r->runNT P (N+K) m t=r
 |0,K,m,a,r,t,d,h,k=>by
  simp only[runNT,Zho,Stepped.next.injEq]at h;obtain⟨rfl,rfl⟩:=h;rw[ZhZ];exact k
 |N+1,K,m,a,r,t,d,h,k=>by
  rw[show N+1+K=(N+K)+1 by omega];simp only[runNT]at h⊢;rcases f:stepT P m with ⟨e,g⟩;rw[f]at h;cases e with
  |next j=>exact jo N h k
  |ended o w=>cases h
theorem Win.bind{P:Z5}{F j:Zo}{gs:Zd}{w:Z3}{sl:Option (Nat×Nat)}{t:Trace}(h:Win P F gs w sl t)(p:∀gs w sl t,F gs w t->Win P j gs w sl t):Win P j gs w sl t:=by
 obtain⟨N,a,w1,f,q,k,l⟩:=h;obtain⟨K,d,w2,g,r,n,o⟩:=p a w1 f q l;exact⟨N+K,d,w2,g,r,jo N k n,o⟩
def Et(P:Z5)(Stop:Za)(gs:Zd)(w:Z3)(t:Trace):Prop:=
 ∃fr cs q,gs[0]?=J (G fr cs)/\Stop fr cs w/\YO P gs.size gs q/\TBt (xz<|xj w) t
def Walk(P:Z5)(Stop:Za)(fr:Zf)(cs:Z8)(w:Z3):Prop:=
 ∀(d:Nat) (gs:Zd) (sl:Option<|Nat×Nat) (t:Trace) (q:Zl),YO P gs.size gs q->gs[0]?=J (G fr cs)->TBt (xz<|xj w) t->Win P (Et P Stop) gs (w.at d) sl t
section
variable {P:Z5}{Stop Stop':Za}{fr:Zf}{cs:Z8}{w:Z3}
def Walk.stop(h:∀d,Stop fr cs<|w.at d):Walk P Stop fr cs w:=λd gs sl t q f a g=>Win.ke ⟨fr,cs,q,a,h d,f,g⟩
theorem Walk.at(h:Walk P Stop fr cs w)(d:Nat):Walk P Stop fr cs<|w.at d:=h
theorem Walk.one(h:∀d,∃f a w' es,stepG P xk (G fr cs) (w.at d)=.go (G f a) w' es/\xz (xj w)<=xz (xj w')/\EvsB (xz<|xj w') es/\Walk P Stop f a w'):Walk P Stop fr cs w:=by
 intro Q gs sl t q M x N;have k:∀(j:Zd) g,j[j.size]? ≠J g:=λj g e=>by
  have:=(Zhe.1 e).1;omega
 refine skip M (λi g A z=> ?_) ⟨0,_,.inl rfl,x,rfl⟩ λj d u O i g o l B A n D=> ?_;obtain rfl|rfl:=A;rw[x]at z;cases z;exact⟨awake_of<|.inl rfl,λg1 g2 d=>woken_run rfl⟩;exact absurd z<|k gs g;obtain rfl|rfl:=A;rw[l 0<|.inl rfl,x]at n;cases n;obtain⟨f,a,w',es,F,H,K,L⟩:=h d;have r:j[0]?=J (G fr cs):=by rw[l 0<|.inl rfl];exact x
 have p:=runT_crowd_go (P:=P) (sl:=u) (i:=0) r (w':=w') (g':=G f a) (es:=es) F;refine⟨_,_,_,_,p,?_⟩;have C:((j.map<|woken P (G fr cs) (G f a) w').setIfInBounds 0<|G f a).size=gs.size:=by simp[o]
 exact L w'.drawn _ u _ O (by rw[C];exact R1 B 0 (.inl rfl) _ _ _ _) (Th (y:=woken P (G fr cs) (G f a) w'<|G fr cs) (by rw[ZhJ,r];rfl))<|N.main H K;rw[<-o]at n;exact absurd n<|k j g
def Walk.go{fr':Zf}{a:Z8}(h:∀w,stepG P xk (G fr cs) w=.go (G fr' a) w #[])(k:Walk P Stop fr' a w):Walk P Stop fr cs w:=
 .one λd=>⟨fr',a,w.at d, #[],h _,Zhc _,λe f=>by simp at f,k⟩
end
end
end Vm
end
