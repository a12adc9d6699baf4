import Derived.Conc.CrowdComm
import Derived.Conc.Beside
import Derived.Conc.CompanyDraw
set_option linter.unusedSimpArgs false
set_option linter.unusedVariables false
set_option linter.defProp false
open Option renaming some→xk,none→xw
open Bool renaming true→xy,false→xh
open List renaming length→P
open Array renaming size→U
open Go.World renaming heap→R
open List renaming length→xq
open Array renaming size→xz
open Go.World renaming heap→xj
theorem Zdk{p:Prop}(h:p:=by simp[World.setCell]):p:=h
theorem ZcJ{p:Prop}(h:p:=by grind):p:=h
theorem Z0{p:Prop}(h:p:=by omega):p:=h
theorem Z1{p:Prop}(h:p:=by simp):p:=h
theorem ZcK{p:Prop}(h:p:=by simp_all):p:=h
theorem ZcL{p:Prop}(h:p:=by simp;omega):p:=h
theorem ZdC{p:Prop}(h:p:=by simp[Zt]):p:=h
theorem ZcZ{p:Prop}(h:p:=by cases h):p:=h
theorem Zd1{p:Prop}(h:p:=by simp[Cx.Rv,Zt]):p:=h
theorem Zdq{p:Prop}(h:p:=by simp[Cx.Rv]):p:=h
theorem ZcT{p:Prop}(h:p:=by unfold YH at g;rw[t,j]at g;exact g):p:=h
theorem ZcV{p:Prop}(h:p:=by rcases List.mem_cons.1 r with rfl|r;exact A;rcases List.mem_cons.1 r with rfl|r;exact A;exact C i r):p:=h
theorem ZcW{p:Prop}(h:p:=by simpa using d):p:=h
theorem ZcY{p:Prop}(h:p:=by simpa using f):p:=h
def ZdL:=@Nat.le_refl
def Ze3:=@List.mem_cons
def ZdM:=@Array.getElem?_eq_some_iff
def Zg1:=@Array.getElem?_push
def Zf9:=@Array.getElem?_setIfInBounds
def Zer:=@if_true
def Ze4:=@Option.map_some
def ZgC:=@Option.isSome_none
def ZdZ:=@Bool.false_eq_true
def Zeu:=@if_false
def ZfK:=@Ne.symm
def Zed:=@Array.getElem?_eq_getElem
def Zh3:=@Array.size_push
def ZhV:=@Array.mem_push
def Zfr:=@Nat.add_zero
def ZgS:=@Nat.add_comm
def ZgY:=@Go.Sem.run_bind'
def ZfT:=@Go.Sem.runT_bind'
def ZfP:=@Go.Sem.runT_fst
def Zei:=@List.mem_cons_of_mem
def Zee:=@List.map_cons
def ZdJ:=@Bool.and_eq_true
def ZfO:=@Array.all_eq_true'
def Zeg:=@Array.getElem?_map
def ZhU:=@Option.map_none
def ZgZ:=@List.mapM_nil
def Zg5:=@List.mapM_cons
def Zhz:=@List.zipIdx_cons
def Zgv:=@List.foldl_cons
def Zhi:=@Array.size_map
def Zg8:=@Array.foldl_toList
def Zf1:=@Array.toList_map
def Zff:=@Array.mapM_eq_mapM_toList
def Zgs:=@Array.mem_map
def Zi6:=@getElem!_pos
def Zfx:=@Option.some.inj
def Zi5:=@getElem!_neg
def Zel:=@Go.Sem.run_bind
def Zi3:=@Go.run_shape
def Zem:=@Go.Result.andThen_ok
def ZfU:=@Go.run_program
def ZgK:=@Bool.and_false
def ZfC:=@Go.Sem.run_pure
def ZeL:=@List.mem_cons_self
def Zec:=@Option.getD_some
def ZeX:=@congrArg
def Zgm:=@of_decide_eq_true
def Zhh:=@of_decide_eq_false
def ZfL:=@Array.map_append
def Zgt:=@Bool.not_true
def ZdY:=@Bool.or_eq_true
def ZeW:=@List.size_toArray
def Zeq:=@beq_iff_eq
def ZdK:=@Array.getD_eq_getD_getElem?
def ZhA:=@Option.getD_none
def ZdQ:=@Option.bind_some
def ZeO:=@List.mem_singleton
def ZeT:=@List.cons_append
def Zg9:=@Prod.ext
def Zez:=@Array.append_empty
def ZgN:=@or_false
def Zfi:=@Array.mem_append
def ZdU:=@Prod.mk.injEq
def Zgb:=@Array.mem_of_getElem?
def Ze8:=@List.mem_append
def Zeh:=@Nat.le_trans
def ZdS:=@Nat.lt_of_lt_of_le
def Zhs:=@Nat.not_lt
def ZeQ:=@Nat.zero_le
def Zg6:=@Array.getElem?_eq_none
def ZhH:=@Go.step_lone_ended
def Zhw:=@Go.Machine.mk.injEq
def ZhW:=@Array.mk.injEq
def ZhL:=@List.cons.injEq
def Zhe:=@Go.step_lone_go
def Zg0:=@List.range_succ
def Zhx:=@List.isEmpty_nil
def ZgL:=@Bool.false_and
def ZfS:=@Classical.byContradiction
def Zhu:=@Classical.axiomOfChoice
def Zi4:=@Nat.succ_pos
def Zfv:=@List.map_congr_left
def ZhG:=@Array.mem_iff_getElem
def ZeE:=@Array.getElem?_setIfInBounds_ne
def Zga:=@Array.getElem?_setIfInBounds_self_of_lt
def ZdI:=@Option.map_eq_some_iff
def ZfY:=@Array.size_setIfInBounds
def ZhB:=@map_eq_pure_bind
def ZhS:=@Nat.lt_or_ge
def ZdX:=@List.mem_map
def ZeH:=@Bool.not_eq_true'
def Zet:=@Nat.zero_add
section
namespace Vm
open Go
section
def Y9{α}:Result α->World
 |.ok _ w=>w
 |.halt _ w=>w
abbrev Z4:=World
theorem OK{α}(x:Ask α):∀w:Z4,(w.ask x).2.heap=w.heap/\w.drawn<=(w.ask x).2.drawn:=by
 induction x with
 |done a=>intro w;exact⟨rfl,ZdL _⟩
 |ask d range k f=>
  unfold World.ask;grind
theorem N6(w:Z4)c:(w.sys c).2.heap=w.heap/\w.drawn<=(w.sys c).2.drawn:=by
 unfold World.sys;have h:=OK (Kernel.perform c w.os) w;grind
theorem Eu{p}{w w':Z4}{a v b l}(h:w.farStore p a v b=.ok (w',l)):U (R w')=U (R w)/\w'.drawn=w.drawn:=by
 unfold World.farStore at h;split at h
 .split at h
  .rename_i r e;cases h;unfold World.viewStore at e;simp[bind,Except.bind]at e;repeat' split at e
   all_goals first|(cases e;done)|skip
   all_goals (cases e;simp)
  cases h
 cases h
theorem Sa(w:Z4)a v:U (R (w.setCell a v))=U (R w):=Zdk
theorem EX(w:Z4)a n:U (R (w.freeze a n))=U (R w)/\(w.freeze a n).drawn=w.drawn:=by grind [World.freeze]
theorem J6{α}p(s:Sem α):∀w,U (R w)<=U (R (Y9 (s.run p w)))/\w.drawn<=(Y9 (s.run p w)).drawn:=by
 induction s with
 |pure a=>intro w;exact⟨ZdL _,ZdL _⟩
 |load m a k d=>
  intro w;unfold Sem.run;split;grind;split;grind;exact⟨ZdL _,ZdL _⟩
 |store m a v k d=>
  intro w;cases v<;>simp[Sem.run]<;>first|exact⟨ZdL _,ZdL _⟩|skip
  all_goals
   split;split;exact⟨ZdL _,ZdL _⟩;generalize j:w.setCell a _=w2;have t:U (R w2)=U (R w):=by rw[<-j,Sa]
   have l:w2.drawn=w.drawn:=by rw[<-j];rfl
   rw[<-t,<-l];exact d w2;split;rename_i e;have f:=Eu e;have g:=d (by assumption);rw[f.1,f.2]at g;exact g;exact⟨ZdL _,ZdL _⟩
 |new o k d=>
  grind [Sem.run,Array.size_push]
 |shape r k d=>intro w;unfold Sem.run;grind
 |freeze a n k d=>grind [Sem.run,EX]
 |frozen a k d=>intro w;unfold Sem.run;grind
 |getObj r k d=>intro w;unfold Sem.run;split<;>first|exact⟨ZdL _,ZdL _⟩|grind
 |setObj r o k d=>
  intro w;unfold Sem.run;split;exact⟨ZdL _,ZdL _⟩;grind;exact⟨ZdL _,ZdL _⟩
 |choose q k d=>
  intro w;unfold Sem.run;split;grind;have:=d (q.cut (w.tape w.drawn q)) {w with drawn:=w.drawn+1};exact⟨this.1,ZcJ⟩
 |sys c k d=>
  grind [Sem.run,N6,Nat.le_trans]
 |program k d=>intro w;unfold Sem.run;grind
 |mark m k d=>simp_all[Sem.run]
 |halt h=>intro w;exact⟨ZdL _,ZdL _⟩
section
abbrev Zk:=Nat->Nat
variable (ρ:Zk)
def ZR(a:Addr):Addr:= {a with block:=ρ a.block}
def V2:Fn->Fn
 |.yield l=>.yield (ρ l)
 |f=>f
def Zt:Value->Value
 |.pointer (xk a)=>.pointer (xk (ZR ρ a))
 |.slice (xk a) n c=>.slice (xk (ZR ρ a)) n c
 |.map (xk r)=>.map (xk (ρ r))
 |.chan (xk r)=>.chan (xk (ρ r))
 |.func fn a b=>.func (V2 ρ fn) (a.map Zt) (b.map Zt)
 |.iface t v=>.iface t (Zt v)
 |.agg d=>.agg (d.map Zt)
 |.tuple vs=>.tuple (vs.map Zt)
 |v=>v
def J2:Target->Target
 |.fn f c=>.fn (V2 ρ f) (c.map (Zt ρ))
 |.collected r=>.collected (ρ r)
 |t=>t
def Xb(d:Deferred):Deferred:=⟨J2 ρ d.target,d.args.map (Zt ρ)⟩
def VF(e:MapEntry):MapEntry:= {e with key:=Zt ρ e.key,val:=Zt ρ e.val}
def KM(l:Loop):Loop:= {l with tmps:=l.tmps.map (Zt ρ),defers:=ρ l.defers}
def XO:Obj->Obj
 |.cells c e f=>.cells (c.map (Zt ρ)) e f
 |.map g k=>.map (g.map (VF ρ)) k
 |.loop l=>.loop (KM ρ l)
 |.deferred d=>.deferred (d.map λl=>l.map (Xb ρ))
 |.number a YS=>.number (ZR ρ a) YS
 |o=>o
end
structure Cx where
 Q:Program
 fs:Array Func
 gs:Array Global
 ρ:Nat->Nat
 n0:Nat
 G:Nat->Prop
 O:Nat->Prop
 KL:Loop->Prop
 KD:Deferred->Prop
def Cx.P(X:Cx):Program:= {X.Q with funcs:=X.fs,globals:=X.gs}
theorem FR T g:∀n t,Made.infoAt {T with globals:=g} n t=Made.infoAt T n t
 |0,t=>rfl
 |n+1,t=>by
  have:=funext (FR T g n);simp_all[Made.infoAt]
theorem Cx.P_info(X:Cx)t:X.P.info? t=X.Q.info? t:=by
 show(if t<X.Q.types.size then X.Q.types[t]? else Made.infoAt {X.Q.toTables with globals:=X.gs} Made.depth t)=_;rw[FR];rfl
theorem Cx.P_under(X:Cx)t:X.P.underlying t=X.Q.underlying t:=by
 simp_all[Program.underlying,Cx.P_info]
section
variable (X:Cx)
def hid:Obj:=.view ⟨0,0,xk 0⟩ 0
def Cx.okO:Obj->Prop
 |.cells .. |.map .. |.number .. =>True
 |.loop l=>X.KL l
 |.deferred (xk a)=>∀d∈a,X.KD d
 |.deferred xw=>True
 |_=>False
def Cx.Own(X:Cx)(b:Nat):Prop:=X.n0<=b\/X.O b
def Cx.OR(b:Nat)(o:Obj)(f:Option Obj):Prop:=
 o=hid\/(¬X.Own b/\∃c e a d,o=.cells c e a/\(∀i,i<c.size->a.1<=i/\i<a.2)/\X.G b/\f=xk (.cells (c.map (Zt X.ρ)) e d))\/
 X.Own b/\X.okO o/\f=xk (XO X.ρ o)/\(∀c e a,o=.cells c e a->a=(0,0))
structure Cx.WR (wl wc:World):Prop where
 os:wc.os=wl.os
 nl:X.n0<=U (R wl)
 low:∀b,b<X.n0->X.ρ b=b
 inj:∀b b',wl.heap[b]? ≠xk hid->wl.heap[b']? ≠xk hid->b<U (R wl)->b'<U (R wl)->X.ρ b=X.ρ b'->b=b'
 blk:∀b o,wl.heap[b]?=xk o->X.OR b o wc.heap[X.ρ b]?
def Cx.EvOk(d:Z4)(e:Event):Prop:=
 match e.loc with
 |.cell a=>∃b,b<U (R d)/\a.block=X.ρ b/\(¬X.Own b->e.write=xh/\X.G b)
 |.obj r=>∃b,X.Own b/\b<U (R d)/\r=X.ρ b
 |.mark m=>m=.noRoom
 |.output=>True
 |_=>False
def Vis(w w':Z4):Prop:=∀(r:Nat) (o:Obj),w.heap[r]?=xk o->o≠hid->∃a,w'.heap[r]?=xk a/\a≠hid
theorem Vis.refl w:Vis w w:=λ_ o a d=>⟨o,a,d⟩
theorem Vis.trans{a b c}(h:Vis a b)(k:Vis b c):Vis a c:=λr o d f=>by
 let⟨l,g,j⟩:=h r o d f;exact k r l g j
structure Cx.Aft (wl wc wl' wc':World) (es es':Array Event):Prop where
 wr:X.WR wl' wc'
 sz:U (R wl')+U (R wc)=U (R wc')+U (R wl)
 szl:U (R wl)<=U (R wl')
 dr:wl'.drawn+wc.drawn=wc'.drawn+wl.drawn
 drl:wl.drawn<=wl'.drawn
 tl:wl'.tape=wl.tape
 tc:wc'.tape=wc.tape
 oc:(wc'.os,wc'.output)=(wc.os,wc.output)
 new:∀b,U (R wl)<=b->b<U (R wl')->U (R wc)<=X.ρ b/\X.ρ b<U (R wc')
 keep:∀c,c<U (R wc)->(∀b,X.Own b->b<U (R wl)->c≠X.ρ b)->wc'.heap[c]?=wc.heap[c]?
 evs:∀e∈es',e∈es\/X.EvOk wl' e
 vis:Vis wl wl'
theorem Cx.EvOk.mono{X:Cx}{d a e}(h:X.EvOk d e)(f:U (R d)<=U (R a)):X.EvOk a e:=by
 grind [Cx.EvOk]
theorem Cx.Aft.refl{X:Cx}{a wc}es(h:X.WR a wc):X.Aft a wc a wc es es:=
 ⟨h,Z0,Z0,Z0,Z0,rfl,rfl,rfl,Z0,Z1,ZcK,.refl _⟩
theorem Cx.WR.lt{X:Cx}{d wc}(h:X.WR d wc){b o}(g:d.heap[b]?=xk o)(k:o≠hid):X.ρ b<U (R wc):=by
 have:=h.blk b _ g;obtain a|⟨_,c,e,j,f,_,_,_,a⟩|⟨_,_,a,_⟩:=this;simp_all;grind;grind
theorem Cx.Aft.trans{X:Cx}{a b f j g l es d es2}(h:X.Aft a b f j es d)(k:X.Aft f j g l d es2):X.Aft a b g l es es2:=by
 let⟨_,H,I,J,K,p,q,w,N,L,r,y⟩:=h;let⟨G,k1,z,O,P,A,B,D,R,Q,C,F⟩:=k;refine⟨G,Z0,Z0,Z0,Z0,A.trans p,B.trans q,D.trans w,λx n o=> ?_,λc M u=> ?_,λe t=> ?_,y.trans F⟩;grind;grind;obtain h|h:=C e t;obtain h|h:=r e h;grind;exact .inr (h.mono z);simp_all
def bad:Halt->Prop
 |.stuck _=>True
 |.unsupported (.initOrder _)=>False
 |.unsupported _=>True
 |_=>False
theorem Rs{α:Type}(xs:Array α)i j f:(xs.modify i f)[j]?=if i=j then(xs[j]?).map f else xs[j]? :=by
 grind
abbrev Zb:=Array Event
def Cx.Told{α β}(X:Cx)(RA:α->β->Prop)(j wc:Z4)(es:Zb):Result α->Result β×Array Event->Prop
 |.ok a g,r=>∃b f d,r=(.ok b f,d)/\RA a b/\X.Aft j wc g f es d
 |.halt (.panic v) g,r=>∃f d,r=(.halt (.panic (Zt X.ρ v)) f,d)/\X.Aft j wc g f es d
 |.halt h _,_=>bad h
abbrev Zd:=List Nat
def Seen(V:Zd)(w:Z4):Prop:=∀r∈V,∃o,w.heap[r]?=xk o/\o≠hid
def Cx.Runs{α β}(X:Cx)(RA:α->β->Prop)(V:Zd)(s:Sem α)(f:Sem β):Prop:=∀(d a:Z4) (g:Zb),X.WR d a->Seen V d->
 (∀j,a.drawn+j< (Y9 (f.run X.P a)).drawn->d.tape (d.drawn+j)=a.tape (a.drawn+j))->
 (∀j,U (R a)+j< U (R (Y9 (f.run X.P a)))->X.ρ (U (R d)+j)=U (R a)+j)->
 X.Told RA d a g (s.run X.Q d) (f.runT X.P a g)
abbrev Ze:=Value
inductive Cx.Img {α β:Type} (X:Cx) (RA:α->β->Prop):List Nat->Sem α->Sem β->Prop where
 |pure {V:Zd} {a:α} {b:β}:RA a b->X.Img RA V (.pure a) (.pure b)
 |load {V:Zd} {m:Mode} {a:Addr} {k:Value->Sem α} {k':Value->Sem β}:(∀v,X.Img RA V (k v) (k' (Zt X.ρ v)))->X.Img RA V (.load m a k) (.load m (ZR X.ρ a) k')
 |store {V:Zd} {m:Mode} {a:Addr} {v:Ze} {k:Sem α} {k':Sem β}:X.Img RA V k k'->X.Img RA V (.store m a v k) (.store m (ZR X.ρ a) (Zt X.ρ v) k')
 |new {V:Zd} {o:Obj} {k:Nat->Sem α} {k':Nat->Sem β}:X.okO o->(∀c e fr,o=.cells c e fr->fr=(0,0))->(∀r,X.Img RA (r::V) (k r) (k' (X.ρ r)))->X.Img RA V (.new o k) (.new (XO X.ρ o) k')
 |get {V:Zd} {r:Nat} {k:Obj->Sem α} {k':Obj->Sem β}:(∀w,∃h w',(k hid).run X.Q w=.halt h w'/\bad h)->(∀o,X.okO o->X.Img RA (r::V) (k o) (k' (XO X.ρ o)))->X.Img RA V (.getObj r k) (.getObj (X.ρ r) k')
 |set {V:Zd} {r:Nat} {o:Obj} {k:Sem α} {k':Sem β}:r∈V->X.okO o->(∀c e fr,o≠.cells c e fr)->X.Img RA V k k'->X.Img RA V (.setObj r o k) (.setObj (X.ρ r) (XO X.ρ o) k')
 |choose {V:Zd} {q:Question} {k:Nat->Sem α} {k':Nat->Sem β}:(∀n,X.Img RA V (k n) (k' n))->X.Img RA V (.choose q k) (.choose q k')
 |prog {V:Zd} {k:Program->Sem α} {k':Program->Sem β}:X.Img RA V (k X.Q) (k' X.P)->X.Img RA V (.program k) (.program k')
 |room {V:Zd} {k:Sem α} {k':Sem β}:X.Img RA V k k'->X.Img RA V (.mark .noRoom k) (.mark .noRoom k')
 |panic {V:Zd} (v:Ze):X.Img RA V (.halt (.panic v)) (.halt (.panic (Zt X.ρ v)))
 |bad {V:Zd} {s:Sem α} (s':Sem β):(∀w,∃h w',s.run X.Q w=.halt h w'/\bad h)->X.Img RA V s s'
 |sem {V:Zd} {s:Sem α} {s':Sem β}:X.Runs RA V s s'->X.Img RA V s s'
theorem Seen.cons{V w r o}(h:Seen V w)(f:w.heap[r]?=xk o)(d:o≠hid):Seen (r::V) w:=λx a=>by
 obtain rfl|a:=Ze3.1 a;simp_all;exact h x a
theorem Seen.step{V w w'}(h:Seen V w)(f:Vis w w'):Seen V w':=λx g=>by
 let⟨o,a,d⟩:=h x g;exact f x o a d
theorem Vis.setCell w a v:Vis w (w.setCell a v):=λr o d f=>by
 simp[World.setCell,Rs];split;rw[d];grind [hid];simp_all
theorem Vis.push w d:Vis w {w with heap:=w.heap.push d}:=λr o a f=>by
 have:=(ZdM.1 a).1;simp[Zg1];rw[if_neg Z0];simp_all
theorem Vis.set w r{d}(a:d≠hid):Vis w {w with heap:=w.heap.setIfInBounds r d}:=λx o f g=>by
 have:=(ZdM.1 f).1;simp[Zf9];split;rename_i e;subst e;rw[if_pos this];exact⟨d,rfl,a⟩;simp_all
theorem Cx.okO.vis{X:Cx}{o}(h:X.okO o):o≠hid:=λe=>by subst e;exact h.elim
theorem Cx.Told.of_bad{α β}{X:Cx}{RA:α->β->Prop}{d wc es h w r}(a:bad h):X.Told RA d wc es (.halt h w) r:=by
 cases h<;>first|exact a|exact a.elim
theorem Cx.Told.step{α β}{X:Cx}{RA o wc w1 l es g}{r:Result α}{n:Result β×Array Event}(h:X.Aft o wc w1 l es g)(k:X.Told RA w1 l g r n):X.Told RA o wc es r n:=by
 cases r with
 |ok a w=>
  let⟨b,f,d,e,p,j⟩:=k;exact⟨b,f,d,e,p,h.trans j⟩
 |halt x w=>
  cases x<;>try exact k
  let⟨f,d,e,j⟩:=k;exact⟨f,d,e,h.trans j⟩
theorem JB{w:Z4}{a v}(h:w.cell? a=xk v):a.spot=xw/\∃c e d,w.heap[a.block]?=xk (.cells c e d)/\c[a.off]?=xk v:=by
 unfold World.cell? at h;split at h;simp_all;cases h
theorem Cx.WR.cell{X:Cx}{j wc}(h:X.WR j wc){a v}(n:j.cell? a=xk v):wc.cell? (ZR X.ρ a)=xk (Zt X.ρ v)/\(¬X.Own a.block->X.G a.block)/\a.block<U (R j):=by
 let⟨x,c,e,r,l,w⟩:=JB n;have g:=(ZdM.1 l).1;have key:∀d,wc.heap[X.ρ a.block]?=xk (.cells (c.map (Zt X.ρ)) e d)->wc.cell? (ZR X.ρ a)=xk (Zt X.ρ v):=λd f=>by
  simp_all[World.cell?,ZR]
 rcases(h.blk _ _ l)with k|⟨_,o,p,q,d,k,_,u,f⟩|⟨t,_,f,_⟩;cases k;simp_all;exact⟨key _ f,ZcK,g⟩
theorem Cx.WR.kind{X:Cx}{d wc}(h:X.WR d wc){b:Nat}{o}(g:d.heap[b]?=xk o):o=hid\/X.okO o:=by
 obtain a|⟨_,j,k,l,f,a,_⟩|n:=h.blk _ _ g;grind;subst a;exact .inr trivial;simp_all
theorem Cx.WR.no_cell{X:Cx}{f wc}(h:X.WR f wc)a d(j:∀at_ u,f.heap[a.block]? ≠xk (.view at_ u)):f.noCell a d=.stuck d:=by
 unfold World.noCell;split;rename_i g;obtain h|h:=h.kind g;cases h;exact h.elim;simp_all;rfl
abbrev Z5:=Program
def CD(p:Z5)(w:Z4)(a:Addr)(v:Ze)(b:Bool):Except String (World×List Addr):=w.viewStore p ⟨0,0,xk 0⟩ 0 a v b
theorem MD p(w:Z4)u k b:w.seen p ⟨0,0,xk 0⟩ u k b=.error "memory seen as another type: a place without cells" :=by
 unfold World.seen;simp[Zer];rfl
theorem Cx.WR.no_load{X:Cx}{d wc}(h:X.WR d wc)p a b:∃x,d.farLoad p a b=.error x/\bad x:=by
 unfold World.farLoad;split;rename_i at_ u f;obtain h|h:=h.kind f;cases h;have e:d.viewLoad p ⟨0,0,xk 0⟩ 0 a b=.error "memory seen as another type: a place without cells" :=by
  unfold World.viewLoad;simp[MD,bind,Except.bind]
 simp only[e];exact⟨_,rfl,trivial⟩;exact h.elim;rename_i g;exact⟨_,rfl,by rw[h.no_cell _ _ g];trivial⟩
theorem Cx.WR.no_store{X:Cx}{d wc}(h:X.WR d wc)p a v b:∃x,d.farStore p a v b=.error x/\bad x:=by
 unfold World.farStore;split;rename_i at_ u f;obtain h|h:=h.kind f;cases h;have e:∃m,CD p d a v b=.error m:=by
  unfold CD World.viewStore;simp[MD,bind,Except.bind];split;exact⟨_,rfl⟩;exact⟨_,rfl⟩
 let⟨m,e⟩:=e;unfold CD at e;simp only[e];exact⟨_,rfl,trivial⟩;exact h.elim;rename_i g;exact⟨_,rfl,by rw[h.no_cell _ _ g];trivial⟩
theorem Cx.WR.mine{X:Cx}{d wc}(h:X.WR d wc){a v}(p:d.cell? a=xk v)(y:d.frozen? a=xh):
  X.Own a.block/\∃c e,a.spot=xw/\d.heap[a.block]?=xk (.cells c e (0,0))/\wc.heap[X.ρ a.block]?=xk (.cells (c.map (Zt X.ρ)) e (0,0)):=by
 let⟨o,c,e,u,g,x⟩:=JB p;obtain f|⟨_,q,r,t,l,f,w,_⟩|⟨n,_,j,k⟩:=h.blk _ _ g;cases f;grind [World.frozen?];have:=k _ _ _ rfl;subst this;exact⟨n,c,e,o,g,j⟩
theorem Cx.OR.hide{X:Cx}{b a}:X.OR b hid a:=.inl rfl
theorem Cx.WR.turn{X:Cx}{k wc a d}(h:X.WR k wc){r B o}(A:k.heap[r]?=xk B)(N:B≠hid)(L:X.Own r)(M:X.okO o)(K:∀c e z,o=.cells c e z->z=(0,0))
  (F:U (R a)=U (R k)) (G:d.os=a.os) (H:a.heap[r]?=xk o) (w:∀b,b≠r->a.heap[b]?=k.heap[b]?) (I:d.heap[X.ρ r]?=xk (XO X.ρ o)) (J:∀c,c≠X.ρ r->d.heap[c]?=wc.heap[c]?):X.WR a d:=by
 have p:=(ZdM.1 A).1;have conv:∀x,a.heap[x]? ≠xk hid->k.heap[x]? ≠xk hid:=λx q l=>by
  by_cases j:x=r;subst j;rw[A]at l;simp_all;rw[w x j]at q;exact q l
 refine⟨G,by rw[F];exact h.nl,h.low,λx y t u q O e=>h.inj x y (conv x t) (conv y u) Z0 Z0 e,λb C g=> ?_⟩;by_cases f:b=r;subst f;rw[H]at g;cases g;exact .inr (.inr ⟨L,M,I,K⟩);rw[w b f]at g;by_cases l:C=hid;subst l;exact .hide;have n:=(ZdM.1 g).1;rw[J _ λD=>f (h.inj b r ZcJ ZcJ n p D)];exact h.blk b C g
theorem Cx.WR.setCell{X:Cx}{d wc}(h:X.WR d wc){a v0 v}(q:d.cell? a=xk v0)(l:d.frozen? a=xh):X.WR (d.setCell a v) (wc.setCell (ZR X.ρ a) (Zt X.ρ v)):=by
 let⟨n,c,e,p,g,f⟩:=h.mine q l;refine h.turn (r:=a.block) (o:=.cells (c.setIfInBounds a.off v) e (0,0)) g (by simp[hid]) n trivial Z1 (Sa _ _ _) h.os ?_ (λb g=> ?_) ?_ λc k=> ?_;simp_all[World.setCell,Rs,Zer,Ze4,ZgC,ZdZ,Zeu];simp_all[World.setCell,Rs,if_neg,ZfK];simp only[World.setCell,Rs,ZR,f,p,XO];simp;simp only[World.setCell,Rs];rw[if_neg (show ¬(ZR X.ρ a).block=c fromλj=>k j.symm)]
theorem Cx.WR.push{X:Cx}{a wc}(h:X.WR a wc){o}(z:X.okO o)(w:∀c e t,o=.cells c e t->t=(0,0))(A:X.ρ (U (R a))=U (R wc)):
  X.WR {a with heap:=a.heap.push o} {wc with heap:=wc.heap.push (XO X.ρ o)}:=by
 have D:=h.nl;have lt:∀b,b<U (R a)->a.heap[b]? ≠xk hid->X.ρ b<U (R wc):=λb d l=>h.lt (Zed d) λe=>l ZcK;have k:∀b,b<U (R a)->(a.heap.push o)[b]?=a.heap[b]? :=λb d=>ZcJ;refine⟨h.os,ZcL,h.low,λx y n q B C e=> ?_,λb u d=> ?_⟩;simp[Zh3]at B C;by_cases g:x<U (R a);have p:a.heap[x]? ≠xk hid:=by rw[<-k x g];exact n
 by_cases j:y<U (R a);have r:a.heap[y]? ≠xk hid:=by rw[<-k y j];exact q
 exact h.inj x y p r g j e;grind;grind;simp[Zg1]at d⊢;by_cases f:b=U (R a);subst f;rw[if_pos rfl]at d;cases d;rw[if_pos A];exact .inr (.inr ⟨.inl D,z,rfl,w⟩);rw[if_neg f]at d;by_cases l:u=hid;subst l;exact .hide;have:=h.lt d l;rw[if_neg Z0];exact h.blk b u d
theorem Cx.WR.set{X:Cx}{a wc}(h:X.WR a wc){r o k}(f:X.Own r)(d:a.heap[r]?=xk k)(j:k≠hid)(p:X.okO o)(l:∀c e g,o=.cells c e g->g=(0,0)):
  X.WR {a with heap:=a.heap.setIfInBounds r o} {wc with heap:=wc.heap.setIfInBounds (X.ρ r) (XO X.ρ o)}:=by
 have n:=(ZdM.1 d).1;refine h.turn (r:=r) (o:=o) d j f p l Z1 h.os ?_ (λb q=> ?_) ?_ λc t=> ?_;simp_all;grind;simp[h.lt d j];grind
theorem Cx.WR.obj{X:Cx}{a wc}(h:X.WR a wc){r o}(j:a.heap[r]?=xk o)(hc:∀c e f,o≠.cells c e f)(p:o≠hid):X.Own r/\wc.heap[X.ρ r]?=xk (XO X.ρ o):=by
 obtain d|⟨_,k,l,n,g,d,_⟩|q:=h.blk _ _ j;simp_all;simp_all;simp_all
theorem yH{ρ o}(hc:∀c e a,o≠.cells c e a):∀c e a,XO ρ o≠.cells c e a:=by
 intro c e a h;cases o<;>simp[XO]at h;simp_all
theorem Cx.Aft.ev{X:Cx}{a wc es e}(h:X.WR a wc)(d:X.EvOk a e):X.Aft a wc a wc es (es.push e):=
 ⟨h,Z0,Z0,Z0,Z0,rfl,rfl,rfl,Z0,Z1,ZcJ,.refl _⟩
theorem Z6e{α p w m a x v0}{k:Sem α}{es}(f:∀c,x≠.agg c)(h2:∀c,x≠.tuple c)(hc:w.cell? a=xk v0)(d:w.frozen? a=xh):
  (Sem.store m a x k).runT p w es=k.runT p (w.setCell a x) (es.push ⟨.cell a,xy,m==.atomic⟩):=by
 cases x<;>first|(simp only[Sem.runT,hc,d];rfl)|exact absurd rfl _|simp_all
theorem Mv{α p w m a x}{k:Sem α}(d:∀c,x≠.agg c)(h2:∀c,x≠.tuple c):(Sem.store m a x k).run p w=match w.cell? a with
  |some _=>if w.frozen? a then .halt (.unsupported (.unsafePointer "a write to bytes that a string shares")) w else k.run p (w.setCell a x)
  |none=>match w.farStore p a x (m==.atomic)with
   |.ok (w,_)=>k.run p w
   |.error h=>.halt h w:=by
 cases x<;>first|rfl|exact absurd rfl _|simp_all
theorem S8{α p w r o}{k:Obj->Sem α}(h:w.heap[r]?=xk o)(hc:∀c e a,o≠.cells c e a):(Sem.getObj r k).run p w=(k o).run p w:=by
 cases o<;>first|(simp[Sem.run,h];done)|exact absurd rfl (hc _ _ _)
theorem Mo{α:Type}{p:Z5}{w:Z4}{r:Nat}{o:Obj}{k:Obj->Sem α}{es:Zb}(h:w.heap[r]?=xk o)(hc:∀c e a,o≠.cells c e a):(Sem.getObj r k).runT p w es=(k o).runT p w (es.push ⟨.obj r,xh,o.isChan⟩):=by
 cases o<;>first|(simp only[Sem.runT,h];done)|exact absurd rfl (hc _ _ _)
theorem Mu{α p w r o a}{k:Sem α}(h:w.heap[r]?=xk o)(hc:∀c e d,o≠.cells c e d):(Sem.setObj r a k).run p w=k.run p {w with heap:=w.heap.setIfInBounds r a}:=by
 cases o<;>first|(simp[Sem.run,h];done)|exact absurd rfl (hc _ _ _)
theorem Z6d{α p w r o a}{k:Sem α}{es}(h:w.heap[r]?=xk o)(hc:∀c e d,o≠.cells c e d):(Sem.setObj r a k).runT p w es=k.runT p {w with heap:=w.heap.setIfInBounds r a} (es.push ⟨.obj r,xy,a.isChan⟩):=by
 cases o<;>first|(simp[Sem.runT,h];done)|exact absurd rfl (hc _ _ _)
theorem JD(o:Option Obj):o=xw\/(∃c e a,o=xk (.cells c e a))\/∃d,o=xk d/\∀c e a,d≠.cells c e a:=by
 obtain _|o:=o;simp;grind
theorem Z5Y{ρ v}(d:∀c,v≠.agg c)(h2:∀c,v≠.tuple c):(∀c,Zt ρ v≠.agg c)/\∀c,Zt ρ v≠.tuple c:=by
 cases v with
 |agg c=>simp_all
 |tuple c=>simp_all
 |pointer a=>cases a<;>simp[Zt]
 |slice a n c=>cases a<;>simp[Zt]
 |map r=>cases r<;>simp[Zt]
 |chan r=>cases r<;>simp[Zt]
 |_=>simp[Zt]
theorem Cx.Img.run{α β}{X:Cx}{RA V}{s:Sem α}{s':Sem β}(h:X.Img RA V s s'):X.Runs RA V s s':=by
 induction h with
 |pure l=>intro f g y d _ _ _;exact⟨_,_,_,rfl,l,.refl _ d⟩
 | @load V m a k C H w=>
   intro f g y d u n l;simp only[Sem.run,Sem.runT]at n l⊢;cases z:f.cell? a with
   |none=>
    obtain⟨x,e,K⟩:=d.no_load X.Q a (m==.atomic);simp_all[Cx.Told.of_bad]
   |some v=>
    obtain⟨h1,h2,h3⟩:=d.cell z;simp only[h1]at n l⊢;refine Cx.Told.step (.ev d ?_) (w v f g _ d u n l);exact⟨a.block,h3,rfl,ZcK⟩
 | @store V m a v k C H w=>
   intro f g y d u n l;have key:(∀c,v≠.agg c)->(∀c,v≠.tuple c)->X.Told RA f g y ((Sem.store m a v k).run X.Q f) ((Sem.store m (ZR X.ρ a) (Zt X.ρ v) C).runT X.P g y):=λU W=>by
    obtain⟨Y,Z⟩:=Z5Y (ρ:=X.ρ) U W;rw[Mv U W];rw[Mv Y Z]at n l;cases z:f.cell? a with
    |none=>
     obtain⟨x,e,K⟩:=d.no_store X.Q a v (m==.atomic);simp_all[Cx.Told.of_bad]
    |some v0=>
     cases hf:f.frozen? a with
     |true=>exact Cx.Told.of_bad trivial
     |false=>
      obtain⟨h1,h2,h3⟩:=d.cell z;obtain⟨M,c,e,hs,hb,a0⟩:=d.mine z hf;have R:g.frozen? (ZR X.ρ a)=xh:=by
       simp[World.frozen?,ZR,a0]
      rw[Z6e Y Z h1 R];simp only[h1,R,ZdZ,Zeu]at n l⊢;have p:=d.setCell (v:=v) z hf;refine Cx.Told.step ⟨p,by grind [Sa],by rw[Sa];omega,?_,ZdL _,rfl,rfl,rfl,λb N O=> ?_,λc' F I=> ?_,λx K=> ?_,.setCell _ _ _⟩ (w _ _ _ p (u.step (.setCell _ _ _)) n ?_);show f.drawn+g.drawn=g.drawn+f.drawn;omega;grind [Sa];simp only[World.setCell,Rs];rw[if_neg (λe0=>I a.block M h3 e0.symm)];obtain h|rfl:=ZhV.1 K;grind;exact .inr ⟨a.block,by grind [Sa],rfl,ZcK⟩;simp_all[Sa]
   cases v<;>first|exact Cx.Told.of_bad trivial|exact key Z1 Z1
 | @new V o k C t hf H w=>
   intro f g y d u n l;simp only[Sem.run,Sem.runT]at n l⊢;have G:=(J6 X.P (C (xz (xj g))) {g with heap:=g.heap.push (XO X.ρ o)}).1;simp only[Zh3]at G;have L:=l 0 Z0;simp only[Zfr]at L;have p:=d.push t hf L;rw[<-L]at n l⊢;refine Cx.Told.step ⟨p,ZcL,Z1,?_,ZdL _,rfl,rfl,rfl,λb N O=> ?_,λc' F I=> ?_,λx K=>.inl K,.push _ _⟩ (w (xz (xj f)) _ _ _ p ((u.step (.push f o)).cons Z1 t.vis) n λj hj=> ?_);grind;grind;grind;simp only[Zh3]at hj⊢;have:=l (j+1) Z0;grind
 | @get V r k C S H w=>
   intro f g y d u n l;obtain t|⟨c,e,fr,t⟩|⟨o,t,z⟩:=JD f.heap[r]?;simp only[Sem.run,t];exact Cx.Told.of_bad trivial;simp only[Sem.run,t];exact Cx.Told.of_bad trivial;obtain B|T:=d.kind t;subst B;rw[S8 t z];obtain⟨h,w',e,B⟩:=S f;simp_all[Cx.Told.of_bad];have B:o≠hid:=λh=>by subst h;exact T.elim
   obtain⟨M,D⟩:=d.obj t z B;have A:=yH (ρ:=X.ρ) z;rw[S8 D A]at n l;rw[S8 t z,Mo D A];refine Cx.Told.step (.ev d ?_) (w o T f g _ d (u.cons t B) n l);exact⟨r,M,ZcJ,rfl⟩
 | @set V r o k C a1 J F H w=>
   intro f g y d u n l;obtain t|⟨c,e,fr,t⟩|⟨o0,t,z⟩:=JD f.heap[r]?;simp only[Sem.run,t];exact Cx.Told.of_bad trivial;simp only[Sem.run,t];exact Cx.Told.of_bad trivial;have B:o0≠hid:=by
    obtain⟨o1,D,e2⟩:=u r a1;rw[t]at D;cases D;exact e2
   obtain⟨M,D⟩:=d.obj t z B;have a2:=(ZdM.1 t).1;have A:=yH (ρ:=X.ρ) z;rw[Mu D A]at n l;rw[Mu t z,Z6d D A];have p:=d.set M t B J ZcK;refine Cx.Told.step ⟨p,ZcL,Z1,?_,ZdL _,rfl,rfl,rfl,λb N O=> ?_,λc' F I=> ?_,λx K=> ?_,.set _ _ J.vis⟩ (w _ _ _ p (u.step (.set _ r J.vis)) n ?_);grind;grind;grind;obtain h|rfl:=ZhV.1 K;grind;exact .inr ⟨r,M,ZcK,rfl⟩;simp_all
 | @choose V q k C H w=>
   intro f g y d u n l;simp only[Sem.run,Sem.runT]at n l⊢;cases hq:q.forced with
   |true=>
    simp only[hq,Zer]at n l⊢;exact w 0 f g y d u n l
   |false=>
    simp only[hq,ZdZ,Zeu]at n l⊢;have G:=(J6 X.P (C (q.cut (g.tape g.drawn q))) {g with drawn:=g.drawn+1}).2;simp only at G;have L:=n 0 Z0;simp only[Zfr]at L;rw[L];have p:X.WR {f with drawn:=f.drawn+1} {g with drawn:=g.drawn+1}:=⟨d.os,d.nl,d.low,d.inj,d.blk⟩;refine Cx.Told.step ⟨p,ZgS _ _,ZdL _,?_,Nat.le_succ _,rfl,rfl,rfl,ZcJ,Z1,ZcK,.refl f⟩ (w _ _ _ _ p u (λj hj=> ?_) l);grind;simp only at hj⊢;have:=n (j+1) Z0;grind
 |prog H w=>intro f g y d u n l;exact w f g y d u n l
 | @room V k C H w=>
   intro f g y d u n l;refine Cx.Told.step (.ev d ?_) (w f g _ d u n l);rfl
 |panic v=>intro f g y d _ _ _;exact⟨_,_,rfl,.refl _ d⟩
 | @bad V s s' hb=>
   intro f g y d _ _ _;obtain⟨h,w',e,B⟩:=hb f;simp_all[Cx.Told.of_bad]
 |sem h=>exact h
end
end
section
section
variable {X:Cx}{V:Zd}
theorem Cx.Runs.bind{α β γ δ RA y V s l}{f:α->Sem γ}{o:β->Sem δ}(h:X.Runs RA V s l)
  (G:∀a b,RA a b->X.Runs y V (f a) (o b)):X.Runs y V (s.bind f) (l.bind o):=by
 intro C k z H A u t;have B:U (R (Y9 (l.run X.P k)))<=U (R (Y9 ((l.bind o).run X.P k)))/\(Y9 (l.run X.P k)).drawn<=(Y9 ((l.bind o).run X.P k)).drawn:=by
  rw[ZgY];cases l.run X.P k with
  |ok b w=>exact J6 X.P _ w
  |halt x w=>exact⟨ZdL _,ZdL _⟩
 have p:=h C k z H A (λj r=>u j Z0) (λj r=>t j Z0);rw[ZgY,ZfT];cases e:s.run X.Q C with
 |halt x w=>
  rw[e]at p;cases x<;>try exact p
  let⟨d,n,q,g⟩:=p;rw[q];exact⟨d,n,rfl,g⟩
 |ok a w=>
  rw[e]at p;let⟨b,d,n,q,K,g⟩:=p;rw[q];have D:l.run X.P k=.ok b d:=by rw[<-ZfP X.P l k z,q]
  have F:(l.bind o).run X.P k=(o b).run X.P d:=by rw[ZgY,D];rfl
  rw[F]at u t;refine Cx.Told.step g (G a b K w d n g.wr (A.step g.vis) (λj r=> ?_) (λj r=> ?_));have I:=g.dr;have J:=g.drl;have:=u (d.drawn-k.drawn+j) Z0;rw[g.tl,g.tc];grind;have I:=g.sz;have J:=g.szl;have:=t (U (R d)-U (R k)+j) Z0;grind
theorem Cx.Img.bind{α β γ δ RA A V s z}{f:α->Sem γ}{B:β->Sem δ}(h:X.Img RA V s z):
  (∀k a b,(∀r∈V,r∈k)->RA a b->X.Img A k (f a) (B b))->X.Img A V (s>>=f) (z>>=B):=by
 induction h with
 |pure u=>intro d;exact d _ _ _ (λ_ h=>h) u
 |load j g=>intro d;exact .load λv=>g v d
 |store j g=>intro d;exact .store (g d)
 |new l t j g=>intro d;exact .new l t λr=>g r λk a b p=>d k a b λx y=>p x (Zei _ y)
 |get C j g=>
  intro d;refine .get (λw=> ?_) λo l=>g o l λk a b p=>d k a b λx y=>p x (Zei _ y);let⟨h,F,e,q⟩:=C w;simp_all[ZgY]
 |set u l t j g=>intro d;exact .set u l t (g d)
 |choose j g=>intro d;exact .choose λn=>g n d
 |prog j g=>intro d;exact .prog (g d)
 |room j g=>intro d;exact .room (g d)
 |panic v=>intro d;exact .panic v
 |bad z q=>
  intro d;refine .bad _ λw=> ?_;let⟨h,F,e,q⟩:=q w;simp_all[ZgY]
 |sem h=>intro d;exact .sem (h.bind λa b D=>(d _ a b (λ_ h=>h) D).run)
theorem ZA{α β}{RA:α->β->Prop}a d:X.Img RA V (stuck a) d:=.bad _ λw=>⟨_,w,rfl,trivial⟩
theorem Xk{α β}{RA:α->β->Prop}{u}(d:∀g,u≠.initOrder g)a:X.Img RA V (unsupported u) a:=
 .bad _ λw=>⟨_,w,rfl,by cases u<;>first|trivial|simp_all⟩
def WA:X.Img (λp q=>p=X.Q/\q=X.P) V program program:=.prog (.pure ⟨rfl,rfl⟩)
def VU t:X.Img Eq V (typeInfo t) (typeInfo t):=by
 refine .bind WA ?_;rintro a _ _- ⟨rfl,rfl⟩;rw[X.P_info t];split;exact .pure rfl;exact ZA _ _
def WX t:X.Img Eq V (underlying t) (underlying t):=by
 refine .bind WA ?_;rintro a _ _- ⟨rfl,rfl⟩;rw[X.P_under t];split;exact .pure rfl;exact ZA _ _
def Vu t:X.Img Eq V (sizeOf t) (sizeOf t):=by
 refine .bind (VU t) ?_;rintro a i _-rfl;exact .pure rfl
def Fx t:X.Img Eq V (isAgg t) (isAgg t):=by
 refine .bind (WX t) ?_;rintro a i _-rfl;split<;>exact .pure rfl
def Cx.Rv(X:Cx)(a b:Ze):Prop:=b=Zt X.ρ a
def Wq ρ cs:Zt ρ (.agg cs)=.agg (cs.map (Zt ρ)):=ZdC
theorem Ui ρ cs:Zt ρ (.tuple cs)=.tuple (cs.map (Zt ρ)):=ZdC
@[simp]theorem XP ρ k n:Zt ρ (.int k n)=.int k n:=by simp[Zt]
@[simp]theorem U0 ρ b:Zt ρ (.bool b)=.bool b:=by simp[Zt]
@[simp]theorem TZ ρ b:Zt ρ (.string b)=.string b:=by simp[Zt]
@[simp]theorem Wr ρ a:Zt ρ (.pointer (xk a))=.pointer (xk (ZR ρ a)):=by simp[Zt]
@[simp]theorem Uh ρ:Zt ρ (.pointer xw)=.pointer xw:=by simp[Zt]
@[simp]theorem TX ρ t v:Zt ρ (.iface t v)=.iface t (Zt ρ v):=by simp[Zt]
@[simp]theorem TY ρ:Zt ρ .nilIface=.nilIface:=by simp[Zt]
@[simp]theorem yJ ρ:Zt ρ .nilFunc=.nilFunc:=by simp[Zt]
def S3 ρ:Zt ρ undef=undef:=by simp[undef,Ui]
theorem Tm ρ v:(Zt ρ v).cells=v.cells.map (Zt ρ):=by
 cases v with
 |agg c=>rw[Wq];rfl
 |pointer a=>cases a<;>simp[Zt,Value.cells]
 |slice a n c=>cases a<;>simp[Zt,Value.cells]
 |map r=>cases r<;>simp[Zt,Value.cells]
 |chan r=>cases r<;>simp[Zt,Value.cells]
 |_=>simp[Zt,Value.cells]
def RW ρ a n:(ZR ρ a).add n=ZR ρ (a.add n):=by
 grind [Addr.add,ZR]
def Fz a:X.Img X.Rv V (load a) (load (ZR X.ρ a)):=.load λv=>.pure rfl
def Z24 a n:∀V i d,X.Img (λx y=>y=x.map (Zt X.ρ)) V (loadCellsFrom a i n d) (loadCellsFrom (ZR X.ρ a) i n (d.map (Zt X.ρ))):=by
 induction n with
 |zero=>intro V i d;exact .pure rfl
 |succ n g=>
  intro V i d;unfold loadCellsFrom;rw[RW];refine .bind (Fz _) ?_;rintro f v _-rfl;have:=g f (i+1) (d.push v);simp_all
def FA a n:X.Img (λx y=>y=x.map (Zt X.ρ)) V (loadCells a n) (loadCells (ZR X.ρ a) n):=by
 have:=Z24 (X:=X) a n V 0 #[];rw[show(#[]:Array Value).map _=#[]by simp]at this;exact this
def JY t a:X.Img X.Rv V (loadVar t a) (loadVar t (ZR X.ρ a)):=by
 refine .bind (Fx t) ?_;rintro d b _-rfl;split;refine .bind (Vu t) ?_;rintro d n _-rfl;refine .bind (FA a n) ?_;rintro d f _-rfl;exact .pure (Wq _ _).symm;exact Fz a
def JZ a vs:∀V i,X.Img Eq V (storeCells a vs i) (storeCells (ZR X.ρ a) (vs.map (Zt X.ρ)) i):=by
 induction vs with
 |nil=>intro V i;exact .pure rfl
 |cons v vs d=>
  intro V i;unfold storeCells;simp[Zee];rw[RW];refine .bind (RA:=Eq) (.store (.pure rfl)) ?_;simp_all
def Z2q t a v:X.Img Eq V (storeVar t a v) (storeVar t (ZR X.ρ a) (Zt X.ρ v)):=by
 refine .bind (Vu t) ?_;rintro d n _-rfl;rw[Tm];split;exact ZA _ _;simp_all[JZ]
def still:Nat->Value->Bool
 |0,_=>xh
 |n+1,v=>match v with
  |.bool _|.int .. |.float .. |.complex .. |.string _|.pointer xw|.slice xw _ _|.map xw|.chan xw|.nilFunc|.nilIface=>xy
  |.func (.func _) a b=>a.isEmpty&&b.isEmpty
  |.iface _ v=>still n v
  |.agg d=>d.all (still n)
  |.tuple d=>d.all (still n)
  |_=>xh
def RI{α:Type}{f}{cs:Array α}(h:∀x∈cs,f x=x):cs.map f=cs:=by
 grind
theorem KN ρ:∀n v,still n v=xy->Zt ρ v=v
 |0,_,h=>ZcZ
 |n+1,v,h=>by
  cases v with
  |pointer a=>cases a<;>first|(simp[still]at h;done)|simp
  |slice a _ _=>cases a<;>first|(simp[still]at h;done)|simp[Zt]
  |map a=>cases a<;>first|(simp[still]at h;done)|simp[Zt]
  |chan a=>cases a<;>first|(simp[still]at h;done)|simp[Zt]
  |func fn a b=>
   cases fn<;>first|(simp[still]at h;done)|skip
   simp[still,ZdJ,Array.isEmpty_iff]at h;obtain⟨rfl,rfl⟩:=h;simp[Zt,V2]
  |iface t v=>simp[Zt];rw[KN ρ n v (by simpa[still]using h)]
  |agg f=>
   rw[Wq,RI λx d=>KN ρ n x ?_];simp only[still,ZfO]at h;exact h x d
  |tuple f=>
   rw[Ui,RI λx d=>KN ρ n x ?_];simp only[still,ZfO]at h;exact h x d
  |_=>simp[Zt]
def Cx.Zero(X:Cx):Prop:=∀t i z,X.Q.info? t=xk i->i.zero=xk z->Zt X.ρ z=z
def Tc(j:X.Zero)t:X.Img (λa b=>a=b/\Zt X.ρ a=a) V (zeroValue t) (zeroValue t):=by
 have g:X.Img (λa b=>a=b/\X.Q.info? t=xk a) V (typeInfo t) (typeInfo t):=by
  refine .bind WA ?_;rintro f _ _- ⟨rfl,rfl⟩;rw[X.P_info t];split;exact .pure ⟨rfl,by assumption⟩;exact ZA _ _
 refine .bind g ?_;rintro f i _- ⟨rfl,h⟩;cases d:i.zero with
 |none=>simp_all[Xk]
 |some z=>exact .pure ⟨rfl,j t i z h d⟩
theorem Ry{α β}{RA:α->β->Prop}{v v'}(h:Zt X.ρ v=v'):X.Img RA V (goPanic v) (goPanic v'):=by subst h;exact .panic v
def TE{α β}{RA:α->β->Prop}:X.Img RA V (runtimePanic .nilDeref) (runtimePanic .nilDeref):=by
 refine .bind WA ?_;rintro a _ _- ⟨rfl,rfl⟩;exact Ry (by simp[strVal];rfl)
theorem Fm{α β}{RA:α->β->Prop}x y s c:X.Img RA V (runtimePanic (.bounds x y s c)) (runtimePanic (.bounds x y s c)):=by
 refine .bind WA ?_;rintro a _ _- ⟨rfl,rfl⟩;exact Ry (by simp[Wq];rfl)
def TG{α β}{RA:α->β->Prop}m:X.Img RA V (runtimePanic (.error m)) (runtimePanic (.error m)):=by
 refine .bind WA ?_;rintro a _ _- ⟨rfl,rfl⟩;exact Ry (by simp[strVal];rfl)
theorem jL{α β}{RA:α->β->Prop}m:X.Img RA V (runtimePanic (.plain m)) (runtimePanic (.plain m)):=by
 refine .bind WA ?_;rintro a _ _- ⟨rfl,rfl⟩;exact Ry (by simp[strVal];rfl)
def Ub q:X.Img Eq V (choose q) (choose q):=.choose λn=>.pure rfl
theorem JU{α β}{RA:α->β->Prop}k x y c:X.Img RA V (boundsPanic k x y c) (boundsPanic k x y c):=by
 unfold boundsPanic;cases(k !=.u64&&decide (0<=x)&&decide (x<=31));grind [Fm];refine .bind (RA:=Eq) (.bind (Ub _) ?_) ?_;rintro a n _-rfl;exact .pure rfl;rintro a b _-rfl;grind [Fm]
def zc v:X.Img Eq V (asIntOf v) (asIntOf (Zt X.ρ v)):=by
 cases v with
 |int k n=>rw[XP];exact .pure rfl
 |pointer a=>cases a<;>first|exact Xk (λ_ h=>ZcZ) _|exact ZA _ _
 |_=>exact ZA _ _
def JT v:X.Img Eq V (asInt v) (asInt (Zt X.ρ v)):=by
 refine .bind (zc v) ?_;rintro a n _-rfl;exact .pure rfl
def jz v:X.Img Eq V (asBool v) (asBool (Zt X.ρ v)):=by
 cases v with
 |bool b=>rw[U0];exact .pure rfl
 |_=>exact ZA _ _
def Z1q v:X.Img (λa b=>b=a.map (Zt X.ρ)) V (asAgg v) (asAgg (Zt X.ρ v)):=by
 cases v with
 |agg c=>rw[Wq];exact .pure rfl
 |_=>exact ZA _ _
def jy v:X.Img (λa b=>b=ZR X.ρ a) V (asAddr v) (asAddr (Zt X.ρ v)):=by
 cases v with
 |pointer a=>
  obtain _|a:=a;rw[Uh];exact TE;rw[Wr];exact .pure rfl
 |_=>exact ZA _ _
def zi v:X.Img (λa b=>b=ZR X.ρ a) V (Instr.sureAddr v) (Instr.sureAddr (Zt X.ρ v)):=by
 cases v with
 |pointer a=>
  obtain _|a:=a;exact ZA _ _;rw[Wr];exact .pure rfl
 |_=>exact ZA _ _
def FF e cs:X.Img (λa b=>b=ZR X.ρ a) V (newRow e cs) (newRow e (cs.map (Zt X.ρ))):=
 .new (o:=.cells cs e) trivial (λ_ _ _ h=>ZcJ) λr=>.pure rfl
def jJ t v:X.Img (λa b=>b=ZR X.ρ a) V (newVar t v) (newVar t (Zt X.ρ v)):=by
 simp_all[newVar,Tm,FF]
def zh t cs off:X.Img X.Rv V (part t cs off) (part t (cs.map (Zt X.ρ)) off):=by
 refine .bind (Fx t) ?_;rintro a b _-rfl;split;refine .bind (Vu t) ?_;rintro a n _-rfl;refine .pure ?_;show _=Zt _ _;simp_all[Wq];rw[Zeg];cases cs[off]? with
 |none=>exact ZA _ _
 |some v=>exact .pure rfl
end
end
section
section
variable {X:Cx}{V:Zd}
def Z1n(j:X.Zero)t:X.Img X.Rv V (Instr.alloc t xy (.tuple #[])) (Instr.alloc t xy (.tuple #[])):=by
 refine .bind (Tc j t) ?_;rintro f z _- ⟨rfl,d⟩;have h:=jJ (X:=X) (V:=f) t z;rw[d]at h;refine .bind h ?_;rintro g a _-rfl;exact .pure (Wr _ _).symm
def Z1B t v:X.Img X.Rv V (Instr.box t v) (Instr.box t (Zt X.ρ v)):=by
 refine .bind (jJ t v) ?_;rintro d a _-rfl;exact .pure (Wr _ _).symm
def Z23 t v:X.Img X.Rv V (Instr.loadAt t v) (Instr.loadAt t (Zt X.ρ v)):=by
 refine .bind (zi v) ?_;rintro d a _-rfl;exact JY t a
theorem Z2p t v x:X.Img Eq V (Instr.storeAt t v x) (Instr.storeAt t (Zt X.ρ v) (Zt X.ρ x)):=by
 refine .bind (zi v) ?_;rintro d a _-rfl;exact Z2q t a x
def Z1U v i:X.Img X.Rv V (Instr.extract v i) (Instr.extract (Zt X.ρ v) i):=by
 cases v with
 |tuple vs=>
  rw[Ui];unfold Instr.extract;simp[Zeg];cases vs[i]? with
  |none=>exact ZA _ _
  |some v=>exact .pure rfl
 |_=>exact ZA _ _
def Z26 t v:X.Img X.Rv V (Instr.makeInterface t v) (Instr.makeInterface t (Zt X.ρ v)):=by
 refine .bind (WX t) ?_;rintro a d _-rfl;split;exact ZA _ _;exact .pure (TX _ _ _).symm
def Z27 t r:X.Img X.Rv V (Instr.makeMap t r) (Instr.makeMap t (r.map (Zt X.ρ))):=by
 have key:∀V,X.Img X.Rv V (do pure (.map (xk (<-newObj _))):Sem Value) (do pure (.map (xk (<-newObj _))):Sem Value):=λV=>by
  have h:X.Img (λa b=>b=X.ρ a) V _ _:=.new (o:=.map #[] 0) trivial (λ_ _ _ h=>ZcZ) λr=>.pure rfl;rw[show XO X.ρ _=.map #[] 0 by simp[XO]]at h;refine .bind h ?_;rintro f r _-rfl;exact .pure Zd1
 obtain _|x:=r;exact key V;refine .bind (WX t) ?_;rintro f d _-rfl;cases d<;>first|exact ZA _ _|skip
 refine .bind (JT x) ?_;simp_all
theorem Z1V t x f:X.Img X.Rv V (Instr.field t x f) (Instr.field t (Zt X.ρ x) f):=by
 refine .bind (WX t) ?_;rintro h d _-rfl;cases d<;>first|exact ZA _ _|skip
 rename_i a;dsimp only;cases a[f]? with
 |none=>exact ZA _ _
 |some g=>
  refine .bind (Z1q x) ?_;rintro h j _-rfl;exact zh _ _ _
theorem Z20 t x i:X.Img X.Rv V (Instr.index t x i) (Instr.index t (Zt X.ρ x) (Zt X.ρ i)):=by
 refine .bind (zc i) ?_;rintro a ⟨k,n⟩ _-rfl;refine .bind (WX t) ?_;rintro a d _-rfl;cases d<;>first|exact ZA _ _|skip
 cases x<;>first|exact ZA _ _|skip
 rw[TZ];dsimp only;split;exact .pure Zdq;simp_all[JU];cases x<;>first|exact ZA _ _|skip
 rw[Wq];dsimp only;split;refine .bind (Vu _) ?_;rintro a m _-rfl;exact zh _ _ _;simp_all[JU]
def Z2n x y c:X.Img Eq V (Instr.sliceBound x y c) (Instr.sliceBound (Zt X.ρ x) y c):=by
 refine .bind (zc x) ?_;rintro a ⟨k,n⟩ _-rfl;dsimp only;split;exact .pure rfl;simp_all[JU]
def Z2o b n c l h m:X.Img Eq V (Instr.sliceBounds b n c l h m) (Instr.sliceBounds b n c (l.map (Zt X.ρ)) (h.map (Zt X.ρ)) (m.map (Zt X.ρ))):=by
 unfold Instr.sliceBounds;cases m<;>cases h<;>cases l
 all_goals
  simp[ZhU,Ze4];repeat' first
   |exact .pure rfl
   |exact ZA _ _
   |(refine .bind (Z2n _ _ _) ?_;rintro _ _ _-rfl)
   |(refine .bind (RA:=Eq) _ ?_;rintro _ _ _-rfl)
theorem Z2m t x l h m(f:∃e,X.Q.underlying t=xk (.slice e)):X.Img X.Rv V (Instr.sliceAt t x l h m) (Instr.sliceAt t (Zt X.ρ x) (l.map (Zt X.ρ)) (h.map (Zt X.ρ)) (m.map (Zt X.ρ))):=by
 let⟨e,f⟩:=f;have g:∀V,X.Img (λa b=>a=b/\a=.slice e) V (underlying t) (underlying t):=λV=>by
  refine .bind WA ?_;rintro o _ _- ⟨rfl,rfl⟩;rw[X.P_under t];rw[f];exact .pure ⟨rfl,rfl⟩
 refine .bind (g V) ?_;rintro j d _- ⟨rfl,rfl⟩;refine .bind (g j) ?_;rintro p d _- ⟨rfl,rfl⟩;cases x<;>first|exact ZA _ _|skip
 rename_i a n c
 have key:∀V (b:Option Addr),X.Img X.Rv V (do
   let(l,h,m)<-Instr.sliceBounds xy n c l h m
   let size<-sizeOf e
   pure (.slice (if m=l then a else a.map (·.add (l*size))) (h-l) (m-l)):Sem Value) (do
   let(l,h,m)<-Instr.sliceBounds xy n c _ _ _
   let size<-sizeOf e
   pure (.slice (if m=l then a.map (ZR X.ρ)else(a.map (ZR X.ρ)).map (·.add (l*size))) (h-l) (m-l)):Sem Value):=λV b=>by
  refine .bind (Z2o _ _ _ _ _ _) ?_;rintro q ⟨y,w,z⟩ _-rfl;refine .bind (Vu e) ?_;rintro r k _-rfl;refine .pure ?_;show _=Zt _ _;split<;>cases a<;>simp[Zt,RW]
 have u:Zt X.ρ (.slice a n c)=.slice (a.map (ZR X.ρ)) n c:=by cases a<;>simp[Zt]
 simp_all
def zg e cs n c:X.Img X.Rv V (do pure (.slice (xk (<-newRow e cs)) n c):Sem Value) (do pure (.slice (xk (<-newRow e (cs.map (Zt X.ρ)))) n c):Sem Value):=by
 refine .bind (FF e cs) ?_;rintro d a _-rfl;exact .pure Zd1
def XV t:X.Img (λa b=>a=b/\X.Q.underlying t=xk a) V (underlying t) (underlying t):=by
 refine .bind WA ?_;rintro d _ _- ⟨rfl,rfl⟩;rw[X.P_under t];split;exact .pure ⟨rfl,by assumption⟩;exact ZA _ _
theorem Z21 t x i:X.Img X.Rv V (Instr.indexAt t x i) (Instr.indexAt t (Zt X.ρ x) (Zt X.ρ i)):=by
 have fin:∀V k (n:Int) (base:Option Addr) len elem,X.Img X.Rv V (do
   let f:=len<=1&&(match<-underlying t with|.array .. =>xy|_=>xh)
   match base with
   |some a=>
    if 0<=n/\n<len then pure (.pointer (xk (a.add (n.toNat*(<-sizeOf elem)))))
    else if f then unsupported (.noEntry "op/indexAddr.an index out of range at an array of length 0 or 1 (ledger 616)")
    else boundsPanic k n len .index
   |none=>boundsPanic k n 0 .index:Sem Value) (do
   let f:=len<=1&&(match<-underlying t with|.array .. =>xy|_=>xh)
   match base.map (ZR X.ρ)with
   |some a=>
    if 0<=n/\n<len then pure (.pointer (xk (a.add (n.toNat*(<-sizeOf elem)))))
    else if f then unsupported (.noEntry "op/indexAddr.an index out of range at an array of length 0 or 1 (ledger 616)")
    else boundsPanic k n len .index
   |none=>boundsPanic k n 0 .index:Sem Value):=λV k n base len elem=>by
  refine .bind (WX t) ?_;rintro l d _-rfl;obtain _|a:=base;grind [JU];simp only[Ze4];split;refine .bind (Vu elem) ?_;rintro j m _-rfl;rw[RW];exact .pure (Wr _ _).symm;generalize (decide (len<=1)&&_)=f;cases f;simp_all[JU];exact Xk (λ_ h=>ZcZ) _
 refine .bind (zc i) ?_;rintro l ⟨k,n⟩ _-rfl;refine .bind (WX t) ?_;rintro j d _-rfl;cases d<;>first|exact ZA _ _|skip
 rename_i elem;cases x<;>first|exact ZA _ _|skip
 rename_i a g c;have p:Zt X.ρ (.slice a g c)=.slice (a.map (ZR X.ρ)) g c:=by cases a<;>simp[Zt]
 rw[p];exact fin j k n a g elem;rename_i len elem;refine .bind (zi x) ?_;rintro o a _-rfl;exact fin o k n (xk a) len elem
theorem Cx.Img.map{α β γ δ RA d s j}{f:α->γ}{g:β->δ}(h:X.Img RA V s j)(k:∀a b,RA a b->d (f a) (g b)):X.Img d V (f<$>s) (g<$>j):=by
 exact .bind h λl a b _ r=>.pure (k a b r)
def FB{α β:Type}{f:α->Sem β}(d:∀V a,X.Img Eq V (f a) (f a)):∀(l:List α) V,X.Img Eq V (l.mapM f) (l.mapM f)
 | [],V=>by simp[ZgZ];exact .pure rfl
 |a::l,V=>by
  simp[Zg5];refine .bind (d V a) ?_;rintro g b _-rfl;refine .bind (FB d l g) ?_;rintro h j _-rfl;exact .pure rfl
theorem map_set{α β:Type}(g:α->β)(cs:Array α)i c:(cs.map g).setIfInBounds i (g c)=(cs.setIfInBounds i c).map g:=by
 simp
abbrev Zl:=List Value
abbrev Za:=Array Value
def ET ρ off:∀(l:Zl) k (a:Za),
  ((l.map (Zt ρ)).zipIdx k).foldl (λa x=>a.setIfInBounds (off+x.2) x.1) (a.map (Zt ρ))=((l.zipIdx k).foldl (λa x=>a.setIfInBounds (off+x.2) x.1) a).map (Zt ρ)
 | [],_,_=>rfl
 |v::l,k,a=>by
  simp[Zee,Zhz,Zgv];rw[map_set];exact ET ρ off l _ _
def jg ρ place:∀parts d,
  Instr.fill place (d.map (Zt ρ)) (parts.map λp=>(p.1,Zt ρ p.2))=(Instr.fill place d parts).map λc=>c.map (Zt ρ)
 | [],d=>rfl
 | (i,v)::a,d=>by
   simp only[Zee,Instr.fill];cases place i with
   |none=>rfl
   |some q=>
    let⟨off,size⟩:=q;rw[Tm];simp only[Zhi];split;rfl;rw[<-jg ρ place a];rw[<-Zg8,<-Zg8,Array.toList_zipIdx,Array.toList_zipIdx,Zf1];simp_all[ET]
def Z1C(r:X.Zero)t parts:X.Img X.Rv V (Instr.build t parts) (Instr.build t (parts.map λp=>(p.1,Zt X.ρ p.2))):=by
 refine .bind (Tc r t) ?_;rintro u z _- ⟨rfl,o⟩;have q:z.cells.map (Zt X.ρ)=z.cells:=by rw[<-Tm,o]
 refine .bind (WX t) ?_;rintro w d _-rfl
 have fin:∀V place g,X.Img X.Rv V (do
   let xk cells:=Instr.fill place z.cells parts.toList|stuck g
   pure _:Sem Value) (do
   let xk cells:=Instr.fill place z.cells (parts.map λp=>(p.1,Zt X.ρ p.2)).toList|stuck g
   pure _:Sem Value):=λV place g=>by
  have:=jg X.ρ place parts.toList z.cells;rw[q]at this;rw[Zf1,this];cases Instr.fill place z.cells parts.toList with
  |none=>exact ZA _ _
  |some x=>exact .pure (Wq _ _).symm
 cases d<;>first|exact ZA _ _|skip
 refine .bind (Vu _) ?_;rintro j n _-rfl;exact fin j _ _;rename_i k;dsimp only;rw[Zff];refine .bind (RA:=Eq) (.map (FB (λV f=> ?_) _ _) λa b h=>by rw[h]) ?_;refine .bind (Vu _) ?_;rintro j n _-rfl;exact .pure rfl;rintro j l _-rfl;exact fin j _ _
end
end
section
section
variable {X:Cx}{V:Zd}
abbrev Zg:=TypeId
def Z1D(w:X.Zero)(t:Zg)(n:Nat)(parts:Array (Nat×Value)):X.Img X.Rv V (Instr.buildSlice t n parts) (Instr.buildSlice t n (parts.map λp=>(p.1,Zt X.ρ p.2))):=by
 refine .bind (WX t) ?_;rintro y d _-rfl;cases d<;>first|exact ZA _ _|skip
 rename_i elem;dsimp only;refine .bind (Vu _) ?_;rintro j k _-rfl
 have fin:∀(V:Zd) (zero:Za),zero.map (Zt X.ρ)=zero->X.Img X.Rv V (do
   let xk cells:=Instr.fill (λi=>xk (i*k,k)) ((Array.range (n*k)).map (zero[· %zero.size]!)) parts.toList|stuck "buildSlice: a part of the wrong size"
   pure (.slice (xk (<-newRow elem cells)) n n):Sem Value) (do
   let xk cells:=Instr.fill (λi=>xk (i*k,k)) ((Array.range (n*k)).map (zero[· %zero.size]!)) (parts.map λp=>(p.1,Zt X.ρ p.2)).toList|stuck "buildSlice: a part of the wrong size"
   pure (.slice (xk (<-newRow elem cells)) n n):Sem Value):=λV zero q=>by
  have r:((Array.range (n*k)).map (zero[· %zero.size]!)).map (Zt X.ρ)=(Array.range (n*k)).map (zero[· %zero.size]!):=by
   refine RI λx u=> ?_;obtain⟨i,_,rfl⟩:=Zgs.1 u;by_cases a:i%zero.size<zero.size;rw[Zi6 zero _ a];have g:(zero.map (Zt X.ρ))[i%zero.size]?=zero[i%zero.size]? :=by rw[q]
   rw[Zeg,Zed a]at g;exact Zfx g;rw[Zi5 zero _ a];have e:(default:Ze)=.bool default:=rfl;rw[e,U0]
  have:=jg X.ρ (λi=>xk (i*k,k)) parts.toList ((Array.range (n*k)).map (zero[· %zero.size]!));rw[r]at this;rw[Zf1,this];cases Instr.fill (λi=>xk (i*k,k)) ((Array.range (n*k)).map (zero[· %zero.size]!)) parts.toList with
  |none=>exact ZA _ _
  |some o=>exact zg elem o n n
 split;exact Xk (λ_ h=>ZcZ) _;split;exact fin j #[] Z1;refine .bind (Tc w elem) ?_;rintro l z _- ⟨rfl,f⟩;exact fin l z.cells (by rw[<-Tm,f])
def Z2s(l:X.Zero)(x:Ze)(a b:Zg)(j:∀m,X.Q.underlying b≠xk (.interface m)):X.Img X.Rv V (Instr.typeAssert x a b xy) (Instr.typeAssert (Zt X.ρ x) a b xy):=by
 have f:∀V,X.Img X.Rv V (do pure (.tuple #[<-zeroValue b,.bool xh]):Sem Value) (do pure (.tuple #[<-zeroValue b,.bool xh]):Sem Value):=λV=>by
  refine .bind (Tc l b) ?_;rintro n z _- ⟨rfl,g⟩;exact .pure (by simp[Cx.Rv,Ui,g])
 refine .bind (XV b) ?_;rintro h d _- ⟨rfl,k⟩;cases d<;>first|exact absurd k (j _)|skip
 all_goals
  cases x<;>first|exact ZA _ _|skip
  rename_i t v;rw[TX];dsimp only;split;exact .pure (by simp[Cx.Rv,Ui]);exact f h;rw[TY];exact f h
theorem Z1K(a b:Zg)(x:Ze)(g:∃k,X.Q.underlying a=xk (.int k))(j:∃k,X.Q.underlying b=xk (.int k)):X.Img X.Rv V (convert a b x) (convert a b (Zt X.ρ x)):=by
 obtain⟨o,g⟩:=g;obtain⟨q,j⟩:=j;refine .bind (XV a) ?_;rintro l d _- ⟨rfl,f⟩;rw[g]at f;cases f;refine .bind (XV b) ?_;rintro n d _- ⟨rfl,f⟩;rw[j]at f;cases f;cases x<;>first|exact Xk (λ_ h=>ZcZ) _|skip
 rw[XP];exact .pure Zdq
 .rename_i s b;simp only[Zt];unfold Conv.floatToInt;repeat' first
   |exact .pure (by simp[Cx.Rv])
   |(refine .bind (Ub _) ?_;rintro _ _ _-rfl)
   |split
 rename_i p;cases p<;>exact Xk (λ_ h=>ZcZ) _
end
end
section
section
variable {X:Cx}{V:Zd}
def Z1X{α β RA r}{f:Array MapEntry->Nat->Sem α}{g:Array MapEntry->Nat->Sem β}d(h:∀a k,X.Img RA (r::V) (f a k) (g (a.map (VF X.ρ)) k)):
  X.Img RA V (do let .map a k<-getObj r|stuck d
                 f a k) (do let .map a k<-getObj (X.ρ r)|stuck d
                             g a k):=by
 refine .get (λw=>⟨_,w,rfl,trivial⟩) λo j=> ?_;cases o<;>first|exact h _ _|exact ZA _ _
def Z22 t ty ts x(l:ts[0]?=xk t)(j:(∃e,X.Q.underlying t=xk (.slice e))\/(∃a b,X.Q.underlying t=xk (.map a b))\/∃n e,X.Q.underlying t=xk (.array n e)):
  X.Img X.Rv V (Builtin.len_ ts ty #[x]) (Builtin.len_ ts ty #[Zt X.ρ x]):=by
 unfold Builtin.len_;have e:∀y,(#[y]:Array Value)[0]?=xk y:=Z1;simp[l,e];refine .bind (XV t) ?_;rintro o d _- ⟨rfl,h⟩;obtain⟨e,f⟩|⟨a,b,f⟩|⟨n,e,f⟩:=j<;>rw[f]at h<;>cases h
 cases x<;>first|exact ZA _ _|skip
 rename_i a n c;have g:Zt X.ρ (.slice a n c)=.slice (a.map (ZR X.ρ)) n c:=by cases a<;>simp[Zt]
 rw[g];exact .pure (by simp[Cx.Rv,goInt]);cases x<;>first|exact ZA _ _|skip
 rename_i r;obtain _|r:=r;simp[Zt];exact .pure (by simp[Cx.Rv,goInt]);simp[Zt];refine Z1X _ λp k=>.pure ?_;simp[Cx.Rv,goInt];exact .pure (by simp[Cx.Rv,goInt])
def yI ρ v:(∃k n,v=.int k n)\/((∀k n,v≠.int k n)/\∀k n,Zt ρ v≠.int k n):=by
 cases v with
 |int k n=>simp
 |pointer a=>cases a<;>exact .inr ⟨Z1,Z1⟩
 |slice a n c=>cases a<;>exact .inr ⟨Z1,λ_ _ h=>(by simp[Zt]at h)⟩
 |map r=>cases r<;>exact .inr ⟨Z1,λ_ _ h=>(by simp[Zt]at h)⟩
 |chan r=>cases r<;>exact .inr ⟨Z1,λ_ _ h=>(by simp[Zt]at h)⟩
 |_=>exact .inr ⟨Z1,λ_ _ h=>(by simp[Zt]at h)⟩
def Mx{k a b}(h:∀k n,a≠.int k n):Instr.sameNow (.int k) a b=xw:=by
 cases a<;>first|rfl|simp_all
def My{k a b}(h:∀k n,b≠.int k n):Instr.sameNow (.int k) a b=xw:=by
 cases a<;>first|rfl|(cases b<;>first|rfl|simp_all)
def Z6y ρ k a b:Instr.sameNow (.int k) (Zt ρ a) (Zt ρ b)=Instr.sameNow (.int k) a b:=by
 obtain⟨j,n,rfl⟩|⟨d,f⟩:=yI ρ a;obtain⟨l,o,rfl⟩|⟨g,h⟩:=yI ρ b;simp;simp_all[My];simp_all[Mx]
def EH ρ k a:∀d i,Instr.findNow (.int k) (Zt ρ a) (d.map (VF ρ)) i=(Instr.findNow (.int k) a d i).map λr=>r.map λp=>(p.1,Zt ρ p.2)
 | [],i=>rfl
 |e::d,i=>by
  simp[Instr.findNow];rw[show(VF ρ e).key=Zt ρ e.key from rfl,Z6y];cases Instr.sameNow _ a e.key with
  |none=>rfl
  |some b=>
   cases b;simp_all[EH];rfl
def Fp e n t v{k}(a:X.Q.underlying t=xk (.int k)):X.Img Eq V (Instr.checkKey e (n+1) t v) (Instr.checkKey e (n+1) t (Zt X.ρ v)):=by
 refine .bind (XV t) ?_;rintro f d _- ⟨rfl,h⟩;rw[a]at h;cases h;exact .pure rfl
def yR p n w:(∃q,(behindNumber n).run p w=.ok q w)\/∃a,(behindNumber n).run p w=.halt (.stuck a) w:=by
 have h:(∃q,(numberAt n.block).run p w=.ok q w)\/∃a,(numberAt n.block).run p w=.halt (.stuck a) w:=by
  unfold numberAt;simp only[Zel,Zi3];cases j:w.shape? n.block with
  |some x=>simp
  |none=>
   show(∃q,(Sem.getObj n.block _).run p w=.ok q w)\/_;obtain d|⟨c,e,g,d⟩|⟨o,d,f⟩:=JD w.heap[n.block]?;simp_all[Sem.run,getObj,Bind.bind,Sem.bind];simp_all[Sem.run,getObj,Bind.bind,Sem.bind];rw[S8 d f];cases o<;>exact .inl ⟨_,rfl⟩
 unfold behindNumber;obtain⟨q,h⟩|⟨a,h⟩:=h;simp_all;simp_all
def Fq n t x y{k}(A:X.Q.underlying t=xk (.int k))(z:X.Q.globals=#[])(D:∀i u,X.Q.info? t=xk i->i.desc≠.named "sync.copyChecker" u):
  X.Img (λa b=>a=b/\(a=xy->∃k n,x=.int k n/\y=.int k n)) V (Op.equalIn (n+1) t x y) (Op.equalIn (n+1) t (Zt X.ρ x) (Zt X.ρ y)):=by
 have g:∀V a b o,X.Img (λa b=>a=b/\(a=xy->∃k n,x=.int k n/\y=.int k n)) V (do
   let(a,b):=((<-behindNumber a).1,(<-behindNumber b).1)
   if a.block==b.block&&a.block< (<-program).globals.size then return (<-byteOf a)==(<-byteOf b)
   let .named "sync.copyChecker" _:=(<-typeInfo t).desc|unsupported .addressObserved
   if a==b then pure xy else unsupported .addressObserved:Sem Bool) o:=λV a b o=>by
  refine .bad _ λw=> ?_;simp only[Zel];obtain⟨q,h⟩|⟨j,h⟩:=yR X.Q a w;rw[h];simp only[Zem,Zel];obtain⟨H,f⟩|⟨j,f⟩:=yR X.Q b w;rw[f];simp only[Zem,ZfU,Zel,z];have r:(decide (q.1.block< (#[]:Array Global).size))=xh:=Z1;simp only[r,ZgK,ZdZ,Zeu,Zel];cases l:X.Q.info? t with
  |none=>exact⟨.stuck "no such type",w,by simp[typeInfo,l],trivial⟩
  |some i=>
   refine⟨.unsupported .addressObserved,w,?_,trivial⟩;simp[typeInfo,l,Zel,ZfU,Zem,ZfC];split;rename_i u e;exact absurd e ZcK;rfl
  rw[f];exact⟨_,_,rfl,trivial⟩;rw[h];exact⟨_,_,rfl,trivial⟩
 unfold Op.equalIn;refine .bind (XV t) ?_;rintro C d _- ⟨rfl,h⟩;rw[A]at h;cases h;cases x with
 |pointer p=>
  obtain _|a:=p;cases y<;>exact Xk Z1 _;cases y with
  |int B m=>
   rw[Wr,XP];obtain(_|m)|m:=m<;>first|exact .pure ⟨rfl,Z1⟩|exact Xk Z1 _
  |pointer q=>cases q<;>first|exact Xk Z1 _|exact g _ _ _ _
  |_=>exact Xk Z1 _
 |int B m=>
  cases y with
  |int F G=>
   rw[XP,XP];dsimp only;split;rename_i e;subst e;exact .pure ⟨rfl,Z1⟩;exact ZA _ _
  |pointer q=>
   obtain _|b:=q;obtain _|m:=m<;>exact Xk Z1 _;rw[Wr,XP];obtain(_|m)|m:=m<;>first|exact .pure ⟨rfl,Z1⟩|exact Xk Z1 _
  |_=>exact ZA _ _
 |_=>cases y<;>first|exact ZA _ _|exact Xk Z1 _
structure Cx.IntT (X:Cx) (t:TypeId) (k:IntKind):Prop where
 d:X.Q.underlying t=xk (.int k)
 n:∀i u,X.Q.info? t=xk i->i.desc≠.named "sync.copyChecker" u
def Hit(key:Ze)(es:List MapEntry)(j:Nat)(r:Option (Nat×Value)):Prop:=∀i v,r=xk (i,v)->j<=i/\∃e,es[i-j]?=xk e/\∃k n,key=.int k n/\e.key=.int k n
def Hit.none key es j:Hit key es j xw:=λ_ _ h=>ZcZ
def Hit.cons{key es j r}(h:Hit key es (j+1) r)e:Hit key (e::es) j r:=λi v a=>by
 let⟨f,d,g,k⟩:=h i v a;grind
def Hit.head{key es j e}(h:∃k n,key=.int k n/\e.key=.int k n):Hit key (e::es) j (xk (j,e.val)):=λi v a=>by
 simp_all
def Z6z{k a b}(h:Instr.sameNow (.int k) a b=xk xy):∃k n,a=.int k n/\b=.int k n:=by
 obtain⟨g,l,rfl⟩|⟨d,_⟩:=yI id a;obtain⟨j,o,rfl⟩|⟨f,_⟩:=yI id b;simp[Instr.sameNow]at h;simp_all;simp_all[My];simp_all[Mx]
def EG{k key}:∀a j r,Instr.findNow (.int k) key a j=xk r->Hit key a j r
 | [],j,r,h=>by
   simp[Instr.findNow]at h;subst h;exact .none _ _ _
 |e::a,j,r,h=>by
  simp[Instr.findNow]at h;split at h;rename_i d;cases h;exact .head (Z6z d);exact(EG a _ r h).cons e;cases h
def Cx.Rk(X:Cx)(key:Ze)(es:List MapEntry)(j:Nat)(a b:Option (Nat×Value)):Prop:=(b=a.map λp=>(p.1,Zt X.ρ p.2))/\Hit key es j a
theorem Fv(l:X.Q.globals=#[]){t k}(g:X.IntT t k)key:∀f i V,
  X.Img (X.Rk key f i) V (Instr.findAsking t key f i) (Instr.findAsking t (Zt X.ρ key) (f.map (VF X.ρ)) i)
 | [],i,V=>.pure ⟨rfl,.none _ _ _⟩
 |e::f,i,V=>by
  simp;refine .bind (Fq 9999 t key e.key g.d l g.n) ?_;rintro j b _- ⟨rfl,p⟩;cases b;have h:=Fv l g key f (i+1) j;have o:X.Img (X.Rk key _ i) j (Instr.findAsking t key f _>>=λr=>pure r) (Instr.findAsking t _ _ _>>=λr=>pure r):=
   .bind h λ_ a b _ r=>.pure ⟨r.1,r.2.cons e⟩
  simp_all;exact .pure ⟨rfl,.head ZcK⟩
def Fw(j:X.Q.globals=#[]){t k}(f:X.IntT t k)key es:
  X.Img (X.Rk key es 0) V (Instr.findKey t key es) (Instr.findKey t (Zt X.ρ key) (es.map (VF X.ρ))):=by
 refine .bind (XV t) ?_;rintro g d _- ⟨rfl,h⟩;rw[f.d]at h;cases h;rw[EH];cases a:Instr.findNow _ key es 0 with
 |none=>grind [Fv]
 |some r=>exact .pure ⟨rfl,EG es 0 r a⟩
def Z25(u:X.Zero)(n:X.Q.globals=#[]){t a b k}(q:X.Q.underlying t=xk (.map a b))(j:X.IntT a k)x key ok:X.Img X.Rv V (Instr.lookup t x key ok) (Instr.lookup t (Zt X.ρ x) (Zt X.ρ key) ok):=by
 have fin:∀V (f:Array MapEntry),X.Img X.Rv V (do
   Instr.checkKey f.isEmpty 10000 a key
   let(v,o)<-match<-Instr.findKey a key f.toList with
    |some (_,v)=>pure (v,xy)
    |none=>pure (<-zeroValue b,xh)
   pure (if ok then .tuple #[v,.bool o]else v):Sem Value) (do
   Instr.checkKey (f.map _).isEmpty 10000 a _
   let(v,o)<-match<-Instr.findKey a _ (f.map _).toList with
    |some (_,v)=>pure (v,xy)
    |none=>pure (<-zeroValue b,xh)
   pure (if ok then .tuple #[v,.bool o]else v):Sem Value):=λV f=>by
  have l:(f.map (VF X.ρ)).isEmpty=f.isEmpty:=by simp[Array.isEmpty]
  rw[l];refine .bind (Fp f.isEmpty 9999 a key j.d) ?_;rintro g _ _- -;rw[Zf1];refine .bind (Fw n j key f.toList) ?_;rintro y r _- ⟨rfl,-⟩;obtain _|p:=r;refine .bind (Tc u b) ?_;rintro A z _- ⟨rfl,h⟩;refine .pure ?_;cases ok<;>simp[Cx.Rv,Ui,h];refine .pure ?_;cases ok<;>simp[Cx.Rv,Ui]
 refine .bind (XV t) ?_;rintro g d _- ⟨rfl,h⟩;rw[q]at h;cases h;cases x<;>first|exact ZA _ _|skip
 rename_i r;obtain _|r:=r;simp[Zt];have:=fin g #[];simp at this;exact this;simp[Zt];refine .get (λw=>⟨_,w,rfl,trivial⟩) λo B=> ?_;cases o<;>first|exact fin _ _|exact ZA _ _
def FD(K:X.Q.globals=#[]){t a b k}(M:X.Q.underlying t=xk (.map a b))(I:X.IntT a k)x key v:X.Img Eq V (Instr.mapUpdate t x key v) (Instr.mapUpdate t (Zt X.ρ x) (Zt X.ρ key) (Zt X.ρ v)):=by
 refine .bind (XV t) ?_;rintro N d _- ⟨rfl,h⟩;rw[M]at h;cases h;cases x<;>first|exact ZA _ _|skip
 rename_i r;obtain _|r:=r;simp_all[Zt,jL];simp[Zt];refine .get (λw=>⟨_,w,rfl,trivial⟩) λo P=> ?_;cases o<;>first|exact ZA _ _|skip
 rename_i l g;show X.Img Eq _ (Instr.checkKey xh 10000 a key>>=_) (Instr.checkKey xh 10000 a _>>=_);refine .bind (Fp xh 9999 a key I.d) ?_;rintro O _ _ B-;rw[Zf1];refine .bind (Fw K I key l.toList) ?_;rintro G f _ C ⟨rfl,D⟩;have H:=C _ (B _ (ZeL ..));obtain _|p:=f;have:=Cx.Img.set (X:=X) (RA:=Eq) (V:=G) (r:=r) (o:=.map (l.push {key,val:=v,born:=g}) (g+1)) (k:=.pure ()) (k':=.pure ()) H trivial Z1 (.pure rfl);simp[XO,Array.map_push,VF]at this;exact this;let⟨i,v0⟩:=p;obtain⟨_,e,J,q,n,rfl,y⟩:=D i v0 rfl;have u:l[i]?=xk e:=by simpa using J
 have F:(l.map (VF X.ρ))[i]?=xk (VF X.ρ e):=by rw[Zeg,u];rfl
 have L:(VF X.ρ e).key=.int q n:=by show Zt X.ρ e.key=_;rw[y,XP]
 simp[Ze4,u,F,Zec,y,L,XP];have A:Instr.keyThatStays (.int q n) (.int q n)=pure (.int q n):=by
  unfold Instr.keyThatStays;rw[if_pos (by simp[Instr.sameBits])]
 rw[A];have z:(l.modify i λe=> {e with key:=.int q n,val:=v}).map (VF X.ρ)=(l.map (VF X.ρ)).modify i λe=> {e with key:=.int q n,val:=Zt X.ρ v}:=by
  apply Array.ext_getElem?;intro j;simp[Zeg,Rs];split;simp_all[VF];rfl
 have:=Cx.Img.set (X:=X) (RA:=Eq) (V:=G) (r:=r) (o:=.map (l.modify i λe=> {e with key:=.int q n,val:=v}) g) (k:=.pure ()) (k':=.pure ()) H trivial Z1 (.pure rfl);simp[XO,z]at this;exact this
end
end
section
section
variable {X:Cx}{V:Zd}
abbrev Zs:=IntKind
def yV(k:Zs)(n:Int):X.Rv (.int k n) (.int k n):=Zdq
def BP(b:Bool):X.Rv (.bool b) (.bool b):=Zdq
def Z6w(b:ByteArray):X.Rv (.string b) (.string b):=Zdq
theorem Fi(op:BinOp)(k:Zs)(x y:Int):X.Img X.Rv V (Op.intArith op k x y) (Op.intArith op k x y):=by
 unfold Op.intArith;split<;>first|exact .pure (yV _ _)|exact ZA _ _
def Z1M(op:BinOp)(k:Zs)(x y:Int):X.Img X.Rv V (Op.intDiv op k x y) (Op.intDiv op k x y):=by
 unfold Op.intDiv;split;exact TG _;split<;>first|exact .pure (yV _ _)|exact ZA _ _
theorem Fl(op:BinOp)(k:Zs)(x y:Int):X.Img X.Rv V (Op.intBits op k x y) (Op.intBits op k x y):=by
 unfold Op.intBits;dsimp only;split<;>first|exact .pure (yV _ _)|exact ZA _ _
def FL(op:BinOp)(k k':Zs)(x y:Int):X.Img X.Rv V (Op.shift op k x k' y) (Op.shift op k x k' y):=by
 unfold Op.shift;split;exact TG _;dsimp only;split<;>first|exact .pure (yV _ _)|exact ZA _ _
def Z1I(op:BinOp)(x y:Int):X.Img X.Rv V (Op.intCmp op x y) (Op.intCmp op x y):=by
 unfold Op.intCmp;split<;>first|exact .pure (BP _)|exact ZA _ _
abbrev ZcI:=Option Nat
def Ft(op:BinOp)(k:FloatKind)(x y:Nat):X.Img X.Rv V (Op.floatArith op k x y) (Op.floatArith op k x y):=by
 have fin:∀(V:Zd) (r:ZcI),X.Img X.Rv V (match r with|some r=>pure (.float k r)|none=>do pure (.float k (<-choose (.nanBits k x y))):Sem Value) (match r with|some r=>pure (.float k r)|none=>do pure (.float k (<-choose (.nanBits k x y))):Sem Value):=λV r=>by
  cases r with
  |some r=>exact .pure Zd1
  |none=>
   refine .bind (Ub _) ?_;rintro a n _-rfl;exact .pure Zd1
 unfold Op.floatArith;cases op<;>first|exact ZA _ _|exact fin _ _
def Fu(op:BinOp)(k:FloatKind)(x y:Nat):X.Img X.Rv V (Op.floatCmp op k x y) (Op.floatCmp op k x y):=by
 unfold Op.floatCmp;dsimp only;split<;>first|exact .pure (BP _)|exact ZA _ _
def FM(op:BinOp)(x y:ByteArray):X.Img X.Rv V (Op.stringOp op x y) (Op.stringOp op x y):=by
 unfold Op.stringOp;dsimp only;split<;>first|exact .pure (BP _)|exact ZA _ _|skip
 split;exact Xk (λ_ h=>ZcZ) _;exact .pure (Z6w _)
end
end
section
section
variable {X:Cx}{V:Zd}
def Cx.WR.shape{X:Cx}{f wc}(h:X.WR f wc){r x}(a:f.shape? r=xk x):wc.shape? (X.ρ r)=xk x:=by
 unfold World.shape? at a⊢;split at a;rename_i c e p k;obtain d|⟨_,l,n,o,j,d,_,q,g⟩|⟨_,_,g,_⟩:=h.blk _ _ k;cases d;simp_all;simp_all[XO];cases a
def jN{α β RA r}{k:Option (TypeId×Nat)->Sem α}{k':Option (TypeId×Nat)->Sem β}(q:∀w,∃h o,(k xw).run X.Q w=.halt h o/\bad h)
  (t:∀x,X.Img RA V (k (xk x)) (k' (xk x))):X.Img RA V (shape r>>=k) (shape (X.ρ r)>>=k'):=by
 refine .sem λd a f n p l g=> ?_;show X.Told RA d a f ((k _).run X.Q d) ((k' _).runT X.P a f);change ∀j,a.drawn+j< (Y9 ((k' _).run X.P a)).drawn->_ at l;change ∀j,U (R a)+j< U (R (Y9 ((k' _).run X.P a)))->_ at g;cases e:d.shape? r with
 |none=>
  let⟨h,o,e,u⟩:=q d;simp_all[Cx.Told.of_bad]
 |some x=>
  rw[n.shape e]at l g⊢;exact(t x).run d a f n p l g
def FP{α β RA r}{k:Option (Addr×TypeId)->Sem α}{k':Option (Addr×TypeId)->Sem β}(C:∀x w,∃h F,(k (xk x)).run X.Q w=.halt h F/\bad h)
  (D:∀V,X.Img RA V (k xw) (k' xw)):X.Img RA V (viewAt r>>=k) (viewAt (X.ρ r)>>=k'):=by
 have key:X.Img RA V (getObj r>>=λo=>match o with|.view a t=>k (xk (a,t))|_=>k xw) (getObj (X.ρ r)>>=λo=>match o with|.view a t=>k' (xk (a,t))|_=>k' xw):=by
  refine .get (λw=>C _ w) λo g=> ?_;cases o<;>first|exact D _|exact g.elim
 refine .sem λd q f n z l j=> ?_;have H:∀ {γ} r (k:Option _->Sem γ),((getObj r>>=λo=>match o with|.view a t=>pure (xk (a,t))|_=>pure xw)>>=k)=(getObj r>>=λo=>match o with|.view a t=>k (xk (a,t))|_=>k xw):=λr k=>by
  show Sem.getObj r _=Sem.getObj r _;congr 1;funext o;cases o<;>rfl
 have u:∀ {γ} P w r (k:Option _->Sem γ) f,(viewAt r>>=k).runT P w f=if(w.shape? r).isSome then(k xw).runT P w f else(getObj r>>=λo=>match o with|.view a t=>k _|_=>k xw).runT P w f:=λP w r k f=>by
  rw[<-H];show(Sem.bind (if(w.shape? r).isSome then pure xw else _) k).runT P w f=_;split<;>rfl
 have p:∀ {γ} P w r (k:Option _->Sem γ),(viewAt r>>=k).run P w=if(w.shape? r).isSome then(k xw).run P w else(getObj r>>=λo=>match o with|.view a t=>k (xk (a,t))|_=>k xw).run P w:=λP w r k=>by
  have:=ZeX Prod.fst (u P w r k #[]);grind [Sem.runT_fst]
 rw[p]at l j;rw[u,p];cases e:d.shape? r with
 |some x=>
  rw[n.shape e]at l j⊢;exact(D V).run d q f n z l j
 |none=>
  cases G:q.shape? (X.ρ r)with
  |none=>
   rw[G]at l j;exact key.run d q f n z l j
  |some y=>
   simp only[ZgC,ZdZ,Zeu];obtain g|⟨c,L,J,g⟩|⟨o,g,A⟩:=JD d.heap[r]?;have:(getObj r>>=λo=>match o with|.view a t=>k (xk (a,t))|_=>k xw).run X.Q d=.halt (.stuck "getObj: no such block") d:=by
    show(Sem.getObj r _).run X.Q d=_;simp[Sem.run,g]
   rw[this];exact Cx.Told.of_bad trivial;grind [World.shape?];by_cases B:o=hid;subst B;have:(getObj r>>=λo=>match o with|.view a t=>k (xk (a,t))|_=>k xw).run X.Q d=(k (xk (⟨0,0,xk 0⟩,0))).run X.Q d:=by
    show(Sem.getObj r _).run X.Q d=_;rw[S8 g A];rfl
   rw[this];let⟨h,F,p,K⟩:=C (⟨0,0,xk 0⟩,0) d;grind [Cx.Told.of_bad];let⟨_,I⟩:=n.obj g A B;grind [yH,World.shape?,absurd,Option.some.inj]
theorem Lk t:X.P.cellsOf t=X.Q.cellsOf t:=by simp[Program.cellsOf,Cx.P_info]
theorem Lj t:X.P.bytesOf t=X.Q.bytesOf t:=by simp[Program.bytesOf,Cx.P_info]
theorem qw:∀d t off,byteOfCell X.P d t off=byteOfCell X.Q d t off
 |0,_,_=>rfl
 |d+1,t,off=>by simp_all[byteOfCell,Cx.P_under,Lk,Lj,qw]
theorem D1:∀d t off,cellOfByte X.P d t off=cellOfByte X.Q d t off
 |0,_,_=>rfl
 |d+1,t,off=>by simp_all[cellOfByte,Cx.P_under,Lk,Lj,D1]
def Oo e c off n:cellAtBytes X.P X.P.depth e (c / X.P.cellsOf e) off n=cellAtBytes X.Q X.Q.depth e (c / X.Q.cellsOf e) off n:=by
 have:X.P.depth=X.Q.depth:=rfl;grind [cellAtBytes,Lk,Lj,qw,D1]
def FO ts t p y:X.Img X.Rv V (Builtin.unsafeAdd_ ts t #[.pointer p,y]) (Builtin.unsafeAdd_ ts t #[.pointer (p.map (ZR X.ρ)),Zt X.ρ y]):=by
 refine .bind (JT y) ?_;rintro h n _-rfl;by_cases d:n=0;simp[if_pos d];obtain _|a:=p;exact Xk Z1 _;refine FP (λx w=>⟨_,w,rfl,trivial⟩) λV=> ?_;exact .pure Zdq;simp[if_neg d];by_cases f:n<0;simp[if_pos f];exact Xk Z1 _;simp[if_neg f];obtain _|a:=p;exact Xk Z1 _;refine jN (λw=>⟨_,w,rfl,trivial⟩) λx=> ?_;let⟨e,cells⟩:=x;refine .bind WA ?_;rintro g _ _- ⟨rfl,rfl⟩;rw[Oo];show X.Img X.Rv g _ (match cellAtBytes X.Q X.Q.depth e _ a.off n with|some off=>pure _|none=>unsupported _);cases cellAtBytes X.Q X.Q.depth e _ a.off n with
 |none=>exact Xk Z1 _
 |some off=>exact .pure (by simp[Cx.Rv,ZR])
def Fk{α β RA n}{k:Addr×Bool->Sem α}{k':Addr×Bool->Sem β}(R:∀w,w.heap[n.block]?=xk hid->∃h N,(k (n,xh)).run X.Q w=.halt h N/\bad h)
  (G:∀V a l,X.Img RA V (k (a,l)) (k' (ZR X.ρ a,l))):X.Img RA V (behindNumber n>>=k) (behindNumber (ZR X.ρ n)>>=k'):=by
 refine .sem λd f es u B t q=> ?_;have H:∀ {γ} P w n (k:Addr×Bool->Sem γ) es,(behindNumber n>>=k).runT P w es=if(w.shape? n.block).isSome then(k _).runT P w es else(getObj n.block>>=λo=>match o with|.number a l=>k _|_=>k _).runT P w es:=λP w n k es=>by
  have J:(getObj n.block>>=λo=>match o with|.number a l=>k (a,l)|_=>k (n,xh))=((getObj n.block>>=λo=>match o with|.number a l=>pure (xk (a,l))|_=>pure xw)>>=λr=>(pure (r.getD (n,xh)):Sem _))>>=k:=by
   show Sem.getObj _ _=Sem.getObj _ _;congr 1;funext o;cases o<;>rfl
  rw[J];show(Sem.bind (Sem.bind (if(w.shape? n.block).isSome then pure xw else _) λr=>pure _) k).runT P w es=_;split<;>rfl
 have I:∀ {γ} P w n (k:Addr×Bool->Sem γ),(behindNumber n>>=k).run P w=if(w.shape? n.block).isSome then(k (n,xh)).run P w else(getObj n.block>>=λo=>match o with|.number a l=>k (a,l)|_=>k (n,xh)).run P w:=λP w n k=>by
  have:=ZeX Prod.fst (H P w n k #[]);grind [Sem.runT_fst]
 rw[I]at t q;rw[H,I];cases e:d.shape? n.block with
 |some x=>
  rw[show(ZR X.ρ n).block=X.ρ n.block from rfl,u.shape e]at t q⊢;exact(G V n xh).run d f es u B t q
 |none=>
  obtain g|⟨c,S,O,g⟩|⟨o,g,z⟩:=JD d.heap[n.block]?;have:(getObj n.block>>=λo=>match o with|.number a l=>k (a,l)|_=>k (n,xh)).run X.Q d=.halt (.stuck "getObj: no such block") d:=by
   show(Sem.getObj n.block _).run X.Q d=_;simp[Sem.run,g]
  simp[ZgC,ZdZ,Zeu,this];exact Cx.Told.of_bad trivial;grind [World.shape?];by_cases D:o=hid;subst D;have:(getObj n.block>>=λo=>match o with|.number a l=>k (a,l)|_=>k (n,xh)).run X.Q d=(k (n,xh)).run X.Q d:=by
   show(Sem.getObj n.block _).run X.Q d=_;rw[S8 g z];rfl
  simp[ZgC,ZdZ,Zeu,this];grind [Cx.Told.of_bad];let⟨_,A⟩:=u.obj g z D;have y:=yH (ρ:=X.ρ) z;have K:f.shape? (ZR X.ρ n).block=xw:=by
   show f.shape? (X.ρ n.block)=xw;unfold World.shape?;rw[A];split;grind;rfl
  rw[K]at t q⊢;have F:=(u.kind g).elim (λh=>absurd h D) id;have C:X.EvOk d ⟨.obj _,xh,(XO X.ρ o).isChan⟩:=⟨n.block,Z0,(ZdM.1 g).1,rfl⟩;have L:=S8 (p:=X.P) (k:=λo=>match o with|.number a l=>k' (a,l)|_=>k' (ZR X.ρ n,xh)) A y;have M:=Mo (p:=X.P) (es:=es) (k:=λo=>match o with|.number a l=>k' (a,l)|_=>k' (ZR X.ρ n,xh)) A y;change ∀j,f.drawn+j< (Y9 ((Sem.getObj (X.ρ n.block) λo=>match o with|.number a l=>k' (a,l)|_=>k' (ZR X.ρ n,xh)).run X.P f)).drawn->_ at t;change ∀j,xz (xj f)+j< xz (xj (Y9 ((Sem.getObj (X.ρ n.block) λo=>match o with|.number a l=>k' (a,l)|_=>k' (ZR X.ρ n,xh)).run X.P f)))->_ at q;change X.Told RA d f es ((Sem.getObj n.block λo=>match o with|.number a l=>k (a,l)|_=>k (n,xh)).run X.Q d) ((Sem.getObj (X.ρ n.block) λo=>match o with|.number a l=>k' (a,l)|_=>k' (ZR X.ρ n,xh)).runT X.P f es);rw[L]at t q;rw[S8 (p:=X.Q) (k:=λo=>match o with|.number a l=>k (a,l)|_=>k (n,xh)) g z,M];refine Cx.Told.step (.ev u C) ?_;cases o<;>first|exact F.elim|exact(G V n xh).run d f _ u B t q|exact(G V _ _).run d f _ u B t q
end
end
section
section
variable {X:Cx}{V:Zd}
def Z6v{p r w}(a:w.heap[r]?=xk hid):(viewAt r).run p w=.ok (xk (⟨0,0,xk 0⟩,0)) w:=by
 have d:w.shape? r=xw:=by simp[World.shape?,a,hid]
 unfold viewAt;simp only[Zel,Zi3,d];show(Sem.getObj r _).run p w=_;rw[S8 a (by simp[hid])];rfl
def Z1j p ts t a y w(j:w.heap[a.block]?=xk hid):∃h d,(Builtin.unsafeAdd_ ts t #[.pointer (xk a),y]).run p w=.halt h d/\bad h:=by
 have o:w.shape? a.block=xw:=by simp[World.shape?,j,hid]
 have l:∀k n,∃h d,(Builtin.unsafeAdd_ ts t #[.pointer (xk a),.int k n]).run p w=.halt h d/\bad h:=λk n=>by
  have e:Builtin.unsafeAdd_ ts t #[.pointer (xk a),.int k n]=(if n=0 then(do
     if(<-viewAt a.block).isSome then unsupported _
     return .pointer _)else do
    if n<0 then unsupported _
    let xk (e,cells)<-shape a.block|unsupported _
    let p<-program
    match cellAtBytes p p.depth e _ a.off n with
    |some off=>pure (.pointer (xk {a with off}))
    |none=>unsupported _):=rfl
  rw[e];by_cases f:n=0;rw[if_pos f];simp only[Zel,Z6v j];exact⟨_,_,rfl,trivial⟩;rw[if_neg f];by_cases g:n<0;rw[if_pos g];exact⟨_,w,rfl,trivial⟩;rw[if_neg g];simp only[Zel,Zi3,o];exact⟨_,_,rfl,trivial⟩
 cases y with
 |int k n=>exact l k n
 |pointer q=>cases q<;>exact⟨_,w,rfl,trivial⟩
 |_=>exact⟨_,w,rfl,trivial⟩
theorem Z1r a l:X.Img X.Rv V (asNumber a l) (asNumber (ZR X.ρ a) l):=by
 have h:X.Img (λa b=>b=X.ρ a) V _ _:=.new (o:=.number a l) trivial Z1 λr=>.pure rfl;refine .bind h ?_;rintro d r _-rfl;exact .pure (by simp[Cx.Rv,ZR])
def Z2f l u:X.Img X.Rv V (match u with|.pointer (xk b)=>asNumber b l|v=>pure v) (match Zt X.ρ u with|.pointer (xk b)=>asNumber b l|v=>pure v):=by
 cases u with
 |pointer q=>
  obtain _|b:=q;rw[Uh];exact .pure (Uh _).symm;grind [Wr,Z1r]
 |slice q n c=>cases q<;>(simp[Zt];exact .pure Zd1)
 |map q=>cases q<;>(simp[Zt];exact .pure Zd1)
 |chan q=>cases q<;>(simp[Zt];exact .pure Zd1)
 |_=>simp[Zt];exact .pure Zd1
def jI t p y:X.Img X.Rv V (movedNumber t (.pointer p) y) (movedNumber t (Zt X.ρ (.pointer p)) (Zt X.ρ y)):=by
 refine .bind (XV t) ?_;rintro f d _- ⟨rfl,h⟩
 have key:X.Img X.Rv f (match(generalizing:=false) (Value.pointer p)with
   | .pointer (xk n)=>(do
     let(a,YS)<-behindNumber n
     match<-Builtin.unsafeAdd_ #[] t #[.pointer (xk a),y]with
     |.pointer (xk b)=>asNumber b YS
     |v=>pure v:Sem Value)
   |_=>Builtin.unsafeAdd_ #[] t #[.pointer p,y]) (match(generalizing:=false) Zt X.ρ (Value.pointer p)with
   | .pointer (xk n)=>(do
     let(a,YS)<-behindNumber n
     match<-Builtin.unsafeAdd_ #[] t #[.pointer (xk a),Zt X.ρ y]with
     |.pointer (xk b)=>asNumber b YS
     |v=>pure v:Sem Value)
   |_=>Builtin.unsafeAdd_ #[] t #[Zt X.ρ (.pointer p),Zt X.ρ y]):=by
  obtain _|n:=p;rw[Uh];exact FO #[] t xw y;rw[Wr];refine Fk (λw g=> ?_) λV a l=> ?_;let⟨h,o,e,k⟩:=Z1j X.Q #[] t n y w g;simp_all;refine .bind (FO #[] t _ y) ?_;rintro j v _-rfl;exact Z2f l v
 cases d<;>first|exact key|exact Xk Z1 _
def DG{α β p s}{f:α->Sem β}{w h w'}(e:s.run p w=.halt h w')(a:bad h):∃h w',(s>>=f).run p w=.halt h w'/\bad h:=
 ⟨h,w',ZcK,a⟩
def DI(l:X.Q.globals=#[]){α}a b(f:Addr->Addr->Sem α)(k:∀a b w,∃h d,(f a b).run X.Q w=.halt h d/\bad h)w:
  ∃h d,(do f (<-behindNumber a).1 (<-behindNumber b).1:Sem α).run X.Q w=.halt h d/\bad h:=by
 simp only[Zel];obtain⟨q,h⟩|⟨g,h⟩:=yR X.Q a w;rw[h];simp only[Zem];obtain⟨n,j⟩|⟨g,j⟩:=yR X.Q b w;simp_all;rw[j];exact⟨_,_,rfl,trivial⟩;rw[h];exact⟨_,_,rfl,trivial⟩
def DH(d:X.Q.globals=#[])a b w:∃h f,(Op.twoPlaces a b).run X.Q w=.halt h f/\bad h:=by
 unfold Op.twoPlaces;simp only[Zel,ZfU,Zem,d];rw[if_pos Z1];exact⟨_,_,rfl,trivial⟩
def P2(g:X.Q.globals=#[])k a b w:∃h d,(Op.addrSub k a b).run X.Q w=.halt h d/\bad h:=by
 let⟨h,d,e,f⟩:=DH g a b w;exact DG e f
def P1(g:X.Q.globals=#[])op a b w:∃h d,(Op.addrCmp op a b).run X.Q w=.halt h d/\bad h:=by
 let⟨h,d,e,f⟩:=DH g a b w;exact DG e f
def jA a:X.Img Eq V (byteOf a) (byteOf (ZR X.ρ a)):=by
 unfold byteOf;cases d:a.spot with
 |some s=>
  simp[ZR,d];exact .pure rfl
 |none=>
  simp[ZR,d];refine .bind WA ?_;rintro f _ _- ⟨rfl,rfl⟩;refine .bind (FP (λx w=>⟨_,w,rfl,trivial⟩) λV=>.pure rfl) ?_;rintro g _ _- -;refine jN (λw=>⟨_,w,rfl,trivial⟩) λx=> ?_;let⟨e,c⟩:=x;dsimp only;rw[Lk,Lj,qw,show X.P.depth=X.Q.depth from rfl];split;exact .pure rfl;cases byteOfCell X.Q X.Q.depth e _ with
  |none=>exact ZA _ _
  |some b=>exact .pure rfl
def P3 k a n w(f:w.heap[a.block]?=xk hid):∃h g,(Op.addrMod k a n).run X.Q w=.halt h g/\bad h:=by
 have d:w.shape? a.block=xw:=by simp[World.shape?,f,hid]
 unfold Op.addrMod;simp only[Zel,Zi3,d];exact⟨_,_,rfl,trivial⟩
def Z2d k a n:X.Img X.Rv V (Op.addrMod k a n) (Op.addrMod k (ZR X.ρ a) n):=by
 refine jN (λw=>⟨_,w,rfl,trivial⟩) λx=> ?_;let⟨e,c⟩:=x;dsimp only;refine .bind (VU e) ?_;rintro d i _-rfl;split;exact Xk Z1 _;refine .bind (jA a) ?_;rintro f b _-rfl;exact .pure Zdq
def jH k a n:X.Img X.Rv V (do Op.addrMod k (<-behindNumber a).1 n) (do Op.addrMod k (<-behindNumber (ZR X.ρ a)).1 n):=
 Fk (k:=λq=>Op.addrMod k q.1 n) (k':=λq=>Op.addrMod k q.1 n) (λw d=>P3 k a n w d) λV a l=>Z2d k a n
def QD op k x y:X.Img Eq V (Op.Complex.arith op k x y) (Op.Complex.arith op k x y):=by
 refine .bind (Ft op k x y) ?_;rintro a v _-rfl;cases v<;>first|exact ZA _ _|skip
 simp[Zt];exact .pure rfl
def jB op k x y:X.Img Eq V (Op.Complex.cmp op k x y) (Op.Complex.cmp op k x y):=by
 refine .bind (Fu op k x y) ?_;rintro a v _-rfl;exact jz v
def Z1E s x d:X.Img Eq V (Op.Complex.conv s x d) (Op.Complex.conv s x d):=by
 unfold Op.Complex.conv;split;exact .pure rfl
 .have:X.Img X.Rv V (Conv.floatToFloat s x d) (Conv.floatToFloat s x d):=by
   unfold Conv.floatToFloat;repeat' first
    |exact .pure (by simp[Cx.Rv,Zt])
    |(refine .bind (Ub _) ?_;rintro _ _ _-rfl)
    |split
    |dsimp only
  refine .bind this ?_;rintro a v _-rfl;cases v<;>first|exact ZA _ _|skip
  simp[Zt];exact .pure rfl
open Go.Op.Complex in
def KF(a b c d e f:Nat):Sem (Nat×Nat):=do
 let zero:=(<-cmp .eql .f64 c 0)&&(<-cmp .eql .f64 d 0)
 if !(isNaN e&&isNaN f)then pure (e,f)
 else if zero&&(!isNaN a|| !isNaN b)then
  pure (<-mul (copysign inf c) a,<-mul (copysign inf c) b)
 else if(isInf a||isInf b)&&isFinite c&&isFinite d then
  corrected inf (inf2one a) (inf2one b) c d
 else if(isInf c||isInf d)&&isFinite a&&isFinite b then
  corrected 0 a b (inf2one c) (inf2one d)
 else pure (e,f)
open Go.Op.Complex in
def Z5k(a b c d:Nat):quotient a b c d=(do
  if<-cmp .geq .f64 (abs c) (abs d)then do
   let f<-quo d c
   let g<-add c (<-mul f d)
   KF a b c d (<-quo (<-add a (<-mul b f)) g) (<-quo (<-sub b (<-mul a f)) g)
  else do
   let f<-quo c d
   let g<-add d (<-mul f c)
   KF a b c d (<-quo (<-add (<-mul a f) b) g) (<-quo (<-sub (<-mul b f) a) g)):=rfl
def Z1J op k a b c d:X.Img X.Rv V (Op.complexOp op k a b c d) (Op.complexOp op k a b c d):=by
 have j:∀V a b c d,X.Img Eq V (Op.Complex.product a b c d) (Op.Complex.product a b c d):=λV a b c d=>by
  unfold Op.Complex.product Op.Complex.sub Op.Complex.mul Op.Complex.add;repeat' first
   |exact .pure rfl
   |(refine .bind (QD _ _ _ _) ?_;rintro _ _ _-rfl)
 have n:∀V s a b c d,X.Img Eq V (Op.Complex.corrected s a b c d) (Op.Complex.corrected s a b c d):=λV s a b c d=>by
  unfold Op.Complex.corrected Op.Complex.sub Op.Complex.mul Op.Complex.add;repeat' first
   |exact .pure rfl
   |(refine .bind (QD _ _ _ _) ?_;rintro _ _ _-rfl)
 have h:∀V a b c d e f,X.Img Eq V (KF a b c d e f) (KF a b c d e f):=λV a b c d e f=>by
  unfold KF Op.Complex.mul;refine .bind (jB _ _ _ _) ?_;rintro g z _-rfl;refine .bind (jB _ _ _ _) ?_;rintro g o _-rfl;dsimp only;split;exact .pure rfl;split;refine .bind (QD _ _ _ _) ?_;rintro g z _-rfl;refine .bind (QD _ _ _ _) ?_;rintro g z _-rfl;exact .pure rfl;split;simp_all;split;simp_all;exact .pure rfl
 have l:∀V a b c d,X.Img Eq V (Op.Complex.quotient a b c d) (Op.Complex.quotient a b c d):=λV a b c d=>by
  rw[Z5k];unfold Op.Complex.quo Op.Complex.sub Op.Complex.mul Op.Complex.add;refine .bind (jB _ _ _ _) ?_;rintro g z _-rfl;split;all_goals
   repeat' first
    |exact h _ _ _ _ _ _ _
    |(refine .bind (QD _ _ _ _) ?_;rintro _ _ _-rfl)
 unfold Op.complexOp;cases op<;>first|exact ZA _ _|skip
 all_goals
  repeat' first
   |exact .pure (by simp[Cx.Rv,Zt])
   |(refine .bind (QD _ _ _ _) ?_;rintro _ _ _-rfl)
   |(refine .bind _ ?_;rintro _ _ _-rfl)
   |(refine .bind (Z1E _ _ _) ?_;rintro _ _ _-rfl)
   |(refine .bind (j _ _ _ _ _) ?_;rintro _ ⟨_,_⟩ _-rfl)
   |(refine .bind (l _ _ _ _ _) ?_;rintro _ ⟨_,_⟩ _-rfl)
end
end
section
def vs:Value->Nat
 |.int .. =>0
 |.float .. =>1
 |.complex .. =>2
 |.string _=>3
 |.pointer _=>4
 |_=>5
def CC ρ v:vs (Zt ρ v)=vs v:=by
 cases v with
 |pointer q=>cases q<;>simp[vs]
 |slice q n c=>cases q<;>simp[Zt,vs]
 |map q=>cases q<;>simp[Zt,vs]
 |chan q=>cases q<;>simp[Zt,vs]
 |_=>simp[Zt,vs]
def sc(x y:Ze):Prop:=vs x=vs y/\vs x<4
def Lt{t x y}(h:¬sc x y):binOp .eql t x y=(do pure (.bool (<-Op.equal t x y)):Sem Value):=by
 cases x<;>cases y<;>first|rfl|exact absurd ⟨rfl,Zgm rfl⟩ h
def Lu{t x y}(h:¬sc x y):binOp .neq t x y=(do pure (.bool (!(<-Op.equal t x y))):Sem Value):=by
 cases x<;>cases y<;>first|rfl|exact absurd ⟨rfl,Zgm rfl⟩ h
def gs:Value->Nat
 |.nilIface=>0
 |.agg _=>1
 |_=>2
theorem F9 ρ v:gs (Zt ρ v)=gs v:=by
 cases v with
 |pointer q=>cases q<;>simp[gs]
 |slice q n c=>cases q<;>simp[Zt,gs]
 |map q=>cases q<;>simp[Zt,gs]
 |chan q=>cases q<;>simp[Zt,gs]
 |_=>simp[Zt,gs]
def z7 op t x y a b(h:¬(gs a=gs b/\gs a<2)):eqGuard op t x y a b=pure ():=by
 unfold eqGuard;generalize (!match op with|.eql=>xy|.neq=>xy|_=>xh)=g;cases g;simp;cases a<;>cases b<;>first|rfl|exact absurd ⟨rfl,Zgm rfl⟩ h
 rfl
section
variable {X:Cx}{V:Zd}
def TF{s}a(h:s=unsupported .addressObserved):X.Img X.Rv V s a:=by
 simp_all[Xk]
def Z1t t p y(f:X.Q.underlying t≠xk .unsafePointer):X.Img X.Rv V (do if(<-underlying t) matches .unsafePointer then movedPointer t (.pointer p) y else movedNumber t (.pointer p) y)
  (do if(<-underlying t) matches .unsafePointer then movedPointer t (Zt X.ρ (.pointer p)) (Zt X.ρ y)else movedNumber t (Zt X.ρ (.pointer p)) (Zt X.ρ y)):=by
 refine .bind (XV t) ?_;rintro a d _- ⟨rfl,h⟩;simp_all[absurd,jI]
def Z1y op t p k n(d:op≠.eql/\op≠.neq)(h:X.Q.underlying t≠xk .unsafePointer):
  X.Img X.Rv V (binOp op t (.pointer p) (.int k n)) (binOp op t (Zt X.ρ (.pointer p)) (.int k n)):=by
 have f:=Z1t (X:=X) (V:=V) t p (.int k n) h;have g:=jI (X:=X) (V:=V) t p (.int k (-n));rw[XP]at f g;obtain _|a:=p;rw[Uh]at*;cases op<;>first|exact absurd rfl d.1|exact absurd rfl d.2|exact TF _ rfl|exact f|exact g
 rw[Wr]at*;cases op<;>first|exact absurd rfl d.1|exact absurd rfl d.2|exact TF _ rfl|exact f|exact g|exact jH k a n|exact jH k a _
def Z1v op t p k n(d:op≠.eql/\op≠.neq)(g:X.Q.underlying t≠xk .unsafePointer):
  X.Img X.Rv V (binOp op t (.int k n) (.pointer p)) (binOp op t (.int k n) (Zt X.ρ (.pointer p))):=by
 have f:=jI (X:=X) (V:=V) t p (.int k n);rw[XP]at f;obtain _|a:=p;rw[Uh]at*;cases op<;>first|exact absurd rfl d.1|exact absurd rfl d.2|exact TF _ rfl|exact f
 rw[Wr]at*;cases op<;>first|exact absurd rfl d.1|exact absurd rfl d.2|exact TF _ rfl|exact f|exact jH k a _
def Z1z(f:X.Q.globals=#[])op t p q(d:op≠.eql/\op≠.neq)g:X.Img X.Rv V (binOp op t (.pointer p) (.pointer q)) g:=by
 obtain _|a:=p;cases q<;>cases op<;>first|exact absurd rfl d.1|exact absurd rfl d.2|exact TF _ rfl
 obtain _|b:=q;cases op<;>first|exact absurd rfl d.1|exact absurd rfl d.2|exact TF _ rfl
 cases op<;>first|exact absurd rfl d.1|exact absurd rfl d.2|exact TF _ rfl|exact .bad _ (DI f a b _ (P2 f _))|exact .bad _ (DI f a b _ (P1 f _))
def Pd op t p y(a:op≠.eql/\op≠.neq)(d:vs y≠0/\vs y≠4):binOp op t (.pointer p) y=unsupported .addressObserved:=by
 cases y<;>first
  |exact absurd rfl d.1
  |exact absurd rfl d.2
  |(cases p<;>cases op<;>first|rfl|exact absurd rfl a.1|exact absurd rfl a.2)
def Pc op t p y(a:op≠.eql/\op≠.neq)(d:vs y≠0/\vs y≠4):binOp op t y (.pointer p)=unsupported .addressObserved:=by
 cases y<;>first
  |exact absurd rfl d.1
  |exact absurd rfl d.2
  |(cases p<;>cases op<;>first|rfl|exact absurd rfl a.1|exact absurd rfl a.2)
def Pb op t x y(a:op≠.eql/\op≠.neq)(hx:vs x≠4)(d:vs y≠4)(h:¬sc x y):binOp op t x y=stuck "BinOp: no such operator on these operands" :=by
 cases x<;>first
  |exact absurd rfl hx
  | (cases y<;>first
    |exact absurd rfl d
    |exact absurd ⟨rfl,Zgm rfl⟩ h
    |(cases op<;>first|rfl|exact absurd rfl a.1|exact absurd rfl a.2))
def CB{v}(h:vs v=4):∃p,v=.pointer p:=by cases v<;>first|exact⟨_,rfl⟩|cases h
def Nt{v}(h:vs v=0):∃k n,v=.int k n:=by cases v<;>first|exact⟨_,_,rfl⟩|cases h
def Z1u(o:X.Q.globals=#[])op t x y(g:op≠.eql/\op≠.neq)(l:X.Q.underlying t≠xk .unsafePointer)(h:¬sc x y):X.Img X.Rv V (binOp op t x y) (binOp op t (Zt X.ρ x) (Zt X.ρ y)):=by
 by_cases j:vs x=4;obtain⟨p,rfl⟩:=CB j;by_cases d:vs y=4;obtain⟨q,rfl⟩:=CB d;simp_all[Z1z];by_cases f:vs y=0;obtain⟨k,n,rfl⟩:=Nt f;simp_all[XP,Z1y];simp_all[TF,Pd];by_cases d:vs y=4;obtain⟨q,rfl⟩:=CB d;by_cases a:vs x=0;obtain⟨k,n,rfl⟩:=Nt a;simp_all[XP,Z1v];simp_all[TF,Pc];simp_all[Pb,ZA]
def Z1A op t x y(h:sc x y):X.Img X.Rv V (binOp op t x y) (binOp op t (Zt X.ρ x) (Zt X.ρ y)):=by
 let⟨j,l⟩:=h;cases x<;>first|exact absurd l (Zhh rfl)|skip
 cases y<;>first|cases j|skip
 rename_i k a f b;rw[XP,XP];by_cases g:k=f;subst g;have e:∀s:Sem Value,(if k≠k then stuck "BinOp: operands of different kinds" else s)=s:=by simp
 cases op<;>first
  |(unfold binOp;dsimp only;exact FL _ _ _ _ _)
  |(unfold binOp;dsimp only;rw[e];first|exact Fi _ _ _ _|exact Z1M _ _ _ _|exact Fl _ _ _ _|exact Z1I _ _ _)
 have e:∀s:Sem Value,(if k≠f then stuck "BinOp: operands of different kinds" else s)=stuck "BinOp: operands of different kinds" :=by simp_all
 cases op<;>first
  |(unfold binOp;dsimp only;exact FL _ _ _ _ _)
  |(unfold binOp;dsimp only;rw[e];exact ZA _ _)
 cases y<;>first|cases j|skip
 rename_i k a f b;simp[Zt];by_cases g:k=f;subst g;have e:∀s:Sem Value,(if k≠k then stuck "BinOp: operands of different kinds" else s)=s:=by simp
 cases op<;>(unfold binOp;dsimp only;rw[e];first|exact Ft _ _ _ _|exact Fu _ _ _ _);have e:∀s:Sem Value,(if k≠f then stuck "BinOp: operands of different kinds" else s)=stuck "BinOp: operands of different kinds" :=by simp_all
 simp_all[binOp,ZA];cases y<;>first|cases j|skip
 rename_i k a b f c d;simp[Zt];by_cases g:k=f;subst g;have e:∀s:Sem Value,(if k≠k then stuck "BinOp: operands of different kinds" else s)=s:=by simp
 cases op<;>(unfold binOp;dsimp only;rw[e];exact Z1J _ _ _ _ _ _);have e:∀s:Sem Value,(if k≠f then stuck "BinOp: operands of different kinds" else s)=stuck "BinOp: operands of different kinds" :=by simp_all
 simp_all[binOp,ZA];cases y<;>first|cases j|skip
 simp_all[TZ,binOp,FM]
def Z1S n t x y(a:X.Q.underlying t=xk .bool):X.Img Eq V (Op.equalIn (n+1) t x y) (Op.equalIn (n+1) t (Zt X.ρ x) (Zt X.ρ y)):=by
 refine .bind (XV t) ?_;rintro f d _- ⟨rfl,h⟩;rw[a]at h;cases h;cases x<;>cases y<;>first|exact ZA _ _|(rw[U0,U0];exact .pure rfl)
def Cx.Small(X:Cx)(t:Zg):Prop:=(∃k,X.IntT t k)\/X.Q.underlying t=xk .bool
def Fs(g:X.Q.globals=#[])t x y(a:X.Small t):X.Img Eq V (Op.equal t x y) (Op.equal t (Zt X.ρ x) (Zt X.ρ y)):=by
 obtain⟨k,a⟩|a:=a;have h:=Fq (X:=X) (V:=V) 9999 t x y a.d g a.n;have f:X.Img Eq V (Op.equal t x y>>=λb=>pure b) (Op.equal t (Zt X.ρ x) (Zt X.ρ y)>>=λb=>pure b):=by
  refine .bind h ?_;rintro j b _- ⟨rfl,-⟩;exact .pure rfl
 simpa using f;exact Z1S 9999 t x y a
def Z1x(g:X.Q.globals=#[])op t x y(a:X.Small t):X.Img X.Rv V (binOp op t x y) (binOp op t (Zt X.ρ x) (Zt X.ρ y)):=by
 have o:X.Q.underlying t≠xk .unsafePointer:=by
  obtain⟨k,a⟩|a:=a;rw[a.d];simp;grind
 by_cases h:sc x y;simp_all[Z1A];have f:¬sc (Zt X.ρ x) (Zt X.ρ y):=by unfold sc at*;rwa[CC,CC]
 by_cases l:op=.eql;subst l;rw[Lt h,Lt f];refine .bind (Fs g t x y a) ?_;rintro j b _-rfl;exact .pure Zdq;by_cases n:op=.neq;subst n;rw[Lu h,Lu f];refine .bind (Fs g t x y a) ?_;rintro j b _-rfl;exact .pure Zdq;simp_all[Z1u]
def zM:TypeDesc->Value->Bool
 |.pointer _,.pointer xw=>xy
 |.interface _,.nilIface=>xy
 |.slice _,.slice xw _ _=>xy
 |.map _ _,.map xw=>xy
 |.func _ _ _,.nilFunc=>xy
 |_,_=>xh
def GN ρ{d y}(h:zM d y=xy):Zt ρ y=y/\vs y≥4:=by
 cases y with
 |pointer q=>cases q<;>first|(cases d<;>cases h;done)|simp_all[Zt,vs]
 |slice q n c=>cases q<;>first|(cases d<;>cases h;done)|simp_all[Zt,vs]
 |map q=>cases q<;>first|(cases d<;>cases h;done)|simp_all[Zt,vs]
 |nilFunc=>simp_all[Zt,vs]
 |nilIface=>simp_all[Zt,vs]
 |_=>cases d<;>cases h
def Fr t x y{d}(f:X.Q.underlying t=xk d)(a:zM d y=xy):X.Img Eq V (Op.equal t x y) (Op.equal t (Zt X.ρ x) y):=by
 refine .bind (XV t) ?_;rintro g k _- ⟨rfl,h⟩;rw[f]at h;cases h;cases d<;>first|(cases y<;>cases a;done)|skip
 all_goals
  cases y<;>first|(cases a;done)|skip
 .rename_i q;cases q<;>first|(cases a;done)|skip
  cases x<;>first|exact ZA _ _|skip
  rename_i p;cases p<;>(simp;exact .pure rfl)
 .rename_i q n c;cases q<;>first|(cases a;done)|skip
  cases x<;>first|exact ZA _ _|skip
  rename_i p l j;cases p<;>(simp[Zt];exact .pure rfl)
 .rename_i q;cases q<;>first|(cases a;done)|skip
  cases x<;>first|exact ZA _ _|skip
  rename_i p;cases p<;>(simp[Zt];exact .pure rfl)
 cases x<;>first|exact ZA _ _|(simp[Zt];exact .pure rfl)
 cases x<;>first|exact ZA _ _|(simp;exact .pure rfl)
def Z1w op(a:op=.eql\/op=.neq)t x y{d}(j:X.Q.underlying t=xk d)(f:zM d y=xy):X.Img X.Rv V (binOp op t x y) (binOp op t (Zt X.ρ x) y):=by
 let⟨_,l⟩:=GN X.ρ f;have h:¬sc x y:=λh=>by have:=h.1;have:=h.2;omega
 have g:¬sc (Zt X.ρ x) y:=by unfold sc at*;rwa[CC]
 obtain rfl|rfl:=a;rw[Lt h,Lt g];refine .bind (Fr t x y j f) ?_;rintro k b _-rfl;exact .pure Zdq;rw[Lu h,Lu g];refine .bind (Fr t x y j f) ?_;rintro k b _-rfl;exact .pure Zdq
def Z1Z op t x y a b(f:X.Small t):X.Img Eq V (eqGuard op t x y a b) (eqGuard op t x y (Zt X.ρ a) (Zt X.ρ b)):=by
 have n:X.Q.eqGuardType X.Q.depth t=xh/\X.P.eqGuardType X.P.depth t=xh:=by
  have e:X.Q.depth=(X.Q.depth-1)+1:=by simp[Program.depth]
  have o:X.P.depth=(X.Q.depth-1)+1:=e;rw[o,e];unfold Program.eqGuardType;rw[X.P_under];obtain⟨k,f⟩|f:=f;rw[f.d];simp;rw[f];simp
 have q:∀V,X.Img (λa b=>a=b/\a=xh) V (Op.eqGuardIn Op.maxDepth t .nilIface .nilIface) (Op.eqGuardIn Op.maxDepth t .nilIface .nilIface):=λV=>by
  refine .bind (XV t) ?_;rintro j u _- ⟨rfl,h⟩;obtain⟨k,f⟩|f:=f;rw[f.d]at h;cases h;exact .pure ⟨rfl,rfl⟩;rw[f]at h;cases h;exact .pure ⟨rfl,rfl⟩
 by_cases h:gs a=gs b/\gs a<2
 .let⟨l,p⟩:=h;cases a<;>first|exact absurd p (Zhh rfl)|skip
  .cases b<;>first|cases l|skip
   unfold eqGuard;generalize (!match op with|.eql=>xy|.neq=>xy|_=>xh)=g;cases g
   .simp;repeat' first
     |exact .pure rfl
     |(refine .bind (q V) ?_;rintro j b _- ⟨rfl,rfl⟩;exact .pure rfl)
     |split
   exact .pure rfl
  cases b<;>first|cases l|skip
  rw[Wq,Wq];unfold eqGuard;generalize (!match op with|.eql=>xy|.neq=>xy|_=>xh)=g;cases g;simp;refine .bind WA ?_;rintro j _ _- ⟨rfl,rfl⟩;refine .bind WA ?_;rintro r _ _- ⟨rfl,rfl⟩;rw[n.1,n.2];exact .pure rfl;exact .pure rfl
 rw[z7 op t x y a b h,z7 op t x y _ _ (by grind [F9])];exact .pure rfl
def Z1Y op t x c a b(j:gs b≠1):X.Img Eq V (eqGuard op t x (.const c) a b) (eqGuard op t x (.const c) (Zt X.ρ a) b):=by
 by_cases h:gs a=gs b/\gs a<2;let⟨d,f⟩:=h;cases a<;>first|exact absurd f (Zhh rfl)|exact absurd d.symm j|skip
 cases b<;>first|cases d|skip
 unfold eqGuard;generalize (!match op with|.eql=>xy|.neq=>xy|_=>xh)=g;cases g;simp;exact .pure rfl;exact .pure rfl;rw[z7 op t x _ a b h,z7 op t x _ _ _ (by rwa[F9])];exact .pure rfl
end
end
section
def J1(ρ:Zk):Place->Place
 |.val v=>.val (Zt ρ v)
 |.var a=>.var (ZR ρ a)
section
variable {X:Cx}{V:Zd}
def ze(t:Zg)(x:Place):X.Img X.Rv V (x.get t) ((J1 X.ρ x).get t):=by
 cases x with
 |val v=>exact .pure rfl
 |var a=>exact JY t a
def Z2j(a:Addr)(c b:Nat):X.Img (λa b=>b=ZR X.ρ a) V (partAt a c b) (partAt (ZR X.ρ a) c b):=by
 unfold partAt;refine .bind (jA a) ?_;rintro d n _-rfl;dsimp only;have h:=jA (X:=X) (V:=d) {block:=a.block,off:=a.off+c,spot:=xw};refine .bind h ?_;rintro f m _-rfl;refine .pure ?_;split<;>rfl
def jE(a:Addr)(f:Field):X.Img (λa b=>b=ZR X.ρ a) V (fieldPlace a f) (fieldPlace (ZR X.ρ a) f):=by
 unfold fieldPlace;refine .bind (Vu _) ?_;rintro d n _-rfl;split;exact Z2j _ _ _;rw[RW];exact .pure rfl
def JW:∀(l:List FieldStep) (V:Zd) (t:Zg) (x:Place),X.Img (λa b=>b=(a.1,J1 X.ρ a.2)) V (follow l t x) (follow l t (J1 X.ρ x))
 | [],V,t,x=>.pure rfl
 |s::g,V,t,x=>by
  unfold follow;refine .bind (WX _) ?_;rintro n d _-rfl;cases d<;>first|exact ZA _ _|skip
  rename_i h;dsimp only;cases h[s.index]? with
  |none=>exact ZA _ _
  |some f=>
   dsimp only;split;refine .bind (ze t x) ?_;rintro o v _-rfl;refine .bind (jy v) ?_;rintro p a _-rfl;refine .bind (jE a f) ?_;rintro j b _-rfl;exact JW g j f.type (.var b);cases x with
   |var a=>
    refine .bind (jE a f) ?_;rintro j b _-rfl;exact JW g j f.type (.var b)
   |val v=>
    cases v<;>first|exact ZA _ _|skip
    rename_i k;simp only[J1,Wq];refine .bind (zh f.type k f.offset) ?_;rintro j b _-rfl;exact JW g j f.type (.val b)
def Z2u(ts:Array TypeId)(t:Zg)(v:Ze)(a b:ByteArray):X.Img X.Rv V (Builtin.ssaWrapNilChk_ ts t #[v,.string a,.string b]) (Builtin.ssaWrapNilChk_ ts t #[Zt X.ρ v,.string a,.string b]):=by
 unfold Builtin.ssaWrapNilChk_;dsimp only;cases v<;>first|exact ZA _ _|skip
 rename_i p;cases p with
 |some p=>rw[Wr];exact .pure (Wr _ _).symm
 |none=>
  rw[Uh];refine .bind (Ub _) ?_;rintro f n _-rfl;split;exact TE;cases ts[0]? with
  |none=>exact ZA _ _
  |some pt=>
   dsimp only;refine .bind (WX _) ?_;rintro g d _-rfl;cases d<;>first|exact ZA _ _|skip
   dsimp only;refine .bind (VU _) ?_;rintro h i _-rfl;grind [ZA,String.fromUTF8?,jL,Xk]
def FJ(f:Zg)(x:Place)(b:Bool)(o:Option String):X.Img X.Rv V (receiverAt f x b o) (receiverAt f (J1 X.ρ x) b o):=by
 unfold receiverAt;refine .bind (WX _) ?_;rintro g d _-rfl
 have ptr:∀(V:Zd) (elem:Zg),X.Img X.Rv V (do
   let ptr<-x.get f
   let ptr<-match o with
    |some name=>Builtin.ssaWrapNilChk_ #[f] f #[ptr,strVal "",strVal name]
    |none=>pure ptr
   loadVar elem (<-asAddr ptr)) (do
   let ptr<-(J1 X.ρ x).get f
   let ptr<-match o with
    |some name=>Builtin.ssaWrapNilChk_ #[f] f #[ptr,strVal "",strVal name]
    |none=>pure ptr
   loadVar elem (<-asAddr ptr)):=λV elem=>by
  refine .bind (ze f x) ?_;rintro h v _-rfl;have last:∀V u,X.Img X.Rv V (do loadVar elem (<-asAddr u)) (do loadVar elem (<-asAddr (Zt X.ρ u))):=λV u=>by
   refine .bind (jy u) ?_;rintro k a _-rfl;exact JY _ _
  obtain _|name:=o;simp_all;refine .bind (Z2u _ _ _ _ _) ?_;rintro j u _-rfl;simp_all
 cases b with
 |true=>
  cases x with
  |val v=>cases d<;>first|exact .pure rfl|exact ZA _ _
  |var a=>cases d<;>first|exact JY _ _|exact .pure (Wr _ _).symm
 |false=>
  cases d<;>first|exact ptr g _|skip
  all_goals cases x<;>exact ze f _
def Z2k(t:Zg)(v:Ze)(a:Array FieldStep)(b:Bool):X.Img X.Rv V (receiverVia t v a b) (receiverVia t (Zt X.ρ v) a b):=by
 unfold receiverVia;refine .bind (JW a.toList V t (.val v)) ?_;rintro d ⟨f,x⟩ _-rfl;exact FJ _ _ _ _
def FE:∀(n:Nat) (V:Zd) (t:Zg) (v:Ze) (name:String),X.Img (λa b=>b=(a.1,Zt X.ρ a.2)) V (method n t v name) (method n t (Zt X.ρ v) name)
 |0,V,t,v,name=>Xk (λ_ h=>ZcZ) _
 |n+1,V,t,v,name=>by
  unfold method;refine .bind (VU t) ?_;rintro j i _-rfl;cases i.methods.find? (·.name==name)with
  |none=>exact ZA _ _
  |some m=>
   dsimp only;refine .bind (JW m.path.toList j t (.val v)) ?_;rintro l ⟨g,x⟩ _-rfl;dsimp only;cases m.func with
   |none=>
    dsimp only;refine .bind (ze g x) ?_;rintro d u _-rfl;cases u<;>first|exact ZA _ _|skip
    rw[TX];exact FE n d _ _ _;rw[TY];exact TE
   |some k=>
    obtain⟨f,b⟩:=k;dsimp only;refine .bind (FJ g x b _) ?_;rintro d u _-rfl;exact .pure rfl
def Mb(ρ:Zk):Except (Option Bool) (TypeId×Option Value)->Except (Option Bool) (TypeId×Option Value)
 |.ok p=>.ok (p.1,p.2.map (Zt ρ))
 |.error e=>.error e
def zd:∀(l:List FieldStep) (V:Zd) (t:Zg) (x:Option Value),X.Img (λa b=>b=Mb X.ρ a) V (followBlind l t x) (followBlind l t (x.map (Zt X.ρ)))
 | [],V,t,x=>.pure rfl
 |s::g,V,t,x=>by
  unfold followBlind;refine .bind (WX _) ?_;rintro j d _-rfl;cases d<;>first|exact ZA _ _|skip
  rename_i h;dsimp only;cases h[s.index]? with
  |none=>exact ZA _ _
  |some f=>
   dsimp only;cases s.deref;obtain _|v:=x;exact zd g j f.type xw;cases v<;>first|exact ZA _ _|skip
   rename_i n;simp only[Ze4,Wq];refine .bind (zh f.type n f.offset) ?_;rintro k b _-rfl;exact zd g k f.type (xk b);obtain _|v:=x;exact .pure rfl;cases v<;>first|exact ZA _ _|skip
   rename_i p;obtain _|a:=p;simp only[Ze4,Uh];exact .pure rfl;simp only[Ze4,Wr];exact zd g j f.type xw
def FG:∀(n:Nat) (V:Zd) (t:Zg) (v:Ze) (name:String),X.Img Eq V (nilAhead n t v name) (nilAhead n t (Zt X.ρ v) name)
 |0,V,t,v,name=>.pure rfl
 |n+1,V,t,v,name=>by
  unfold nilAhead;refine .bind (VU t) ?_;rintro a i _-rfl;cases i.methods.find? (·.name==name)with
  |none=>exact ZA _ _
  |some m=>
   dsimp only;refine .bind (zd m.path.toList a t (xk v)) ?_;rintro h r _-rfl;cases r with
   |error e=>exact .pure rfl
   |ok p=>
    obtain⟨k,x⟩:=p;simp only[Mb];cases m.func with
    |none=>
     obtain _|u:=x;exact .pure rfl;cases u<;>first|exact ZA _ _|skip
     simp_all[Ze4,TX,FG];simp only[Ze4,TY];exact .pure rfl
    |some g=>
     obtain⟨f,b⟩:=g;cases b;dsimp only;refine .bind (WX _) ?_;rintro j d _-rfl;cases d<;>first|(cases x<;>exact .pure rfl)|skip
     obtain _|u:=x;exact .pure rfl;cases u with
     |pointer q=>cases q<;>(simp only[Ze4,Zt];exact .pure rfl)
     |slice q n c=>cases q<;>(simp only[Ze4,Zt];exact .pure rfl)
     |map q=>cases q<;>(simp only[Ze4,Zt];exact .pure rfl)
     |chan q=>cases q<;>(simp only[Ze4,Zt];exact .pure rfl)
     |_=>simp only[Ze4,Zt];exact .pure rfl
     exact .pure rfl
end
end
section
def ZV:Operand->Bool
 |.tmp _|.func _=>xy
 |.const v=>still 9 v
 |.global _=>xh
section
variable (Q:Z5)
def Sz(t:Zg):Bool:=match Q.underlying t with|some (.int _)=>xy|_=>xh
def Kc(t:Zg):Bool:=match Q.info? t with|some i=>(match i.desc with|.named n _=>n != "sync.copyChecker" |_=>xy)|none=>xy
def jS(t:Zg):Bool:=(Sz Q t&&Kc Q t)||(match Q.underlying t with|some .bool=>xy|_=>xh)
def QG(t:Zg):Bool:=match Q.underlying t with|some (.slice _)=>xy|_=>xh
def K1(t:Zg):Bool:=match Q.underlying t with|some (.map a _)=>Sz Q a&&Kc Q a|_=>xh
def Ay(t:Zg):Bool:=match Q.underlying t with|some (.interface _)=>xh|_=>xy
def H5(op:BinOp)(t:Zg)(y:Operand):Bool:=
 jS Q t||((match op with|.eql|.neq=>xy|_=>xh)&&(match y with|.const v=>(match Q.underlying t with|some d=>zM d v|none=>xh)|_=>xh))
def Fc(t:Zg):Bool:=match Q.underlying t with|some (.slice _)|some (.map ..)|some (.array ..)=>xy|_=>xh
def UI(r:Bool)(c:Call):Bool:=match c.callee with
 |.builtin .len=>c.args.size==1&&(match c.argTypes[0]? with|some t=>Fc Q t|none=>xh)
 |.builtin .append=>c.args.size==2&&(match c.argTypes[0]? with|some t=>QG Q t|none=>xh)&&(match c.argTypes[1]? with|some t=>QG Q t||Sz Q t|none=>xh)
 |.builtin .recover=> !r
 |.builtin .close=>c.args.size==1
 |.builtin .min|.builtin .max=>xy
 |.builtin .copy=>c.args.size==2
 |.builtin .clear=>c.args.size==1&&(match c.argTypes[0]? with|some t=>QG Q t||K1 Q t|none=>xh)
 |.builtin _=>xh
 |.value f=>ZV f
 |.invoke x _=>ZV x
def XQ(r:Bool):Op->Bool
 |.move x|.assign x|.box _ x|.load _ x|.nilCheck x|.makeInterface _ x|.panic x|.extract x _=>ZV x
 |.field _ x _|.fieldAddr _ x _=>ZV x
 |.pick a b c=>ZV a&&ZV b&&ZV c
 |.alloc _=>xy
 |.build _ j|.buildSlice _ _ j=>j.all λp=>ZV p.2
 |.store _ a v|.index _ a v|.indexAddr _ a v=>ZV a&&ZV v
 |.binOp op t x y _=>ZV x&&ZV y&&H5 Q op t y
 |.unOp _ _ x=>ZV x
 |.makeSlice _ l c=>ZV l&&ZV c
 |.convert s d x=>ZV x&&Sz Q s&&Sz Q d
 |.makeFunc fn a b=>(match fn with|.yield _=>xh|_=>xy)&&a.all ZV&&b.all ZV
 |.makeMap _ o=>o.all ZV
 |.slice t x l h m=>ZV x&&l.all ZV&&h.all ZV&&m.all ZV&&QG Q t
 |.lookup t x y _=>ZV x&&ZV y&&K1 Q t
 |.mapUpdate t x y z|.insert t x y z=>ZV x&&ZV y&&ZV z&&K1 Q t
 |.typeAssert x _ a ok=>ZV x&&ok&&Ay Q a
 |.call c=>c.args.all ZV&&UI Q r c
 |.defer c=> !r&&c.args.all ZV&&(match c.callee with|.builtin _=>xh|.value f=>ZV f|.invoke x _=>ZV x)
 |.send g v=>ZV g&&ZV v
 |.recv _ g _=>ZV g
 |.go c=>c.args.all ZV&&(match c.callee with|.value (.func _)=>xy|_=>xh)
 |_=>xh
def qi:Op->Bool
 |.send .. |.recv .. |.go _=>xy
 |_=>xh
def YT:Bool->Code->Bool
 |r,.region _ d _=>d.all λo=>XQ Q r o.op
 |r,.seq a b=>YT r a&&YT r b
 |r,.cond c a b=>ZV c&&YT r a&&YT r b
 |r,.block _ c|r,.loop c|r,.scope c=>YT r c
 |_,.rangeFunc f _ a b=>ZV f&&YT xy a&&YT xy b
 |_,_=>xy
end
def QF:Code->Bool
 |.ret|.exit _|.goto _=>xy
 |_=>xh
def VV(d:Deferred):Bool:=match d.target with
 |.builtin .. |.coroexit _=>xh
 |_=>xy
abbrev Zo:=FuncId
def Cx.Okf(X:Cx)(f:Zo):Prop:=∃fn c,X.Q.funcs[f]?=xk fn/\X.fs[f]?=xk fn/\fn.body=xk c/\YT X.Q xh c=xy
def Cx.Okn(X:Cx)(f:Zo):Prop:=X.Okf f\/(X.Q.funcs[f]?=xw/\X.fs[f]?=xw)\/∃fn a,X.Q.funcs[f]?=xk fn/\X.fs[f]?=xk a/\a.results=fn.results
structure Cx.Ok (X:Cx):Prop where
 zero:X.Zero
 glob:X.Q.globals=#[]
 kl:∀l,X.KL l↔(YT X.Q xy l.assign=xy/\YT X.Q xy l.body=xy/\l.pending.all QF=xy/\X.Okn l.fn)
 kd:∀d,X.KD d↔VV d=xy
 fn:∀(f:Zo) (fn:Func),X.Q.funcs[f]?=xk fn->(fn.name= "?" /\fn.origin= "?" /\fn.body=xw)\/((fn.name== "runtime.NumGoroutine")=xh/\X.fs[f]?=xk fn/\∃c,fn.body=xk c/\YT X.Q xh c=xy)
def Cx.NR(X:Cx)(rd:Bool):Next->Next->Prop
 |.value v,b=>b=.value (Zt X.ρ v)
 |.skip,b=>b=.skip
 |.enter f args,b=>b=.enter f (args.map (Zt X.ρ))/\X.Okf f
 |.round l f g a c,b=>b=.round (X.ρ l) f (g.map (Zt X.ρ)) a c/\YT X.Q xy a=xy/\YT X.Q xy c=xy/\X.Okn f
 |.defer d,b=>b=.defer (Xb X.ρ d)/\VV d=xy
 |.recover,b=>b=.recover/\rd=xh
 |_,_=>False
theorem Z68:Extern.allNextRows.lookup "?" =xw:=by kernel_rfl
theorem ZbS:Extern.allGenericRows.lookup "?" =xw:=by kernel_rfl
theorem ZbT:Extern.allTypedRows.lookup "?" =xw:=by kernel_rfl
theorem Z69:Extern.allRows.lookup "?" =xw:=by kernel_rfl
section
variable {X:Cx}{V:Zd}{rd:Bool}
theorem jC(ok:X.Ok)f args:X.Img (X.NR rd) V (callFunc f args) (callFunc f (args.map (Zt X.ρ))):=by
 unfold callFunc;cases g:X.Q.funcs[f]? with
 |none=>
  refine .bad _ λw=>⟨.stuck "call: no such function",w,?_,trivial⟩;simp only[Zel,ZfU,Zem,g];rfl
 |some fn=>
  obtain⟨a,d,h⟩|⟨a,d,c,h,l⟩:=ok.fn f fn g;refine .bad _ λw=>⟨.unsupported (.extern fn.name),w,?_,trivial⟩;have j:Extern.findNext fn=xw:=by unfold Extern.findNext;simp only[a,d,Z68];rfl
  have k:Extern.find fn=xw:=by unfold Extern.find;simp only[a,d,Z69];rfl
  simp[g,a,h,j,k];rfl;refine .bind WA ?_;rintro n _ _- ⟨rfl,rfl⟩;rw[show X.P.funcs[f]?=xk fn from d,g];simp[a,h,Option.isNone_some];exact .pure ⟨rfl,fn,c,g,d,h,l⟩
theorem zB{α β:Type}(f:α->β)x:(#[x]:Array α).map f=#[f x]:=Z1
theorem jD(ok:X.Ok)v name args:X.Img (X.NR rd) V (callMethod v name args) (callMethod (Zt X.ρ v) name (args.map (Zt X.ρ))):=by
 unfold callMethod;cases v<;>first|exact ZA _ _|skip
 rw[TX];refine .bind WA ?_;rintro d _ _- ⟨rfl,rfl⟩;refine .bind (FE _ _ _ _ _) ?_;rintro a ⟨f,u⟩ _-rfl;have:=jC (rd:=rd) (V:=a) ok f (#[u]++args);simp_all;simp_all[TY,TE]
theorem Z1H ts t v:X.Img X.Rv V (Builtin.close_ ts t #[v]) (Builtin.close_ ts t #[Zt X.ρ v]):=by
 cases v<;>first|exact ZA _ _|skip
 rename_i r;obtain _|r:=r;rw[show Zt X.ρ _=.chan xw by simp[Zt]];exact jL _;rw[show Zt X.ρ _=.chan (xk (X.ρ r))by simp[Zt]];refine .get (λw=>⟨_,w,rfl,trivial⟩) λo a=> ?_;cases o<;>first|exact ZA _ _|exact a.elim
theorem NV ρ:∀(f:List Tmp) args (d:Za),
  (f.zip (args.map (Zt ρ))).foldl (λd x=>d.setIfInBounds x.1 x.2) (d.map (Zt ρ))=((f.zip args).foldl (λd x=>d.setIfInBounds x.1 x.2) d).map (Zt ρ)
 | [],_,_=>rfl
 |_::_,[],_=>rfl
 |p::f,a::args,d=>by
  simp;rw[map_set];exact NV ρ f args _
theorem JX{α β RA l}{f:Loop->Sem α}{a:Loop->Sem β}(h:∀r,X.KL r->X.Img RA (l::V) (f r) (a (KM X.ρ r))):X.Img RA V (Instr.getLoop l>>=f) (Instr.getLoop (X.ρ l)>>=a):=by
 refine .get (λw=>⟨_,w,rfl,trivial⟩) λo d=> ?_;cases o<;>first|exact h _ d|exact ZA _ _
theorem Z2v(ok:X.Ok)l args:X.Img (X.NR rd) V (Instr.yield l args) (Instr.yield (X.ρ l) (args.map (Zt X.ρ))):=by
 refine JX λr g=> ?_;let⟨a,d,_,f⟩:=(ok.kl r).1 g;simp only[Zhi,KM];split;exact ZA _ _;refine .pure ⟨?_,a,d,f⟩;rw[<-Zg8,<-Zg8,Array.toList_zip];simp_all[NV]
theorem jG(ok:X.Ok)t args(k:VV ⟨t,args⟩=xy):X.Img (X.NR rd) V (invoke t args) (invoke (J2 X.ρ t) (args.map (Zt X.ρ))):=by
 have a:(args.map (Zt X.ρ)).extract 1 (args.map (Zt X.ρ)).size=(args.extract 1 args.size).map (Zt X.ρ):=Z1;unfold invoke;cases t with
 |nil=>exact TE
 |builtin=>cases k
 |coroexit=>cases k
 |collected r=>exact ZA _ _
 |fn fn c=>
  cases fn with
  |func f=>
   simp;have:=jC (rd:=rd) (V:=V) ok f (args++c);rw[ZfL]at this;exact this
  |method name=>
   simp only[Zeg];rw[a];cases args[0]? with
   |none=>exact ZA _ _
   |some v=>exact jD ok v name _
  |methodOf t name=>
   simp only[Zeg];rw[a];cases args[0]? with
   |none=>exact ZA _ _
   |some v=>
    refine .bind (WX _) ?_;rintro h d _-rfl;have j:=jD (rd:=rd) (V:=h) ok (.iface t v) name (args.extract 1 args.size);rw[TX]at j;cases d<;>first|exact(jD (rd:=rd) (V:=h) ok v name (args.extract 1 args.size))|exact j
  |via t g f b=>
   simp only[Zeg];rw[a];cases args[0]? with
   |none=>exact ZA _ _
   |some v=>
    refine .bind (Z2k t v g b) ?_;rintro n u _-rfl;have:=jC (rd:=rd) (V:=n) ok f (#[u]++args.extract 1);rw[ZfL,zB]at this;exact this
  |yield l=>exact Z2v ok l args
theorem FH f args:X.Img (λa b=>b=Xb X.ρ a/\VV a=xy) V (Deferred.ofValue f args) (Deferred.ofValue (Zt X.ρ f) (args.map (Zt X.ρ))):=by
 cases f<;>first|exact ZA _ _|skip
 simp[Zt];refine .pure ⟨?_,rfl⟩;simp[Xb,J2];rw[yJ];exact .pure ⟨rfl,rfl⟩
theorem Z1Q(ok:X.Ok)fn tmps f a b o(q:X.Okn fn)(n:YT X.Q xy a=xy)(p:YT X.Q xy b=xy):
  X.Img (λx y=>y=(X.ρ x.1,x.2.map (Xb X.ρ))/\∀d∈x.2,VV d=xy) V (Instr.enterLoop fn tmps f a b o) (Instr.enterLoop fn (tmps.map (Zt X.ρ)) f a b (o.map X.ρ)):=by
 have last:∀V r mk,(∀d∈mk,VV d=xy)->X.Img (λx y=>y=(X.ρ x.1,x.2.map (Xb X.ρ))/\∀d∈x.2,VV d=xy) V
   (do pure (<-newObj (.loop {state:=.ready,pending:=xw,fn,tmps,params:=f,assign:=a,body:=b,defers:=r}),mk):Sem (Nat×List Deferred))
   (do pure (<-newObj (.loop {state:=.ready,pending:=xw,fn,tmps:=tmps.map _,params:=f,assign:=a,body:=b,defers:=X.ρ r}),mk.map _):Sem _):=λV r mk j=>by
  have h:X.Img (λa b=>b=X.ρ a) V _ (newObj (XO X.ρ (.loop ⟨.ready,xw,fn,tmps,f,a,b,r⟩))):=
   .new (o:=.loop _) ((ok.kl _).2 ⟨n,p,rfl,q⟩) Z1 λr=>.pure rfl
  refine .bind h ?_;rintro k l _-rfl;exact .pure ⟨rfl,j⟩
 obtain _|l:=o;simp;have h:X.Img (λa b=>b=X.ρ a) V _ _:=
  .new (o:=.deferred (xk [])) (λd g=>by cases g) Z1 λr=>.pure rfl
 refine .bind h ?_;rintro k r _-rfl;have h:=last k r [{target:=.collected r,args:=#[]}] (λd g=>by simp at g;subst g;rfl);simp_all[List.map,Xb,J2];simp;refine JX λr t=> ?_;exact last _ r.defers [] Z1
theorem jM{α β RA l r}{k:Sem α}{k':Sem β}(a:l∈V)(d:X.KL r)(h:X.Img RA V k k'):X.Img RA V (setObj l (.loop r)>>=λ_=>k) (setObj (X.ρ l) (.loop (KM X.ρ r))>>=λ_=>k'):=
 .set (o:=.loop r) a d Z1 h
theorem Z1s(ok:X.Ok)l:X.Img Eq V (Instr.beginRound l) (Instr.beginRound (X.ρ l)):=by
 refine JX λr a=> ?_;refine jM (r:= {r with state:=.busy}) Z1 ((ok.kl _).2 ((ok.kl r).1 a)) ?_;show X.Img Eq _ _ (match r.state with|.ready=>_|.done=>_|.busy=>_|.exhausted=>_);cases r.state<;>first|exact .pure rfl|exact TG _
theorem Z1P(ok:X.Ok)l j(g:j.all QF=xy):X.Img X.Rv V (Instr.endRound l j) (Instr.endRound (X.ρ l) j):=by
 refine JX λr h=> ?_;let⟨a,d,_,f⟩:=(ok.kl _).1 h;refine jM (r:= {r with state:=if j.isNone then .ready else .done,pending:=j}) Z1 ((ok.kl _).2 ⟨a,d,g,f⟩) ?_;exact .pure Zdq
theorem Z1O(ok:X.Ok)l:X.Img (λa b=>a=b/\a.all QF=xy) V (Instr.endLoop l) (Instr.endLoop (X.ρ l)):=by
 refine JX λr d=> ?_;have e:(KM X.ρ r).state=r.state:=rfl;rw[e];have h:=(ok.kl _).1 d;split;exact TG _;refine jM (r:= {r with state:=.exhausted}) Z1 ((ok.kl _).2 h) ?_;exact .pure ⟨rfl,h.2.2.1⟩
theorem Z2r(ok:X.Ok)l:X.Img (λa b=>b=a.map (Xb X.ρ)/\∀d∈a,VV d=xy) V (Instr.takeDeferred l) (Instr.takeDeferred (X.ρ l)):=by
 refine .get (λw=>⟨_,w,rfl,trivial⟩) λo h=> ?_;cases o<;>first|exact ZA _ _|skip
 rename_i f;obtain _|f:=f;exact ZA _ _;refine .set (o:=.deferred xw) Z1 trivial Z1 (.pure ⟨rfl,λd g=>(ok.kd d).1 (h d g)⟩)
end
end
section
section
variable {X:Cx}{V:Zd}
def Fy(x:Ze):X.Img Eq V (Builtin.lenOf x) (Builtin.lenOf (Zt X.ρ x)):=by
 cases x<;>first|exact ZA _ _|skip
 rw[TZ];exact .pure rfl;rename_i a n c;have d:Zt X.ρ (.slice a n c)=.slice (a.map (ZR X.ρ)) n c:=by cases a<;>simp[Zt]
 rw[d];exact .pure rfl
def JV(s n:Nat)(x:Ze):X.Img (λa b=>b=a.map (Zt X.ρ)) V (Builtin.firstCells s n x) (Builtin.firstCells s n (Zt X.ρ x)):=by
 cases x<;>first|exact ZA _ _|skip
 rw[TZ];refine .pure ?_;have e:(Zt X.ρ∘λb:UInt8=>Value.int .u8 b.toNat)=λb=>Value.int .u8 b.toNat:=by funext b;simp
 simp[Array.map_map,e];rename_i a m c;obtain _|a:=a;simp only[Zt];exact .pure Z1;simp only[Zt];exact FA a _
def qt(ρ:Zk)(z:Za)(n:Nat)(h:z.map (Zt ρ)=z):(Builtin.zeroCells z n).map (Zt ρ)=Builtin.zeroCells z n:=by
 unfold Builtin.zeroCells;refine RI λx f=> ?_;obtain⟨i,_,rfl⟩:=Zgs.1 f;by_cases a:i%z.size<z.size;rw[Zi6 z _ a];have d:(z.map (Zt ρ))[i%z.size]?=z[i%z.size]? :=by rw[h]
 rw[Zeg,Zed a]at d;exact Zfx d;rw[Zi5 z _ a];have e:(default:Ze)=.bool default:=rfl;rw[e,U0]
def Z6o(p:Z5)(a b n:Nat)(base:Option Addr)(x:Ze)(w:Z4):∃r,(Builtin.mayShare a b n base x).run p w=.ok r w:=by
 have f:∀(c:Addr) (m:Nat),∃r,(Builtin.holdsCells c m).run p w=.ok r w:=λc m=>by
  unfold Builtin.holdsCells;simp only[Zel,Zi3,Zem];split<;>exact⟨_,rfl⟩
 have last:∃r,(match x with
   |.slice (xk b) _ _=>do pure (!(<-Builtin.holdsCells b (n*a))||base.any (·.block==b.block))
   |_=>pure xh:Sem Bool).run p w=.ok r w:=by
  cases x with
  |slice q _ _=>
   obtain _|q:=q;exact⟨_,rfl⟩;obtain⟨r,d⟩:=f q (n*a);simp only[Zel,d,Zem];exact⟨_,rfl⟩
  |_=>exact⟨_,rfl⟩
 unfold Builtin.mayShare;obtain _|c:=base;obtain⟨r,d⟩:=last;exact⟨r,d⟩;obtain⟨r,d⟩:=f c (b*a);simp only[Zel,d,Zem,run_frozen,ZfC];cases(r&& !w.frozen? (c.add (b / 2*a)))with
 |false=>exact⟨_,rfl⟩
 |true=>exact last
def Z1o(P:X.Zero)(ts:Array TypeId)(ty t u e K:Zg)(s x:Ze)(L:ts[0]?=xk t)(M:ts[1]?=xk u)(O:X.Q.underlying t=xk (.slice e))(hx:X.Q.underlying u=xk (.slice K)):
  X.Img X.Rv V (Builtin.append_ ts ty #[s,x]) (Builtin.append_ ts ty #[Zt X.ρ s,Zt X.ρ x]):=by
 have I:∀y z:Ze,(#[y,z]:Array Value)[0]?=xk y:=λ_ _=>rfl;have J:∀y z:Ze,(#[y,z]:Array Value)[1]?=xk z:=λ_ _=>rfl;unfold Builtin.append_;simp only[L,M,I,J];refine .bind (XV t) ?_;rintro D d _- ⟨rfl,h⟩;rw[O]at h;cases h;cases s<;>first|exact ZA _ _|skip
 rename_i base n c;have A:Zt X.ρ (.slice base n c)=.slice (base.map (ZR X.ρ)) n c:=by cases base<;>simp[Zt]
 rw[A];dsimp only;refine .bind (Vu e) ?_;rintro F size _-rfl;refine .bind (XV u) ?_;rintro G d _- ⟨rfl,h⟩;rw[hx]at h;cases h;simp only[pure_bind,ZdZ,Zeu,Bool.not_false,Zer,false_or];refine .bind (Fy x) ?_;rintro H m _-rfl;by_cases C:n+m<=c;simp only[if_pos C];refine .bind (JV size m x) ?_;rintro o new _-rfl;obtain _|a:=base;exact .pure Zd1;simp only[Ze4];rw[RW,Zf1];refine .bind (JZ (a.add (n*size)) new.toList o 0) ?_;rintro l _ _- -;exact .pure Zd1;simp only[if_neg C];refine .bind (VU e) ?_;rintro o i _-rfl
 have g:∀V,X.Img X.Rv V (do
   let f<-choose (.appendCap (n+m) c e)
   askRoom (f*(<-typeInfo e).bytes)
   let j<-Builtin.firstCells size n (.slice base n c)
   let new<-Builtin.firstCells size m x
   let g:=Builtin.zeroCells (<-zeroValue e).cells (f- (n+m))
   pure (.slice (xk (<-newRow e (j++new++g))) (n+m) f):Sem Value) (do
   let f<-choose (.appendCap (n+m) c e)
   askRoom (f*(<-typeInfo e).bytes)
   let j<-Builtin.firstCells size n (.slice (base.map (ZR X.ρ)) n c)
   let new<-Builtin.firstCells size m (Zt X.ρ x)
   let g:=Builtin.zeroCells (<-zeroValue e).cells (f- (n+m))
   pure (.slice (xk (<-newRow e (j++new++g))) (n+m) f):Sem Value):=λV=>by
  refine .bind (Ub _) ?_;rintro D k _-rfl;refine .bind (VU e) ?_;rintro F i _-rfl;refine .bind (RA:=Eq) ?_ ?_;unfold askRoom;split;exact .room (.pure rfl);exact .pure rfl;rintro G _ _- -;rw[<-A];refine .bind (JV size n _) ?_;rintro H j _-rfl;refine .bind (JV size m x) ?_;rintro o new _-rfl;refine .bind (Tc P e) ?_;rintro l z _- ⟨rfl,p⟩;have q:z.cells.map (Zt X.ρ)=z.cells:=by rw[<-Tm,p]
  have h:=zg (X:=X) (V:=l) e (j++new++Builtin.zeroCells z.cells (k- (n+m))) (n+m) k;rw[ZfL,ZfL,qt X.ρ z.cells _ q]at h;exact h
 split;exact .bind (RA:=λ_ _=>False) (TG _) λ_ _ _ _ h=>h.elim;refine .bind (VU e) ?_;rintro l R _-rfl;by_cases B:Builtin.nextslicecap (n+m) c*R.bytes>2 ^ 48;simp only[if_pos B];refine .bad _ λw=> ?_;obtain⟨r,N⟩:=Z6o X.Q size n m base x w;refine⟨.unsupported (.resourceLimit "append: a slice or a string whose bytes no memory bears"),w,?_,trivial⟩;simp only[Zel,N,Zem];cases r<;>rfl;simp only[if_neg B];exact g l
end
end
section
section
variable {X:Cx}{V:Zd}
def TW ρ k b:Zt ρ (.float k b)=.float k b:=ZdC
def BH ρ k a b:Zt ρ (.complex k a b)=.complex k a b:=ZdC
def Z2t op x:X.Img X.Rv V (Op.unary op x) (Op.unary op (Zt X.ρ x)):=by
 unfold Op.unary;cases op<;>cases x<;>first|exact ZA _ _|skip
 grind [XP,Fi];rw[TW];exact .pure (TW ..).symm;rw[BH];exact .pure (BH ..).symm;grind [ZA,Xk];grind [XP,Fl];grind [ZA,Xk];rw[U0];exact .pure (U0 ..).symm
def Fj n:X.Img Eq V (askRoom n) (askRoom n):=by
 unfold askRoom;split;exact .room (.pure rfl);exact .pure rfl
def Z28(C:X.Zero)t x y:X.Img X.Rv V (Instr.makeSlice t x y) (Instr.makeSlice t (Zt X.ρ x) (Zt X.ρ y)):=by
 refine .bind (XV t) ?_;rintro q d _- ⟨rfl,F⟩;cases d<;>first|exact ZA _ _|skip
 rename_i e;refine .bind (JT x) ?_;rintro r l _-rfl;refine .bind (JT y) ?_;rintro u c _-rfl;refine .bind (VU e) ?_;rintro w i _-rfl;dsimp only
 have f:∀V,X.Img X.Rv V (do
   askRoom _
   let n:=(IntKind.i64.wrap c).toNat*(<-sizeOf e);let zero<-if n=0 then pure #[]else do pure (<-zeroValue e).cells
   let a<-newRow e ((Array.range n).map (zero[· %zero.size]!))
   pure (.slice (xk a) (IntKind.i64.wrap l).toNat (IntKind.i64.wrap c).toNat):Sem Value) (do
   askRoom ((IntKind.i64.wrap c).toNat*i.bytes)
   let n:=(IntKind.i64.wrap c).toNat*(<-sizeOf e);let zero<-if n=0 then pure #[]else do pure (<-zeroValue e).cells
   let a<-newRow e ((Array.range n).map (zero[· %zero.size]!))
   pure (.slice (xk a) (IntKind.i64.wrap l).toNat (IntKind.i64.wrap c).toNat):Sem Value):=λV=>by
  refine .bind (Fj _) ?_;rintro q _ _- -;refine .bind (Vu e) ?_;rintro r s _-rfl;dsimp only
  have fin:∀V (z:Za),z.map _=z->X.Img X.Rv V (do
    let a<-newRow e _
    pure _:Sem Value) (do
    let a<-newRow e _
    pure _:Sem Value):=λV z o=>by
   have h:=zg (X:=X) (V:=V) e ((Array.range ((IntKind.i64.wrap c).toNat*s)).map (z[· %z.size]!)) (IntKind.i64.wrap l).toNat (IntKind.i64.wrap c).toNat;have A:((Array.range ((IntKind.i64.wrap c).toNat*s)).map (z[· %z.size]!)).map (Zt X.ρ)=(Array.range ((IntKind.i64.wrap c).toNat*s)).map (z[· %z.size]!):=by
    refine RI λx B=> ?_;obtain⟨i,_,rfl⟩:=Zgs.1 B;by_cases g:i%z.size<z.size;rw[Zi6 z _ g];have p:(z.map (Zt X.ρ))[i%z.size]?=z[i%z.size]? :=by rw[o]
    rw[Zeg,Zed g]at p;exact Zfx p;rw[Zi5 z _ g];exact U0 _ _
   rw[A]at h;exact h
  split;simp only[pure_bind];exact fin _ _ Z1;refine .bind (Tc C e) ?_;rintro u z _- ⟨rfl,j⟩;simp[pure_bind];exact fin _ _ (by rw[<-Tm,j])
 split;split;exact .bind (RA:=λ_ _=>False) (TG _) λ_ _ _ _ h=>h.elim;split;exact .bind (RA:=λ_ _=>False) (TG _) λ_ _ _ _ h=>h.elim;refine .bind (Ub _) ?_;rintro D k _-rfl;exact .bind (RA:=λ_ _=>False) (TG _) λ_ _ _ _ h=>h.elim;exact f w
def Lv(x y:Ze):Prop:=(∃k a l b,x=.int k a/\y=.int l b)\/(∃k a l b,x=.float k a/\y=.float l b)\/∃a b,x=.string a/\y=.string b
theorem Z3f{x y}(h:¬Lv x y):(∃s,Builtin.min2 x y=stuck s)\/Builtin.min2 x y=unsupported .addressObserved:=by
 cases x<;>cases y<;>first
  |exact .inl ⟨_,rfl⟩
  |exact .inr rfl
  |exact absurd (.inl ⟨_,_,_,_,rfl,rfl⟩) h
  |exact absurd (.inr (.inl ⟨_,_,_,_,rfl,rfl⟩)) h
  |exact absurd (.inr (.inr ⟨_,_,rfl,rfl⟩)) h
  |(rename_i p;cases p<;>first|exact .inl ⟨_,rfl⟩|exact .inr rfl)
  |(rename_i p q;cases p<;>cases q<;>first|exact .inl ⟨_,rfl⟩|exact .inr rfl)
  |(rename_i p q;cases p<;>first|exact .inl ⟨_,rfl⟩|exact .inr rfl)
  |(rename_i p q r;cases p<;>first|exact .inl ⟨_,rfl⟩|exact .inr rfl)
  |(rename_i p q r s;cases p<;>first|exact .inl ⟨_,rfl⟩|exact .inr rfl)
theorem Z3a{x y}(h:¬Lv x y):(∃s,Builtin.max2 x y=stuck s)\/Builtin.max2 x y=unsupported .addressObserved:=by
 cases x<;>cases y<;>first
  |exact .inl ⟨_,rfl⟩
  |exact .inr rfl
  |exact absurd (.inl ⟨_,_,_,_,rfl,rfl⟩) h
  |exact absurd (.inr (.inl ⟨_,_,_,_,rfl,rfl⟩)) h
  |exact absurd (.inr (.inr ⟨_,_,rfl,rfl⟩)) h
  |(rename_i p;cases p<;>first|exact .inl ⟨_,rfl⟩|exact .inr rfl)
  |(rename_i p q;cases p<;>cases q<;>first|exact .inl ⟨_,rfl⟩|exact .inr rfl)
  |(rename_i p q;cases p<;>first|exact .inl ⟨_,rfl⟩|exact .inr rfl)
  |(rename_i p q r;cases p<;>first|exact .inl ⟨_,rfl⟩|exact .inr rfl)
  |(rename_i p q r s;cases p<;>first|exact .inl ⟨_,rfl⟩|exact .inr rfl)
theorem FI{op}a b:X.Img X.Rv V (do pure (.string (if<-asBool (<-Op.stringOp op a b)then a else b)):Sem Value) (do pure (.string (if<-asBool (<-Op.stringOp op a b)then a else b)):Sem Value):=by
 refine .bind (FM op a b) ?_;rintro d v _-rfl;refine .bind (jz v) ?_;rintro f c _-rfl;exact .pure (TZ ..).symm
theorem Z2c x y:X.Img X.Rv V (Builtin.min2 x y) (Builtin.min2 (Zt X.ρ x) (Zt X.ρ y)):=by
 by_cases h:Lv x y
 .obtain⟨k,a,l,b,rfl,rfl⟩|⟨k,a,l,b,rfl,rfl⟩|⟨a,b,rfl,rfl⟩:=h;simp[XP];exact .pure (XP ..).symm
  .simp[TW,Builtin.min2];split;refine .bind (Ub _) ?_;rintro d k _-rfl;exact .pure (TW ..).symm;all_goals exact .pure (TW ..).symm
  grind [TZ,Builtin.min2,FI]
 grind [Z3f,ZA,Xk]
theorem Z2a x y:X.Img X.Rv V (Builtin.max2 x y) (Builtin.max2 (Zt X.ρ x) (Zt X.ρ y)):=by
 by_cases h:Lv x y
 .obtain⟨k,a,l,b,rfl,rfl⟩|⟨k,a,l,b,rfl,rfl⟩|⟨a,b,rfl,rfl⟩:=h;simp[XP];exact .pure (XP ..).symm
  .simp[TW,Builtin.max2];split;refine .bind (Ub _) ?_;rintro d k _-rfl;exact .pure (TW ..).symm;all_goals exact .pure (TW ..).symm
  grind [TZ,Builtin.max2,FI]
 grind [Z3a,ZA,Xk]
theorem jF{f}(a:∀V x y,X.Img X.Rv V (f x y) (f (Zt X.ρ x) (Zt X.ρ y))):∀(l:Zl) V x,X.Img X.Rv V (l.foldlM f x) ((l.map (Zt X.ρ)).foldlM f (Zt X.ρ x))
 | [],V,x=>.pure rfl
 |y::l,V,x=>by
  refine .bind (a V x y) ?_;rintro d z _-rfl;exact jF a l d z
def Z2b ts t aq_:X.Img X.Rv V (Builtin.min_ ts t aq_) (Builtin.min_ ts t (aq_.map (Zt X.ρ))):=by
 grind [Builtin.min_,Array.toList_map,ZA,jF,Z2c]
def Z29 ts t aq_:X.Img X.Rv V (Builtin.max_ ts t aq_) (Builtin.max_ ts t (aq_.map (Zt X.ρ))):=by
 grind [Builtin.max_,Array.toList_map,ZA,jF,Z2a]
def Z1L ts t d s:X.Img X.Rv V (Builtin.copy_ ts t #[d,s]) (Builtin.copy_ ts t #[Zt X.ρ d,Zt X.ρ s]):=by
 have u:∀y z,(#[y,z]:Array Value)[0]?=xk y:=Z1;have k:∀y z,(#[y,z]:Array Value)[1]?=xk z:=Z1;unfold Builtin.copy_;simp[k];cases ts[0]? with
 |none=>exact ZA _ _
 |some j=>
  refine .bind (XV j) ?_;rintro o h _- ⟨rfl,w⟩;cases h<;>first|exact ZA _ _|skip
  rename_i e;cases d<;>first|exact ZA _ _|skip
  rename_i base n c;have l:Zt X.ρ (.slice base n c)=.slice (base.map (ZR X.ρ)) n c:=by cases base<;>simp[Zt]
  rw[l];refine .bind (Fy s) ?_;rintro p m _-rfl;refine .bind (Vu e) ?_;rintro q size _-rfl;refine .bind (JV size _ s) ?_;rintro f g _-rfl;obtain _|a:=base;exact .pure (by simp[Cx.Rv,goInt]);rw[Zf1];refine .bind (JZ a g.toList f 0) ?_;rintro r _ _- -;exact .pure (by simp[Cx.Rv,goInt])
def Z1G(F:X.Zero)ts t g(B:ts[0]?=xk g)(C:(∃e,X.Q.underlying g=xk (.slice e))\/∃a b,X.Q.underlying g=xk (.map a b))x:X.Img X.Rv V (Builtin.clear_ ts t #[x]) (Builtin.clear_ ts t #[Zt X.ρ x]):=by
 have u:∀y,(#[y]:Array Value)[0]?=xk y:=Z1;have fin:∀V,X.Img X.Rv V (pure (.tuple #[]):Sem Value) (pure (.tuple #[]):Sem Value):=λV=>.pure Zd1;unfold Builtin.clear_;simp[u,B];refine .bind (XV g) ?_;rintro l d _- ⟨rfl,h⟩;obtain⟨e,p⟩|⟨a,b,p⟩:=C<;>rw[p]at h<;>cases h
 cases x<;>first|exact ZA _ _|skip
 rename_i b n c;obtain _|a:=b;simp_all[Zt];simp[Zt];cases n with
 |zero=>exact fin _
 |succ n=>
  refine .bind (Tc F e) ?_;rintro q z _- ⟨rfl,G⟩;have j:z.cells.map (Zt X.ρ)=z.cells:=by grind [Tm]
  have h:=JZ (X:=X) a (Builtin.zeroCells z.cells (n+1)).toList q 0;rw[<-Zf1,qt X.ρ z.cells _ j]at h;exact .bind h λ_ _ _ _ _=>fin _
 rename_i r;obtain _|r:=r;simp_all[Zt];simp[Zt];refine .get (λw=>⟨_,w,rfl,trivial⟩) λo D=> ?_;cases o<;>first|exact ZA _ _|skip
 rename_i A f;have:=Cx.Img.set (X:=X) (RA:=X.Rv) (V:=r::l) (r:=r) (o:=.map #[] f) (k:=pure _) (k':=pure _) Z1 trivial Z1 (fin _);simp[XO,Array.map_empty]at this;exact this;cases x<;>first|exact ZA _ _|skip
 rename_i b n c;obtain _|a:=b;simp_all[Zt];simp[Zt];cases n with
 |zero=>exact fin _
 |succ n=>exact ZA _ _
 rename_i r;obtain _|r:=r;simp_all[Zt];simp[Zt];refine .get (λw=>⟨_,w,rfl,trivial⟩) λo D=> ?_;cases o<;>first|exact ZA _ _|skip
 rename_i A f;have:=Cx.Img.set (X:=X) (RA:=X.Rv) (V:=r::l) (r:=r) (o:=.map #[] f) (k:=pure _) (k':=pure _) Z1 trivial Z1 (fin _);simp[XO,Array.map_empty]at this;exact this
def zf{α β RA c} [Decidable c]{a b:Sem α}{a' d:Sem β}(h:X.Img RA V a a')(k:X.Img RA V b d):X.Img RA V (if c then a else b) (if c then a' else d):=by
 grind
def Z1p(C:X.Zero)ts ty t r e k s x(K:ts[0]?=xk t)(L:ts[1]?=xk r)(M:X.Q.underlying t=xk (.slice e))(hx:X.Q.underlying r=xk (.int k)):
  X.Img X.Rv V (Builtin.append_ ts ty #[s,x]) (Builtin.append_ ts ty #[Zt X.ρ s,Zt X.ρ x]):=by
 have H:∀y z,(#[y,z]:Array Value)[0]?=xk y:=Z1;have I:∀y z,(#[y,z]:Array Value)[1]?=xk z:=Z1;unfold Builtin.append_;simp only[K,L,H,I];refine .bind (XV t) ?_;rintro u d _- ⟨rfl,h⟩;rw[M]at h;cases h;cases s<;>first|exact ZA _ _|skip
 rename_i base n c;have B:Zt X.ρ (.slice base n c)=.slice (base.map (ZR X.ρ)) n c:=by cases base<;>simp[Zt]
 rw[B];refine .bind (Vu e) ?_;rintro F size _-rfl;refine .bind (XV r) ?_;rintro G d _- ⟨rfl,h⟩;rw[hx]at h;cases h;simp only[pure_bind,Zgt,ZdZ,Zeu,Zer,true_or];refine .bind (JT x) ?_;rintro w l _-rfl;have bad:∀ {V} m {f J:Unit->Sem Value},X.Img X.Rv V (runtimePanic _>>=f) (runtimePanic (.error m)>>=J):=λm=>.bind (RA:=λ_ _=>False) (TG _) λ_ _ _ _ h=>h.elim;have D:∀V m,X.Img (λa b=>b=a.map (Zt X.ρ)) V (if m*size=0 then pure #[]else do pure (Builtin.zeroCells (<-zeroValue e).cells m):Sem _) (if m*size=0 then pure #[]else do pure (Builtin.zeroCells (<-zeroValue e).cells m):Sem _):=λV m=>by
  split;exact .pure Z1;refine .bind (Tc C e) ?_;rintro u z _- ⟨rfl,q⟩;exact .pure (qt X.ρ z.cells _ (by grind [Tm])).symm
 generalize P:(IntKind.i64.wrap l).toNat=m
 have j:∀V,X.Img X.Rv V (do
   let g<-choose _
   askRoom (g*(<-typeInfo e).bytes)
   let o<-Builtin.firstCells size n (.slice base n c)
   let new<-(if m*size=0 then pure #[]else do pure (Builtin.zeroCells (<-zeroValue e).cells m):Sem (Array Value))
   let j:=Builtin.zeroCells (<-zeroValue e).cells (g- (n+m))
   pure (.slice (xk (<-newRow e (o++new++j))) (n+m) g):Sem Value) (do
   let g<-choose (.appendCap (n+m) c e)
   askRoom (g*(<-typeInfo e).bytes)
   let o<-Builtin.firstCells size n (.slice (base.map (ZR X.ρ)) n c)
   let new<-(if m*size=0 then pure #[]else do pure (Builtin.zeroCells (<-zeroValue e).cells m):Sem (Array Value))
   let j:=Builtin.zeroCells (<-zeroValue e).cells (g- (n+m))
   pure (.slice (xk (<-newRow e (o++new++j))) (n+m) g):Sem Value):=λV=>by
  refine .bind (Ub _) ?_;rintro u k _-rfl;refine .bind (VU e) ?_;rintro F i _-rfl;refine .bind (Fj _) ?_;rintro G _ _- -;rw[<-B];refine .bind (JV size n _) ?_;rintro w o _-rfl;refine .bind (D w m) ?_;rintro A new _-rfl;refine .bind (Tc C e) ?_;rintro p z _- ⟨rfl,q⟩;have N:z.cells.map (Zt X.ρ)=z.cells:=by grind [Tm]
  have h:=zg (X:=X) (V:=p) e (o++new++Builtin.zeroCells z.cells (k- (n+m))) (n+m) k;simp_all[ZfL,qt]
 refine zf ?_ ?_;exact bad _;refine .bind (VU e) ?_;rintro A i _-rfl;refine zf ?_ ?_;refine .bind (Ub _) ?_;grind;refine zf ?_ ?_;refine .bind (D A m) ?_;rintro p new _-rfl;obtain _|a:=base;exact .pure Zd1;simp only[Ze4];rw[RW,Zf1];refine .bind (JZ (a.add (n*size)) new.toList p 0) ?_;rintro O _ _- -;exact .pure Zd1;refine .bind (VU e) ?_;rintro p R _-rfl;refine zf ?_ ?_;exact bad _;refine .bind (VU e) ?_;grind
end
end
section
section
variable {X:Cx}{V:Zd}{rd:Bool}
theorem Z1R{α β RA}{k:SysRet->Sem α}{k':SysRet->Sem β}(h:∀r,X.Img RA V (k r) (k' r)):X.Img RA V (sys .env>>=k) (sys .env>>=k'):=by
 refine .sem λp o j f n d a=> ?_;have g:∀ {γ} P w (k:SysRet->Sem γ),(sys .env>>=k).run P w=(k (.strings w.os.env)).run P w:=λ_ _ _=>rfl;have l:∀ {γ} P w (k:SysRet->Sem γ) j,(sys .env>>=k).runT P w j=(k (.strings w.os.env)).runT P w _:=λ_ _ _ _=>rfl;rw[g]at d a;rw[g,l];rw[f.os]at d a⊢;exact Cx.Told.step (.ev (e:=⟨.output,xy,xh⟩) f True.intro) ((h _).run p o _ f n d a)
theorem Z1N t:X.Img Eq V (elemOf t) (elemOf t):=by
 refine .bind (WX _) ?_;rintro a d _-rfl;cases d<;>first|exact .pure rfl|exact ZA _ _
theorem Z2i{α β}{RA:α->β->Prop}:X.Img RA V (runtimePanic .panicNil) (runtimePanic .panicNil):=by
 refine .bind WA ?_;rintro f _ _- ⟨rfl,rfl⟩;refine .bind (Z1N _) ?_;rintro d t _-rfl;have h:=jJ (X:=X) (V:=d) t (.agg #[]);rw[show Zt X.ρ _=.agg #[]by simp[Wq]]at h;refine .bind h ?_;rintro g a _-rfl;exact Ry (by simp[TX,Wr];rfl)
theorem Z2h x:X.Img X.Rv V (Instr.panic x) (Instr.panic (Zt X.ρ x)):=by
 unfold Instr.panic;cases x<;>first|exact ZA _ _|skip
 simp_all[TX,Ry];rw[TY];refine .bind (RA:=Eq) ?_ ?_;refine Z1R λr=> ?_;cases r<;>first|exact ZA _ _|skip
 refine .bind WA ?_;rintro a _ _- ⟨rfl,rfl⟩;exact .pure rfl;rintro a n _-rfl;grind [Ry,TY,Z2i]
theorem X7{s a}(h:X.Img X.Rv V s a):X.Img (X.NR rd) V (do pure (.value (<-s)):Sem Next) (do pure (.value (<-a)):Sem Next):=by
 refine .bind h ?_;rintro d v _-rfl;exact .pure rfl
theorem zj{s a}(h:X.Img Eq V s a):X.Img (X.NR rd) V (do s;pure .skip:Sem Next) (do a;pure .skip:Sem Next):=by
 refine .bind h ?_;rintro d v _-rfl;exact .pure rfl
def Kb(v:Ze):Sem Next:=
 match v with
 |.pointer xw|.nilIface|.nilFunc=>runtimePanic .nilDeref
 | .func (.method name) first a=>
   match(first[0]? :Option Value)with
   |some .nilIface=>runtimePanic .nilDeref
   |some (.iface t w)=>do
    if(<-nilAhead ((<-program).types.size+Made.depth) t w name) !=xk xh then
     unsupported (.noEntry "op/nilCheck.the method's receiver behind this interface value is a nil pointer, or cannot be seen to be none, and the arguments act or may panic (ledger 612)")
    pure (.value (.func (.method name) first a))
   |_=>pure (.value (.func (.method name) first a))
 |x=>pure (.value x)
theorem Z2e v:X.Img (X.NR rd) V (Kb v) (Kb (Zt X.ρ v)):=by
 have d:∀V u,X.Img (X.NR rd) V (pure (.value u):Sem Next) (pure _:Sem Next):=λV u=>.pure rfl;cases v with
 |pointer q=>
  obtain _|a:=q;rw[Uh];exact TE;rw[Wr];exact .pure (by simp[Cx.NR])
 |slice q n c=>have h:=d V (.slice q n c);cases q<;>(simp[Zt]at h⊢;exact h)
 |map q=>have h:=d V (.map q);cases q<;>(simp[Zt]at h⊢;exact h)
 |chan q=>have h:=d V (.chan q);cases q<;>(simp[Zt]at h⊢;exact h)
 |nilIface=>rw[TY];exact TE
 |nilFunc=>rw[yJ];exact TE
 |func fn a b=>
  cases fn with
  |method name=>
   have h:∀V,X.Img (X.NR rd) V (pure (.value (.func (.method name) a b)):Sem Next) (pure (.value (.func (.method name) (a.map (Zt X.ρ)) (b.map (Zt X.ρ)))):Sem Next):=λV=>.pure (by simp[Cx.NR,Zt,V2]);simp only[Zt,V2,Kb,Zeg];cases a[0]? with
   |none=>exact h V
   |some u=>
    cases u with
    |nilIface=>simp_all[Ze4,TY,TE]
    |iface t w=>
     simp only[Ze4,TX];refine .bind WA ?_;rintro g _ _- ⟨rfl,rfl⟩;refine .bind (FG _ _ _ _ _) ?_;rintro j n _-rfl;split;exact Xk (λ_ h=>ZcZ) _;grind
    |pointer q=>cases q<;>(simp[Ze4,Zt];exact h V)
    |slice q n c=>cases q<;>(simp[Ze4,Zt];exact h V)
    |map q=>cases q<;>(simp[Ze4,Zt];exact h V)
    |chan q=>cases q<;>(simp[Ze4,Zt];exact h V)
    |_=>simp[Ze4,Zt];exact h V
  |func f=>have h:=d V (.func (.func f) a b);simp[Zt,V2]at h⊢;exact h
  |methodOf t n=>have h:=d V (.func (.methodOf t n) a b);simp[Zt,V2]at h⊢;exact h
  |via t p f q=>have h:=d V (.func (.via t p f q) a b);simp[Zt,V2]at h⊢;exact h
  |yield l=>have h:=d V (.func (.yield l) a b);simp[Zt,V2]at h⊢;exact h
 |bool b=>have h:=d V (.bool b);simp[Zt]at h⊢;exact h
 |int k n=>have h:=d V (.int k n);simp[Zt]at h⊢;exact h
 |float k n=>have h:=d V (.float k n);simp[Zt]at h⊢;exact h
 |complex k a b=>have h:=d V (.complex k a b);simp[Zt]at h⊢;exact h
 |string s=>have h:=d V (.string s);simp[Zt]at h⊢;exact h
 |iface t v=>have h:=d V (.iface t v);simp[Zt]at h⊢;exact h
 |agg c=>have h:=d V (.agg c);simp[Zt]at h⊢;exact h
 |tuple c=>have h:=d V (.tuple c);simp[Zt]at h⊢;exact h
theorem Z1W t x f:X.Img X.Rv V (Instr.fieldAt t x f) (Instr.fieldAt t (Zt X.ρ x) f):=by
 refine .bind (XV t) ?_;rintro j d _- ⟨rfl,n⟩;cases d<;>first|exact ZA _ _|skip
 rename_i h;dsimp only;cases o:h[f]? with
 |none=>exact ZA _ _
 |some g=>
  refine .bind (zi x) ?_;rintro k a _-rfl;refine .bind (jE a g) ?_;rintro l b _-rfl;exact .pure (Wr _ _).symm
theorem jQ{Q t}(h:Sz Q t=xy):∃k,Q.underlying t=xk (.int k):=by
 grind [Sz]
theorem Z3K{t}(h:Kc X.Q t=xy):∀i u,X.Q.info? t=xk i->i.desc≠.named "sync.copyChecker" u:=by
 grind [Kc,absurd]
theorem FS{t}(h:(Sz X.Q t&&Kc X.Q t)=xy):∃k,X.IntT t k:=by
 simp[ZdJ]at h;let⟨k,a⟩:=jQ h.1;exact⟨k,a,Z3K h.2⟩
theorem MV{t}(h:jS X.Q t=xy):X.Small t:=by
 unfold jS at h;rw[ZdY]at h;obtain h|h:=h;exact .inl (FS h);refine .inr ?_;grind
theorem qf{Q t}(h:QG Q t=xy):∃e,Q.underlying t=xk (.slice e):=by
 grind [QG]
theorem zA{t}(h:K1 X.Q t=xy):∃a b k,X.Q.underlying t=xk (.map a b)/\X.IntT a k:=by
 unfold K1 at h;split at h;simp_all[FS];cases h
theorem Z3L{Q t}(h:Ay Q t=xy):∀m,Q.underlying t≠xk (.interface m):=by
 grind [Ay]
theorem Nh{α:Type}{a:Array α}(h:a.size=2):∃x y,a=#[x,y]:=by
 let⟨l⟩:=a;simp[ZeW]at h
 match l,h with
 | [x,y],_=>simp
theorem AF{α:Type}{a:Array α}(h:a.size=1):∃x,a=#[x]:=by
 let⟨l⟩:=a;simp[ZeW]at h
 match l,h with
 | [x],_=>simp
section
variable {ev ev':Operand->Value}(he:∀x,ZV x=xy->ev' x=Zt X.ρ (ev x))
include he
theorem LG{l:Array Operand}(h:l.all ZV=xy):l.map ev'=(l.map ev).map (Zt X.ρ):=by
 grind
theorem LI{o:Option Operand}(h:o.all ZV=xy):o.map ev'=(o.map ev).map (Zt X.ρ):=by
 obtain _|x:=o;rfl;simp_all
theorem El{l:Array (Nat×Operand)}(h:(l.all λp=>ZV p.2)=xy):(l.map λ(i,x)=>(i,ev' x))=(l.map λ(i,x)=>(i,ev x)).map λp=>(p.1,Zt X.ρ p.2):=by
 grind [Array.map_map,Array.map_congr_left,Array.all_eq_true',Zt]
theorem FK c t(d:c.args.all ZV=xy)(hc:(match c.callee with|.builtin _=>xh|.value f=>ZV f|.invoke x _=>ZV x)=xy):
  X.Img (λa b=>b=Xb X.ρ a/\VV a=xy) V (resolve ev c t) (resolve ev' c t):=by
 unfold resolve;rw[LG he d];cases g:c.callee with
 |builtin b=>simp_all
 |value f=>
  grind [FH]
 |invoke x name=>
  rw[g]at hc;dsimp only at hc⊢;rw[he x hc];exact .pure ⟨by simp[Xb,J2,V2],rfl⟩
theorem Z2g(ok:X.Ok)c t(B:c.args.all ZV=xy)(hc:UI X.Q rd c=xy):
  X.Img (X.NR rd) V (do let d<-resolve ev c t;invoke d.target d.args) (do let d<-resolve ev' c t;invoke d.target d.args):=by
 have plain:(match c.callee with|.builtin _=>xh|.value f=>ZV f|.invoke x _=>ZV x)=xy->X.Img (X.NR rd) V (do let d<-resolve ev c t;invoke d.target d.args) (do let d<-resolve ev' c t;invoke d.target d.args):=λh=>by
  refine .bind (FK he c t B h) ?_;rintro G d _- ⟨rfl,F⟩;exact jG ok d.target d.args F
 cases l:c.callee with
 |value f=>simp_all[UI]
 |invoke x name=>simp_all[UI]
 |builtin b=>
  have e:∀ev,(do let d<-resolve ev c t;invoke d.target d.args:Sem Next)=builtin b c.argTypes t _ _:=λev=>by
   unfold resolve;simp[l];rfl
  rw[e,e,LG he B];cases b<;>first|(simp[UI,l]at hc;done)|skip
  ·
   simp[UI,l,ZdJ,Zeq]at hc;let⟨⟨A,j⟩,p⟩:=hc;let⟨x,y,o⟩:=Nh (a:=c.args.map ev) ZcJ;cases g:c.argTypes[0]? with
   |none=>simp_all
   |some q=>
    cases n:c.argTypes[1]? with
    |none=>simp_all
    |some C=>
     rw[g]at j;rw[n]at p;let⟨z,r⟩:=qf j;rw[o];obtain p|p:=ZdY _ _▸p;rotate_left;let⟨k,l⟩:=jQ p;have:=Z1p (X:=X) (V:=V) ok.zero c.argTypes t q C z k x y g n r l;rw[show(#[x,y]:Array Value).map _=#[Zt X.ρ x,Zt X.ρ y]by simp];exact X7 this;let⟨D,w⟩:=qf p;have:=Z1o (X:=X) (V:=V) ok.zero c.argTypes t q C z D x y g n r w;rw[show(#[x,y]:Array Value).map _=#[Zt X.ρ x,Zt X.ρ y]by simp];exact X7 this
  ·
   simp[UI,l,ZdJ,Zeq]at hc;let⟨A,j⟩:=hc;let⟨x,u⟩:=AF (a:=c.args.map ev) ZcJ;cases g:c.argTypes[0]? with
   |none=>simp_all
   |some q=>
    rw[g]at j;rw[u,zB];refine X7 (Z1G ok.zero c.argTypes t q g ?_ x);obtain j|j:=ZdY _ _▸j;grind [qf];grind [zA]
  ·
   simp[UI,l,Zeq]at hc;let⟨x,u⟩:=AF (a:=c.args.map ev) ZcJ;rw[u,zB];exact X7 (Z1H _ _ _)
  ·
   simp[UI,l,Zeq]at hc;let⟨x,y,o⟩:=Nh (a:=c.args.map ev) ZcJ;rw[o,show(#[x,y]:Array Value).map _=#[Zt X.ρ x,Zt X.ρ y]by simp];exact X7 (Z1L _ _ x y)
  ·
   simp[UI,l,ZdJ,Zeq]at hc;let⟨A,j⟩:=hc;let⟨x,u⟩:=AF (a:=c.args.map ev) ZcJ;cases g:c.argTypes[0]? with
   |none=>simp_all
   |some q=>
    rw[g]at j;rw[u,zB];refine X7 (Z22 q t c.argTypes x g ?_);grind [Fc]
  exact X7 (Z29 ..);exact X7 (Z2b ..);exact .pure ⟨rfl,by simp_all[UI]⟩
theorem Z1T(hc:∀v,ev (.const v)=v)(ok:X.Ok)o(h:XQ X.Q rd o.op=xy)(p:qi o.op=xh):X.Img (X.NR rd) V (execOp ev o) (execOp ev' o):=by
 let⟨B,op,type,pos,after,guard⟩:=o;unfold execOp;cases op with
 |move x=>dsimp only;rw[he x h];exact .pure rfl
 |assign x=>dsimp only;rw[he x h];exact .pure rfl
 |pick a b c=>
  simp[XQ,ZdJ]at h;dsimp only;rw[he a h.1.1,he b h.1.2,he c h.2];refine .bind (jz _) ?_;rintro u z _-rfl;refine .pure ?_;cases z<;>rfl
 |alloc t=>exact X7 (Z1n ok.zero t)
 |box t x=>dsimp only;rw[he x h];exact X7 (Z1B t _)
 |build t I=>dsimp only;rw[El he h];exact X7 (Z1C ok.zero t _)
 |buildSlice t n I=>dsimp only;rw[El he h];exact X7 (Z1D ok.zero t n _)
 |load t x=>dsimp only;rw[he x h];exact X7 (Z23 t _)
 |store t a v=>
  simp[XQ,ZdJ]at h;grind [zj,Z2p]
 |nilCheck x=>
  have e:=he x h;show X.Img _ V (Kb _) (Kb _);simp_all[Z2e]
 |binOp op t x y K=>
  simp[XQ,ZdJ]at h;let⟨⟨G,H⟩,g⟩:=h;dsimp only;unfold H5 at g;rw[ZdY]at g;rw[he x G,he y H];obtain g|g:=g;refine X7 (.bind (Z1Z op t x y _ _ (MV g)) ?_);rintro u _ _- -;exact Z1x ok.glob op t _ _ (MV g)
  .rw[ZdJ]at g;let⟨D,j⟩:=g;cases y with
   |const v=>
    dsimp only at j;split at j
    .rename_i d w;rw[hc v];let⟨F,_⟩:=GN X.ρ j;have C:gs v≠1:=by cases v<;>first|(intro h;cases h;done)|(cases d<;>cases j)
     rw[F];refine X7 (.bind (Z1Y op t x v _ v C) ?_);rintro u _ _- -;refine Z1w op ?_ t _ v w j;grind
    cases j
   |_=>cases j
 |unOp op t x=>
  dsimp only;rw[he x h];exact X7 (Z2t op _)
 |makeSlice t l c=>
  simp[XQ,ZdJ]at h;dsimp only;rw[he l h.1,he c h.2];exact X7 (Z28 ok.zero t _ _)
 |convert s d x=>
  simp[XQ,ZdJ]at h;grind [X7,Z1K,jQ]
 |makeInterface t x=>dsimp only;rw[he x h];exact X7 (Z26 t _)
 |makeFunc fn a b=>
  simp only[XQ,ZdJ]at h;dsimp only;rw[LG he h.1.2,LG he h.2];refine X7 (.pure ?_);grind [Cx.Rv,Zt,V2]
 |makeMap t o=>dsimp only;rw[LI he h];exact X7 (Z27 t _)
 |slice t x l J m=>
  simp[XQ,ZdJ]at h;dsimp only;rw[he x h.1.1.1.1,LI he h.1.1.1.2,LI he h.1.1.2,LI he h.1.2];grind [X7,Z2m,qf]
 |fieldAddr t x f=>dsimp only;rw[he x h];grind [X7,Z1W]
 |field t x f=>dsimp only;rw[he x h];grind [X7,Z1V]
 |indexAddr t x i=>
  simp[XQ,ZdJ]at h;grind [X7,Z21]
 |index t x i=>
  simp[XQ,ZdJ]at h;grind [X7,Z20]
 |lookup t x i b=>
  simp[XQ,ZdJ]at h;dsimp only;rw[he x h.1.1,he i h.1.2];let⟨a,A,k,q,r⟩:=zA h.2;exact X7 (Z25 ok.zero ok.glob q r _ _ b)
 |mapUpdate t x k v=>
  simp[XQ,ZdJ]at h;dsimp only;rw[he x h.1.1.1,he k h.1.1.2,he v h.1.2];let⟨a,A,k,q,r⟩:=zA h.2;exact zj (FD ok.glob q r _ _ _)
 |insert t x k v=>
  simp[XQ,ZdJ]at h;dsimp only;rw[he x h.1.1.1,he k h.1.1.2,he v h.1.2];let⟨a,A,k,q,r⟩:=zA h.2;exact zj (FD ok.glob q r _ _ _)
 |typeAssert x t a b=>
  simp[XQ,ZdJ]at h;dsimp only;rw[he x h.1.1,h.1.2];exact X7 (Z2s ok.zero _ t a (Z3L h.2))
 |extract x i=>dsimp only;rw[he x h];exact X7 (Z1U _ i)
 |call c=>
  simp_all[XQ,ZdJ,Z2g]
 |defer c=>
  simp only[XQ,ZdJ]at h;refine .bind (FK he c type h.1.2 h.2) ?_;rintro u d _- ⟨rfl,w⟩;exact .pure ⟨rfl,w⟩
 |panic x=>dsimp only;rw[he x h];exact X7 (Z2h _)
 |send=>cases p
 |recv=>cases p
 |go=>cases p
 |_=>cases h
end
end
end
end Vm
end
section
namespace Vm
open Go Go.Conc
section
section
variable (ρ:Zk)
def YE:Item->Item
 |.inRangeFunc l=>.inRangeFunc (ρ l)
 |.endRangeFunc l=>.endRangeFunc (ρ l)
 |i=>i
def SQ(e:PanicEntry):PanicEntry:= {e with v:=Zt ρ e.v}
def W1:FrameMode->FrameMode
 |.panicking a=>.panicking (a.map (SQ ρ))
 |m=>m
abbrev Zf:=Frame
def Zw(fr:Zf):Frame:= {fr with tmps:=fr.tmps.map (Zt ρ),todo:=fr.todo.map (YE ρ),defers:=fr.defers.map (Xb ρ),mode:=W1 ρ fr.mode,roundOf:=fr.roundOf.map ρ}
end
def Vx(Q:Z5)(r:Bool):Item->Bool
 |.code c|.inLoop c|.inScope c=>YT Q r c
 |.inRegion a _=>a.all λo=>XQ Q r o.op
 |.inBlock _|.inRangeFunc _|.endRangeFunc _|.beginRound=>xy
 |.call .. |.extern .. =>xh
structure Cx.OkF (X:Cx) (fr:Frame):Prop where
 todo:∀i∈fr.todo,Vx X.Q fr.roundOf.isSome i=xy
 defers:∀d∈fr.defers,VV d=xy
 kind:fr.kind=.normal\/fr.kind=.deferred
 fn:X.Okn fr.fn
theorem Rr ρ(a:Za)t:(a.map (Zt ρ)).getD t undef=Zt ρ (a.getD t undef):=by
 simp[ZdK,Zeg];cases a[t]? with
 |none=>simp[ZhU,ZhA,S3]
 |some v=>rfl
theorem Rj ρ fr x(h:ZV x=xy):(Zw ρ fr).eval x=Zt ρ (fr.eval x):=by
 cases x with
 |tmp t=>exact Rr ρ _ _
 |const v=>exact(KN ρ 9 v h).symm
 |global g=>cases h
 |func f=>simp[Frame.eval,Zt,V2]
theorem Z5X{ρ v b}:Zt ρ v=.bool b↔v=.bool b:=by
 cases v with
 |pointer q=>cases q<;>simp
 |slice q n c=>cases q<;>simp[Zt]
 |map q=>cases q<;>simp[Zt]
 |chan q=>cases q<;>simp[Zt]
 |_=>simp[Zt]
theorem CI ρ ops a j:yielded ops (a.map (Zt ρ)) j=yielded ops a j:=by
 unfold yielded;cases(ops[j]?).bind (·.dst)with
 |none=>rfl
 |some d=>
  simp[ZdQ,Zeg];cases a[d]? with
  |none=>rfl
  |some v=>
   simp[Ze4];by_cases h:∃b,v=.bool b;obtain⟨b,rfl⟩:=h;simp;have f:∀u:Ze,(∀b,u≠.bool b)->(match xk u with|some (.bool b)=>xk b|_=>xw:Option Bool)=xw:=λu g=>by
    cases u<;>first|rfl|exact absurd rfl (g _)
   exact(f _ λb e=>h ⟨b,Z5X.1 e⟩).trans (f v λb e=>h ⟨b,e⟩).symm
theorem JM ρ Q fr v(h:∀i∈fr.todo,Vx Q fr.roundOf.isSome i=xy):(Zw ρ fr).finish (Zt ρ v)=Zw ρ (fr.finish v):=by
 let⟨fn,j,a,d,g,kind,o⟩:=fr;obtain _|⟨i,k⟩:=a;rfl;have f:=h i (ZeL ..);cases i with
 |inRegion n l=>
  grind [Frame.finish,Zw,YE,bind,map_set]
 |call=>cases f
 |extern=>cases f
 |_=>rfl
theorem Qw{X:Cx}{fr}(h:X.OkF fr)v:X.OkF (fr.finish v):=by
 let⟨fn,w,o,p,t,kind,y⟩:=fr;let⟨n,d,f,g⟩:=h;obtain _|⟨i,k⟩:=o;exact⟨n,d,f,g⟩;have q:=n i (ZeL ..);have r:=λj a=>n j (Zei _ a);cases i with
 |inRegion x l=>
  obtain _|⟨i,u⟩:=l;exact⟨n,d,f,g⟩;exact⟨λj a=>by obtain rfl|a:=Ze3.1 a;exact q;exact r j a,d,f,g⟩
 |call=>cases q
 |extern=>cases q
 |inRangeFunc l=>exact⟨λj a=>by obtain rfl|a:=Ze3.1 a;rfl;exact r j a,d,f,g⟩
 |beginRound=>exact⟨r,d,f,g⟩
 |_=>exact⟨n,d,f,g⟩
def Vl(fr:Zf):Bool:=
 match fr.mode,fr.todo with
 | .run,.inRegion a (i::_)::_=>(match a[i]? with
   |some o=>Region.wanted o (yielded a fr.tmps)&&qi o.op
   |none=>xh)
 |_,_=>xh
theorem OP ρ fr:Vl (Zw ρ fr)=Vl fr:=by
 let⟨fn,d,f,g,a,kind,n⟩:=fr;have l:=λh=>funext λj=>CI ρ h d j;cases a<;>first|rfl|skip
 obtain _|⟨i,k⟩:=f;rfl;cases i<;>first|rfl|skip
 grind [Vl,Zw,W1,YE]
theorem jf ρ id:∀k,exitTo id (k.map (YE ρ))=(exitTo id k).map (List.map (YE ρ))
 | []=>rfl
 |i::k=>by
  have a:=jf ρ id k;cases i<;>simp[Zee,YE,exitTo]<;>first|exact a|(split<;>first|rfl|exact a)
theorem Ep id:∀k a,exitTo id k=xk a->∀i∈a,i∈k
 | [],a,h,i,d=>ZcZ
 |x::k,a,h,i,d=>by
  have f:=Ep id k a;cases x<;>simp[exitTo]at h<;>first
   |exact Zei _ (f h i d)
   | (split at h
      cases h;exact Zei _ d;exact Zei _ (f h i d))
theorem Z0O Q r l:∀c f,YT Q r c=xy->findLabel c l=xk f->YT Q r f=xy:=by
 intro c;induction c with
 |seq a b g j=>
  intro f h d;simp[YT,ZdJ]at h;simp[findLabel]at d;split at d;cases d;simp_all[YT,ZdJ];simp_all
 |label k=>
  intro f h d;simp only[findLabel]at d;split at d;cases d;rfl;cases d
 |_=>intro f h d;simp[findLabel]at d
theorem jv ρ l:∀k,gotoIn l (k.map (YE ρ))=(gotoIn l k).map (List.map (YE ρ))
 | []=>rfl
 |i::k=>by
  have a:=jv ρ l k;cases i<;>simp[Zee,YE,gotoIn]<;>first|exact a|(split<;>first|rfl|exact a)
theorem F8 Q r l:∀k a,(∀i∈k,Vx Q r i=xy)->gotoIn l k=xk a->∀i∈a,Vx Q r i=xy
 | [],a,f,h,i,d=>ZcZ
 |x::k,a,f,h,i,d=>by
  have o:=λj n=>f j (Zei _ n);have t:=F8 Q r l k a o;have q:=f x (ZeL ..);cases x<;>simp[gotoIn]at h<;>first
   |exact t h i d
   | (split at h
      rename_i g p;cases h;obtain rfl|d:=Ze3.1 d;exact Z0O Q r l _ _ q p;grind;simp_all)
theorem yC ρ fr a:(Zw ρ fr).raise (a.map (SQ ρ))=Zw ρ (fr.raise a):=by
 grind [Frame.raise,Zw,W1]
theorem yB{X:Cx}{fr}(h:X.OkF fr)j:X.OkF (fr.raise j):=by
 let⟨fn,f,g,d,a,kind,k⟩:=fr;cases a<;>exact⟨h.todo,h.defers,h.kind,h.fn⟩
theorem Ei{X:Cx}{f}(d:X.Okf f)args kd:Frame.enter X.P f (args.map (Zt X.ρ)) kd=Zw X.ρ (Frame.enter X.Q f args kd):=by
 let⟨fn,c,g,a,h,j⟩:=d;have e:X.P.funcs[f]?=xk fn:=a;simp_all[Frame.enter,Zw,Ze4,Zec,ZdQ,YE,W1,S3]
theorem Eh{X:Cx}{f}(a:X.Okf f)args kd(n:kd=.normal\/kd=.deferred):X.OkF (Frame.enter X.Q f args kd):=by
 refine⟨λi g=> ?_,λd l=>(by cases l),n,.inl a⟩;let⟨fn,c,h,o,j,k⟩:=a;simp[Frame.enter,h,ZdQ,j,Zec,ZeO]at g;subst g;exact k
def bot:Frame->List Frame->CallKind×Option Nat
 |a,[]=>(a.kind,a.roundOf)
 |_,c::d=>bot c d
structure Cx.St (X:Cx) (fr:Frame) (cs:List Frame):Prop where
 top:X.OkF fr
 all:∀c∈cs,X.OkF c
 bot:bot fr cs=(.normal,xw)
theorem Z5E{X:Cx}{fr cs}(h:X.St fr cs)c0 ds:
  (tryRecover fr (cs++[c0])=xw/\tryRecover (Zw X.ρ fr) (cs.map (Zw X.ρ)++ds)=xw)\/
  ∃v d,tryRecover fr (cs++[c0])=xk (v,d++[c0])/\tryRecover (Zw X.ρ fr) (cs.map (Zw X.ρ)++ds)=xk (Zt X.ρ v,d.map (Zw X.ρ)++ds)/\X.St fr d:=by
 let⟨o,u,p⟩:=h;have q:(Zw X.ρ fr).kind=fr.kind:=rfl;obtain y|w:=o.kind;left;unfold tryRecover;rw[q,y];exact⟨rfl,rfl⟩;obtain _|⟨c,cs⟩:=cs;simp_all[Vm.bot];have l:=u c (ZeL ..);simp[Zee,ZeT];unfold tryRecover;rw[q,w];let⟨fn,j,k,a,g,kind,z⟩:=c;cases g with
 |run=>exact .inl ⟨rfl,rfl⟩
 |returning=>exact .inl ⟨rfl,rfl⟩
 |panicking t=>
  obtain _|⟨e,f⟩:=t;exact .inl ⟨rfl,rfl⟩;let⟨v,n,ge⟩:=e;cases n;cases ge;refine .inr ⟨v,⟨fn,j,k,a,.panicking ({v,recovered:=xy}::f),kind,z⟩::cs,rfl,rfl,o,λx r=> ?_,?_⟩;obtain rfl|r:=Ze3.1 r;exact⟨l.todo,l.defers,l.kind,l.fn⟩;simp_all;cases cs with
  |nil=>exact p
  |cons=>exact p
  exact .inl ⟨rfl,rfl⟩;exact .inl ⟨rfl,rfl⟩
theorem DK{fr fr'}cs(h:fr'.kind=fr.kind)(h2:fr'.roundOf=fr.roundOf):bot fr' cs=bot fr cs:=by
 cases cs with
 |nil=>simp_all[bot]
 |cons=>rfl
theorem Cx.St.with{X:Cx}{fr fr' cs}(h:X.St fr cs)(a:X.OkF fr')(d:fr'.kind=fr.kind)(f:fr'.roundOf=fr.roundOf):X.St fr' cs:=⟨a,h.all,(DK cs d f).trans h.bot⟩
theorem Cx.St.push{X:Cx}{fr fr' cs}(h:X.St fr cs)(d:X.OkF fr'):X.St fr' (fr::cs):=⟨d,λc a=>by obtain rfl|a:=Ze3.1 a;exact h.top;exact h.all c a,h.bot⟩
theorem Cx.St.pop{X:Cx}{fr c a cs}(h:X.St fr (c::cs))(d:X.OkF a)(f:a.kind=c.kind)(g:a.roundOf=c.roundOf):X.St a cs:=⟨d,λx j=>h.all x (Zei _ j),(DK cs f g).trans h.bot⟩
theorem Qv(fr:Zf)v:(fr.finish v).kind=fr.kind:=by
 grind [Frame.finish]
theorem Qx(fr:Zf)v:(fr.finish v).roundOf=fr.roundOf:=by
 grind [Frame.finish]
theorem yD(fr:Zf)a:(fr.raise a).roundOf=fr.roundOf:=by
 grind [Frame.raise]
theorem yA(fr:Zf)a:(fr.raise a).kind=fr.kind:=by
 grind [Frame.raise]
end
section
def RE(fr:Zf)(j:Option Code):Sem Unit:=
 match fr.roundOf with
 |some l=>Instr.endRound l j>>=λ_=>pure ()
 |none=>pure ()
def YH(fr:Zf):Sem Unit:=
 match fr.mode with
 | .run=>
   match fr.todo with
   | []=>RE fr xw
   |.code .ret::_=>RE fr (xk .ret)
   |.code (.exit id)::k=>if(exitTo id k).isSome then pure ()else RE fr (xk (.exit id))
   |.code (.goto l)::k=>if(gotoIn l k).isSome then pure ()else RE fr (xk (.goto l))
   | .code (.rangeFunc f a assign g)::_=>Instr.enterLoop fr.fn fr.tmps a assign g fr.roundOf>>=λx=>
     (do let d<-resolve fr.eval {callee:=.value f,args:=#[.const (.func (.yield x.1) #[] #[])],argTypes:=#[]} 0;invoke d.target d.args)>>=λ_=>pure ()
   |.beginRound::_=>fr.roundOf.elim (stuck "beginRound: no round") Instr.beginRound
   |.endRangeFunc l::_=>Instr.endLoop l>>=λ_=>pure ()
   |.code (.region id _ xy)::_=>choose (.order fr.fn id)>>=λ_=>pure ()
   | .inRegion h (i::_)::_=>(match h[i]? with
     |some o=>if Region.wanted o (yielded h fr.tmps)then execOp fr.eval o>>=λ_=>pure ()else pure ()
     |none=>pure ())
   |_=>pure ()
 |_=>match fr.defers with
  | {target:=.collected b, .. }::_=>Instr.takeDeferred b>>=λ_=>pure ()
  |d::_=>invoke d.target d.args>>=λ_=>pure ()
  | []=>(match fr.mode with
    | .returning=>program>>=λp=>(match p.funcs[fr.fn]? with
      |some fn=>results fn fr.tmps>>=λ_=>pure ()
      |none=>pure ())
    |_=>pure ())
theorem R3{α}p(s:Sem α)w:Y9 ((s>>=λ_=>(pure ():Sem Unit)).run p w)=Y9 (s.run p w):=by
 rw[Zel];cases s.run p w<;>rfl
def Cx.Agree(X:Cx)(a wc W:Z4):Prop:=(∀j,wc.drawn+j<W.drawn->a.tape (a.drawn+j)=wc.tape (wc.drawn+j))/\∀j,U (R wc)+j<U (R W)->X.ρ (U (R a)+j)=U (R wc)+j
def Cx.Img.told{X:Cx}{α β RA}{s:Sem α}{f:Sem β}(h:X.Img RA [] s f){a wc}(g:X.WR a wc)(d:X.Agree a wc (Y9 (f.run X.P wc))):=
 h.run a wc #[] g (λ_ h=>ZcZ) d.1 d.2
theorem Cx.Aft.es{X:Cx}{g wc f d es a es2}(h:X.Aft g wc f d es a)(k:∀e∈es2,e∈a):X.Aft g wc f d es es2:=
 ⟨h.wr,h.sz,h.szl,h.dr,h.drl,h.tl,h.tc,h.oc,h.new,h.keep,λe j=>h.evs e ZcK,h.vis⟩
abbrev Z6:=List Frame
def Cx.Sim(X:Cx)(c0:Zf)(ds:Z6)(h wc W:Z4)(s g:GStep):Prop:=
 (∃o w es,s=.ended o w es)\/
 ∃fr cs d f a,s=.go (Conc.G fr (cs++[c0])) d f/\g=.go (Conc.G (Zw X.ρ fr) (cs.map (Zw X.ρ)++ds)) W a/\X.St fr cs/\X.Aft h wc d W #[] a
section
variable {X:Cx}{c0:Zf}{ds:Z6}
def Q1{α}p(s:Sem α)w es:∃a,s.runT p w es=(s.run p w,a):=⟨_,Zg9 (ZfP p s w es) rfl⟩
def Uq(fr:Zf):Prop:=(match fr.todo with|.call _ xy _ _::_=>CallKind.wrapped|_=>.normal)=.normal/\(fr.kind==.early)=xh
def Cx.OkF.plain{fr}(h:X.OkF fr):Uq fr:=by
 constructor;have a:=h.todo;cases e:fr.todo with
 |nil=>rfl
 |cons i k=>
  have:=a i ZcK;cases i<;>first|rfl|cases this
 obtain e|e:=h.kind<;>rw[e]<;>rfl
def Z52{ρ fr}(h:Uq fr):Uq (Zw ρ fr):=by
 refine⟨?_,h.2⟩;have g:=h.1;let⟨fn,l,a,f,j,kind,n⟩:=fr;obtain _|⟨i,k⟩:=a;rfl;cases i with
 |call d b r s=>cases b<;>exact g
 |_=>exact g
section
variable {p:Z5}{fr:Zf}{cs:Z6}{s:Sem Next}{w w':Z4}{es:Zb}
def Dx(h:Uq fr){v}(e:s.runT p w #[]=(.ok (.value v) w',es)):stepG.apply p xy fr cs xw s w=.go (Conc.G (fr.finish v) cs) w' (seen p fr.fn es):=by
 unfold stepG.apply Conc.G;simp only[Zer,e,h.2,ZdZ,Zeu,GStep.after,Zez]
def Dv(h:Uq fr)(e:s.runT p w #[]=(.ok .skip w',es)):stepG.apply p xy fr cs xw s w=.go (Conc.G (fr.finish undef) cs) w' (seen p fr.fn es):=by
 unfold stepG.apply Conc.G;simp only[Zer,e,h.2,ZdZ,Zeu,GStep.after,Zez]
def Dr(h:Uq fr){f args}(e:s.runT p w #[]=(.ok (.enter f args) w',es)):stepG.apply p xy fr cs xw s w=.go (Conc.G (Frame.enter p f args .normal) (fr::cs)) w' (seen p fr.fn es):=by
 unfold stepG.apply Conc.G;simp only[e,h.2,Zez];exact ZeX (λk=>GStep.go (Conc.G _ _) w' _) h.1
def Du(h:Uq fr){l f d a b}(e:s.runT p w #[]=(.ok (.round l f d a b) w',es)):stepG.apply p xy fr cs xw s w=.go (Conc.G (Frame.round l f d a b .normal) (fr::cs)) w' (seen p fr.fn es):=by
 unfold stepG.apply Conc.G;simp only[Zer,e,h.2,ZdZ,Zeu,GStep.after,Zez]
def Dq(h:Uq fr){d}(e:s.runT p w #[]=(.ok (.defer d) w',es)):stepG.apply p xy fr cs xw s w=.go (Conc.G ({fr with defers:=d::fr.defers}.finish undef) cs) w' (seen p fr.fn es):=by
 unfold stepG.apply Conc.G;simp only[Zer,e,h.2,ZdZ,Zeu,GStep.after,Zez]
def Dt(h:Uq fr){v}(e:s.runT p w #[]=(.halt (.panic v) w',es)):stepG.apply p xy fr cs xw s w=.go (Conc.G (fr.raise [{v,recovered:=xh}]) cs) w' (seen p fr.fn es):=by
 unfold stepG.apply Conc.G;simp only[Zer,e,h.2,ZdZ,Zeu,GStep.after,Zez]
def Ds(h:Uq fr)(d:fr.roundOf=xw)(e:s.runT p w #[]=(.ok .recover w',es))(a:tryRecover fr cs=xw):stepG.apply p xy fr cs xw s w=.go (Conc.G (fr.finish .nilIface) cs) w' (seen p fr.fn es):=by
 unfold stepG.apply Conc.G;simp only[Zer,e,h.2,d,a,ZdZ,Zeu,GStep.after,Zez]
def Dw(h:Uq fr)(f:fr.roundOf=xw){v a}(e:s.runT p w #[]=(.ok .recover w',es))(d:tryRecover fr cs=xk (v,a)):stepG.apply p xy fr cs xw s w=.go (Conc.G (fr.finish v) a) w' (seen p fr.fn es):=by
 unfold stepG.apply Conc.G;simp only[Zer,e,h.2,f,d,ZdZ,Zeu,GStep.after,Zez]
def qC{h}(f:bad h)(e:s.runT p w #[]=(.halt h w',es)):∃o d a,stepG.apply p xy fr cs xw s w=.ended o d a:=by
 unfold stepG.apply;simp only[e];cases h<;>first|exact f.elim|skip
 rename_i u;cases u<;>first|exact f.elim|exact⟨_,_,_,rfl⟩
 exact⟨_,_,_,rfl⟩
end
def ZbR{ρ}l f d a b kd:Frame.round (ρ l) f (d.map (Zt ρ)) a b kd=Zw ρ (Frame.round l f d a b kd):=by
 rfl
def Ml{fr}(h:X.OkF fr)l f(q:X.Okn f)g a b(k:YT X.Q xy a=xy)(n:YT X.Q xy b=xy)kd(r:kd=.normal\/kd=.deferred):X.OkF (Frame.round l f g a b kd):=by
 refine⟨λi j=> ?_,λd o=>(by cases o),r,q⟩;simp[Frame.round,ZgN]at j;obtain rfl|rfl|rfl:=j;exact k;rfl;exact n
def Q7{β P W wc a}{f:Sem β}{r d}(g:W=Y9 (f.run P wc))(e:f.runT P wc #[]=(r,d))(h:Y9 r=a):W=a:=by
 simp_all
def C3{fr cs}(h:X.St fr cs){s K}(Z:X.Img (X.NR fr.roundOf.isSome) [] s K){G wc}(hw:X.WR G wc){W}(hW:W=Y9 (K.run X.P wc))(ha:X.Agree G wc W):
  X.Sim c0 ds G wc W (stepG.apply X.Q xy fr (cs++[c0]) xw s G) (stepG.apply X.P xy (Zw X.ρ fr) (cs.map (Zw X.ρ)++ds) xw K wc):=by
 have F:=Z.told hw ZcK;have H:∀r q g,K.runT X.P wc #[]=(r,g)->Y9 r=q->W=q:=ZcK;have z:=h.top.plain;have k:=Z52 (ρ:=X.ρ) z;let⟨S,t⟩:=Q1 X.Q s G #[];cases R:s.run X.Q G with
 |halt x j=>
  rw[R]at t F;cases x with
  |panic v=>
   let⟨q,g,u,y⟩:=F;obtain rfl:=H _ q _ u rfl;refine .inr ⟨fr.raise [{v,recovered:=xh}],cs,j,_,seen X.P fr.fn g,Dt z t,?_,h.with (yB h.top _) (yA _ _) (yD _ _),y.es λe n=>mem_seen n⟩;rw[<-yC];exact Dt k u
  |stuck=>exact .inl (qC (h:=.stuck _) F t)
  |unsupported=>exact .inl (qC (h:=.unsupported _) F t)
  |_=>exact False.elim F
 |ok a j=>
  rw[R]at t F;let⟨b,q,g,u,C,y⟩:=F;obtain rfl:=H _ q _ u rfl;have fin:=λv=>h.with (Qw h.top v) (Qv _ _) (Qx _ _);have o:=λv=>JM X.ρ X.Q fr v h.top.todo;cases a with
  |value v=>
   obtain rfl:b=_:=C;refine .inr ⟨fr.finish v,cs,j,_,seen X.P fr.fn g,Dx z t,?_,fin v,y.es λe n=>mem_seen n⟩;rw[<-o];exact Dx k u
  |skip=>
   obtain rfl:b=_:=C;refine .inr ⟨fr.finish undef,cs,j,_,seen X.P fr.fn g,Dv z t,?_,fin undef,y.es λe n=>mem_seen n⟩;rw[<-o,S3];exact Dv k u
  |enter f args=>
   obtain⟨rfl,J⟩:b=_/\_:=C;refine .inr ⟨Frame.enter X.Q f args .normal,fr::cs,j,_,seen X.P fr.fn g,Dr z t,?_,h.push (Eh J args _ Z1),y.es λe n=>mem_seen n⟩;rw[<-Ei J];exact Dr k u
  |round l f B a c=>
   obtain⟨rfl,T,U,J⟩:b=_/\_:=C;refine .inr ⟨Frame.round l f B a c .normal,fr::cs,j,_,seen X.P fr.fn g,Du z t,?_,h.push (Ml h.top l f J B a c T U _ Z1),y.es λe n=>mem_seen n⟩;exact Du k u
  |defer d=>
   obtain⟨rfl,Y⟩:b=_/\_:=C;have I:X.OkF {fr with defers:=d::fr.defers}:=⟨h.top.todo,λx M=>by obtain rfl|M:=Ze3.1 M;exact Y;exact h.top.defers x M,h.top.kind,h.top.fn⟩;refine .inr ⟨({fr with defers:=d::fr.defers}:Frame).finish undef,cs,j,_,seen X.P fr.fn g,Dq z t,?_,h.with (Qw I _) (Qv _ _) (Qx _ _),y.es λe n=>mem_seen n⟩;rw[<-JM X.ρ X.Q _ _ I.todo,S3];exact Dq k u
  |recover=>
   obtain⟨rfl,a0⟩:b=_/\_:=C;have D:fr.roundOf=xw:=by cases e:fr.roundOf with
    |none=>rfl
    |some l=>simp_all
   have A:(Zw X.ρ fr).roundOf=xw:=by simp[Zw,D]
   obtain⟨N,O⟩|⟨v,L,N,O,hs⟩:=Z5E h c0 ds;refine .inr ⟨fr.finish .nilIface,cs,j,_,seen X.P fr.fn g,Ds z D t N,?_,fin _,y.es λe n=>mem_seen n⟩;rw[<-o,TY];exact Ds k A u O;refine .inr ⟨fr.finish v,L,j,_,seen X.P fr.fn g,Dw z D t N,?_,hs.with (Qw h.top v) (Qv _ _) (Qx _ _),y.es λe n=>mem_seen n⟩;rw[<-o];exact Dw k A u O
  |_=>exact C.elim
def Eb ρ:∀l:List PanicEntry,(l.map (SQ ρ)).dropWhile (!·.goexit)=(l.dropWhile (!·.goexit)).map (SQ ρ)
 | []=>rfl
 |e::l=>by
  simp[List.dropWhile_cons];have:(SQ ρ e).goexit=e.goexit:=rfl;rw[this];cases e.goexit;exact Eb ρ l;rfl
def Tu(c:Zf):Frame:=
 match c.mode with
 | .panicking ({recovered:=xy, .. }::a)=>
   match a.dropWhile (!·.goexit)with
   | []=> {c with mode:=.returning}
   |d=> {c with mode:=.panicking d}
 |_=>c
theorem OY ρ c:Tu (Zw ρ c)=Zw ρ (Tu c):=by
 let⟨fn,h,j,f,d,kind,l⟩:=c;cases d with
 |panicking k=>
  obtain _|⟨e,a⟩:=k;rfl;let⟨v,g,ge⟩:=e;cases g;rfl;simp[Tu,Zw,W1,SQ];have:=Eb ρ a;rw[this];cases a.dropWhile _<;>rfl
 |_=>rfl
def qI c:(Tu c).kind=c.kind/\(Tu c).roundOf=c.roundOf/\(X.OkF c->X.OkF (Tu c)):=by
 unfold Tu;split;split<;>exact⟨rfl,rfl,λh=>⟨h.todo,h.defers,h.kind,h.fn⟩⟩;simp
def yK{p main fr c cs v w}(h:fr.kind=.normal):doReturn p main fr (c::cs) xw v w=.go (G (c.finish v) cs) w:=by
 simp[doReturn,h,Conc.G]
theorem Mh{p main fr c cs v w}(h:fr.kind=.deferred):doReturn p main fr (c::cs) xw v w=.go (G (Tu c) cs) w:=by
 simp[doReturn,h];rfl
def C4{main fr c cs}(h:X.St fr (c::cs))v g wc:
  ∃a,doReturn X.Q xy fr (c::cs++[c0]) xw v g=.go (G a (cs++[c0])) g/\doReturn X.P main (Zw X.ρ fr) ((c::cs).map (Zw X.ρ)++ds) xw (Zt X.ρ v) wc=.go (G (Zw X.ρ a) (cs.map (Zw X.ρ)++ds)) wc/\X.St a cs:=by
 have d:=h.all c Z1;obtain f|f:=h.top.kind;refine⟨c.finish v,yK f,?_,h.pop (Qw d v) (Qv _ _) (Qx _ _)⟩;rw[<-JM X.ρ X.Q c v d.todo];simp_all[yK,Zw];refine⟨Tu c,Mh f,?_,h.pop ((qI c).2.2 d) (qI (X:=X) c).1 (qI (X:=X) c).2.1⟩;grind [OY,Mh,Zw]
def Sim.same{fr cs}(h:X.St fr cs){a wc}(d:X.WR a wc):X.Sim c0 ds a wc wc (.go (G fr (cs++[c0])) a) (.go (G (Zw X.ρ fr) (cs.map (Zw X.ρ)++ds)) wc):=
 .inr ⟨fr,cs,a,_,_,rfl,rfl,h,.refl _ d⟩
end
end
section
section
variable {X:Cx}{c0:Zf}{ds:Z6}
def Cx.Agree.mono{d wc W a:Z4}(h:X.Agree d wc W)(g:U (R a)<=U (R W)/\a.drawn<=W.drawn):X.Agree d wc a:=
 ⟨λj f=>h.1 j Z0,λj f=>h.2 j Z0⟩
def Cx.Agree.next{k wc d a W:Z4}{es g:Zb}(h:X.Agree k wc W)(f:X.Aft k wc d a es g):X.Agree d a W:=by
 have n:=f.dr;have o:=f.drl;have p:=f.sz;have q:=f.szl;refine⟨λj l=> ?_,λj l=> ?_⟩;have:=h.1 (a.drawn-wc.drawn+j) Z0;rw[f.tl,f.tc,show d.drawn+j=k.drawn+(a.drawn-wc.drawn+j)from by omega,this];grind;have:=h.2 (U (R a)-U (R wc)+j) Z0;grind
def Cx.Aft.pre{j wc f d:Z4}{es:Zb}(a:Zb)(h:X.Aft j wc f d #[] es):X.Aft j wc f d a (a++es):=
 ⟨h.wr,h.sz,h.szl,h.dr,h.drl,h.tl,h.tc,h.oc,h.new,h.keep,λe g=>by
  obtain g|g:=Zfi.1 g;grind;obtain h|h:=h.evs e g;simp at h;simp_all,h.vis⟩
def Cx.Sim.after{l wc f d W:Z4}{g a:Zb}{s k:GStep}(n:X.Aft l wc f d #[] a)(h:X.Sim c0 ds f d W s k):X.Sim c0 ds l wc W (GStep.after g s) (GStep.after a k):=by
 obtain⟨o,w,y,rfl⟩|⟨t,p,j,r,q,rfl,rfl,x,u⟩:=h;exact .inl ⟨_,_,_,rfl⟩;exact .inr ⟨t,p,j,_,_,rfl,rfl,x,n.trans (u.pre a)⟩
def TN(p:Z5)(main:Bool)(fr:Zf)(cs:Z6)(j:Option Code)(YS:GStep)(w:Z4):GStep:=
 match fr.roundOf with
 |none=>if(match j with|none|some .ret=>xy|_=>xh)then .go (G {fr with mode:=.returning} cs) w else YS
 |some l=>
  let(r,es):=(Instr.endRound l j).runT p w #[]
  GStep.after (seen p fr.fn es)<|match r with
  |.ok v w=>doReturn p main fr cs xw v w
  |.halt _ w=>.ended (.stuck "range over a function: no such loop" (fr.pos p)) w
def qb(ok:X.Ok){main:Bool}{fr:Zf}{cs:Z6}(h:X.St fr cs)(j:Option Code)(I:j.all QF=xy){o:Outcome}{N:Z4}{B:Zb}(YS:GStep){g wc:Z4}(y:X.WR g wc)
  {W:Z4} (d:W=Y9 ((RE (Zw X.ρ fr) j).run X.P wc)) (F:X.Agree g wc W):
  X.Sim c0 ds g wc W (TN X.Q xy fr (cs++[c0]) j (.ended o N B) g) (TN X.P main (Zw X.ρ fr) (cs.map (Zw X.ρ)++ds) j YS wc):=by
 cases n:fr.roundOf with
 |none=>
  have a:(Zw X.ρ fr).roundOf=xw:=by simp[Zw,n]
  obtain rfl:W=wc:=by
   unfold RE at d;rw[a]at d;exact d
  have r:=Sim.same (c0:=c0) (ds:=ds) (fr:= {fr with mode:=.returning}) (cs:=cs) (h.with ⟨h.top.todo,h.top.defers,h.top.kind,h.top.fn⟩ rfl rfl) y;have e:∀(p:Z5) (main:Bool) (fr:Zf) (cs:Z6) (YS:GStep) (w:Z4),fr.roundOf=xw->TN p main fr cs j YS w=if(match j with|none|some .ret=>xy|_=>xh)then .go (G {fr with mode:=.returning} cs) w else YS:=λp main fr cs YS w h=>by
   unfold TN;split;rfl;rename_i l e;rw[h]at e;cases e
  rw[e _ _ _ _ _ _ n,e _ _ _ _ _ _ a];generalize (match j with|none|some .ret=>xy|_=>xh)=b;cases b;exact .inl ⟨_,_,_,rfl⟩;exact r
 |some l=>
  have a:(Zw X.ρ fr).roundOf=xk (X.ρ l):=by simp[Zw,n]
  unfold RE at d;unfold TN;rw[a,n];rw[a]at d;dsimp only at d⊢;rw[R3]at d;have u:=(Z1P (V:=[]) ok l j I).told y (d▸F);obtain⟨D,A⟩:=Q1 X.Q (Instr.endRound l j) g #[];rw[A];cases J:(Instr.endRound l j).run X.Q g with
  |halt x f=>exact .inl ⟨_,_,_,rfl⟩
  |ok v f=>
   rw[J]at u;obtain⟨b,M,C,t,H,z⟩:=u;obtain rfl:=Q7 d t rfl;obtain rfl:b=_:=H;rw[t];dsimp only;obtain _|⟨c,cs⟩:=cs;have:=h.bot;simp only[bot,n,ZdU,reduceCtorEq,and_false]at this;obtain⟨q,K,L,r⟩:=C4 (c0:=c0) (ds:=ds) (main:=main) h v f W;rw[K,L];refine .inr ⟨q,cs,f,_,_,rfl,rfl,r,(z.es λe k=> ?_)⟩;obtain k|k:=Zfi.1 k;exact mem_seen k;simp at k
abbrev Zp:=List Item
def qc{fr:Zf}{cs:Z6}(h:X.St fr cs)(k:Zp)(d:∀i∈k,Vx X.Q fr.roundOf.isSome i=xy){a wc:Z4}(f:X.WR a wc):
  X.Sim c0 ds a wc wc (.go (G {fr with todo:=k} (cs++[c0])) a) (.go (G {Zw X.ρ fr with todo:=k.map (YE X.ρ)} (cs.map (Zw X.ρ)++ds)) wc):=
 Sim.same (fr:= {fr with todo:=k}) (h.with ⟨d,h.top.defers,h.top.kind,h.top.fn⟩ rfl rfl) f
def Z6r{α β:Type}{RA:α->β->Prop}{k wc g:Z4}{es:Zb}{a:α}{j:Sem β}(h:X.Told RA k wc es (.ok a g) (j.runT X.P wc es)):∃b d f,j.run X.P wc=.ok b d/\RA a b/\X.Aft k wc g d es f:=by
 obtain⟨b,d,f,e,l,n⟩:=h;grind [Sem.runT_fst]
def Z2D{c:Code}(h:QF c=xy)(Q:Z5)(r:Bool):YT Q r c=xy:=by cases c<;>first|rfl|cases h
abbrev Zq:=Array Oper
def JI{p:Z5}{main:Bool}{fr:Zf}{cs:Z6}{w:Z4}{ops:Zq}{i:Nat}{rest:Zd}{k:Zp}{o:Oper}(f:fr.todo=.inRegion ops (i::rest)::k)(q:ops[i]?=xk o)
  (g:Region.wanted o (yielded ops fr.tmps)=xy) (d:fr.roundOf.isSome=xy->∀c,o.op≠.defer c):stepG.exec p main xy fr cs xw w=stepG.apply p xy fr cs xw (execOp fr.eval o) w:=by
 obtain⟨fn,j,n,a,h,kind,r⟩:=fr;dsimp only at f g d;subst f;simp only[stepG.exec,q,Ze4,g,Zec,Zer,stepG.oper,Frame.oper?];obtain _|l:=r;rfl;split;rename_i c e;exact absurd e (d rfl _);rfl
def Eo{p:Z5}{main:Bool}{fr:Zf}{cs:Z6}{w:Z4}{ops:Zq}{i:Nat}{rest:Zd}{k:Zp}(d:fr.todo=.inRegion ops (i::rest)::k)
  (f:((ops[i]?).map (Region.wanted · (yielded ops fr.tmps))).getD xh=xh):stepG.exec p main xy fr cs xw w=.go (G (fr.finish undef) cs) w:=by
 obtain⟨fn,h,j,a,g,kind,l⟩:=fr;dsimp only at d f;subst d;simp only[stepG.exec,f,ZdZ,Zeu];rfl
def Z70(ok:X.Ok){main:Bool}{fr:Zf}{cs:Z6}(h:X.St fr cs){ops:Zq}{i:Nat}{rest:Zd}{k:Zp}(t:fr.todo=.inRegion ops (i::rest)::k)(A:fr.mode=.run)(C:Vl fr=xh){p wc:Z4}(u:X.WR p wc)
  {W:Z4} (d:W=Y9 ((YH (Zw X.ρ fr)).run X.P wc)) (y:X.Agree p wc W):X.Sim c0 ds p wc W (stepG.exec X.Q xy xy fr (cs++[c0]) xw p) (stepG.exec X.P main xy (Zw X.ρ fr) (cs.map (Zw X.ρ)++ds) xw wc):=by
 have a:(Zw X.ρ fr).todo=.inRegion ops (i::rest)::k.map (YE X.ρ):=by simp[Zw,t,YE]
 have w:yielded ops (Zw X.ρ fr).tmps=yielded ops fr.tmps:=funext λj=>CI X.ρ ops fr.tmps j;have g:(Zw X.ρ fr).mode=.run:=by simp[Zw,A,W1]
 have skip:W=wc->((ops[i]?).map (Region.wanted · (yielded ops fr.tmps))).getD xh=xh->X.Sim c0 ds p wc W (stepG.exec X.Q xy xy fr (cs++[c0]) xw p) (stepG.exec X.P main xy (Zw X.ρ fr) (cs.map (Zw X.ρ)++ds) xw wc):=λq B=>by
  subst q;rw[Eo t B,Eo a ZcJ];have:=JM X.ρ X.Q fr undef h.top.todo;rw[S3]at this;rw[this];exact Sim.same (h.with (Qw h.top _) (Qv _ _) (Qx _ _)) u
 have f:Vx X.Q fr.roundOf.isSome (.inRegion ops (i::rest))=xy:=h.top.todo _ ZcK;cases n:ops[i]? with
 |none=>
  refine skip ?_ ZcJ;unfold YH at d;rw[g,a]at d;simp only[n]at d;exact d
 |some o=>
  cases l:Region.wanted o (yielded ops fr.tmps)with
  |false=>
   refine skip ?_ ZcK;unfold YH at d;rw[g,a]at d;simp only[n,w,l,ZdZ,Zeu]at d;exact d
  |true=>
   have r:XQ X.Q fr.roundOf.isSome o.op=xy:=by
    simp only[Vx,ZfO]at f;exact f o (Zgb n)
   have z:fr.roundOf.isSome=xy->∀c,o.op≠.defer c:=λF c e=>by
    simp_all[XQ]
   rw[JI t n l z,JI a n ZcK (by simp_all[Zw])];refine C3 h (Z1T (λx D=>Rj X.ρ fr x D) (λv=>rfl) ok o r (by simp_all[Vl])) u ?_ y;have e:YH (Zw X.ρ fr)=(execOp (Zw X.ρ fr).eval o>>=λ_=>pure ()):=by
    unfold YH;rw[g,a];simp only[n,w,l,Zer]
   grind [R3]
end
end
section
section
variable {X:Cx}{c0:Zf}{ds:Z6}
def zW{X:Cx}{fr}(h:X.OkF fr){i k}(e:fr.todo=i::k):Vx X.Q fr.roundOf.isSome i=xy/\∀j∈k,Vx X.Q fr.roundOf.isSome j=xy:=
 ⟨h.todo _ ZcK,λj a=>h.todo _ ZcK⟩
def Z2l{V rd s a}(h:X.Img Eq V s a):X.Img (X.NR rd) V (do s;pure .skip:Sem Next) (do a;pure .skip:Sem Next):=zj h
def Z6V(ok:X.Ok){main fr cs}(h:X.St fr cs){k}(o:fr.todo=.beginRound::k)(y:fr.mode=.run){f wc}(z:X.WR f wc)
  {W} (g:W=Y9 ((YH (Zw X.ρ fr)).run X.P wc)) (u:X.Agree f wc W):X.Sim c0 ds f wc W (stepG.exec X.Q xy xy fr (cs++[c0]) xw f) (stepG.exec X.P main xy (Zw X.ρ fr) (cs.map (Zw X.ρ)++ds) xw wc):=by
 have n:∀p main fr cs k w,fr.todo=.beginRound::k->stepG.exec p main xy fr cs xw w=stepG.apply p xy fr cs xw (do fr.roundOf.elim _ Instr.beginRound;pure .skip) w:=λp main fr cs k w e=>by
  let⟨fn,r,t,d,q,kind,A⟩:=fr;subst e;rfl
 have a:(Zw X.ρ fr).todo=.beginRound::k.map (YE X.ρ):=by simp[Zw,o,YE]
 have j:(Zw X.ρ fr).mode=.run:=by simp[Zw,y,W1]
 rw[n _ _ _ _ _ _ o,n _ _ _ _ _ _ a];have x:X.Img Eq [] (fr.roundOf.elim (stuck "beginRound: no round") Instr.beginRound) ((Zw X.ρ fr).roundOf.elim (stuck "beginRound: no round") Instr.beginRound):=by
  show X.Img Eq [] _ ((fr.roundOf.map X.ρ).elim _ _);cases fr.roundOf with
  |none=>exact ZA _ _
  |some l=>exact Z1s ok l
 refine C3 h (Z2l x) z ?_ u;unfold YH at g;rw[j,a]at g;rw[g,Zel];cases((Zw X.ρ fr).roundOf.elim _ Instr.beginRound).run X.P wc<;>rfl
def Z6Y(ok:X.Ok){main fr cs}(h:X.St fr cs){l k}(C:fr.todo=.endRangeFunc l::k)(R:fr.mode=.run){g wc}(S:X.WR g wc)
  {W} (z:W=Y9 ((YH (Zw X.ρ fr)).run X.P wc)) (M:X.Agree g wc W):X.Sim c0 ds g wc W (stepG.exec X.Q xy xy fr (cs++[c0]) xw g) (stepG.exec X.P main xy (Zw X.ρ fr) (cs.map (Zw X.ρ)++ds) xw wc):=by
 have F:∀p main fr cs l k w,fr.todo=.endRangeFunc l::k->stepG.exec p main xy fr cs xw w=
   GStep.after (seen p fr.fn ((Instr.endLoop l).runT p w #[]).2) (match((Instr.endLoop l).runT p w #[]).1 with
    |.ok r w=>.go (G {fr with todo:=(r.map Item.code).toList++k} cs) w
    |.halt (.panic v) w=>.go (G (fr.raise [{v,recovered:=xh}]) cs) w
    |.halt _ w=>.ended (.stuck "range over a function: no such loop" (fr.pos p)) w):=λp main fr cs l k w e=>by
  let⟨fn,J,todo,t,I,kind,T⟩:=fr;subst e;rfl
 have q:(Zw X.ρ fr).todo=.endRangeFunc (X.ρ l)::k.map (YE X.ρ):=by simp[Zw,C,YE]
 have B:(Zw X.ρ fr).mode=.run:=by simp[Zw,R,W1]
 rw[F _ _ _ _ _ _ _ C,F _ _ _ _ _ _ _ q];have A:W=Y9 ((Instr.endLoop (X.ρ l)).run X.P wc):=by
  unfold YH at z;rw[B,q]at z;rwa[R3]at z
 have u:=(Z1O (V:=[]) ok l).told S (A▸M);let⟨L,K⟩:=Q1 X.Q (Instr.endLoop l) g #[];rw[K];cases H:(Instr.endLoop l).run X.Q g with
 |halt x f=>
  rw[H]at u;cases x with
  |panic v=>
   let⟨D,d,n,y⟩:=u;obtain rfl:=Q7 A n rfl;rw[n];refine .inr ⟨fr.raise [{v,recovered:=xh}],cs,f,_,_,rfl,?_,h.with (yB h.top _) (yA _ _) (yD _ _),(y.es (es2:=seen X.P fr.fn d++ #[]) λe o=> ?_)⟩;rw[<-yC];rfl;rw[Zez]at o;exact mem_seen o
  |_=>exact .inl ⟨_,_,_,rfl⟩
 |ok j f=>
  rw[H]at u;obtain⟨b,D,d,n,⟨rfl,N⟩,y⟩:=u;obtain rfl:=Q7 A n rfl;rw[n];let⟨a,O⟩:=zW h.top C;refine .inr ⟨{fr with todo:=(j.map Item.code).toList++k},cs,f,_,_,rfl,?_,h.with ⟨λi a=> ?_,h.top.defers,h.top.kind,h.top.fn⟩ rfl rfl,(y.es (es2:=seen X.P fr.fn d++ #[]) λe o=> ?_)⟩;cases j<;>simp[Zw,YE,GStep.after];obtain a|a:=Ze8.1 a;obtain _|c:=j;cases a;simp[Ze4,Option.toList_some,ZeO]at a;subst a;exact Z2D (by simpa using N) _ _;exact O i a;rw[Zez]at o;exact mem_seen o
def Z6X(ok:X.Ok){main fr cs}(h:X.St fr cs){id ops k}(o:fr.todo=.code (.region id ops xy)::k)(J:fr.mode=.run){f wc}(L:X.WR f wc)
  {W} (l:W=Y9 ((YH (Zw X.ρ fr)).run X.P wc)) (F:X.Agree f wc W):X.Sim c0 ds f wc W (stepG.exec X.Q xy xy fr (cs++[c0]) xw f) (stepG.exec X.P main xy (Zw X.ρ fr) (cs.map (Zw X.ρ)++ds) xw wc):=by
 have r:∀p main fr cs k w,fr.todo=.code (.region id ops xy)::k->stepG.exec p main xy fr cs xw w=
   (match(choose (.order fr.fn id)).run p w with
    |.ok t w=>.go (G {fr with todo:=.inRegion ops (Region.schedule _ ops t)::k} cs) w
    |.halt _ w=>.ended (.stuck "order" (fr.pos p)) w):=λp main fr cs k w e=>by
  let⟨fn,B,todo,j,A,kind,N⟩:=fr;subst e;rfl
 have d:(Zw X.ρ fr).todo=.code (.region id ops xy)::k.map (YE X.ρ):=by simp[Zw,o,YE]
 have n:(Zw X.ρ fr).mode=.run:=by simp[Zw,J,W1]
 rw[r _ _ _ _ _ _ o,r _ _ _ _ _ _ d];have z:W=Y9 ((choose (.order fr.fn id)).run X.P wc):=by
  unfold YH at l;rw[n,d]at l;rwa[R3]at l
 have y:=(Ub (X:=X) (V:=[]) _).told L (z▸F);cases K:(choose _).run X.Q f with
 |halt x g=>exact .inl ⟨_,_,_,rfl⟩
 |ok t g=>
  rw[K]at y;obtain⟨b,q,D,u,rfl,C⟩:=Z6r y;obtain rfl:W=q:=by rw[z,u];rfl
  rw[show(Zw X.ρ fr).fn=fr.fn from rfl,u];let⟨I,M⟩:=zW h.top o;exact .inr ⟨{fr with todo:=.inRegion ops _::k},cs,g,_,_,rfl,rfl,h.with ⟨λi a=>by obtain rfl|a:=Ze3.1 a;exact I;grind,h.top.defers,h.top.kind,h.top.fn⟩ rfl rfl,(C.es (es2:=#[]) λe H=>by simp at H)⟩
def Jw(fr:Zf)(f:Operand)(l:Nat):Sem Next:=do let d<-resolve fr.eval {callee:=.value f,args:=#[.const (.func (.yield l) #[] #[])],argTypes:=#[]} 0;invoke d.target d.args
def Z1F(ok:X.Ok){fr fr'}(j:∀x,ZV x=xy->fr'.eval x=Zt X.ρ (fr.eval x)){f}(k:ZV f=xy)l{rd V}:X.Img (X.NR rd) V (Jw fr f l) (Jw fr' f (X.ρ l)):=by
 unfold Jw resolve;dsimp only;have a:(#[.const (.func (.yield (X.ρ l)) #[] #[])]:Array Operand).map fr'.eval=(#[.func (.yield l) #[] #[]]:Array Value).map (Zt X.ρ):=by
  simp[Frame.eval,Zt,V2]
 have g:(#[.const (.func (.yield l) #[] #[])]:Array Operand).map fr.eval=(#[.func (.yield l) #[] #[]]:Array Value):=by
  simp[Frame.eval]
 rw[a,g,j f k];refine .bind (FH _ _) ?_;rintro n d _- ⟨rfl,h⟩;exact jG ok d.target d.args h
def Z71(ok:X.Ok){main fr cs}(h:X.St fr cs){f g a b k}(I:fr.todo=.code (.rangeFunc f g a b)::k)(hm:fr.mode=.run){o wc}(hw:X.WR o wc)
  {W} (B:W=Y9 ((YH (Zw X.ρ fr)).run X.P wc)) (N:X.Agree o wc W):X.Sim c0 ds o wc W (stepG.exec X.Q xy xy fr (cs++[c0]) xw o) (stepG.exec X.P main xy (Zw X.ρ fr) (cs.map (Zw X.ρ)++ds) xw wc):=by
 have K:∀p main fr cs k w,fr.todo=.code (.rangeFunc f g a b)::k->stepG.exec p main xy fr cs xw w=
   GStep.after (seen p fr.fn ((Instr.enterLoop fr.fn fr.tmps g a b fr.roundOf).runT p w #[]).2) (match((Instr.enterLoop fr.fn fr.tmps g a b fr.roundOf).runT p w #[]).1 with
    |.ok (l,mark) w=>stepG.apply p xy {fr with todo:=.inRangeFunc l::k,defers:=mark++fr.defers} cs xw (Jw fr f l) w
    |.halt _ w=>.ended (.stuck "range over a function: no such loop" (fr.pos p)) w):=λp main fr cs k w e=>by
  let⟨fn,R,todo,defers,O,kind,ro⟩:=fr;subst e;rfl
 have z:(Zw X.ρ fr).todo=.code (.rangeFunc f g a b)::k.map (YE X.ρ):=by simp[Zw,I,YE]
 have D:(Zw X.ρ fr).mode=.run:=by simp[Zw,hm,W1]
 rw[K _ _ _ _ _ _ I,K _ _ _ _ _ _ z];let⟨t,hk⟩:=zW h.top I;simp[Vx,YT,ZdJ]at t;let⟨⟨hf,G⟩,H⟩:=t;have u:=Z1Q (V:=[]) ok fr.fn fr.tmps g a b fr.roundOf h.top.fn G H;have T:YH (Zw X.ρ fr)=(Instr.enterLoop fr.fn (fr.tmps.map (Zt X.ρ)) g a b (fr.roundOf.map X.ρ)>>=λx=>Jw (Zw X.ρ fr) f x.1>>=λ_=>pure ()):=by
  unfold YH;rw[D,z];rfl
 rw[T]at B;have hg:X.Agree o wc (Y9 ((Instr.enterLoop fr.fn (fr.tmps.map (Zt X.ρ)) g a b (fr.roundOf.map X.ρ)).run X.P wc)):=by
  refine N.mono ?_;rw[B,Zel];cases(Instr.enterLoop fr.fn _ g a b _).run X.P wc with
  |ok x w=>exact J6 X.P _ w
  |halt x w=>exact⟨ZdL _,ZdL _⟩
 have M:=u.told hw hg;let⟨Y,S⟩:=Q1 X.Q (Instr.enterLoop fr.fn fr.tmps g a b fr.roundOf) o #[];rw[S];cases hq:(Instr.enterLoop fr.fn fr.tmps g a b fr.roundOf).run X.Q o with
 |halt x a0=>exact .inl ⟨_,_,_,rfl⟩
 |ok x J=>
  let⟨l,mark⟩:=x;rw[hq]at M;obtain⟨q,j,n,L,y,⟨rfl,F⟩,A⟩:∃q j n,(Instr.enterLoop fr.fn (fr.tmps.map (Zt X.ρ)) g a b (fr.roundOf.map X.ρ)).runT X.P wc #[]=(.ok q j,n)/\(Instr.enterLoop fr.fn (fr.tmps.map (Zt X.ρ)) g a b (fr.roundOf.map X.ρ)).run X.P wc=.ok q j/\(q=(X.ρ l,mark.map (Xb X.ρ))/\∀d∈mark,VV d=xy)/\X.Aft o wc J j #[] n:=by
   let⟨q,j,n,L,hb,A⟩:=M;grind [Sem.runT_fst]
  rw[show(Instr.enterLoop (Zw X.ρ fr).fn (Zw X.ρ fr).tmps g a b (Zw X.ρ fr).roundOf).runT X.P wc #[]=_ from L];dsimp only;rw[Zel,y,Zem,R3]at B;have C:X.OkF {fr with todo:=.inRangeFunc l::k,defers:=mark++fr.defers}:=⟨λi t=>by obtain rfl|t:=Ze3.1 t;rfl;grind,λd r=>by obtain r|r:=Ze8.1 r;exact F d r;exact h.top.defers d r,h.top.kind,h.top.fn⟩;have hs:=C3 (c0:=c0) (ds:=ds) (h.with C rfl rfl) (Z1F ok (fr:=fr) (fr':=Zw X.ρ fr) (λx hx=>Rj X.ρ fr x hx) hf l) A.wr B (N.next A);have U:({Zw X.ρ fr with todo:=.inRangeFunc (X.ρ l)::k.map (YE X.ρ),defers:=mark.map (Xb X.ρ)++(Zw X.ρ fr).defers}:Frame)=Zw X.ρ {fr with todo:=.inRangeFunc l::k,defers:=mark++fr.defers}:=by
   simp[Zw,YE]
  rw[U];exact hs.after (A.es λe Z=>mem_seen Z)
end
end
section
section
variable {X:Cx}{c0:Zf}{ds:Z6}
theorem Z6Z(ok:X.Ok){main:Bool}{fr:Zf}{cs:Z6}(h:X.St fr cs)(M:fr.mode=.run)(T:Vl fr=xh){F wc:Z4}(D:X.WR F wc)
  {W:Z4} (g:W=Y9 ((YH (Zw X.ρ fr)).run X.P wc)) (J:X.Agree F wc W):X.Sim c0 ds F wc W (stepG.exec X.Q xy xy fr (cs++[c0]) xw F) (stepG.exec X.P main xy (Zw X.ρ fr) (cs.map (Zw X.ρ)++ds) xw wc):=by
 have t:(Zw X.ρ fr).mode=.run:=by simp[Zw,M,W1]
 cases u:fr.todo with
 |nil=>
  have j:(Zw X.ρ fr).todo=[]:=by simp[Zw,u]
  have y:∀(p:Z5) (main:Bool) (fr:Zf) (cs:Z6) (w:Z4),fr.todo=[]->stepG.exec p main xy fr cs xw w=TN p main fr cs xw (.ended (.stuck "exit, goto: no such block or label" (fr.pos p)) w) w:=λp main fr cs w e=>by
   obtain⟨fn,q,todo,d,n,kind,B⟩:=fr;dsimp only at e;subst e;rfl
  rw[y _ _ _ _ _ u,y _ _ _ _ _ j];unfold YH at g;rw[t,j]at g;exact qb ok h xw rfl _ D g J
 |cons i k=>
  obtain⟨A,C⟩:=zW h.top u;have j:(Zw X.ρ fr).todo=YE X.ρ i::k.map (YE X.ρ):=by simp[Zw,u]
  have I:∀x:Zp,(∀i∈x,Vx X.Q fr.roundOf.isSome i=xy)->(∀(p:Z5) (main:Bool) fn q d n kind B (cs:Z6) (w:Z4),stepG.exec p main xy ⟨fn,q,i::k,d,n,kind,B⟩ cs xw w=.go (G ⟨fn,q,x,d,n,kind,B⟩ cs) w)->
    (∀(p:Z5) (main:Bool) fn q d n kind B (cs:Z6) (w:Z4),stepG.exec p main xy ⟨fn,q,YE X.ρ i::k.map (YE X.ρ),d,n,kind,B⟩ cs xw w=.go (G ⟨fn,q,x.map (YE X.ρ),d,n,kind,B⟩ cs) w)->
    W=wc->X.Sim c0 ds F wc W (stepG.exec X.Q xy xy fr (cs++[c0]) xw F) (stepG.exec X.P main xy (Zw X.ρ fr) (cs.map (Zw X.ρ)++ds) xw wc):=λx S y e2 R=>by
   rw[R];have r:=qc (c0:=c0) (ds:=ds) h x S D
   rw[show stepG.exec X.Q xy xy fr (cs++[c0]) xw F=.go (G {fr with todo:=x} (cs++[c0])) F from by
    obtain⟨fn,q,todo,d,n,kind,B⟩:=fr;dsimp only at u;subst u;exact y _ _ _ _ _ _ _ _ _ _]
   have O:∀H:Zf,H.todo=YE X.ρ i::k.map (YE X.ρ)->stepG.exec X.P main xy H (cs.map (Zw X.ρ)++ds) xw wc=.go (G {H with todo:=x.map (YE X.ρ)} (cs.map (Zw X.ρ)++ds)) wc:=λH e=>by
    obtain⟨fn,q,todo,d,n,kind,B⟩:=H;dsimp only at e;subst e;exact e2 _ _ _ _ _ _ _ _ _ _
   rw[O _ j];exact r
  have no:(∀fn q d n kind B,∃o w es,stepG.exec X.Q xy xy ⟨fn,q,i::k,d,n,kind,B⟩ (cs++[c0]) xw F=.ended o w es)->X.Sim c0 ds F wc W (stepG.exec X.Q xy xy fr (cs++[c0]) xw F) (stepG.exec X.P main xy (Zw X.ρ fr) (cs.map (Zw X.ρ)++ds) xw wc):=λe=>by
   refine .inl ?_;obtain⟨fn,q,todo,d,n,kind,B⟩:=fr;dsimp only at u;subst u;exact e _ _ _ _ _ _
  cases i with
  |inBlock id=>exact I k C (λ_ _ _ _ _ _ _ _ _ _=>rfl) (λ_ _ _ _ _ _ _ _ _ _=>rfl) ZcT
  |inScope c=>exact I k C (λ_ _ _ _ _ _ _ _ _ _=>rfl) (λ_ _ _ _ _ _ _ _ _ _=>rfl) ZcT
  |inLoop c=>exact I (.code c:: .inLoop c::k) (λi r=>ZcV) (λ_ _ _ _ _ _ _ _ _ _=>rfl) (λ_ _ _ _ _ _ _ _ _ _=>rfl) ZcT
  |inRangeFunc l=>exact no λ_ _ _ _ _ _=>⟨_,_,_,rfl⟩
  |beginRound=>exact Z6V ok h u M D g J
  |endRangeFunc l=>exact Z6Y ok h u M D g J
  |call=>cases A
  |extern=>cases A
  |inRegion L l=>
   obtain _|⟨i,Z⟩:=l;exact I k C (λ_ _ _ _ _ _ _ _ _ _=>rfl) (λ_ _ _ _ _ _ _ _ _ _=>rfl) ZcT;exact Z70 ok h u M T D g J
  |code c=>
   cases c with
   |skip=>exact I k C (λ_ _ _ _ _ _ _ _ _ _=>rfl) (λ_ _ _ _ _ _ _ _ _ _=>rfl) ZcT
   |label l=>exact I k C (λ_ _ _ _ _ _ _ _ _ _=>rfl) (λ_ _ _ _ _ _ _ _ _ _=>rfl) ZcT
   |seq a b=>
    simp only[Vx,YT,ZdJ]at A;exact I (.code a:: .code b::k) (λi r=>by obtain rfl|r:=Ze3.1 r;exact A.1;obtain rfl|r:=Ze3.1 r;exact A.2;exact C i r) (λ_ _ _ _ _ _ _ _ _ _=>rfl) (λ_ _ _ _ _ _ _ _ _ _=>rfl) ZcT
   |block id c=>exact I (.code c:: .inBlock id::k) (λi r=>by obtain rfl|r:=Ze3.1 r;exact A;obtain rfl|r:=Ze3.1 r;rfl;exact C i r) (λ_ _ _ _ _ _ _ _ _ _=>rfl) (λ_ _ _ _ _ _ _ _ _ _=>rfl) ZcT
   |loop c=>exact I (.code c:: .inLoop c::k) (λi r=>ZcV) (λ_ _ _ _ _ _ _ _ _ _=>rfl) (λ_ _ _ _ _ _ _ _ _ _=>rfl) ZcT
   |scope c=>exact I (.code c:: .inScope c::k) (λi r=>ZcV) (λ_ _ _ _ _ _ _ _ _ _=>rfl) (λ_ _ _ _ _ _ _ _ _ _=>rfl) ZcT
   |refuse a0=>exact no λ_ _ _ _ _ _=>⟨_,_,_,rfl⟩
   |rangeFunc f ps a b=>exact Z71 ok h u M D g J
   |region id L N=>
    cases N with
    |true=>exact Z6X ok h u M D g J
    |false=>exact I (.inRegion L (List.range L.size)::k) (λi r=>by obtain rfl|r:=Ze3.1 r;exact A;exact C i r) (λ_ _ _ _ _ _ _ _ _ _=>rfl) (λ_ _ _ _ _ _ _ _ _ _=>rfl) ZcT
   |cond c a b=>
    simp only[Vx,YT,ZdJ]at A;obtain⟨⟨r,O⟩,h3⟩:=A;have y:∀(p:Z5) (main:Bool) (fr:Zf) (cs:Z6) (k:Zp) (w:Z4),fr.todo=.code (.cond c a b)::k->stepG.exec p main xy fr cs xw w=match fr.eval c with
      |.bool z=>.go (G {fr with todo:=.code (if z then a else b)::k} cs) w
      |_=>.ended (.stuck "cond: bool expected" (fr.pos p)) w:=λp main fr cs k w e=>by
     obtain⟨fn,q,todo,d,n,kind,B⟩:=fr;dsimp only at e;subst e;rfl
    rw[y _ _ _ _ _ _ u,y _ _ _ _ _ _ j,Rj X.ρ fr c r];obtain rfl:W=wc:=ZcT;by_cases Y:∃z,fr.eval c=.bool z;obtain⟨z,U⟩:=Y;rw[U,U0]
    exact qc h (.code (if z then a else b)::k) (λi r=>by
     obtain rfl|r:=Ze3.1 r;cases z;exact h3;exact O;exact C i r) D
    refine .inl ⟨.stuck "cond: bool expected" (fr.pos X.Q),F, #[],?_⟩;split;rename_i z U;exact absurd ⟨z,U⟩ Y;rfl
   |ret=>
    have y:∀(p:Z5) (main:Bool) (fr:Zf) (cs:Z6) (k:Zp) (w:Z4),fr.todo=.code .ret::k->stepG.exec p main xy fr cs xw w=TN p main fr cs (xk .ret) (.ended (.stuck "exit, goto: no such block or label" (fr.pos p)) w) w:=λp main fr cs k w e=>by
     obtain⟨fn,q,todo,d,n,kind,B⟩:=fr;dsimp only at e;subst e;rfl
    rw[y _ _ _ _ _ _ u,y _ _ _ _ _ _ j];unfold YH at g;rw[t,j]at g;exact qb ok h (xk .ret) rfl _ D g J
   |exit id=>
    have y:∀(p:Z5) (main:Bool) (fr:Zf) (cs:Z6) (k:Zp) (w:Z4),fr.todo=.code (.exit id)::k->stepG.exec p main xy fr cs xw w=(exitTo id k).elim (TN p main fr cs (xk (.exit id)) (.ended (.stuck "exit, goto: no such block or label" (fr.pos p)) w) w) (λx=>.go (G {fr with todo:=x} cs) w):=λp main fr cs k w e=>by
     obtain⟨fn,q,todo,d,n,kind,B⟩:=fr;dsimp only at e;subst e;rfl
    rw[y _ _ _ _ _ _ u,y _ _ _ _ _ _ j,jf];unfold YH at g;rw[t,j]at g;dsimp only[YE]at g;rw[jf]at g;cases K:exitTo id k with
    |none=>
     rw[K]at g;exact qb ok h (xk (.exit id)) rfl _ D g J
    |some x=>
     obtain rfl:W=wc:=by rw[K]at g;exact g
     exact qc h x (λi r=>C i (Ep id k x K i r)) D
   |goto l=>
    have y:∀(p:Z5) (main:Bool) (fr:Zf) (cs:Z6) (k:Zp) (w:Z4),fr.todo=.code (.goto l)::k->stepG.exec p main xy fr cs xw w=(gotoIn l k).elim (TN p main fr cs (xk (.goto l)) (.ended (.stuck "exit, goto: no such block or label" (fr.pos p)) w) w) (λx=>.go (G {fr with todo:=x} cs) w):=λp main fr cs k w e=>by
     obtain⟨fn,q,todo,d,n,kind,B⟩:=fr;dsimp only at e;subst e;rfl
    rw[y _ _ _ _ _ _ u,y _ _ _ _ _ _ j,jv];unfold YH at g;rw[t,j]at g;dsimp only[YE]at g;rw[jv]at g;cases K:gotoIn l k with
    |none=>
     rw[K]at g;exact qb ok h (xk (.goto l)) rfl _ D g J
    |some x=>
     obtain rfl:W=wc:=by rw[K]at g;exact g
     exact qc h x (λi r=>F8 X.Q _ l k x C K i r) D
end
end
section
section
variable {X:Cx}{c0:Zf}{ds:Z6}
def yn(m:FrameMode):Bool:=match m with|.panicking _=>xy|_=>xh
section
variable {p:Z5}{fr:Zf}{cs:Z6}{d:Deferred}{w w':Z4}{es:Zb}
def QO(fr:Zf)(d:Deferred):Prop:=((match d.target with|.nil=>xy|_=>xh)&&yn fr.mode)=xh
def Z0h(h:¬QO fr d):∃o w' es,callDeferred p fr cs xw d w=.ended o w' es:=by
 have h:((match d.target with|.nil=>xy|_=>xh)&&(match fr.mode with|.panicking _=>xy|_=>xh))=xy:=by simpa[QO,yn]using h
 exact⟨_,_,_,if_pos h⟩
def DY(q:QO fr d):callDeferred p fr cs xw d w=(
  let(r,es):=(invoke d.target d.args).runT p w #[];let es:=match r with|.halt .blocked _|.halt .waiting _=> #[] |_=>es
  GStep.after (seen p fr.fn es)<|match r with
  |.ok (.enter f args) w=>.go (G (Frame.enter p f args .deferred) (fr::cs)) w
  |.ok (.round l f o assign k) w=>.go (G (Frame.round l f o assign k .deferred) (fr::cs)) w
  |.ok (.callThen d g j a) w=>.go (G (Frame.ofExtern p d g j a .deferred) (fr::cs)) w
  |.ok (.row row args) w=>.go (G (Frame.ofRow p row args .deferred) (fr::cs)) w
  | .ok .recover w=>
    match fr.mode,tryRecover fr cs with
    |.returning,xk (_,callers)=>.go (G fr callers) w
    |_,_=>.go (G fr cs) w
  |.ok (.sleep n) w=>.go {frame:=fr,callers:=cs,status:=.sleeping n,dying:=xw} w
  |.ok (.alone xh _) w=>.alone (G fr cs) xh w
  | .ok (.timer _) w|.ok (.alone _ _) w=>
    .ended (.unsupported (.noEntry "time.newTimer, stopTimer, resetTimer, runtime_procPin or procUnpin as a deferred call") (fr.pos p)) w
  |.ok .collect w=>.collect (G fr cs) w
  |.ok (.watch _) w=>.watch (G fr cs) w
  |.ok (.coroswitch c xy) w=>.coroswitch (G fr cs) c xy w
  |.ok (.coroswitch _ xh) w|.ok (.newcoro ..) w=>.ended (.unsupported (.noEntry "a deferred call of iter.newcoro or iter.coroswitch") (fr.pos p)) w
  |.ok (.stack ..) w=>.ended (.unsupported (.noEntry "runtime.Caller or Callers as a deferred call or in a go statement") (fr.pos p)) w
  |.ok _ w=>.go (G fr cs) w
  |.halt (.panic v) w=>.go (G (fr.raise [{v,recovered:=xh}]) cs) w
  |.halt (.exit c) w=>.ended (.exit c) w
  |.halt (.fatal m) w=>endFatal p fr cs xw m w
  |.halt (.throw m) w=>endThrow fr m w
  |.halt (.unsupported u) w=>.ended (.unsupported u (fr.pos p)) w
  |.halt (.stuck s) w=>.ended (.stuck s (fr.pos p)) w
  |.halt .goexit w=>.go (G (fr.raise [goexitEntry]) cs) w
  |.halt .blocked w=>.go {frame:= {fr with defers:=d::fr.defers},callers:=cs,status:=.blocked,dying:=xw} w
  |.halt .waiting w=>.go {frame:= {fr with defers:=d::fr.defers},callers:=cs,status:=.waiting,dying:=xw} w):=by
 have h:=q;exact if_neg (λe=>Bool.false_ne_true (h.symm.trans e))
end
def Z6W(ok:X.Ok){fr cs}(h:X.St fr cs)d(T:VV d=xy){u wc}(U:X.WR u wc){W}(F:W=Y9 ((invoke (Xb X.ρ d).target (Xb X.ρ d).args).run X.P wc))(S:X.Agree u wc W):
  X.Sim c0 ds u wc W (callDeferred X.Q fr (cs++[c0]) xw d u) (callDeferred X.P (Zw X.ρ fr) (cs.map (Zw X.ρ)++ds) xw (Xb X.ρ d) wc):=by
 by_cases G:QO fr d;have H:QO (Zw X.ρ fr) (Xb X.ρ d):=by
  have o:yn (Zw X.ρ fr).mode=yn fr.mode:=by let⟨fn,n,L,A,z,kind,Y⟩:=fr;cases z<;>rfl
  have N:(match(Xb X.ρ d).target with|.nil=>xy|_=>xh)=(match d.target with|.nil=>xy|_=>xh):=by let⟨t,a⟩:=d;cases t<;>rfl
  unfold QO;rw[o,N];exact G
 have y:=(jG (V:=[]) (rd:=xy) ok d.target d.args T).told U (F▸S);let⟨O,M⟩:=Q1 X.Q (invoke d.target d.args) u #[];rw[DY G,DY H,M];have last:∀(es j:Zb) e,(∀e∈es,e∈j)->e∈es++(#[]:Array Event)->e∈j:=λes j e D J=>D e ZcJ;cases K:(invoke d.target d.args).run X.Q u with
 |halt x g=>
  rw[K]at y;cases x with
  |panic v=>
   let⟨I,j,o,C⟩:=y;obtain rfl:=Q7 F o rfl;rw[show(invoke (Xb X.ρ d).target (Xb X.ρ d).args).runT X.P wc #[]=_ from o];refine .inr ⟨fr.raise [{v,recovered:=xh}],cs,g,_,seen X.P fr.fn j++ #[],rfl,?_,h.with (yB h.top _) (yA _ _) (yD _ _),C.es λe r=>last _ _ e (λe r=>mem_seen r) r⟩;rw[<-yC];rfl
  |stuck=>exact .inl ⟨_,_,_,rfl⟩
  |unsupported=>exact .inl ⟨_,_,_,rfl⟩
  |_=>exact False.elim y
 |ok a g=>
  rw[K]at y;let⟨b,I,j,o,q,C⟩:=y;obtain rfl:=Q7 F o rfl;rw[show(invoke (Xb X.ρ d).target (Xb X.ρ d).args).runT X.P wc #[]=_ from o];have k:X.Aft u wc g W #[] (seen X.P fr.fn j++ #[]):=C.es λe r=>last _ _ e (λe r=>mem_seen r) r;cases a with
  |value v=>obtain rfl:b=_:=q;exact .inr ⟨fr,cs,g,_,_,rfl,rfl,h,k⟩
  |skip=>obtain rfl:b=_:=q;exact .inr ⟨fr,cs,g,_,_,rfl,rfl,h,k⟩
  |defer=>obtain⟨rfl,_⟩:b=_/\_:=q;exact .inr ⟨fr,cs,g,_,_,rfl,rfl,h,k⟩
  |recover=>obtain⟨_,R⟩:b=_/\_:=q;cases R
  |enter f args=>
   obtain⟨rfl,B⟩:b=_/\_:=q;refine .inr ⟨Frame.enter X.Q f args .deferred,fr::cs,g,_,_,rfl,?_,h.push (Eh B args _ (.inr rfl)),k⟩;rw[<-Ei B];rfl
  |round l f n a c=>
   obtain⟨rfl,D,J,B⟩:b=_/\_:=q;refine .inr ⟨Frame.round l f n a c .deferred,fr::cs,g,_,_,rfl,?_,h.push (Ml h.top l f B n a c D J _ (.inr rfl)),k⟩;rfl
  |_=>exact False.elim q
 exact .inl (Z0h G)
def jK fn f{V}:X.Img X.Rv V (results fn f) (results fn (f.map (Zt X.ρ))):=by
 have one:∀V (r:ResultVar),X.Img X.Rv V (match r with|.tmp t=>pure (f.getD t undef)|.cell a t=>do loadVar t (<-asAddr (f.getD a undef)):Sem Value)
   (match r with|.tmp t=>pure ((f.map _).getD t undef)|.cell a t=>do loadVar t (<-asAddr ((f.map _).getD a undef)):Sem Value):=λV r=>by
  cases r with
  |tmp t=>dsimp only;rw[Rr];exact .pure rfl
  |cell a t=>
   dsimp only;rw[Rr];refine .bind (jy _) ?_;rintro g a _-rfl;exact JY _ _
 have all:∀(l:List ResultVar) V,X.Img (λa b=>b=a.map (Zt X.ρ)) V (l.mapM λr=>(match r with|.tmp t=>pure (f.getD t undef)|.cell a t=>do loadVar t (<-asAddr (f.getD a undef)):Sem Value))
   (l.mapM λr=>(match r with|.tmp t=>pure ((f.map (Zt X.ρ)).getD t undef)|.cell a t=>do loadVar t (<-asAddr ((f.map (Zt X.ρ)).getD a undef)):Sem Value)):=λl=>by
  induction l with
  |nil=>intro V;simp[ZgZ];exact .pure rfl
  |cons r l j=>
   intro V;simp only[Zg5];refine .bind (one V r) ?_;rintro g v _-rfl;refine .bind (j g) ?_;rintro k vs _-rfl;exact .pure rfl
 unfold results;rw[Zff,Zff];refine .bind (RA:=λa b=>b=a.map (Zt X.ρ)) (.map (all _ _) λa b h=>ZcJ) ?_;rintro g vs _-rfl;refine .pure ?_;show _=Zt _ _;grind [vs,Ui]
def DX{p fr}(h:X.OkF fr):fr.catches p=xh:=by
 unfold Frame.catches;have a:=h.todo;split;rename_i e;have:=a _ (by rw[e];exact ZeL ..);cases this;rfl
def Z0g{p fr}(h:X.OkF fr):(Zw X.ρ fr).catches p=xh:=by
 unfold Frame.catches;have f:=h.todo;split
 .rename_i e;have e:fr.todo.map _=_:=e;cases a:fr.todo with
  |nil=>simp_all
  |cons i k=>
   rw[a]at e;have:=f i ZcK;cases i<;>first|(cases this;done)|cases e
 rfl
def ER{fr}(h:X.OkF fr):(∃fn a,X.Q.funcs[fr.fn]?=xk fn/\X.P.funcs[(Zw X.ρ fr).fn]?=xk a/\a.results=fn.results)\/(X.Q.funcs[fr.fn]?=xw/\X.P.funcs[(Zw X.ρ fr).fn]?=xw):=by
 obtain⟨fn,c,f,g,_⟩|h|⟨fn,a,f,g,j⟩:=h.fn;exact .inl ⟨fn,fn,f,g,rfl⟩;exact .inr h;exact .inl ⟨fn,a,f,g,j⟩
def Mg{fn a}(h:a.results=fn.results)t:results a t=results fn t:=by grind [results]
def Cy{p main fr cs w}(a:fr.defers=[])(g:fr.mode=.returning)(f:p.funcs[fr.fn]?=xw):unwind p main fr cs xw w=doReturn p main fr cs xw (fr.tmps.getD 0 undef) w:=by
 simp_all[unwind]
def Cv{p main fr c cs w a}(f:fr.defers=[])(g:fr.mode=.panicking a)(hc:fr.catches p=xh):unwind p main fr (c::cs) xw w=.go (G (c.raise a) cs) w:=by
 unfold unwind;simp[f,g,hc,ZdZ,Zeu];rfl
def Cw{p main fr cs w fn}(a:fr.defers=[])(g:fr.mode=.returning)(f:p.funcs[fr.fn]?=xk fn):unwind p main fr cs xw w=
  GStep.after (seen p fr.fn ((results fn fr.tmps).runT p w #[]).2) (match((results fn fr.tmps).runT p w #[]).1 with
   |.ok v w=>doReturn p main fr cs xw v w
   |.halt (.stuck s) w=>.ended (.stuck s (fr.pos p)) w
   |.halt _ w=>.ended (.stuck "return: the result variables cannot be read" (fr.pos p)) w):=by
 simp_all[unwind];rfl
def Nq{p main fr cs w b args dl}(f:fr.defers= {target:=.collected b,args}::dl):unwind p main fr cs xw w=
  GStep.after (seen p fr.fn ((Instr.takeDeferred b).runT p w #[]).2) (match((Instr.takeDeferred b).runT p w #[]).1 with
   |.ok a w=>.go (G {fr with defers:=a++dl} cs) w
   |.halt _ w=>.ended (.stuck "the deferred calls of a range-over-func loop have been taken" (fr.pos p)) w):=by
 unfold unwind;simp[f];rfl
def Np{p main fr cs w d dl}(f:fr.defers=d::dl)(g:∀b,d.target≠.collected b):unwind p main fr cs xw w=callDeferred p {fr with defers:=dl} cs xw d w:=by
 let⟨t,a⟩:=d;unfold unwind;simp[f];cases t<;>first|rfl|simp_all
def Z73(ok:X.Ok){main fr cs}(h:X.St fr cs)(hm:fr.mode≠.run)(A:¬(cs=[]/\fr.mode=.returning/\fr.defers=[])){r wc}(N:X.WR r wc)
  {W} (o:W=Y9 ((YH (Zw X.ρ fr)).run X.P wc)) (Y:X.Agree r wc W):
  X.Sim c0 ds r wc W (unwind X.Q xy fr (cs++[c0]) xw r) (unwind X.P main (Zw X.ρ fr) (cs.map (Zw X.ρ)++ds) xw wc)\/∃R,cs=[]/\unwind X.Q xy fr (cs++[c0]) xw r=.go (G (c0.raise R) []) r:=by
 have a1:(Zw X.ρ fr).mode≠.run:=by
  let⟨fn,a5,a6,defers,O,kind,ro⟩:=fr;cases O<;>first|exact absurd rfl hm|simp[Zw,W1]
 have last:∀(es l:Zb) e,(∀e∈es,e∈l)->e∈es++(#[]:Array Event)->e∈l:=λes l e h1 J=>h1 e (by simpa using J)
 have K:∀g,g.mode≠.run->YH g=(match g.defers with
   | {target:=.collected b, .. }::_=>Instr.takeDeferred b>>=λ_=>pure ()
   |d::_=>invoke d.target d.args>>=λ_=>pure ()
   | []=>(match g.mode with
     | .returning=>program>>=λp=>(match p.funcs[g.fn]? with
       |some fn=>results fn g.tmps>>=λ_=>pure ()
       |none=>pure ())
     |_=>pure ())):=λg z=>by
  unfold YH;cases e:g.mode<;>first|exact absurd e z|rfl
 rw[K _ a1]at o;cases q:fr.defers with
 |cons d dl=>
  left;have a3:=h.top.defers d (by rw[q];exact ZeL ..);have L:=λx F=>h.top.defers x (by rw[q];exact Zei _ F);have j:(Zw X.ρ fr).defers=Xb X.ρ d::dl.map (Xb X.ρ):=by simp[Zw,q]
  rw[j]at o;by_cases hc:∃b,d.target=.collected b;let⟨b,Z⟩:=hc;let⟨t,a⟩:=d;subst Z;have a0:=j;rw[Nq q,Nq a0];have z:W=(Y9 ((Instr.takeDeferred (X.ρ b)).run X.P wc)):=by
   have J:W=(Y9 ((Instr.takeDeferred _>>=λ_=>(pure ():Sem Unit)).run X.P wc)):=o;rwa[R3]at J
  have M:=(Z2r (V:=[]) ok b).told N (z▸Y);let⟨U,T⟩:=Q1 X.Q (Instr.takeDeferred b) r #[];rw[T];cases hr:(Instr.takeDeferred b).run X.Q r with
  |halt x n=>exact .inl ⟨_,_,_,rfl⟩
  |ok C n=>
   rw[hr]at M;obtain⟨b',a4,l,H,⟨rfl,y⟩,S⟩:=M;obtain rfl:=Q7 z H rfl;rw[H];refine .inr ⟨{fr with defers:=C++dl},cs,n,_,seen X.P fr.fn l++ #[],rfl,?_,h.with ⟨h.top.todo,λx F=> ?_,h.top.kind,h.top.fn⟩ rfl rfl,S.es λe D=>last _ _ e (λe D=>mem_seen D) D⟩;simp[Zw,GStep.after];obtain F|F:=Ze8.1 F;exact y x F;exact L x F
  .have hn:=λb e=>hc ⟨b,e⟩;have a2:∀b,(Xb X.ρ d).target≠.collected b:=λb e=>by
    let⟨t,a⟩:=d;cases t<;>first|(simp[Xb,J2]at e;done)|exact absurd rfl (hn _)
   rw[Np q hn,Np j a2];have z:W=(Y9 ((invoke (Xb X.ρ d).target (Xb X.ρ d).args).run X.P wc)):=by
    have J:W=(Y9 ((invoke (Xb X.ρ d).target (Xb X.ρ d).args>>=λ_=>(pure ():Sem Unit)).run X.P wc)):=by
     let⟨t,a⟩:=d;cases t<;>first|exact o|exact absurd rfl (hn _)
    rwa[R3]at J
   exact Z6W ok (fr:= {fr with defers:=dl}) (h.with ⟨h.top.todo,L,h.top.kind,h.top.fn⟩ rfl rfl) d a3 N z Y
 |nil=>
  have j:(Zw X.ρ fr).defers=[]:=by simp[Zw,q]
  cases k:fr.mode with
  |run=>exact absurd k hm
  |panicking R=>
   have f:(Zw X.ρ fr).mode=.panicking (R.map (SQ X.ρ)):=by simp[Zw,k,W1]
   obtain _|⟨c,cs⟩:=cs;exact .inr ⟨R,rfl,Cv q k (DX h.top)⟩;left;rw[show unwind X.Q xy fr (c::cs++[c0]) xw r=_ from Cv q k (DX h.top),show unwind X.P main _ ((c::cs).map _++ds) xw wc=_ from Cv j f (Z0g h.top),yC];obtain rfl:W=wc:=by
    rw[j,f]at o;exact o
   exact Sim.same (h.pop (yB (h.all c (ZeL ..)) _) (yA _ _) (yD _ _)) N
  |returning=>
   left;have f:(Zw X.ρ fr).mode=.returning:=by simp[Zw,k,W1]
   obtain⟨fn,a7,hf,u,B⟩|⟨hf,u⟩:=ER h.top;rw[Cw q k hf,Cw j f u,Mg B];have z:W=(Y9 ((results fn (fr.tmps.map (Zt X.ρ))).run X.P wc)):=by
    rw[j,f]at o;rw[Zel,ZfU,Zem,u]at o;rwa[R3,Mg B]at o
   have M:=(jK (X:=X) (V:=[]) fn fr.tmps).told N (z▸Y);let⟨U,T⟩:=Q1 X.Q (results fn fr.tmps) r #[];rw[T];cases hr:(results fn fr.tmps).run X.Q r with
   |halt x n=>cases x<;>exact .inl ⟨_,_,_,rfl⟩
   |ok v n=>
    rw[hr]at M;let⟨b',a4,l,H,Z,S⟩:=M;obtain rfl:b'=_:=Z;obtain rfl:=Q7 z H rfl;rw[show(results fn (Zw X.ρ fr).tmps).runT X.P wc #[]=_ from H];obtain _|⟨c,cs⟩:=cs;exact absurd ⟨rfl,k,q⟩ A;let⟨I,t1,t2,hs⟩:=C4 (c0:=c0) (ds:=ds) (main:=main) h v n W;dsimp only;rw[t1,t2];exact .inr ⟨I,cs,n,_,_,rfl,rfl,hs,S.es λe D=>last _ _ e (λe D=>mem_seen D) D⟩
   rw[Cy q k hf,Cy j f u];obtain rfl:W=wc:=by
    rw[j,f]at o;rw[Zel,ZfU,Zem,u]at o;exact o
   obtain _|⟨c,cs⟩:=cs;exact absurd ⟨rfl,k,q⟩ A;let⟨I,t1,t2,hs⟩:=C4 (c0:=c0) (ds:=ds) (main:=main) h (fr.tmps.getD 0 undef) r W;rw[show(Zw X.ρ fr).tmps.getD 0 undef=Zt X.ρ _ from Rr X.ρ fr.tmps 0];rw[t1,t2];exact Sim.same hs N
def Z72(ok:X.Ok){main fr cs}(h:X.St fr cs)(x:Vl fr=xh)(f:¬(cs=[]/\fr.mode=.returning/\fr.defers=[])){a wc}(y:X.WR a wc)
  {W} (t:W=Y9 ((YH (Zw X.ρ fr)).run X.P wc)) (u:X.Agree a wc W):
  X.Sim c0 ds a wc W (stepG X.Q xy (G fr (cs++[c0])) a) (stepG X.P main (G (Zw X.ρ fr) (cs.map (Zw X.ρ)++ds)) wc)\/∃r,cs=[]/\stepG X.Q xy (G fr (cs++[c0])) a=.go (G (c0.raise r) []) a:=by
 have z:∀P main fr cs w,fr.mode=.run->stepG P main (G fr cs) w=stepG.exec P main xy fr cs xw w:=λP main fr cs w h=>by
  simp_all[stepG,G]
 have n:∀P main fr cs w,fr.mode≠.run->stepG P main (G fr cs) w=unwind P main fr cs xw w:=λP main fr cs w h=>by
  simp_all[stepG,G,absurd]
 by_cases k:fr.mode=.run;grind [Zw,W1,Z6Z];have l:(Zw X.ρ fr).mode≠.run:=by
  let⟨fn,o,q,j,g,kind,A⟩:=fr;cases g<;>first|exact absurd rfl k|simp[Zw,W1]
 rw[n _ _ _ _ _ k,n _ _ _ _ _ l];exact Z73 ok h k f y t u
end
end
section
abbrev Z3:=Nat->Prop
def WW(O:Z3)(w w':Z4):Nat->Prop:=λb=>O b\/(U (R w)<=b/\b<U (R w'))
structure Rely (K O:Nat->Prop) (w w1:World):Prop where
 sz:U (R w)<=U (R w1)
 tape:w1.tape=w.tape
 os:(w1.os,w1.output)=(w.os,w.output)
 keep:∀b,b<U (R w)->(O b\/K b)->w1.heap[b]?=w.heap[b]?
def EvC(K O:Z3)(e:Event):Prop:=
 match e.loc with
 |.cell a=>O a.block\/(e.write=xh/\K a.block)
 |.obj r=>O r
 |.mark m=>m=.noRoom
 |.output=>True
 |_=>False
structure Guar (K O:Nat->Prop) (w w':World) (es:Array Event):Prop where
 sz:U (R w)<=U (R w')
 dr:w.drawn<=w'.drawn
 tape:w'.tape=w.tape
 os:(w'.os,w'.output)=(w.os,w.output)
 keep:∀b,b<U (R w)->¬O b->w'.heap[b]?=w.heap[b]?
 evs:∀e∈es,EvC K (WW O w w') e
def Rely.refl(K O:Z3)(w:Z4):Rely K O w w:=⟨ZdL _,rfl,rfl,λ_ _ _=>rfl⟩
theorem Rely.trans{K O:Z3}{a b c:Z4}(h:Rely K O a b)(k:Rely K O b c):Rely K O a c:=
 ⟨Zeh h.sz k.sz,k.tape.trans h.tape,k.os.trans h.os,λx f d=>(k.keep x (ZdS f h.sz) d).trans (h.keep x f d)⟩
def XZ(a:Zk):Nat->Nat
 |0=>0
 |i+1=>XZ a i+a i
def Z57(a:Zk){i j:Nat}(h:i<=j):XZ a i<=XZ a j:=by
 induction h with
 |refl=>omega
 |step _ d=>exact Zeh d (Nat.le_add_right _ _)
theorem Z56(a:Zk){i d j f:Nat}(h:j<a i)(h':f<a d)(e:XZ a i+j=XZ a d+f):i=d/\j=f:=by
 have key:∀ {x g y y':Nat},y<a x->x<g->XZ a x+y<XZ a g+y':=λ{x g y y'} n l=>by
  have:=Z57 a (show x+1<=g from l);grind [XZ]
 obtain k|rfl|k:=Nat.lt_trichotomy i d;have:=key (y':=f) h k;omega;omega;have:=key (y':=j) h' k;omega
def NC{α:Type}(a:Zk)(F:Nat->Nat->α)(d:α):∃f:Nat->α,∀i j,j<a i->f (XZ a i+j)=F i j:=by
 classical
 refine⟨λm=>if h:∃p:Nat×Nat,p.2<a p.1/\m=XZ a p.1+p.2 then F h.choose.1 h.choose.2 else d,λi j k=> ?_⟩;have g:∃p:Nat×Nat,p.2<a p.1/\XZ a i+j=XZ a p.1+p.2:=⟨(i,j),k,rfl⟩;dsimp only;rw[dif_pos g];grind [Z56]
def Sy(n:Nat)(ρ:Zk):Prop:=∀b,b<n->ρ b=b
def FixV(n:Nat)(v:Ze):Prop:=∀ρ,Sy n ρ->Zt ρ v=v
def Jo(n:Nat)(o:Obj):Prop:=∀ρ,Sy n ρ->XO ρ o=o
def CT(n:Nat)(f:Zf):Prop:=∀ρ,Sy n ρ->Zw ρ f=f
def Cx.at(X:Cx)(ρ:Zk):Cx:= {X with ρ}
open Classical in
noncomputable def Cx.maskO (X:Cx) (b:Nat) (o:Option Obj):Obj:=
 match o with
 |some o=>if X.O b then(if X.okO o/\(∀c e a,o=.cells c e a->a=(0,0))then o else hid)
  else if X.G b then(match o with|.cells c e _=>.cells c e (0,c.size)|_=>hid)else hid
 |none=>hid
noncomputable def Cx.mask (X:Cx) (w:Z4) (t:Nat->Question->Nat):World:=
 {w with heap:=(Array.range X.n0).map λb=>X.maskO b w.heap[b]?,tape:=t,drawn:=0}
def Ac(X:Cx)(w:Z4)(t:Nat->Question->Nat)(b:Nat):(X.mask w t).heap[b]?=if b<X.n0 then xk (X.maskO b w.heap[b]?)else xw:=by
 simp_all[Cx.mask,Zeg,Array.getElem?_range]
def Z39(X:Cx){w:Z4}(t:Nat->Question->Nat){ρ:Zk}(d:Sy X.n0 ρ)(u:∀b o,w.heap[b]?=xk o->(X.O b\/X.G b)->Jo X.n0 o):(X.at ρ).WR (X.mask w t) w:=by
 have l:U (R (X.mask w t))=X.n0:=by simp[Cx.mask]
 refine⟨rfl,by rw[l];exact ZdL _,d,λb n _ _ a g e=> ?_,λb o a=> ?_⟩;rw[l]at a g;have B:ρ b=b:=d b a;have C:ρ n=n:=d n g;have e:ρ b=ρ n:=e;omega;rw[Ac]at a;split at a;rename_i j;have a:=(Zfx a).symm;have x:(X.at ρ).ρ b=b:=d b j;rw[x];cases q:w.heap[b]? with
 |none=>rw[q]at a;exact .inl a
 |some A=>
  rw[q]at a;unfold Cx.maskO at a;dsimp only at a;by_cases f:X.O b;rw[if_pos f]at a;split at a;rename_i k;subst a;refine .inr (.inr ⟨.inr f,k.1,?_,k.2⟩);exact ZeX xk (u b _ q (.inl f) ρ d).symm;exact .inl a;rw[if_neg f]at a;have r:¬(X.at ρ).Own b:=λh=>by
   obtain h|h:=h;exact absurd j (Zhs.2 h);exact f h
  by_cases p:X.G b;rw[if_pos p]at a;cases A<;>first|exact .inl a|skip
  rename_i c e y;dsimp only at a;refine .inr (.inl ⟨r,c,e,(0,c.size),y,a,λi z=>⟨ZeQ _,z⟩,p,?_⟩);have:=u b _ q (.inr p) ρ d;simp only[XO]at this;exact ZeX xk this.symm;rw[if_neg p]at a;exact .inl a
 cases a
def BG{X:Cx}{O:Z3}{q w w1:Z4}(h:X.WR q w)(n:Rely X.G O w w1)(x:∀b,X.Own b->b<U (R q)->O (X.ρ b)):X.WR q w1:=by
 refine⟨(ZeX Prod.fst n.os).trans h.os,h.nl,h.low,h.inj,λb o r=> ?_⟩;have l:=(ZdM.1 r).1;obtain e|⟨t,c,e,u,g,d,j,a,f⟩|⟨d,j,a,f⟩:=h.blk b o r;exact .inl e;have k:b<X.n0:=Nat.lt_of_not_le λh=>t (.inl h);have p:=(ZdM.1 f).1;exact .inr (.inl ⟨t,c,e,u,g,d,j,a,by rw[n.keep _ p (.inr (by rw[h.low b k];exact a))];exact f⟩);have p:=(ZdM.1 a).1;exact .inr (.inr ⟨d,j,by rw[n.keep _ p (.inl (x b d l))];exact a,f⟩)
def YL(Q:Z5):Frame:= {fn:=Q.funcs.size,tmps:=#[],todo:=[.call {target:=.nil,args:=#[]} xh "fmt's door" #[]],defers:=[],mode:=.run,kind:=.normal}
def Z67:Extern.allNextRows.lookup "fmt's door" =xw:=by kernel_rfl
def Z0t:("fmt's door").startsWith "fmt's door" =xy:=by kernel_rfl
def Z0a(Q:Z5)(a:List PanicEntry):((YL Q).raise a).catches Q=xy:=by
 simp_all[Frame.catches,Frame.raise,YL,Zg6,ZdL,Z0t]
def Z7P{p:Z5}{main:Bool}{fr:Zf}{cs:Z6}{w:Z4}{a:List PanicEntry}(d:fr.defers=[])(f:fr.mode=.panicking a)(hc:fr.catches p=xy):∃o,unwind p main fr cs xw w=.ended o w:=by
 unfold unwind;simp only[d,f,hc,Zer];exact⟨_,rfl⟩
def N4(P:Z5)(main:Bool)(fr:Zf)(cs:Z6)(w:Z4)(h:fr.mode≠.run):stepG P main (G fr cs) w=unwind P main fr cs xw w:=by
 simp_all[stepG,G,absurd]
def Z0c(Q:Z5)(a:List PanicEntry)(w:Z4):∃o d,step Q (lone ((YL Q).raise a) [] w)=.ended o d:=by
 obtain⟨o,h⟩:=Z7P (p:=Q) (main:=xy) (fr:=(YL Q).raise a) (cs:=[]) (w:=w) rfl rfl (Z0a Q a);refine⟨o,w,ZhH ?_⟩;have:=N4 Q xy ((YL Q).raise a) [] w (by simp[YL,Frame.raise]);simp_all[G]
def Z0b(Q:Z5)(v:Ze)(w:Z4):∃o w',step Q (lone ((YL Q).finish v) [] w)=.ended o w':=by
 refine⟨_,_,ZhH (o:=.stuck ("no extern row " ++ "fmt's door") (((YL Q).finish v).pos Q)) (w':=w) ?_⟩;simp_all[Extern.next,Z67,stepG,stepG.exec,Frame.finish,YL]
def GO{Q:Z5}{c:Zf}{w:Z4}(h:∃o w',step Q (lone c [] w)=.ended o w')(k:Nat)(fr:Zf)(cs:Z6)(c0:Zf)(w':Z4):runN Q k (lone c [] w)≠.next (lone fr (cs++[c0]) w'):=by
 obtain⟨o,w2,e⟩:=h;intro a;cases k with
 |zero=>
  simp_all[runN,lone,Zhw,ZhW,ZhL,Goroutine.mk.injEq]
 |succ k=>
  simp_all[runN]
end
def MF{S:Type}(N:S->S)(a:S):Nat->S
 |0=>a
 |i+1=>N (MF N a i)
def Z2V{a b:Zf}{aq_ d:Z6}{w w':Z4}(h:lone a aq_ w=lone b d w'):a=b/\aq_=d/\w=w':=by
 simp only[lone,Zhw,ZhW,ZhL,Goroutine.mk.injEq]at h;exact⟨h.2.1.1.1,h.2.1.1.2.1,h.1⟩
def Z1e{X:Cx}{O:Z3}{l w k w':Z4}{es:Zb}(d:X.Aft l w k w' #[] es)(H:X.WR l w)(z:∀b,X.Own b->b<U (R l)->O (X.ρ b)):Guar X.G O w w' es:=by
 have q:=d.sz;have u:U (R w)<=U (R w'):=by have:=d.szl;omega
 have f:∀b,X.Own b->b<U (R k)->WW O w w' (X.ρ b):=λb g t=>by
  by_cases h:b<U (R l);exact .inl (z b g h);exact .inr (d.new b Z0 t)
 refine⟨u,?_,d.tc,d.oc,λb g C=> ?_,λe D=> ?_⟩;have:=d.dr;have:=d.drl;omega;exact d.keep b g λx F y e=>C (by rw[e];exact z x F y);obtain h|h:=d.evs e D;simp at h;unfold Cx.EvOk at h;unfold EvC;split at h;rename_i a j;try rw[j]
 obtain⟨b,n,o,p⟩:=h;try dsimp only
 rw[o];by_cases g:X.Own b;exact .inl (f b g n);obtain⟨A,B⟩:=p g;refine .inr ⟨A,?_⟩;rw[d.wr.low b (Nat.lt_of_not_le λh=>g (.inl h))];exact B;rename_i r j;try rw[j]
 obtain⟨b,n,o,p⟩:=h;try dsimp only
 rw[p];exact f b n o;rename_i m j;try rw[j]
 exact h;rename_i j;try rw[j]
 trivial;exact h.elim
def ql{Q:Z5}{fr fr':Zf}{cs a:Z6}{w w':Z4}{es:Zb}(h:stepG Q xy (G fr cs) w=.go (G fr' a) w' es):step Q (lone fr cs w)=.next (lone fr' a w'):=
 Zhe (by unfold G at h;rw[h];rfl)
def Ci{Q:Z5}{fr:Zf}{cs:Z6}{w w':Z4}{o:Outcome}{es:Zb}(h:stepG Q xy (G fr cs) w=.ended o w' es):step Q (lone fr cs w)=.ended o w':=
 ZhH (by unfold G at h;rw[h];rfl)
def Z0C{X:Cx}{fr:Zf}(h:X.OkF fr)(j:fr.kind=.normal)(f:fr.mode=.returning)(g:fr.defers=[])(c0:Zf)(w:Z4):
  (∃v a,step X.Q (lone fr [c0] w)=.next (lone (c0.finish v) [] a))\/∃o a,step X.Q (lone fr [c0] w)=.ended o a:=by
 have e:=N4 X.Q xy fr [c0] w (by rw[f];simp);obtain⟨fn,_,d,_⟩|⟨d,_⟩:=ER h;rotate_left;rw[Cy g f d,yK j]at e;exact .inl ⟨_,w,ql e⟩;rw[Cw g f d]at e;cases k:((results fn fr.tmps).runT X.Q w #[]).1 with
 |ok v a=>
  rw[k]at e;dsimp only at e;rw[yK j]at e;exact .inl ⟨v,a,ql e⟩
 |halt x a=>
  rw[k]at e;cases x<;>exact .inr ⟨_,_,Ci e⟩
theorem JH{Q:Z5}{m:Machine}{o:Outcome}{w:Z4}(h:step Q m=.ended o w){k:Nat}(d:0<k)(a:Machine):runN Q k m≠.next a:=by
 cases k with
 |zero=>omega
 |succ k=>simp_all[runN]
abbrev Zi:=Goroutine
def Pe{Q:Z5}{g:Zi}{w:Z4}(h:g.status=.blocked):∃o a,step Q {world:=w,gs:=#[g],rest:= {timers:=#[],alone:=xw,slice:=xw}}=.ended o a:=by
 unfold step stepT;simp[move,ask,askOn,runnable_eq,due,ahead,Goroutine.canRun,Zg0,choose,pure,Sem.run,Question.forced,h];cases endWith w 2 (bytes "fatal error: all goroutines are asleep - deadlock!\n") (Outcome.fatal "all goroutines are asleep - deadlock!")<;>exact⟨_,_,rfl⟩
theorem E7{Q:Z5}{fr:Zf}{cs:Z6}{w w':Z4}{g2:Zi}{c:CommCase}{sh:CommShape}{es:Zb}(h:stepG Q xy (G fr cs) w=.comm g2 #[c] xy sh w' es)
  (hc:∀(r:Nat) q b p s y z,w'.heap[r]? ≠xk (Obj.chan q b p s y z)) {k:Nat} (n:0<k) (fr':Zf) (a:Z6) (g:Z4):runN Q k (lone fr cs w)≠.next (lone fr' a g):=by
 have f:(∃o w2,step Q (lone fr cs w)=.ended o w2)\/∃d w2,d.status=.blocked/\step Q (lone fr cs w)=.next {world:=w2,gs:=#[d],rest:= {timers:=#[],alone:=xw,slice:=xw}}:=by
  have e:step Q (lone fr cs w)=(communicate Q {timers:=#[],alone:=xw,slice:=xw} #[{(default:Zi)with status:=.finished}] 0 g2 #[c] xy sh w').1:=by
   unfold G at h;rw[step,stepT,move_lone];simp[runT,lone,Array.swapAt!,Array.swapAt,h]
  rw[e];unfold communicate;dsimp only;split;simp;rename_i l;have u:ways w' #[{(default:Zi)with status:=.finished}] c=[]:=by
   unfold ways;split;simp_all;rfl
  have x:((#[c].zipIdx.toList.map λ(c,k)=>(k,c,ways w' #[{(default:Zi)with status:=.finished}] c)).filter λ(_,_,A)=> !A.isEmpty)=[]:=by
   simp[u]
  rw[x];simp only[Zhx,Zer,waitingAt];have B:timerAhead {timers:=#[],alone:=xw,slice:=xw} w'.os.mono #[c]=xh:=by
   unfold timerAhead;rw[Array.any_eq_false];intro k n;split<;>simp
  simp_all
 obtain⟨o,w2,e⟩|⟨d,w2,t,e⟩:=f;exact JH e n _;obtain⟨k,rfl⟩:∃j,k=j+1:=⟨k-1,Z0⟩;simp only[runN,e];cases k with
 |zero=>
  grind [runN,lone,Machine.mk.injEq,Array.mk.injEq,List.cons.injEq]
 |succ k=>
  obtain⟨o,w3,e⟩:=Pe (Q:=Q) (w:=w2) t;grind [JH]
def Mn{Q:Z5}:∀(n:Nat) (m a:Machine),runN Q n m=.next a->m.gs.size<=a.gs.size
 |0,m,a,h=>by simp_all[runN,ZdL]
 |n+1,m,a,h=>by
  simp only[runN]at h;cases d:step Q m with
  |ended o w=>simp_all
  |next f=>
   rw[d]at h;exact Zeh (stepT_size Q m f xy d) (Mn n f a h)
theorem Z7j{Q:Z5}{fr:Zf}{cs:Z6}{w w':Z4}{g2 f:Zi}{es:Zb}(h:stepG Q xy (G fr cs) w=.spawn g2 f w' es)
  {k:Nat} (g:0<k) (fr':Zf) (a:Z6) (d:Z4):runN Q k (lone fr cs w)≠.next (lone fr' a d):=by
 have e:step Q (lone fr cs w)=.next {world:=w',gs:=#[g2,f],rest:= {timers:=#[],alone:=xw,slice:=xw}}:=by
  unfold G at h;rw[step,stepT,move_lone];simp[runT,lone,Array.swapAt!,Array.swapAt,h]
 obtain⟨k,rfl⟩:∃j,k=j+1:=⟨k-1,Z0⟩;simp only[runN,e];intro h;have:=Mn _ _ _ h;grind [lone]
def Do{p:Z5}{fr:Zf}{cs:Z6}{s:Sem Next}{w w':Z4}{es:Zb}{c:Array CommCase}{b:Bool}{sh:CommShape}(e:s.runT p w #[]=(.ok (.comm c b sh) w',es)):∃a,stepG.apply p xy fr cs xw s w=.comm (G fr cs) c b sh w' a:=by
 unfold stepG.apply Conc.G;simp only[Zer,e,GStep.after];exact⟨_,rfl⟩
def Cf(P:Z5)(main:Bool)(fr:Zf)(cs:Z6)(w:Z4)(h:fr.mode=.run):stepG P main (G fr cs) w=stepG.exec P main xy fr cs xw w:=by
 simp_all[stepG,G]
def OO{fr:Zf}(h:Vl fr=xy):fr.mode=.run/\∃a i d k o,fr.todo=.inRegion a (i::d)::k/\a[i]?=xk o/\Region.wanted o (yielded a fr.tmps)=xy/\qi o.op=xy:=by
 obtain⟨fn,n,g,j,f,kind,p⟩:=fr;cases f with
 |run=>
  obtain _|⟨i,k⟩:=g;cases h;cases i with
  |inRegion a l=>
   obtain _|⟨i,d⟩:=l;cases h;simp only[Vl]at h;grind
  |_=>cases h
 |_=>cases h
def Z7i{X:Cx}{fr:Zf}{cs:Z6}{w:Z4}(M:X.OkF fr)(h:Vl fr=xy)(Y:∀(r:Nat) H b G s U W,w.heap[r]? ≠xk (Obj.chan H b G s U W))
  {k:Nat} (N:0<k) (fr':Zf) (u:Z6) (B:Z4):runN X.Q k (lone fr cs w)≠.next (lone fr' u B):=by
 obtain⟨O,T,i,F,Z,o,D,C,A,q⟩:=OO h;have L:fr.roundOf.isSome=xy->∀c,o.op≠.defer c:=λ_ c e=>by rw[e]at q;cases q
 have e:=Cf X.Q xy fr cs w O;rw[JI D C A L]at e;obtain⟨a,op,type,pos,after,guard⟩:=o;have g:XQ X.Q fr.roundOf.isSome op=xy:=by
  have:=M.todo _ (by rw[D];exact ZeL ..);simp only[Vx,ZfO]at this;exact this _ (Zgb C)
 dsimp only at q;cases op with
 |send j v=>
  obtain⟨es,l⟩:=Do (p:=X.Q) (fr:=fr) (cs:=cs) (s:=execOp fr.eval ⟨a,.send j v,type,pos,after,guard⟩) (w:=w) (w':=w) (es:=#[]) rfl;grind [E7]
 |recv t j b=>
  have P:(∃h es,(execOp fr.eval ⟨a,.recv t j b,type,pos,after,guard⟩).runT X.Q w #[]=(.halt h w,es)/\bad h)\/∃c es,(execOp fr.eval ⟨a,.recv t j b,type,pos,after,guard⟩).runT X.Q w #[]=(.ok (.comm #[c] xy (.recv b)) w,es):=by
   have x:execOp fr.eval ⟨a,.recv t j b,type,pos,after,guard⟩=(do
    let .chan _ elem<-underlying t|stuck "receive: channel type expected"
    pure (.comm #[{chan:=fr.eval j,send:=xw,zero:= <-zeroValue elem}] xy (.recv b)):Sem Next):=rfl
   rw[x];have R:∀ {α:Type} (f:TypeDesc->Sem α) (es:Zb),(underlying t>>=f).runT X.Q w es=match X.Q.underlying t with|some d=>(f d).runT X.Q w es|none=>(.halt (.stuck "no such type") w,es):=λf es=>by
    have l:(underlying t).runT X.Q w es=match X.Q.underlying t with|some d=>(.ok d w,es)|none=>(.halt (.stuck "no such type") w,es):=by
     show(match X.Q.underlying t with|some d=>pure d|none=>stuck "no such type" :Sem TypeDesc).runT X.Q w es=_;cases X.Q.underlying t<;>rfl
    show(Sem.bind _ _).runT X.Q w es=_;grind [Sem.runT_bind']
   rw[R];cases X.Q.underlying t with
   |none=>exact .inl ⟨_,_,rfl,trivial⟩
   |some d=>
    cases d<;>first|exact .inl ⟨_,_,rfl,trivial⟩|skip
    rename_i elem;have S:∀ {α:Type} (f:Value->Sem α) (es:Zb),(zeroValue elem>>=f).runT X.Q w es=match X.Q.info? elem with
     |some i=>(match i.zero with|some z=>(f z).runT X.Q w es|none=>(.halt (.unsupported (.resourceLimit "a value of more than 2^22 cells")) w,es))
     |none=>(.halt (.stuck "no such type") w,es):=λf es=>by
     have l:(typeInfo elem).runT X.Q w es=match X.Q.info? elem with|some d=>(.ok d w,es)|none=>(.halt (.stuck "no such type") w,es):=by
      show(match X.Q.info? elem with|some d=>pure d|none=>stuck "no such type" :Sem TypeInfo).runT X.Q w es=_;cases X.Q.info? elem<;>rfl
     have y:(zeroValue elem).runT X.Q w es=match X.Q.info? elem with
      |some i=>(match i.zero with|some z=>(.ok z w,es)|none=>(.halt (.unsupported (.resourceLimit "a value of more than 2^22 cells")) w,es))
      |none=>(.halt (.stuck "no such type") w,es):=by
      show(Sem.bind (typeInfo elem) _).runT X.Q w es=_;rw[ZfT,l];cases X.Q.info? elem with
      |none=>rfl
      |some i=>dsimp only;cases i.zero<;>rfl
     show(Sem.bind _ _).runT X.Q w es=_;grind [Sem.runT_bind']
    dsimp only;rw[S];cases X.Q.info? elem with
    |none=>exact .inl ⟨_,_,rfl,trivial⟩
    |some i=>
     dsimp only;cases i.zero with
     |none=>exact .inl ⟨_,_,rfl,trivial⟩
     |some z=>simp
  obtain⟨h,es,l,K⟩|⟨c,es,l⟩:=P;obtain⟨o,w2,J,y⟩:=qC (fr:=fr) (cs:=cs) K l;rw[y]at e;exact JH (Ci e) N _;obtain⟨I,y⟩:=Do (fr:=fr) (cs:=cs) l;grind [E7]
 |go c=>
  simp only[XQ,ZdJ]at g;obtain⟨callee,args,n⟩:=c;cases callee<;>first|(cases g.2;done)|skip
  rename_i f;cases f<;>first|(cases g.2;done)|skip
  rename_i f;have l:∃g2 j es,stepG.apply X.Q xy fr cs xw (execOp fr.eval ⟨a,.go ⟨.value (.func f),args,n⟩,type,pos,after,guard⟩) w=.spawn g2 j w es:=by
   have x:(execOp fr.eval ⟨a,.go ⟨.value (.func f),args,n⟩,type,pos,after,guard⟩).runT X.Q w #[]=(.ok (.spawn {target:=.fn (.func f) #[],args:=#[]++args.map fr.eval}) w, #[]):=rfl;unfold stepG.apply;simp only[Zer,x];simp only[ZgK,ZgL,ZdZ,Zeu,GStep.after];exact⟨_,_,_,rfl⟩
  grind [Z7j]
 |_=>cases q
inductive Ev where
 |recv (v:Ze)
 |closed (z:Ze)
 |send (v:Ze)
def Vk(P:Z5)(c:Nat)(e:Ev)(fr:Zf):Prop:=
 ∃f i h k o,fr.mode=.run/\fr.todo=.inRegion f (i::h)::k/\f[i]?=xk o/\Region.wanted o (yielded f fr.tmps)=xy/\
  match e with
  |.recv _=>∃t a d g inf z,o.op=.recv t a xy/\ZV a=xy/\fr.eval a=.chan (xk c)/\P.underlying t=xk (.chan d g)/\P.info? g=xk inf/\inf.zero=xk z
  |.closed z=>∃t a d g inf,o.op=.recv t a xy/\ZV a=xy/\fr.eval a=.chan (xk c)/\P.underlying t=xk (.chan d g)/\P.info? g=xk inf/\inf.zero=xk z
  |.send v=>∃a x,o.op=.send a x/\ZV a=xy/\ZV x=xy/\fr.eval a=.chan (xk c)/\fr.eval x=v
def Ev.val:Ev->Value
 |.recv v=>.tuple #[v,.bool xy]
 |.closed z=>.tuple #[z,.bool xh]
 |.send _=>undef
def Xq(e:Ev)(fr:Zf):Frame:=fr.finish e.val
def Lh(n:Nat):Ev->Prop
 |.recv v|.closed v|.send v=>FixV n v
def Z0S{n:Nat}{e:Ev}(h:Lh n e):FixV n e.val:=by
 intro ρ a;cases e with
 |recv v=>simp only[Ev.val,Ui];simp[h ρ a]
 |closed v=>simp only[Ev.val,Ui];simp[h ρ a]
 |send v=>exact S3 ρ
def ON{P:Z5}{c:Nat}{e:Ev}{fr:Zf}(h:Vk P c e fr):Vl fr=xy:=by
 obtain⟨d,i,a,k,o,g,l,j,n,f⟩:=h;grind [qi,Vl]
def OM{X:Cx}{ρ:Zk}{n c:Nat}{e:Ev}{fr:Zf}(h:Vk X.Q c e fr)(A:Sy n ρ)(hc:c<n)(C:Lh n e):Vk X.P c e (Zw ρ fr):=by
 obtain⟨a,i,q,k,o,D,G,F,H,h⟩:=h;have I:yielded a (Zw ρ fr).tmps=yielded a fr.tmps:=funext λj=>CI ρ a fr.tmps j;have B:Zt ρ (.chan (xk c))=.chan (xk c):=by simp[Zt,A c hc]
 refine⟨a,i,q,k.map (YE ρ),o,by simp[Zw,D,W1],by simp[Zw,G,YE],F,ZcJ,?_⟩;cases e with
 |recv v=>
  obtain⟨t,f,d,w,inf,z,g,l,r,u,p,y⟩:=h;exact⟨t,f,d,w,inf,z,g,l,by simp_all[Rj],by rw[X.P_under];exact u,by rw[X.P_info];exact p,y⟩
 |closed v=>
  obtain⟨t,f,d,w,inf,g,l,r,u,p,y⟩:=h;exact⟨t,f,d,w,inf,g,l,by simp_all[Rj],by rw[X.P_under];exact u,by rw[X.P_info];exact p,y⟩
 |send v=>
  obtain⟨f,x,g,l,r,u,p⟩:=h;exact⟨f,x,g,l,r,by simp_all[Rj],by rw[Rj ρ fr x r,p];exact C ρ A⟩
abbrev ZcH:=List Ev
inductive Play (P:Program) (main:Bool) (c:Nat) (K:Nat->Prop) (Stop:(Nat->Prop)->Goroutine->World->Prop):List Ev->(Nat->Prop)->Goroutine->World->Prop where
 |stop {O:Z3} {g:Zi} {w:Z4}:(∀w1,Rely K O w w1->Stop O g w1)->Play P main c K Stop [] O g w
 |ev {e:Ev} {es:ZcH} {O:Z3} {fr:Zf} {cs:Z6} {w:Z4}:Vk P c e fr->(∀w1,Rely K O w w1->Play P main c K Stop es O (G (Xq e fr) cs) w1)->Play P main c K Stop (e::es) O (G fr cs) w
 |step {es:ZcH} {O:Z3} {fr:Zf} {cs:Z6} {w:Z4}:(∀w1,Rely K O w w1->∃fr' cs' w' es',stepG P main (G fr cs) w1=.go (G fr' cs') w' es'/\Guar K O w1 w' es')->
   (∀w1 g' w' es',Rely K O w w1->stepG P main (G fr cs) w1=.go g' w' es'->Play P main c K Stop es (WW O w1 w') g' w')->Play P main c K Stop es O (G fr cs) w
def Play.rely{P:Z5}{main:Bool}{c:Nat}{K:Z3}{a:(Nat->Prop)->Goroutine->World->Prop}{es:ZcH}{O:Z3}{g:Zi}{w w1:Z4}(h:Play P main c K a es O g w)(f:Rely K O w w1):Play P main c K a es O g w1:=by
 cases h with
 |stop h=>exact .stop λw2 d=>h w2 (f.trans d)
 |ev j d=>exact .ev j λw2 h=>d w2 (f.trans h)
 |step j d=>exact .step (λw2 h=>j w2 (f.trans h)) λw2 k l es h=>d w2 k l es (f.trans h)
def Play.mono{P:Z5}{main:Bool}{c:Nat}{K:Z3}{d a:(Nat->Prop)->Goroutine->World->Prop}{es:ZcH}{O:Z3}{g:Zi}{w:Z4}(h:Play P main c K d es O g w)(o:∀O g w,d O g w->a O g w):Play P main c K a es O g w:=by
 induction h with
 |stop h=>exact .stop λw2 j=>o _ _ _ (h w2 j)
 |ev f j l=>exact .ev f λw2 h=>l w2 h
 |step f j l=>exact .step f λw2 n p es h k=>l w2 n p es h k
abbrev Z7:=Frame->List Frame->World->Prop
def LS(Q:Z5)(c:Nat)(Post:Z7):List Ev->Frame->List Frame->World->Prop
 | [],h,g,j=>∃n a d f,runN Q n (lone h (g++[YL Q]) j)=.next (lone a (d++[YL Q]) f)/\Post a d f
 |e::k,h,g,j=>∃n a d f,runN Q n (lone h (g++[YL Q]) j)=.next (lone a (d++[YL Q]) f)/\Vk Q c e a/\LS Q c Post k (Xq e a) d f
def Z3M{P:Z5}{main:Bool}{c:Nat}{K:Z3}{d:(Nat->Prop)->Goroutine->World->Prop}{es:ZcH}{O:Z3}{fr:Zf}{cs:Z6}{w:Z4}(h:¬Play P main c K d es O (G fr cs) w):
  ∃w1,Rely K O w w1/\((¬ ∃j g f a,stepG P main (G fr cs) w1=.go (G j g) f a/\Guar K O w1 f a)\/∃k f a,stepG P main (G fr cs) w1=.go k f a/\¬Play P main c K d es (WW O w1 f) k f):=by
 refine ZfS λo=>h (.step (λw1 l=> ?_) λw1 k f a l n=> ?_);simp_all;simp_all
def Z3N{P:Z5}{main:Bool}{c:Nat}{K:Z3}{a:(Nat->Prop)->Goroutine->World->Prop}{e:Ev}{es:ZcH}{O:Z3}{fr:Zf}{cs:Z6}{w:Z4}(h:¬Play P main c K a (e::es) O (G fr cs) w)(g:Vk P c e fr):
  ∃w1,Rely K O w w1/\¬Play P main c K a es O (G (Xq e fr) cs) w1:=
 ZfS λj=>h (.ev g λw1 d=>ZfS λf=>j ⟨w1,d,f⟩)
structure Cx.Woven (X:Cx) (ds:List Frame) (wc:World) (fr:Frame) (cs:List Frame) (wl:World) (O:Nat->Prop) (fc:Frame) (cc:List Frame) (w:World):Prop where
 top:fc=Zw X.ρ fr
 under:cc=cs.map (Zw X.ρ)++ds
 st:X.St fr cs
 wr:X.WR wl w
 own:∀b,X.Own b->b<U (R wl)->O (X.ρ b)
 new:∀b,X.n0<=b->b<U (R wl)->U (R wc)<=X.ρ b
 sz:U (R wc)<=U (R w)
 sub:∀b,O b->X.O b\/U (R wc)<=b
def Z3E{X:Cx}{a w:Z4}(h:X.WR a w)(r f:Nat)(b:Za)(d:Bool)(s g:Nat)(j:Bool):a.heap[r]? ≠xk (Obj.chan f b d s g j):=λe=>by
 obtain h|h:=h.kind e;cases h;exact h.elim
def CE(X:Cx)(f1:∀ρ,(X.at ρ).Ok){c:Nat}{es:ZcH}{fr:Zf}{cs ds:Z6}{main:Bool}{wc:Z4}(d9:∀e∈es,Lh X.n0 e/\c<X.n0)(f2:∀ρ,(X.at ρ).St fr cs)
  (a8:∀f∈fr::cs,CT X.n0 f) (e0:∀b o,wc.heap[b]?=xk o->(X.O b\/X.G b)->Jo X.n0 o) {Post:World->Frame->List Frame->World->Prop}
  (hl:∀t,LS X.Q c (Post (X.mask wc t)) es fr cs (X.mask wc t)):
  Play X.P main c X.G (λO g w=>∃ρ t p u z fc cc,g=G fc cc/\Sy X.n0 ρ/\Post (X.mask wc t) p u z/\(X.at ρ).Woven ds wc p u z O fc cc w) es X.O (G fr (cs++ds)) wc:=by
 classical
 refine ZfS λa7=> ?_;generalize b1:(λO g w=>∃ρ t p u z fc cc,g=G fc cc/\Sy X.n0 ρ/\Post (X.mask wc t) p u z/\(X.at ρ).Woven ds wc p u z O fc cc w)=a5 at a7;let S:=List Ev×(Nat->Prop)×Frame×List Frame×World;let a0:S->Prop:=λs=>¬Play X.P main c X.G a5 s.1 s.2.1 (G s.2.2.1 s.2.2.2.1) s.2.2.2.2;let M:S->Prop:=λs=>∃e es,s.1=e::es/\Vk X.P c e s.2.2.1
 have b3:∀s:S,∃(w1:Z4) (s':S),a0 s->Rely X.G s.2.1 s.2.2.2.2 w1/\((∃e es,s.1=e::es/\Vk X.P c e s.2.2.1/\s'=(es,s.2.1,Xq e s.2.2.1,s.2.2.2.1,w1)/\a0 s')\/
   (¬M s/\((¬ ∃p u w' r,stepG X.P main (G s.2.2.1 s.2.2.2.1) w1=.go (G p u) w' r/\Guar X.G s.2.1 w1 w' r)\/
    ∃r,stepG X.P main (G s.2.2.1 s.2.2.2.1) w1=.go (G s'.2.2.1 s'.2.2.2.1) s'.2.2.2.2 r/\s'.2.1=WW s.2.1 w1 s'.2.2.2.2/\s'.1=s.1/\a0 s'))):=λs=>by
  by_cases h:a0 s;by_cases he:M s;obtain⟨e,es,Y,A⟩:=he;have h':¬Play X.P main c X.G a5 (e::es) s.2.1 (G s.2.2.1 s.2.2.2.1) s.2.2.2.2:=by rw[<-Y];exact h
  obtain⟨w1,h3,h4⟩:=Z3N h' A;exact⟨w1,(es,s.2.1,Xq e s.2.2.1,s.2.2.2.1,w1),λ_=>⟨h3,.inl ⟨e,es,Y,A,rfl,h4⟩⟩⟩;obtain⟨w1,Y,A⟩:=Z3M h;by_cases hg:∃p u w' r,stepG X.P main (G s.2.2.1 s.2.2.2.1) w1=.go (G p u) w' r/\Guar X.G s.2.1 w1 w' r;obtain A|⟨g',w',r,A,h3⟩:=A;simp_all;obtain⟨p,u,w2,b5,h4,h5⟩:=hg;rw[h4]at A;injection A with q1 q2 q3;subst q1 q2;exact⟨w1,(s.1,WW s.2.1 w1 w2,p,u,w2),λ_=>⟨Y,.inr ⟨he,.inr ⟨b5,h4,rfl,rfl,h3⟩⟩⟩⟩;grind;simp_all
 obtain⟨J,d6⟩:=Zhu b3;obtain⟨N,hN⟩:=Zhu d6;let s:Nat->S:=MF N (es,X.O,fr,cs++ds,wc);let W:Nat->World:=λi=>if M (s i)then J (s i)else Y9 ((YH (s i).2.2.1).run X.P (J (s i)))
 let a:Nat->Nat:=λi=>xz (xj (W i))- xz (xj (J (s i)));let b:Nat->Nat:=λi=>(W i).drawn- (J (s i)).drawn;obtain⟨f,hf⟩:=NC a (λi j=>xz (xj (J (s i)))+j) 0;obtain⟨t,ht⟩:=NC b (λi j=>(J (s i)).tape ((J (s i)).drawn+j)) (λ_=>0);let ρ:Nat->Nat:=λx=>if x<X.n0 then x else f (x-X.n0)
 have hid:Sy X.n0 ρ:=λx L=>if_pos L;have hρ:∀i j,j<a i->ρ (X.n0+XZ a i+j)=xz (xj (J (s i)))+j:=λi j hj=>by
  show(if X.n0+XZ a i+j<X.n0 then _ else _)=_;rw[if_neg Z0,show X.n0+XZ a i+j-X.n0=XZ a i+j from by omega];grind
 have a1:xz (xj (X.mask wc t))=X.n0:=by simp[Cx.mask]
 let Inv:Nat->Frame->List Frame->World->Prop:=λi p u z=>a0 (s i)/\(X.at ρ).Woven ds wc p u z (s i).2.1 (s i).2.2.1 (s i).2.2.2.1 (s i).2.2.2.2/\xz (xj z)=X.n0+XZ a i/\z.drawn=XZ b i/\z.tape=t
 have one:∀i n l y k C B H,Inv i l y k->runN X.Q (n+1) (lone l (y++[YL X.Q]) k)=.next (lone C (B++[YL X.Q]) H)->
   ∃T R U,Inv (i+1) T R U/\(s (i+1)).1=(s i).1/\runN X.Q n (lone T (R++[YL X.Q]) U)=.next (lone C (B++[YL X.Q]) H):=by
  rintro i n l y k C B H ⟨d8,q,d0,b8,a4⟩ d;have b0:Vl l=xh:=by
   cases h:Vl l with
   |false=>rfl
   |true=>exact absurd d (Z7i (X:=X.at ρ) q.st.top h (Z3E q.wr) (Zi4 n) _ _ _)
  have a9:¬M (s i):=λ⟨e,es,Y,A⟩=>by
   have:=ON A;rw[q.top,OP,b0]at this;cases this
  obtain⟨I,Z⟩:=hN (s i) d8;have d5:(X.at ρ).WR k (J (s i)):=BG q.wr I q.own;have a6:W i=Y9 ((YH (s i).2.2.1).run X.P (J (s i))):=if_neg a9;have f7:xz (xj (J (s i)))<=xz (xj (W i))/\(J (s i)).drawn<=(W i).drawn:=by rw[a6];exact J6 X.P _ _
  have a3:(X.at ρ).Agree k (J (s i)) (W i):=by
   refine⟨λj hj=> ?_,λj hj=> ?_⟩;rw[b8,a4];exact ht i j (by show j< (W i).drawn- (J (s i)).drawn;omega);rw[d0];exact hρ i j (by show j< xz (xj (W i))- xz (xj (J (s i)));omega)
  have a2:W i=Y9 ((YH (Zw (X.at ρ).ρ l)).run (X.at ρ).P (J (s i))):=by
   rw[a6,q.top];rfl
  have b9:¬(y=[]/\l.mode=.returning/\l.defers=[]):=λ⟨Y,A,h3⟩=>by
   subst Y;have hk:l.kind=.normal:=by have:=q.st.bot;simp only[bot,ZdU]at this;exact this.1
   obtain⟨v,w',e⟩|⟨o,w',e⟩:=Z0C q.st.top hk A h3 (YL X.Q) k;have:runN X.Q n (lone ((YL X.Q).finish v) [] w')=.next (lone C (B++[YL X.Q]) H):=by
    simp only[runN]at d;rw[show step X.Q (lone l ([]++[YL X.Q]) k)=_ from e]at d;exact d
   exact GO (Z0b X.Q v w') _ _ _ _ _ this;exact JH e (Zi4 n) _ d
  obtain c8|⟨ch,Y,A⟩:=Z72 (c0:=YL X.Q) (ds:=ds) (f1 ρ) (main:=main) q.st b0 b9 d5 a2 a3;obtain⟨o,w',r,e⟩|⟨T,R,U,f4,r,e1,e2,c9,af⟩:=c8;exact absurd d (JH (Ci e) (Zi4 n) _);have hg:=Z1e af d5 q.own;have b4:stepG X.P main (G (s i).2.2.1 (s i).2.2.2.1) (J (s i))=.go (G (Zw ρ T) (R.map (Zw ρ)++ds)) (W i) r:=by rw[q.top,q.under];exact e2
  obtain⟨e,es,Y,A,_⟩|⟨_,f0|⟨f3,e3,e4,e5,e6⟩⟩:=Z;exact absurd ⟨e,es,Y,A⟩ a9;exact absurd ⟨_,_,_,_,b4,hg⟩ f0;rw[b4]at e3;injection e3 with e7 e8 e9;have q5:Zw ρ T=(N (s i)).2.2.1:=ZeX Goroutine.frame e7;have q6:R.map (Zw ρ)++ds=(N (s i)).2.2.2.1:=ZeX Goroutine.callers e7;have D:s (i+1)=N (s i):=rfl;have q1:=af.sz;have q2:=af.szl;have q3:=af.dr;have q4:=af.drl;refine⟨T,R,U,⟨by rw[D];exact e6,⟨by rw[D,<-q5];rfl,by rw[D,<-q6];rfl,c9,by rw[D,<-e8];exact af.wr,?_,?_,?_,?_⟩,?_,?_,af.tl.trans a4⟩,by rw[D];exact e5,?_⟩;intro x L K;rw[D,e4,<-e8];by_cases h:x<xz (xj k);exact .inl (q.own x L h);exact .inr (af.new x Z0 K);intro x L K;by_cases h:x<xz (xj k);exact q.new x L h;have:=(af.new x Z0 K).1;have:=q.sz;have:=I.sz;omega;rw[D,<-e8];have:=q.sz;have:=I.sz;omega;intro x L;rw[D,e4]at L;obtain L|L:=L;exact q.sub x L;have:=q.sz;have:=I.sz;omega;show xz (xj U)=X.n0+(XZ a i+(xz (xj (W i))- xz (xj (J (s i)))));omega;show U.drawn=XZ b i+((W i).drawn- (J (s i)).drawn);omega;simp only[runN]at d;rw[show step X.Q (lone l (y++[YL X.Q]) k)=_ from ql e1]at d;exact d;subst Y;have e:=ql A;have:runN X.Q n (lone ((YL X.Q).raise ch) [] k)=.next (lone C (B++[YL X.Q]) H):=by
   simp only[runN]at d;rw[show step X.Q (lone l ([]++[YL X.Q]) k)=_ from e]at d;exact d
  exact absurd this (GO (Z0c X.Q ch k) _ _ _ _ _)
 have b6:∀n i l y k C B H,Inv i l y k->runN X.Q n (lone l (y++[YL X.Q]) k)=.next (lone C (B++[YL X.Q]) H)->
   ∃F,Inv F C B H/\(s F).1=(s i).1:=by
  intro n;induction n with
  |zero=>
   intro i l y k C B H hi hr;simp only[runN]at hr;injection hr with hr;obtain⟨rfl,A,rfl⟩:=Z2V hr;obtain rfl:=List.append_cancel_right A;exact⟨i,hi,rfl⟩
  |succ n ih=>
   intro i l y k C B H hi hr;obtain⟨T,R,U,Y,A,h3⟩:=one i n l y k C B H hi hr;obtain⟨F,h4,h5⟩:=ih (i+1) T R U C B H Y h3;exact⟨F,h4,h5.trans A⟩
 have all:∀r,(∀e∈r,Lh X.n0 e/\c<X.n0)->∀i l y k,(s i).1=r->LS X.Q c (Post (X.mask wc t)) r l y k->Inv i l y k->False:=by
  intro r;induction r with
  |nil=>
   intro _ i l y k hs b2 hi;obtain⟨n,p,u,z,hr,hp⟩:=b2;obtain⟨F,⟨hb,q,_⟩,A⟩:=b6 n i _ _ _ _ _ _ hi hr;refine hb ?_;rw[A,hs];refine .stop λw1 Y=> ?_;rw[<-b1];exact⟨ρ,t,p,u,z,_,_,rfl,hid,hp,q.top,q.under,q.st,BG q.wr Y q.own,q.own,q.new,Zeh q.sz Y.sz,q.sub⟩
  |cons e r ih=>
   intro c7 i l y k hs b2 hi;obtain⟨n,p,u,z,hr,d7,d⟩:=b2;obtain⟨F,⟨hb,q,d0,b8,a4⟩,A⟩:=b6 n i _ _ _ _ _ _ hi hr;obtain⟨c5,hc⟩:=c7 e (ZeL ..);have b7:Vk X.P c e (s F).2.2.1:=by
    rw[q.top];exact OM d7 hid hc c5
   have c1:M (s F):=⟨e,r,A.trans hs,b7⟩;obtain⟨I,Z⟩:=hN (s F) hb;have a2:W F=J (s F):=if_pos c1;have f5:a F=0:=by show xz (xj (W F))- xz (xj (J (s F)))=0;rw[a2];omega
   have f6:b F=0:=by show(W F).drawn- (J (s F)).drawn=0;rw[a2];omega
   obtain⟨e2,b5,h3,h4,h5,h6⟩|⟨h3,_⟩:=Z;rw[A,hs]at h3;injection h3 with h7 h8;subst h7 h8;have D:s (F+1)=N (s F):=rfl;have c6:Zw ρ (Xq e p)=Xq e (Zw ρ p):=by
    unfold Xq;rw[<-JM ρ X.Q p e.val q.st.top.todo,Z0S c5 ρ hid]
   refine ih (λx L=>c7 x (Zei _ L)) (F+1) (Xq e p) u z (by rw[D,h5]) d ⟨by rw[D];exact h6,?_,?_,?_,a4⟩;rw[D,h5];refine⟨?_,q.under,q.st.with (Qw q.st.top _) (Qv _ _) (Qx _ _),BG q.wr I q.own,q.own,q.new,Zeh q.sz I.sz,q.sub⟩;show Xq e (s F).2.2.1=Zw ρ (Xq e p);rw[c6,q.top];rfl;show xz (xj z)=X.n0+(XZ a F+a F);omega;show z.drawn=XZ b F+b F;omega;exact absurd c1 h3
 refine all es d9 0 fr cs (X.mask wc t) rfl (hl t) ⟨a7,⟨?_,?_,f2 ρ,Z39 X t hid e0,λx L K=> ?_,λx L K=> ?_,ZdL _,λb hb=>.inl hb⟩,by rw[a1];rfl,rfl,rfl⟩;exact(a8 fr (ZeL ..) ρ hid).symm;have A:cs.map (Zw ρ)=cs:=by
  have:∀c∈cs,Zw ρ c=c:=λc hc=>a8 c (Zei _ hc) ρ hid;exact(Zfv this).trans (List.map_id' _)
 show cs++ds=cs.map (Zw ρ)++ds;rw[A];rw[a1]at K;obtain L|L:=L;exact absurd K (Zhs.2 L);have e:(X.at ρ).ρ x=x:=hid x K;rw[e];exact L;rw[a1]at K;exact absurd K (Zhs.2 L)
section
def blk:Loc->Option Nat
 |.cell a=>xk a.block
 |.obj r=>xk r
 |_=>xw
def A8(n:Nat)(op:MemOp):Prop:=∀x b,op.act.touch?=xk x->blk x.loc=xk b->b<n
def GB{l:Loc}(h:l.isMemory=xy):∃b,blk l=xk b:=by
 cases l<;>first|exact⟨_,rfl⟩|cases h
def EvC.marks{K O:Z3}{e:Event}(h:EvC K O e):∀m,e.loc=.mark m->Neutral m:=by
 intro m a;unfold EvC at h;rw[a]at h;exact h
structure TI (n:Nat) (OA OB KB:Nat->Prop) (sz:Nat) (t:Trace):Prop where
 clean:∀said,¬Race said t
 hears:∀i,Deaf t i=0
 low:∀op∈t,A8 sz op
 j1:∀(i:Nat) (op:MemOp) (x:Touch),t[i]?=xk op->op.act.touch?=xk x->x.loc.isMemory=xy->Knows t 0 i\/(op.g=n/\∃b,blk x.loc=xk b/\(OB b\/(x.write=xh/\KB b)))
 j2:∀(i:Nat) (op:MemOp) (x:Touch),t[i]?=xk op->op.act.touch?=xk x->x.loc.isMemory=xy->op.g=n\/Knows t n i\/((x.write=xy->∃b,blk x.loc=xk b/\OA b)/\∀b,blk x.loc=xk b->¬OB b)
section
variable {n:Nat}{OA OB KB KA:Z3}{sz sz':Nat}{t:Trace}
def LH{K O:Z3}{g:Nat}{fn:Zo}{pos:String}{es:Zb}(j:∀e∈es,EvC K O e){op:MemOp}(h:op∈MemOp.ofEvents g fn pos es){x:Touch}(hx:op.act.touch?=xk x)(l:x.loc.isMemory=xy):
  op.g=g/\∃b,blk x.loc=xk b/\(O b\/(x.write=xh/\K b)):=by
 rw[ofEvents_eq]at h;obtain⟨e,u,rfl⟩:=Zgs.1 h;refine⟨rfl,?_⟩;have f:=j e u;obtain⟨o,p⟩:=ofEvent_touch f.marks hx;obtain⟨b,d⟩:=GB l;refine⟨b,d,?_⟩;unfold EvC at f;rw[o]at d l;rw[p];split at f;rename_i a q;rw[q]at d;cases d;exact f;rename_i r y;rw[y]at d;cases d;grind;rename_i m k;rw[k]at d;cases d;rename_i w;rw[w]at d;cases d;simp_all
def jb{K O:Z3}{g:Nat}{fn:Zo}{pos:String}{es:Zb}(j:∀e∈es,EvC K O e)(A:∀b,O b->b<sz)(z:∀b,K b->b<sz):∀op∈MemOp.ofEvents g fn pos es,A8 sz op:=by
 intro op h x b w d;rw[ofEvents_eq]at h;obtain⟨e,p,rfl⟩:=Zgs.1 h;have f:=j e p;obtain⟨l,y⟩:=ofEvent_touch f.marks w;rw[l]at d;unfold EvC at f;split at f;rename_i a o;rw[o]at d;cases d;grind;rename_i r u;rw[u]at d;cases d;grind;rename_i m k;rw[k]at d;cases d;rename_i q;rw[q]at d;cases d;simp_all
def ja{K O:Z3}{g:Nat}{fn:Zo}{pos:String}{es:Zb}(a:∀e∈es,EvC K O e)(h:∀i,Deaf t i=0)(i:Nat):Deaf (t++MemOp.ofEvents g fn pos es) i=0:=by
 by_cases j:g=i;subst j;rw[Deaf_own,h];obtain⟨l⟩:=es;induction l with
 |nil=>rfl
 |cons e l p=>
  have k:=(a e Z1).marks;have o:deafBehind 0 (e::l).toArray=deafBehind 0 l.toArray:=by
   simp only[deafBehind,List.foldl_toArray',Zgv];congr 1;obtain⟨f,wr,q⟩:=e;cases f with
   |mark m=>
    have:=k m rfl;cases m<;>first|rfl|cases this
   |_=>rfl
  simp_all
 rw[Deaf_other t j _ (λop d=>by rw[ofEvents_eq]at d;grind)];exact h i
def TI.main{j:Z3}(h:TI n OA OB KB sz t)(Z:n≠0)(F:∀b,OA b->j b)(D:∀b,j b->OA b\/sz<=b)(r:sz<=sz')(G:∀b,j b->b<sz')(z:∀b,KA b->b<sz)
  (I:∀b,j b->¬OB b) (J:∀b,j b->¬KB b) (S:∀b,KA b->¬OB b) {fn:Zo} {pos:String} {es:Zb} (k:∀e∈es,EvC KA j e):TI n j OB KB sz' (t++MemOp.ofEvents 0 fn pos es):=by
 have T:∀op∈MemOp.ofEvents 0 fn pos es,op.g=0:=λop f=>by rw[ofEvents_eq]at f;grind
 refine⟨λsaid=>noRace_append (h.clean said) T λi a H op f b p M=> ?_,ja k h.hears,λop f=> ?_,λi op x A o u=> ?_,λi op x A o u=> ?_⟩
 .obtain⟨y,U,C⟩:=touch_of H;obtain⟨X,B,hw,_⟩:=M;obtain R|⟨Y,c,N,O⟩:=h.j1 i y a U C B;rotate_left;obtain⟨_,d,P,Q⟩:=LH k f p ZcK;grind;exact R
 obtain f|f:=Zfi.1 f;exactλx b o p=>ZdS (h.low op f x b o p) r;exact jb k G (λb p=>ZdS (z b p) r) op f;obtain⟨_,l⟩|⟨_,q⟩:=getElem?_append_cases A;exact(h.j1 i op x l o u).imp (Knows.app _) id;grind [knows_own];obtain⟨_,l⟩|⟨_,q⟩:=getElem?_append_cases A;obtain w|w|⟨w,W⟩:=h.j2 i op x l o u;omega;exact .inr (.inl (w.app _));grind;obtain⟨_,b,K,L⟩:=LH k q o u;grind
def TI.child{j:Z3}(h:TI n OA OB KB sz t)(z:∀b,OB b->j b)(w:∀b,j b->OB b\/sz<=b)(A:sz<=sz')(L:∀b,j b->b<sz')(F:∀b,KB b->b<sz)
  (N:∀b,OA b->¬j b) (O:∀b,OA b->¬KB b) {fn:Zo} {pos:String} {es:Zb} (k:∀e∈es,EvC KB j e):TI n OA j KB sz' (t++MemOp.ofEvents n fn pos es):=by
 have K:∀op∈MemOp.ofEvents n fn pos es,op.g=n:=λop f=>by rw[ofEvents_eq]at f;grind
 have J:∀(i:Nat) (op:MemOp) (x:Touch) (b:Nat),t[i]?=xk op->op.act.touch?=xk x->blk x.loc=xk b->¬OB b->¬j b:=λi op x b u o p T B=>by
  obtain l|l:=w b B;grind;have:=h.low op (Zgb u) x b o p;omega
 refine⟨λsaid=>noRace_append (h.clean said) K λi a M op f b p P=> ?_,ja k h.hears,λop f=> ?_,λi op x u o C=> ?_,λi op x u o C=> ?_⟩;obtain⟨y,U,H⟩:=touch_of M;obtain⟨W,G,X,_⟩:=P;obtain I|S|⟨l,D⟩:=h.j2 i y a U H G;grind [knows_own];exact S;exfalso;obtain⟨_,d,Q,R⟩:=LH k f p ZcK;grind;obtain f|f:=Zfi.1 f;exactλx b o p=>ZdS (h.low op f x b o p) A;exact jb k L (λb p=>ZdS (F b p) A) op f;obtain⟨_,q⟩|⟨_,r⟩:=getElem?_append_cases u;exact(h.j1 i op x q o C).imp (Knows.app _) λ⟨I,b,l,D⟩=>⟨I,b,l,D.imp (z b) id⟩;exact .inr ⟨K op r,(LH k r o C).2⟩;obtain⟨_,q⟩|⟨_,r⟩:=getElem?_append_cases u;obtain l|l|⟨l,D⟩:=h.j2 i op x q o C;omega;exact .inr (.inl (l.app _));grind;simp_all
def TI.comm(h:TI n OA OB KB sz t)(w:sz<=sz')(u:Trace)(M:∀op∈u,op.act.touch?=xw/\op.act≠.mark .disable/\op.act≠.mark .enable):TI n OA OB KB sz' (t++u):=by
 refine⟨λsaid=> ?_,λi=> ?_,λop d=> ?_,λi op x k f r=> ?_,λi op x k f r=> ?_⟩;rintro⟨i,j,p,⟨a,b,z,o,A⟩,J,K⟩;obtain⟨x,f,C⟩:=touch_of z;obtain⟨y,F,H⟩:=touch_of o;obtain⟨L,G⟩|⟨_,I⟩:=getElem?_append_cases F;obtain⟨k,B⟩|⟨_,D⟩:=getElem?_append_cases f;exact h.clean said ⟨i,j,p,⟨a,b,by simp_all[Trace.act?],by simp_all[Trace.act?],A⟩,λe=>J (hb_app u e),λe=>K (hb_app u e)⟩;omega;simp_all;obtain⟨l⟩:=u;rw[Deaf_append,h.hears];induction l with
 |nil=>rfl
 |cons y l N=>
  simp_all[deafStep,absurd,Zgv]
 obtain d|d:=Zfi.1 d;exactλx b f o=>ZdS (h.low op d x b f o) w;exactλx b f _=>ZcK;obtain⟨_,g⟩|⟨_,q⟩:=getElem?_append_cases k;exact(h.j1 i op x g f r).imp (Knows.app _) id;simp_all;obtain⟨_,g⟩|⟨_,q⟩:=getElem?_append_cases k;exact(h.j2 i op x g f r).imp id (Or.imp (Knows.app _) id);simp_all
end
end
end Vm
end
section
namespace Vm
open Go Go.Conc Go.ConcN
section
abbrev Zc:=Array Goroutine
def YG(P:Z5)(n:Nat)(gs:Zc)(q:Zk):Prop:=∀i g,0<i->i≠n->gs[i]?=xk g->QuitsIn P (q i) g
abbrev Zm:=Array Goroutine->World->Trace->Prop
def Win(P:Z5)(Final:Zm)(gs:Zc)(w:Z4)(sl:Option (Nat×Nat))(t:Trace):Prop:=
 ∃N a g d f,runNT P N (crowd gs w sl) t=(.next (crowd a g d),f)/\Final a g f
section
variable {P:Z5}{Final:Zm}{n:Nat}
def Win.now{gs:Zc}{w:Z4}{sl:Option (Nat×Nat)}{t:Trace}(h:Final gs w t):Win P Final gs w sl t:=⟨0,gs,w,sl,t,rfl,h⟩
def Win.step{gs a:Zc}{w w1:Z4}{sl d:Option (Nat×Nat)}{t:Trace}{ops:Array MemOp}(h:stepT P (crowd gs w sl)=(.next (crowd a w1 d),ops))(k:Win P Final a w1 d (t++ops)):Win P Final gs w sl t:=by
 obtain⟨N,f,p,g,o,j,l⟩:=k;exact⟨N+1,f,p,g,o,by simp only[runNT,h];exact j,l⟩
theorem NF{g g' b:Zi}{w':Z4}{k:Nat}(a:QuitsIn P k b):woken P g g' w' b=b:=woken_quitsD (QuitsD.of_quitsIn a)
def MP{Wn:Array Goroutine->World->Option (Nat×Nat)->Trace->Prop}(I:∀ {gs K:Zc} {w w1:Z4} {sl U:Option (Nat×Nat)} {t:Trace} {S:Array MemOp},stepT P (crowd gs w sl)=(.next (crowd K w1 U),S)->Wn K w1 U (t++S)->Wn gs w sl t)
  {gs:Zc} {w:Z4} {sl:Option (Nat×Nat)} {t:Trace} {q:Zk} (hl:YG P n gs q)
  (D:∀i g,(i=0\/i=n)->gs[i]?=xk g->awake g/\∀g1 g2 d,woken P g1 g2 (w.at d) g=g)
  (hr:∃i g,(i=0\/i=n)/\gs[i]?=xk g/\g.status=.running)
  (H:∀a d0 T d o q' i g,stepT P (crowd a (w.at d0) T)=runT P (crowd a (w.at d) o) i->a.size=gs.size->(∀j,(j=0\/j=n)->a[j]?=gs[j]?)->YG P n a q'->(i=0\/i=n)->a[i]?=xk g->g.status=.running->Wn a (w.at d0) T t):Wn gs w sl t:=by
 have key:∀M a d sl q,sumTo gs.size q<=M->a.size=gs.size->(∀j,(j=0\/j=n)->a[j]?=gs[j]?)->YG P n a q->Wn a (w.at d) sl t:=by
  intro M;induction M with
  |zero=>
   intro a d sl q hM u f C;have z:∀g∈a,awake g:=λg r=>by
    obtain⟨i,p,rfl⟩:=ZhG.1 r;by_cases h:i=0\/i=n;exact(D i _ h (by rw[<-f i h];exact Zed p)).1;have:=C i _ Z0 Z0 (Zed p);exactλt Q=>by obtain h|h:=this.status<;>rw[h]at Q<;>cases Q
   obtain⟨R,g0,Z,W,h3⟩:=hr;obtain⟨i,g,J,o,p,r,B⟩:=crowd_pick (P:=P) (w:=w.at d) (sl:=sl) z ⟨R,g0,by rw[f R Z];exact W,h3⟩;by_cases h:i=0\/i=n;exact H a d sl J o q i g B u f C h p r;have l:=C i g Z0 Z0 p;have G:i<gs.size:=by rw[<-u];exact(ZdM.1 p).1
   have a6:q i=0:=by
    have W:sumTo gs.size (upd q i 0)+q i=sumTo gs.size q+0:=by simpa using sumTo_upd q 0 id G
    omega
   rw[a6]at l;rw[show g.status=.finished from l]at r;cases r
  |succ M ih=>
   intro a d sl q hM u f C;have z:∀g∈a,awake g:=λg r=>by
    obtain⟨i,p,rfl⟩:=ZhG.1 r;by_cases h:i=0\/i=n;exact(D i _ h (by rw[<-f i h];exact Zed p)).1;have:=C i _ Z0 Z0 (Zed p);exactλt Q=>by obtain h|h:=this.status<;>rw[h]at Q<;>cases Q
   obtain⟨R,g0,Z,W,h3⟩:=hr;obtain⟨i,g,J,o,p,r,B⟩:=crowd_pick (P:=P) (w:=w.at d) (sl:=sl) z ⟨R,g0,by rw[f R Z];exact W,h3⟩;by_cases h:i=0\/i=n;exact H a d sl J o q i g B u f C h p r;have l:=C i g Z0 Z0 p;have G:i<gs.size:=by rw[<-u];exact(ZdM.1 p).1
   cases hk:q i with
   |zero=>
    rw[hk]at l;rw[show g.status=.finished from l]at r;cases r
   |succ k=>
    rw[hk]at l;obtain hf|⟨_,g',O,a5⟩:=l;rw[hf]at r;cases r;have a1:(i==0)=xh:=ZcL;have A:=runT_crowd_go (P:=P) (sl:=o) (i:=i) p (by rw[a1];exact O (w.at J));have a7:sumTo gs.size (upd q i k)+(k+1)=sumTo gs.size q+k:=by
     have:=sumTo_upd q k id G;simpa[hk]using this
    have a4:MemOp.ofEvents i g.frame.fn g.frame.place #[]=#[]:=rfl;rw[a4]at A;refine I (B.trans A) ?_;rw[Zez];refine ih _ J o (upd q i k) Z0 (by simp[u]) (λj X=> ?_) λj x X a2 Y=> ?_;have a3:i≠j:=Z0;rw[ZeE a3,Zeg,f j X];cases a0:gs[j]? with
    |none=>rfl
    |some y=>simp only[Ze4];rw[(D j y X a0).2]
    by_cases F:i=j;subst F;have L:i<a.size:=Z0;rw[Zga (by simpa using L)]at Y;cases Y;rw[upd_same];exact a5;rw[ZeE F,Zeg]at Y;obtain⟨y,hy,rfl⟩:=ZdI.1 Y;have N:=C j y X a2 hy;rw[NF N,upd_ne q k (ZfK F)];exact N
 have:=key (sumTo gs.size q) gs w.drawn sl q (ZdL _) rfl (λ_ _=>rfl) hl;exact this
def skip{gs:Zc}{w:Z4}{sl:Option (Nat×Nat)}{t:Trace}{q:Zk}(F:YG P n gs q)
  (o:∀i g,(i=0\/i=n)->gs[i]?=xk g->awake g/\∀g1 g2 d,woken P g1 g2 (w.at d) g=g)
  (G:∃i g,(i=0\/i=n)/\gs[i]?=xk g/\g.status=.running)
  (H:∀a d k r i g,a.size=gs.size->(∀j,(j=0\/j=n)->a[j]?=gs[j]?)->YG P n a r->(i=0\/i=n)->a[i]?=xk g->g.status=.running->
   ∃f w1 l h,runT P (crowd a (w.at d) k) i=(.next (crowd f w1 l),h)/\Win P Final f w1 l (t++h)):Win P Final gs w sl t:=
 MP (Wn:=Win P Final) Win.step F o G λa J I d k r i g p y z A B C D=>by
  obtain⟨f,w1,l,h,u,x⟩:=H a d k r i g y z A B C D;exact Win.step (p.trans u) x
end
end
section
structure Cfg (P:Program) (n c:Nat) (KA KB OA0:Nat->Prop) (w0:World) (OA OB:Nat->Prop) (gs:Array Goroutine) (w:World) (t:Trace) (q:Nat->Nat):Prop where
 n0:0<n
 lv:YG P n gs q
 ti:TI n OA (λb=>OB b\/b=c) KB (U (R w)) t
 la:∀b,OA b->b<U (R w)
 lb:∀b,OB b->b<U (R w)
 ka:∀b,KA b->b<U (R w0)
 kb:∀b,KB b->b<U (R w0)
 sab:∀b,OA b->¬OB b
 sak:∀b,OA b->¬KB b
 ca:¬OA c
 cka:¬KA c
 ckb:¬KB c
 c0:c<U (R w0)
 b0:U (R w0)<=U (R w)
 tape:w.tape=w0.tape
 os:(w.os,w.output)=(w0.os,w0.output)
 oa:∀b,OA b->OA0 b\/U (R w0)<=b
 ob:∀b,OB b->U (R w0)<=b
 fr:∀b,b<U (R w0)->¬OA0 b->b≠c->w.heap[b]?=w0.heap[b]?
section
variable {P:Z5}{n c:Nat}{KA KB OA0 OA OB:Z3}{w0 w:Z4}{gs:Zc}{t:Trace}{q:Zk}
def EvC.mono{K O a:Z3}{e:Event}(h:EvC K O e)(d:∀b,O b->a b):EvC K a e:=by
 unfold EvC at*;split<;>simp only[*]at h;exact h.imp (d _) id;exact d _ h;exact h;trivial
def Cfg.skb(h:Cfg P n c KA KB OA0 w0 OA OB gs w t q)(b:Nat)(a:KA b):¬OB b:=λd=>by
 have:=h.ka b a;have:=h.ob b d;omega
def Cfg.cb(h:Cfg P n c KA KB OA0 w0 OA OB gs w t q):¬OB c:=λa=>by
 have:=h.ob c a;have:=h.c0;omega
theorem Cfg.at(h:Cfg P n c KA KB OA0 w0 OA OB gs w t q)(d:Nat){a:Zc}{f:Zk}(g:YG P n a f):Cfg P n c KA KB OA0 w0 OA OB a (w.at d) t f:=
 ⟨h.n0,g,h.ti,h.la,h.lb,h.ka,h.kb,h.sab,h.sak,h.ca,h.cka,h.ckb,h.c0,h.b0,h.tape,h.os,h.oa,h.ob,h.fr⟩
theorem Rely.at(K O:Z3)(w:Z4)(d:Nat):Rely K O w (w.at d):=⟨ZdL _,rfl,rfl,λ_ _ _=>rfl⟩
def Cfg.relyB(h:Cfg P n c KA KB OA0 w0 OA OB gs w t q){w':Z4}{es:Zb}(a:Guar KA OA w w' es):Rely KB OB w w':=
 ⟨a.sz,a.tape,a.os,λb f g=>a.keep b f λd=>g.elim (h.sab b d) (h.sak b d)⟩
def Cfg.relyA(h:Cfg P n c KA KB OA0 w0 OA OB gs w t q){w':Z4}{es:Zb}(a:Guar KB OB w w' es):Rely KA OA w w':=
 ⟨a.sz,a.tape,a.os,λb g k=>a.keep b g λd=>k.elim (λf=>h.sab b f d) λj=>h.skb b j d⟩
def Wv(w:Z4)(c:Nat)(o:Obj):World:= {w with heap:=w.heap.setIfInBounds c o}
def JE{K O:Z3}(w:Z4)(c:Nat)(o:Obj)(a:¬O c)(h2:¬K c):Rely K O w (Wv w c o):=
 ⟨by simp[Wv],rfl,rfl,λb f d=>by
  have:c≠b:=λe=>by subst e;exact d.elim a h2
  simp[Wv,Zf9,this]⟩
def qX{w:Z4}{c:Nat}{o:Obj}(h:c<U (R w)):(Wv w c o).heap[c]?=xk o:=by simp[Wv,Zf9,h]
def Cfg.chan(h:Cfg P n c KA KB OA0 w0 OA OB gs w t q)(o:Obj){a:Zc}{j:Zk}(l:YG P n a j)(u:Trace)(p:∀op∈u,op.act.touch?=xw/\op.act≠.mark .disable/\op.act≠.mark .enable):
  Cfg P n c KA KB OA0 w0 OA OB a (Wv w c o) (t++u) j:=by
 have f:U (R (Wv w c o))=U (R w):=by simp[Wv]
 refine⟨h.n0,l,by rw[f];exact h.ti.comm (ZdL _) u p,λb d=>by rw[f];exact h.la b d,λb d=>by rw[f];exact h.lb b d,h.ka,h.kb,h.sab,h.sak,h.ca,h.cka,h.ckb,h.c0,by rw[f];exact h.b0,h.tape,h.os,h.oa,h.ob,λb d k g=> ?_⟩;rw[<-h.fr b d k g];simp[Wv,Zf9,ZfK g]
def Cfg.same(h:Cfg P n c KA KB OA0 w0 OA OB gs w t q){a:Zc}{d:Zk}(f:YG P n a d)(u:Trace)(g:∀op∈u,op.act.touch?=xw/\op.act≠.mark .disable/\op.act≠.mark .enable):
  Cfg P n c KA KB OA0 w0 OA OB a w (t++u) d:=
 ⟨h.n0,f,h.ti.comm (ZdL _) u g,h.la,h.lb,h.ka,h.kb,h.sab,h.sak,h.ca,h.cka,h.ckb,h.c0,h.b0,h.tape,h.os,h.oa,h.ob,h.fr⟩
def Cfg.peek(h:Cfg P n c KA KB OA0 w0 OA OB gs w t q)(fn:Zo)(pos:String):Cfg P n c KA KB OA0 w0 OA OB gs w (t++MemOp.ofEvents n fn pos #[⟨.obj c,xh,xy⟩]) q:=by
 have g:=h.b0;have j:=h.c0;refine⟨h.n0,h.lv,h.ti.child (λb a=>a) (λb a=>.inl a) (ZdL _) (λb a=>by obtain a|a:=a;exact h.lb b a;omega) (λb a=>by have:=h.kb b a;omega) (λb f a=>by obtain a|a:=a;exact h.sab b f a;subst a;exact h.ca f) h.sak (λe d=> ?_),h.la,h.lb,h.ka,h.kb,h.sab,h.sak,h.ca,h.cka,h.ckb,h.c0,h.b0,h.tape,h.os,h.oa,h.ob,h.fr⟩;have d:e=⟨.obj c,xh,xy⟩:=ZcW;subst d;exact .inr rfl
def Cfg.mainGo(h:Cfg P n c KA KB OA0 w0 OA OB gs w t q){w':Z4}{es:Zb}(j:Guar KA OA w w' es){d:Zc}{u:Zk}(A:YG P n d u)(fn:Zo)(pos:String):
  Cfg P n c KA KB OA0 w0 (WW OA w w') OB d w' (t++MemOp.ofEvents 0 fn pos es) u:=by
 have y:=h.b0;have o:=j.sz;have f:∀b,WW OA w w' b->¬OB b:=λb a l=>by
  obtain a|a:=a;exact h.sab b a l;have:=h.lb b l;omega
 have g:∀b,WW OA w w' b->¬KB b:=λb a l=>by
  obtain a|a:=a;exact h.sak b a l;have:=h.kb b l;omega
 have k:∀b,WW OA w w' b->b<U (R w'):=λb a=>by
  obtain a|a:=a;have:=h.la b a;omega;omega
 refine⟨h.n0,A,h.ti.main (KA:=KA) (by have:=h.n0;omega) (λb a=>.inl a) (λb a=>a.imp id (·.1)) o k (λb a=>by have:=h.ka b a;omega) (λb a p=>p.elim (f b a) λe=>by subst e;obtain a|a:=a;exact h.ca a;have:=h.c0;omega) g (λb a p=>p.elim (h.skb b a) λe=>by subst e;exact h.cka a) j.evs,k,λb a=>by have:=h.lb b a;omega,h.ka,h.kb,f,g,λa=> ?_,h.cka,h.ckb,h.c0,Z0,j.tape.trans h.tape,j.os.trans h.os,λb a=> ?_,h.ob,λb a r z=> ?_⟩;obtain a|a:=a;exact h.ca a;have:=h.c0;omega;obtain a|a:=a;exact h.oa b a;omega;rw[j.keep b Z0 λx=>(h.oa b x).elim r Z0];exact h.fr b a r z
def Cfg.childGo(h:Cfg P n c KA KB OA0 w0 OA OB gs w t q){w':Z4}{es:Zb}(j:Guar KB OB w w' es){d:Zc}{o:Zk}(y:YG P n d o)(fn:Zo)(pos:String):
  Cfg P n c KA KB OA0 w0 OA (WW OB w w') d w' (t++MemOp.ofEvents n fn pos es) o:=by
 have r:=h.b0;have l:=j.sz;have g:∀b,OA b->¬WW OB w w' b:=λb f a=>by
  obtain a|a:=a;exact h.sab b f a;have:=h.la b f;omega
 have k:∀b,WW OB w w' b->b<U (R w'):=λb a=>by
  obtain a|a:=a;have:=h.lb b a;omega;omega
 refine⟨h.n0,y,h.ti.child (λb a=>a.imp .inl id) (λb a=>by obtain(a|a)|a:=a;exact .inl (.inl a);exact .inr a.1;omega) l (λb a=>by obtain a|a:=a;exact k b a;subst a;have:=h.c0;omega) (λb a=>by have:=h.kb b a;omega) (λb f a=>by obtain a|a:=a;exact g b f a;subst a;exact h.ca f) h.sak (λe x=>(j.evs e x).mono λb a=>.inl a),λb a=>by have:=h.la b a;omega,k,h.ka,h.kb,g,h.sak,h.ca,h.cka,h.ckb,h.c0,Z0,j.tape.trans h.tape,j.os.trans h.os,h.oa,λb a=> ?_,λb a p u=> ?_⟩;obtain a|a:=a;exact h.ob b a;omega;rw[j.keep b Z0 λz=>by have:=h.ob b z;omega];exact h.fr b a p u
end
def Uo(P:Z5)(c:Nat)(O:Z3)(g:Zi)(w:Z4):Prop:=
 g.status=.running/\mayWake P g=xy/\∃a k,(∀s r d,w.heap[c]?=xk (.chan 0 #[] xh s r d)->stepG P xh g w=.go a (Wv w c (.chan 0 #[] xy s r d)) #[⟨.obj c,xh,xy⟩,⟨.obj c,xy,xy⟩])/\QuitsIn P k a
inductive BSit (P:Program) (c:Nat) (KB:Nat->Prop):List Value->(Nat->Prop)->Goroutine->World->Prop where
 |run {vs:Zl} {O:Z3} {b:Zi} {w:Z4}:Play P false c KB (Uo P c) (vs.map .send) O b w->BSit P c KB vs O b w
 |park {v:Ze} {vs:Zl} {O:Z3} {fr:Zf} {cs:Z6} {z:Ze} {w:Z4}:Play P false c KB (Uo P c) (vs.map .send) O (G (Xq (.send v) fr) cs) w->BSit P c KB (v::vs) O (parked (G fr cs) #[scase c v z] .send) w
def BSit.rely{P:Z5}{c:Nat}{KB:Z3}{vs:Zl}{O:Z3}{b:Zi}{w w1:Z4}(h:BSit P c KB vs O b w)(a:Rely KB O w w1):BSit P c KB vs O b w1:=by
 cases h with
 |run h=>exact .run (h.rely a)
 |park h=>exact .park (h.rely a)
def Play.running{P:Z5}{main:Bool}{c:Nat}{K:Z3}{a:(Nat->Prop)->Goroutine->World->Prop}(d:∀O g w,a O g w->g.status=.running){es:ZcH}{O:Z3}{g:Zi}{w:Z4}(h:Play P main c K a es O g w):g.status=.running:=by
 cases h with
 |stop h=>exact d _ _ _ (h w (.refl _ _ _))
 |ev=>rfl
 |step=>rfl
end
section
theorem Dp{p:Z5}{fr:Zf}{cs:Z6}{s:Sem Next}{w w':Z4}{c:Array CommCase}{b:Bool}{sh:CommShape}(e:s.runT p w #[]=(.ok (.comm c b sh) w', #[])):stepG.apply p xy fr cs xw s w=.comm (G fr cs) c b sh w' #[]:=by
 simp_all[stepG.apply,Conc.G,Zer,GStep.after,seen_none]
theorem Z6f{P:Z5}{t:Zg}{d:TypeDesc}(h:P.underlying t=xk d){α:Type}(f:TypeDesc->Sem α)(w:Z4)(es:Zb):(underlying t>>=f).runT P w es=(f d).runT P w es:=by
 simp_all[underlying,runT,pure,stuck,Sem.bind,ZfT]
theorem Z6g{P:Z5}{t:Zg}{i:TypeInfo}{z:Ze}(h:P.info? t=xk i)(a:i.zero=xk z){α:Type}(f:Value->Sem α)(w:Z4)(es:Zb):(zeroValue t>>=f).runT P w es=(f z).runT P w es:=by
 simp_all[typeInfo,runT,pure,stuck,zeroValue,Sem.bind,ZfT]
section
variable {P:Z5}{main:Bool}{c:Nat}{fr:Zf}{cs:Z6}{v z:Ze}
theorem M7{ops:Zq}{i:Nat}{rest:Zd}{k:Zp}{o:Oper}{t h:Zg}{a:Operand}{d:ChanDir}{inf:TypeInfo}(y:fr.mode=.run)(B:fr.todo=.inRegion ops (i::rest)::k)(A:ops[i]?=xk o)(C:Region.wanted o (yielded ops fr.tmps)=xy)
  (j:o.op=.recv t a xy) (h2:fr.eval a=.chan (xk c)) (p:P.underlying t=xk (.chan d h)) (u:P.info? h=xk inf) (x:inf.zero=xk z) (w:Z4):stepG P main (G fr cs) w=.comm (G fr cs) #[rcase c z] xy (.recv xy) w #[]:=by
 rw[Cf P main fr cs w y,JI B A C (λ_ c e=>ZcK)];refine Dp ?_;obtain⟨f,op,type,pos,after,guard⟩:=o;dsimp only at j;subst j
 have l:execOp fr.eval ⟨f,.recv t a xy,type,pos,after,guard⟩=(do
  let .chan _ elem<-underlying t|stuck "receive: channel type expected"
  pure (.comm #[{chan:=fr.eval a,send:=xw,zero:= <-zeroValue elem}] xy (.recv xy)):Sem Next):=rfl
 rw[l,Z6f p];dsimp only;rw[Z6g u x,h2];rfl
theorem Z5F(h:Vk P c (.recv v) fr):∃z,∀w,stepG P main (G fr cs) w=.comm (G fr cs) #[rcase c z] xy (.recv xy) w #[]:=by
 obtain⟨C,i,a,k,o,x,A,y,B,t,D,d,F,inf,z,f,_,j,l,p,u⟩:=h;exact⟨z,λw=>M7 x A y B f j l p u w⟩
theorem E6(h:Vk P c (.closed z) fr)(w:Z4):stepG P main (G fr cs) w=.comm (G fr cs) #[rcase c z] xy (.recv xy) w #[]:=by
 obtain⟨f,i,a,k,o,B,D,C,F,t,j,d,l,inf,p,_,u,x,y,A⟩:=h;grind [M7]
theorem BV(h:Vk P c (.send v) fr):∃z,∀w,stepG P main (G fr cs) w=.comm (G fr cs) #[scase c v z] xy .send w #[]:=by
 obtain⟨B,i,d,k,o,t,y,u,A,f,x,a,_,_,l,p⟩:=h;refine⟨.tuple #[],λw=> ?_⟩;rw[Cf P main fr cs w t,JI y u A (λ_ c e=>ZcK)];refine Dp ?_;obtain⟨j,op,type,pos,after,guard⟩:=o;dsimp only at a;subst a;subst p;show(Result.ok (Next.comm #[{chan:=fr.eval f,send:=xk (fr.eval x),zero:=.tuple #[]}] xy .send) w,(#[]:Array Event))=_;rw[l];rfl
end
theorem IY{P:Z5}{k:Nat}{g:Zi}(h:QuitsIn P k g)(c:Nat)(b:Bool):offersAt g c b=[]:=offersAt_of_not_blocked (by obtain h|h:=h.status<;>rw[h]<;>simp) c b
section
variable {P:Z5}{n c:Nat}{gs:Zc}{q:Zk}{w:Z4}{sl:Option (Nat×Nat)}{s r:Nat}{tm:Bool}{g:Zi}{z v z':Ze}
theorem TO(h:YG P n gs q)(i:Nat)(l:i=0\/i=n)(x:Zi):YG P n (gs.setIfInBounds i x) q:=λj y f k d=>by
 have a:i≠j:=Z0;rw[ZeE a]at d;exact h j y f k d
theorem SB(h:YG P n gs q)(i:Nat)(p:i=0\/i=n)(g g' x:Zi)(w':Z4):YG P n ((gs.map (woken P g g' w')).setIfInBounds i x) q:=λj y f k d=>by
 have a:i≠j:=Z0;rw[ZeE a,Zeg]at d;obtain⟨o,l,rfl⟩:=ZdI.1 d;have:=h j o f k l;grind [NF]
theorem Ul{i:Nat}{x y:Zi}(h:gs[i]?=xk y):(gs.setIfInBounds i x)[i]?=xk x:=Zga (ZdM.1 h).1
theorem BX{i j:Nat}{x:Zi}(h:i≠j):(gs.setIfInBounds i x)[j]?=gs[j]? :=ZeE h
theorem At(d:YG P n gs q)(i:Nat)(k:i=0\/i=n)(l:∀j x,(j=0\/j=n)->j≠i->gs[j]?=xk x->x.status≠.blocked)(b:Bool):partners (gs.setIfInBounds i ph) c b=[]:=by
 refine partners_nil λj x a=> ?_;obtain⟨_,rfl⟩|⟨f,a⟩:=getElem?_stand gs i j x a;rfl;by_cases h:j=0\/j=n;grind [offersAt_of_not_blocked];exact IY (d j x Z0 Z0 a) _ _
theorem Hc(f:YG P n gs q)(i j:Nat)(p:i=0\/i=n)(t:j=0\/j=n)(a:j≠i){x:Zi}(hx:gs[j]?=xk x)(b:Bool)(h:∀k,(k=0\/k=n)->k=i\/k=j):partners (gs.setIfInBounds i ph) c b=(offersAt x c b).map λk=>(j,k):=by
 refine partners_one (stand_get a hx) λk y u d=> ?_;obtain⟨_,rfl⟩|⟨l,d⟩:=getElem?_stand gs i k y d;rfl;by_cases o:k=0\/k=n;omega;exact IY (f k y Z0 Z0 d) _ _
variable {fr frb:Zf}{cs csb:Z6}
theorem Z35(k:YG P n gs q)(f:gs[0]?=xk g)(a:stepG P xy g w=.comm (G fr cs) #[rcase c z] xy (.recv xy) w #[])(hc:w.heap[c]?=xk (.chan 0 #[] xh s r tm))(p:∀x,n≠0->gs[n]?=xk x->x.status≠.blocked):
  runT P (crowd gs w sl) 0=(.next (crowd (gs.setIfInBounds 0 (parked (G fr cs) #[rcase c z] (.recv xy))) w sl), #[]):=by
 refine crowd_waits (g:=g) f a λd h=> ?_;obtain rfl:d=rcase c z:=ZcK;exact ways_recv_none hc (At k 0 (.inl rfl) (λj x o l t=>ZcK) xy)
theorem Gv(l:n≠0)(k:YG P n gs q)(f:gs[n]?=xk g)(a:stepG P xh g w=.comm (G frb csb) #[scase c v z] xy .send w #[])(hc:w.heap[c]?=xk (.chan 0 #[] xh s r tm))(p:∀x,gs[0]?=xk x->x.status≠.blocked):
  runT P (crowd gs w sl) n=(.next (crowd (gs.setIfInBounds n (parked (G frb csb) #[scase c v z] .send)) w sl), #[]):=by
 refine crowd_waits (g:=g) f (by rw[show(n==0)=xh by simp_all];exact a) λd h=> ?_;obtain rfl:d=scase c v z:=ZcK;exact ways_send_none hc Z1 (At k n (.inr rfl) (λj x t o u=>ZcK) xh)
theorem Z36(a:n≠0)(p:YG P n gs q)(o:gs[n]?=xk g)(f:stepG P xh g w=.comm (G frb csb) #[scase c v z] xy .send w #[])(hc:w.heap[c]?=xk (.chan 0 #[] xh s r tm))
  (h:gs[0]?=xk (parked (G fr cs) #[rcase c z'] (.recv xy))):
  ∃u:Array MemOp,(∀op∈u,op.act.touch?=xw/\op.act≠.mark .disable/\op.act≠.mark .enable)/\
   runT P (crowd gs w sl) n=(.next (crowd ((gs.setIfInBounds 0 (G (Xq (.recv v) fr) cs)).setIfInBounds n (G (Xq (.send v) frb) csb)) (Wv w c (.chan 0 #[] xh (s+1) (r+1) tm)) sl),u):=by
 have l:=Hc (c:=c) p n 0 (.inr rfl) (.inl rfl) (ZfK a) h xh (λk t=>Z0);rw[offersAt_parked_recv,if_pos rfl]at l;have:=crowd_send_meets (sl:=sl) (i:=n) (j:=0) o (by rw[show(n==0)=xh by simp_all];exact f) hc (ZfK a) h l;refine⟨_,?_,this⟩;intro op d;simp[MemOp.ofEvents]at d;obtain rfl|rfl|rfl|rfl:=d<;>simp[MemAct.touch?]
theorem Z34(a:n≠0)(p:YG P n gs q)(o:gs[0]?=xk g)(f:stepG P xy g w=.comm (G fr cs) #[rcase c z] xy (.recv xy) w #[])(hc:w.heap[c]?=xk (.chan 0 #[] xh s r tm))
  (h:gs[n]?=xk (parked (G frb csb) #[scase c v z'] .send)):
  ∃u:Array MemOp,(∀op∈u,op.act.touch?=xw/\op.act≠.mark .disable/\op.act≠.mark .enable)/\
   runT P (crowd gs w sl) 0=(.next (crowd ((gs.setIfInBounds n (G (Xq (.send v) frb) csb)).setIfInBounds 0 (G (Xq (.recv v) fr) cs)) (Wv w c (.chan 0 #[] xh (s+1) (r+1) tm)) sl),u):=by
 have l:=Hc (c:=c) p 0 n (.inl rfl) (.inr rfl) a h xy (λk t=>Z0);rw[offersAt_parked_send,if_pos rfl]at l;have:=crowd_recv_meets (sl:=sl) (i:=0) (j:=n) o f hc a h l;refine⟨_,?_,this⟩;intro op d;simp[MemOp.ofEvents]at d;obtain rfl|rfl|rfl|rfl:=d<;>simp[MemAct.touch?]
theorem Z33(f:YG P n gs q)(d:gs[0]?=xk g)(a:stepG P xy g w=.comm (G fr cs) #[rcase c z] xy (.recv xy) w #[])(hc:w.heap[c]?=xk (.chan 0 #[] xy s r tm))(o:∀x,n≠0->gs[n]?=xk x->x.status≠.blocked):
  ∃op:MemOp,op.g=0/\op.act=.recvClosed c/\runT P (crowd gs w sl) 0=(.next (crowd (gs.setIfInBounds 0 (G (Xq (.closed z) fr) cs)) w sl), #[op]):=by
 have k:=At (c:=c) f 0 (.inl rfl) (λj x l h p=>ZcK) xy;have:=crowd_recv_closed (sl:=sl) (i:=0) d a hc k;exact⟨_,rfl,rfl,this⟩
end
end
section
def ClosedAt(t:Trace)(n c:Nat):Prop:=∃pc op,t[pc]?=xk op/\op.g=n/\op.act=.close c/\t.heard pc/\∀(i:Nat) (a:MemOp),t[i]?=xk a->a.g=n->i<=pc
def ClosedAt.app{t:Trace}{n c:Nat}(h:ClosedAt t n c)(u:Trace)(x:∀op∈u,op.g≠n):ClosedAt (t++u) n c:=by
 obtain⟨pc,op,k,o,p,q,r⟩:=h;have a:=lt_size_of_getElem? k;refine⟨pc,op,by rw[getElem?_append_old a];exact k,o,p,(heard_old a).2 q,λi d w l=> ?_⟩;obtain⟨_,f⟩|⟨_,j⟩:=getElem?_append_cases w;exact r i d f l;exact absurd l (x d j)
def Fd{t:Trace}{op:MemOp}(h:Deaf t op.g=0):(t++ #[op]).heard t.size:=⟨op.g,by simp[Trace.g?],by rw[deaf_old (ZdL _)];exact h⟩
def ClosedAt.new{t:Trace}{n c:Nat}{op:MemOp}(a:op.g=n)(d:op.act=.close c)(f:Deaf t n=0):ClosedAt (t++ #[op]) n c:=by
 refine⟨t.size,op,Z1,a,d,Fd (by rw[a];exact f),λi j h _=> ?_⟩;have:=lt_size_of_getElem? h;simp at this;omega
section
variable {P:Z5}{n c:Nat}{KA KB OA0:Z3}{w0:Z4}{Final:Zm}
def qF(O:Z3)(g:Zi)(w:Z4)(h:Uo P c O g w):g.status=.running:=h.1
def jP{OA:Z3}{a:Zi}{R:List Value->Prop}{Ra:World->Prop}(X:∀w Z,Rely KA OA w Z->Ra w->Ra Z)
  (a4:awake a/\∀(w:Z4) s r p g1 g2,w.heap[c]?=xk (.chan 0 #[] xh s r p)->woken P g1 g2 w a=a)
  (H0:a.status=.running->∀vs D b gs w sl t q s r p,Cfg P n c KA KB OA0 w0 OA D gs w t q->gs.size=n+1->gs[0]?=xk a->gs[n]?=xk b->Ra w->w.heap[c]?=xk (.chan 0 #[] xh s r p)->R vs->
   Play P xh c KB (Uo P c) (vs.map .send) D b w->∃H w1 J I,runT P (crowd gs w sl) 0=(.next (crowd H w1 J),I)/\Win P Final H w1 J (t++I))
  (HC:∀D b b2 gs w sl t q s r p,Cfg P n c KA KB OA0 w0 OA D gs w t q->YG P gs.size gs q->gs.size=n+1->mayWake P b=xy->b2.status≠.blocked->b2.status≠.waiting->gs[0]?=xk (woken P b b2 w a)->Ra w->w.heap[c]?=xk (.chan 0 #[] xy s r p)->R []->
   ClosedAt t n c->Win P Final gs w sl t)
  (HV:∀v vs D fr cs gs w sl t q s r p,Cfg P n c KA KB OA0 w0 OA D gs w t q->gs.size=n+1->gs[0]?=xk a->gs[n]?=xk (G fr cs)->Ra w->w.heap[c]?=xk (.chan 0 #[] xh s r p)->R (v::vs)->
   Vk P c (.send v) fr->(∀w1,Rely KB D w w1->Play P xh c KB (Uo P c) (vs.map .send) D (G (Xq (.send v) fr) cs) w1)->∃H w1 J I,runT P (crowd gs w sl) n=(.next (crowd H w1 J),I)/\Win P Final H w1 J (t++I)):
  ∀vs D b wB,Play P xh c KB (Uo P c) (vs.map .send) D b wB->∀gs w sl t q s r p,Cfg P n c KA KB OA0 w0 OA D gs w t q->gs.size=n+1->gs[0]?=xk a->gs[n]?=xk b->Ra w->Rely KB D wB w->
   w.heap[c]?=xk (.chan 0 #[] xh s r p)->R vs->Win P Final gs w sl t:=by
 intro vs D b wB hB;generalize he:vs.map Ev.send=es at hB
 have pick:∀ {vs D b gs w sl t q s r p},Cfg P n c KA KB OA0 w0 OA D gs w t q->gs.size=n+1->gs[0]?=xk a->gs[n]?=xk b->Ra w->w.heap[c]?=xk (.chan 0 #[] xh s r p)->R vs->Play P xh c KB (Uo P c) (vs.map .send) D b w->
   (∀f d C S,Cfg P n c KA KB OA0 w0 OA D f (w.at d) t S->f.size=n+1->f[0]?=xk a->f[n]?=xk b->∃H w1 J I,runT P (crowd f (w.at d) C) n=(.next (crowd H w1 J),I)/\Win P Final H w1 J (t++I))->Win P Final gs w sl t:=by
  intro vs D b gs w sl t q s r p M L h0 Y A o W b3 a6;have a5:b.status=.running:=b3.running qF;refine skip M.lv (λi g hi hg=> ?_) ⟨n,b,.inr rfl,Y,a5⟩ λf d C S i g u U b8 hi a9 a1=> ?_;by_cases h:i=0;subst h;rw[h0]at hg;cases hg;exact⟨a4.1,λg1 g2 d=>a4.2 (w.at d) s r p g1 g2 o⟩;have hi:i=n:=hi.resolve_left h;subst hi;rw[Y]at hg;cases hg;exact⟨awake_of (.inl a5),λg1 g2 d=>woken_run a5⟩;have l:=M.at d b8;have F:f[0]?=xk a:=by rw[U 0 (.inl rfl)];exact h0
  have z:f[n]?=xk b:=by rw[U n (.inr rfl)];exact Y
  have a2:f.size=n+1:=by rw[u,L]
  by_cases h:i=0;subst h;rw[F]at a9;cases a9;exact H0 a1 vs D b f (w.at d) C t S s r p l a2 F z (X _ _ (Rely.at _ _ _ d) A) o W (b3.rely (Rely.at _ _ _ d));have hi:i=n:=hi.resolve_left h;subst hi;exact a6 f d C S l a2 F z
 induction hB generalizing vs with
 | @stop O g wB h=>
   intro gs w sl t q s r p M L h0 Y A B o W;have b9:vs=[]:=by cases vs with
    |nil=>rfl
    |cons=>cases he
   subst b9;refine pick M L h0 Y A o W (.stop λw1 Q=>h w1 (B.trans Q)) λf d C S l u F z=> ?_;obtain⟨a1,c0,g₂,k,N,hq⟩:=h (w.at d) (B.trans (Rely.at _ _ _ d));have T:n≠0:=by have:=M.n0;omega
   have N:=N s r p o;have a8:c<xz (xj w):=(ZdM.1 o).1;have K:=runT_crowd_go (P:=P) (sl:=C) (i:=n) z (by rw[show(n==0)=xh by simpa using T];exact N);refine⟨_,_,_,_,K,?_⟩;have b1:MemOp.ofEvents n g.frame.fn g.frame.place #[⟨.obj c,xh,xy⟩,⟨.obj c,xy,xy⟩]=MemOp.ofEvents n g.frame.fn g.frame.place #[⟨.obj c,xh,xy⟩]++ #[{g:=n,fn:=g.frame.fn,pos:=g.frame.place,act:=.close c}]:=by
    rw[ofEvents_eq,ofEvents_eq];simp[MemAct.ofEvent]
   rw[b1,<-Array.append_assoc];replace l:=l.peek g.frame.fn g.frame.place;have b0:YG P n ((f.map (woken P g g₂ (Wv (w.at d) c (.chan 0 #[] xy s r p)))).setIfInBounds n g₂) (upd S n k):=λj x Q h2 h3=>by
    have:=SB l.lv n (.inr rfl) g g₂ g₂ (Wv (w.at d) c (.chan 0 #[] xy s r p)) j x Q h2 h3;rw[upd_ne S k h2];exact this
   refine HC O g g₂ _ (Wv (w.at d) c (.chan 0 #[] xy s r p)) _ _ (upd S n k) s r p (l.chan _ b0 _ (by simp[MemAct.touch?])) (λj x Q h2 h3=> ?_) (by simpa using u) c0 ?_ ?_ ?_ (X _ _ ((Rely.at _ _ _ d).trans (JE (w.at d) c _ M.ca M.cka)) A) (qX a8) W (ClosedAt.new rfl rfl (l.ti.hears n));by_cases hj:j=n;subst hj;rw[Ul (y:=woken P g g₂ (Wv (w.at d) c (.chan 0 #[] xy s r p)) g) (by rw[Zeg,z];rfl)]at h3;cases h3;rw[upd_same];exact hq;exact b0 j x Q hj h3;obtain h|h:=hq.status<;>rw[h]<;>simp;obtain h|h:=hq.status<;>rw[h]<;>simp;rw[BX T,Zeg,F];rfl
 | @ev e es O fr cs wB a7 hk ih=>
   intro gs w sl t q s r p M L h0 Y A B o W;obtain _|⟨v,vs⟩:=vs;cases he;injection he with b6 b7;subst b6;subst b7;exact pick M L h0 Y A o W (.ev a7 λw1 Q=>hk w1 (B.trans Q)) λf d C S l u F z=>
    HV v vs O fr cs f (w.at d) C t S s r p l u F z (X _ _ (Rely.at _ _ _ d) A) o W a7 λw1 Q=>hk w1 (B.trans ((Rely.at _ _ _ d).trans Q))
 | @step es O fr cs wB Q h2 ih=>
   intro gs w sl t q s r p M L h0 Y A B o W;subst he;refine pick M L h0 Y A o W (.step (λw1 h=>Q w1 (B.trans h)) λw1 g' Z a3 h k=>h2 w1 g' Z a3 (B.trans h) k) λf d C S l u F z=> ?_;obtain⟨b5,b4,Z,a3,N,hg⟩:=Q (w.at d) (B.trans (Rely.at _ _ _ d));have T:n≠0:=by have:=M.n0;omega
   have K:=runT_crowd_go (P:=P) (sl:=C) (i:=n) z (by rw[show(n==0)=xh by simpa using T];exact N);have a0:Z.heap[c]?=xk (.chan 0 #[] xh s r p):=by
    rw[hg.keep c (ZdM.1 o).1 M.cb];exact o
   refine⟨_,_,_,_,K,?_⟩;refine ih (w.at d) (G b5 b4) Z a3 (B.trans (Rely.at _ _ _ d)) N vs rfl _ Z _ _ S s r p (l.childGo hg (SB l.lv n (.inr rfl) _ _ _ _) _ _) (by simpa using u) ?_ (Ul (by rw[Zeg,z];rfl)) (X _ _ ((Rely.at _ _ _ d).trans (l.relyA hg)) A) (.refl _ _ _) a0 W;rw[BX T,Zeg,F];simp only[Ze4];rw[a4.2 Z s r p _ _ a0]
end
end
section
def KnownAll(t:Trace):Prop:=∀(i:Nat) (op:MemOp) (x:Touch),t[i]?=xk op->op.act.touch?=xk x->x.loc.isMemory=xy->Knows t 0 i
theorem KnownAll.app0{t u:Trace}(h:KnownAll t)(l:∀op∈u,op.g=0):KnownAll (t++u):=λi op x d k j=>by
 obtain⟨_,a⟩|⟨_,f⟩:=getElem?_append_cases d;exact(h i op x a k j).app u;grind [knows_own]
theorem Z2H{n c:Nat}{OA u KB:Z3}{sz:Nat}{t:Trace}(h:TI n OA u KB sz t)(hc:ClosedAt t n c){y:MemOp}(p:y.g=0)(C:y.act=.recvClosed c):KnownAll (t++ #[y]):=by
 intro i op x q K J;obtain⟨I,d⟩|⟨_,G⟩:=getElem?_append_cases q;obtain k|⟨k,_⟩:=h.j1 i op x d K J;exact k.app _;obtain⟨pc,l,o,w,z,A,B⟩:=hc;have j:=lt_size_of_getElem? o;have H:=B i op d k;have r:(t++ #[y])[t.size]?=xk y:=Z1;have f:(t++ #[y])[pc]?=xk l:=by rw[getElem?_append_old j];exact o
 have a:HappensBefore (t++ #[y]) pc t.size:=.single (.inr ⟨.closed (c:=c) (by rw[act?_of f,z]) (by rw[act?_of r,C]),(heard_old j).2 A,Fd (by rw[p];exact h.hears 0)⟩);have D:Before (t++ #[y]) i pc:=by
  by_cases F:i=pc;exact .inl F;exact .inr (hb_po Z0 q f (k.trans w.symm))
 exact⟨t.size,y,r,p,.inr (D.hb a)⟩;grind [knows_own]
theorem AH{g:Nat}{fn:Zo}{pos:String}{es:Zb}:∀op∈MemOp.ofEvents g fn pos es,op.g=g:=λop a=>by
 rw[ofEvents_eq]at a;grind
section
variable {P:Z5}{n c:Nat}{KA KB OA0:Z3}{w0:Z4}{StopA:(Nat->Prop)->Goroutine->World->Prop}
def Up(P:Z5)(n c:Nat)(KA KB OA0:Z3)(w0:Z4)(StopA:(Nat->Prop)->Goroutine->World->Prop)(gs:Zc)(w:Z4)(t:Trace):Prop:=
 ∃a d f q,gs[0]?=xk a/\gs.size=n+1/\StopA d a w/\Cfg P n c KA KB OA0 w0 d f gs w t q/\YG P gs.size gs q/\KnownAll t
structure Ph (P:Program) (n c:Nat) (KA KB OA0:Nat->Prop) (w0:World) (StopA:(Nat->Prop)->Goroutine->World->Prop) (es:List Ev) (OA:Nat->Prop) (a:Goroutine) (wA:World):Prop where
 opn:∀vs z OB b gs w sl t q s r tm,es=vs.map .recv++[.closed z]->Cfg P n c KA KB OA0 w0 OA OB gs w t q->gs.size=n+1->gs[0]?=xk a->gs[n]?=xk b->Rely KA OA wA w->BSit P c KB vs OB b w->
  w.heap[c]?=xk (.chan 0 #[] xh s r tm)->Win P (Up P n c KA KB OA0 w0 StopA) gs w sl t
 sht:∀z OB gs w sl t q s r tm,es=[.closed z]->Cfg P n c KA KB OA0 w0 OA OB gs w t q->YG P gs.size gs q->gs.size=n+1->gs[0]?=xk a->Rely KA OA wA w->
  w.heap[c]?=xk (.chan 0 #[] xy s r tm)->ClosedAt t n c->Win P (Up P n c KA KB OA0 w0 StopA) gs w sl t
 fin:∀OB gs w sl t q,es=[]->Cfg P n c KA KB OA0 w0 OA OB gs w t q->YG P gs.size gs q->gs.size=n+1->gs[0]?=xk a->Rely KA OA wA w->KnownAll t->Win P (Up P n c KA KB OA0 w0 StopA) gs w sl t
theorem C5{Final:Zm}{OA D:Z3}{gs:Zc}{a:Zi}{w:Z4}{sl:Option (Nat×Nat)}{t:Trace}{q:Zk}(K:Cfg P n c KA KB OA0 w0 OA D gs w t q)(N:YG P gs.size gs q)(O:gs.size=n+1)(G:gs[0]?=xk a)(L:a.status=.running)
  (H:∀f d h k,Cfg P n c KA KB OA0 w0 OA D f (w.at d) t k->YG P f.size f k->f.size=n+1->f[0]?=xk a->∃l w1 u r,runT P (crowd f (w.at d) h) 0=(.next (crowd l w1 u),r)/\Win P Final l w1 u (t++r)):Win P Final gs w sl t:=by
 have B:∀(f:Zc) g,f[f.size]? ≠xk g:=λf g e=>by
  simp_all
 refine skip N (λi g y R=> ?_) ⟨0,a,.inl rfl,G,L⟩ λf d h k i g p C z y M F=> ?_;obtain rfl|rfl:=y;simp_all[awake_of,woken_run];simp_all;obtain rfl|rfl:=y;have o:YG P f.size f k:=by rw[p];exact z
 have A:YG P n f k:=λj x I Q J=>o j x I ZcJ J;exact H f d h k (K.at d A) o Z0 ZcK;simp_all
theorem Z4B{es:ZcH}{OA:Z3}{a:Zi}{wA:Z4}(h:Play P xy c KA StopA es OA a wA):Ph P n c KA KB OA0 w0 StopA es OA a wA:=by
 induction h with
 | @stop OA g wA h=>
   refine⟨λvs z _ _ _ _ _ _ _ _ _ _ N=> ?_,λz _ _ _ _ _ _ _ _ _ N=> ?_,λA gs w sl t q _ l hl o H I hk=> ?_⟩;simp_all;cases N;exact Win.now ⟨g,OA,A,q,H,o,h w I,l,hl,hk⟩
 | @ev e es OA J cs wA b1 hk ih=>
   have SH:∀a2:Zi,a2.frame=J->a2.callers=cs->a2.dying=xw->a2.status=.running->∀z,e=.closed z->es=[]->∀A gs w sl t q s r C,Cfg P n c KA KB OA0 w0 OA A gs w t q->YG P gs.size gs q->gs.size=n+1->gs[0]?=xk a2->Rely KA OA wA w->
     w.heap[c]?=xk (.chan 0 #[] xy s r C)->ClosedAt t n c->Win P (Up P n c KA KB OA0 w0 StopA) gs w sl t:=by
    intro a2 e1 e2 e3 e4 z N c7 A gs w sl t q s r C l hl o H I f U;subst N;refine C5 l hl o H e4 λK d Y q' Q M a4 L=> ?_;have d0:stepG P xy a2 (w.at d)=.comm (G J cs) #[rcase c z] xy (.recv xy) (w.at d) #[]:=by
     rw[stepG_same (h:=G J cs) e1 e2 e3];exact E6 b1 _
    obtain⟨op,X,ha,a0⟩:=Z33 (sl:=Y) M L d0 f (λx _ hx=>ZcK);refine⟨_,_,_,_,a0,?_⟩;have c8:YG P (K.setIfInBounds 0 (G (Xq (.closed z) J) cs)).size (K.setIfInBounds 0 (G (Xq (.closed z) J) cs)) q':=by
     rw[ZfY];exact TO M 0 (.inl rfl) _
    exact(ih (w.at d) (I.trans (Rely.at _ _ _ d))).fin A _ _ _ _ q' c7 (Q.same (TO Q.lv 0 (.inl rfl) _) _ (λx hx=>by simp_all[MemAct.touch?])) c8 ZcK (Ul L) (.refl _ _ _)
     (Z2H Q.ti U X ha)
   refine⟨?_,λz A gs w sl t q s r C N l hl o H I f U=> ?_,λ_ _ _ _ _ _ N=>by cases N⟩
   .intro vs z A b gs w sl t q s r C N l o H T I hB f;have a1:n≠0:=by have:=l.n0;omega
    obtain⟨zz,b9⟩:∃zz,∀w,stepG P xy (G J cs) w=.comm (G J cs) #[rcase c zz] xy (.recv xy) w #[]:=by
     obtain _|⟨v,vs⟩:=vs;injection N with h1 h2;subst h1;exact⟨z,E6 b1⟩;injection N with h1 h2;subst h1;exact Z5F b1
    have b0:∀v p z,e::es=(v::p).map .recv++[.closed z]->e=.recv v/\es=p.map .recv++[.closed z]:=λv p z h=>ZcJ
    have MB:∀v p A F B zb gs w sl t q s r C,e::es=(v::p).map .recv++[.closed z]->Cfg P n c KA KB OA0 w0 OA A gs w t q->gs.size=n+1->gs[0]?=xk (G J cs)->gs[n]?=xk (parked (G F B) #[scase c v zb] .send)->Rely KA OA wA w->
      Play P xh c KB (Uo P c) (p.map .send) A (G (Xq (.send v) F) B) w->w.heap[c]?=xk (.chan 0 #[] xh s r C)->Win P (Up P n c KA KB OA0 w0 StopA) gs w sl t:=by
     intro v p A F B zb gs w sl t q s r C N l o H T I D f;refine skip l.lv (λi g hi X=> ?_) ⟨0,_,.inl rfl,H,rfl⟩ λK d Y q' i g a4 a3 M hi a6 a0=> ?_;by_cases h:i=0;subst h;rw[H]at X;cases X;exact⟨awake_of (.inl rfl),λg1 g2 d=>woken_run rfl⟩;obtain rfl:=hi.resolve_left h;rw[T]at X;cases X;exact⟨awake_of (.inr (.inl rfl)),λg1 g2 d=>woken_send_open g1 g2 (w:=w.at d) f⟩;have L:K[0]?=xk (G J cs):=ZcK;have a7:K[n]?=xk (parked (G F B) #[scase c v zb] .send):=by rw[a3 n (.inr rfl)];exact T
     by_cases h:i=0;subst h;obtain⟨u,hu,j⟩:=Z34 (sl:=Y) a1 M L (b9 (w.at d)) f a7;refine⟨_,_,_,_,j,?_⟩;obtain⟨b3,b4⟩:=b0 v p z N;subst b3
     refine(ih (w.at d) (I.trans (Rely.at _ _ _ d))).opn p z A _ _ _ _ _ q' (s+1) (r+1) C b4 ((l.at d M).chan _ (TO (TO M n (.inr rfl) _) 0 (.inl rfl) _) u hu) ZcJ (Ul (y:=G J cs) ZcJ) ZcJ
      (JE _ _ _ l.ca l.cka) (.run (D.rely ((Rely.at _ _ _ d).trans (JE _ _ _ l.cb l.ckb)))) (qX (ZdM.1 f).1)
     obtain rfl:=hi.resolve_left h;rw[a7]at a6;cases a6;cases a0
    have PK:=jP (P:=P) (n:=n) (c:=c) (KA:=KA) (KB:=KB) (OA0:=OA0) (w0:=w0) (Final:=Up P n c KA KB OA0 w0 StopA) (OA:=OA) (a:=parked (G J cs) #[rcase c zz] (.recv xy)) (R:=λvs=>e::es=vs.map .recv++[.closed z]) (Ra:=λw=>Rely KA OA wA w)
     (λw W h k=>k.trans h) ⟨awake_of (.inr (.inl rfl)),λw s r C g1 g2 hc=>woken_recv_open g1 g2 hc⟩ (λh=>ZcZ)
     (λA b b2 gs w sl t q s r C l hl o b7 b5 b6 H I f hR U=>by
      injection hR with h1 h2;refine SH _ ?_ ?_ ?_ ?_ z h1 h2 A gs w sl t q s r C l hl o H I f U;all_goals
       have hw:woken P b b2 w (parked (G J cs) #[rcase c zz] (.recv xy))= {parked (G J cs) #[rcase c zz] (.recv xy)with status:=.running}:=by
        unfold woken;rw[if_pos (by simp[b7,b5,b6])];exact again_recv_closed f
       first|(rw[hw];done)|(rw[hw];rfl))
     (λv p A F B gs w sl t q s r C l o H T I f hR Z D=>by
      obtain⟨zb,S⟩:=BV (main:=xh) (cs:=B) Z;obtain⟨u,hu,j⟩:=Z36 (sl:=sl) a1 l.lv T (S w) f H;refine⟨_,_,_,_,j,?_⟩;obtain⟨b3,b4⟩:=b0 v p z hR;subst b3
      exact(ih w I).opn p z A _ _ _ _ _ q (s+1) (r+1) C b4 (l.chan _ (TO (TO l.lv 0 (.inl rfl) _) n (.inr rfl) _) u hu) (by simp[o]) ZcJ (Ul (y:=G F B) ZcJ)
       (JE _ _ _ l.ca l.cka) (.run (D _ (JE _ _ _ l.cb l.ckb))) (qX (ZdM.1 f).1))
    have RN:=jP (P:=P) (n:=n) (c:=c) (KA:=KA) (KB:=KB) (OA0:=OA0) (w0:=w0) (Final:=Up P n c KA KB OA0 w0 StopA) (OA:=OA) (a:=G J cs) (R:=λvs=>e::es=vs.map .recv++[.closed z]) (Ra:=λw=>Rely KA OA wA w)
     (λw W h k=>k.trans h) ⟨awake_of (.inl rfl),λw s r C g1 g2 hc=>woken_run rfl⟩
     (λ_ p A b gs w sl t q s r C l o H T I f hR D=>by
      have d5:=D.running qF;have j:=Z35 (sl:=sl) l.lv H (b9 w) f (λx _ hx=>ZcJ);refine⟨_,_,_,_,j,?_⟩;rw[Zez];have:=l.same (TO l.lv 0 (.inl rfl) (parked (G J cs) #[rcase c zz] (.recv xy))) #[] Z1;rw[Zez]at this;exact PK p A b w D _ _ _ _ q s r C this ZcJ (Ul H) ZcJ I (.refl _ _ _) f hR)
     (λA b b2 gs w sl t q s r C l hl o b7 b5 b6 H I f hR U=>by
      injection hR with h1 h2;rw[woken_run (b:=G J cs) rfl]at H;exact SH _ rfl rfl rfl rfl z h1 h2 A gs w sl t q s r C l hl o H I f U)
     (λv p A F B gs w sl t q s r C l o H T I f hR Z D=>by
      obtain⟨zb,S⟩:=BV (main:=xh) (cs:=B) Z;have j:=Gv (sl:=sl) a1 l.lv T (S w) f (λx hx=>by grind [G]);refine⟨_,_,_,_,j,?_⟩;rw[Zez];have:=l.same (TO l.lv n (.inr rfl) (parked (G F B) #[scase c v zb] .send)) #[] Z1;rw[Zez]at this;exact MB v p A F B zb _ w sl t q s r C hR this ZcJ ZcJ (Ul T) I (D w (.refl _ _ _)) f)
    cases hB with
    |run D=>exact RN vs A b w D gs w sl t q s r C l o H T I (.refl _ _ _) f N
    | @park v p O F B zb w D=>grind
   injection N with h1 h2;exact SH _ rfl rfl rfl rfl z h1 h2 A gs w sl t q s r C l hl o H I f U
 | @step es OA J cs wA h1 h2 ih=>
   have own:∀A gs w sl t q,Cfg P n c KA KB OA0 w0 OA A gs w t q->gs[0]?=xk (G J cs)->Rely KA OA wA w->∃g' W a5,Guar KA OA w W a5/\Ph P n c KA KB OA0 w0 StopA es (WW OA w W) g' W/\
     runT P (crowd gs w sl) 0=(.next (crowd ((gs.map (woken P (G J cs) g' W)).setIfInBounds 0 g') W sl),MemOp.ofEvents 0 (G J cs).frame.fn (G J cs).frame.place a5):=λA gs w sl t q l H I=>by
    grind [runT_crowd_go]
   have SH:∀z A gs w sl t q s r C,es=[.closed z]->Cfg P n c KA KB OA0 w0 OA A gs w t q->YG P gs.size gs q->gs.size=n+1->gs[0]?=xk (G J cs)->Rely KA OA wA w->w.heap[c]?=xk (.chan 0 #[] xy s r C)->ClosedAt t n c->Win P (Up P n c KA KB OA0 w0 StopA) gs w sl t:=by
    intro z A gs w sl t q s r C N l hl o H I f U;refine C5 l hl o H rfl λK d Y q' Q M a4 L=> ?_;obtain⟨g',W,a5,X,a8,j⟩:=own A K (w.at d) Y t q' Q L (I.trans (Rely.at _ _ _ d));refine⟨_,_,_,_,j,?_⟩;have a1:n≠0:=by have:=l.n0;omega
    refine a8.sht z A _ W _ _ q' s r C N (Q.mainGo X (SB Q.lv 0 (.inl rfl) _ _ _ _) _ _) ?_ ZcK (Ul (by rw[Zeg,L];rfl)) (.refl _ _ _) ?_ (U.app _ λop c9=>by rw[AH op c9];omega);rw[ZfY,Zhi];exact SB M 0 (.inl rfl) _ _ _ _;rw[X.keep c (ZdM.1 f).1 l.ca];exact f
   refine⟨?_,SH,λA gs w sl t q N l hl o H I hk=> ?_⟩;intro vs z A b gs w sl t q s r C N l o H T I hB f;have a1:n≠0:=by have:=l.n0;omega
   have move:∀vs A b gs w sl t q s r C,es=vs.map .recv++[.closed z]->Cfg P n c KA KB OA0 w0 OA A gs w t q->gs.size=n+1->gs[0]?=xk (G J cs)->gs[n]?=xk b->(∀g1 g2 W,W.heap[c]?=xk (.chan 0 #[] xh s r C)->woken P g1 g2 W b=b)->Rely KA OA wA w->BSit P c KB vs A b w->
     w.heap[c]?=xk (.chan 0 #[] xh s r C)->∃b8 w1 c1 c0,runT P (crowd gs w sl) 0=(.next (crowd b8 w1 c1),c0)/\Win P (Up P n c KA KB OA0 w0 StopA) b8 w1 c1 (t++c0):=by
    intro vs A b gs w sl t q s r C N l o H T c5 I hB f;obtain⟨g',W,a5,X,a8,j⟩:=own A gs w sl t q l H I;refine⟨_,_,_,_,j,?_⟩;have a9:W.heap[c]?=xk (.chan 0 #[] xh s r C):=by
     rw[X.keep c (ZdM.1 f).1 l.ca];exact f
    refine a8.opn vs z A b _ W _ _ q s r C N (l.mainGo X (SB l.lv 0 (.inl rfl) _ _ _ _) _ _) ZcJ (Ul (by rw[Zeg,H];rfl)) ?_ (.refl _ _ _) (hB.rely (l.relyB X)) a9;rw[BX (ZfK a1),Zeg,T];simp only[Ze4];rw[c5 _ _ W a9]
   have MB:∀v p A F B zb gs w sl t q s r C,es=(v::p).map .recv++[.closed z]->Cfg P n c KA KB OA0 w0 OA A gs w t q->gs.size=n+1->gs[0]?=xk (G J cs)->gs[n]?=xk (parked (G F B) #[scase c v zb] .send)->Rely KA OA wA w->
     Play P xh c KB (Uo P c) (p.map .send) A (G (Xq (.send v) F) B) w->w.heap[c]?=xk (.chan 0 #[] xh s r C)->Win P (Up P n c KA KB OA0 w0 StopA) gs w sl t:=by
    intro v p A F B zb gs w sl t q s r C N l o H T I D f;refine skip l.lv (λi g hi X=> ?_) ⟨0,_,.inl rfl,H,rfl⟩ λK d Y q' i g a4 a3 M hi a6 a0=> ?_;by_cases h:i=0;subst h;rw[H]at X;cases X;exact⟨awake_of (.inl rfl),λg1 g2 d=>woken_run rfl⟩;obtain rfl:=hi.resolve_left h;rw[T]at X;cases X;exact⟨awake_of (.inr (.inl rfl)),λg1 g2 d=>woken_send_open g1 g2 (w:=w.at d) f⟩;have L:K[0]?=xk (G J cs):=ZcK;have a7:K[n]?=xk (parked (G F B) #[scase c v zb] .send):=by rw[a3 n (.inr rfl)];exact T
    by_cases h:i=0;subst h;exact move (v::p) A _ K (w.at d) Y t q' s r C N (l.at d M) Z0 L a7 (λg1 g2 W c6=>woken_send_open g1 g2 c6) (I.trans (Rely.at _ _ _ d)) (.park (D.rely (Rely.at _ _ _ d))) f;obtain rfl:=hi.resolve_left h;rw[a7]at a6;cases a6;cases a0
   have RN:=jP (P:=P) (n:=n) (c:=c) (KA:=KA) (KB:=KB) (OA0:=OA0) (w0:=w0) (Final:=Up P n c KA KB OA0 w0 StopA) (OA:=OA) (a:=G J cs) (R:=λvs=>es=vs.map .recv++[.closed z]) (Ra:=λw=>Rely KA OA wA w)
    (λw W h k=>k.trans h) ⟨awake_of (.inl rfl),λw s r C g1 g2 hc=>woken_run rfl⟩
    (λ_ p A b gs w sl t q s r C l o H T I f hR D=>move p A b gs w sl t q s r C hR l o H T (λg1 g2 W _=>woken_run (D.running qF)) I (.run D) f)
    (λA b b2 gs w sl t q s r C l hl o b7 b5 b6 H I f hR U=>by
     rw[woken_run (b:=G J cs) rfl]at H;grind)
    (λv p A F B gs w sl t q s r C l o H T I f hR Z D=>by
     obtain⟨zb,S⟩:=BV (main:=xh) (cs:=B) Z;have j:=Gv (sl:=sl) a1 l.lv T (S w) f (λx hx=>by grind [G]);refine⟨_,_,_,_,j,?_⟩;rw[Zez];have:=l.same (TO l.lv n (.inr rfl) (parked (G F B) #[scase c v zb] .send)) #[] Z1;rw[Zez]at this;exact MB v p A F B zb _ w sl t q s r C hR this ZcJ ZcJ (Ul T) I (D w (.refl _ _ _)) f)
   cases hB with
   |run D=>exact RN vs A b w D gs w sl t q s r C l o H T I (.refl _ _ _) f N
   | @park v p O F B zb w D=>grind
   refine C5 l hl o H rfl λK d Y q' Q M a4 L=> ?_;obtain⟨g',W,a5,X,a8,j⟩:=own A K (w.at d) Y t q' Q L (I.trans (Rely.at _ _ _ d));refine⟨_,_,_,_,j,?_⟩;refine a8.fin A _ W _ _ q' N (Q.mainGo X (SB Q.lv 0 (.inl rfl) _ _ _ _) _ _) ?_ ZcK (Ul (by rw[Zeg,L];rfl)) (.refl _ _ _) (hk.app0 AH);rw[ZfY,Zhi];exact SB M 0 (.inl rfl) _ _ _ _
end
end
end Vm
end
section
namespace Vm
open Go Go.Conc
class inductive Calm {α:Type}:Sem α->Prop where
 |pure (a:α):Calm (.pure a)
 |halt (h:Halt):Calm (.halt h)
 |load {m:Mode} {a:Addr} {k:Value->Sem α}:(∀v,Calm (k v))->Calm (.load m a k)
 |store {m:Mode} {a:Addr} {v:Ze} {k:Sem α}:Calm k->Calm (.store m a v k)
 |new {o:Obj} {k:Nat->Sem α}:(∀r,Calm (k r))->Calm (.new o k)
 |shape {r:Nat} {k:Option (TypeId×Nat)->Sem α}:(∀x,Calm (k x))->Calm (.shape r k)
 |freeze {a:Addr} {n:Nat} {k:Sem α}:Calm k->Calm (.freeze a n k)
 |frozen {a:Addr} {k:Bool->Sem α}:(∀x,Calm (k x))->Calm (.frozen a k)
 |getObj {r:Nat} {k:Obj->Sem α}:(∀o,Calm (k o))->Calm (.getObj r k)
 |setObj {r:Nat} {o:Obj} {k:Sem α}:Calm k->Calm (.setObj r o k)
 |choose {q:Question} {k:Nat->Sem α}:(∀n,Calm (k n))->Calm (.choose q k)
 |sys {c:Sys} {k:SysRet->Sem α}:(∀r,Calm (k r))->Calm (.sys c k)
 |prog {k:Program->Sem α}:(∀p,Calm (k p))->Calm (.program k)
 |room {k:Sem α}:Calm k->Calm (.mark .noRoom k)
theorem Calm.bind{α β:Type}{s:Sem α}{f:α->Sem β}(h:Calm s)(g:∀a,Calm (f a)):Calm (s>>=f):=by
 show Calm (s.bind f);induction h with
 |pure a=>exact g a
 |halt h=>exact .halt h
 |load _ d=>exact .load d
 |store _ d=>exact .store d
 |new _ d=>exact .new d
 |shape _ d=>exact .shape d
 |freeze _ d=>exact .freeze d
 |frozen _ d=>exact .frozen d
 |getObj _ d=>exact .getObj d
 |setObj _ d=>exact .setObj d
 |choose _ d=>exact .choose d
 |sys _ d=>exact .sys d
 |prog _ d=>exact .prog d
 |room _ d=>exact .room d
theorem Calm.map{α β:Type}{s:Sem α}{f:α->β}(h:Calm s):Calm (f<$>s):=by
 rw[ZhB];exact h.bind λa=>.pure _
theorem DT{α β:Type}{f:α->Sem β}(d:∀a,Calm (f a)):∀l:List α,Calm (l.mapM f)
 | []=>by simp only[ZgZ];exact .pure _
 |a::l=>by
  simp only[Zg5];exact(d a).bind λb=>(DT d l).bind λg=>.pure _
theorem qN{α β:Type}{f:α->β->Sem (ForInStep β)}(d:∀a b,Calm (f a b)):∀(l:List α) (b:β),Calm (forIn l b f)
 | [],b=>by simp only[List.forIn_nil];exact .pure _
 |a::l,b=>by
  rw[List.forIn_cons];refine(d a b).bind λx=> ?_;cases x with
  |done b=>exact .pure _
  |yield b=>exact qN d l b
theorem Z02{α β:Type}{f:α->β->Sem (ForInStep β)}(d:∀a b,Calm (f a b))(l:Array α)(b:β):Calm (forIn l b f):=by
 rw[<-Array.forIn_toList];exact qN d _ _
theorem Z03{β:Type}{f:Nat->β->Sem (ForInStep β)}(d:∀a b,Calm (f a b))(r:Std.Legacy.Range)(b:β):Calm (forIn r b f):=by
 rw[Std.Legacy.Range.forIn_eq_forIn_range'];exact qN d _ _
theorem DS{α β:Type}{f:α->Sem β}(d:∀a,Calm (f a))(l:Array α):Calm (l.mapM f):=by
 rw[Zff];exact(DT d _).map
theorem qM{α β:Type}{f:β->α->Sem β}(d:∀b a,Calm (f b a)):∀(l:List α) (b:β),Calm (l.foldlM f b)
 | [],b=>.pure _
 |a::l,b=>by
  rw[List.foldlM_cons];exact(d b a).bind λb=>qM d l b
theorem Z04{α:Type}{c:Prop} [Decidable c]{a b:Sem α}(h:Calm a)(k:Calm b):Calm (if c then a else b):=by
 split;exact h;exact k
theorem ZG{α:Type}{s:Sem α}(h:Calm s:=by repeat' first|infer_instance|(with_reducible refine .bind ?_ λ_=> ?_)|(intro _)|(with_reducible refine DS (λ_=> ?_) _)|(with_reducible refine Z02 (λ_ _=> ?_) _ _)|(with_reducible refine Z03 (λ_ _=> ?_) _ _)|(with_reducible refine Calm.map ?_)|(with_reducible refine Z04 ?_ ?_)|split|dsimp only):Calm s:=h
instance calm_pure {α:Type} (a:α):Calm (pure a:Sem α):=.pure a
instance calm_load (a:Addr) (m:Mode):Calm (load a m):=.load λv=>.pure v
instance calm_store (a:Addr) (v:Ze) (m:Mode):Calm (store a v m):=.store (.pure ())
instance calm_new (o:Obj):Calm (newObj o):=.new λr=>.pure r
instance calm_shape (r:Nat):Calm (shape r):=.shape λr=>.pure r
instance calm_freeze (a:Addr) (n:Nat):Calm (freeze a n):=.freeze (.pure ())
instance calm_frozen (a:Addr):Calm (frozen a):=.frozen λr=>.pure r
instance calm_get (r:Nat):Calm (getObj r):=.getObj λo=>.pure o
instance calm_set (r:Nat) (o:Obj):Calm (setObj r o):=.setObj (.pure ())
instance calm_choose (q:Question):Calm (choose q):=.choose λn=>.pure n
instance calm_sys (c:Sys):Calm (sys c):=.sys λr=>.pure r
instance calm_prog:Calm program:=.prog λp=>.pure p
instance calm_room:Calm (mark .noRoom):=.room (.pure ())
instance calm_stuck {α:Type} (s:String):Calm (stuck s:Sem α):=.halt _
instance calm_unsup {α:Type} (u:Unsupported):Calm (unsupported u:Sem α):=.halt _
instance calm_panic {α:Type} (v:Ze):Calm (goPanic v:Sem α):=.halt _
instance calm_askRoom (n):Calm (askRoom n):=by
 unfold askRoom;exact ZG
instance calm_viewAt (r):Calm (viewAt r):=by
 unfold viewAt;exact ZG
instance calm_numberAt (r):Calm (numberAt r):=by
 unfold numberAt;exact ZG
instance calm_noView (a):Calm (noView a):=by
 unfold noView;exact ZG
instance calm_asNumber (a l):Calm (asNumber a l):=by
 unfold asNumber;exact ZG
instance calm_behind (a):Calm (behindNumber a):=by
 unfold behindNumber;exact ZG
instance calm_stringish (a):Calm (stringish a):=by
 unfold stringish;exact ZG
instance calm_mayBeOne (a b):Calm (mayBeOne a b):=by
 unfold mayBeOne;exact ZG
instance calm_sameAddr (a b):Calm (sameAddr a b):=by
 unfold sameAddr;exact ZG
instance calm_samePointer (a b):Calm (samePointer a b):=by
 unfold samePointer;exact ZG
instance calm_typeInfo (t):Calm (typeInfo t):=by
 unfold typeInfo;exact ZG
instance calm_underlying (t):Calm (underlying t):=by
 unfold underlying;exact ZG
instance calm_typeStr (t):Calm (typeStr t):=by
 unfold typeStr;exact ZG
instance calm_zeroValue (t):Calm (zeroValue t):=by
 unfold zeroValue;exact ZG
instance calm_sizeOf (t):Calm (Go.sizeOf t):=by
 unfold Go.sizeOf;exact ZG
instance calm_isAgg (t):Calm (isAgg t):=by
 unfold isAgg;exact ZG
instance calm_loadFrom (a:Addr):∀(n i:Nat) (d:Za),Calm (loadCellsFrom a i n d)
 |0,_,_=>.pure _
 |n+1,i,d=>(calm_load _ _).bind λv=>calm_loadFrom a n _ _
instance calm_loadCells (a n):Calm (loadCells a n):=by
 unfold loadCells;exact ZG
instance calm_storeCells (a:Addr):∀(vs:Zl) (i:Nat),Calm (storeCells a vs i)
 | [],_=>.pure _
 |v::vs,i=>(calm_store _ _ _).bind λ_=>calm_storeCells a vs _
instance calm_loadVar (t a):Calm (loadVar t a):=by
 unfold loadVar;exact ZG
instance calm_storeVar (t a v):Calm (storeVar t a v):=by
 unfold storeVar;exact ZG
instance calm_newRow (t cs):Calm (newRow t cs):=by
 unfold newRow;exact ZG
instance calm_newVar (t v):Calm (newVar t v):=by
 unfold newVar;exact ZG
instance calm_elemOf (t):Calm (elemOf t):=by
 unfold elemOf;exact ZG
instance calm_part (t cs n):Calm (part t cs n):=by
 unfold part;exact ZG
instance calm_rtPanic {α:Type} (e):Calm (runtimePanic e:Sem α):=by
 unfold runtimePanic;exact ZG
instance calm_bounds {α:Type} (k:Zs) (x y:Int) (c:BoundsCode):Calm (boundsPanic k x y c:Sem α):=by
 unfold boundsPanic;dsimp only;split;exact .bind (calm_choose _).map λ_=>calm_rtPanic _;exact .bind (.pure _) λ_=>calm_rtPanic _
instance calm_asIntOf (v):Calm (asIntOf v):=by
 unfold asIntOf;exact ZG
instance calm_asInt (v):Calm (asInt v):=by
 unfold asInt;exact ZG
instance calm_asBool (v):Calm (asBool v):=by
 unfold asBool;exact ZG
instance calm_asAgg (v):Calm (asAgg v):=by
 unfold asAgg;exact ZG
instance calm_asAddr (v):Calm (asAddr v):=by
 unfold asAddr;exact ZG
instance calm_sureAddr (v):Calm (Instr.sureAddr v):=by
 unfold Instr.sureAddr;exact ZG
instance calm_byteOf (a):Calm (byteOf a):=by
 unfold byteOf;exact ZG
instance calm_partAt (a c b):Calm (partAt a c b):=by
 unfold partAt;exact ZG
instance calm_fieldPlace (a f):Calm (fieldPlace a f):=by
 unfold fieldPlace;exact ZG
instance calm_alloc (t b v):Calm (Instr.alloc t b v):=by
 unfold Instr.alloc;exact ZG
instance calm_box (t v):Calm (Instr.box t v):=by
 unfold Instr.box;exact ZG
instance calm_loadAt (t v):Calm (Instr.loadAt t v):=by
 unfold Instr.loadAt;exact ZG
instance calm_storeAt (t v x):Calm (Instr.storeAt t v x):=by
 unfold Instr.storeAt;exact ZG
instance calm_extract (v i):Calm (Instr.extract v i):=by
 unfold Instr.extract;exact ZG
instance calm_makeInterface (t v):Calm (Instr.makeInterface t v):=by
 unfold Instr.makeInterface;exact ZG
instance calm_makeFunc (f a b):Calm (Instr.makeFunc f a b):=by
 unfold Instr.makeFunc;exact ZG
instance calm_makeMap (t r):Calm (Instr.makeMap t r):=by
 unfold Instr.makeMap;exact ZG
instance calm_field (t x f):Calm (Instr.field t x f):=by
 unfold Instr.field;exact ZG
instance calm_index (t x i):Calm (Instr.index t x i):=by
 unfold Instr.index;exact ZG
instance calm_sliceBound (x y c):Calm (Instr.sliceBound x y c):=by
 unfold Instr.sliceBound;exact ZG
instance calm_sliceBounds (b n c l h m):Calm (Instr.sliceBounds b n c l h m):=by
 unfold Instr.sliceBounds;exact ZG
instance calm_fieldAt (t x f):Calm (Instr.fieldAt t x f):=by
 unfold Instr.fieldAt;exact ZG
instance calm_indexAt (t x i):Calm (Instr.indexAt t x i):=by
 unfold Instr.indexAt;exact ZG
instance calm_build (t a):Calm (Instr.build t a):=by
 unfold Instr.build;exact ZG
instance calm_buildSlice (t n a):Calm (Instr.buildSlice t n a):=by
 unfold Instr.buildSlice;exact ZG
instance calm_slice (t x l h m):Calm (Instr.slice t x l h m):=by
 unfold Instr.slice;exact ZG
instance calm_sliceAt (t x l h m):Calm (Instr.sliceAt t x l h m):=by
 unfold Instr.sliceAt;exact ZG
instance calm_makeSlice (t x y):Calm (Instr.makeSlice t x y):=by
 unfold Instr.makeSlice;exact ZG
instance calm_len (ts t aq_):Calm (Builtin.len_ ts t aq_):=by
 unfold Builtin.len_;exact ZG
instance calm_holds (a n):Calm (Builtin.holdsCells a n):=by
 unfold Builtin.holdsCells;exact ZG
instance calm_mayShare (a b n o x):Calm (Builtin.mayShare a b n o x):=by
 unfold Builtin.mayShare;exact ZG
instance calm_lenOf (x):Calm (Builtin.lenOf x):=by
 unfold Builtin.lenOf;exact ZG
instance calm_first (a n x):Calm (Builtin.firstCells a n x):=by
 unfold Builtin.firstCells;exact ZG
instance calm_append (ts t aq_):Calm (Builtin.append_ ts t aq_):=by
 unfold Builtin.append_;exact ZG
instance calm_intArith (op k x y):Calm (Op.intArith op k x y):=by
 unfold Op.intArith;exact ZG
instance calm_intDiv (op k x y):Calm (Op.intDiv op k x y):=by
 unfold Op.intDiv;exact ZG
instance calm_intBits (op k x y):Calm (Op.intBits op k x y):=by
 unfold Op.intBits;exact ZG
instance calm_intCmp (op x y):Calm (Op.intCmp op x y):=by
 unfold Op.intCmp;exact ZG
instance calm_shift (op k k' x y):Calm (Op.shift op k x k' y):=by
 unfold Op.shift;exact ZG
instance calm_fArith (op k x y):Calm (Op.floatArith op k x y):=by
 unfold Op.floatArith;exact ZG
instance calm_fCmp (op k x y):Calm (Op.floatCmp op k x y):=by
 unfold Op.floatCmp;exact ZG
instance calm_strOp (op x y):Calm (Op.stringOp op x y):=by
 unfold Op.stringOp;exact ZG
instance calm_unary (op x):Calm (Op.unary op x):=by
 unfold Op.unary;exact ZG
instance calm_cArith (op k x y):Calm (Op.Complex.arith op k x y):=by
 unfold Op.Complex.arith;exact ZG
instance calm_cCmp (op k x y):Calm (Op.Complex.cmp op k x y):=by
 unfold Op.Complex.cmp;exact ZG
instance calm_f2f (s x d):Calm (Conv.floatToFloat s x d):=by
 unfold Conv.floatToFloat;exact ZG
instance calm_cConv (s x d):Calm (Op.Complex.conv s x d):=by
 unfold Op.Complex.conv;exact ZG
instance calm_cadd (x y:Nat):Calm (Op.Complex.add x y):=calm_cArith ..
instance calm_csub (x y:Nat):Calm (Op.Complex.sub x y):=calm_cArith ..
instance calm_cmul (x y:Nat):Calm (Op.Complex.mul x y):=calm_cArith ..
instance calm_cquo (x y:Nat):Calm (Op.Complex.quo x y):=calm_cArith ..
instance calm_product (a b c d):Calm (Op.Complex.product a b c d):=by
 unfold Op.Complex.product;exact ZG
instance calm_corrected (s a b c d):Calm (Op.Complex.corrected s a b c d):=by
 unfold Op.Complex.corrected;exact ZG
instance calm_quotient (a b c d):Calm (Op.Complex.quotient a b c d):=by
 unfold Op.Complex.quotient;exact ZG
instance calm_complexOp (op k a b c d):Calm (Op.complexOp op k a b c d):=by
 unfold Op.complexOp;exact ZG
instance calm_unsafeAdd2 (ts:Array TypeId) (t:Zg) (p:Option Addr) (b:Ze):Calm (Builtin.unsafeAdd_ ts t #[.pointer p,b]):=by
 unfold Builtin.unsafeAdd_;refine .bind (calm_asInt b) λn=> ?_;dsimp only;exact ZG
instance calm_unsafeAdd (ts:Array TypeId) (t:Zg) (aq_:Za):Calm (Builtin.unsafeAdd_ ts t aq_):=by
 obtain⟨l⟩:=aq_;obtain _|⟨a,_|⟨b,_|⟨c,r⟩⟩⟩:=l;exact calm_stuck _;exact calm_stuck _;cases a<;>first|exact calm_stuck _|exact calm_unsafeAdd2 ..
 exact calm_stuck _
instance calm_movedN (t x y):Calm (movedNumber t x y):=by
 unfold movedNumber;exact ZG
instance calm_movedP (t x y):Calm (movedPointer t x y):=by
 unfold movedPointer;exact ZG
instance calm_twoPlaces (a b):Calm (Op.twoPlaces a b):=by
 unfold Op.twoPlaces;exact ZG
instance calm_addrSub (k a b):Calm (Op.addrSub k a b):=by
 unfold Op.addrSub;exact ZG
instance calm_addrCmp (op a b):Calm (Op.addrCmp op a b):=by
 unfold Op.addrCmp;exact ZG
instance calm_addrMod (k a n):Calm (Op.addrMod k a n):=by
 unfold Op.addrMod;exact ZG
instance calm_equalIn:∀(n:Nat) (t:Zg) (x y:Ze),Calm (Op.equalIn n t x y)
 |0,_,_,_=>.halt _
 |n+1,t,x,y=>by
  have a:=calm_equalIn n;unfold Op.equalIn;exact ZG
instance calm_guardIn:∀(n:Nat) (t:Zg) (x y:Ze),Calm (Op.eqGuardIn n t x y)
 |0,_,_,_=>.halt _
 |n+1,t,x,y=>by
  have a:=calm_guardIn n;unfold Op.eqGuardIn;exact ZG
instance calm_equal (t x y):Calm (Op.equal t x y):=by
 unfold Op.equal;exact ZG
instance calm_guard (op t x y a b):Calm (eqGuard op t x y a b):=by
 unfold eqGuard;exact ZG
instance calm_binOp (op t x y):Calm (binOp op t x y):=by
 unfold binOp;exact ZG
instance calm_min2 (x y):Calm (Builtin.min2 x y):=by
 unfold Builtin.min2;exact ZG
instance calm_min (ts:Array TypeId) (t:Zg) (aq_:Za):Calm (Builtin.min_ ts t aq_):=by
 unfold Builtin.min_;split;exact .halt _;exact qM calm_min2 _ _
instance calm_max2 (x y):Calm (Builtin.max2 x y):=by
 unfold Builtin.max2;exact ZG
instance calm_max (ts:Array TypeId) (t:Zg) (aq_:Za):Calm (Builtin.max_ ts t aq_):=by
 unfold Builtin.max_;split;exact .halt _;exact qM calm_max2 _ _
def EvB(n:Nat)(e:Event):Prop:=EvC (λ_=>False) (λb=>b<n) e
def EvB.mono{n d:Nat}{e:Event}(h:EvB n e)(a:n<=d):EvB d e:=by
 unfold EvB EvC at*;split<;>simp only[*]at h;exact .inl (ZdS (h.resolve_right λx=>x.2) a);exact ZdS h a;exact h;trivial
def EvB.cell{n:Nat}{a:Addr}(h:a.block<n)(w s:Bool):EvB n ⟨.cell a,w,s⟩:=.inl h
def EvB.obj{n r:Nat}(h:r<n)(w s:Bool):EvB n ⟨.obj r,w,s⟩:=h
def qQ{w:Z4}{a:Addr}{v:Ze}(h:w.cell? a=xk v):a.block<U (R w):=by
 obtain⟨_,c,e,f,d,_⟩:=JB h;exact(ZdM.1 d).1
def ME{p:Z5}{w:Z4}{at_:Addr}{u:Zg}{k:Addr}{b:Bool}{r:Array Value×TypeId×(Nat×Nat)×Nat×Value×List (Nat×Nat×List UInt8)}(h:w.seen p at_ u k b=.ok r):at_.block<U (R w):=by
 obtain a|a:=ZhS at_.block (U (R w));exact a
 .exfalso;have d:w.heap[at_.block]?=xw:=Zg6 a;unfold World.seen at h;simp only[d,bind,Except.bind]at h;repeat' split at h
  all_goals cases h
def Z0J{p:Z5}{w:Z4}{a:Addr}{b:Bool}{v:Ze}{l:List Addr}(h:w.farLoad p a b=.ok (v,l)):∀x∈l,x.block<U (R w):=by
 unfold World.farLoad at h;split at h
 .split at h
  .rename_i at_ u _ r e;cases h;unfold World.viewLoad at e;simp only[bind,Except.bind]at e;split at e;cases e
   .rename_i r f;have d:=ME f;repeat' split at e
    all_goals first|(cases e;done)|skip
    all_goals
     cases e;intro x g;obtain⟨y,_,rfl⟩:=ZdX.1 g;exact d
  cases h
 cases h
def Z0K{p:Z5}{w w':Z4}{a:Addr}{v:Ze}{b:Bool}{l:List Addr}(h:w.farStore p a v b=.ok (w',l)):∀x∈l,x.block<U (R w):=by
 unfold World.farStore at h;split at h
 .split at h
  .rename_i at_ u _ r e;cases h;unfold World.viewStore at e;simp only[bind,Except.bind]at e;split at e;cases e
   .split at e;cases e
    .rename_i r f;have d:=ME f;repeat' split at e
     all_goals first|(cases e;done)|skip
     all_goals
      cases e;intro x g;obtain⟨y,_,rfl⟩:=ZdX.1 g;exact d
  cases h
 cases h
def EvsB(n:Nat)(es:Zb):Prop:=∀e∈es,EvB n e
def EvsB.mono{n a:Nat}{es:Zb}(h:EvsB n es)(f:n<=a):EvsB a es:=λe d=>(h e d).mono f
def EvsB.push{n:Nat}{es:Zb}{e:Event}(h:EvsB n es)(d:EvB n e):EvsB n (es.push e):=λx a=>by
 obtain a|rfl:=ZhV.1 a;exact h x a;exact d
def EvsB.far{n:Nat}{es:Zb}(h:EvsB n es){l:List Addr}(g:∀x∈l,x.block<n)(b s:Bool):EvsB n (es++l.toArray.map (⟨.cell ·,b,s⟩)):=λx d=>by
 obtain d|d:=Zfi.1 d;exact h x d;obtain⟨a,f,rfl⟩:=Zgs.1 d;exact .cell (g a ZcY) _ _
theorem Calm.evs{α:Type}{p:Z5}{s:Sem α}(h:Calm s):∀(w:Z4) (f:Zb),EvsB (U (R w)) f->EvsB (U (R (Y9 (s.run p w)))) (s.runT p w f).2:=by
 induction h with
 |pure a=>intro w f h;exact h
 |halt x=>intro w f h;exact h
 |load _ d=>
  intro w f h;unfold Sem.run Sem.runT;split;rename_i e;exact d _ w _ (h.push (.cell (qQ e) _ _));split;rename_i e;exact d _ w _ (h.far (Z0J e) _ _);exact h
 | @store m a v k _ d=>
   intro w f h;cases v<;>simp only[Sem.run,Sem.runT]<;>first|exact h|skip
   all_goals
    split;rename_i e;split;exact h;refine d _ _ (EvsB.push ?_ (.cell ?_ _ _));rw[Sa];exact h;rw[Sa];exact qQ e;split;rename_i e;have g:=(Eu e).1;refine d _ _ (EvsB.far ?_ ?_ _ _);rw[g];exact h;rw[g];exact Z0K e;exact h
 |new _ d=>intro w f h;exact d _ {w with heap:=w.heap.push _} f (h.mono Z1)
 |shape _ d=>intro w f h;exact d _ w f h
 |freeze _ d=>intro w f h;exact d (w.freeze _ _) f (by rw[(EX _ _ _).1];exact h)
 |frozen _ d=>intro w f h;exact d _ w f h
 |getObj _ d=>
  intro w f h;unfold Sem.run Sem.runT;split;exact h;rename_i e;exact d _ w _ (h.push (.obj (ZdM.1 e).1 _ _));exact h
 | @setObj r o k _ d=>
   intro w f h;unfold Sem.run Sem.runT;split;exact h;rename_i e;have g:U (R ({w with heap:=w.heap.setIfInBounds r o}:World))=U (R w):=Z1;refine d _ _ (EvsB.push ?_ (.obj ?_ _ _));rw[g];exact h;rw[g];exact(ZdM.1 e).1;exact h
 |choose _ d=>
  intro w f h;unfold Sem.run Sem.runT;split;exact d _ w f h;exact d _ {w with drawn:=w.drawn+1} f h
 | @sys c k _ d=>
   intro w f h;have g:=(N6 w c).1;exact d _ (w.sys c).2 _ (EvsB.push (by rw[g];exact h) (show EvB _ _ from True.intro))
 |prog _ d=>intro w f h;exact d _ w f h
 |room _ d=>intro w f h;exact d w _ (h.push (show EvB _ _ from(rfl:Mark.noRoom=Mark.noRoom)))
def Qm(P:Z5):Op->Bool
 |.move _|.assign _|.pick _ _ _|.alloc _|.box _ _|.build _ _|.buildSlice _ _ _|.load _ _|.store _ _ _|.binOp _ _ _ _ _|.unOp _ _ _|.makeInterface _ _|.makeFunc _ _ _|.makeMap _ _
 |.makeSlice _ _ _|.slice _ _ _ _ _|.fieldAddr _ _ _|.field _ _ _|.indexAddr _ _ _|.index _ _ _|.extract _ _=>xy
 | .call c=>match c.callee with
   |.builtin .append|.builtin .len|.builtin .min|.builtin .max=>xy
   | .value (.func f)=>match P.funcs[f]? with
     |some fn=> !(fn.name== "runtime.NumGoroutine")&&fn.body.isSome
     |none=>xh
   |_=>xh
 |_=>xh
def UZ(P:Z5):Code->Bool
 |.region _ a _=>a.all λo=>Qm P o.op
 |.seq x y=>UZ P x&&UZ P y
 |.cond _ x y=>UZ P x&&UZ P y
 |.block _ x|.loop x|.scope x=>UZ P x
 |.skip|.label _|.exit _|.ret=>xy
 |_=>xh
end Vm
end
section
namespace Vm
open Go Go.Conc Go.ConcN
section
theorem We{s:Sem Value}(h:Calm s):Calm (do pure (.value (<-s)):Sem Next):=h.bind λ_=>.pure _
theorem Z06{s:Sem Unit}(h:Calm s):Calm (do s;pure .skip:Sem Next):=h.bind λ_=>.pure _
theorem LM{α:Type}{P:Z5}{s:Sem α}(h:Calm s)(w:Z4):EvsB (U (R (Y9 (s.run P w)))) (s.events P w #[]):=h.evs w #[] λe a=>by simp at a
def En{P:Z5}{o:Oper}(h:Qm P o.op=xy)(a:Act)(w:Z4):EvsB (U (R (Y9 ((execOp a.eval o).run P w)))) ((execOp a.eval o).events P w #[]):=by
 cases d:o.op with
 |call c=>
  obtain⟨callee,args,g⟩:=c;rw[d]at h;simp only[Qm]at h;split at h
  iterate 4
   refine LM ?_ w;unfold execOp;simp only[d,resolve,builtin];first|exact We (calm_append ..)|exact We (calm_len ..)|exact We (calm_min ..)|exact We (calm_max ..)
  rename_i f;split at h;rename_i fn k;simp only[ZdJ,ZeH]at h;rw[events_call_body d k h.1 (by cases l:fn.body<;>simp_all)];exactλe j=>by simp at j
  cases h;cases h
 |_=>
  rw[d]at h;first
  |cases h;done
  | (refine LM ?_ w
     unfold execOp;simp only[d];first
     |exact .pure _
     |exact We (calm_alloc ..)
     |exact We (calm_box ..)
     |exact We (calm_build ..)
     |exact We (calm_buildSlice ..)
     |exact We (calm_loadAt ..)
     |exact Z06 (calm_storeAt ..)
     |exact We (.bind (calm_guard ..) λ_=>calm_binOp ..)
     |exact We (calm_unary ..)
     |exact We (calm_makeInterface ..)
     |exact We (calm_makeFunc ..)
     |exact We (calm_makeMap ..)
     |exact We (calm_makeSlice ..)
     |exact We (calm_sliceAt ..)
     |exact We (calm_fieldAt ..)
     |exact We (calm_field ..)
     |exact We (calm_indexAt ..)
     |exact We (calm_index ..)
     |exact We (calm_extract ..)
     |exact .bind (calm_asBool _) λ_=>.pure _)
structure TBt (sz:Nat) (t:Trace):Prop where
 clean:∀said,¬Race said t
 hears:∀i,Deaf t i=0
 low:∀op∈t,A8 sz op
 known:KnownAll t
def TBt.main{sz f:Nat}{t:Trace}(h:TBt sz t)(q:sz<=f){fn:Zo}{pos:String}{es:Zb}(k:EvsB f es):TBt f (t++MemOp.ofEvents 0 fn pos es):=by
 have n:=AH (g:=0) (fn:=fn) (pos:=pos) (es:=es);refine⟨λsaid=>noRace_append (h.clean said) n λi a o op d b j p=> ?_,ja k h.hears,λop d=> ?_,h.known.app0 n⟩;obtain⟨y,u,l⟩:=touch_of o;exact h.known i y a u l p.2.1;obtain d|d:=Zfi.1 d;exactλx b r j=>ZdS (h.low op d x b r j) q;exact jb k (λb j=>j) (λb j=>j.elim) op d
def yP{P:Z5}:∀(N:Nat) {K:Nat} {m a:Machine} {r:Stepped×Trace} {t d:Trace},runNT P N m t=(.next a,d)->runNT P K a d=r->runNT P (N+K) m t=r
 |0,K,m,a,r,t,d,h,k=>by
  simp only[runNT,ZdU,Stepped.next.injEq]at h;obtain⟨rfl,rfl⟩:=h;rw[Zet];exact k
 |N+1,K,m,a,r,t,d,h,k=>by
  rw[show N+1+K=(N+K)+1 by omega];simp only[runNT]at h⊢;rcases f:stepT P m with ⟨e,g⟩;rw[f]at h;cases e with
  |next j=>exact yP N h k
  |ended o w=>cases h
theorem Win.bind{P:Z5}{F j:Zm}{gs:Zc}{w:Z4}{sl:Option (Nat×Nat)}{t:Trace}(h:Win P F gs w sl t)(p:∀gs w sl t,F gs w t->Win P j gs w sl t):Win P j gs w sl t:=by
 obtain⟨N,a,w1,f,q,k,l⟩:=h;obtain⟨K,d,w2,g,r,n,o⟩:=p a w1 f q l;exact⟨N+K,d,w2,g,r,yP N k n,o⟩
def CQ(P:Z5)(Stop:Z7)(gs:Zc)(w:Z4)(t:Trace):Prop:=
 ∃fr cs q,gs[0]?=xk (G fr cs)/\Stop fr cs w/\YG P gs.size gs q/\TBt (U (R w)) t
def Walk(P:Z5)(Stop:Z7)(fr:Zf)(cs:Z6)(w:Z4):Prop:=
 ∀(d:Nat) (gs:Zc) (sl:Option (Nat×Nat)) (t:Trace) (q:Zk),YG P gs.size gs q->gs[0]?=xk (G fr cs)->TBt (U (R w)) t->Win P (CQ P Stop) gs (w.at d) sl t
section
variable {P:Z5}{Stop Stop':Z7}{fr:Zf}{cs:Z6}{w:Z4}
def Walk.stop(h:∀d,Stop fr cs (w.at d)):Walk P Stop fr cs w:=λd gs sl t q f a g=>Win.now ⟨fr,cs,q,a,h d,f,g⟩
theorem Walk.at(h:Walk P Stop fr cs w)(d:Nat):Walk P Stop fr cs (w.at d):=h
theorem Walk.one(h:∀d,∃f a w' es,stepG P xy (G fr cs) (w.at d)=.go (G f a) w' es/\U (R w)<=U (R w')/\EvsB (U (R w')) es/\Walk P Stop f a w'):Walk P Stop fr cs w:=by
 intro N gs sl t q K x L;have k:∀(j:Zc) g,j[j.size]? ≠xk g:=λj g e=>by
  have:=(ZdM.1 e).1;omega
 refine skip K (λi g A z=> ?_) ⟨0,_,.inl rfl,x,rfl⟩ λj d u M i g o l B A n D=> ?_;obtain rfl|rfl:=A;rw[x]at z;cases z;exact⟨awake_of (.inl rfl),λg1 g2 d=>woken_run rfl⟩;exact absurd z (k gs g);obtain rfl|rfl:=A;rw[l 0 (.inl rfl),x]at n;cases n;obtain⟨f,a,w',es,F,H,I,J⟩:=h d;have r:j[0]?=xk (G fr cs):=by rw[l 0 (.inl rfl)];exact x
 have p:=runT_crowd_go (P:=P) (sl:=u) (i:=0) r (w':=w') (g':=G f a) (es:=es) F;refine⟨_,_,_,_,p,?_⟩;have C:((j.map (woken P (G fr cs) (G f a) w')).setIfInBounds 0 (G f a)).size=gs.size:=by simp[o]
 exact J w'.drawn _ u _ M (by rw[C];exact SB B 0 (.inl rfl) _ _ _ _) (Ul (y:=woken P (G fr cs) (G f a) w' (G fr cs)) (by rw[Zeg,r];rfl)) (L.main H I);rw[<-o]at n;exact absurd n (k j g)
def Walk.go{fr':Zf}{a:Z6}(h:∀w,stepG P xy (G fr cs) w=.go (G fr' a) w #[])(k:Walk P Stop fr' a w):Walk P Stop fr cs w:=
 .one λd=>⟨fr',a,w.at d, #[],h _,ZdL _,λe f=>by simp at f,k⟩
end
end
end Vm
end
