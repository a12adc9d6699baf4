import Derived.Conc.CrowdComm
import Derived.Conc.CrowdBase
set_option linter.unusedSimpArgs false
set_option linter.unusedVariables false
set_option linter.defProp false
theorem Z0{p:Prop}(h:p:=by omega):p:=h
theorem Z3L{p:Prop}(h:p:=by grind):p:=h
theorem Z3M{p:Prop}(h:p:=by simp_all):p:=h
theorem Z3N{p:Prop}(h:p:=by simp;omega):p:=h
theorem Z1{p:Prop}(h:p:=by simp):p:=h
theorem Z3V{p:Prop}(h:p:=by cases h):p:=h
theorem Z4p{p:Prop}(h:p:=by simp[Cx.Rv]):p:=h
theorem Z48{p:Prop}(h:p:=by simp[Cx.Rv,ren]):p:=h
theorem Z3U{p:Prop}(h:p:=by unfold actS at hW;rw[hm',ht']at hW;exact hW):p:=h
theorem Z3W{p:Prop}(h:p:=by rcases List.mem_cons.1 h1 with rfl|h1;exact hi;rcases List.mem_cons.1 h1 with rfl|h1;exact hi;exact hk i h1):p:=h
def Z4A:=@Nat.le_refl
def Z4Z:=@Nat.le_trans
def Z4H:=@List.mem_cons
def Z4z:=@Array.getElem?_eq_some_iff
def Z6H:=@Array.getElem?_push
def Z5I:=@Array.getElem?_setIfInBounds
def Z8m:=@Bool.or_true
def Z5b:=@if_true
def Z4K:=@Option.map_some
def Z6Q:=@Option.isSome_none
def Z4G:=@Bool.false_eq_true
def Z5h:=@if_false
def Z6K:=@Ne.symm
def Z4X:=@Array.getElem?_eq_getElem
def Z7D:=@Array.size_push
def Z7U:=@Array.mem_push
def Z6G:=@Nat.add_zero
def Z7u:=@Nat.add_comm
def Z8x:=@Nat.not_lt
def Z7y:=@Go.Sem.run_bind'
def Z6w:=@Go.Sem.runT_bind'
def Z6r:=@Go.Sem.runT_fst
def Z53:=@List.mem_cons_of_mem
def Z4T:=@List.map_cons
def Z7p:=@Array.size_map
def Z4x:=@Bool.and_eq_true
def Z6p:=@Array.all_eq_true'
def Z50:=@Array.getElem?_map
def Z6W:=@Option.map_none
def Z78:=@map_eq_pure_bind
def Z7z:=@List.mapM_nil
def Z6N:=@List.mapM_cons
def Z8c:=@List.zipIdx_cons
def Z6i:=@List.foldl_cons
def Z6P:=@Array.foldl_toList
def Z5C:=@Array.toList_map
def Z5Y:=@Array.mapM_eq_mapM_toList
def Z7c:=@Array.mem_map
def Z8H:=@getElem!_pos
def Z6c:=@Option.some.inj
def Z8G:=@getElem!_neg
def Z54:=@Go.Sem.run_bind
def Z8D:=@Go.run_shape
def Z51:=@Go.Result.andThen_ok
def Z6g:=@Go.run_program
def Z6E:=@Go.Sem.run_pure
def Z4s:=@Option.some.injEq
def Z8j:=@Array.map_empty
def Z58:=@List.mem_cons_self
def Z4W:=@Option.getD_some
def Z5J:=@congrArg
def Z70:=@of_decide_eq_true
def Z7T:=@of_decide_eq_false
def Z6n:=@Array.map_append
def Z8a:=@List.foldlM_cons
def Z7d:=@Bool.not_true
def Z4L:=@Bool.or_eq_true
def Z63:=@List.size_toArray
def Z59:=@beq_iff_eq
def Z4y:=@Array.getD_eq_getD_getElem?
def Z4E:=@Option.bind_some
def Z5x:=@List.mem_singleton
def Z5M:=@List.cons_append
def Z6R:=@Prod.ext
def Z5k:=@Array.append_empty
def Z5t:=@List.not_mem_nil
def Z6u:=@or_false
def Z60:=@Array.mem_append
def Z4C:=@Prod.mk.injEq
def Z69:=@Array.mem_of_getElem?
def Z4R:=@List.mem_append
def Z4F:=@Nat.lt_of_lt_of_le
def Z84:=@Nat.lt_trichotomy
def Z5H:=@Nat.zero_le
def Z6O:=@Array.getElem?_eq_none
def Z8n:=@Go.step_lone_ended
def Z88:=@Go.Machine.mk.injEq
def Z8z:=@Array.mk.injEq
def Z8q:=@List.cons.injEq
def Z7Q:=@Go.step_lone_go
def Z6D:=@List.range_succ
def Z8b:=@List.isEmpty_nil
def Z6v:=@Classical.byContradiction
def Z86:=@Classical.axiomOfChoice
def Z8E:=@Nat.succ_pos
def Z6J:=@List.map_congr_left
def Z8k:=@Array.mem_iff_getElem
def Z5q:=@Array.getElem?_setIfInBounds_ne
def Z6S:=@Array.getElem?_setIfInBounds_self_of_lt
def Z4w:=@Option.map_eq_some_iff
section
namespace Vm
open Go
section
def wdR{α:Type}:Result α->World
 |.ok _ w=>w
 |.halt _ w=>w
theorem OU{α:Type}(x:Ask α):∀w:World,(w.ask x).2.heap=w.heap/\w.drawn<=(w.ask x).2.drawn:=by
 induction x with
 |done a=>intro w;exact⟨rfl,Z4A _⟩
 |ask what range k ih=>
  intro w;unfold World.ask
  grind
theorem Mx(w:World)(c:Sys):(w.sys c).2.heap=w.heap/\w.drawn<=(w.sys c).2.drawn:=by
 unfold World.sys;have h:=OU (Kernel.perform c w.os) w
 grind
theorem Qt{p:Program}{w w':World}{a:Addr}{v:Value}{b:Bool}{l:List Addr}(h:w.farStore p a v b=.ok (w',l)):w'.heap.size=w.heap.size/\w'.drawn=w.drawn:=by
 unfold World.farStore at h;split at h
 ·split at h
  ·rename_i r e;cases h;unfold World.viewStore at e;simp only[bind,Except.bind]at e
   repeat' split at e
   all_goals first|(cases e;done)|skip
   all_goals (cases e;simp)
  ·cases h
 ·cases h
theorem Y9(w:World)(a:Addr)(v:Value):(w.setCell a v).heap.size=w.heap.size:=by simp[World.setCell]
theorem QD(w:World)(a:Addr)(n:Nat):(w.freeze a n).heap.size=w.heap.size/\(w.freeze a n).drawn=w.drawn:=by grind [World.freeze]
theorem KY{α:Type}(p:Program)(s:Sem α):∀w:World,w.heap.size<=(wdR (s.run p w)).heap.size/\w.drawn<=(wdR (s.run p w)).drawn:=by
 induction s with
 |pure a=>intro w;exact⟨Z4A _,Z4A _⟩
 |load m a k ih=>
  intro w;unfold Sem.run;split
  ·grind
  ·split
   ·grind
   ·exact⟨Z4A _,Z4A _⟩
 |store m a v k ih=>
  intro w;cases v<;>simp only[Sem.run]<;>first|exact⟨Z4A _,Z4A _⟩|skip
  all_goals
   split
   ·split
    ·exact⟨Z4A _,Z4A _⟩
    ·generalize hv:w.setCell a _=w2;have hs:w2.heap.size=w.heap.size:=by rw[<-hv,Y9]
     have hd:w2.drawn=w.drawn:=by rw[<-hv];rfl
     rw[<-hs,<-hd];exact ih w2
   ·split
    ·rename_i e;have h1:=Qt e;have h2:=ih (by assumption);rw[h1.1,h1.2]at h2;exact h2
    ·exact⟨Z4A _,Z4A _⟩
 |new o k ih=>
  grind [Sem.run,Array.size_push]
 |shape r k ih=>intro w;unfold Sem.run;grind
 |freeze a n k ih=>grind [Sem.run,QD]
 |frozen a k ih=>intro w;unfold Sem.run;grind
 |getObj r k ih=>intro w;unfold Sem.run;split<;>first|exact⟨Z4A _,Z4A _⟩|grind
 |setObj r o k ih=>
  intro w;unfold Sem.run;split
  ·exact⟨Z4A _,Z4A _⟩
  ·grind
  ·exact⟨Z4A _,Z4A _⟩
 |choose q k ih=>
  intro w;unfold Sem.run;split
  ·grind
  ·have:=ih (q.cut (w.tape w.drawn q)) {w with drawn:=w.drawn+1};exact⟨this.1,Z4Z (Nat.le_succ _) this.2⟩
 |sys c k ih=>
  grind [Sem.run,Mx,Nat.le_trans]
 |program k ih=>intro w;unfold Sem.run;grind
 |mark m k ih=>simp_all[Sem.run]
 |halt h=>intro w;exact⟨Z4A _,Z4A _⟩
section
variable (ρ:Nat->Nat)
def renA(a:Addr):Addr:= {a with block:=ρ a.block}
def WL:Fn->Fn
 |.yield l=>.yield (ρ l)
 |f=>f
def ren:Value->Value
 |.pointer (some a)=>.pointer (some (renA ρ a))
 |.slice (some a) n c=>.slice (some (renA ρ a)) n c
 |.map (some r)=>.map (some (ρ r))
 |.chan (some r)=>.chan (some (ρ r))
 |.func fn a b=>.func (WL ρ fn) (a.map ren) (b.map ren)
 |.iface t v=>.iface t (ren v)
 |.agg cs=>.agg (cs.map ren)
 |.tuple vs=>.tuple (vs.map ren)
 |v=>v
def renT:Target->Target
 |.fn f c=>.fn (WL ρ f) (c.map (ren ρ))
 |.collected r=>.collected (ρ r)
 |t=>t
def renD(d:Deferred):Deferred:=⟨renT ρ d.target,d.args.map (ren ρ)⟩
def renE(e:MapEntry):MapEntry:= {e with key:=ren ρ e.key,val:=ren ρ e.val}
def renL(l:Loop):Loop:= {l with tmps:=l.tmps.map (ren ρ),defers:=ρ l.defers}
def renO:Obj->Obj
 |.cells c e f=>.cells (c.map (ren ρ)) e f
 |.map es k=>.map (es.map (renE ρ)) k
 |.loop l=>.loop (renL ρ l)
 |.deferred cs=>.deferred (cs.map λl=>l.map (renD ρ))
 |.number a lost=>.number (renA ρ a) lost
 |o=>o
end
structure Cx where
 Q:Program
 fs:Array Func
 gs:Array Global
 ρ:Nat->Nat
 n0:Nat
 G:Nat->Prop
 O:Nat->Prop
 KL:Loop->Prop
 KD:Deferred->Prop
def Cx.P(X:Cx):Program:= {X.Q with funcs:=X.fs,globals:=X.gs}
theorem QQ(T:Tables)(g:Array Global):∀(n:Nat) (t:TypeId),Made.infoAt {T with globals:=g} n t=Made.infoAt T n t
 |0,t=>rfl
 |n+1,t=>by
  have:Made.infoAt {T with globals:=g} n=Made.infoAt T n:=funext (QQ T g n);simp_all[Made.infoAt]
theorem Cx.P_info(X:Cx)(t:TypeId):X.P.info? t=X.Q.info? t:=by
 show(if t<X.Q.types.size then X.Q.types[t]? else Made.infoAt {X.Q.toTables with globals:=X.gs} Made.depth t)=_;rw[QQ];rfl
theorem Cx.P_under(X:Cx)(t:TypeId):X.P.underlying t=X.Q.underlying t:=by
 simp_all[Program.underlying,Cx.P_info]
section
variable (X:Cx)
def hid:Obj:=.view ⟨0,0,some 0⟩ 0
def Cx.okO:Obj->Prop
 |.cells .. |.map .. |.number .. =>True
 |.loop l=>X.KL l
 |.deferred (some ds)=>∀d∈ds,X.KD d
 |.deferred none=>True
 |_=>False
def Cx.Own(X:Cx)(b:Nat):Prop:=X.n0<=b\/X.O b
def Cx.OR(b:Nat)(o:Obj)(o':Option Obj):Prop:=
 o=hid\/(¬X.Own b/\∃c e fr fr',o=.cells c e fr/\(∀i,i<c.size->fr.1<=i/\i<fr.2)/\X.G b/\o'=some (.cells (c.map (ren X.ρ)) e fr'))\/
 X.Own b/\X.okO o/\o'=some (renO X.ρ o)/\(∀c e fr,o=.cells c e fr->fr=(0,0))
structure Cx.WR (wl wc:World):Prop where
 os:wc.os=wl.os
 nl:X.n0<=wl.heap.size
 low:∀b,b<X.n0->X.ρ b=b
 inj:∀b b',wl.heap[b]? ≠some hid->wl.heap[b']? ≠some hid->b<wl.heap.size->b'<wl.heap.size->X.ρ b=X.ρ b'->b=b'
 blk:∀b o,wl.heap[b]?=some o->X.OR b o wc.heap[X.ρ b]?
def Cx.EvOk(wl:World)(e:Event):Prop:=
 match e.loc with
 |.cell a=>∃b,b<wl.heap.size/\a.block=X.ρ b/\(¬X.Own b->e.write=false/\X.G b)
 |.obj r=>∃b,X.Own b/\b<wl.heap.size/\r=X.ρ b
 |.mark m=>m=.noRoom
 |.output=>True
 |_=>False
def Vis(w w':World):Prop:=∀(r:Nat) (o:Obj),w.heap[r]?=some o->o≠hid->∃o',w'.heap[r]?=some o'/\o'≠hid
theorem Vis.refl(w:World):Vis w w:=λ_ o h1 h2=>⟨o,h1,h2⟩
theorem Vis.trans{a b c:World}(h:Vis a b)(k:Vis b c):Vis a c:=λr o h1 h2=>by
 obtain⟨o',h3,h4⟩:=h r o h1 h2;exact k r o' h3 h4
structure Cx.Aft (wl wc wl' wc':World) (es es':Array Event):Prop where
 wr:X.WR wl' wc'
 sz:wl'.heap.size+wc.heap.size=wc'.heap.size+wl.heap.size
 szl:wl.heap.size<=wl'.heap.size
 dr:wl'.drawn+wc.drawn=wc'.drawn+wl.drawn
 drl:wl.drawn<=wl'.drawn
 tl:wl'.tape=wl.tape
 tc:wc'.tape=wc.tape
 oc:(wc'.os,wc'.output)=(wc.os,wc.output)
 new:∀b,wl.heap.size<=b->b<wl'.heap.size->wc.heap.size<=X.ρ b/\X.ρ b<wc'.heap.size
 keep:∀c,c<wc.heap.size->(∀b,X.Own b->b<wl.heap.size->c≠X.ρ b)->wc'.heap[c]?=wc.heap[c]?
 evs:∀e∈es',e∈es\/X.EvOk wl' e
 vis:Vis wl wl'
theorem Cx.EvOk.mono{X:Cx}{wl wl':World}{e:Event}(h:X.EvOk wl e)(hs:wl.heap.size<=wl'.heap.size):X.EvOk wl' e:=by
 grind [Cx.EvOk]
theorem Cx.Aft.refl{X:Cx}{wl wc:World}(es:Array Event)(h:X.WR wl wc):X.Aft wl wc wl wc es es:=
 ⟨h,Z0,Z4A _,Z0,Z4A _,rfl,rfl,rfl,λ_ h1 h2=>absurd h2 Z0,λ_ _ _=>rfl,λe he=>.inl he,.refl _⟩
theorem Cx.WR.lt{X:Cx}{wl wc:World}(h:X.WR wl wc){b:Nat}{o:Obj}(hb:wl.heap[b]?=some o)(hh:o≠hid):X.ρ b<wc.heap.size:=by
 have:=h.blk b _ hb;obtain h0|⟨_,c,e,fr,fr',_,_,_,h0⟩|⟨_,_,h0,_⟩:=this
 ·simp_all
 ·grind
 ·grind
theorem Cx.Aft.trans{X:Cx}{a b a1 b1 a2 b2:World}{es es1 es2:Array Event}(h:X.Aft a b a1 b1 es es1)(k:X.Aft a1 b1 a2 b2 es1 es2):X.Aft a b a2 b2 es es2:=by
 obtain⟨_,h1,h2,h3,h4,h5,h6,ho,hn,h7,h8,hv⟩:=h;obtain⟨kw,k1,k2,k3,k4,k5,k6,ko,kn,k7,k8,kv⟩:=k;refine⟨kw,Z0,Z0,Z0,Z0,k5.trans h5,k6.trans h6,ko.trans ho,λx h1' h2'=> ?_,λc hc hno=> ?_,λe he=> ?_,hv.trans kv⟩
 ·grind
 ·grind
 ·obtain h|h:=k8 e he
  ·obtain h|h:=h8 e h
   ·grind
   ·exact .inr (h.mono k2)
  simp_all
def bad:Halt->Prop
 |.stuck _=>True
 |.unsupported (.initOrder _)=>False
 |.unsupported _=>True
 |_=>False
theorem YA{α:Type}(xs:Array α)(i j:Nat)(f:α->α):(xs.modify i f)[j]?=if i=j then(xs[j]?).map f else xs[j]? :=by
 grind
def Cx.Told{α β:Type}(X:Cx)(RA:α->β->Prop)(wl wc:World)(es:Array Event):Result α->Result β×Array Event->Prop
 |.ok a wl',r=>∃b wc' es',r=(.ok b wc',es')/\RA a b/\X.Aft wl wc wl' wc' es es'
 |.halt (.panic v) wl',r=>∃wc' es',r=(.halt (.panic (ren X.ρ v)) wc',es')/\X.Aft wl wc wl' wc' es es'
 |.halt h _,_=>bad h
def Seen(V:List Nat)(w:World):Prop:=∀r∈V,∃o,w.heap[r]?=some o/\o≠hid
def Cx.Runs{α β:Type}(X:Cx)(RA:α->β->Prop)(V:List Nat)(s:Sem α)(s':Sem β):Prop:=∀(wl wc:World) (es:Array Event),X.WR wl wc->Seen V wl->
 (∀j,wc.drawn+j< (wdR (s'.run X.P wc)).drawn->wl.tape (wl.drawn+j)=wc.tape (wc.drawn+j))->
 (∀j,wc.heap.size+j< (wdR (s'.run X.P wc)).heap.size->X.ρ (wl.heap.size+j)=wc.heap.size+j)->
 X.Told RA wl wc es (s.run X.Q wl) (s'.runT X.P wc es)
inductive Cx.Img {α β:Type} (X:Cx) (RA:α->β->Prop):List Nat->Sem α->Sem β->Prop where
 |pure {V:List Nat} {a:α} {b:β}:RA a b->X.Img RA V (.pure a) (.pure b)
 |load {V:List Nat} {m:Mode} {a:Addr} {k:Value->Sem α} {k':Value->Sem β}:(∀v,X.Img RA V (k v) (k' (ren X.ρ v)))->X.Img RA V (.load m a k) (.load m (renA X.ρ a) k')
 |store {V:List Nat} {m:Mode} {a:Addr} {v:Value} {k:Sem α} {k':Sem β}:X.Img RA V k k'->X.Img RA V (.store m a v k) (.store m (renA X.ρ a) (ren X.ρ v) k')
 |new {V:List Nat} {o:Obj} {k:Nat->Sem α} {k':Nat->Sem β}:X.okO o->(∀c e fr,o=.cells c e fr->fr=(0,0))->(∀r,X.Img RA (r::V) (k r) (k' (X.ρ r)))->X.Img RA V (.new o k) (.new (renO X.ρ o) k')
 |get {V:List Nat} {r:Nat} {k:Obj->Sem α} {k':Obj->Sem β}:(∀w,∃h w',(k hid).run X.Q w=.halt h w'/\bad h)->(∀o,X.okO o->X.Img RA (r::V) (k o) (k' (renO X.ρ o)))->X.Img RA V (.getObj r k) (.getObj (X.ρ r) k')
 |set {V:List Nat} {r:Nat} {o:Obj} {k:Sem α} {k':Sem β}:r∈V->X.okO o->(∀c e fr,o≠.cells c e fr)->X.Img RA V k k'->X.Img RA V (.setObj r o k) (.setObj (X.ρ r) (renO X.ρ o) k')
 |choose {V:List Nat} {q:Question} {k:Nat->Sem α} {k':Nat->Sem β}:(∀n,X.Img RA V (k n) (k' n))->X.Img RA V (.choose q k) (.choose q k')
 |prog {V:List Nat} {k:Program->Sem α} {k':Program->Sem β}:X.Img RA V (k X.Q) (k' X.P)->X.Img RA V (.program k) (.program k')
 |room {V:List Nat} {k:Sem α} {k':Sem β}:X.Img RA V k k'->X.Img RA V (.mark .noRoom k) (.mark .noRoom k')
 |panic {V:List Nat} (v:Value):X.Img RA V (.halt (.panic v)) (.halt (.panic (ren X.ρ v)))
 |bad {V:List Nat} {s:Sem α} (s':Sem β):(∀w,∃h w',s.run X.Q w=.halt h w'/\bad h)->X.Img RA V s s'
 |sem {V:List Nat} {s:Sem α} {s':Sem β}:X.Runs RA V s s'->X.Img RA V s s'
theorem Seen.cons{V:List Nat}{w:World}{r:Nat}{o:Obj}(h:Seen V w)(hr:w.heap[r]?=some o)(ho:o≠hid):Seen (r::V) w:=λx hx=>by
 obtain rfl|hx:=Z4H.1 hx
 ·simp_all
 ·exact h x hx
theorem Seen.step{V:List Nat}{w w':World}(h:Seen V w)(hk:Vis w w'):Seen V w':=λx hx=>by
 obtain⟨o,h1,h2⟩:=h x hx;exact hk x o h1 h2
theorem Vis.setCell(w:World)(a:Addr)(v:Value):Vis w (w.setCell a v):=λr o hr ho=>by
 simp only[World.setCell,YA];split
 ·rw[hr];refine⟨_,rfl,?_⟩
  grind [hid]
 ·simp_all
theorem Vis.push(w:World)(o':Obj):Vis w {w with heap:=w.heap.push o'}:=λr o hr ho=>by
 have:=(Z4z.1 hr).1;simp only[Z6H];rw[if_neg Z0];simp_all
theorem Vis.set(w:World)(r:Nat){o':Obj}(ho':o'≠hid):Vis w {w with heap:=w.heap.setIfInBounds r o'}:=λx o hr ho=>by
 have:=(Z4z.1 hr).1;simp only[Z5I];split
 ·rename_i e;subst e;rw[if_pos this];exact⟨o',rfl,ho'⟩
 ·simp_all
theorem Cx.okO.vis{X:Cx}{o:Obj}(h:X.okO o):o≠hid:=λe=>by subst e;exact h.elim
theorem Cx.Told.of_bad{α β:Type}{X:Cx}{RA:α->β->Prop}{wl wc:World}{es:Array Event}{h:Halt}{w:World}{r:Result β×Array Event}(hb:bad h):X.Told RA wl wc es (.halt h w) r:=by
 cases h<;>first|exact hb|exact hb.elim
theorem Cx.Told.step{α β:Type}{X:Cx}{RA:α->β->Prop}{wl wc w1 c1:World}{es es1:Array Event}{r:Result α}{r':Result β×Array Event}(h:X.Aft wl wc w1 c1 es es1)(k:X.Told RA w1 c1 es1 r r'):X.Told RA wl wc es r r':=by
 cases r with
 |ok a w=>
  obtain⟨b,wc',es',e,ra,af⟩:=k;exact⟨b,wc',es',e,ra,h.trans af⟩
 |halt x w=>
  cases x<;>try exact k
  obtain⟨wc',es',e,af⟩:=k;exact⟨wc',es',e,h.trans af⟩
theorem Wz{w:World}{a:Addr}{v:Value}(h:w.cell? a=some v):a.spot=none/\∃c e fr,w.heap[a.block]?=some (.cells c e fr)/\c[a.off]?=some v:=by
 unfold World.cell? at h;split at h
 ·simp_all
 ·cases h
theorem Cx.WR.cell{X:Cx}{wl wc:World}(h:X.WR wl wc){a:Addr}{v:Value}(hv:wl.cell? a=some v):wc.cell? (renA X.ρ a)=some (ren X.ρ v)/\(¬X.Own a.block->X.G a.block)/\a.block<wl.heap.size:=by
 obtain⟨hs,c,e,fr,hb,hc⟩:=Wz hv;have hlt:=(Z4z.1 hb).1;have ho:=h.blk _ _ hb
 have key:∀fr',wc.heap[X.ρ a.block]?=some (.cells (c.map (ren X.ρ)) e fr')->wc.cell? (renA X.ρ a)=some (ren X.ρ v):=λfr' e1=>by
  simp_all[World.cell?,renA]
 obtain e0|⟨_,c',e',f',fr',e0,_,hG,e1⟩|⟨h0,_,e1,_⟩:=ho
 ·cases e0
 ·simp_all
 ·exact⟨key _ e1,λhb'=>absurd h0 hb',hlt⟩
theorem Cx.WR.kind{X:Cx}{wl wc:World}(h:X.WR wl wc){b:Nat}{o:Obj}(hb:wl.heap[b]?=some o):o=hid\/X.okO o:=by
 obtain e0|⟨_,c',e',f',fr',e0,_⟩|ho:=h.blk _ _ hb
 ·grind
 ·subst e0;exact .inr trivial
 simp_all
theorem Cx.WR.no_cell{X:Cx}{wl wc:World}(h:X.WR wl wc)(a:Addr)(what:String)(hv:∀at_ u,wl.heap[a.block]? ≠some (.view at_ u)):wl.noCell a what=.stuck what:=by
 unfold World.noCell;split
 ·rename_i hb;obtain h|h:=h.kind hb
  ·cases h
  ·exact h.elim
 ·simp_all
 ·rfl
def AA(p:Program)(w:World)(a:Addr)(v:Value)(b:Bool):Except String (World×List Addr):=w.viewStore p ⟨0,0,some 0⟩ 0 a v b
theorem BH(p:Program)(w:World)(u:TypeId)(k:Addr)(b:Bool):w.seen p ⟨0,0,some 0⟩ u k b=.error "memory seen as another type: a place without cells" :=by
 unfold World.seen;simp only[Option.isSome,Z8m,Z5b];rfl
theorem Cx.WR.no_load{X:Cx}{wl wc:World}(h:X.WR wl wc)(p:Program)(a:Addr)(b:Bool):∃x,wl.farLoad p a b=.error x/\bad x:=by
 unfold World.farLoad;split
 ·rename_i at_ u hb;obtain h|h:=h.kind hb
  ·cases h
   have e:wl.viewLoad p ⟨0,0,some 0⟩ 0 a b=.error "memory seen as another type: a place without cells" :=by
    unfold World.viewLoad;simp only[BH,bind,Except.bind]
   simp only[e];exact⟨_,rfl,trivial⟩
  ·exact h.elim
 ·rename_i hv;exact⟨_,rfl,by rw[h.no_cell _ _ hv];trivial⟩
theorem Cx.WR.no_store{X:Cx}{wl wc:World}(h:X.WR wl wc)(p:Program)(a:Addr)(v:Value)(b:Bool):∃x,wl.farStore p a v b=.error x/\bad x:=by
 unfold World.farStore;split
 ·rename_i at_ u hb;obtain h|h:=h.kind hb
  ·cases h
   have e:∃m,AA p wl a v b=.error m:=by
    unfold AA World.viewStore;simp only[BH,bind,Except.bind];split
    ·exact⟨_,rfl⟩
    ·exact⟨_,rfl⟩
   obtain⟨m,e⟩:=e;unfold AA at e;simp only[e];exact⟨_,rfl,trivial⟩
  ·exact h.elim
 ·rename_i hv;exact⟨_,rfl,by rw[h.no_cell _ _ hv];trivial⟩
theorem Cx.WR.mine{X:Cx}{wl wc:World}(h:X.WR wl wc){a:Addr}{v:Value}(hv:wl.cell? a=some v)(hf:wl.frozen? a=false):
  X.Own a.block/\∃c e,a.spot=none/\wl.heap[a.block]?=some (.cells c e (0,0))/\wc.heap[X.ρ a.block]?=some (.cells (c.map (ren X.ρ)) e (0,0)):=by
 obtain⟨hs,c,e,fr,hb,hc⟩:=Wz hv;obtain e0|⟨_,c',e',f',fr',e0,h1,_⟩|⟨h0,_,e1,e2⟩:=h.blk _ _ hb
 ·cases e0
 ·grind [Array.getElem?_eq_some_iff,World.frozen?]
 ·have:=e2 _ _ _ rfl;subst this;exact⟨h0,c,e,hs,hb,e1⟩
theorem Cx.OR.hide{X:Cx}{b:Nat}{o':Option Obj}:X.OR b hid o':=.inl rfl
theorem Cx.WR.turn{X:Cx}{wl wc wl' wc':World}(h:X.WR wl wc){r:Nat}{o0 o:Obj}(hr:wl.heap[r]?=some o0)(h0:o0≠hid)(hn:X.Own r)(ho:X.okO o)(hf:∀c e fr,o=.cells c e fr->fr=(0,0))
  (e1:wl'.heap.size=wl.heap.size) (e2:wc'.os=wl'.os) (e3:wl'.heap[r]?=some o) (e4:∀b,b≠r->wl'.heap[b]?=wl.heap[b]?) (e5:wc'.heap[X.ρ r]?=some (renO X.ρ o)) (e6:∀c,c≠X.ρ r->wc'.heap[c]?=wc.heap[c]?):X.WR wl' wc':=by
 have hlt:=(Z4z.1 hr).1
 have conv:∀x,wl'.heap[x]? ≠some hid->wl.heap[x]? ≠some hid:=λx hx hh=>by
  by_cases hxr:x=r
  ·subst hxr;rw[hr]at hh;simp_all
  ·rw[e4 x hxr]at hx;exact hx hh
 refine⟨e2,by rw[e1];exact h.nl,h.low,λx y hx' hy' hx hy e=>h.inj x y (conv x hx') (conv y hy') Z0 Z0 e,λb o1 hb=> ?_⟩;by_cases hbr:b=r
 ·subst hbr;rw[e3]at hb;cases hb;exact .inr (.inr ⟨hn,ho,e5,hf⟩)
 ·rw[e4 b hbr]at hb;by_cases hh:o1=hid
  ·subst hh;exact .hide
  ·have hbl:=(Z4z.1 hb).1;rw[e6 _ λe0=>hbr (h.inj b r Z3L Z3L hbl hlt e0)];exact h.blk b o1 hb
theorem Cx.WR.setCell{X:Cx}{wl wc:World}(h:X.WR wl wc){a:Addr}{v0 v:Value}(hv:wl.cell? a=some v0)(hf:wl.frozen? a=false):X.WR (wl.setCell a v) (wc.setCell (renA X.ρ a) (ren X.ρ v)):=by
 obtain⟨hn,c,e,hs,hb,hb'⟩:=h.mine hv hf;refine h.turn (r:=a.block) (o:=.cells (c.setIfInBounds a.off v) e (0,0)) hb (by simp[hid]) hn trivial (λ_ _ _ e0=>Z3L) (Y9 _ _ _) h.os ?_ (λb hb=> ?_) ?_ λc hc=> ?_
 ·simp_all[World.setCell,YA,Z5b,Z4K,Z6Q,Z4G,Z5h]
 ·simp_all[World.setCell,YA,if_neg,Z6K]
 ·simp only[World.setCell,YA,renA,Z5b,hb',Z4K,hs,Z6Q,Z4G,Z5h,renO];simp
 ·simp only[World.setCell,YA];rw[if_neg (show ¬(renA X.ρ a).block=c fromλe0=>hc e0.symm)]
theorem Cx.WR.push{X:Cx}{wl wc:World}(h:X.WR wl wc){o:Obj}(ho:X.okO o)(hf:∀c e fr,o=.cells c e fr->fr=(0,0))(hr:X.ρ wl.heap.size=wc.heap.size):
  X.WR {wl with heap:=wl.heap.push o} {wc with heap:=wc.heap.push (renO X.ρ o)}:=by
 have n1:=h.nl;have lt:∀b,b<wl.heap.size->wl.heap[b]? ≠some hid->X.ρ b<wc.heap.size:=λb hb hh=>h.lt (Z4X hb) λe=>hh Z3M;have old:∀b,b<wl.heap.size->(wl.heap.push o)[b]?=wl.heap[b]? :=λb hb=>Z3L;refine⟨h.os,Z3N,h.low,λx y hx' hy' hx hy e=> ?_,λb o1 hb=> ?_⟩
 ·simp only[Z7D]at hx hy;by_cases hxl:x<wl.heap.size
  ·have hx2:wl.heap[x]? ≠some hid:=by rw[<-old x hxl];exact hx'
   by_cases hyl:y<wl.heap.size
   ·have hy2:wl.heap[y]? ≠some hid:=by rw[<-old y hyl];exact hy'
    exact h.inj x y hx2 hy2 hxl hyl e
   grind
  grind
 ·simp only[Z6H]at hb⊢;by_cases hb':b=wl.heap.size
  ·subst hb';rw[if_pos rfl]at hb;cases hb;rw[if_pos hr];exact .inr (.inr ⟨.inl n1,ho,rfl,hf⟩)
  ·rw[if_neg hb']at hb;by_cases hh:o1=hid
   ·subst hh;exact .hide
   ·have:=h.lt hb hh;rw[if_neg Z0];exact h.blk b o1 hb
theorem Cx.WR.set{X:Cx}{wl wc:World}(h:X.WR wl wc){r:Nat}{o o0:Obj}(hr0:X.Own r)(hr:wl.heap[r]?=some o0)(h0:o0≠hid)(ho:X.okO o)(hf:∀c e fr,o=.cells c e fr->fr=(0,0)):
  X.WR {wl with heap:=wl.heap.setIfInBounds r o} {wc with heap:=wc.heap.setIfInBounds (X.ρ r) (renO X.ρ o)}:=by
 have hlt:=(Z4z.1 hr).1;refine h.turn (r:=r) (o:=o) hr h0 hr0 ho hf Z1 h.os ?_ (λb hb=> ?_) ?_ λc hc=> ?_
 ·simp_all
 ·grind
 ·simp[Z5I,h.lt hr h0]
 grind
theorem Cx.WR.obj{X:Cx}{wl wc:World}(h:X.WR wl wc){r:Nat}{o:Obj}(hr:wl.heap[r]?=some o)(hc:∀c e fr,o≠.cells c e fr)(hh:o≠hid):X.Own r/\wc.heap[X.ρ r]?=some (renO X.ρ o):=by
 obtain e0|⟨_,c',e',f',fr',e0,_⟩|ho:=h.blk _ _ hr
 ·simp_all
 ·simp_all
 simp_all
theorem Uh{ρ:Nat->Nat}{o:Obj}(hc:∀c e fr,o≠.cells c e fr):∀c e fr,renO ρ o≠.cells c e fr:=by
 intro c e fr h;cases o<;>simp[renO]at h
 simp_all
theorem Cx.Aft.ev{X:Cx}{wl wc:World}{es:Array Event}{e:Event}(h:X.WR wl wc)(he:X.EvOk wl e):X.Aft wl wc wl wc es (es.push e):=
 ⟨h,Z0,Z4A _,Z0,Z4A _,rfl,rfl,rfl,λ_ h1 h2=>absurd h2 Z0,λ_ _ _=>rfl,λx hx=>by
  obtain h|rfl:=Z7U.1 hx
  ·grind
  ·exact .inr he,.refl _⟩
theorem O4{α:Type}{p:Program}{w:World}{m:Mode}{a:Addr}{x v0:Value}{k:Sem α}{es:Array Event}(h1:∀c,x≠.agg c)(h2:∀c,x≠.tuple c)(hc:w.cell? a=some v0)(hf:w.frozen? a=false):
  (Sem.store m a x k).runT p w es=k.runT p (w.setCell a x) (es.push ⟨.cell a,true,m==.atomic⟩):=by
 cases x<;>first|(simp only[Sem.runT,hc,hf];rfl)|exact absurd rfl (h1 _)|simp_all
theorem Mt{α:Type}{p:Program}{w:World}{m:Mode}{a:Addr}{x:Value}{k:Sem α}(h1:∀c,x≠.agg c)(h2:∀c,x≠.tuple c):(Sem.store m a x k).run p w=match w.cell? a with
  |some _=>if w.frozen? a then .halt (.unsupported (.unsafePointer "a write to bytes that a string shares")) w else k.run p (w.setCell a x)
  |none=>match w.farStore p a x (m==.atomic)with
   |.ok (w,_)=>k.run p w
   |.error h=>.halt h w:=by
 cases x<;>first|rfl|exact absurd rfl (h1 _)|simp_all
theorem TS{α:Type}{p:Program}{w:World}{r:Nat}{o:Obj}{k:Obj->Sem α}(h:w.heap[r]?=some o)(hc:∀c e fr,o≠.cells c e fr):(Sem.getObj r k).run p w=(k o).run p w:=by
 cases o<;>first|(simp only[Sem.run,h];done)|exact absurd rfl (hc _ _ _)
theorem G3{α:Type}{p:Program}{w:World}{r:Nat}{o:Obj}{k:Obj->Sem α}{es:Array Event}(h:w.heap[r]?=some o)(hc:∀c e fr,o≠.cells c e fr):(Sem.getObj r k).runT p w es=(k o).runT p w (es.push ⟨.obj r,false,o.isChan⟩):=by
 cases o<;>first|(simp only[Sem.runT,h];done)|exact absurd rfl (hc _ _ _)
theorem Ms{α:Type}{p:Program}{w:World}{r:Nat}{o o':Obj}{k:Sem α}(h:w.heap[r]?=some o)(hc:∀c e fr,o≠.cells c e fr):(Sem.setObj r o' k).run p w=k.run p {w with heap:=w.heap.setIfInBounds r o'}:=by
 cases o<;>first|(simp only[Sem.run,h];done)|exact absurd rfl (hc _ _ _)
theorem O3{α:Type}{p:Program}{w:World}{r:Nat}{o o':Obj}{k:Sem α}{es:Array Event}(h:w.heap[r]?=some o)(hc:∀c e fr,o≠.cells c e fr):(Sem.setObj r o' k).runT p w es=k.runT p {w with heap:=w.heap.setIfInBounds r o'} (es.push ⟨.obj r,true,o'.isChan⟩):=by
 cases o<;>first|(simp only[Sem.runT,h];done)|exact absurd rfl (hc _ _ _)
theorem Tl(o:Option Obj):o=none\/(∃c e fr,o=some (.cells c e fr))\/∃o',o=some o'/\∀c e fr,o'≠.cells c e fr:=by
 cases o with
 |none=>simp
 |some o=>grind
theorem O0{ρ:Nat->Nat}{v:Value}(h1:∀c,v≠.agg c)(h2:∀c,v≠.tuple c):(∀c,ren ρ v≠.agg c)/\∀c,ren ρ v≠.tuple c:=by
 cases v with
 |agg c=>simp_all
 |tuple c=>simp_all
 |pointer a=>cases a<;>simp[ren]
 |slice a n c=>cases a<;>simp[ren]
 |map r=>cases r<;>simp[ren]
 |chan r=>cases r<;>simp[ren]
 |_=>simp[ren]
theorem Cx.Img.run{α β:Type}{X:Cx}{RA:α->β->Prop}{V:List Nat}{s:Sem α}{s':Sem β}(h:X.Img RA V s s'):X.Runs RA V s s':=by
 induction h with
 |pure hr=>intro wl wc es hw _ _ _;exact⟨_,_,_,rfl,hr,.refl _ hw⟩
 | @load V m a k k' hk ih=>
   intro wl wc es hw hV ht hr;simp only[Sem.run,Sem.runT]at ht hr⊢;cases hc:wl.cell? a with
   |none=>
    obtain⟨x,e,hx⟩:=hw.no_load X.Q a (m==.atomic);simp_all[Cx.Told.of_bad]
   |some v=>
    obtain⟨h1,h2,h3⟩:=hw.cell hc;simp only[h1]at ht hr⊢;refine Cx.Told.step (.ev hw ?_) (ih v wl wc _ hw hV ht hr);exact⟨a.block,h3,rfl,λh0=>⟨rfl,h2 h0⟩⟩
 | @store V m a v k k' hk ih=>
   intro wl wc es hw hV ht hr
   have key:(∀c,v≠.agg c)->(∀c,v≠.tuple c)->X.Told RA wl wc es ((Sem.store m a v k).run X.Q wl) ((Sem.store m (renA X.ρ a) (ren X.ρ v) k').runT X.P wc es):=λhv1 hv2=>by
    obtain⟨hw1,hw2⟩:=O0 (ρ:=X.ρ) hv1 hv2;rw[Mt hv1 hv2];rw[Mt hw1 hw2]at ht hr;cases hc:wl.cell? a with
    |none=>
     obtain⟨x,e,hx⟩:=hw.no_store X.Q a v (m==.atomic);simp_all[Cx.Told.of_bad]
    |some v0=>
     cases hf:wl.frozen? a with
     |true=>exact Cx.Told.of_bad trivial
     |false=>
      obtain⟨h1,h2,h3⟩:=hw.cell hc;obtain⟨hn,c,e,hs,hb,hb'⟩:=hw.mine hc hf
      have hf':wc.frozen? (renA X.ρ a)=false:=by
       simp[World.frozen?,renA,hb']
      rw[O4 hw1 hw2 h1 hf'];simp only[h1,hf',Z4G,Z5h]at ht hr⊢;have hw':=hw.setCell (v:=v) hc hf;refine Cx.Told.step ⟨hw',by grind [Y9],by rw[Y9];omega,?_,Z4A _,rfl,rfl,rfl,λb hb1 hb2=> ?_,λc' hc' hno=> ?_,λx hx=> ?_,.setCell _ _ _⟩ (ih _ _ _ hw' (hV.step (.setCell _ _ _)) ht ?_)
      ·show wl.drawn+wc.drawn=wc.drawn+wl.drawn;omega
      ·grind [Y9]
      ·simp only[World.setCell,YA];rw[if_neg (λe0=>hno a.block hn h3 e0.symm)]
      ·obtain h|rfl:=Z7U.1 hx
       ·grind
       ·exact .inr ⟨a.block,by grind [Y9],rfl,λh0=>absurd hn h0⟩
      simp_all[Y9]
   cases v<;>first|exact Cx.Told.of_bad trivial|exact key (λ_ h=>Z3V) (λ_ h=>Z3V)
 | @new V o k k' ho hf hk ih=>
   intro wl wc es hw hV ht hr;simp only[Sem.run,Sem.runT]at ht hr⊢;have hge:=(KY X.P (k' wc.heap.size) {wc with heap:=wc.heap.push (renO X.ρ o)}).1;simp only[Z7D]at hge;have h0:=hr 0 Z0;simp only[Z6G]at h0;have hw':=hw.push ho hf h0;rw[<-h0]at ht hr⊢;refine Cx.Told.step ⟨hw',Z3N,Z1,?_,Z4A _,rfl,rfl,rfl,λb hb1 hb2=> ?_,λc' hc' hno=> ?_,λx hx=>.inl hx,.push _ _⟩ (ih wl.heap.size _ _ _ hw' ((hV.step (.push wl o)).cons Z1 ho.vis) ht λj hj=> ?_)
   ·grind
   ·grind
   ·grind
   ·simp only[Z7D]at hj⊢;have:=hr (j+1) Z0
    grind
 | @get V r k k' hhid hk ih=>
   intro wl wc es hw hV ht hr;obtain ho|⟨c,e,fr,ho⟩|⟨o,ho,hc⟩:=Tl wl.heap[r]?
   ·simp only[Sem.run,ho];exact Cx.Told.of_bad trivial
   ·simp only[Sem.run,ho];exact Cx.Told.of_bad trivial
   obtain hh|hok:=hw.kind ho
   ·subst hh;rw[TS ho hc];obtain⟨h,w',e,hh⟩:=hhid wl;simp_all[Cx.Told.of_bad]
   have hh:o≠hid:=λh=>by subst h;exact hok.elim
   obtain⟨hn,e1⟩:=hw.obj ho hc hh;have hrn:=Uh (ρ:=X.ρ) hc;rw[TS e1 hrn]at ht hr;rw[TS ho hc,G3 e1 hrn];refine Cx.Told.step (.ev hw ?_) (ih o hok wl wc _ hw (hV.cons ho hh) ht hr);exact⟨r,hn,(Z4z.1 ho).1,rfl⟩
 | @set V r o k k' hrV ho' hc' hk ih=>
   intro wl wc es hw hV ht hr;obtain ho|⟨c,e,fr,ho⟩|⟨o0,ho,hc⟩:=Tl wl.heap[r]?
   ·simp only[Sem.run,ho];exact Cx.Told.of_bad trivial
   ·simp only[Sem.run,ho];exact Cx.Told.of_bad trivial
   have hh:o0≠hid:=by
    obtain⟨o1,e1,e2⟩:=hV r hrV;rw[ho]at e1;cases e1;exact e2
   obtain⟨hn,e1⟩:=hw.obj ho hc hh;have hlt:=(Z4z.1 ho).1;have hrn:=Uh (ρ:=X.ρ) hc;rw[Ms e1 hrn]at ht hr;rw[Ms ho hc,O3 e1 hrn];have hw':=hw.set hn ho hh ho' (λc e fr h=>absurd h (hc' _ _ _));refine Cx.Told.step ⟨hw',Z3N,Z1,?_,Z4A _,rfl,rfl,rfl,λb hb1 hb2=> ?_,λc' hc' hno=> ?_,λx hx=> ?_,.set _ _ ho'.vis⟩ (ih _ _ _ hw' (hV.step (.set _ r ho'.vis)) ht ?_)
   ·grind
   ·grind
   ·grind
   ·obtain h|rfl:=Z7U.1 hx
    ·grind
    ·exact .inr ⟨r,hn,Z3M,rfl⟩
   simp_all
 | @choose V q k k' hk ih=>
   intro wl wc es hw hV ht hr;simp only[Sem.run,Sem.runT]at ht hr⊢;cases hq:q.forced with
   |true=>
    simp only[hq,Z5b]at ht hr⊢;exact ih 0 wl wc es hw hV ht hr
   |false=>
    simp only[hq,Z4G,Z5h]at ht hr⊢;have hge:=(KY X.P (k' (q.cut (wc.tape wc.drawn q))) {wc with drawn:=wc.drawn+1}).2;simp only at hge;have h0:=ht 0 Z0;simp only[Z6G]at h0;rw[h0];have hw':X.WR {wl with drawn:=wl.drawn+1} {wc with drawn:=wc.drawn+1}:=⟨hw.os,hw.nl,hw.low,hw.inj,hw.blk⟩;refine Cx.Told.step ⟨hw',Z7u _ _,Z4A _,?_,Nat.le_succ _,rfl,rfl,rfl,λb hb1 hb2=>absurd hb2 (Z8x.2 hb1),λc' hc' hno=>rfl,λx hx=>.inl hx,.refl wl⟩ (ih _ _ _ _ hw' hV (λj hj=> ?_) hr)
    ·grind
    ·simp only at hj⊢;have:=ht (j+1) Z0
     grind
 |prog hk ih=>intro wl wc es hw hV ht hr;exact ih wl wc es hw hV ht hr
 | @room V k k' hk ih=>
   intro wl wc es hw hV ht hr;refine Cx.Told.step (.ev hw ?_) (ih wl wc _ hw hV ht hr);rfl
 |panic v=>intro wl wc es hw _ _ _;exact⟨_,_,rfl,.refl _ hw⟩
 | @bad V s s' hb=>
   intro wl wc es hw _ _ _;obtain⟨h,w',e,hh⟩:=hb wl;simp_all[Cx.Told.of_bad]
 |sem h=>exact h
end
end
section
section
variable {X:Cx}{V:List Nat}
theorem Cx.Runs.bind{α β γ δ:Type}{RA:α->β->Prop}{RB:γ->δ->Prop}{V:List Nat}{s:Sem α}{s':Sem β}{f:α->Sem γ}{f':β->Sem δ}(h:X.Runs RA V s s')
  (hf:∀a b,RA a b->X.Runs RB V (f a) (f' b)):X.Runs RB V (s.bind f) (s'.bind f'):=by
 intro wl wc es hw hV ht hr
 have hfin:(wdR (s'.run X.P wc)).heap.size<=(wdR ((s'.bind f').run X.P wc)).heap.size/\(wdR (s'.run X.P wc)).drawn<=(wdR ((s'.bind f').run X.P wc)).drawn:=by
  rw[Z7y];cases s'.run X.P wc with
  |ok b w=>exact KY X.P (f' b) w
  |halt x w=>exact⟨Z4A _,Z4A _⟩
 have h1:=h wl wc es hw hV (λj hj=>ht j Z0) (λj hj=>hr j Z0);rw[Z7y,Z6w];cases e:s.run X.Q wl with
 |halt x w=>
  rw[e]at h1;cases x<;>try exact h1
  obtain⟨wc',es',e',af⟩:=h1;rw[e'];exact⟨wc',es',rfl,af⟩
 |ok a w=>
  rw[e]at h1;obtain⟨b,wc',es',e',ra,af⟩:=h1;rw[e'];have e2:s'.run X.P wc=.ok b wc':=by rw[<-Z6r X.P s' wc es,e']
  have e3:(s'.bind f').run X.P wc=(f' b).run X.P wc':=by rw[Z7y,e2];rfl
  rw[e3]at ht hr;refine Cx.Told.step af (hf a b ra w wc' es' af.wr (hV.step af.vis) (λj hj=> ?_) (λj hj=> ?_))
  ·have q1:=af.dr;have q2:=af.drl;have:=ht (wc'.drawn-wc.drawn+j) Z0;rw[af.tl,af.tc]
   grind
  ·have q1:=af.sz;have q2:=af.szl;have:=hr (wc'.heap.size-wc.heap.size+j) Z0
   grind
theorem Cx.Img.bind{α β γ δ:Type}{RA:α->β->Prop}{RB:γ->δ->Prop}{V:List Nat}{s:Sem α}{s':Sem β}{f:α->Sem γ}{f':β->Sem δ}(h:X.Img RA V s s'):
  (∀V' a b,(∀r∈V,r∈V')->RA a b->X.Img RB V' (f a) (f' b))->X.Img RB V (s>>=f) (s'>>=f'):=by
 show _->X.Img RB V (s.bind f) (s'.bind f')
 induction h with
 |pure hr=>intro hf;exact hf _ _ _ (λ_ h=>h) hr
 |load hk ih=>intro hf;exact .load λv=>ih v hf
 |store hk ih=>intro hf;exact .store (ih hf)
 |new ho hc hk ih=>intro hf;exact .new ho hc λr=>ih r λV' a b hV=>hf V' a b λx hx=>hV x (Z53 _ hx)
 |get hh hk ih=>
  intro hf;refine .get (λw=> ?_) λo ho=>ih o ho λV' a b hV=>hf V' a b λx hx=>hV x (Z53 _ hx);obtain⟨h,w',e,hb⟩:=hh w;simp_all[Z7y]
 |set hr ho hc hk ih=>intro hf;exact .set hr ho hc (ih hf)
 |choose hk ih=>intro hf;exact .choose λn=>ih n hf
 |prog hk ih=>intro hf;exact .prog (ih hf)
 |room hk ih=>intro hf;exact .room (ih hf)
 |panic v=>intro hf;exact .panic v
 |bad s' hb=>
  intro hf;refine .bad _ λw=> ?_;obtain⟨h,w',e,hb⟩:=hb w;simp_all[Z7y]
 |sem h=>intro hf;exact .sem (h.bind λa b ra=>(hf _ a b (λ_ h=>h) ra).run)
theorem Z3{α β:Type}{RA:α->β->Prop}(why:String)(s':Sem β):X.Img RA V (stuck why) s':=.bad _ λw=>⟨_,w,rfl,trivial⟩
theorem Zm{α β:Type}{RA:α->β->Prop}{u:Unsupported}(hu:∀g,u≠.initOrder g)(s':Sem β):X.Img RA V (unsupported u) s':=
 .bad _ λw=>⟨_,w,rfl,by cases u<;>first|trivial|simp_all⟩
def Zr:X.Img (λp q=>p=X.Q/\q=X.P) V program program:=.prog (.pure ⟨rfl,rfl⟩)
def Zz(t:TypeId):X.Img Eq V (typeInfo t) (typeInfo t):=by
 refine .bind Zr ?_;rintro V' _ _- ⟨rfl,rfl⟩;rw[X.P_info t];split
 ·exact .pure rfl
 ·exact Z3 _ _
def Zj(t:TypeId):X.Img Eq V (underlying t) (underlying t):=by
 refine .bind Zr ?_;rintro V' _ _- ⟨rfl,rfl⟩;rw[X.P_under t];split
 ·exact .pure rfl
 ·exact Z3 _ _
def ZK(t:TypeId):X.Img Eq V (sizeOf t) (sizeOf t):=by
 refine .bind (Zz t) ?_;rintro V' i _-rfl;exact .pure rfl
def ye(t:TypeId):X.Img Eq V (isAgg t) (isAgg t):=by
 refine .bind (Zj t) ?_;rintro V' i _-rfl;split<;>exact .pure rfl
def Cx.Rv(X:Cx)(a b:Value):Prop:=b=ren X.ρ a
def Yh(ρ:Nat->Nat)(cs:Array Value):ren ρ (.agg cs)=.agg (cs.map (ren ρ)):=by simp[ren]
theorem Xy(ρ:Nat->Nat)(cs:Array Value):ren ρ (.tuple cs)=.tuple (cs.map (ren ρ)):=by simp[ren]
@[simp] theorem ZU(ρ:Nat->Nat)(k:IntKind)(n:Int):ren ρ (.int k n)=.int k n:=by simp[ren]
@[simp]def YH(ρ:Nat->Nat)(b:Bool):ren ρ (.bool b)=.bool b:=by simp[ren]
@[simp] theorem Vi(ρ:Nat->Nat)(b:ByteArray):ren ρ (.string b)=.string b:=by simp[ren]
@[simp] theorem Yi(ρ:Nat->Nat)(a:Addr):ren ρ (.pointer (some a))=.pointer (some (renA ρ a)):=by simp[ren]
@[simp]def Xx(ρ:Nat->Nat):ren ρ (.pointer none)=.pointer none:=by simp[ren]
@[simp]def X7(ρ:Nat->Nat)(t:TypeId)(v:Value):ren ρ (.iface t v)=.iface t (ren ρ v):=by simp[ren]
@[simp] theorem ZI(ρ:Nat->Nat):ren ρ .nilIface=.nilIface:=by simp[ren]
@[simp]def Vh(ρ:Nat->Nat):ren ρ .nilFunc=.nilFunc:=by simp[ren]
def X8(ρ:Nat->Nat):ren ρ undef=undef:=by simp[undef,Xy]
theorem YO(ρ:Nat->Nat)(v:Value):(ren ρ v).cells=v.cells.map (ren ρ):=by
 cases v with
 |agg c=>rw[Yh];rfl
 |pointer a=>cases a<;>simp[ren,Value.cells]
 |slice a n c=>cases a<;>simp[ren,Value.cells]
 |map r=>cases r<;>simp[ren,Value.cells]
 |chan r=>cases r<;>simp[ren,Value.cells]
 |_=>simp[ren,Value.cells]
def Vg(ρ:Nat->Nat)(a:Addr)(n:Nat):(renA ρ a).add n=renA ρ (a.add n):=by
 grind [Addr.add,renA]
def Bc(a:Addr):X.Img X.Rv V (load a) (load (renA X.ρ a)):=.load λv=>.pure rfl
def yg(a:Addr)(n:Nat):∀(V:List Nat) (i:Nat) (acc:Array Value),X.Img (λx y=>y=x.map (ren X.ρ)) V (loadCellsFrom a i n acc) (loadCellsFrom (renA X.ρ a) i n (acc.map (ren X.ρ))):=by
 induction n with
 |zero=>intro V i acc;exact .pure rfl
 |succ n ih=>
  intro V i acc;unfold loadCellsFrom;rw[Vg];refine .bind (Bc _) ?_;rintro V' v _-rfl;have:=ih V' (i+1) (acc.push v);simp_all
def Tv(a:Addr)(n:Nat):X.Img (λx y=>y=x.map (ren X.ρ)) V (loadCells a n) (loadCells (renA X.ρ a) n):=by
 have:=yg (X:=X) a n V 0 #[];rw[show(#[]:Array Value).map (ren X.ρ)=#[]by simp]at this;exact this
def XV(t:TypeId)(a:Addr):X.Img X.Rv V (loadVar t a) (loadVar t (renA X.ρ a)):=by
 refine .bind (ye t) ?_;rintro V' b _-rfl;split
 ·refine .bind (ZK t) ?_;rintro V' n _-rfl;refine .bind (Tv a n) ?_;rintro V' cs _-rfl;exact .pure (Yh _ _).symm
 ·exact Bc a
def YL(a:Addr)(vs:List Value):∀(V:List Nat) (i:Nat),X.Img Eq V (storeCells a vs i) (storeCells (renA X.ρ a) (vs.map (ren X.ρ)) i):=by
 induction vs with
 |nil=>intro V i;exact .pure rfl
 |cons v vs ih=>
  intro V i;unfold storeCells;simp only[Z4T];rw[Vg];refine .bind (RA:=Eq) (.store (.pure rfl)) ?_;simp_all
def yj(t:TypeId)(a:Addr)(v:Value):X.Img Eq V (storeVar t a v) (storeVar t (renA X.ρ a) (ren X.ρ v)):=by
 refine .bind (ZK t) ?_;rintro V' n _-rfl;rw[YO];simp only[Z7p];split
 ·exact Z3 _ _
 simp_all[YL]
def still:Nat->Value->Bool
 |0,_=>false
 |n+1,v=>match v with
  |.bool _|.int .. |.float .. |.complex .. |.string _|.pointer none|.slice none _ _|.map none|.chan none|.nilFunc|.nilIface=>true
  |.func (.func _) a b=>a.isEmpty&&b.isEmpty
  |.iface _ v=>still n v
  |.agg cs=>cs.all (still n)
  |.tuple cs=>cs.all (still n)
  |_=>false
def Vb{α:Type}{f:α->α}{cs:Array α}(h:∀x∈cs,f x=x):cs.map f=cs:=by
 grind
def VV(ρ:Nat->Nat):∀(n:Nat) (v:Value),still n v=true->ren ρ v=v
 |0,_,h=>Z3V
 |n+1,v,h=>by
  cases v with
  |pointer a=>cases a<;>first|(simp[still]at h;done)|simp[ren]
  |slice a _ _=>cases a<;>first|(simp[still]at h;done)|simp[ren]
  |map a=>cases a<;>first|(simp[still]at h;done)|simp[ren]
  |chan a=>cases a<;>first|(simp[still]at h;done)|simp[ren]
  |func fn a b=>
   cases fn<;>first|(simp[still]at h;done)|skip
   simp only[still,Z4x,Array.isEmpty_iff]at h;obtain⟨rfl,rfl⟩:=h;simp[ren,WL]
  |iface t v=>simp only[ren];rw[VV ρ n v (by simpa[still]using h)]
  |agg cs=>
   rw[Yh,Vb λx hx=>VV ρ n x ?_];simp only[still,Z6p]at h;exact h x hx
  |tuple cs=>
   rw[Xy,Vb λx hx=>VV ρ n x ?_];simp only[still,Z6p]at h;exact h x hx
  |_=>simp[ren]
def Cx.Zero(X:Cx):Prop:=∀t i z,X.Q.info? t=some i->i.zero=some z->ren X.ρ z=z
def Xn(hz:X.Zero)(t:TypeId):X.Img (λa b=>a=b/\ren X.ρ a=a) V (zeroValue t) (zeroValue t):=by
 have h1:X.Img (λa b=>a=b/\X.Q.info? t=some a) V (typeInfo t) (typeInfo t):=by
  refine .bind Zr ?_;rintro V' _ _- ⟨rfl,rfl⟩;rw[X.P_info t];split
  ·exact .pure ⟨rfl,by assumption⟩
  ·exact Z3 _ _
 refine .bind h1 ?_;rintro V' i _- ⟨rfl,hi⟩;cases hz':i.zero with
 |none=>simp_all[Zm]
 |some z=>exact .pure ⟨rfl,hz t i z hi hz'⟩
theorem XW{α β:Type}{RA:α->β->Prop}{v v':Value}(h:ren X.ρ v=v'):X.Img RA V (goPanic v) (goPanic v'):=by subst h;exact .panic v
def Y6{α β:Type}{RA:α->β->Prop}:X.Img RA V (runtimePanic .nilDeref) (runtimePanic .nilDeref):=by
 refine .bind Zr ?_;rintro V' _ _- ⟨rfl,rfl⟩;exact XW (by simp[strVal];rfl)
theorem Kt{α β:Type}{RA:α->β->Prop}(x y:Int)(s:Bool)(c:BoundsCode):X.Img RA V (runtimePanic (.bounds x y s c)) (runtimePanic (.bounds x y s c)):=by
 refine .bind Zr ?_;rintro V' _ _- ⟨rfl,rfl⟩;exact XW (by simp[Yh];rfl)
def Ym{α β:Type}{RA:α->β->Prop}(m:String):X.Img RA V (runtimePanic (.error m)) (runtimePanic (.error m)):=by
 refine .bind Zr ?_;rintro V' _ _- ⟨rfl,rfl⟩;exact XW (by simp[strVal];rfl)
theorem UR{α β:Type}{RA:α->β->Prop}(m:String):X.Img RA V (runtimePanic (.plain m)) (runtimePanic (.plain m)):=by
 refine .bind Zr ?_;rintro V' _ _- ⟨rfl,rfl⟩;exact XW (by simp[strVal];rfl)
def Y2(q:Question):X.Img Eq V (choose q) (choose q):=.choose λn=>.pure rfl
theorem YB{α β:Type}{RA:α->β->Prop}(k:IntKind)(x y:Int)(c:BoundsCode):X.Img RA V (boundsPanic k x y c) (boundsPanic k x y c):=by
 unfold boundsPanic;dsimp only;cases(k !=.u64&&decide (0<=x)&&decide (x<=31))
 ·grind [Kt]
 ·refine .bind (RA:=Eq) (.bind (Y2 _) ?_) ?_
  ·rintro V' n _-rfl;exact .pure rfl
  ·rintro V' b _-rfl
   grind [Kt]
def V8(v:Value):X.Img Eq V (asIntOf v) (asIntOf (ren X.ρ v)):=by
 cases v with
 |int k n=>rw[ZU];exact .pure rfl
 |pointer a=>cases a<;>first|exact Zm (λ_ h=>Z3V) _|exact Z3 _ _
 |_=>exact Z3 _ _
def VI(v:Value):X.Img Eq V (asInt v) (asInt (ren X.ρ v)):=by
 refine .bind (V8 v) ?_;rintro V' n _-rfl;exact .pure rfl
def Sq(v:Value):X.Img Eq V (asBool v) (asBool (ren X.ρ v)):=by
 cases v with
 |bool b=>rw[YH];exact .pure rfl
 |_=>exact Z3 _ _
def Es(v:Value):X.Img (λa b=>b=a.map (ren X.ρ)) V (asAgg v) (asAgg (ren X.ρ v)):=by
 cases v with
 |agg c=>rw[Yh];exact .pure rfl
 |_=>exact Z3 _ _
def Sp(v:Value):X.Img (λa b=>b=renA X.ρ a) V (asAddr v) (asAddr (ren X.ρ v)):=by
 cases v with
 |pointer a=>
  cases a with
  |none=>rw[Xx];exact Y6
  |some a=>rw[Yi];exact .pure rfl
 |_=>exact Z3 _ _
def Wg(v:Value):X.Img (λa b=>b=renA X.ρ a) V (Instr.sureAddr v) (Instr.sureAddr (ren X.ρ v)):=by
 cases v with
 |pointer a=>
  cases a with
  |none=>exact Z3 _ _
  |some a=>rw[Yi];exact .pure rfl
 |_=>exact Z3 _ _
def Kw(e:TypeId)(cs:Array Value):X.Img (λa b=>b=renA X.ρ a) V (newRow e cs) (newRow e (cs.map (ren X.ρ))):=
 .new (o:=.cells cs e) trivial (λ_ _ _ h=>Z3L) λr=>.pure rfl
def Sv(t:TypeId)(v:Value):X.Img (λa b=>b=renA X.ρ a) V (newVar t v) (newVar t (ren X.ρ v)):=by
 simp_all[newVar,YO,Kw]
def RQ(t:TypeId)(cs:Array Value)(off:Nat):X.Img X.Rv V (part t cs off) (part t (cs.map (ren X.ρ)) off):=by
 refine .bind (ye t) ?_;rintro V' b _-rfl;split
 ·refine .bind (ZK t) ?_;rintro V' n _-rfl;refine .pure ?_;show _=ren _ _;simp_all[Yh]
 ·rw[Z50];cases cs[off]? with
  |none=>exact Z3 _ _
  |some v=>exact .pure rfl
end
end
section
section
variable {X:Cx}{V:List Nat}
def Er(hz:X.Zero)(t:TypeId):X.Img X.Rv V (Instr.alloc t true (.tuple #[])) (Instr.alloc t true (.tuple #[])):=by
 refine .bind (Xn hz t) ?_;rintro V' z _- ⟨rfl,hz'⟩;have h:=Sv (X:=X) (V:=V') t z;rw[hz']at h;refine .bind h ?_;rintro V'' a _-rfl;exact .pure (Yi _ _).symm
def Nh(t:TypeId)(v:Value):X.Img X.Rv V (Instr.box t v) (Instr.box t (ren X.ρ v)):=by
 refine .bind (Sv t v) ?_;rintro V'' a _-rfl;exact .pure (Yi _ _).symm
def Cs(t:TypeId)(v:Value):X.Img X.Rv V (Instr.loadAt t v) (Instr.loadAt t (ren X.ρ v)):=by
 refine .bind (Wg v) ?_;rintro V'' a _-rfl;exact XV t a
theorem jE(t:TypeId)(v x:Value):X.Img Eq V (Instr.storeAt t v x) (Instr.storeAt t (ren X.ρ v) (ren X.ρ x)):=by
 refine .bind (Wg v) ?_;rintro V'' a _-rfl;exact yj t a x
def jy(v:Value)(i:Nat):X.Img X.Rv V (Instr.extract v i) (Instr.extract (ren X.ρ v) i):=by
 cases v with
 |tuple vs=>
  rw[Xy];unfold Instr.extract;simp only[Z50];cases vs[i]? with
  |none=>exact Z3 _ _
  |some v=>exact .pure rfl
 |_=>exact Z3 _ _
def Su(t:TypeId)(v:Value):X.Img X.Rv V (Instr.makeInterface t v) (Instr.makeInterface t (ren X.ρ v)):=by
 refine .bind (Zj t) ?_;rintro V' d _-rfl;split
 ·exact Z3 _ _
 ·exact .pure (X7 _ _ _).symm
def jB(t:TypeId)(r:Option Value):X.Img X.Rv V (Instr.makeMap t r) (Instr.makeMap t (r.map (ren X.ρ))):=by
 have key:∀V,X.Img X.Rv V (do pure (.map (some (<-newObj (.map #[] 0)))):Sem Value) (do pure (.map (some (<-newObj (.map #[] 0)))):Sem Value):=λV=>by
  have h:X.Img (λa b=>b=X.ρ a) V (newObj (.map #[] 0)) (newObj (renO X.ρ (.map #[] 0))):=.new (o:=.map #[] 0) trivial (λ_ _ _ h=>Z3V) λr=>.pure rfl;rw[show renO X.ρ (.map #[] 0)=.map #[] 0 by simp[renO]]at h;refine .bind h ?_;rintro V' r _-rfl;exact .pure (by simp only[Cx.Rv,ren])
 cases r with
 |none=>exact key V
 |some x=>
  refine .bind (Zj t) ?_;rintro V' d _-rfl;cases d<;>first|exact Z3 _ _|skip
  refine .bind (VI x) ?_;simp_all
theorem EH(t:TypeId)(x:Value)(f:Nat):X.Img X.Rv V (Instr.field t x f) (Instr.field t (ren X.ρ x) f):=by
 refine .bind (Zj t) ?_;rintro V' d _-rfl;cases d<;>first|exact Z3 _ _|skip
 rename_i fields;dsimp only;cases fields[f]? with
 |none=>exact Z3 _ _
 |some g=>
  refine .bind (Es x) ?_;rintro V' cs _-rfl;exact RQ _ _ _
theorem EI(t:TypeId)(x i:Value):X.Img X.Rv V (Instr.index t x i) (Instr.index t (ren X.ρ x) (ren X.ρ i)):=by
 refine .bind (V8 i) ?_;rintro V' ⟨k,n⟩ _-rfl;refine .bind (Zj t) ?_;rintro V' d _-rfl;cases d<;>first|exact Z3 _ _|skip
 ·cases x<;>first|exact Z3 _ _|skip
  rw[Vi];dsimp only;split
  ·exact .pure Z4p
  simp_all[YB]
 ·cases x<;>first|exact Z3 _ _|skip
  rw[Yh];dsimp only;split
  ·refine .bind (ZK _) ?_;rintro V' m _-rfl;exact RQ _ _ _
  simp_all[YB]
def JU(x:Value)(y:Nat)(c:BoundsCode):X.Img Eq V (Instr.sliceBound x y c) (Instr.sliceBound (ren X.ρ x) y c):=by
 refine .bind (V8 x) ?_;rintro V' ⟨k,n⟩ _-rfl;dsimp only;split
 ·exact .pure rfl
 simp_all[YB]
def QP(b:Bool)(n c:Nat)(l h m:Option Value):X.Img Eq V (Instr.sliceBounds b n c l h m) (Instr.sliceBounds b n c (l.map (ren X.ρ)) (h.map (ren X.ρ)) (m.map (ren X.ρ))):=by
 unfold Instr.sliceBounds;cases m<;>cases h<;>cases l
 all_goals
  simp only[Z6W,Z4K]
  repeat' first
   |exact .pure rfl
   |exact Z3 _ _
   |(refine .bind (JU _ _ _) ?_;rintro _ _ _-rfl)
   |(refine .bind (RA:=Eq) (.pure rfl) ?_;rintro _ _ _-rfl)
theorem EK(t:TypeId)(x:Value)(l h m:Option Value)(hs:∃e,X.Q.underlying t=some (.slice e)):X.Img X.Rv V (Instr.sliceAt t x l h m) (Instr.sliceAt t (ren X.ρ x) (l.map (ren X.ρ)) (h.map (ren X.ρ)) (m.map (ren X.ρ))):=by
 obtain⟨e,hs⟩:=hs
 have hu:∀V,X.Img (λa b=>a=b/\a=.slice e) V (underlying t) (underlying t):=λV=>by
  refine .bind Zr ?_;rintro V' _ _- ⟨rfl,rfl⟩;rw[X.P_under t];rw[hs];exact .pure ⟨rfl,rfl⟩
 refine .bind (hu V) ?_;rintro V1 d _- ⟨rfl,rfl⟩;refine .bind (hu V1) ?_;rintro V2 d _- ⟨rfl,rfl⟩;cases x<;>first|exact Z3 _ _|skip
 rename_i a n c
 have key:∀(V:List Nat) (b:Option Addr),X.Img X.Rv V (do
   let(l,h,m)<-Instr.sliceBounds true n c l h m
   let size<-sizeOf e
   pure (.slice (if m=l then a else a.map (·.add (l*size))) (h-l) (m-l)):Sem Value) (do
   let(l,h,m)<-Instr.sliceBounds true n c (l.map (ren X.ρ)) (h.map (ren X.ρ)) (m.map (ren X.ρ))
   let size<-sizeOf e
   pure (.slice (if m=l then a.map (renA X.ρ)else(a.map (renA X.ρ)).map (·.add (l*size))) (h-l) (m-l)):Sem Value):=λV b=>by
  refine .bind (QP _ _ _ _ _ _) ?_;rintro V3 ⟨l',h',m'⟩ _-rfl;refine .bind (ZK e) ?_;rintro V4 k _-rfl;refine .pure ?_;show _=ren _ _;split<;>cases a<;>simp[ren,Vg]
 have e0:ren X.ρ (.slice a n c)=.slice (a.map (renA X.ρ)) n c:=by cases a<;>simp[ren]
 simp_all
def YQ(e:TypeId)(cs:Array Value)(n c:Nat):X.Img X.Rv V (do pure (.slice (some (<-newRow e cs)) n c):Sem Value) (do pure (.slice (some (<-newRow e (cs.map (ren X.ρ)))) n c):Sem Value):=by
 refine .bind (Kw e cs) ?_;rintro V' a _-rfl;exact .pure (by simp only[Cx.Rv,ren])
def ZD(t:TypeId):X.Img (λa b=>a=b/\X.Q.underlying t=some a) V (underlying t) (underlying t):=by
 refine .bind Zr ?_;rintro V' _ _- ⟨rfl,rfl⟩;rw[X.P_under t];split
 ·exact .pure ⟨rfl,by assumption⟩
 ·exact Z3 _ _
theorem jA(t:TypeId)(x i:Value):X.Img X.Rv V (Instr.indexAt t x i) (Instr.indexAt t (ren X.ρ x) (ren X.ρ i)):=by
 have fin:∀(V:List Nat) (k:IntKind) (n:Int) (base:Option Addr) (len:Nat) (elem:TypeId),X.Img X.Rv V (do
   let tiny:=len<=1&&(match<-underlying t with|.array .. =>true|_=>false)
   match base with
   |some a=>
    if 0<=n/\n<len then pure (.pointer (some (a.add (n.toNat*(<-sizeOf elem)))))
    else if tiny then unsupported (.noEntry "op/indexAddr.an index out of range at an array of length 0 or 1 (ledger 616)")
    else boundsPanic k n len .index
   |none=>boundsPanic k n 0 .index:Sem Value) (do
   let tiny:=len<=1&&(match<-underlying t with|.array .. =>true|_=>false)
   match base.map (renA X.ρ)with
   |some a=>
    if 0<=n/\n<len then pure (.pointer (some (a.add (n.toNat*(<-sizeOf elem)))))
    else if tiny then unsupported (.noEntry "op/indexAddr.an index out of range at an array of length 0 or 1 (ledger 616)")
    else boundsPanic k n len .index
   |none=>boundsPanic k n 0 .index:Sem Value):=λV k n base len elem=>by
  refine .bind (Zj t) ?_;rintro V1 d _-rfl;cases base with
  |none=>grind [YB]
  |some a=>
   simp only[Z4K];split
   ·refine .bind (ZK elem) ?_;rintro V2 m _-rfl;rw[Vg];exact .pure (Yi _ _).symm
   ·generalize (decide (len<=1)&&_)=tiny;cases tiny;simp_all[YB]
    ·exact Zm (λ_ h=>Z3V) _
 refine .bind (V8 i) ?_;rintro V1 ⟨k,n⟩ _-rfl;refine .bind (Zj t) ?_;rintro V2 d _-rfl;cases d<;>first|exact Z3 _ _|skip
 ·rename_i elem;cases x<;>first|exact Z3 _ _|skip
  rename_i a n' c;have e0:ren X.ρ (.slice a n' c)=.slice (a.map (renA X.ρ)) n' c:=by cases a<;>simp[ren]
  rw[e0];exact fin V2 k n a n' elem
 ·rename_i len elem;dsimp only;refine .bind (Wg x) ?_;rintro V3 a _-rfl;exact fin V3 k n (some a) len elem
theorem Cx.Img.map{α β γ δ:Type}{RA:α->β->Prop}{RB:γ->δ->Prop}{s:Sem α}{s':Sem β}{f:α->γ}{g:β->δ}(h:X.Img RA V s s')(hf:∀a b,RA a b->RB (f a) (g b)):X.Img RB V (f<$>s) (g<$>s'):=by
 rw[Z78,Z78];exact .bind h λV' a b _ r=>.pure (hf a b r)
def Bd{α β:Type}{f:α->Sem β}(hf:∀V a,X.Img Eq V (f a) (f a)):∀(l:List α) (V:List Nat),X.Img Eq V (l.mapM f) (l.mapM f)
 | [],V=>by simp only[Z7z];exact .pure rfl
 |a::l,V=>by
  simp only[Z6N];refine .bind (hf V a) ?_;rintro V1 b _-rfl;refine .bind (Bd hf l V1) ?_;rintro V2 bs _-rfl;exact .pure rfl
theorem map_set{α β:Type}(g:α->β)(cs:Array α)(i:Nat)(c:α):(cs.map g).setIfInBounds i (g c)=(cs.setIfInBounds i c).map g:=by
 simp
def B5(ρ:Nat->Nat)(off:Nat):∀(l:List Value) (k:Nat) (cs:Array Value),
  ((l.map (ren ρ)).zipIdx k).foldl (λcs (x:Value×Nat)=>cs.setIfInBounds (off+x.2) x.1) (cs.map (ren ρ))=((l.zipIdx k).foldl (λcs (x:Value×Nat)=>cs.setIfInBounds (off+x.2) x.1) cs).map (ren ρ)
 | [],_,_=>rfl
 |v::l,k,cs=>by
  simp only[Z4T,Z8c,Z6i];rw[map_set];exact B5 ρ off l (k+1) _
def Lp(ρ:Nat->Nat)(place:Nat->Option (Nat×Nat)):∀(parts:List (Nat×Value)) (cs:Array Value),
  Instr.fill place (cs.map (ren ρ)) (parts.map λp=>(p.1,ren ρ p.2))=(Instr.fill place cs parts).map λc=>c.map (ren ρ)
 | [],cs=>rfl
 | (i,v)::rest,cs=>by
   simp only[Z4T,Instr.fill];cases place i with
   |none=>rfl
   |some q=>
    obtain⟨off,size⟩:=q;dsimp only;rw[YO];simp only[Z7p];split
    ·rfl
    ·rw[<-Lp ρ place rest];congr 1;rw[<-Z6P,<-Z6P,Array.toList_zipIdx,Array.toList_zipIdx,Z5C];simp_all[B5]
def EB(hz:X.Zero)(t:TypeId)(parts:Array (Nat×Value)):X.Img X.Rv V (Instr.build t parts) (Instr.build t (parts.map λp=>(p.1,ren X.ρ p.2))):=by
 refine .bind (Xn hz t) ?_;rintro V1 z _- ⟨rfl,hz'⟩;have hzc:z.cells.map (ren X.ρ)=z.cells:=by rw[<-YO,hz']
 refine .bind (Zj t) ?_;rintro V2 d _-rfl
 have fin:∀(V:List Nat) (place:Nat->Option (Nat×Nat)) (why:String),X.Img X.Rv V (do
   let some cells:=Instr.fill place z.cells parts.toList|stuck why
   pure (.agg cells):Sem Value) (do
   let some cells:=Instr.fill place z.cells (parts.map λp=>(p.1,ren X.ρ p.2)).toList|stuck why
   pure (.agg cells):Sem Value):=λV place why=>by
  have:=Lp X.ρ place parts.toList z.cells;rw[hzc]at this;rw[Z5C,this];cases Instr.fill place z.cells parts.toList with
  |none=>exact Z3 _ _
  |some cs=>exact .pure (Yh _ _).symm
 cases d<;>first|exact Z3 _ _|skip
 ·refine .bind (ZK _) ?_;rintro V3 n _-rfl;exact fin V3 _ _
 ·rename_i fields;dsimp only;rw[Z5Y];refine .bind (RA:=Eq) (.map (Bd (λV f=> ?_) _ _) λa b h=>by rw[h]) ?_
  ·refine .bind (ZK _) ?_;rintro V3 n _-rfl;exact .pure rfl
  ·rintro V3 places _-rfl;exact fin V3 _ _
end
end
section
section
variable {X:Cx}{V:List Nat}
def JS(hz:X.Zero)(t:TypeId)(n:Nat)(parts:Array (Nat×Value)):X.Img X.Rv V (Instr.buildSlice t n parts) (Instr.buildSlice t n (parts.map λp=>(p.1,ren X.ρ p.2))):=by
 refine .bind (Zj t) ?_;rintro V1 d _-rfl;cases d<;>first|exact Z3 _ _|skip
 rename_i elem;dsimp only;refine .bind (ZK _) ?_;rintro V2 k _-rfl
 have fin:∀(V:List Nat) (zero:Array Value),zero.map (ren X.ρ)=zero->X.Img X.Rv V (do
   let some cells:=Instr.fill (λi=>some (i*k,k)) ((Array.range (n*k)).map (zero[· %zero.size]!)) parts.toList|stuck "buildSlice: a part of the wrong size"
   pure (.slice (some (<-newRow elem cells)) n n):Sem Value) (do
   let some cells:=Instr.fill (λi=>some (i*k,k)) ((Array.range (n*k)).map (zero[· %zero.size]!)) (parts.map λp=>(p.1,ren X.ρ p.2)).toList|stuck "buildSlice: a part of the wrong size"
   pure (.slice (some (<-newRow elem cells)) n n):Sem Value):=λV zero h0=>by
  have h1:((Array.range (n*k)).map (zero[· %zero.size]!)).map (ren X.ρ)=(Array.range (n*k)).map (zero[· %zero.size]!):=by
   refine Vb λx hx=> ?_;obtain⟨i,_,rfl⟩:=Z7c.1 hx;by_cases hi:i%zero.size<zero.size
   ·rw[Z8H zero _ hi];have h2:(zero.map (ren X.ρ))[i%zero.size]?=zero[i%zero.size]? :=by rw[h0]
    rw[Z50,Z4X hi]at h2;exact Z6c h2
   ·rw[Z8G zero _ hi];have e:(default:Value)=.bool default:=rfl;rw[e,YH]
  have:=Lp X.ρ (λi=>some (i*k,k)) parts.toList ((Array.range (n*k)).map (zero[· %zero.size]!));rw[h1]at this;rw[Z5C,this];cases Instr.fill (λi=>some (i*k,k)) ((Array.range (n*k)).map (zero[· %zero.size]!)) parts.toList with
  |none=>exact Z3 _ _
  |some cs=>exact YQ elem cs n n
 split
 ·exact Zm (λ_ h=>Z3V) _
 split
 ·exact fin V2 #[] Z1
 ·refine .bind (Xn hz elem) ?_;rintro V3 z _- ⟨rfl,hz'⟩;exact fin V3 z.cells (by rw[<-YO,hz'])
def JV(hz:X.Zero)(x:Value)(a b:TypeId)(hb:∀m,X.Q.underlying b≠some (.interface m)):X.Img X.Rv V (Instr.typeAssert x a b true) (Instr.typeAssert (ren X.ρ x) a b true):=by
 have fails:∀V,X.Img X.Rv V (do pure (.tuple #[<-zeroValue b,.bool false]):Sem Value) (do pure (.tuple #[<-zeroValue b,.bool false]):Sem Value):=λV=>by
  refine .bind (Xn hz b) ?_;rintro V3 z _- ⟨rfl,hz'⟩;exact .pure (by simp[Cx.Rv,Xy,hz'])
 refine .bind (ZD b) ?_;rintro V1 d _- ⟨rfl,hd⟩;cases d<;>first|exact absurd hd (hb _)|skip
 all_goals
  cases x<;>first|exact Z3 _ _|skip
  ·rename_i t v;rw[X7];dsimp only;split
   ·exact .pure (by simp[Cx.Rv,Xy])
   ·exact fails V1
  ·rw[ZI];exact fails V1
theorem jw(a b:TypeId)(x:Value)(ha:∃k,X.Q.underlying a=some (.int k))(hb:∃k,X.Q.underlying b=some (.int k)):X.Img X.Rv V (convert a b x) (convert a b (ren X.ρ x)):=by
 obtain⟨ka,ha⟩:=ha;obtain⟨kb,hb⟩:=hb;refine .bind (ZD a) ?_;rintro V1 d _- ⟨rfl,hd⟩;rw[ha]at hd;cases hd;refine .bind (ZD b) ?_;rintro V2 d _- ⟨rfl,hd⟩;rw[hb]at hd;cases hd;cases x<;>first|exact Zm (λ_ h=>Z3V) _|skip
 ·rw[ZU];exact .pure Z4p
 ·rename_i s b;simp only[ren];unfold Conv.floatToInt
  repeat' first
   |exact .pure Z4p
   |(refine .bind (Y2 _) ?_;rintro _ _ _-rfl)
   |split
 ·rename_i p;cases p<;>exact Zm (λ_ h=>Z3V) _
end
end
section
section
variable {X:Cx}{V:List Nat}
def Cr{α β:Type}{RA:α->β->Prop}{r:Nat}{f:Array MapEntry->Nat->Sem α}{f':Array MapEntry->Nat->Sem β}(why:String)(hf:∀es k,X.Img RA (r::V) (f es k) (f' (es.map (renE X.ρ)) k)):
  X.Img RA V (do let .map es k<-getObj r|stuck why
                 f es k) (do let .map es k<-getObj (X.ρ r)|stuck why
                             f' es k):=by
 refine .get (λw=>⟨_,w,rfl,trivial⟩) λo ho=> ?_;cases o<;>first|exact hf _ _|exact Z3 _ _
def Nl(t:TypeId)(ty:TypeId)(ts:Array TypeId)(x:Value)(ht:ts[0]?=some t)(hd:(∃e,X.Q.underlying t=some (.slice e))\/(∃a b,X.Q.underlying t=some (.map a b))\/∃n e,X.Q.underlying t=some (.array n e)):
  X.Img X.Rv V (Builtin.len_ ts ty #[x]) (Builtin.len_ ts ty #[ren X.ρ x]):=by
 unfold Builtin.len_;have e:∀y:Value,(#[y]:Array Value)[0]?=some y:=λ_=>rfl;simp only[ht,e];refine .bind (ZD t) ?_;rintro V1 d _- ⟨rfl,h⟩;obtain⟨e,h'⟩|⟨a,b,h'⟩|⟨n,e,h'⟩:=hd<;>rw[h']at h<;>cases h
 ·cases x<;>first|exact Z3 _ _|skip
  rename_i a n c;have e0:ren X.ρ (.slice a n c)=.slice (a.map (renA X.ρ)) n c:=by cases a<;>simp[ren]
  rw[e0];exact .pure (by simp[Cx.Rv,goInt])
 ·cases x<;>first|exact Z3 _ _|skip
  rename_i r;cases r with
  |none=>simp only[ren];exact .pure (by simp[Cx.Rv,goInt])
  |some r=>
   simp only[ren];refine Cr _ λes k=>.pure ?_;simp[Cx.Rv,goInt]
 ·exact .pure (by simp[Cx.Rv,goInt])
def Ui(ρ:Nat->Nat)(v:Value):(∃k n,v=.int k n)\/((∀k n,v≠.int k n)/\∀k n,ren ρ v≠.int k n):=by
 cases v with
 |int k n=>simp
 |pointer a=>cases a<;>exact .inr ⟨λ_ _ h=>Z3V,λ_ _ h=>(by simp[ren]at h)⟩
 |slice a n c=>cases a<;>exact .inr ⟨λ_ _ h=>Z3V,λ_ _ h=>(by simp[ren]at h)⟩
 |map r=>cases r<;>exact .inr ⟨λ_ _ h=>Z3V,λ_ _ h=>(by simp[ren]at h)⟩
 |chan r=>cases r<;>exact .inr ⟨λ_ _ h=>Z3V,λ_ _ h=>(by simp[ren]at h)⟩
 |_=>exact .inr ⟨λ_ _ h=>Z3V,λ_ _ h=>(by simp[ren]at h)⟩
def qz{k:IntKind}{a b:Value}(h:∀k n,a≠.int k n):Instr.sameNow (.int k) a b=none:=by
 cases a<;>first|rfl|simp_all
def qA{k:IntKind}{a b:Value}(h:∀k n,b≠.int k n):Instr.sameNow (.int k) a b=none:=by
 cases a<;>first|rfl|(cases b<;>first|rfl|simp_all)
def Ap(ρ:Nat->Nat)(k:IntKind)(a b:Value):Instr.sameNow (.int k) (ren ρ a) (ren ρ b)=Instr.sameNow (.int k) a b:=by
 obtain⟨ka,na,rfl⟩|⟨h1,h2⟩:=Ui ρ a
 ·obtain⟨kb,nb,rfl⟩|⟨h3,h4⟩:=Ui ρ b
  ·simp
  simp_all[qA]
 simp_all[qz]
def Qy(ρ:Nat->Nat)(k:IntKind)(a:Value):∀(es:List MapEntry) (i:Nat),Instr.findNow (.int k) (ren ρ a) (es.map (renE ρ)) i=(Instr.findNow (.int k) a es i).map λr=>r.map λp=>(p.1,ren ρ p.2)
 | [],i=>rfl
 |e::es,i=>by
  simp only[Z4T,Instr.findNow];rw[show(renE ρ e).key=ren ρ e.key from rfl,Ap];cases Instr.sameNow (.int k) a e.key with
  |none=>rfl
  |some b=>
   cases b
   ·simp_all[Qy]
   ·rfl
def R3(e:Bool)(n:Nat)(t:TypeId)(v:Value){k:IntKind}(ht:X.Q.underlying t=some (.int k)):X.Img Eq V (Instr.checkKey e (n+1) t v) (Instr.checkKey e (n+1) t (ren X.ρ v)):=by
 unfold Instr.checkKey;refine .bind (ZD t) ?_;rintro V1 d _- ⟨rfl,h⟩;rw[ht]at h;cases h;exact .pure rfl
def Ul(p:Program)(n:Addr)(w:World):(∃q,(behindNumber n).run p w=.ok q w)\/∃why,(behindNumber n).run p w=.halt (.stuck why) w:=by
 have h:(∃q,(numberAt n.block).run p w=.ok q w)\/∃why,(numberAt n.block).run p w=.halt (.stuck why) w:=by
  unfold numberAt;simp only[Z54,Z8D,Z51];cases hs:w.shape? n.block with
  |some x=>simp
  |none=>
   show(∃q,(Sem.getObj n.block _).run p w=.ok q w)\/_;obtain ho|⟨c,e,fr,ho⟩|⟨o,ho,hc⟩:=Tl w.heap[n.block]?
   ·simp_all[Sem.run,getObj,Bind.bind,Sem.bind]
   ·simp_all[Sem.run,getObj,Bind.bind,Sem.bind]
   ·rw[TS ho hc];cases o<;>exact .inl ⟨_,rfl⟩
 unfold behindNumber;simp only[Z54];obtain⟨q,h⟩|⟨why,h⟩:=h
 ·simp_all
 simp_all
def R4(n:Nat)(t:TypeId)(x y:Value){k:IntKind}(ht:X.Q.underlying t=some (.int k))(hg:X.Q.globals=#[])(hn:∀i u,X.Q.info? t=some i->i.desc≠.named "sync.copyChecker" u):
  X.Img (λa b=>a=b/\(a=true->∃k n,x=.int k n/\y=.int k n)) V (Op.equalIn (n+1) t x y) (Op.equalIn (n+1) t (ren X.ρ x) (ren X.ρ y)):=by
 have two:∀(V:List Nat) (a b:Addr) (s':Sem Bool),X.Img (λa b=>a=b/\(a=true->∃k n,x=.int k n/\y=.int k n)) V (do
   let(a,b):=((<-behindNumber a).1,(<-behindNumber b).1)
   if a.block==b.block&&a.block< (<-program).globals.size then return (<-byteOf a)==(<-byteOf b)
   let .named "sync.copyChecker" _:=(<-typeInfo t).desc|unsupported .addressObserved
   if a==b then pure true else unsupported .addressObserved:Sem Bool) s':=λV a b s'=>by
  refine .bad _ λw=> ?_;simp only[Z54];obtain⟨q,h⟩|⟨why,h⟩:=Ul X.Q a w
  ·rw[h];simp only[Z51,Z54];obtain⟨q',h'⟩|⟨why,h'⟩:=Ul X.Q b w
   ·rw[h'];simp only[Z51,Z6g,Z54,hg];have hf:(decide (q.1.block< (#[]:Array Global).size))=false:=Z1;simp only[hf,Bool.and_false,Z4G,Z5h,Z54];cases hi:X.Q.info? t with
    |none=>exact⟨.stuck "no such type",w,by simp[typeInfo,hi],trivial⟩
    |some i=>
     refine⟨.unsupported .addressObserved,w,?_,trivial⟩;simp only[typeInfo,hi,Z54,Z6g,Z51,Z6E];split
     ·rename_i u e;exact absurd e (hn i _ hi)
     ·rfl
   ·rw[h'];exact⟨_,_,rfl,trivial⟩
  ·rw[h];exact⟨_,_,rfl,trivial⟩
 unfold Op.equalIn;refine .bind (ZD t) ?_;rintro V1 d _- ⟨rfl,h⟩;rw[ht]at h;cases h;cases x with
 |pointer p=>
  cases p with
  |none=>cases y<;>exact Zm (λ_ h=>Z3V) _
  |some a=>
   cases y with
   |int k' m=>
    rw[Yi,ZU];obtain(_|m)|m:=m<;>first|exact .pure ⟨rfl,λh=>Z3V⟩|exact Zm (λ_ h=>Z3V) _
   |pointer q=>cases q<;>first|exact Zm (λ_ h=>Z3V) _|exact two _ _ _ _
   |_=>exact Zm (λ_ h=>Z3V) _
 |int k' m=>
  cases y with
  |int k2 m2=>
   rw[ZU,ZU];dsimp only;split
   ·rename_i e;subst e;exact .pure ⟨rfl,λh=>⟨k',m,rfl,by rw[eq_of_beq h]⟩⟩
   ·exact Z3 _ _
  |pointer q=>
   cases q with
   |none=>obtain(_|m)|m:=m<;>exact Zm (λ_ h=>Z3V) _
   |some b=>
    rw[Yi,ZU];obtain(_|m)|m:=m<;>first|exact .pure ⟨rfl,λh=>Z3V⟩|exact Zm (λ_ h=>Z3V) _
  |_=>exact Z3 _ _
 |_=>cases y<;>first|exact Z3 _ _|exact Zm (λ_ h=>Z3V) _
structure Cx.IntT (X:Cx) (t:TypeId) (k:IntKind):Prop where
 d:X.Q.underlying t=some (.int k)
 n:∀i u,X.Q.info? t=some i->i.desc≠.named "sync.copyChecker" u
def Hit(key:Value)(es:List MapEntry)(j:Nat)(r:Option (Nat×Value)):Prop:=∀i v,r=some (i,v)->j<=i/\∃e,es[i-j]?=some e/\∃k n,key=.int k n/\e.key=.int k n
def Hit.none(key:Value)(es:List MapEntry)(j:Nat):Hit key es j none:=λ_ _ h=>Z3V
def Hit.cons{key:Value}{es:List MapEntry}{j:Nat}{r:Option (Nat×Value)}(h:Hit key es (j+1) r)(e:MapEntry):Hit key (e::es) j r:=λi v hr=>by
 obtain⟨h1,e',h2,h3⟩:=h i v hr
 grind
def Hit.head{key:Value}{es:List MapEntry}{j:Nat}{e:MapEntry}(h:∃k n,key=.int k n/\e.key=.int k n):Hit key (e::es) j (some (j,e.val)):=λi v hr=>by
 simp_all
def qB{k:IntKind}{a b:Value}(h:Instr.sameNow (.int k) a b=some true):∃k n,a=.int k n/\b=.int k n:=by
 obtain⟨ka,na,rfl⟩|⟨h1,_⟩:=Ui id a
 ·obtain⟨kb,nb,rfl⟩|⟨h3,_⟩:=Ui id b
  ·simp only[Instr.sameNow]at h;simp_all
  simp_all[qA]
 simp_all[qz]
def Qx{k:IntKind}{key:Value}:∀(es:List MapEntry) (j:Nat) (r:Option (Nat×Value)),Instr.findNow (.int k) key es j=some r->Hit key es j r
 | [],j,r,h=>by
   simp only[Instr.findNow,Z4s]at h;subst h;exact .none _ _ _
 |e::es,j,r,h=>by
  simp only[Instr.findNow]at h;split at h
  ·rename_i hs;cases h;exact .head (qB hs)
  ·exact(Qx es (j+1) r h).cons e
  ·cases h
def Cx.Rk(X:Cx)(key:Value)(es:List MapEntry)(j:Nat)(a b:Option (Nat×Value)):Prop:=(b=a.map λp=>(p.1,ren X.ρ p.2))/\Hit key es j a
theorem UE(hg:X.Q.globals=#[]){t:TypeId}{k:IntKind}(ht:X.IntT t k)(key:Value):∀(es:List MapEntry) (i:Nat) (V:List Nat),
  X.Img (X.Rk key es i) V (Instr.findAsking t key es i) (Instr.findAsking t (ren X.ρ key) (es.map (renE X.ρ)) i)
 | [],i,V=>.pure ⟨rfl,.none _ _ _⟩
 |e::es,i,V=>by
  unfold Instr.findAsking;simp only[Z4T];refine .bind (R4 9999 t key e.key ht.d hg ht.n) ?_;rintro V1 b _- ⟨rfl,hb⟩;cases b
  ·have h:=UE hg ht key es (i+1) V1
   have h2:X.Img (X.Rk key (e::es) i) V1 (Instr.findAsking t key es (i+1)>>=λr=>pure r) (Instr.findAsking t (ren X.ρ key) (es.map (renE X.ρ)) (i+1)>>=λr=>pure r):=
    .bind h λ_ a b _ r=>.pure ⟨r.1,r.2.cons e⟩
   simp_all
  ·exact .pure ⟨rfl,.head (hb rfl)⟩
def QH(hg:X.Q.globals=#[]){t:TypeId}{k:IntKind}(ht:X.IntT t k)(key:Value)(es:List MapEntry):
  X.Img (X.Rk key es 0) V (Instr.findKey t key es) (Instr.findKey t (ren X.ρ key) (es.map (renE X.ρ))):=by
 unfold Instr.findKey;refine .bind (ZD t) ?_;rintro V1 d _- ⟨rfl,h⟩;rw[ht.d]at h;cases h;rw[Qy];cases hf:Instr.findNow (.int k) key es 0 with
 |none=>grind [UE]
 |some r=>exact .pure ⟨rfl,Qx es 0 r hf⟩
def Cu(hz:X.Zero)(hg:X.Q.globals=#[]){t a b:TypeId}{k:IntKind}(hm:X.Q.underlying t=some (.map a b))(ht:X.IntT a k)(x key:Value)(ok:Bool):X.Img X.Rv V (Instr.lookup t x key ok) (Instr.lookup t (ren X.ρ x) (ren X.ρ key) ok):=by
 have fin:∀(V:List Nat) (es:Array MapEntry),X.Img X.Rv V (do
   Instr.checkKey es.isEmpty 10000 a key
   let(v,o)<-match<-Instr.findKey a key es.toList with
    |some (_,v)=>pure (v,true)
    |none=>pure (<-zeroValue b,false)
   pure (if ok then .tuple #[v,.bool o]else v):Sem Value) (do
   Instr.checkKey (es.map (renE X.ρ)).isEmpty 10000 a (ren X.ρ key)
   let(v,o)<-match<-Instr.findKey a (ren X.ρ key) (es.map (renE X.ρ)).toList with
    |some (_,v)=>pure (v,true)
    |none=>pure (<-zeroValue b,false)
   pure (if ok then .tuple #[v,.bool o]else v):Sem Value):=λV es=>by
  have he:(es.map (renE X.ρ)).isEmpty=es.isEmpty:=by simp[Array.isEmpty]
  rw[he];refine .bind (R3 es.isEmpty 9999 a key ht.d) ?_;rintro V1 _ _- -;rw[Z5C];refine .bind (QH hg ht key es.toList) ?_;rintro V2 r _- ⟨rfl,-⟩;cases r with
  |none=>
   refine .bind (Xn hz b) ?_;rintro V3 z _- ⟨rfl,h⟩;refine .pure ?_;cases ok<;>simp[Cx.Rv,Xy,h]
  |some p=>
   refine .pure ?_;cases ok<;>simp[Cx.Rv,Xy]
 unfold Instr.lookup;refine .bind (ZD t) ?_;rintro V1 d _- ⟨rfl,h⟩;rw[hm]at h;cases h;cases x<;>first|exact Z3 _ _|skip
 rename_i r;cases r with
 |none=>
  simp only[ren];have:=fin V1 #[];simp only[Z8j]at this;exact this
 |some r=>
  simp only[ren];refine .get (λw=>⟨_,w,rfl,trivial⟩) λo ho=> ?_;cases o<;>first|exact fin _ _|exact Z3 _ _
def Tw(hg:X.Q.globals=#[]){t a b:TypeId}{k:IntKind}(hm:X.Q.underlying t=some (.map a b))(ht:X.IntT a k)(x key v:Value):X.Img Eq V (Instr.mapUpdate t x key v) (Instr.mapUpdate t (ren X.ρ x) (ren X.ρ key) (ren X.ρ v)):=by
 unfold Instr.mapUpdate;refine .bind (ZD t) ?_;rintro V1 d _- ⟨rfl,h⟩;rw[hm]at h;cases h;cases x<;>first|exact Z3 _ _|skip
 rename_i r;cases r with
 |none=>simp_all[ren,UR]
 |some r=>
  simp only[ren];refine .get (λw=>⟨_,w,rfl,trivial⟩) λo ho=> ?_;cases o<;>first|exact Z3 _ _|skip
  rename_i es clk;show X.Img Eq (r::V1) (Instr.checkKey false 10000 a key>>=_) (Instr.checkKey false 10000 a (ren X.ρ key)>>=_);refine .bind (R3 false 9999 a key ht.d) ?_;rintro V2 _ _ hV2-;rw[Z5C];refine .bind (QH hg ht key es.toList) ?_;rintro V3 f _ hV3 ⟨rfl,hit⟩;have hr:r∈V3:=hV3 _ (hV2 _ (Z58 ..));cases f with
  |none=>
   have:=Cx.Img.set (X:=X) (RA:=Eq) (V:=V3) (r:=r) (o:=.map (es.push {key,val:=v,born:=clk}) (clk+1)) (k:=.pure ()) (k':=.pure ()) hr trivial (λ_ _ _ h=>Z3V) (.pure rfl);simp only[renO,Array.map_push,renE]at this;exact this
  |some p=>
   obtain⟨i,v0⟩:=p;obtain⟨_,e,he,kk,n,rfl,hek⟩:=hit i v0 rfl;have hei:es[i]?=some e:=by simpa using he
   have hme:(es.map (renE X.ρ))[i]?=some (renE X.ρ e):=by rw[Z50,hei];rfl
   have hk:(renE X.ρ e).key=.int kk n:=by show ren X.ρ e.key=_;rw[hek,ZU]
   simp only[Z4K,hei,hme,Z4W,hek,hk,ZU]
   have stay:Instr.keyThatStays (.int kk n) (.int kk n)=pure (.int kk n):=by
    unfold Instr.keyThatStays;rw[if_pos (by simp[Instr.sameBits])]
   rw[stay]
   have hmod:(es.modify i λe=> {e with key:=.int kk n,val:=v}).map (renE X.ρ)=(es.map (renE X.ρ)).modify i λe=> {e with key:=.int kk n,val:=ren X.ρ v}:=by
    apply Array.ext_getElem?;intro j;simp only[Z50,YA];split
    ·simp_all[renE]
    ·rfl
   have:=Cx.Img.set (X:=X) (RA:=Eq) (V:=V3) (r:=r) (o:=.map (es.modify i λe=> {e with key:=.int kk n,val:=v}) clk) (k:=.pure ()) (k':=.pure ()) hr trivial (λ_ _ _ h=>Z3V) (.pure rfl);simp only[renO,hmod]at this;exact this
end
end
section
section
variable {X:Cx}{V:List Nat}
def BG(k:IntKind)(n:Int):X.Rv (.int k n) (.int k n):=Z4p
def Ao(b:Bool):X.Rv (.bool b) (.bool b):=Z4p
def Z0v(b:ByteArray):X.Rv (.string b) (.string b):=Z4p
theorem ya(op:BinOp)(k:IntKind)(x y:Int):X.Img X.Rv V (Op.intArith op k x y) (Op.intArith op k x y):=by
 unfold Op.intArith;split<;>first|exact .pure (BG _ _)|exact Z3 _ _
def Nj(op:BinOp)(k:IntKind)(x y:Int):X.Img X.Rv V (Op.intDiv op k x y) (Op.intDiv op k x y):=by
 unfold Op.intDiv;split
 ·exact Ym _
 ·split<;>first|exact .pure (BG _ _)|exact Z3 _ _
theorem Ba(op:BinOp)(k:IntKind)(x y:Int):X.Img X.Rv V (Op.intBits op k x y) (Op.intBits op k x y):=by
 unfold Op.intBits;dsimp only;split<;>first|exact .pure (BG _ _)|exact Z3 _ _
def yi(op:BinOp)(k k':IntKind)(x y:Int):X.Img X.Rv V (Op.shift op k x k' y) (Op.shift op k x k' y):=by
 unfold Op.shift;split
 ·exact Ym _
 ·dsimp only;split<;>first|exact .pure (BG _ _)|exact Z3 _ _
def Ni(op:BinOp)(x y:Int):X.Img X.Rv V (Op.intCmp op x y) (Op.intCmp op x y):=by
 unfold Op.intCmp;split<;>first|exact .pure (Ao _)|exact Z3 _ _
def Ku(op:BinOp)(k:FloatKind)(x y:Nat):X.Img X.Rv V (Op.floatArith op k x y) (Op.floatArith op k x y):=by
 have fin:∀(V:List Nat) (r:Option Nat),X.Img X.Rv V (match r with|some r=>pure (.float k r)|none=>do pure (.float k (<-choose (.nanBits k x y))):Sem Value) (match r with|some r=>pure (.float k r)|none=>do pure (.float k (<-choose (.nanBits k x y))):Sem Value):=λV r=>by
  cases r with
  |some r=>exact .pure Z48
  |none=>
   refine .bind (Y2 _) ?_;rintro V1 n _-rfl;exact .pure Z48
 unfold Op.floatArith;cases op<;>first|exact Z3 _ _|exact fin _ _
def Bb(op:BinOp)(k:FloatKind)(x y:Nat):X.Img X.Rv V (Op.floatCmp op k x y) (Op.floatCmp op k x y):=by
 unfold Op.floatCmp;dsimp only;split<;>first|exact .pure (Ao _)|exact Z3 _ _
def yk(op:BinOp)(x y:ByteArray):X.Img X.Rv V (Op.stringOp op x y) (Op.stringOp op x y):=by
 unfold Op.stringOp;dsimp only;split<;>first|exact .pure (Ao _)|exact Z3 _ _|skip
 split
 ·exact Zm (λ_ h=>Z3V) _
 ·exact .pure (Z0v _)
end
end
section
section
variable {X:Cx}{V:List Nat}
def Cx.WR.shape{X:Cx}{wl wc:World}(h:X.WR wl wc){r:Nat}{x:TypeId×Nat}(hs:wl.shape? r=some x):wc.shape? (X.ρ r)=some x:=by
 unfold World.shape? at hs⊢;split at hs
 ·rename_i c e fr hb;cases hs;obtain e0|⟨_,c',e',f',fr',e0,_,hG,e1⟩|⟨_,_,e1,_⟩:=h.blk _ _ hb
  ·cases e0
  ·simp_all
  simp_all[renO]
 ·cases hs
def QO{α β:Type}{RA:α->β->Prop}{r:Nat}{k:Option (TypeId×Nat)->Sem α}{k':Option (TypeId×Nat)->Sem β}(hn:∀w,∃h w',(k none).run X.Q w=.halt h w'/\bad h)
  (hs:∀x,X.Img RA V (k (some x)) (k' (some x))):X.Img RA V (shape r>>=k) (shape (X.ρ r)>>=k'):=by
 refine .sem λwl wc es hw hV ht hr=> ?_;show X.Told RA wl wc es ((k (wl.shape? r)).run X.Q wl) ((k' (wc.shape? (X.ρ r))).runT X.P wc es);change ∀j,wc.drawn+j< (wdR ((k' (wc.shape? (X.ρ r))).run X.P wc)).drawn->_ at ht;change ∀j,wc.heap.size+j< (wdR ((k' (wc.shape? (X.ρ r))).run X.P wc)).heap.size->_ at hr;cases e:wl.shape? r with
 |none=>
  obtain⟨h,w',e,hb⟩:=hn wl;simp_all[Cx.Told.of_bad]
 |some x=>
  rw[hw.shape e]at ht hr⊢;exact(hs x).run wl wc es hw hV ht hr
def Kx{α β:Type}{RA:α->β->Prop}{r:Nat}{k:Option (Addr×TypeId)->Sem α}{k':Option (Addr×TypeId)->Sem β}(hn:∀x w,∃h w',(k (some x)).run X.Q w=.halt h w'/\bad h)
  (hs:∀V,X.Img RA V (k none) (k' none)):X.Img RA V (viewAt r>>=k) (viewAt (X.ρ r)>>=k'):=by
 have key:X.Img RA V (getObj r>>=λo=>match o with|.view a t=>k (some (a,t))|_=>k none) (getObj (X.ρ r)>>=λo=>match o with|.view a t=>k' (some (a,t))|_=>k' none):=by
  refine .get (λw=>hn _ w) λo ho=> ?_;cases o<;>first|exact hs _|exact ho.elim
 refine .sem λwl wc es hw hV ht hr=> ?_
 have e0:∀ {γ:Type} (r:Nat) (k:Option (Addr×TypeId)->Sem γ),((getObj r>>=λo=>match o with|.view a t=>pure (some (a,t))|_=>pure none)>>=k)=(getObj r>>=λo=>match o with|.view a t=>k (some (a,t))|_=>k none):=λr k=>by
  show Sem.getObj r _=Sem.getObj r _;congr 1;funext o;cases o<;>rfl
 have e1:∀ {γ:Type} (P:Program) (w:World) (r:Nat) (k:Option (Addr×TypeId)->Sem γ) (es:Array Event),(viewAt r>>=k).runT P w es=if(w.shape? r).isSome then(k none).runT P w es else(getObj r>>=λo=>match o with|.view a t=>k (some (a,t))|_=>k none).runT P w es:=λP w r k es=>by
  rw[<-e0];show(Sem.bind (if(w.shape? r).isSome then(pure none:Sem (Option (Addr×TypeId)))else(getObj r>>=λo=>match o with|.view a t=>pure (some (a,t))|_=>pure none)) k).runT P w es=_;split<;>rfl
 have e2:∀ {γ:Type} (P:Program) (w:World) (r:Nat) (k:Option (Addr×TypeId)->Sem γ),(viewAt r>>=k).run P w=if(w.shape? r).isSome then(k none).run P w else(getObj r>>=λo=>match o with|.view a t=>k (some (a,t))|_=>k none).run P w:=λP w r k=>by
  have:=Z5J Prod.fst (e1 P w r k #[])
  grind [Sem.runT_fst]
 rw[e2]at ht hr;rw[e1,e2];cases e:wl.shape? r with
 |some x=>
  rw[hw.shape e]at ht hr⊢;exact(hs V).run wl wc es hw hV ht hr
 |none=>
  cases e':wc.shape? (X.ρ r)with
  |none=>
   rw[e']at ht hr;exact key.run wl wc es hw hV ht hr
  |some y=>
   simp only[Z6Q,Z4G,Z5h];obtain ho|⟨c,te,fr,ho⟩|⟨o,ho,hc⟩:=Tl wl.heap[r]?
   ·have:(getObj r>>=λo=>match o with|.view a t=>k (some (a,t))|_=>k none).run X.Q wl=.halt (.stuck "getObj: no such block") wl:=by
     show(Sem.getObj r _).run X.Q wl=_;simp only[Sem.run,ho]
    rw[this];exact Cx.Told.of_bad trivial
   ·grind [World.shape?]
   ·by_cases hh:o=hid
    ·subst hh
     have:(getObj r>>=λo=>match o with|.view a t=>k (some (a,t))|_=>k none).run X.Q wl=(k (some (⟨0,0,some 0⟩,0))).run X.Q wl:=by
      show(Sem.getObj r _).run X.Q wl=_;rw[TS ho hc];rfl
     rw[this];obtain⟨h,w',e2,hb⟩:=hn (⟨0,0,some 0⟩,0) wl
     grind [Cx.Told.of_bad]
    ·obtain⟨_,e3⟩:=hw.obj ho hc hh
     grind [Uh,World.shape?,absurd,Option.some.inj]
theorem L9(t:TypeId):X.P.cellsOf t=X.Q.cellsOf t:=by simp only[Program.cellsOf,Cx.P_info]
theorem L8(t:TypeId):X.P.bytesOf t=X.Q.bytesOf t:=by simp only[Program.bytesOf,Cx.P_info]
theorem Vt:∀(d:Nat) (t:TypeId) (off:Nat),byteOfCell X.P d t off=byteOfCell X.Q d t off
 |0,_,_=>rfl
 |d+1,t,off=>by simp_all[byteOfCell,Cx.P_under,L9,L8,Vt]
theorem SY:∀(d:Nat) (t:TypeId) (off:Nat),cellOfByte X.P d t off=cellOfByte X.Q d t off
 |0,_,_=>rfl
 |d+1,t,off=>by simp_all[cellOfByte,Cx.P_under,L9,L8,SY]
def GT(e:TypeId)(c off:Nat)(n:Int):cellAtBytes X.P X.P.depth e (c / X.P.cellsOf e) off n=cellAtBytes X.Q X.Q.depth e (c / X.Q.cellsOf e) off n:=by
 have:X.P.depth=X.Q.depth:=rfl
 grind [cellAtBytes,L9,L8,Vt,SY]
def Tx(ts:Array TypeId)(t:TypeId)(p:Option Addr)(y:Value):X.Img X.Rv V (Builtin.unsafeAdd_ ts t #[.pointer p,y]) (Builtin.unsafeAdd_ ts t #[.pointer (p.map (renA X.ρ)),ren X.ρ y]):=by
 unfold Builtin.unsafeAdd_;dsimp only;refine .bind (VI y) ?_;rintro V1 n _-rfl;by_cases h0:n=0
 ·simp only[if_pos h0];cases p with
  |none=>exact Zm (λ_ h=>Z3V) _
  |some a=>
   refine Kx (λx w=>⟨_,w,rfl,trivial⟩) λV=> ?_;exact .pure Z4p
 ·simp only[if_neg h0];by_cases h1:n<0
  ·simp only[if_pos h1];exact Zm (λ_ h=>Z3V) _
  ·simp only[if_neg h1];cases p with
   |none=>exact Zm (λ_ h=>Z3V) _
   |some a=>
    refine QO (λw=>⟨_,w,rfl,trivial⟩) λx=> ?_;obtain⟨e,cells⟩:=x;refine .bind Zr ?_;rintro V2 _ _- ⟨rfl,rfl⟩;rw[GT];show X.Img X.Rv V2 (match cellAtBytes X.Q X.Q.depth e (cells / X.Q.cellsOf e) a.off n with|some off=>pure (.pointer (some {a with off}))|none=>unsupported (.unsafePointer "Add")) (match cellAtBytes X.Q X.Q.depth e (cells / X.Q.cellsOf e) a.off n with|some off=>pure (.pointer (some {renA X.ρ a with off}))|none=>unsupported (.unsafePointer "Add"));cases cellAtBytes X.Q X.Q.depth e (cells / X.Q.cellsOf e) a.off n with
    |none=>exact Zm (λ_ h=>Z3V) _
    |some off=>exact .pure (by simp[Cx.Rv,renA])
def Ks{α β:Type}{RA:α->β->Prop}{n:Addr}{k:Addr×Bool->Sem α}{k':Addr×Bool->Sem β}(hb:∀w,w.heap[n.block]?=some hid->∃h w',(k (n,false)).run X.Q w=.halt h w'/\bad h)
  (hs:∀V a l,X.Img RA V (k (a,l)) (k' (renA X.ρ a,l))):X.Img RA V (behindNumber n>>=k) (behindNumber (renA X.ρ n)>>=k'):=by
 refine .sem λwl wc es hw hV ht hr=> ?_
 have e1:∀ {γ:Type} (P:Program) (w:World) (n:Addr) (k:Addr×Bool->Sem γ) (es:Array Event),(behindNumber n>>=k).runT P w es=if(w.shape? n.block).isSome then(k (n,false)).runT P w es else(getObj n.block>>=λo=>match o with|.number a l=>k (a,l)|_=>k (n,false)).runT P w es:=λP w n k es=>by
  have e0:(getObj n.block>>=λo=>match o with|.number a l=>k (a,l)|_=>k (n,false))=((getObj n.block>>=λo=>match o with|.number a l=>pure (some (a,l))|_=>pure none)>>=λr=>(pure (r.getD (n,false)):Sem (Addr×Bool)))>>=k:=by
   show Sem.getObj _ _=Sem.getObj _ _;congr 1;funext o;cases o<;>rfl
  rw[e0];show(Sem.bind (Sem.bind (if(w.shape? n.block).isSome then(pure none:Sem (Option (Addr×Bool)))else(getObj n.block>>=λo=>match o with|.number a l=>pure (some (a,l))|_=>pure none)) λr=>pure (r.getD (n,false))) k).runT P w es=_;split<;>rfl
 have e2:∀ {γ:Type} (P:Program) (w:World) (n:Addr) (k:Addr×Bool->Sem γ),(behindNumber n>>=k).run P w=if(w.shape? n.block).isSome then(k (n,false)).run P w else(getObj n.block>>=λo=>match o with|.number a l=>k (a,l)|_=>k (n,false)).run P w:=λP w n k=>by
  have:=Z5J Prod.fst (e1 P w n k #[])
  grind [Sem.runT_fst]
 rw[e2]at ht hr;rw[e1,e2];cases e:wl.shape? n.block with
 |some x=>
  rw[show(renA X.ρ n).block=X.ρ n.block from rfl,hw.shape e]at ht hr⊢;exact(hs V n false).run wl wc es hw hV ht hr
 |none=>
  obtain ho|⟨c,te,fr,ho⟩|⟨o,ho,hc⟩:=Tl wl.heap[n.block]?
  ·have:(getObj n.block>>=λo=>match o with|.number a l=>k (a,l)|_=>k (n,false)).run X.Q wl=.halt (.stuck "getObj: no such block") wl:=by
    show(Sem.getObj n.block _).run X.Q wl=_;simp only[Sem.run,ho]
   simp only[Z6Q,Z4G,Z5h,this];exact Cx.Told.of_bad trivial
  ·grind [World.shape?]
  ·by_cases hh:o=hid
   ·subst hh
    have:(getObj n.block>>=λo=>match o with|.number a l=>k (a,l)|_=>k (n,false)).run X.Q wl=(k (n,false)).run X.Q wl:=by
     show(Sem.getObj n.block _).run X.Q wl=_;rw[TS ho hc];rfl
    simp only[Z6Q,Z4G,Z5h,this]
    grind [Cx.Told.of_bad]
   ·obtain⟨_,e3⟩:=hw.obj ho hc hh;have hrn:=Uh (ρ:=X.ρ) hc
    have e4:wc.shape? (renA X.ρ n).block=none:=by
     show wc.shape? (X.ρ n.block)=none;unfold World.shape?;rw[e3];split
     ·grind
     ·rfl
    rw[e4]at ht hr⊢;have hok:X.okO o:=(hw.kind ho).elim (λh=>absurd h hh) id
    have hev:X.EvOk wl ⟨.obj (X.ρ n.block),false,(renO X.ρ o).isChan⟩:=by
     exact⟨n.block,(hw.obj ho hc hh).1,(Z4z.1 ho).1,rfl⟩
    have l1:=TS (p:=X.Q) (k:=λo=>match o with|.number a l=>k (a,l)|_=>k (n,false)) ho hc;have l2:=TS (p:=X.P) (k:=λo=>match o with|.number a l=>k' (a,l)|_=>k' (renA X.ρ n,false)) e3 hrn;have l3:=G3 (p:=X.P) (es:=es) (k:=λo=>match o with|.number a l=>k' (a,l)|_=>k' (renA X.ρ n,false)) e3 hrn;change ∀j,wc.drawn+j< (wdR ((Sem.getObj (X.ρ n.block) λo=>match o with|.number a l=>k' (a,l)|_=>k' (renA X.ρ n,false)).run X.P wc)).drawn->_ at ht;change ∀j,wc.heap.size+j< (wdR ((Sem.getObj (X.ρ n.block) λo=>match o with|.number a l=>k' (a,l)|_=>k' (renA X.ρ n,false)).run X.P wc)).heap.size->_ at hr;change X.Told RA wl wc es ((Sem.getObj n.block λo=>match o with|.number a l=>k (a,l)|_=>k (n,false)).run X.Q wl) ((Sem.getObj (X.ρ n.block) λo=>match o with|.number a l=>k' (a,l)|_=>k' (renA X.ρ n,false)).runT X.P wc es);rw[l2]at ht hr;rw[l1,l3];refine Cx.Told.step (.ev hw hev) ?_;cases o<;>first|exact hok.elim|exact(hs V n false).run wl wc _ hw hV ht hr|exact(hs V _ _).run wl wc _ hw hV ht hr
end
end
section
section
variable {X:Cx}{V:List Nat}
def An{p:Program}{r:Nat}{w:World}(hw:w.heap[r]?=some hid):(viewAt r).run p w=.ok (some (⟨0,0,some 0⟩,0)) w:=by
 have hs:w.shape? r=none:=by simp[World.shape?,hw,hid]
 unfold viewAt;simp only[Z54,Z8D,Z51,hs];show(Sem.getObj r _).run p w=_;rw[TS hw (by simp[hid])];rfl
def Ng(p:Program)(ts:Array TypeId)(t:TypeId)(a:Addr)(y:Value)(w:World)(hw:w.heap[a.block]?=some hid):∃h w',(Builtin.unsafeAdd_ ts t #[.pointer (some a),y]).run p w=.halt h w'/\bad h:=by
 have hs:w.shape? a.block=none:=by simp[World.shape?,hw,hid]
 have hi:∀k n,∃h w',(Builtin.unsafeAdd_ ts t #[.pointer (some a),.int k n]).run p w=.halt h w'/\bad h:=λk n=>by
  have e:Builtin.unsafeAdd_ ts t #[.pointer (some a),.int k n]=(if n=0 then(do
     if(<-viewAt a.block).isSome then unsupported (.unsafePointer "Add: at a place where no cell lies")
     return .pointer (some a))else do
    if n<0 then unsupported (.unsafePointer "Add: a move by a count below zero")
    let some (e,cells)<-shape a.block|unsupported (.unsafePointer "Add")
    let p<-program
    match cellAtBytes p p.depth e (cells / p.cellsOf e) a.off n with
    |some off=>pure (.pointer (some {a with off}))
    |none=>unsupported (.unsafePointer "Add")):=rfl
  rw[e];by_cases h0:n=0
  ·rw[if_pos h0];simp only[Z54,An hw,Z51];exact⟨_,_,rfl,trivial⟩
  ·rw[if_neg h0];by_cases h1:n<0
   ·rw[if_pos h1];exact⟨_,w,rfl,trivial⟩
   ·rw[if_neg h1];simp only[Z54,Z8D,hs,Z51];exact⟨_,_,rfl,trivial⟩
 cases y with
 |int k n=>exact hi k n
 |pointer q=>cases q<;>exact⟨_,w,rfl,trivial⟩
 |_=>exact⟨_,w,rfl,trivial⟩
theorem yb(a:Addr)(l:Bool):X.Img X.Rv V (asNumber a l) (asNumber (renA X.ρ a) l):=by
 have h:X.Img (λa b=>b=X.ρ a) V (newObj (.number a l)) (newObj (renO X.ρ (.number a l))):=.new (o:=.number a l) trivial (λ_ _ _ h=>Z3V) λr=>.pure rfl;rw[show renO X.ρ (.number a l)=.number (renA X.ρ a) l by simp[renO]]at h;refine .bind h ?_;rintro V' r _-rfl;exact .pure (by simp[Cx.Rv,renA])
def jC(l:Bool)(u:Value):X.Img X.Rv V (match u with|.pointer (some b)=>asNumber b l|v=>pure v) (match ren X.ρ u with|.pointer (some b)=>asNumber b l|v=>pure v):=by
 cases u with
 |pointer q=>
  cases q with
  |none=>rw[Xx];exact .pure (Xx _).symm
  |some b=>grind [Yi,yb]
 |slice q n c=>cases q<;>(simp only[ren];exact .pure Z48)
 |map q=>cases q<;>(simp only[ren];exact .pure Z48)
 |chan q=>cases q<;>(simp only[ren];exact .pure Z48)
 |_=>simp only[ren];exact .pure Z48
def QJ(t:TypeId)(p:Option Addr)(y:Value):X.Img X.Rv V (movedNumber t (.pointer p) y) (movedNumber t (ren X.ρ (.pointer p)) (ren X.ρ y)):=by
 unfold movedNumber;refine .bind (ZD t) ?_;rintro V1 d _- ⟨rfl,h⟩
 have key:X.Img X.Rv V1 (match(generalizing:=false) (Value.pointer p)with
   | .pointer (some n)=>(do
     let(a,lost)<-behindNumber n
     match<-Builtin.unsafeAdd_ #[] t #[.pointer (some a),y]with
     |.pointer (some b)=>asNumber b lost
     |v=>pure v:Sem Value)
   |_=>Builtin.unsafeAdd_ #[] t #[.pointer p,y]) (match(generalizing:=false) ren X.ρ (Value.pointer p)with
   | .pointer (some n)=>(do
     let(a,lost)<-behindNumber n
     match<-Builtin.unsafeAdd_ #[] t #[.pointer (some a),ren X.ρ y]with
     |.pointer (some b)=>asNumber b lost
     |v=>pure v:Sem Value)
   |_=>Builtin.unsafeAdd_ #[] t #[ren X.ρ (.pointer p),ren X.ρ y]):=by
  cases p with
  |none=>
   rw[Xx];exact Tx #[] t none y
  |some n=>
   rw[Yi];refine Ks (λw hw=> ?_) λV a l=> ?_
   ·obtain⟨h,w',e,hb⟩:=Ng X.Q #[] t n y w hw;simp_all
   ·refine .bind (Tx #[] t (some a) y) ?_;rintro V2 v _-rfl;exact jC l v
 cases d<;>first|exact key|exact Zm (λ_ h=>Z3V) _
def AK{α β:Type}{p:Program}{s:Sem α}{f:α->Sem β}{w:World}{h:Halt}{w':World}(e:s.run p w=.halt h w')(hb:bad h):∃h w',(s>>=f).run p w=.halt h w'/\bad h:=
 ⟨h,w',Z3M,hb⟩
def DH(hg:X.Q.globals=#[]){α:Type}(a b:Addr)(f:Addr->Addr->Sem α)(hf:∀a b w,∃h w',(f a b).run X.Q w=.halt h w'/\bad h)(w:World):
  ∃h w',(do f (<-behindNumber a).1 (<-behindNumber b).1:Sem α).run X.Q w=.halt h w'/\bad h:=by
 simp only[Z54];obtain⟨q,h⟩|⟨why,h⟩:=Ul X.Q a w
 ·rw[h];simp only[Z51,Z54];obtain⟨q',h'⟩|⟨why,h'⟩:=Ul X.Q b w
  ·simp_all
  ·rw[h'];exact⟨_,_,rfl,trivial⟩
 ·rw[h];exact⟨_,_,rfl,trivial⟩
def Kd(hg:X.Q.globals=#[])(a b:Addr)(w:World):∃h w',(Op.twoPlaces a b).run X.Q w=.halt h w'/\bad h:=by
 unfold Op.twoPlaces;simp only[Z54,Z6g,Z51,hg];rw[if_pos Z1];exact⟨_,_,rfl,trivial⟩
def j6(hg:X.Q.globals=#[])(k:IntKind)(a b:Addr)(w:World):∃h w',(Op.addrSub k a b).run X.Q w=.halt h w'/\bad h:=by
 obtain⟨h,w',e,hb⟩:=Kd hg a b w;exact AK e hb
def j5(hg:X.Q.globals=#[])(op:BinOp)(a b:Addr)(w:World):∃h w',(Op.addrCmp op a b).run X.Q w=.halt h w'/\bad h:=by
 obtain⟨h,w',e,hb⟩:=Kd hg a b w;exact AK e hb
def Sr(a:Addr):X.Img Eq V (byteOf a) (byteOf (renA X.ρ a)):=by
 unfold byteOf;cases hs:a.spot with
 |some s=>
  simp only[renA,hs];exact .pure rfl
 |none=>
  simp only[renA,hs];refine .bind Zr ?_;rintro V1 _ _- ⟨rfl,rfl⟩;have hv:X.Img Eq V1 (noView a) (noView (renA X.ρ a)):=Kx (λx w=>⟨_,w,rfl,trivial⟩) λV=>.pure rfl;refine .bind hv ?_;rintro V2 _ _- -;refine QO (λw=>⟨_,w,rfl,trivial⟩) λx=> ?_;obtain⟨e,c⟩:=x;dsimp only;rw[L9,L8,Vt,show X.P.depth=X.Q.depth from rfl];split
  ·exact .pure rfl
  ·cases byteOfCell X.Q X.Q.depth e (a.off%X.Q.cellsOf e)with
   |none=>exact Z3 _ _
   |some b=>exact .pure rfl
def MO(k:IntKind)(a:Addr)(n:Int)(w:World)(hw:w.heap[a.block]?=some hid):∃h w',(Op.addrMod k a n).run X.Q w=.halt h w'/\bad h:=by
 have hs:w.shape? a.block=none:=by simp[World.shape?,hw,hid]
 unfold Op.addrMod;simp only[Z54,Z8D,hs,Z51];exact⟨_,_,rfl,trivial⟩
def No(k:IntKind)(a:Addr)(n:Int):X.Img X.Rv V (Op.addrMod k a n) (Op.addrMod k (renA X.ρ a) n):=by
 unfold Op.addrMod;refine QO (λw=>⟨_,w,rfl,trivial⟩) λx=> ?_;obtain⟨e,c⟩:=x;dsimp only;refine .bind (Zz e) ?_;rintro V1 i _-rfl;split
 ·exact Zm (λ_ h=>Z3V) _
 ·refine .bind (Sr a) ?_;rintro V2 b _-rfl;exact .pure Z4p
def QI(k:IntKind)(a:Addr)(n:Int):X.Img X.Rv V (do Op.addrMod k (<-behindNumber a).1 n) (do Op.addrMod k (<-behindNumber (renA X.ρ a)).1 n):=
 Ks (k:=λq=>Op.addrMod k q.1 n) (k':=λq=>Op.addrMod k q.1 n) (λw hw=>MO k a n w hw) λV a l=>No k a n
def XL(op:BinOp)(k:FloatKind)(x y:Nat):X.Img Eq V (Op.Complex.arith op k x y) (Op.Complex.arith op k x y):=by
 refine .bind (Ku op k x y) ?_;rintro V1 v _-rfl;cases v<;>first|exact Z3 _ _|skip
 simp only[ren];exact .pure rfl
def RP(op:BinOp)(k:FloatKind)(x y:Nat):X.Img Eq V (Op.Complex.cmp op k x y) (Op.Complex.cmp op k x y):=by
 refine .bind (Bb op k x y) ?_;rintro V1 v _-rfl;exact Sq v
def EC(s:FloatKind)(x:Nat)(d:FloatKind):X.Img Eq V (Op.Complex.conv s x d) (Op.Complex.conv s x d):=by
 unfold Op.Complex.conv;split
 ·exact .pure rfl
 ·have:X.Img X.Rv V (Conv.floatToFloat s x d) (Conv.floatToFloat s x d):=by
   unfold Conv.floatToFloat
   repeat' first
    |exact .pure Z48
    |(refine .bind (Y2 _) ?_;rintro _ _ _-rfl)
    |split
    |dsimp only
  refine .bind this ?_;rintro V1 v _-rfl;cases v<;>first|exact Z3 _ _|skip
  simp only[ren];exact .pure rfl
open Go.Op.Complex in
def qEnd(a b c d e f:Nat):Sem (Nat×Nat):=do
 let zero:=(<-cmp .eql .f64 c 0)&&(<-cmp .eql .f64 d 0)
 if !(isNaN e&&isNaN f)then pure (e,f)
 else if zero&&(!isNaN a|| !isNaN b)then
  pure (<-mul (copysign inf c) a,<-mul (copysign inf c) b)
 else if(isInf a||isInf b)&&isFinite c&&isFinite d then
  corrected inf (inf2one a) (inf2one b) c d
 else if(isInf c||isInf d)&&isFinite a&&isFinite b then
  corrected 0 a b (inf2one c) (inf2one d)
 else pure (e,f)
open Go.Op.Complex in
def Ae(a b c d:Nat):quotient a b c d=(do
  if<-cmp .geq .f64 (abs c) (abs d)then do
   let ratio<-quo d c
   let denom<-add c (<-mul ratio d)
   qEnd a b c d (<-quo (<-add a (<-mul b ratio)) denom) (<-quo (<-sub b (<-mul a ratio)) denom)
  else do
   let ratio<-quo c d
   let denom<-add d (<-mul ratio c)
   qEnd a b c d (<-quo (<-add (<-mul a ratio) b) denom) (<-quo (<-sub (<-mul b ratio) a) denom)):=rfl
def jv(op:BinOp)(k:FloatKind)(a b c d:Nat):X.Img X.Rv V (Op.complexOp op k a b c d) (Op.complexOp op k a b c d):=by
 have hp:∀V a b c d,X.Img Eq V (Op.Complex.product a b c d) (Op.Complex.product a b c d):=λV a b c d=>by
  unfold Op.Complex.product Op.Complex.sub Op.Complex.mul Op.Complex.add
  repeat' first
   |exact .pure rfl
   |(refine .bind (XL _ _ _ _) ?_;rintro _ _ _-rfl)
 have hc:∀V s a b c d,X.Img Eq V (Op.Complex.corrected s a b c d) (Op.Complex.corrected s a b c d):=λV s a b c d=>by
  unfold Op.Complex.corrected Op.Complex.sub Op.Complex.mul Op.Complex.add
  repeat' first
   |exact .pure rfl
   |(refine .bind (XL _ _ _ _) ?_;rintro _ _ _-rfl)
 have hE:∀V a b c d e f,X.Img Eq V (qEnd a b c d e f) (qEnd a b c d e f):=λV a b c d e f=>by
  unfold qEnd Op.Complex.mul;refine .bind (RP _ _ _ _) ?_;rintro V1 z _-rfl;refine .bind (RP _ _ _ _) ?_;rintro V1 z' _-rfl;dsimp only;split
  ·exact .pure rfl
  split
  ·refine .bind (XL _ _ _ _) ?_;rintro V1 z _-rfl;refine .bind (XL _ _ _ _) ?_;rintro V1 z _-rfl;exact .pure rfl
  split
  ·simp_all
  split
  ·simp_all
  ·exact .pure rfl
 have hq:∀V a b c d,X.Img Eq V (Op.Complex.quotient a b c d) (Op.Complex.quotient a b c d):=λV a b c d=>by
  rw[Ae];unfold Op.Complex.quo Op.Complex.sub Op.Complex.mul Op.Complex.add;refine .bind (RP _ _ _ _) ?_;rintro V1 z _-rfl;split
  all_goals
   repeat' first
    |exact hE _ _ _ _ _ _ _
    |(refine .bind (XL _ _ _ _) ?_;rintro _ _ _-rfl)
 unfold Op.complexOp;cases op<;>first|exact Z3 _ _|skip
 all_goals
  dsimp only
  repeat' first
   |exact .pure Z48
   |(refine .bind (XL _ _ _ _) ?_;rintro _ _ _-rfl)
   |(refine .bind (RP _ _ _ _) ?_;rintro _ _ _-rfl)
   |(refine .bind (EC _ _ _) ?_;rintro _ _ _-rfl)
   |(refine .bind (hp _ _ _ _ _) ?_;rintro _ ⟨_,_⟩ _-rfl)
   |(refine .bind (hq _ _ _ _ _) ?_;rintro _ ⟨_,_⟩ _-rfl)
end
end
section
def vs:Value->Nat
 |.int .. =>0
 |.float .. =>1
 |.complex .. =>2
 |.string _=>3
 |.pointer _=>4
 |_=>5
def GF(ρ:Nat->Nat)(v:Value):vs (ren ρ v)=vs v:=by
 cases v with
 |pointer q=>cases q<;>simp[ren,vs]
 |slice q n c=>cases q<;>simp[ren,vs]
 |map q=>cases q<;>simp[ren,vs]
 |chan q=>cases q<;>simp[ren,vs]
 |_=>simp[ren,vs]
def sc(x y:Value):Prop:=vs x=vs y/\vs x<4
def Lf{t:TypeId}{x y:Value}(h:¬sc x y):binOp .eql t x y=(do pure (.bool (<-Op.equal t x y)):Sem Value):=by
 cases x<;>cases y<;>first|rfl|exact absurd ⟨rfl,Z70 rfl⟩ h
def Lh{t:TypeId}{x y:Value}(h:¬sc x y):binOp .neq t x y=(do pure (.bool (!(<-Op.equal t x y))):Sem Value):=by
 cases x<;>cases y<;>first|rfl|exact absurd ⟨rfl,Z70 rfl⟩ h
def gs:Value->Nat
 |.nilIface=>0
 |.agg _=>1
 |_=>2
theorem M9(ρ:Nat->Nat)(v:Value):gs (ren ρ v)=gs v:=by
 cases v with
 |pointer q=>cases q<;>simp[ren,gs]
 |slice q n c=>cases q<;>simp[ren,gs]
 |map q=>cases q<;>simp[ren,gs]
 |chan q=>cases q<;>simp[ren,gs]
 |_=>simp[ren,gs]
def Ub(op:BinOp)(t:TypeId)(x y:Operand)(a b:Value)(h:¬(gs a=gs b/\gs a<2)):eqGuard op t x y a b=pure ():=by
 unfold eqGuard;generalize (!match op with|.eql=>true|.neq=>true|_=>false)=g;cases g
 ·simp only[Z4G,Z5h];cases a<;>cases b<;>first|rfl|exact absurd ⟨rfl,Z70 rfl⟩ h
 ·rfl
section
variable {X:Cx}{V:List Nat}
def Y7{s:Sem Value}(s':Sem Value)(h:s=unsupported .addressObserved):X.Img X.Rv V s s':=by
 simp_all[Zm]
def Cn(t:TypeId)(p:Option Addr)(y:Value)(hd:X.Q.underlying t≠some .unsafePointer):X.Img X.Rv V (do if(<-underlying t) matches .unsafePointer then movedPointer t (.pointer p) y else movedNumber t (.pointer p) y)
  (do if(<-underlying t) matches .unsafePointer then movedPointer t (ren X.ρ (.pointer p)) (ren X.ρ y)else movedNumber t (ren X.ρ (.pointer p)) (ren X.ρ y)):=by
 refine .bind (ZD t) ?_;rintro V1 d _- ⟨rfl,h⟩;simp_all[absurd,QJ]
def Ey(op:BinOp)(t:TypeId)(p:Option Addr)(k:IntKind)(n:Int)(hop:op≠.eql/\op≠.neq)(hd:X.Q.underlying t≠some .unsafePointer):
  X.Img X.Rv V (binOp op t (.pointer p) (.int k n)) (binOp op t (ren X.ρ (.pointer p)) (.int k n)):=by
 have h1:=Cn (X:=X) (V:=V) t p (.int k n) hd;have h2:=QJ (X:=X) (V:=V) t p (.int k (-n));rw[ZU]at h1 h2;cases p with
 |none=>
  rw[Xx]at*;cases op<;>first|exact absurd rfl hop.1|exact absurd rfl hop.2|exact Y7 _ rfl|exact h1|exact h2
 |some a=>
  rw[Yi]at*;cases op<;>first|exact absurd rfl hop.1|exact absurd rfl hop.2|exact Y7 _ rfl|exact h1|exact h2|exact QI k a n|exact QI k a (n+1)
def Eu(op:BinOp)(t:TypeId)(p:Option Addr)(k:IntKind)(n:Int)(hop:op≠.eql/\op≠.neq)(hd:X.Q.underlying t≠some .unsafePointer):
  X.Img X.Rv V (binOp op t (.int k n) (.pointer p)) (binOp op t (.int k n) (ren X.ρ (.pointer p))):=by
 have h1:=QJ (X:=X) (V:=V) t p (.int k n);rw[ZU]at h1;cases p with
 |none=>
  rw[Xx]at*;cases op<;>first|exact absurd rfl hop.1|exact absurd rfl hop.2|exact Y7 _ rfl|exact h1
 |some a=>
  rw[Yi]at*;cases op<;>first|exact absurd rfl hop.1|exact absurd rfl hop.2|exact Y7 _ rfl|exact h1|exact QI k a (n+1)
def Ez(hg:X.Q.globals=#[])(op:BinOp)(t:TypeId)(p q:Option Addr)(hop:op≠.eql/\op≠.neq)(s':Sem Value):X.Img X.Rv V (binOp op t (.pointer p) (.pointer q)) s':=by
 cases p with
 |none=>cases q<;>cases op<;>first|exact absurd rfl hop.1|exact absurd rfl hop.2|exact Y7 _ rfl
 |some a=>
  cases q with
  |none=>cases op<;>first|exact absurd rfl hop.1|exact absurd rfl hop.2|exact Y7 _ rfl
  |some b=>cases op<;>first|exact absurd rfl hop.1|exact absurd rfl hop.2|exact Y7 _ rfl|exact .bad _ (DH hg a b _ (j6 hg _))|exact .bad _ (DH hg a b _ (j5 hg _))
def OY(op:BinOp)(t:TypeId)(p:Option Addr)(y:Value)(hop:op≠.eql/\op≠.neq)(hy:vs y≠0/\vs y≠4):binOp op t (.pointer p) y=unsupported .addressObserved:=by
 cases y<;>first
  |exact absurd rfl hy.1
  |exact absurd rfl hy.2
  |(cases p<;>cases op<;>first|rfl|exact absurd rfl hop.1|exact absurd rfl hop.2)
def OX(op:BinOp)(t:TypeId)(p:Option Addr)(y:Value)(hop:op≠.eql/\op≠.neq)(hy:vs y≠0/\vs y≠4):binOp op t y (.pointer p)=unsupported .addressObserved:=by
 cases y<;>first
  |exact absurd rfl hy.1
  |exact absurd rfl hy.2
  |(cases p<;>cases op<;>first|rfl|exact absurd rfl hop.1|exact absurd rfl hop.2)
def OW(op:BinOp)(t:TypeId)(x y:Value)(hop:op≠.eql/\op≠.neq)(hx:vs x≠4)(hy:vs y≠4)(h:¬sc x y):binOp op t x y=stuck "BinOp: no such operator on these operands" :=by
 cases x<;>first
  |exact absurd rfl hx
  | (cases y<;>first
    |exact absurd rfl hy
    |exact absurd ⟨rfl,Z70 rfl⟩ h
    |(cases op<;>first|rfl|exact absurd rfl hop.1|exact absurd rfl hop.2))
def GE{v:Value}(h:vs v=4):∃p,v=.pointer p:=by cases v<;>first|exact⟨_,rfl⟩|cases h
def MC{v:Value}(h:vs v=0):∃k n,v=.int k n:=by cases v<;>first|exact⟨_,_,rfl⟩|cases h
def ju(hg:X.Q.globals=#[])(op:BinOp)(t:TypeId)(x y:Value)(hop:op≠.eql/\op≠.neq)(hd:X.Q.underlying t≠some .unsafePointer)(h:¬sc x y):X.Img X.Rv V (binOp op t x y) (binOp op t (ren X.ρ x) (ren X.ρ y)):=by
 by_cases hx:vs x=4
 ·obtain⟨p,rfl⟩:=GE hx;by_cases hy:vs y=4
  ·obtain⟨q,rfl⟩:=GE hy;simp_all[Ez]
  ·by_cases hy0:vs y=0
   ·obtain⟨k,n,rfl⟩:=MC hy0;simp_all[ZU,Ey]
   simp_all[Y7,OY]
 ·by_cases hy:vs y=4
  ·obtain⟨q,rfl⟩:=GE hy;by_cases hx0:vs x=0
   ·obtain⟨k,n,rfl⟩:=MC hx0;simp_all[ZU,Eu]
   simp_all[Y7,OX]
  simp_all[OW,Z3]
def EA(op:BinOp)(t:TypeId)(x y:Value)(h:sc x y):X.Img X.Rv V (binOp op t x y) (binOp op t (ren X.ρ x) (ren X.ρ y)):=by
 obtain⟨h1,h2⟩:=h;cases x<;>first|exact absurd h2 (Z7T rfl)|skip
 ·cases y<;>first|cases h1|skip
  rename_i k a k' b;rw[ZU,ZU];by_cases hk:k=k'
  ·subst hk;have e:∀s:Sem Value,(if k≠k then stuck "BinOp: operands of different kinds" else s)=s:=λs=>by simp
   cases op<;>first
    |(unfold binOp;dsimp only;exact yi _ _ _ _ _)
    |(unfold binOp;dsimp only;rw[e];first|exact ya _ _ _ _|exact Nj _ _ _ _|exact Ba _ _ _ _|exact Ni _ _ _)
  ·have e:∀s:Sem Value,(if k≠k' then stuck "BinOp: operands of different kinds" else s)=stuck "BinOp: operands of different kinds" :=λs=>by simp[hk]
   cases op<;>first
    |(unfold binOp;dsimp only;exact yi _ _ _ _ _)
    |(unfold binOp;dsimp only;rw[e];exact Z3 _ _)
 ·cases y<;>first|cases h1|skip
  rename_i k a k' b;simp only[ren];by_cases hk:k=k'
  ·subst hk;have e:∀s:Sem Value,(if k≠k then stuck "BinOp: operands of different kinds" else s)=s:=λs=>by simp
   cases op<;>(unfold binOp;dsimp only;rw[e];first|exact Ku _ _ _ _|exact Bb _ _ _ _)
  ·have e:∀s:Sem Value,(if k≠k' then stuck "BinOp: operands of different kinds" else s)=stuck "BinOp: operands of different kinds" :=λs=>by simp[hk]
   simp_all[binOp,Z3]
 ·cases y<;>first|cases h1|skip
  rename_i k a b k' c d;simp only[ren];by_cases hk:k=k'
  ·subst hk;have e:∀s:Sem Value,(if k≠k then stuck "BinOp: operands of different kinds" else s)=s:=λs=>by simp
   cases op<;>(unfold binOp;dsimp only;rw[e];exact jv _ _ _ _ _ _)
  ·have e:∀s:Sem Value,(if k≠k' then stuck "BinOp: operands of different kinds" else s)=stuck "BinOp: operands of different kinds" :=λs=>by simp[hk]
   simp_all[binOp,Z3]
 ·cases y<;>first|cases h1|skip
  simp_all[Vi,binOp,yk]
def Lw(n:Nat)(t:TypeId)(x y:Value)(ht:X.Q.underlying t=some .bool):X.Img Eq V (Op.equalIn (n+1) t x y) (Op.equalIn (n+1) t (ren X.ρ x) (ren X.ρ y)):=by
 unfold Op.equalIn;refine .bind (ZD t) ?_;rintro V1 d _- ⟨rfl,h⟩;rw[ht]at h;cases h;cases x<;>cases y<;>first|exact Z3 _ _|(rw[YH,YH];exact .pure rfl)
def Cx.Small(X:Cx)(t:TypeId):Prop:=(∃k,X.IntT t k)\/X.Q.underlying t=some .bool
def UD(hg:X.Q.globals=#[])(t:TypeId)(x y:Value)(ht:X.Small t):X.Img Eq V (Op.equal t x y) (Op.equal t (ren X.ρ x) (ren X.ρ y)):=by
 obtain⟨k,ht⟩|ht:=ht
 ·have h:=R4 (X:=X) (V:=V) 9999 t x y ht.d hg ht.n
  have h2:X.Img Eq V (Op.equal t x y>>=λb=>pure b) (Op.equal t (ren X.ρ x) (ren X.ρ y)>>=λb=>pure b):=by
   refine .bind h ?_;rintro V1 b _- ⟨rfl,-⟩;exact .pure rfl
  simpa using h2
 ·exact Lw 9999 t x y ht
def Ew(hg:X.Q.globals=#[])(op:BinOp)(t:TypeId)(x y:Value)(ht:X.Small t):X.Img X.Rv V (binOp op t x y) (binOp op t (ren X.ρ x) (ren X.ρ y)):=by
 have hd:X.Q.underlying t≠some .unsafePointer:=by
  obtain⟨k,ht⟩|ht:=ht
  ·rw[ht.d];simp
  ·grind
 by_cases h:sc x y
 ·simp_all[EA]
 ·have h':¬sc (ren X.ρ x) (ren X.ρ y):=by unfold sc at*;rwa[GF,GF]
  by_cases h1:op=.eql
  ·subst h1;rw[Lf h,Lf h'];refine .bind (UD hg t x y ht) ?_;rintro V1 b _-rfl;exact .pure Z4p
  by_cases h2:op=.neq
  ·subst h2;rw[Lh h,Lh h'];refine .bind (UD hg t x y ht) ?_;rintro V1 b _-rfl;exact .pure Z4p
  simp_all[ju]
def I0:TypeDesc->Value->Bool
 |.pointer _,.pointer none=>true
 |.interface _,.nilIface=>true
 |.slice _,.slice none _ _=>true
 |.map _ _,.map none=>true
 |.func _ _ _,.nilFunc=>true
 |_,_=>false
def yL(ρ:Nat->Nat){d:TypeDesc}{y:Value}(h:I0 d y=true):ren ρ y=y/\vs y≥4:=by
 cases y with
 |pointer q=>cases q<;>first|(cases d<;>cases h;done)|simp_all[ren,vs]
 |slice q n c=>cases q<;>first|(cases d<;>cases h;done)|simp_all[ren,vs]
 |map q=>cases q<;>first|(cases d<;>cases h;done)|simp_all[ren,vs]
 |nilFunc=>simp_all[ren,vs]
 |nilIface=>simp_all[ren,vs]
 |_=>cases d<;>cases h
def R5(t:TypeId)(x y:Value){d:TypeDesc}(ht:X.Q.underlying t=some d)(hy:I0 d y=true):X.Img Eq V (Op.equal t x y) (Op.equal t (ren X.ρ x) y):=by
 show X.Img Eq V (Op.equalIn 10000 t x y) (Op.equalIn 10000 t (ren X.ρ x) y);unfold Op.equalIn;refine .bind (ZD t) ?_;rintro V1 d' _- ⟨rfl,h⟩;rw[ht]at h;cases h;cases d<;>first|(cases y<;>cases hy;done)|skip
 all_goals
  cases y<;>first|(cases hy;done)|skip
 ·rename_i q;cases q<;>first|(cases hy;done)|skip
  cases x<;>first|exact Z3 _ _|skip
  rename_i p;cases p<;>(simp only[ren];exact .pure rfl)
 ·rename_i q n c;cases q<;>first|(cases hy;done)|skip
  cases x<;>first|exact Z3 _ _|skip
  rename_i p n' c';cases p<;>(simp only[ren];exact .pure rfl)
 ·rename_i q;cases q<;>first|(cases hy;done)|skip
  cases x<;>first|exact Z3 _ _|skip
  rename_i p;cases p<;>(simp only[ren];exact .pure rfl)
 ·cases x<;>first|exact Z3 _ _|(simp only[ren];exact .pure rfl)
 ·cases x<;>first|exact Z3 _ _|(simp only[ren];exact .pure rfl)
def Co(op:BinOp)(hop:op=.eql\/op=.neq)(t:TypeId)(x y:Value){d:TypeDesc}(ht:X.Q.underlying t=some d)(hy:I0 d y=true):X.Img X.Rv V (binOp op t x y) (binOp op t (ren X.ρ x) y):=by
 obtain⟨_,h4⟩:=yL X.ρ hy;have h:¬sc x y:=λh=>by have:=h.1;have:=h.2;omega
 have h':¬sc (ren X.ρ x) y:=by unfold sc at*;rwa[GF]
 obtain rfl|rfl:=hop
 ·rw[Lf h,Lf h'];refine .bind (R5 t x y ht hy) ?_;rintro V1 b _-rfl;exact .pure Z4p
 ·rw[Lh h,Lh h'];refine .bind (R5 t x y ht hy) ?_;rintro V1 b _-rfl;exact .pure Z4p
def JT(op:BinOp)(t:TypeId)(x y:Operand)(a b:Value)(ht:X.Small t):X.Img Eq V (eqGuard op t x y a b) (eqGuard op t x y (ren X.ρ a) (ren X.ρ b)):=by
 have hq:X.Q.eqGuardType X.Q.depth t=false/\X.P.eqGuardType X.P.depth t=false:=by
  have e:X.Q.depth=(X.Q.depth-1)+1:=by simp[Program.depth]
  have e':X.P.depth=(X.Q.depth-1)+1:=e;rw[e',e];unfold Program.eqGuardType;rw[X.P_under];obtain⟨k,ht⟩|ht:=ht
  ·rw[ht.d];simp
  ·rw[ht];simp
 have hi:∀V,X.Img (λa b=>a=b/\a=false) V (Op.eqGuardIn Op.maxDepth t .nilIface .nilIface) (Op.eqGuardIn Op.maxDepth t .nilIface .nilIface):=λV=>by
  show X.Img _ V (Op.eqGuardIn 10000 t _ _) (Op.eqGuardIn 10000 t _ _);unfold Op.eqGuardIn;refine .bind (ZD t) ?_;rintro V1 d' _- ⟨rfl,h⟩;obtain⟨k,ht⟩|ht:=ht
  ·rw[ht.d]at h;cases h;exact .pure ⟨rfl,rfl⟩
  ·rw[ht]at h;cases h;exact .pure ⟨rfl,rfl⟩
 by_cases h:gs a=gs b/\gs a<2
 ·obtain⟨h1,h2⟩:=h;cases a<;>first|exact absurd h2 (Z7T rfl)|skip
  ·cases b<;>first|cases h1|skip
   rw[ZI];unfold eqGuard;generalize (!match op with|.eql=>true|.neq=>true|_=>false)=g;cases g
   ·simp only[Z4G,Z5h]
    repeat' first
     |exact .pure rfl
     |(refine .bind (hi V) ?_;rintro V1 b _- ⟨rfl,rfl⟩;exact .pure rfl)
     |split
   ·exact .pure rfl
  ·cases b<;>first|cases h1|skip
   rw[Yh,Yh];unfold eqGuard;generalize (!match op with|.eql=>true|.neq=>true|_=>false)=g;cases g
   ·simp only[Z4G,Z5h];refine .bind Zr ?_;rintro V1 _ _- ⟨rfl,rfl⟩;refine .bind Zr ?_;rintro V2 _ _- ⟨rfl,rfl⟩;rw[hq.1,hq.2];exact .pure rfl
   ·exact .pure rfl
 ·rw[Ub op t x y a b h,Ub op t x y _ _ (by grind [M9])];exact .pure rfl
def yd(op:BinOp)(t:TypeId)(x:Operand)(c:Value)(a b:Value)(hb:gs b≠1):X.Img Eq V (eqGuard op t x (.const c) a b) (eqGuard op t x (.const c) (ren X.ρ a) b):=by
 by_cases h:gs a=gs b/\gs a<2
 ·obtain⟨h1,h2⟩:=h;cases a<;>first|exact absurd h2 (Z7T rfl)|exact absurd h1.symm hb|skip
  cases b<;>first|cases h1|skip
  rw[ZI];unfold eqGuard;generalize (!match op with|.eql=>true|.neq=>true|_=>false)=g;cases g
  ·simp only[Z4G,Z5h,Z8m,Z5b];exact .pure rfl
  ·exact .pure rfl
 ·rw[Ub op t x (.const c) a b h,Ub op t x (.const c) _ _ (by rwa[M9])];exact .pure rfl
end
end
section
def renP(ρ:Nat->Nat):Place->Place
 |.val v=>.val (ren ρ v)
 |.var a=>.var (renA ρ a)
section
variable {X:Cx}{V:List Nat}
def Lz(t:TypeId)(x:Place):X.Img X.Rv V (x.get t) ((renP X.ρ x).get t):=by
 cases x with
 |val v=>exact .pure rfl
 |var a=>exact XV t a
def Cw(a:Addr)(c b:Nat):X.Img (λa b=>b=renA X.ρ a) V (partAt a c b) (partAt (renA X.ρ a) c b):=by
 unfold partAt;refine .bind (Sr a) ?_;rintro V1 n _-rfl;dsimp only;have h:=Sr (X:=X) (V:=V1) {block:=a.block,off:=a.off+c,spot:=none};refine .bind h ?_;rintro V2 m _-rfl;refine .pure ?_;split<;>rfl
def Wr(a:Addr)(f:Field):X.Img (λa b=>b=renA X.ρ a) V (fieldPlace a f) (fieldPlace (renA X.ρ a) f):=by
 unfold fieldPlace;refine .bind (ZK _) ?_;rintro V1 n _-rfl;split
 ·exact Cw _ _ _
 ·rw[Vg];exact .pure rfl
def WE:∀(l:List FieldStep) (V:List Nat) (t:TypeId) (x:Place),X.Img (λa b=>b=(a.1,renP X.ρ a.2)) V (follow l t x) (follow l t (renP X.ρ x))
 | [],V,t,x=>.pure rfl
 |s::rest,V,t,x=>by
  unfold follow;refine .bind (Zj _) ?_;rintro V1 d _-rfl;cases d<;>first|exact Z3 _ _|skip
  rename_i fields;dsimp only;cases fields[s.index]? with
  |none=>exact Z3 _ _
  |some f=>
   dsimp only;split
   ·refine .bind (Lz t x) ?_;rintro V2 v _-rfl;refine .bind (Sp v) ?_;rintro V3 a _-rfl;refine .bind (Wr a f) ?_;rintro V4 b _-rfl;exact WE rest V4 f.type (.var b)
   ·cases x with
    |var a=>
     refine .bind (Wr a f) ?_;rintro V4 b _-rfl;exact WE rest V4 f.type (.var b)
    |val v=>
     cases v<;>first|exact Z3 _ _|skip
     rename_i cs;simp only[renP,Yh];refine .bind (RQ f.type cs f.offset) ?_;rintro V4 b _-rfl;exact WE rest V4 f.type (.val b)
def jF(ts:Array TypeId)(t:TypeId)(v:Value)(a b:ByteArray):X.Img X.Rv V (Builtin.ssaWrapNilChk_ ts t #[v,.string a,.string b]) (Builtin.ssaWrapNilChk_ ts t #[ren X.ρ v,.string a,.string b]):=by
 unfold Builtin.ssaWrapNilChk_;dsimp only;cases v<;>first|exact Z3 _ _|skip
 rename_i p;cases p with
 |some p=>rw[Yi];exact .pure (Yi _ _).symm
 |none=>
  rw[Xx];refine .bind (Y2 _) ?_;rintro V1 n _-rfl;split
  ·exact Y6
  ·cases ts[0]? with
   |none=>exact Z3 _ _
   |some pt=>
    dsimp only;refine .bind (Zj _) ?_;rintro V2 d _-rfl;cases d<;>first|exact Z3 _ _|skip
    dsimp only;refine .bind (Zz _) ?_;rintro V3 i _-rfl
    grind [Z3,String.fromUTF8?,UR,Zm]
def UF(xt:TypeId)(x:Place)(b:Bool)(o:Option String):X.Img X.Rv V (receiverAt xt x b o) (receiverAt xt (renP X.ρ x) b o):=by
 unfold receiverAt;refine .bind (Zj _) ?_;rintro V1 d _-rfl
 have ptr:∀(V:List Nat) (elem:TypeId),X.Img X.Rv V (do
   let ptr<-x.get xt
   let ptr<-match o with
    |some name=>Builtin.ssaWrapNilChk_ #[xt] xt #[ptr,strVal "",strVal name]
    |none=>pure ptr
   loadVar elem (<-asAddr ptr)) (do
   let ptr<-(renP X.ρ x).get xt
   let ptr<-match o with
    |some name=>Builtin.ssaWrapNilChk_ #[xt] xt #[ptr,strVal "",strVal name]
    |none=>pure ptr
   loadVar elem (<-asAddr ptr)):=λV elem=>by
  refine .bind (Lz xt x) ?_;rintro V2 v _-rfl
  have last:∀V u,X.Img X.Rv V (do loadVar elem (<-asAddr u)) (do loadVar elem (<-asAddr (ren X.ρ u))):=λV u=>by
   refine .bind (Sp u) ?_;rintro V4 a _-rfl;exact XV _ _
  cases o with
  |none=>simp_all
  |some name=>
   refine .bind (jF _ _ _ _ _) ?_;rintro V3 u _-rfl;simp_all
 cases b with
 |true=>
  cases x with
  |val v=>cases d<;>first|exact .pure rfl|exact Z3 _ _
  |var a=>cases d<;>first|exact XV _ _|exact .pure (Yi _ _).symm
 |false=>
  cases d<;>first|exact ptr V1 _|skip
  all_goals cases x<;>exact Lz xt _
def QM(t:TypeId)(v:Value)(path:Array FieldStep)(b:Bool):X.Img X.Rv V (receiverVia t v path b) (receiverVia t (ren X.ρ v) path b):=by
 unfold receiverVia;refine .bind (WE path.toList V t (.val v)) ?_;rintro V1 ⟨xt,x⟩ _-rfl;exact UF _ _ _ _
def Kv:∀(n:Nat) (V:List Nat) (t:TypeId) (v:Value) (name:String),X.Img (λa b=>b=(a.1,ren X.ρ a.2)) V (method n t v name) (method n t (ren X.ρ v) name)
 |0,V,t,v,name=>Zm (λ_ h=>Z3V) _
 |n+1,V,t,v,name=>by
  unfold method;refine .bind (Zz t) ?_;rintro V1 i _-rfl;cases i.methods.find? (·.name==name)with
  |none=>exact Z3 _ _
  |some m=>
   dsimp only;refine .bind (WE m.path.toList V1 t (.val v)) ?_;rintro V2 ⟨xt,x⟩ _-rfl;dsimp only;cases m.func with
   |none=>
    dsimp only;refine .bind (Lz xt x) ?_;rintro V3 u _-rfl;cases u<;>first|exact Z3 _ _|skip
    ·rw[X7];exact Kv n V3 _ _ _
    ·rw[ZI];exact Y6
   |some fp=>
    obtain⟨f,b⟩:=fp;dsimp only;refine .bind (UF xt x b _) ?_;rintro V3 u _-rfl;exact .pure rfl
def renX(ρ:Nat->Nat):Except (Option Bool) (TypeId×Option Value)->Except (Option Bool) (TypeId×Option Value)
 |.ok p=>.ok (p.1,p.2.map (ren ρ))
 |.error e=>.error e
def YZ:∀(l:List FieldStep) (V:List Nat) (t:TypeId) (x:Option Value),X.Img (λa b=>b=renX X.ρ a) V (followBlind l t x) (followBlind l t (x.map (ren X.ρ)))
 | [],V,t,x=>.pure rfl
 |s::rest,V,t,x=>by
  unfold followBlind;refine .bind (Zj _) ?_;rintro V1 d _-rfl;cases d<;>first|exact Z3 _ _|skip
  rename_i fields;dsimp only;cases fields[s.index]? with
  |none=>exact Z3 _ _
  |some f=>
   dsimp only;cases s.deref
   ·cases x with
    |none=>exact YZ rest V1 f.type none
    |some v=>
     cases v<;>first|exact Z3 _ _|skip
     rename_i cs;simp only[Z4K,Yh];refine .bind (RQ f.type cs f.offset) ?_;rintro V4 b _-rfl;exact YZ rest V4 f.type (some b)
   ·cases x with
    |none=>exact .pure rfl
    |some v=>
     cases v<;>first|exact Z3 _ _|skip
     rename_i p;cases p with
     |none=>simp only[Z4K,Xx];exact .pure rfl
     |some a=>simp only[Z4K,Yi];exact YZ rest V1 f.type none
def R6:∀(n:Nat) (V:List Nat) (t:TypeId) (v:Value) (name:String),X.Img Eq V (nilAhead n t v name) (nilAhead n t (ren X.ρ v) name)
 |0,V,t,v,name=>.pure rfl
 |n+1,V,t,v,name=>by
  unfold nilAhead;refine .bind (Zz t) ?_;rintro V1 i _-rfl;cases i.methods.find? (·.name==name)with
  |none=>exact Z3 _ _
  |some m=>
   dsimp only;refine .bind (YZ m.path.toList V1 t (some v)) ?_;rintro V2 r _-rfl;cases r with
   |error e=>exact .pure rfl
   |ok p=>
    obtain⟨xt,x⟩:=p;simp only[renX];cases m.func with
    |none=>
     cases x with
     |none=>exact .pure rfl
     |some u=>
      cases u<;>first|exact Z3 _ _|skip
      ·simp_all[Z4K,X7,R6]
      ·simp only[Z4K,ZI];exact .pure rfl
    |some fp=>
     obtain⟨f,b⟩:=fp;cases b
     ·dsimp only;refine .bind (Zj _) ?_;rintro V3 d _-rfl;cases d<;>first|(cases x<;>exact .pure rfl)|skip
      cases x with
      |none=>exact .pure rfl
      |some u=>
       cases u with
       |pointer q=>cases q<;>(simp only[Z4K,ren];exact .pure rfl)
       |slice q n c=>cases q<;>(simp only[Z4K,ren];exact .pure rfl)
       |map q=>cases q<;>(simp only[Z4K,ren];exact .pure rfl)
       |chan q=>cases q<;>(simp only[Z4K,ren];exact .pure rfl)
       |_=>simp only[Z4K,ren];exact .pure rfl
     ·exact .pure rfl
end
end
section
def okV:Operand->Bool
 |.tmp _|.func _=>true
 |.const v=>still 9 v
 |.global _=>false
section
variable (Q:Program)
def yl(t:TypeId):Bool:=match Q.underlying t with|some (.int _)=>true|_=>false
def Fj(t:TypeId):Bool:=match Q.info? t with|some i=>(match i.desc with|.named n _=>n != "sync.copyChecker" |_=>true)|none=>true
def jG(t:TypeId):Bool:=(yl Q t&&Fj Q t)||(match Q.underlying t with|some .bool=>true|_=>false)
def Sx(t:TypeId):Bool:=match Q.underlying t with|some (.slice _)=>true|_=>false
def Ty(t:TypeId):Bool:=match Q.underlying t with|some (.map a _)=>yl Q a&&Fj Q a|_=>false
def LR(t:TypeId):Bool:=match Q.underlying t with|some (.interface _)=>false|_=>true
def v9(op:BinOp)(t:TypeId)(y:Operand):Bool:=
 jG Q t||((match op with|.eql|.neq=>true|_=>false)&&(match y with|.const v=>(match Q.underlying t with|some d=>I0 d v|none=>false)|_=>false))
def Ma(t:TypeId):Bool:=match Q.underlying t with|some (.slice _)|some (.map ..)|some (.array ..)=>true|_=>false
def X1(r:Bool)(c:Call):Bool:=match c.callee with
 |.builtin .len=>c.args.size==1&&(match c.argTypes[0]? with|some t=>Ma Q t|none=>false)
 |.builtin .append=>c.args.size==2&&(match c.argTypes[0]? with|some t=>Sx Q t|none=>false)&&(match c.argTypes[1]? with|some t=>Sx Q t||yl Q t|none=>false)
 |.builtin .recover=> !r
 |.builtin .close=>c.args.size==1
 |.builtin .min|.builtin .max=>true
 |.builtin .copy=>c.args.size==2
 |.builtin .clear=>c.args.size==1&&(match c.argTypes[0]? with|some t=>Sx Q t||Ty Q t|none=>false)
 |.builtin _=>false
 |.value f=>okV f
 |.invoke x _=>okV x
def okOp(r:Bool):Op->Bool
 |.move x|.assign x|.box _ x|.load _ x|.nilCheck x|.makeInterface _ x|.panic x|.extract x _=>okV x
 |.field _ x _|.fieldAddr _ x _=>okV x
 |.pick a b c=>okV a&&okV b&&okV c
 |.alloc _=>true
 |.build _ ps|.buildSlice _ _ ps=>ps.all λp=>okV p.2
 |.store _ a v|.index _ a v|.indexAddr _ a v=>okV a&&okV v
 |.binOp op t x y _=>okV x&&okV y&&v9 Q op t y
 |.unOp _ _ x=>okV x
 |.makeSlice _ l c=>okV l&&okV c
 |.convert s d x=>okV x&&yl Q s&&yl Q d
 |.makeFunc fn a b=>(match fn with|.yield _=>false|_=>true)&&a.all okV&&b.all okV
 |.makeMap _ o=>o.all okV
 |.slice t x l h m=>okV x&&l.all okV&&h.all okV&&m.all okV&&Sx Q t
 |.lookup t x y _=>okV x&&okV y&&Ty Q t
 |.mapUpdate t x y z|.insert t x y z=>okV x&&okV y&&okV z&&Ty Q t
 |.typeAssert x _ a ok=>okV x&&ok&&LR Q a
 |.call c=>c.args.all okV&&X1 Q r c
 |.defer c=> !r&&c.args.all okV&&(match c.callee with|.builtin _=>false|.value f=>okV f|.invoke x _=>okV x)
 |.send ch v=>okV ch&&okV v
 |.recv _ ch _=>okV ch
 |.go c=>c.args.all okV&&(match c.callee with|.value (.func _)=>true|_=>false)
 |_=>false
def spOp:Op->Bool
 |.send .. |.recv .. |.go _=>true
 |_=>false
def ZL:Bool->Code->Bool
 |r,.region _ ops _=>ops.all λo=>okOp Q r o.op
 |r,.seq a b=>ZL r a&&ZL r b
 |r,.cond c a b=>okV c&&ZL r a&&ZL r b
 |r,.block _ c|r,.loop c|r,.scope c=>ZL r c
 |_,.rangeFunc f _ a b=>okV f&&ZL true a&&ZL true b
 |_,_=>true
end
def Ky:Code->Bool
 |.ret|.exit _|.goto _=>true
 |_=>false
def okD(d:Deferred):Bool:=match d.target with
 |.builtin .. |.coroexit _=>false
 |_=>true
def Cx.Okf(X:Cx)(f:FuncId):Prop:=∃fn c,X.Q.funcs[f]?=some fn/\X.fs[f]?=some fn/\fn.body=some c/\ZL X.Q false c=true
def Cx.Okn(X:Cx)(f:FuncId):Prop:=X.Okf f\/(X.Q.funcs[f]?=none/\X.fs[f]?=none)\/∃fn fn',X.Q.funcs[f]?=some fn/\X.fs[f]?=some fn'/\fn'.results=fn.results
structure Cx.Ok (X:Cx):Prop where
 zero:X.Zero
 glob:X.Q.globals=#[]
 kl:∀l,X.KL l↔(ZL X.Q true l.assign=true/\ZL X.Q true l.body=true/\l.pending.all Ky=true/\X.Okn l.fn)
 kd:∀d,X.KD d↔okD d=true
 fn:∀(f:FuncId) (fn:Func),X.Q.funcs[f]?=some fn->(fn.name= "?" /\fn.origin= "?" /\fn.body=none)\/((fn.name== "runtime.NumGoroutine")=false/\X.fs[f]?=some fn/\∃c,fn.body=some c/\ZL X.Q false c=true)
def Cx.NR(X:Cx)(rd:Bool):Next->Next->Prop
 |.value v,b=>b=.value (ren X.ρ v)
 |.skip,b=>b=.skip
 |.enter f args,b=>b=.enter f (args.map (ren X.ρ))/\X.Okf f
 |.round l f tmps a c,b=>b=.round (X.ρ l) f (tmps.map (ren X.ρ)) a c/\ZL X.Q true a=true/\ZL X.Q true c=true/\X.Okn f
 |.defer d,b=>b=.defer (renD X.ρ d)/\okD d=true
 |.recover,b=>b=.recover/\rd=false
 |_,_=>False
theorem G1:Extern.allNextRows.lookup "?" =none:=by kernel_rfl
theorem CX:Extern.allGenericRows.lookup "?" =none:=by kernel_rfl
theorem CY:Extern.allTypedRows.lookup "?" =none:=by kernel_rfl
theorem CZ:Extern.allRows.lookup "?" =none:=by kernel_rfl
section
variable {X:Cx}{V:List Nat}{rd:Bool}
theorem VJ(ok:X.Ok)(f:FuncId)(args:Array Value):X.Img (X.NR rd) V (callFunc f args) (callFunc f (args.map (ren X.ρ))):=by
 unfold callFunc;cases hf:X.Q.funcs[f]? with
 |none=>
  refine .bad _ λw=>⟨.stuck "call: no such function",w,?_,trivial⟩;simp only[Z54,Z6g,Z51,hf];rfl
 |some fn=>
  obtain⟨h1,h2,h3⟩|⟨h1,h2,c,h3,h4⟩:=ok.fn f fn hf
  ·refine .bad _ λw=>⟨.unsupported (.extern fn.name),w,?_,trivial⟩;have e1:Extern.findNext fn=none:=by unfold Extern.findNext;simp only[h1,h2,G1];rfl
   have e2:Extern.find fn=none:=by unfold Extern.find;simp only[h1,h2,CX,CY,CZ];rfl
   simp only[Z54,Z6g,Z51,hf,h1,h3,e1,e2];rfl
  ·refine .bind Zr ?_;rintro V1 _ _- ⟨rfl,rfl⟩;rw[show X.P.funcs[f]?=some fn from h2,hf];simp only[h1,h3,Z4G,Z5h,Option.isNone_some];exact .pure ⟨rfl,fn,c,hf,h2,h3,h4⟩
theorem LI{α β:Type}(f:α->β)(x:α):(#[x]:Array α).map f=#[f x]:=Z1
theorem Wq(ok:X.Ok)(v:Value)(name:String)(args:Array Value):X.Img (X.NR rd) V (callMethod v name args) (callMethod (ren X.ρ v) name (args.map (ren X.ρ))):=by
 unfold callMethod;cases v<;>first|exact Z3 _ _|skip
 ·rw[X7];dsimp only;refine .bind Zr ?_;rintro V1 _ _- ⟨rfl,rfl⟩;refine .bind (Kv _ _ _ _ _) ?_;rintro V2 ⟨f,u⟩ _-rfl;have:=VJ (rd:=rd) (V:=V2) ok f (#[u]++args);simp_all
 simp_all[ZI,Y6]
theorem EG(ts:Array TypeId)(t:TypeId)(v:Value):X.Img X.Rv V (Builtin.close_ ts t #[v]) (Builtin.close_ ts t #[ren X.ρ v]):=by
 cases v<;>first|exact Z3 _ _|skip
 rename_i r;cases r with
 |none=>
  rw[show ren X.ρ (.chan none)=.chan none by simp[ren]];exact UR _
 |some r=>
  rw[show ren X.ρ (.chan (some r))=.chan (some (X.ρ r))by simp[ren]];refine .get (λw=>⟨_,w,rfl,trivial⟩) λo ho=> ?_;cases o<;>first|exact Z3 _ _|exact ho.elim
theorem GL(ρ:Nat->Nat):∀(ps:List Tmp) (args:List Value) (tmps:Array Value),
  (ps.zip (args.map (ren ρ))).foldl (λtmps (x:Tmp×Value)=>tmps.setIfInBounds x.1 x.2) (tmps.map (ren ρ))=((ps.zip args).foldl (λtmps (x:Tmp×Value)=>tmps.setIfInBounds x.1 x.2) tmps).map (ren ρ)
 | [],_,_=>rfl
 |_::_,[],_=>rfl
 |p::ps,a::args,tmps=>by
  simp only[Z4T,List.zip_cons_cons,Z6i];rw[map_set];exact GL ρ ps args _
theorem XU{α β:Type}{RA:α->β->Prop}{l:Nat}{f:Loop->Sem α}{f':Loop->Sem β}(h:∀r,X.KL r->X.Img RA (l::V) (f r) (f' (renL X.ρ r))):X.Img RA V (Instr.getLoop l>>=f) (Instr.getLoop (X.ρ l)>>=f'):=by
 refine .get (λw=>⟨_,w,rfl,trivial⟩) λo ho=> ?_;cases o<;>first|exact h _ ho|exact Z3 _ _
theorem EM(ok:X.Ok)(l:Nat)(args:Array Value):X.Img (X.NR rd) V (Instr.yield l args) (Instr.yield (X.ρ l) (args.map (ren X.ρ))):=by
 refine XU λr hr=> ?_;obtain⟨h1,h2,_,h3⟩:=(ok.kl r).1 hr;simp only[Z7p,renL];split
 ·exact Z3 _ _
 ·refine .pure ⟨?_,h1,h2,h3⟩;congr 1;rw[<-Z6P,<-Z6P,Array.toList_zip,Array.toList_zip,Z5C];simp_all[GL]
theorem Ss(ok:X.Ok)(t:Target)(args:Array Value)(ht:okD ⟨t,args⟩=true):X.Img (X.NR rd) V (invoke t args) (invoke (renT X.ρ t) (args.map (ren X.ρ))):=by
 have hext:(args.map (ren X.ρ)).extract 1 (args.map (ren X.ρ)).size=(args.extract 1 args.size).map (ren X.ρ):=Z1;unfold invoke;cases t with
 |nil=>exact Y6
 |builtin=>cases ht
 |coroexit=>cases ht
 |collected r=>exact Z3 _ _
 |fn fn c=>
  cases fn with
  |func f=>
   simp only[renT,WL];have:=VJ (rd:=rd) (V:=V) ok f (args++c);rw[Z6n]at this;exact this
  |method name=>
   simp only[renT,WL,Z50];rw[hext];cases args[0]? with
   |none=>exact Z3 _ _
   |some v=>exact Wq ok v name _
  |methodOf t name=>
   simp only[renT,WL,Z50];rw[hext];cases args[0]? with
   |none=>exact Z3 _ _
   |some v=>
    simp only[Z4K];refine .bind (Zj _) ?_;rintro V1 d _-rfl;have h1:=Wq (rd:=rd) (V:=V1) ok v name (args.extract 1 args.size);have h2:=Wq (rd:=rd) (V:=V1) ok (.iface t v) name (args.extract 1 args.size);rw[X7]at h2;cases d<;>first|exact h1|exact h2
  |via t path f b=>
   simp only[renT,WL,Z50];rw[hext];cases args[0]? with
   |none=>exact Z3 _ _
   |some v=>
    simp only[Z4K];refine .bind (QM t v path b) ?_;rintro V2 u _-rfl;have:=VJ (rd:=rd) (V:=V2) ok f (#[u]++args.extract 1);rw[Z6n,LI]at this;exact this
  |yield l=>exact EM ok l args
theorem QK(f:Value)(args:Array Value):X.Img (λa b=>b=renD X.ρ a/\okD a=true) V (Deferred.ofValue f args) (Deferred.ofValue (ren X.ρ f) (args.map (ren X.ρ))):=by
 cases f<;>first|exact Z3 _ _|skip
 ·simp only[ren];refine .pure ⟨?_,rfl⟩;simp[renD,renT]
 ·rw[Vh];exact .pure ⟨rfl,rfl⟩
theorem Lv(ok:X.Ok)(fn:FuncId)(tmps:Array Value)(ps:Array Tmp)(a b:Code)(o:Option Nat)(hf:X.Okn fn)(ha:ZL X.Q true a=true)(hb:ZL X.Q true b=true):
  X.Img (λx y=>y=(X.ρ x.1,x.2.map (renD X.ρ))/\∀d∈x.2,okD d=true) V (Instr.enterLoop fn tmps ps a b o) (Instr.enterLoop fn (tmps.map (ren X.ρ)) ps a b (o.map X.ρ)):=by
 have last:∀(V:List Nat) (r:Nat) (mk:List Deferred),(∀d∈mk,okD d=true)->X.Img (λx y=>y=(X.ρ x.1,x.2.map (renD X.ρ))/\∀d∈x.2,okD d=true) V
   (do pure (<-newObj (.loop {state:=.ready,pending:=none,fn,tmps,params:=ps,assign:=a,body:=b,defers:=r}),mk):Sem (Nat×List Deferred))
   (do pure (<-newObj (.loop {state:=.ready,pending:=none,fn,tmps:=tmps.map (ren X.ρ),params:=ps,assign:=a,body:=b,defers:=X.ρ r}),mk.map (renD X.ρ)):Sem (Nat×List Deferred)):=λV r mk hmk=>by
  have h:X.Img (λa b=>b=X.ρ a) V (newObj (.loop ⟨.ready,none,fn,tmps,ps,a,b,r⟩)) (newObj (renO X.ρ (.loop ⟨.ready,none,fn,tmps,ps,a,b,r⟩))):=
   .new (o:=.loop _) ((ok.kl _).2 ⟨ha,hb,rfl,hf⟩) (λ_ _ _ h=>Z3V) λr=>.pure rfl
  refine .bind h ?_;rintro V' l _-rfl;exact .pure ⟨rfl,hmk⟩
 cases o with
 |none=>
  unfold Instr.enterLoop;simp only[Z6W]
  have h:X.Img (λa b=>b=X.ρ a) V (newObj (.deferred (some []))) (newObj (renO X.ρ (.deferred (some [])))):=
   .new (o:=.deferred (some [])) (λd hd=>by cases hd) (λ_ _ _ h=>Z3V) λr=>.pure rfl
  refine .bind h ?_;rintro V' r _-rfl;have h:=last V' r [{target:=.collected r,args:=#[]}] (λd hd=>by simp at hd;subst hd;rfl);simp_all[List.map,renD,renT]
 |some l=>
  unfold Instr.enterLoop;simp only[Z4K];refine XU λr hr=> ?_;exact last _ r.defers [] (λd hd=>by cases hd)
theorem US{α β:Type}{RA:α->β->Prop}{l:Nat}{r:Loop}{k:Sem α}{k':Sem β}(hl:l∈V)(hr:X.KL r)(h:X.Img RA V k k'):X.Img RA V (setObj l (.loop r)>>=λ_=>k) (setObj (X.ρ l) (.loop (renL X.ρ r))>>=λ_=>k'):=
 .set (o:=.loop r) hl hr (λ_ _ _ h=>Z3V) h
theorem JR(ok:X.Ok)(l:Nat):X.Img Eq V (Instr.beginRound l) (Instr.beginRound (X.ρ l)):=by
 refine XU λr hr=> ?_;refine US (r:= {r with state:=.busy}) (Z58 ..) ((ok.kl _).2 ((ok.kl r).1 hr)) ?_;show X.Img Eq _ (match r.state with|.ready=>_|.done=>_|.busy=>_|.exhausted=>_) (match r.state with|.ready=>_|.done=>_|.busy=>_|.exhausted=>_);cases r.state<;>first|exact .pure rfl|exact Ym _
theorem yc(ok:X.Ok)(l:Nat)(j:Option Code)(hj:j.all Ky=true):X.Img X.Rv V (Instr.endRound l j) (Instr.endRound (X.ρ l) j):=by
 refine XU λr hr=> ?_;obtain⟨h1,h2,_,h3⟩:=(ok.kl _).1 hr;refine US (r:= {r with state:=if j.isNone then .ready else .done,pending:=j}) (Z58 ..) ((ok.kl _).2 ⟨h1,h2,hj,h3⟩) ?_;exact .pure Z4p
theorem jx(ok:X.Ok)(l:Nat):X.Img (λa b=>a=b/\a.all Ky=true) V (Instr.endLoop l) (Instr.endLoop (X.ρ l)):=by
 refine XU λr hr=> ?_;have e:(renL X.ρ r).state=r.state:=rfl;rw[e];have h:=(ok.kl _).1 hr;split
 ·exact Ym _
 ·refine US (r:= {r with state:=.exhausted}) (Z58 ..) ((ok.kl _).2 h) ?_;exact .pure ⟨rfl,h.2.2.1⟩
theorem Rz(ok:X.Ok)(l:Nat):X.Img (λa b=>b=a.map (renD X.ρ)/\∀d∈a,okD d=true) V (Instr.takeDeferred l) (Instr.takeDeferred (X.ρ l)):=by
 refine .get (λw=>⟨_,w,rfl,trivial⟩) λo ho=> ?_;cases o<;>first|exact Z3 _ _|skip
 rename_i ds;cases ds with
 |none=>exact Z3 _ _
 |some ds=>
  refine .set (o:=.deferred none) (Z58 ..) trivial (λ_ _ _ h=>Z3V) (.pure ⟨rfl,λd hd=>(ok.kd d).1 (ho d hd)⟩)
end
end
section
section
variable {X:Cx}{V:List Nat}
def yf(x:Value):X.Img Eq V (Builtin.lenOf x) (Builtin.lenOf (ren X.ρ x)):=by
 cases x<;>first|exact Z3 _ _|skip
 ·rw[Vi];exact .pure rfl
 ·rename_i a n c;have e0:ren X.ρ (.slice a n c)=.slice (a.map (renA X.ρ)) n c:=by cases a<;>simp[ren]
  rw[e0];exact .pure rfl
def YK(s n:Nat)(x:Value):X.Img (λa b=>b=a.map (ren X.ρ)) V (Builtin.firstCells s n x) (Builtin.firstCells s n (ren X.ρ x)):=by
 cases x<;>first|exact Z3 _ _|skip
 ·rw[Vi];refine .pure ?_;have e:(ren X.ρ∘λb:UInt8=>Value.int .u8 b.toNat)=λb=>Value.int .u8 b.toNat:=by funext b;simp
  simp[Array.map_map,e]
 ·rename_i a m c;cases a with
  |none=>simp only[ren];exact .pure Z1
  |some a=>simp only[ren];exact Tv a _
def XI(ρ:Nat->Nat)(z:Array Value)(n:Nat)(h:z.map (ren ρ)=z):(Builtin.zeroCells z n).map (ren ρ)=Builtin.zeroCells z n:=by
 unfold Builtin.zeroCells;refine Vb λx hx=> ?_;obtain⟨i,_,rfl⟩:=Z7c.1 hx;by_cases hi:i%z.size<z.size
 ·rw[Z8H z _ hi];have h2:(z.map (ren ρ))[i%z.size]?=z[i%z.size]? :=by rw[h]
  rw[Z50,Z4X hi]at h2;exact Z6c h2
 ·rw[Z8G z _ hi];have e:(default:Value)=.bool default:=rfl;rw[e,YH]
def qx(p:Program)(a b n:Nat)(base:Option Addr)(x:Value)(w:World):∃r,(Builtin.mayShare a b n base x).run p w=.ok r w:=by
 have hh:∀(c:Addr) (m:Nat),∃r,(Builtin.holdsCells c m).run p w=.ok r w:=λc m=>by
  unfold Builtin.holdsCells;simp only[Z54,Z8D,Z51];split<;>exact⟨_,rfl⟩
 have last:∃r,(match x with
   |.slice (some b) _ _=>do pure (!(<-Builtin.holdsCells b (n*a))||base.any (·.block==b.block))
   |_=>pure false:Sem Bool).run p w=.ok r w:=by
  cases x with
  |slice q _ _=>
   cases q with
   |none=>exact⟨_,rfl⟩
   |some q=>
    obtain⟨r,hr⟩:=hh q (n*a);simp only[Z54,hr,Z51];exact⟨_,rfl⟩
  |_=>exact⟨_,rfl⟩
 unfold Builtin.mayShare;cases base with
 |none=>
  obtain⟨r,hr⟩:=last;exact⟨r,hr⟩
 |some c=>
  obtain⟨r,hr⟩:=hh c (b*a);simp only[Z54,hr,Z51,run_frozen,Z6E];cases(r&& !w.frozen? (c.add (b / 2*a)))with
  |false=>exact⟨_,rfl⟩
  |true=>exact last
def Cm(hz:X.Zero)(ts:Array TypeId)(ty t tx e ex:TypeId)(s x:Value)(h0:ts[0]?=some t)(h1:ts[1]?=some tx)(ht:X.Q.underlying t=some (.slice e))(hx:X.Q.underlying tx=some (.slice ex)):
  X.Img X.Rv V (Builtin.append_ ts ty #[s,x]) (Builtin.append_ ts ty #[ren X.ρ s,ren X.ρ x]):=by
 have e0:∀y z:Value,(#[y,z]:Array Value)[0]?=some y:=λ_ _=>rfl;have e1:∀y z:Value,(#[y,z]:Array Value)[1]?=some z:=λ_ _=>rfl;unfold Builtin.append_;simp only[h0,h1,e0,e1];refine .bind (ZD t) ?_;rintro V1 d _- ⟨rfl,h⟩;rw[ht]at h;cases h;cases s<;>first|exact Z3 _ _|skip
 rename_i base n c;have es:ren X.ρ (.slice base n c)=.slice (base.map (renA X.ρ)) n c:=by cases base<;>simp[ren]
 rw[es];dsimp only;refine .bind (ZK e) ?_;rintro V2 size _-rfl;refine .bind (ZD tx) ?_;rintro V3 d _- ⟨rfl,h⟩;rw[hx]at h;cases h;simp only[pure_bind,Z4G,Z5h,Bool.not_false,Z5b,false_or];refine .bind (yf x) ?_;rintro V4 m _-rfl;by_cases hc:n+m<=c
 ·simp only[if_pos hc];refine .bind (YK size m x) ?_;rintro V5 new _-rfl;cases base with
  |none=>exact .pure Z48
  |some a=>
   simp only[Z4K];rw[Vg,Z5C];refine .bind (YL (a.add (n*size)) new.toList V5 0) ?_;rintro V6 _ _- -;exact .pure Z48
 ·simp only[if_neg hc];refine .bind (Zz e) ?_;rintro V5 i _-rfl
  have rest:∀V,X.Img X.Rv V (do
    let newCap<-choose (.appendCap (n+m) c e)
    askRoom (newCap*(<-typeInfo e).bytes)
    let old<-Builtin.firstCells size n (.slice base n c)
    let new<-Builtin.firstCells size m x
    let rest:=Builtin.zeroCells (<-zeroValue e).cells (newCap- (n+m))
    pure (.slice (some (<-newRow e (old++new++rest))) (n+m) newCap):Sem Value) (do
    let newCap<-choose (.appendCap (n+m) c e)
    askRoom (newCap*(<-typeInfo e).bytes)
    let old<-Builtin.firstCells size n (.slice (base.map (renA X.ρ)) n c)
    let new<-Builtin.firstCells size m (ren X.ρ x)
    let rest:=Builtin.zeroCells (<-zeroValue e).cells (newCap- (n+m))
    pure (.slice (some (<-newRow e (old++new++rest))) (n+m) newCap):Sem Value):=λV=>by
   refine .bind (Y2 _) ?_;rintro V1 k _-rfl;refine .bind (Zz e) ?_;rintro V2 i _-rfl;refine .bind (RA:=Eq) ?_ ?_
   ·unfold askRoom;split
    ·exact .room (.pure rfl)
    ·exact .pure rfl
   rintro V3 _ _- -;rw[<-es];refine .bind (YK size n _) ?_;rintro V4 old _-rfl;refine .bind (YK size m x) ?_;rintro V5 new _-rfl;refine .bind (Xn hz e) ?_;rintro V6 z _- ⟨rfl,hz'⟩;have hzc:z.cells.map (ren X.ρ)=z.cells:=by rw[<-YO,hz']
   have h:=YQ (X:=X) (V:=V6) e (old++new++Builtin.zeroCells z.cells (k- (n+m))) (n+m) k;rw[Z6n,Z6n,XI X.ρ z.cells _ hzc]at h;exact h
  split
  ·exact .bind (RA:=λ_ _=>False) (Ym _) λ_ _ _ _ h=>h.elim
  ·refine .bind (Zz e) ?_;rintro V6 i' _-rfl;by_cases hb:Builtin.nextslicecap (n+m) c*i'.bytes>2 ^ 48
   ·simp only[if_pos hb];refine .bad _ λw=> ?_;obtain⟨r,hr⟩:=qx X.Q size n m base x w;refine⟨.unsupported (.resourceLimit "append: a slice or a string whose bytes no memory bears"),w,?_,trivial⟩;simp only[Z54,hr,Z51];cases r<;>rfl
   ·simp only[if_neg hb];exact rest V6
end
end
section
section
variable {X:Cx}{V:List Nat}
def X6(ρ:Nat->Nat)(k:FloatKind)(b:Nat):ren ρ (.float k b)=.float k b:=by simp[ren]
def z9(ρ:Nat->Nat)(k:FloatKind)(a b:Nat):ren ρ (.complex k a b)=.complex k a b:=by simp[ren]
def EL(op:UnOp)(x:Value):X.Img X.Rv V (Op.unary op x) (Op.unary op (ren X.ρ x)):=by
 unfold Op.unary;cases op<;>cases x<;>first|exact Z3 _ _|skip
 ·grind [ZU,ya]
 ·rw[X6];exact .pure (X6 ..).symm
 ·rw[z9];exact .pure (z9 ..).symm
 ·grind [Z3,Zm]
 ·grind [ZU,Ba]
 ·grind [Z3,Zm]
 ·rw[YH];exact .pure (YH ..).symm
def Et(n:Nat):X.Img Eq V (askRoom n) (askRoom n):=by
 unfold askRoom;split
 ·exact .room (.pure rfl)
 ·exact .pure rfl
def LB(hz:X.Zero)(t:TypeId)(x y:Value):X.Img X.Rv V (Instr.makeSlice t x y) (Instr.makeSlice t (ren X.ρ x) (ren X.ρ y)):=by
 unfold Instr.makeSlice;refine .bind (ZD t) ?_;rintro V1 d _- ⟨rfl,hd⟩;cases d<;>first|exact Z3 _ _|skip
 rename_i e;refine .bind (VI x) ?_;rintro V2 l _-rfl;refine .bind (VI y) ?_;rintro V3 c _-rfl;refine .bind (Zz e) ?_;rintro V4 i _-rfl;dsimp only
 have rest:∀V,X.Img X.Rv V (do
   askRoom ((IntKind.i64.wrap c).toNat*i.bytes)
   let n:=(IntKind.i64.wrap c).toNat*(<-sizeOf e)
   let zero<-if n=0 then pure #[]else do pure (<-zeroValue e).cells
   let a<-newRow e ((Array.range n).map (zero[· %zero.size]!))
   pure (.slice (some a) (IntKind.i64.wrap l).toNat (IntKind.i64.wrap c).toNat):Sem Value) (do
   askRoom ((IntKind.i64.wrap c).toNat*i.bytes)
   let n:=(IntKind.i64.wrap c).toNat*(<-sizeOf e)
   let zero<-if n=0 then pure #[]else do pure (<-zeroValue e).cells
   let a<-newRow e ((Array.range n).map (zero[· %zero.size]!))
   pure (.slice (some a) (IntKind.i64.wrap l).toNat (IntKind.i64.wrap c).toNat):Sem Value):=λV=>by
  refine .bind (Et _) ?_;rintro V1 _ _- -;refine .bind (ZK e) ?_;rintro V2 s _-rfl;dsimp only
  have fin:∀V (z:Array Value),z.map (ren X.ρ)=z->X.Img X.Rv V (do
    let a<-newRow e ((Array.range ((IntKind.i64.wrap c).toNat*s)).map (z[· %z.size]!))
    pure (.slice (some a) (IntKind.i64.wrap l).toNat (IntKind.i64.wrap c).toNat):Sem Value) (do
    let a<-newRow e ((Array.range ((IntKind.i64.wrap c).toNat*s)).map (z[· %z.size]!))
    pure (.slice (some a) (IntKind.i64.wrap l).toNat (IntKind.i64.wrap c).toNat):Sem Value):=λV z hzc=>by
   have h:=YQ (X:=X) (V:=V) e ((Array.range ((IntKind.i64.wrap c).toNat*s)).map (z[· %z.size]!)) (IntKind.i64.wrap l).toNat (IntKind.i64.wrap c).toNat
   have e1:((Array.range ((IntKind.i64.wrap c).toNat*s)).map (z[· %z.size]!)).map (ren X.ρ)=(Array.range ((IntKind.i64.wrap c).toNat*s)).map (z[· %z.size]!):=by
    refine Vb λx hx=> ?_;obtain⟨i,_,rfl⟩:=Z7c.1 hx;by_cases hi:i%z.size<z.size
    ·rw[Z8H z _ hi];have h2:(z.map (ren X.ρ))[i%z.size]?=z[i%z.size]? :=by rw[hzc]
     rw[Z50,Z4X hi]at h2;exact Z6c h2
    ·rw[Z8G z _ hi];exact YH _ _
   rw[e1]at h;exact h
  split
  ·simp only[pure_bind];exact fin _ _ Z1
  ·refine .bind (Xn hz e) ?_;rintro V3 z _- ⟨rfl,hz'⟩;simp only[pure_bind];exact fin _ _ (by rw[<-YO,hz'])
 split
 ·split
  ·exact .bind (RA:=λ_ _=>False) (Ym _) λ_ _ _ _ h=>h.elim
  ·split
   ·exact .bind (RA:=λ_ _=>False) (Ym _) λ_ _ _ _ h=>h.elim
   ·refine .bind (Y2 _) ?_;rintro V5 k _-rfl;exact .bind (RA:=λ_ _=>False) (Ym _) λ_ _ _ _ h=>h.elim
 ·exact rest V4
def both(x y:Value):Prop:=(∃k a l b,x=.int k a/\y=.int l b)\/(∃k a l b,x=.float k a/\y=.float l b)\/∃a b,x=.string a/\y=.string b
theorem HM{x y:Value}(h:¬both x y):(∃s,Builtin.min2 x y=stuck s)\/Builtin.min2 x y=unsupported .addressObserved:=by
 cases x<;>cases y<;>first
  |exact .inl ⟨_,rfl⟩
  |exact .inr rfl
  |exact absurd (.inl ⟨_,_,_,_,rfl,rfl⟩) h
  |exact absurd (.inr (.inl ⟨_,_,_,_,rfl,rfl⟩)) h
  |exact absurd (.inr (.inr ⟨_,_,rfl,rfl⟩)) h
  |(rename_i p;cases p<;>first|exact .inl ⟨_,rfl⟩|exact .inr rfl)
  |(rename_i p q;cases p<;>cases q<;>first|exact .inl ⟨_,rfl⟩|exact .inr rfl)
  |(rename_i p q;cases p<;>first|exact .inl ⟨_,rfl⟩|exact .inr rfl)
  |(rename_i p q r;cases p<;>first|exact .inl ⟨_,rfl⟩|exact .inr rfl)
  |(rename_i p q r s;cases p<;>first|exact .inl ⟨_,rfl⟩|exact .inr rfl)
theorem HH{x y:Value}(h:¬both x y):(∃s,Builtin.max2 x y=stuck s)\/Builtin.max2 x y=unsupported .addressObserved:=by
 cases x<;>cases y<;>first
  |exact .inl ⟨_,rfl⟩
  |exact .inr rfl
  |exact absurd (.inl ⟨_,_,_,_,rfl,rfl⟩) h
  |exact absurd (.inr (.inl ⟨_,_,_,_,rfl,rfl⟩)) h
  |exact absurd (.inr (.inr ⟨_,_,rfl,rfl⟩)) h
  |(rename_i p;cases p<;>first|exact .inl ⟨_,rfl⟩|exact .inr rfl)
  |(rename_i p q;cases p<;>cases q<;>first|exact .inl ⟨_,rfl⟩|exact .inr rfl)
  |(rename_i p q;cases p<;>first|exact .inl ⟨_,rfl⟩|exact .inr rfl)
  |(rename_i p q r;cases p<;>first|exact .inl ⟨_,rfl⟩|exact .inr rfl)
  |(rename_i p q r s;cases p<;>first|exact .inl ⟨_,rfl⟩|exact .inr rfl)
theorem QL{op:BinOp}(a b:ByteArray):X.Img X.Rv V (do pure (.string (if<-asBool (<-Op.stringOp op a b)then a else b)):Sem Value) (do pure (.string (if<-asBool (<-Op.stringOp op a b)then a else b)):Sem Value):=by
 refine .bind (yk op a b) ?_;rintro V1 v _-rfl;refine .bind (Sq v) ?_;rintro V2 c _-rfl;exact .pure (Vi ..).symm
theorem Hq(x y:Value):X.Img X.Rv V (Builtin.min2 x y) (Builtin.min2 (ren X.ρ x) (ren X.ρ y)):=by
 by_cases h:both x y
 ·obtain⟨k,a,l,b,rfl,rfl⟩|⟨k,a,l,b,rfl,rfl⟩|⟨a,b,rfl,rfl⟩:=h
  ·simp only[ZU];exact .pure (ZU ..).symm
  ·simp only[X6,Builtin.min2];split
   ·refine .bind (Y2 _) ?_;rintro V1 k _-rfl;exact .pure (X6 ..).symm
   all_goals exact .pure (X6 ..).symm
  grind [Vi,Builtin.min2,QL]
 grind [HM,Z3,Zm]
theorem Ho(x y:Value):X.Img X.Rv V (Builtin.max2 x y) (Builtin.max2 (ren X.ρ x) (ren X.ρ y)):=by
 by_cases h:both x y
 ·obtain⟨k,a,l,b,rfl,rfl⟩|⟨k,a,l,b,rfl,rfl⟩|⟨a,b,rfl,rfl⟩:=h
  ·simp only[ZU];exact .pure (ZU ..).symm
  ·simp only[X6,Builtin.max2];split
   ·refine .bind (Y2 _) ?_;rintro V1 k _-rfl;exact .pure (X6 ..).symm
   all_goals exact .pure (X6 ..).symm
  grind [Vi,Builtin.max2,QL]
 grind [HH,Z3,Zm]
theorem Lx{f:Value->Value->Sem Value}(hf:∀V x y,X.Img X.Rv V (f x y) (f (ren X.ρ x) (ren X.ρ y))):∀(l:List Value) (V:List Nat) (x:Value),X.Img X.Rv V (l.foldlM f x) ((l.map (ren X.ρ)).foldlM f (ren X.ρ x))
 | [],V,x=>.pure rfl
 |y::l,V,x=>by
  rw[Z4T,Z8a,Z8a];refine .bind (hf V x y) ?_;rintro V1 z _-rfl;exact Lx hf l V1 z
def Nn(ts:Array TypeId)(t:TypeId)(aq_:Array Value):X.Img X.Rv V (Builtin.min_ ts t aq_) (Builtin.min_ ts t (aq_.map (ren X.ρ))):=by
 grind [Builtin.min_,Array.toList_map,Z3,Lx,Hq]
def Nm(ts:Array TypeId)(t:TypeId)(aq_:Array Value):X.Img X.Rv V (Builtin.max_ ts t aq_) (Builtin.max_ ts t (aq_.map (ren X.ρ))):=by
 grind [Builtin.max_,Array.toList_map,Z3,Lx,Ho]
def Hn(ts:Array TypeId)(t:TypeId)(d s:Value):X.Img X.Rv V (Builtin.copy_ ts t #[d,s]) (Builtin.copy_ ts t #[ren X.ρ d,ren X.ρ s]):=by
 have e0:∀y z:Value,(#[y,z]:Array Value)[0]?=some y:=λ_ _=>rfl;have e1:∀y z:Value,(#[y,z]:Array Value)[1]?=some z:=λ_ _=>rfl;unfold Builtin.copy_;simp only[e0,e1];cases ts[0]? with
 |none=>exact Z3 _ _
 |some dt=>
  dsimp only;refine .bind (ZD dt) ?_;rintro V1 d' _- ⟨rfl,hd⟩;cases d'<;>first|exact Z3 _ _|skip
  rename_i e;cases d<;>first|exact Z3 _ _|skip
  rename_i base n c;have es:ren X.ρ (.slice base n c)=.slice (base.map (renA X.ρ)) n c:=by cases base<;>simp[ren]
  rw[es];dsimp only;refine .bind (yf s) ?_;rintro V2 m _-rfl;refine .bind (ZK e) ?_;rintro V3 size _-rfl;refine .bind (YK size _ s) ?_;rintro V4 cs _-rfl;cases base with
  |none=>exact .pure (by simp[Cx.Rv,goInt])
  |some a=>
   simp only[Z4K];rw[Z5C];refine .bind (YL a cs.toList V4 0) ?_;rintro V6 _ _- -;exact .pure (by simp[Cx.Rv,goInt])
def EE(hz:X.Zero)(ts:Array TypeId)(t dt:TypeId)(h0:ts[0]?=some dt)(hd:(∃e,X.Q.underlying dt=some (.slice e))\/∃a b,X.Q.underlying dt=some (.map a b))(x:Value):X.Img X.Rv V (Builtin.clear_ ts t #[x]) (Builtin.clear_ ts t #[ren X.ρ x]):=by
 have e0:∀y:Value,(#[y]:Array Value)[0]?=some y:=λ_=>rfl;have fin:∀V,X.Img X.Rv V (pure (.tuple #[]):Sem Value) (pure (.tuple #[]):Sem Value):=λV=>.pure Z48;unfold Builtin.clear_;simp only[e0,h0];refine .bind (ZD dt) ?_;rintro V1 d _- ⟨rfl,h⟩;obtain⟨e,h'⟩|⟨a,b,h'⟩:=hd<;>rw[h']at h<;>cases h
 ·cases x<;>first|exact Z3 _ _|skip
  ·rename_i b n c;cases b with
   |none=>simp_all[ren]
   |some a=>
    simp only[ren];cases n with
    |zero=>exact fin _
    |succ n=>
     refine .bind (Xn hz e) ?_;rintro V2 z _- ⟨rfl,hz'⟩;have hzc:z.cells.map (ren X.ρ)=z.cells:=by grind [YO]
     have h:=YL (X:=X) a (Builtin.zeroCells z.cells (n+1)).toList V2 0;rw[<-Z5C,XI X.ρ z.cells _ hzc]at h;exact .bind h λ_ _ _ _ _=>fin _
  ·rename_i r;cases r with
   |none=>simp_all[ren]
   |some r=>
    simp only[ren];refine .get (λw=>⟨_,w,rfl,trivial⟩) λo ho=> ?_;cases o<;>first|exact Z3 _ _|skip
    rename_i es clk;have:=Cx.Img.set (X:=X) (RA:=X.Rv) (V:=r::V1) (r:=r) (o:=.map #[] clk) (k:=pure (.tuple #[])) (k':=pure (.tuple #[])) (Z58 ..) trivial (λ_ _ _ h=>Z3V) (fin _);simp only[renO,Z8j]at this;exact this
 ·cases x<;>first|exact Z3 _ _|skip
  ·rename_i b n c;cases b with
   |none=>simp_all[ren]
   |some a=>
    simp only[ren];cases n with
    |zero=>exact fin _
    |succ n=>exact Z3 _ _
  ·rename_i r;cases r with
   |none=>simp_all[ren]
   |some r=>
    simp only[ren];refine .get (λw=>⟨_,w,rfl,trivial⟩) λo ho=> ?_;cases o<;>first|exact Z3 _ _|skip
    rename_i es clk;have:=Cx.Img.set (X:=X) (RA:=X.Rv) (V:=r::V1) (r:=r) (o:=.map #[] clk) (k:=pure (.tuple #[])) (k':=pure (.tuple #[])) (Z58 ..) trivial (λ_ _ _ h=>Z3V) (fin _);simp only[renO,Z8j]at this;exact this
def LA{α β:Type}{RA:α->β->Prop}{c:Prop} [Decidable c]{a b:Sem α}{a' b':Sem β}(h:X.Img RA V a a')(k:X.Img RA V b b'):X.Img RA V (if c then a else b) (if c then a' else b'):=by
 grind
def jt(hz:X.Zero)(ts:Array TypeId)(ty t tx e:TypeId)(k:IntKind)(s x:Value)(h0:ts[0]?=some t)(h1:ts[1]?=some tx)(ht:X.Q.underlying t=some (.slice e))(hx:X.Q.underlying tx=some (.int k)):
  X.Img X.Rv V (Builtin.append_ ts ty #[s,x]) (Builtin.append_ ts ty #[ren X.ρ s,ren X.ρ x]):=by
 have e0:∀y z:Value,(#[y,z]:Array Value)[0]?=some y:=λ_ _=>rfl;have e1:∀y z:Value,(#[y,z]:Array Value)[1]?=some z:=λ_ _=>rfl;unfold Builtin.append_;simp only[h0,h1,e0,e1];refine .bind (ZD t) ?_;rintro V1 d _- ⟨rfl,h⟩;rw[ht]at h;cases h;cases s<;>first|exact Z3 _ _|skip
 rename_i base n c;have es:ren X.ρ (.slice base n c)=.slice (base.map (renA X.ρ)) n c:=by cases base<;>simp[ren]
 rw[es];dsimp only;refine .bind (ZK e) ?_;rintro V2 size _-rfl;refine .bind (ZD tx) ?_;rintro V3 d _- ⟨rfl,h⟩;rw[hx]at h;cases h;simp only[pure_bind,Z7d,Z4G,Z5h,Z5b,true_or];refine .bind (VI x) ?_;rintro V4 l _-rfl;have bad:∀ {V:List Nat} (m:String) {f f':Unit->Sem Value},X.Img X.Rv V (runtimePanic (.error m)>>=f) (runtimePanic (.error m)>>=f'):=λm=>.bind (RA:=λ_ _=>False) (Ym _) λ_ _ _ _ h=>h.elim
 have zs:∀V m,X.Img (λa b=>b=a.map (ren X.ρ)) V (if m*size=0 then pure #[]else do pure (Builtin.zeroCells (<-zeroValue e).cells m):Sem (Array Value)) (if m*size=0 then pure #[]else do pure (Builtin.zeroCells (<-zeroValue e).cells m):Sem (Array Value)):=λV m=>by
  split
  ·exact .pure Z1
  ·refine .bind (Xn hz e) ?_;rintro V1 z _- ⟨rfl,hz'⟩;exact .pure (XI X.ρ z.cells _ (by grind [YO])).symm
 generalize hm:(IntKind.i64.wrap l).toNat=m
 have rest:∀V,X.Img X.Rv V (do
   let newCap<-choose (.appendCap (n+m) c e)
   askRoom (newCap*(<-typeInfo e).bytes)
   let old<-Builtin.firstCells size n (.slice base n c)
   let new<-(if m*size=0 then pure #[]else do pure (Builtin.zeroCells (<-zeroValue e).cells m):Sem (Array Value))
   let rest:=Builtin.zeroCells (<-zeroValue e).cells (newCap- (n+m))
   pure (.slice (some (<-newRow e (old++new++rest))) (n+m) newCap):Sem Value) (do
   let newCap<-choose (.appendCap (n+m) c e)
   askRoom (newCap*(<-typeInfo e).bytes)
   let old<-Builtin.firstCells size n (.slice (base.map (renA X.ρ)) n c)
   let new<-(if m*size=0 then pure #[]else do pure (Builtin.zeroCells (<-zeroValue e).cells m):Sem (Array Value))
   let rest:=Builtin.zeroCells (<-zeroValue e).cells (newCap- (n+m))
   pure (.slice (some (<-newRow e (old++new++rest))) (n+m) newCap):Sem Value):=λV=>by
  refine .bind (Y2 _) ?_;rintro V1 k _-rfl;refine .bind (Zz e) ?_;rintro V2 i _-rfl;refine .bind (Et _) ?_;rintro V3 _ _- -;rw[<-es];refine .bind (YK size n _) ?_;rintro V4 old _-rfl;refine .bind (zs V4 m) ?_;rintro V5 new _-rfl;refine .bind (Xn hz e) ?_;rintro V6 z _- ⟨rfl,hz'⟩;have hzc:z.cells.map (ren X.ρ)=z.cells:=by grind [YO]
  have h:=YQ (X:=X) (V:=V6) e (old++new++Builtin.zeroCells z.cells (k- (n+m))) (n+m) k;simp_all[Z6n,XI]
 refine LA ?_ ?_
 ·exact bad _
 ·refine .bind (Zz e) ?_;rintro V5 i _-rfl;refine LA ?_ ?_
  ·refine .bind (Y2 _) ?_
   grind
  ·refine LA ?_ ?_
   ·refine .bind (zs V5 m) ?_;rintro V6 new _-rfl;cases base with
    |none=>exact .pure Z48
    |some a=>
     simp only[Z4K];rw[Vg,Z5C];refine .bind (YL (a.add (n*size)) new.toList V6 0) ?_;rintro V7 _ _- -;exact .pure Z48
   ·refine .bind (Zz e) ?_;rintro V6 i' _-rfl;refine LA ?_ ?_
    ·exact bad _
    ·refine .bind (Zz e) ?_
     grind
end
end
section
section
variable {X:Cx}{V:List Nat}{rd:Bool}
theorem Nk{α β:Type}{RA:α->β->Prop}{k:SysRet->Sem α}{k':SysRet->Sem β}(h:∀r,X.Img RA V (k r) (k' r)):X.Img RA V (sys .env>>=k) (sys .env>>=k'):=by
 refine .sem λwl wc es hw hV ht hr=> ?_;have e1:∀ {γ:Type} (P:Program) (w:World) (k:SysRet->Sem γ),(sys .env>>=k).run P w=(k (.strings w.os.env)).run P w:=λ_ _ _=>rfl;have e2:∀ {γ:Type} (P:Program) (w:World) (k:SysRet->Sem γ) (es:Array Event),(sys .env>>=k).runT P w es=(k (.strings w.os.env)).runT P w (es.push ⟨.output,true,false⟩):=λ_ _ _ _=>rfl;rw[e1]at ht hr;rw[e1,e2];rw[hw.os]at ht hr⊢;exact Cx.Told.step (.ev (e:=⟨.output,true,false⟩) hw True.intro) ((h _).run wl wc _ hw hV ht hr)
theorem Cp(t:TypeId):X.Img Eq V (elemOf t) (elemOf t):=by
 refine .bind (Zj _) ?_;rintro V1 d _-rfl;cases d<;>first|exact .pure rfl|exact Z3 _ _
theorem yh{α β:Type}{RA:α->β->Prop}:X.Img RA V (runtimePanic .panicNil) (runtimePanic .panicNil):=by
 refine .bind Zr ?_;rintro V1 _ _- ⟨rfl,rfl⟩;refine .bind (Cp _) ?_;rintro V2 t _-rfl;have h:=Sv (X:=X) (V:=V2) t (.agg #[]);rw[show ren X.ρ (.agg #[])=.agg #[]by simp[Yh]]at h;refine .bind h ?_;rintro V3 a _-rfl;exact XW (by simp only[X7,Yi];rfl)
theorem jD(x:Value):X.Img X.Rv V (Instr.panic x) (Instr.panic (ren X.ρ x)):=by
 unfold Instr.panic;cases x<;>first|exact Z3 _ _|skip
 ·simp_all[X7,XW]
 ·rw[ZI];dsimp only;refine .bind (RA:=Eq) ?_ ?_
  ·refine Nk λr=> ?_;cases r<;>first|exact Z3 _ _|skip
   dsimp only;refine .bind Zr ?_;rintro V1 _ _- ⟨rfl,rfl⟩;exact .pure rfl
  ·rintro V1 n _-rfl
   grind [XW,ZI,yh]
theorem YY{s s':Sem Value}(h:X.Img X.Rv V s s'):X.Img (X.NR rd) V (do pure (.value (<-s)):Sem Next) (do pure (.value (<-s')):Sem Next):=by
 refine .bind h ?_;rintro V1 v _-rfl;exact .pure rfl
theorem Hs{s s':Sem Unit}(h:X.Img Eq V s s'):X.Img (X.NR rd) V (do s;pure .skip:Sem Next) (do s';pure .skip:Sem Next):=by
 refine .bind h ?_;rintro V1 v _-rfl;exact .pure rfl
def Fh(v:Value):Sem Next:=
 match v with
 |.pointer none|.nilIface|.nilFunc=>runtimePanic .nilDeref
 | .func (.method name) first captured=>
   match(first[0]? :Option Value)with
   |some .nilIface=>runtimePanic .nilDeref
   |some (.iface t w)=>do
    if(<-nilAhead ((<-program).types.size+Made.depth) t w name) !=some false then
     unsupported (.noEntry "op/nilCheck.the method's receiver behind this interface value is a nil pointer, or cannot be seen to be none, and the arguments act or may panic (ledger 612)")
    pure (.value (.func (.method name) first captured))
   |_=>pure (.value (.func (.method name) first captured))
 |x=>pure (.value x)
theorem EJ(v:Value):X.Img (X.NR rd) V (Fh v) (Fh (ren X.ρ v)):=by
 have same:∀(V:List Nat) (u:Value),X.Img (X.NR rd) V (pure (.value u):Sem Next) (pure (.value (ren X.ρ u)):Sem Next):=λV u=>.pure rfl;cases v with
 |pointer q=>
  cases q with
  |none=>rw[Xx];exact Y6
  |some a=>rw[Yi];exact .pure (by simp[Cx.NR])
 |slice q n c=>have h:=same V (.slice q n c);cases q<;>(simp only[ren]at h⊢;exact h)
 |map q=>have h:=same V (.map q);cases q<;>(simp only[ren]at h⊢;exact h)
 |chan q=>have h:=same V (.chan q);cases q<;>(simp only[ren]at h⊢;exact h)
 |nilIface=>rw[ZI];exact Y6
 |nilFunc=>rw[Vh];exact Y6
 |func fn a b=>
  cases fn with
  |method name=>
   have h:∀V,X.Img (X.NR rd) V (pure (.value (.func (.method name) a b)):Sem Next) (pure (.value (.func (.method name) (a.map (ren X.ρ)) (b.map (ren X.ρ)))):Sem Next):=λV=>.pure (by simp[Cx.NR,ren,WL]);simp only[ren,WL,Fh,Z50];cases a[0]? with
   |none=>exact h V
   |some u=>
    cases u with
    |nilIface=>simp_all[Z4K,ZI,Y6]
    |iface t w=>
     simp only[Z4K,X7];refine .bind Zr ?_;rintro V1 _ _- ⟨rfl,rfl⟩;refine .bind (R6 _ _ _ _ _) ?_;rintro V2 n _-rfl;split
     ·exact Zm (λ_ h=>Z3V) _
     grind
    |pointer q=>cases q<;>(simp only[Z4K,ren];exact h V)
    |slice q n c=>cases q<;>(simp only[Z4K,ren];exact h V)
    |map q=>cases q<;>(simp only[Z4K,ren];exact h V)
    |chan q=>cases q<;>(simp only[Z4K,ren];exact h V)
    |_=>simp only[Z4K,ren];exact h V
  |func f=>have h:=same V (.func (.func f) a b);simp only[ren,WL]at h⊢;exact h
  |methodOf t n=>have h:=same V (.func (.methodOf t n) a b);simp only[ren,WL]at h⊢;exact h
  |via t p f q=>have h:=same V (.func (.via t p f q) a b);simp only[ren,WL]at h⊢;exact h
  |yield l=>have h:=same V (.func (.yield l) a b);simp only[ren,WL]at h⊢;exact h
 |bool b=>have h:=same V (.bool b);simp only[ren]at h⊢;exact h
 |int k n=>have h:=same V (.int k n);simp only[ren]at h⊢;exact h
 |float k n=>have h:=same V (.float k n);simp only[ren]at h⊢;exact h
 |complex k a b=>have h:=same V (.complex k a b);simp only[ren]at h⊢;exact h
 |string s=>have h:=same V (.string s);simp only[ren]at h⊢;exact h
 |iface t v=>have h:=same V (.iface t v);simp only[ren]at h⊢;exact h
 |agg c=>have h:=same V (.agg c);simp only[ren]at h⊢;exact h
 |tuple c=>have h:=same V (.tuple c);simp only[ren]at h⊢;exact h
theorem jz(t:TypeId)(x:Value)(f:Nat):X.Img X.Rv V (Instr.fieldAt t x f) (Instr.fieldAt t (ren X.ρ x) f):=by
 refine .bind (ZD t) ?_;rintro V1 d _- ⟨rfl,hd⟩;cases d<;>first|exact Z3 _ _|skip
 rename_i fields;dsimp only;cases hf:fields[f]? with
 |none=>exact Z3 _ _
 |some g=>
  dsimp only;refine .bind (Wg x) ?_;rintro V2 a _-rfl;refine .bind (Wr a g) ?_;rintro V4 b _-rfl;exact .pure (Yi _ _).symm
theorem LC{Q:Program}{t:TypeId}(h:yl Q t=true):∃k,Q.underlying t=some (.int k):=by
 grind [yl]
theorem I1{t:TypeId}(h:Fj X.Q t=true):∀i u,X.Q.info? t=some i->i.desc≠.named "sync.copyChecker" u:=by
 grind [Fj,absurd]
theorem EN{t:TypeId}(h:(yl X.Q t&&Fj X.Q t)=true):∃k,X.IntT t k:=by
 simp only[Z4x]at h;obtain⟨k,hk⟩:=LC h.1;exact⟨k,hk,I1 h.2⟩
theorem BL{t:TypeId}(h:jG X.Q t=true):X.Small t:=by
 unfold jG at h;rw[Z4L]at h;obtain h|h:=h
 ·exact .inl (EN h)
 ·refine .inr ?_
  grind
theorem Q5{Q:Program}{t:TypeId}(h:Sx Q t=true):∃e,Q.underlying t=some (.slice e):=by
 grind [Sx]
theorem TB{t:TypeId}(h:Ty X.Q t=true):∃a b k,X.Q.underlying t=some (.map a b)/\X.IntT a k:=by
 unfold Ty at h;split at h
 ·simp_all[EN]
 ·cases h
theorem jV{Q:Program}{t:TypeId}(h:LR Q t=true):∀m,Q.underlying t≠some (.interface m):=by
 grind [LR]
theorem Mz{α:Type}{a:Array α}(h:a.size=2):∃x y,a=#[x,y]:=by
 obtain⟨l⟩:=a;simp only[Z63]at h
 match l,h with
 | [x,y],_=>simp
theorem Fs{α:Type}{a:Array α}(h:a.size=1):∃x,a=#[x]:=by
 obtain⟨l⟩:=a;simp only[Z63]at h
 match l,h with
 | [x],_=>simp
section
variable {ev ev':Operand->Value}(he:∀x,okV x=true->ev' x=ren X.ρ (ev x))
include he
theorem Ln{l:Array Operand}(h:l.all okV=true):l.map ev'=(l.map ev).map (ren X.ρ):=by
 grind
theorem AY{o:Option Operand}(h:o.all okV=true):o.map ev'=(o.map ev).map (ren X.ρ):=by
 cases o with
 |none=>rfl
 |some x=>simp_all
theorem AZ{l:Array (Nat×Operand)}(h:(l.all λp=>okV p.2)=true):(l.map λ(i,x)=>(i,ev' x))=(l.map λ(i,x)=>(i,ev x)).map λp=>(p.1,ren X.ρ p.2):=by
 grind [Array.map_map,Array.map_congr_left,Array.all_eq_true',ren]
theorem QN(c:Call)(t:TypeId)(ha:c.args.all okV=true)(hc:(match c.callee with|.builtin _=>false|.value f=>okV f|.invoke x _=>okV x)=true):
  X.Img (λa b=>b=renD X.ρ a/\okD a=true) V (resolve ev c t) (resolve ev' c t):=by
 unfold resolve;dsimp only;rw[Ln he ha];cases hk:c.callee with
 |builtin b=>simp_all
 |value f=>
  grind [QK]
 |invoke x name=>
  rw[hk]at hc;dsimp only at hc⊢;rw[he x hc];exact .pure ⟨by simp[renD,renT,WL],rfl⟩
theorem Cv(ok:X.Ok)(c:Call)(t:TypeId)(ha:c.args.all okV=true)(hc:X1 X.Q rd c=true):
  X.Img (X.NR rd) V (do let d<-resolve ev c t;invoke d.target d.args) (do let d<-resolve ev' c t;invoke d.target d.args):=by
 have plain:(match c.callee with|.builtin _=>false|.value f=>okV f|.invoke x _=>okV x)=true->X.Img (X.NR rd) V (do let d<-resolve ev c t;invoke d.target d.args) (do let d<-resolve ev' c t;invoke d.target d.args):=λh=>by
  refine .bind (QN he c t ha h) ?_;rintro V1 d _- ⟨rfl,hd⟩;exact Ss ok d.target d.args hd
 cases hk:c.callee with
 |value f=>simp_all[X1]
 |invoke x name=>simp_all[X1]
 |builtin b=>
  have e:∀ev:Operand->Value,(do let d<-resolve ev c t;invoke d.target d.args:Sem Next)=builtin b c.argTypes t (c.args.map λ|.const _=>true|_=>false) (c.args.map ev):=λev=>by
   unfold resolve;simp only[hk];rfl
  rw[e,e,Ln he ha];cases b<;>first|(simp[X1,hk]at hc;done)|skip
  ·
   simp only[X1,hk,Z4x,Z59]at hc;obtain⟨⟨h1,h2⟩,h3⟩:=hc;obtain⟨x,y,hxy⟩:=Mz (a:=c.args.map ev) Z3L;cases h0:c.argTypes[0]? with
   |none=>simp_all
   |some t0=>
    cases h1':c.argTypes[1]? with
    |none=>simp_all
    |some t1=>
     rw[h0]at h2;rw[h1']at h3;obtain⟨e0,he0⟩:=Q5 h2;rw[hxy];obtain h3|h3:=Z4L _ _▸h3;rotate_left
     ·obtain⟨k,hk⟩:=LC h3;have:=jt (X:=X) (V:=V) ok.zero c.argTypes t t0 t1 e0 k x y h0 h1' he0 hk;rw[show(#[x,y]:Array Value).map (ren X.ρ)=#[ren X.ρ x,ren X.ρ y]by simp];exact YY this
     obtain⟨e1,he1⟩:=Q5 h3;have:=Cm (X:=X) (V:=V) ok.zero c.argTypes t t0 t1 e0 e1 x y h0 h1' he0 he1;rw[show(#[x,y]:Array Value).map (ren X.ρ)=#[ren X.ρ x,ren X.ρ y]by simp];exact YY this
  ·
   simp only[X1,hk,Z4x,Z59]at hc;obtain⟨h1,h2⟩:=hc;obtain⟨x,hx⟩:=Fs (a:=c.args.map ev) Z3L;cases h0:c.argTypes[0]? with
   |none=>simp_all
   |some t0=>
    rw[h0]at h2;rw[hx,LI];refine YY (EE ok.zero c.argTypes t t0 h0 ?_ x);obtain h2|h2:=Z4L _ _▸h2
    ·grind [Q5]
    grind [TB]
  ·
   simp only[X1,hk,Z59]at hc;obtain⟨x,hx⟩:=Fs (a:=c.args.map ev) Z3L;rw[hx,LI];exact YY (EG _ _ _)
  ·
   simp only[X1,hk,Z59]at hc;obtain⟨x,y,hxy⟩:=Mz (a:=c.args.map ev) Z3L;rw[hxy,show(#[x,y]:Array Value).map (ren X.ρ)=#[ren X.ρ x,ren X.ρ y]by simp];exact YY (Hn _ _ x y)
  ·
   simp only[X1,hk,Z4x,Z59]at hc;obtain⟨h1,h2⟩:=hc;obtain⟨x,hx⟩:=Fs (a:=c.args.map ev) Z3L;cases h0:c.argTypes[0]? with
   |none=>simp_all
   |some t0=>
    rw[h0]at h2;rw[hx,LI];refine YY (Nl t0 t c.argTypes x h0 ?_)
    grind [Ma]
  ·exact YY (Nm ..)
  ·exact YY (Nn ..)
  ·exact .pure ⟨rfl,by simp_all[X1]⟩
theorem Cq(hc:∀v,ev (.const v)=v)(ok:X.Ok)(o:Oper)(h:okOp X.Q rd o.op=true)(hsp:spOp o.op=false):X.Img (X.NR rd) V (execOp ev o) (execOp ev' o):=by
 obtain⟨dst,op,type,pos,after,guard⟩:=o;unfold execOp;dsimp only at h⊢;cases op with
 |move x=>dsimp only;rw[he x h];exact .pure rfl
 |assign x=>dsimp only;rw[he x h];exact .pure rfl
 |pick a b c=>
  simp only[okOp,Z4x]at h;dsimp only;rw[he a h.1.1,he b h.1.2,he c h.2];refine .bind (Sq _) ?_;rintro V1 z _-rfl;refine .pure ?_;cases z<;>rfl
 |alloc t=>exact YY (Er ok.zero t)
 |box t x=>dsimp only;rw[he x h];exact YY (Nh t _)
 |build t ps=>dsimp only;rw[AZ he h];exact YY (EB ok.zero t _)
 |buildSlice t n ps=>dsimp only;rw[AZ he h];exact YY (JS ok.zero t n _)
 |load t x=>dsimp only;rw[he x h];exact YY (Cs t _)
 |store t a v=>
  simp only[okOp,Z4x]at h
  grind [Hs,jE]
 |nilCheck x=>
  have e:ev' x=ren X.ρ (ev x):=he x h;show X.Img (X.NR rd) V (Fh (ev x)) (Fh (ev' x));simp_all[EJ]
 |binOp op t x y yt=>
  simp only[okOp,Z4x]at h;obtain⟨⟨hx,hy⟩,hb⟩:=h;dsimp only;unfold v9 at hb;rw[Z4L]at hb;rw[he x hx,he y hy];obtain hb|hb:=hb
  ·refine YY (.bind (JT op t x y _ _ (BL hb)) ?_);rintro V1 _ _- -;exact Ew ok.glob op t _ _ (BL hb)
  ·rw[Z4x]at hb;obtain⟨hop,hn⟩:=hb;cases y with
   |const v=>
    dsimp only at hn;split at hn
    ·rename_i d hd;rw[hc v];obtain⟨hr,_⟩:=yL X.ρ hn;have hg:gs v≠1:=by cases v<;>first|(intro h;cases h;done)|(cases d<;>cases hn)
     rw[hr];refine YY (.bind (yd op t x v _ v hg) ?_);rintro V1 _ _- -;refine Co op ?_ t _ v hd hn
     grind
    ·cases hn
   |_=>cases hn
 |unOp op t x=>
  dsimp only;rw[he x h];exact YY (EL op _)
 |makeSlice t l c=>
  simp only[okOp,Z4x]at h;dsimp only;rw[he l h.1,he c h.2];exact YY (LB ok.zero t _ _)
 |convert s d x=>
  simp only[okOp,Z4x]at h
  grind [YY,jw,LC]
 |makeInterface t x=>dsimp only;rw[he x h];exact YY (Su t _)
 |makeFunc fn a b=>
  simp only[okOp,Z4x]at h;dsimp only;rw[Ln he h.1.2,Ln he h.2];refine YY (.pure ?_)
  grind [Cx.Rv,ren,WL]
 |makeMap t o=>dsimp only;rw[AY he h];exact YY (jB t _)
 |slice t x l hi m=>
  simp only[okOp,Z4x]at h;dsimp only;rw[he x h.1.1.1.1,AY he h.1.1.1.2,AY he h.1.1.2,AY he h.1.2]
  grind [YY,EK,Q5]
 |fieldAddr t x f=>dsimp only;rw[he x h];grind [YY,jz]
 |field t x f=>dsimp only;rw[he x h];grind [YY,EH]
 |indexAddr t x i=>
  simp only[okOp,Z4x]at h
  grind [YY,jA]
 |index t x i=>
  simp only[okOp,Z4x]at h
  grind [YY,EI]
 |lookup t x i b=>
  simp only[okOp,Z4x]at h;dsimp only;rw[he x h.1.1,he i h.1.2];obtain⟨a,b',k,h1,h2⟩:=TB h.2;exact YY (Cu ok.zero ok.glob h1 h2 _ _ b)
 |mapUpdate t x k v=>
  simp only[okOp,Z4x]at h;dsimp only;rw[he x h.1.1.1,he k h.1.1.2,he v h.1.2];obtain⟨a,b',k,h1,h2⟩:=TB h.2;exact Hs (Tw ok.glob h1 h2 _ _ _)
 |insert t x k v=>
  simp only[okOp,Z4x]at h;dsimp only;rw[he x h.1.1.1,he k h.1.1.2,he v h.1.2];obtain⟨a,b',k,h1,h2⟩:=TB h.2;exact Hs (Tw ok.glob h1 h2 _ _ _)
 |typeAssert x t a b=>
  simp only[okOp,Z4x]at h;dsimp only;rw[he x h.1.1,h.1.2];exact YY (JV ok.zero _ t a (jV h.2))
 |extract x i=>dsimp only;rw[he x h];exact YY (jy _ i)
 |call c=>
  simp_all[okOp,Z4x,Cv]
 |defer c=>
  simp only[okOp,Z4x]at h;refine .bind (QN he c type h.1.2 h.2) ?_;rintro V1 d _- ⟨rfl,hd⟩;exact .pure ⟨rfl,hd⟩
 |panic x=>dsimp only;rw[he x h];exact YY (jD _)
 |send=>cases hsp
 |recv=>cases hsp
 |go=>cases hsp
 |_=>cases h
end
end
end
end Vm
end
section
namespace Vm
open Go Go.Conc
section
section
variable (ρ:Nat->Nat)
def renI:Item->Item
 |.inRangeFunc l=>.inRangeFunc (ρ l)
 |.endRangeFunc l=>.endRangeFunc (ρ l)
 |i=>i
def qq(e:PanicEntry):PanicEntry:= {e with v:=ren ρ e.v}
def renM:FrameMode->FrameMode
 |.panicking ch=>.panicking (ch.map (qq ρ))
 |m=>m
def renF(fr:Frame):Frame:= {fr with tmps:=fr.tmps.map (ren ρ),todo:=fr.todo.map (renI ρ),defers:=fr.defers.map (renD ρ),mode:=renM ρ fr.mode,roundOf:=fr.roundOf.map ρ}
end
def okI(Q:Program)(r:Bool):Item->Bool
 |.code c|.inLoop c|.inScope c=>ZL Q r c
 |.inRegion ops _=>ops.all λo=>okOp Q r o.op
 |.inBlock _|.inRangeFunc _|.endRangeFunc _|.beginRound=>true
 |.call .. |.extern .. =>false
structure Cx.OkF (X:Cx) (fr:Frame):Prop where
 todo:∀i∈fr.todo,okI X.Q fr.roundOf.isSome i=true
 defers:∀d∈fr.defers,okD d=true
 kind:fr.kind=.normal\/fr.kind=.deferred
 fn:X.Okn fr.fn
theorem WY(ρ:Nat->Nat)(a:Array Value)(t:Nat):(a.map (ren ρ)).getD t undef=ren ρ (a.getD t undef):=by
 simp only[Z4y,Z50];cases a[t]? with
 |none=>simp only[Z6W,Option.getD_none,X8]
 |some v=>rfl
theorem WW(ρ:Nat->Nat)(fr:Frame)(x:Operand)(h:okV x=true):(renF ρ fr).eval x=ren ρ (fr.eval x):=by
 cases x with
 |tmp t=>exact WY ρ _ _
 |const v=>exact(VV ρ 9 v h).symm
 |global g=>cases h
 |func f=>simp[Frame.eval,ren,WL]
theorem CU{ρ:Nat->Nat}{v:Value}{b:Bool}:ren ρ v=.bool b↔v=.bool b:=by
 cases v with
 |pointer q=>cases q<;>simp[ren]
 |slice q n c=>cases q<;>simp[ren]
 |map q=>cases q<;>simp[ren]
 |chan q=>cases q<;>simp[ren]
 |_=>simp[ren]
theorem Tf(ρ:Nat->Nat)(ops:Array Oper)(tmps:Array Value)(j:Nat):yielded ops (tmps.map (ren ρ)) j=yielded ops tmps j:=by
 unfold yielded;cases(ops[j]?).bind (·.dst)with
 |none=>rfl
 |some d=>
  simp only[Z4E,Z50];cases tmps[d]? with
  |none=>rfl
  |some v=>
   simp only[Z4K];by_cases h:∃b,v=.bool b
   ·obtain⟨b,rfl⟩:=h;simp
   ·have h1:∀u:Value,(∀b,u≠.bool b)->(match some u with|some (.bool b)=>some b|_=>none:Option Bool)=none:=λu hu=>by
     cases u<;>first|rfl|exact absurd rfl (hu _)
    exact(h1 _ λb e=>h ⟨b,CU.1 e⟩).trans (h1 v λb e=>h ⟨b,e⟩).symm
theorem WC(ρ:Nat->Nat)(Q:Program)(fr:Frame)(v:Value)(h:∀i∈fr.todo,okI Q fr.roundOf.isSome i=true):(renF ρ fr).finish (ren ρ v)=renF ρ (fr.finish v):=by
 obtain⟨fn,tmps,todo,defers,mode,kind,ro⟩:=fr;cases todo with
 |nil=>rfl
 |cons i k=>
  have hi:=h i (Z58 ..);cases i with
  |inRegion ops l=>
   grind [Frame.finish,renF,renI,bind,map_set]
  |call=>cases hi
  |extern=>cases hi
  |_=>rfl
theorem WB{X:Cx}{fr:Frame}(h:X.OkF fr)(v:Value):X.OkF (fr.finish v):=by
 obtain⟨fn,tmps,todo,defers,mode,kind,ro⟩:=fr;obtain⟨h1,h2,h3,h4⟩:=h;cases todo with
 |nil=>exact⟨h1,h2,h3,h4⟩
 |cons i k=>
  have hi:=h1 i (Z58 ..);have hk:∀j∈k,okI X.Q ro.isSome j=true:=λj hj=>h1 j (Z53 _ hj);cases i with
  |inRegion ops l=>
   cases l with
   |nil=>exact⟨h1,h2,h3,h4⟩
   |cons i rest=>exact⟨λj hj=>by obtain rfl|hj:=Z4H.1 hj;exact hi;exact hk j hj,h2,h3,h4⟩
  |call=>cases hi
  |extern=>cases hi
  |inRangeFunc l=>exact⟨λj hj=>by obtain rfl|hj:=Z4H.1 hj;rfl;exact hk j hj,h2,h3,h4⟩
  |beginRound=>exact⟨hk,h2,h3,h4⟩
  |_=>exact⟨h1,h2,h3,h4⟩
def atSp(fr:Frame):Bool:=
 match fr.mode,fr.todo with
 | .run,.inRegion ops (i::_)::_=>(match ops[i]? with
   |some o=>Region.wanted o (yielded ops fr.tmps)&&spOp o.op
   |none=>false)
 |_,_=>false
theorem H3(ρ:Nat->Nat)(fr:Frame):atSp (renF ρ fr)=atSp fr:=by
 obtain⟨fn,tmps,todo,defers,mode,kind,ro⟩:=fr;have hy:∀ops,yielded ops (tmps.map (ren ρ))=yielded ops tmps:=λops=>funext λj=>Tf ρ ops tmps j;cases mode<;>first|rfl|skip
 ·cases todo with
  |nil=>rfl
  |cons i k=>
   cases i<;>first|rfl|skip
   grind [atSp,renF,renM,renI]
theorem Si(ρ:Nat->Nat)(id:Nat):∀k:List Item,exitTo id (k.map (renI ρ))=(exitTo id k).map (List.map (renI ρ))
 | []=>rfl
 |i::k=>by
  have ih:=Si ρ id k;cases i<;>simp only[Z4T,renI,exitTo]<;>first|exact ih|(split<;>first|rfl|exact ih)
theorem Kl(id:Nat):∀(k k':List Item),exitTo id k=some k'->∀i∈k',i∈k
 | [],k',h,i,hi=>Z3V
 |x::k,k',h,i,hi=>by
  have ih:=Kl id k k'
  cases x<;>simp only[exitTo]at h<;>first
   |exact Z53 _ (ih h i hi)
   | (split at h
      ·cases h;exact Z53 _ hi
      ·exact Z53 _ (ih h i hi))
theorem zU(Q:Program)(r:Bool)(l:Nat):∀(c c':Code),ZL Q r c=true->findLabel c l=some c'->ZL Q r c'=true:=by
 intro c
 induction c with
 |seq a b iha ihb=>
  intro c' h hc;simp only[ZL,Z4x]at h;simp only[findLabel]at hc;split at hc
  ·cases hc;simp_all[ZL,Z4x]
  simp_all
 |label l'=>
  intro c' h hc;simp only[findLabel]at hc;split at hc
  ·cases hc;rfl
  ·cases hc
 |_=>intro c' h hc;simp[findLabel]at hc
theorem Sn(ρ:Nat->Nat)(l:Nat):∀k:List Item,gotoIn l (k.map (renI ρ))=(gotoIn l k).map (List.map (renI ρ))
 | []=>rfl
 |i::k=>by
  have ih:=Sn ρ l k;cases i<;>simp only[Z4T,renI,gotoIn]<;>first|exact ih|(split<;>first|rfl|exact ih)
theorem y6(Q:Program)(r:Bool)(l:Nat):∀(k k':List Item),(∀i∈k,okI Q r i=true)->gotoIn l k=some k'->∀i∈k',okI Q r i=true
 | [],k',h0,h,i,hi=>Z3V
 |x::k,k',h0,h,i,hi=>by
  have hk:∀j∈k,okI Q r j=true:=λj hj=>h0 j (Z53 _ hj);have ih:=y6 Q r l k k' hk;have hx:=h0 x (Z58 ..)
  cases x<;>simp only[gotoIn]at h<;>first
   |exact ih h i hi
   | (split at h
      ·rename_i rest hr;cases h;obtain rfl|hi:=Z4H.1 hi
       ·exact zU Q r l _ _ hx hr
       grind
      simp_all)
theorem TL(ρ:Nat->Nat)(fr:Frame)(ch:List PanicEntry):(renF ρ fr).raise (ch.map (qq ρ))=renF ρ (fr.raise ch):=by
 grind [Frame.raise,renF,renM]
theorem Q3{X:Cx}{fr:Frame}(h:X.OkF fr)(ch:List PanicEntry):X.OkF (fr.raise ch):=by
 obtain⟨fn,tmps,todo,defers,mode,kind,ro⟩:=fr;cases mode<;>exact⟨h.todo,h.defers,h.kind,h.fn⟩
theorem zN{X:Cx}{f:FuncId}(hf:X.Okf f)(args:Array Value)(kd:CallKind):Frame.enter X.P f (args.map (ren X.ρ)) kd=renF X.ρ (Frame.enter X.Q f args kd):=by
 obtain⟨fn,c,h1,h2,h3,h4⟩:=hf;have e:X.P.funcs[f]?=some fn:=h2;simp_all[Frame.enter,renF,Z4K,Z4W,Z4E,renI,renM,X8]
theorem AV{X:Cx}{f:FuncId}(hf:X.Okf f)(args:Array Value)(kd:CallKind)(hk:kd=.normal\/kd=.deferred):X.OkF (Frame.enter X.Q f args kd):=by
 refine⟨λi hi=> ?_,λd hd=>(by cases hd),hk,.inl hf⟩;obtain⟨fn,c,h1,h2,h3,h4⟩:=hf;simp only[Frame.enter,h1,Z4E,h3,Z4W,Z5x]at hi;subst hi;exact h4
def bot:Frame->List Frame->CallKind×Option Nat
 |fr,[]=>(fr.kind,fr.roundOf)
 |_,c::cs=>bot c cs
structure Cx.St (X:Cx) (fr:Frame) (cs:List Frame):Prop where
 top:X.OkF fr
 all:∀c∈cs,X.OkF c
 bot:bot fr cs=(.normal,none)
theorem Ag{X:Cx}{fr:Frame}{cs:List Frame}(h:X.St fr cs)(c0:Frame)(ds:List Frame):
  (tryRecover fr (cs++[c0])=none/\tryRecover (renF X.ρ fr) (cs.map (renF X.ρ)++ds)=none)\/
  ∃v cs',tryRecover fr (cs++[c0])=some (v,cs'++[c0])/\tryRecover (renF X.ρ fr) (cs.map (renF X.ρ)++ds)=some (ren X.ρ v,cs'.map (renF X.ρ)++ds)/\X.St fr cs':=by
 obtain⟨h1,h2,h3⟩:=h;have hk:(renF X.ρ fr).kind=fr.kind:=rfl;obtain hn|hd:=h1.kind
 ·left;unfold tryRecover;rw[hk,hn];exact⟨rfl,rfl⟩
 ·cases cs with
  |nil=>simp_all[Vm.bot]
  |cons c cs=>
   have hc:=h2 c (Z58 ..);simp only[Z4T,Z5M];unfold tryRecover;rw[hk,hd];dsimp only;obtain⟨fn,tmps,todo,defers,mode,kind,ro⟩:=c;cases mode with
   |run=>exact .inl ⟨rfl,rfl⟩
   |returning=>exact .inl ⟨rfl,rfl⟩
   |panicking ch=>
    cases ch with
    |nil=>exact .inl ⟨rfl,rfl⟩
    |cons e older=>
     obtain⟨v,rec,ge⟩:=e;cases rec
     ·cases ge
      ·refine .inr ⟨v,⟨fn,tmps,todo,defers,.panicking ({v,recovered:=true}::older),kind,ro⟩::cs,rfl,rfl,h1,λx hx=> ?_,?_⟩
       ·obtain rfl|hx:=Z4H.1 hx
        ·exact⟨hc.todo,hc.defers,hc.kind,hc.fn⟩
        simp_all
       ·cases cs with
        |nil=>exact h3
        |cons=>exact h3
      ·exact .inl ⟨rfl,rfl⟩
     ·exact .inl ⟨rfl,rfl⟩
theorem DK{fr fr':Frame}(cs:List Frame)(h:fr'.kind=fr.kind)(h2:fr'.roundOf=fr.roundOf):bot fr' cs=bot fr cs:=by
 cases cs with
 |nil=>simp_all[bot]
 |cons=>rfl
theorem Cx.St.with{X:Cx}{fr fr':Frame}{cs:List Frame}(h:X.St fr cs)(hf:X.OkF fr')(hk:fr'.kind=fr.kind)(hr:fr'.roundOf=fr.roundOf):X.St fr' cs:=⟨hf,h.all,(DK cs hk hr).trans h.bot⟩
theorem Cx.St.push{X:Cx}{fr fr':Frame}{cs:List Frame}(h:X.St fr cs)(hf:X.OkF fr'):X.St fr' (fr::cs):=⟨hf,λc hc=>by obtain rfl|hc:=Z4H.1 hc;exact h.top;exact h.all c hc,h.bot⟩
theorem Cx.St.pop{X:Cx}{fr c c':Frame}{cs:List Frame}(h:X.St fr (c::cs))(hf:X.OkF c')(hk:c'.kind=c.kind)(hr:c'.roundOf=c.roundOf):X.St c' cs:=⟨hf,λx hx=>h.all x (Z53 _ hx),(DK cs hk hr).trans h.bot⟩
theorem Xi(fr:Frame)(v:Value):(fr.finish v).kind=fr.kind:=by
 grind [Frame.finish]
theorem YV(fr:Frame)(v:Value):(fr.finish v).roundOf=fr.roundOf:=by
 grind [Frame.finish]
theorem Ve(fr:Frame)(ch:List PanicEntry):(fr.raise ch).roundOf=fr.roundOf:=by
 grind [Frame.raise]
theorem Ug(fr:Frame)(ch:List PanicEntry):(fr.raise ch).kind=fr.kind:=by
 grind [Frame.raise]
end
section
def QS(fr:Frame)(j:Option Code):Sem Unit:=
 match fr.roundOf with
 |some l=>Instr.endRound l j>>=λ_=>pure ()
 |none=>pure ()
def actS(fr:Frame):Sem Unit:=
 match fr.mode with
 | .run=>
   match fr.todo with
   | []=>QS fr none
   |.code .ret::_=>QS fr (some .ret)
   |.code (.exit id)::k=>if(exitTo id k).isSome then pure ()else QS fr (some (.exit id))
   |.code (.goto l)::k=>if(gotoIn l k).isSome then pure ()else QS fr (some (.goto l))
   | .code (.rangeFunc f params assign body)::_=>Instr.enterLoop fr.fn fr.tmps params assign body fr.roundOf>>=λx=>
     (do let d<-resolve fr.eval {callee:=.value f,args:=#[.const (.func (.yield x.1) #[] #[])],argTypes:=#[]} 0;invoke d.target d.args)>>=λ_=>pure ()
   |.beginRound::_=>fr.roundOf.elim (stuck "beginRound: no round") Instr.beginRound
   |.endRangeFunc l::_=>Instr.endLoop l>>=λ_=>pure ()
   |.code (.region id _ true)::_=>choose (.order fr.fn id)>>=λ_=>pure ()
   | .inRegion ops (i::_)::_=>(match ops[i]? with
     |some o=>if Region.wanted o (yielded ops fr.tmps)then execOp fr.eval o>>=λ_=>pure ()else pure ()
     |none=>pure ())
   |_=>pure ()
 |_=>match fr.defers with
  | {target:=.collected b, .. }::_=>Instr.takeDeferred b>>=λ_=>pure ()
  |d::_=>invoke d.target d.args>>=λ_=>pure ()
  | []=>(match fr.mode with
    | .returning=>program>>=λp=>(match p.funcs[fr.fn]? with
      |some fn=>results fn fr.tmps>>=λ_=>pure ()
      |none=>pure ())
    |_=>pure ())
theorem Wm{α:Type}(p:Program)(s:Sem α)(w:World):wdR ((s>>=λ_=>(pure ():Sem Unit)).run p w)=wdR (s.run p w):=by
 rw[Z54];cases s.run p w<;>rfl
def Cx.Agree(X:Cx)(wl wc W:World):Prop:=(∀j,wc.drawn+j<W.drawn->wl.tape (wl.drawn+j)=wc.tape (wc.drawn+j))/\∀j,wc.heap.size+j<W.heap.size->X.ρ (wl.heap.size+j)=wc.heap.size+j
def Cx.Img.told{X:Cx}{α β:Type}{RA:α->β->Prop}{s:Sem α}{s':Sem β}(h:X.Img RA [] s s'){wl wc:World}(hw:X.WR wl wc)(ha:X.Agree wl wc (wdR (s'.run X.P wc))):X.Told RA wl wc #[] (s.run X.Q wl) (s'.runT X.P wc #[]):=
 h.run wl wc #[] hw (λ_ h=>Z3V) ha.1 ha.2
theorem Cx.Aft.es{X:Cx}{wl wc wl' wc':World}{es es1 es2:Array Event}(h:X.Aft wl wc wl' wc' es es1)(he:∀e∈es2,e∈es1):X.Aft wl wc wl' wc' es es2:=
 ⟨h.wr,h.sz,h.szl,h.dr,h.drl,h.tl,h.tc,h.oc,h.new,h.keep,λe h1=>h.evs e (he e h1),h.vis⟩
def Cx.Sim(X:Cx)(c0:Frame)(ds:List Frame)(wl wc W:World)(s s':GStep):Prop:=
 (∃o w es,s=.ended o w es)\/
 ∃fr cs wl' esl es',s=.go (Conc.G fr (cs++[c0])) wl' esl/\s'=.go (Conc.G (renF X.ρ fr) (cs.map (renF X.ρ)++ds)) W es'/\X.St fr cs/\X.Aft wl wc wl' W #[] es'
section
variable {X:Cx}{c0:Frame}{ds:List Frame}
def W8{α:Type}(p:Program)(s:Sem α)(w:World)(es:Array Event):∃es',s.runT p w es=(s.run p w,es'):=⟨_,Z6R (Z6r p s w es) rfl⟩
def Qc(fr:Frame):Prop:=(match fr.todo with|.call _ true _ _::_=>CallKind.wrapped|_=>.normal)=.normal/\(fr.kind==.early)=false
def Cx.OkF.plain{fr:Frame}(h:X.OkF fr):Qc fr:=by
 constructor
 ·have ht:=h.todo;cases e:fr.todo with
  |nil=>rfl
  |cons i k=>
   have:=ht i Z3M;cases i<;>first|rfl|cases this
 ·obtain e|e:=h.kind<;>rw[e]<;>rfl
def FL{ρ:Nat->Nat}{fr:Frame}(h:Qc fr):Qc (renF ρ fr):=by
 refine⟨?_,h.2⟩;have h1:=h.1;obtain⟨fn,tmps,todo,defers,mode,kind,ro⟩:=fr;cases todo with
 |nil=>rfl
 |cons i k=>
  cases i with
  |call d b r s=>cases b<;>exact h1
  |_=>exact h1
section
variable {p:Program}{fr:Frame}{cs:List Frame}{s:Sem Next}{w w':World}{es:Array Event}
def Ql(h:Qc fr){v:Value}(e:s.runT p w #[]=(.ok (.value v) w',es)):stepG.apply p true fr cs none s w=.go (Conc.G (fr.finish v) cs) w' (seen p fr.fn es):=by
 unfold stepG.apply Conc.G;simp only[Z5b,e,h.2,Z4G,Z5h,GStep.after,Z5k]
def Kb(h:Qc fr)(e:s.runT p w #[]=(.ok .skip w',es)):stepG.apply p true fr cs none s w=.go (Conc.G (fr.finish undef) cs) w' (seen p fr.fn es):=by
 unfold stepG.apply Conc.G;simp only[Z5b,e,h.2,Z4G,Z5h,GStep.after,Z5k]
def Qi(h:Qc fr){f:FuncId}{args:Array Value}(e:s.runT p w #[]=(.ok (.enter f args) w',es)):stepG.apply p true fr cs none s w=.go (Conc.G (Frame.enter p f args .normal) (fr::cs)) w' (seen p fr.fn es):=by
 unfold stepG.apply Conc.G;simp only[Z5b,e,h.2,Z4G,Z5h,GStep.after,Z5k];exact Z5J (λk=>GStep.go (Conc.G (Frame.enter p f args k) (fr::cs)) w' (seen p fr.fn es)) h.1
def Qk(h:Qc fr){l:Nat}{f:FuncId}{tmps:Array Value}{a b:Code}(e:s.runT p w #[]=(.ok (.round l f tmps a b) w',es)):stepG.apply p true fr cs none s w=.go (Conc.G (Frame.round l f tmps a b .normal) (fr::cs)) w' (seen p fr.fn es):=by
 unfold stepG.apply Conc.G;simp only[Z5b,e,h.2,Z4G,Z5h,GStep.after,Z5k]
def Qh(h:Qc fr){d:Deferred}(e:s.runT p w #[]=(.ok (.defer d) w',es)):stepG.apply p true fr cs none s w=.go (Conc.G ({fr with defers:=d::fr.defers}.finish undef) cs) w' (seen p fr.fn es):=by
 unfold stepG.apply Conc.G;simp only[Z5b,e,h.2,Z4G,Z5h,GStep.after,Z5k]
def Qj(h:Qc fr){v:Value}(e:s.runT p w #[]=(.halt (.panic v) w',es)):stepG.apply p true fr cs none s w=.go (Conc.G (fr.raise [{v,recovered:=false}]) cs) w' (seen p fr.fn es):=by
 unfold stepG.apply Conc.G;simp only[Z5b,e,h.2,Z4G,Z5h,GStep.after,Z5k]
def Ka(h:Qc fr)(hr:fr.roundOf=none)(e:s.runT p w #[]=(.ok .recover w',es))(hn:tryRecover fr cs=none):stepG.apply p true fr cs none s w=.go (Conc.G (fr.finish .nilIface) cs) w' (seen p fr.fn es):=by
 unfold stepG.apply Conc.G;simp only[Z5b,e,h.2,hr,hn,Z4G,Z5h,GStep.after,Z5k]
def Kc(h:Qc fr)(hr:fr.roundOf=none){v:Value}{cs':List Frame}(e:s.runT p w #[]=(.ok .recover w',es))(hn:tryRecover fr cs=some (v,cs')):stepG.apply p true fr cs none s w=.go (Conc.G (fr.finish v) cs') w' (seen p fr.fn es):=by
 unfold stepG.apply Conc.G;simp only[Z5b,e,h.2,hr,hn,Z4G,Z5h,GStep.after,Z5k]
def Qf{h:Halt}(hb:bad h)(e:s.runT p w #[]=(.halt h w',es)):∃o w'' es'',stepG.apply p true fr cs none s w=.ended o w'' es'':=by
 unfold stepG.apply;simp only[Z5b,e];cases h<;>first|exact hb.elim|skip
 ·rename_i u;cases u<;>first|exact hb.elim|exact⟨_,_,_,rfl⟩
 ·exact⟨_,_,_,rfl⟩
end
def FZ{ρ:Nat->Nat}(l:Nat)(f:FuncId)(tmps:Array Value)(a b:Code)(kd:CallKind):Frame.round (ρ l) f (tmps.map (ren ρ)) a b kd=renF ρ (Frame.round l f tmps a b kd):=by
 rfl
def BE{fr:Frame}(h:X.OkF fr)(l:Nat)(f:FuncId)(hf:X.Okn f)(tmps:Array Value)(a b:Code)(ha:ZL X.Q true a=true)(hb:ZL X.Q true b=true)(kd:CallKind)(hk:kd=.normal\/kd=.deferred):X.OkF (Frame.round l f tmps a b kd):=by
 refine⟨λi hi=> ?_,λd hd=>(by cases hd),hk,hf⟩;simp only[Frame.round,Z4H,Z5t,Z6u]at hi;obtain rfl|rfl|rfl:=hi
 ·exact ha
 ·rfl
 ·exact hb
def w_of{β:Type}{P:Program}{W wc wc':World}{s':Sem β}{r:Result β}{es':Array Event}(hg:W=wdR (s'.run P wc))(e:s'.runT P wc #[]=(r,es'))(h:wdR r=wc'):W=wc':=by
 simp_all
def Ju{fr:Frame}{cs:List Frame}(h:X.St fr cs){s s':Sem Next}(hi:X.Img (X.NR fr.roundOf.isSome) [] s s'){wl wc:World}(hw:X.WR wl wc){W:World}(hW:W=wdR (s'.run X.P wc))(ha:X.Agree wl wc W):
  X.Sim c0 ds wl wc W (stepG.apply X.Q true fr (cs++[c0]) none s wl) (stepG.apply X.P true (renF X.ρ fr) (cs.map (renF X.ρ)++ds) none s' wc):=by
 have ht:=hi.told hw (hW▸ha);have hWt:∀r wc' es',s'.runT X.P wc #[]=(r,es')->wdR r=wc'->W=wc':=λr wc' es' e h=>Z3M;have hp:=h.top.plain;have hp':=FL (ρ:=X.ρ) hp;obtain⟨es0,e0⟩:=W8 X.Q s wl #[];cases hr:s.run X.Q wl with
 |halt x wl'=>
  rw[hr]at e0 ht;cases x with
  |panic v=>
   obtain⟨wc',es',e1,af⟩:=ht;obtain rfl:=hWt _ wc' _ e1 rfl;refine .inr ⟨fr.raise [{v,recovered:=false}],cs,wl',_,seen X.P fr.fn es',Qj hp e0,?_,h.with (Q3 h.top _) (Ug _ _) (Ve _ _),af.es λe he=>mem_seen he⟩;rw[<-TL];exact Qj hp' e1
  |stuck=>exact .inl (Qf (h:=.stuck _) ht e0)
  |unsupported=>exact .inl (Qf (h:=.unsupported _) ht e0)
  |_=>exact False.elim ht
 |ok a wl'=>
  rw[hr]at e0 ht;obtain⟨b,wc',es',e1,hn,af⟩:=ht;obtain rfl:=hWt _ wc' _ e1 rfl;have fin:∀v,X.St (fr.finish v) cs:=λv=>h.with (WB h.top v) (Xi _ _) (YV _ _);have finr:∀v,(renF X.ρ fr).finish (ren X.ρ v)=renF X.ρ (fr.finish v):=λv=>WC X.ρ X.Q fr v h.top.todo;cases a with
  |value v=>
   obtain rfl:b=_:=hn;refine .inr ⟨fr.finish v,cs,wl',_,seen X.P fr.fn es',Ql hp e0,?_,fin v,af.es λe he=>mem_seen he⟩;rw[<-finr];exact Ql hp' e1
  |skip=>
   obtain rfl:b=_:=hn;refine .inr ⟨fr.finish undef,cs,wl',_,seen X.P fr.fn es',Kb hp e0,?_,fin undef,af.es λe he=>mem_seen he⟩;rw[<-finr,X8];exact Kb hp' e1
  |enter f args=>
   obtain⟨rfl,hf⟩:b=_/\_:=hn;refine .inr ⟨Frame.enter X.Q f args .normal,fr::cs,wl',_,seen X.P fr.fn es',Qi hp e0,?_,h.push (AV hf args _ (.inl rfl)),af.es λe he=>mem_seen he⟩;rw[<-zN hf];exact Qi hp' e1
  |round l f tmps a c=>
   obtain⟨rfl,h1,h2,hf⟩:b=_/\_:=hn;refine .inr ⟨Frame.round l f tmps a c .normal,fr::cs,wl',_,seen X.P fr.fn es',Qk hp e0,?_,h.push (BE h.top l f hf tmps a c h1 h2 _ (.inl rfl)),af.es λe he=>mem_seen he⟩;rw[<-FZ];exact Qk hp' e1
  |defer d=>
   obtain⟨rfl,hd⟩:b=_/\_:=hn;have ok1:X.OkF {fr with defers:=d::fr.defers}:=⟨h.top.todo,λx hx=>by obtain rfl|hx:=Z4H.1 hx;exact hd;exact h.top.defers x hx,h.top.kind,h.top.fn⟩;refine .inr ⟨({fr with defers:=d::fr.defers}:Frame).finish undef,cs,wl',_,seen X.P fr.fn es',Qh hp e0,?_,h.with (WB ok1 _) (Xi _ _) (YV _ _),af.es λe he=>mem_seen he⟩;rw[<-WC X.ρ X.Q _ _ ok1.todo,X8];exact Qh hp' e1
  |recover=>
   obtain⟨rfl,hrd⟩:b=_/\_:=hn
   have hro:fr.roundOf=none:=by cases e:fr.roundOf with
    |none=>rfl
    |some l=>simp_all
   have hro':(renF X.ρ fr).roundOf=none:=by simp[renF,hro]
   obtain⟨t1,t2⟩|⟨v,cs',t1,t2,hs⟩:=Ag h c0 ds
   ·refine .inr ⟨fr.finish .nilIface,cs,wl',_,seen X.P fr.fn es',Ka hp hro e0 t1,?_,fin _,af.es λe he=>mem_seen he⟩;rw[<-finr,ZI];exact Ka hp' hro' e1 t2
   ·refine .inr ⟨fr.finish v,cs',wl',_,seen X.P fr.fn es',Kc hp hro e0 t1,?_,hs.with (WB h.top v) (Xi _ _) (YV _ _),af.es λe he=>mem_seen he⟩;rw[<-finr];exact Kc hp' hro' e1 t2
  |_=>exact hn.elim
def AT(ρ:Nat->Nat):∀l:List PanicEntry,(l.map (qq ρ)).dropWhile (!·.goexit)=(l.dropWhile (!·.goexit)).map (qq ρ)
 | []=>rfl
 |e::l=>by
  simp only[Z4T,List.dropWhile_cons];have:(qq ρ e).goexit=e.goexit:=rfl;rw[this];cases e.goexit
  ·exact AT ρ l
  ·rfl
def Lc(c:Frame):Frame:=
 match c.mode with
 | .panicking ({recovered:=true, .. }::older)=>
   match older.dropWhile (!·.goexit)with
   | []=> {c with mode:=.returning}
   |rest=> {c with mode:=.panicking rest}
 |_=>c
theorem DF(ρ:Nat->Nat)(c:Frame):Lc (renF ρ c)=renF ρ (Lc c):=by
 obtain⟨fn,tmps,todo,defers,mode,kind,ro⟩:=c;cases mode with
 |panicking ch=>
  cases ch with
  |nil=>rfl
  |cons e older=>
   obtain⟨v,rec,ge⟩:=e;cases rec
   ·rfl
   ·simp only[Lc,renF,renM,Z4T,qq];have:=AT ρ older;rw[this];cases older.dropWhile (!·.goexit)<;>rfl
 |_=>rfl
def Se(c:Frame):(Lc c).kind=c.kind/\(Lc c).roundOf=c.roundOf/\(X.OkF c->X.OkF (Lc c)):=by
 unfold Lc;split
 ·split<;>exact⟨rfl,rfl,λh=>⟨h.todo,h.defers,h.kind,h.fn⟩⟩
 simp
def Uj{p:Program}{main:Bool}{fr c:Frame}{cs:List Frame}{v:Value}{w:World}(h:fr.kind=.normal):doReturn p main fr (c::cs) none v w=.go (G (c.finish v) cs) w:=by
 simp[doReturn,h,Conc.G]
theorem Rm{p:Program}{main:Bool}{fr c:Frame}{cs:List Frame}{v:Value}{w:World}(h:fr.kind=.deferred):doReturn p main fr (c::cs) none v w=.go (G (Lc c) cs) w:=by
 simp only[doReturn,h,Conc.G];rfl
def SQ{main:Bool}{fr c:Frame}{cs:List Frame}(h:X.St fr (c::cs))(v:Value)(wl wc:World):
  ∃fr',doReturn X.Q true fr (c::cs++[c0]) none v wl=.go (G fr' (cs++[c0])) wl/\doReturn X.P main (renF X.ρ fr) ((c::cs).map (renF X.ρ)++ds) none (ren X.ρ v) wc=.go (G (renF X.ρ fr') (cs.map (renF X.ρ)++ds)) wc/\X.St fr' cs:=by
 have hc:=h.all c (Z58 ..);obtain hk|hk:=h.top.kind
 ·refine⟨c.finish v,Uj hk,?_,h.pop (WB hc v) (Xi _ _) (YV _ _)⟩;rw[<-WC X.ρ X.Q c v hc.todo];simp_all[Uj,renF]
 ·refine⟨Lc c,Rm hk,?_,h.pop ((Se c).2.2 hc) (Se (X:=X) c).1 (Se (X:=X) c).2.1⟩
  grind [DF,Rm,renF]
def Sim.same{fr:Frame}{cs:List Frame}(h:X.St fr cs){wl wc:World}(hw:X.WR wl wc):X.Sim c0 ds wl wc wc (.go (G fr (cs++[c0])) wl) (.go (G (renF X.ρ fr) (cs.map (renF X.ρ)++ds)) wc):=
 .inr ⟨fr,cs,wl,_,_,rfl,rfl,h,.refl _ hw⟩
end
end
section
section
variable {X:Cx}{c0:Frame}{ds:List Frame}
def Cx.Agree.mono{wl wc W W':World}(h:X.Agree wl wc W)(hW:W'.heap.size<=W.heap.size/\W'.drawn<=W.drawn):X.Agree wl wc W':=
 ⟨λj hj=>h.1 j Z0,λj hj=>h.2 j Z0⟩
def Cx.Agree.next{wl wc wl1 wc1 W:World}{es es1:Array Event}(h:X.Agree wl wc W)(af:X.Aft wl wc wl1 wc1 es es1):X.Agree wl1 wc1 W:=by
 have q1:=af.dr;have q2:=af.drl;have q3:=af.sz;have q4:=af.szl;refine⟨λj hj=> ?_,λj hj=> ?_⟩
 ·have:=h.1 (wc1.drawn-wc.drawn+j) Z0;rw[af.tl,af.tc,show wl1.drawn+j=wl.drawn+(wc1.drawn-wc.drawn+j)from by omega,this]
  grind
 ·have:=h.2 (wc1.heap.size-wc.heap.size+j) Z0
  grind
def Cx.Aft.pre{wl wc wl' wc':World}{es:Array Event}(es1:Array Event)(h:X.Aft wl wc wl' wc' #[] es):X.Aft wl wc wl' wc' es1 (es1++es):=
 ⟨h.wr,h.sz,h.szl,h.dr,h.drl,h.tl,h.tc,h.oc,h.new,h.keep,λe he=>by
  obtain he|he:=Z60.1 he
  ·grind
  ·obtain h|h:=h.evs e he
   ·simp at h
   simp_all,h.vis⟩
def Cx.Sim.after{wl wc wl1 wc1 W:World}{es0 es1:Array Event}{s s':GStep}(af:X.Aft wl wc wl1 wc1 #[] es1)(h:X.Sim c0 ds wl1 wc1 W s s'):X.Sim c0 ds wl wc W (GStep.after es0 s) (GStep.after es1 s'):=by
 obtain⟨o,w,es,rfl⟩|⟨fr,cs,wl',esl,es',rfl,rfl,hs,ha⟩:=h
 ·exact .inl ⟨_,_,_,rfl⟩
 ·exact .inr ⟨fr,cs,wl',_,_,rfl,rfl,hs,af.trans (ha.pre es1)⟩
def Tz(p:Program)(main:Bool)(fr:Frame)(cs:List Frame)(j:Option Code)(lost:GStep)(w:World):GStep:=
 match fr.roundOf with
 |none=>if(match j with|none|some .ret=>true|_=>false)then .go (G {fr with mode:=.returning} cs) w else lost
 |some l=>
  let(r,es):=(Instr.endRound l j).runT p w #[]
  GStep.after (seen p fr.fn es)<|match r with
  |.ok v w=>doReturn p main fr cs none v w
  |.halt _ w=>.ended (.stuck "range over a function: no such loop" (fr.pos p)) w
def TX(ok:X.Ok){main:Bool}{fr:Frame}{cs:List Frame}(h:X.St fr cs)(j:Option Code)(hj:j.all Ky=true){o:Outcome}{we:World}{ee:Array Event}(lost:GStep){wl wc:World}(hw:X.WR wl wc)
  {W:World} (hW:W=wdR ((QS (renF X.ρ fr) j).run X.P wc)) (ha:X.Agree wl wc W):
  X.Sim c0 ds wl wc W (Tz X.Q true fr (cs++[c0]) j (.ended o we ee) wl) (Tz X.P main (renF X.ρ fr) (cs.map (renF X.ρ)++ds) j lost wc):=by
 cases hr:fr.roundOf with
 |none=>
  have hr':(renF X.ρ fr).roundOf=none:=by simp[renF,hr]
  obtain rfl:W=wc:=by
   unfold QS at hW;rw[hr']at hW;exact hW
  have hs:=Sim.same (c0:=c0) (ds:=ds) (fr:= {fr with mode:=.returning}) (cs:=cs) (h.with ⟨h.top.todo,h.top.defers,h.top.kind,h.top.fn⟩ rfl rfl) hw
  have e:∀(p:Program) (main:Bool) (fr:Frame) (cs:List Frame) (lost:GStep) (w:World),fr.roundOf=none->Tz p main fr cs j lost w=if(match j with|none|some .ret=>true|_=>false)then .go (G {fr with mode:=.returning} cs) w else lost:=λp main fr cs lost w h=>by
   unfold Tz;split
   ·rfl
   ·rename_i l e;rw[h]at e;cases e
  rw[e _ _ _ _ _ _ hr,e _ _ _ _ _ _ hr'];generalize (match j with|none|some .ret=>true|_=>false)=b;cases b
  ·exact .inl ⟨_,_,_,rfl⟩
  ·exact hs
 |some l=>
  have hr':(renF X.ρ fr).roundOf=some (X.ρ l):=by simp[renF,hr]
  unfold QS at hW;unfold Tz;rw[hr',hr];rw[hr']at hW;dsimp only at hW⊢;rw[Wm]at hW;have ht:=(yc (V:=[]) ok l j hj).told hw (hW▸ha);obtain⟨es0,e0⟩:=W8 X.Q (Instr.endRound l j) wl #[];rw[e0];cases hq:(Instr.endRound l j).run X.Q wl with
  |halt x wl'=>exact .inl ⟨_,_,_,rfl⟩
  |ok v wl'=>
   rw[hq]at ht;obtain⟨b,wc',es',e1,hb,af⟩:=ht;obtain rfl:=w_of hW e1 rfl;obtain rfl:b=_:=hb;rw[e1];dsimp only;cases cs with
   |nil=>
    have:=h.bot;simp only[bot,hr,Z4C,reduceCtorEq,and_false]at this
   |cons c cs=>
    obtain⟨fr',t1,t2,hs⟩:=SQ (c0:=c0) (ds:=ds) (main:=main) h v wl' W;rw[t1,t2];refine .inr ⟨fr',cs,wl',_,_,rfl,rfl,hs,(af.es λe he=> ?_)⟩;obtain he|he:=Z60.1 he
    ·exact mem_seen he
    ·simp at he
def BJ{fr:Frame}{cs:List Frame}(h:X.St fr cs)(k:List Item)(hk:∀i∈k,okI X.Q fr.roundOf.isSome i=true){wl wc:World}(hw:X.WR wl wc):
  X.Sim c0 ds wl wc wc (.go (G {fr with todo:=k} (cs++[c0])) wl) (.go (G {renF X.ρ fr with todo:=k.map (renI X.ρ)} (cs.map (renF X.ρ)++ds)) wc):=
 Sim.same (fr:= {fr with todo:=k}) (h.with ⟨hk,h.top.defers,h.top.kind,h.top.fn⟩ rfl rfl) hw
def Am{α β:Type}{RA:α->β->Prop}{wl wc wl':World}{es:Array Event}{a:α}{s':Sem β}(h:X.Told RA wl wc es (.ok a wl') (s'.runT X.P wc es)):∃b wc' es',s'.run X.P wc=.ok b wc'/\RA a b/\X.Aft wl wc wl' wc' es es':=by
 obtain⟨b,wc',es',e,h1,h2⟩:=h
 grind [Sem.runT_fst]
def Np{c:Code}(h:Ky c=true)(Q:Program)(r:Bool):ZL Q r c=true:=by cases c<;>first|rfl|cases h
def Qs{p:Program}{main:Bool}{fr:Frame}{cs:List Frame}{w:World}{ops:Array Oper}{i:Nat}{rest:List Nat}{k:List Item}{o:Oper}(ht:fr.todo=.inRegion ops (i::rest)::k)(ho:ops[i]?=some o)
  (hw:Region.wanted o (yielded ops fr.tmps)=true) (hr:fr.roundOf.isSome=true->∀c,o.op≠.defer c):stepG.exec p main true fr cs none w=stepG.apply p true fr cs none (execOp fr.eval o) w:=by
 obtain⟨fn,tmps,todo,defers,mode,kind,ro⟩:=fr;dsimp only at ht hw hr;subst ht;simp only[stepG.exec,ho,Z4K,hw,Z4W,Z5b,stepG.oper,Frame.oper?];cases ro with
 |none=>rfl
 |some l=>
  split
  ·rename_i c e;exact absurd e (hr rfl _)
  ·rfl
def zQ{p:Program}{main:Bool}{fr:Frame}{cs:List Frame}{w:World}{ops:Array Oper}{i:Nat}{rest:List Nat}{k:List Item}(ht:fr.todo=.inRegion ops (i::rest)::k)
  (hw:((ops[i]?).map (Region.wanted · (yielded ops fr.tmps))).getD false=false):stepG.exec p main true fr cs none w=.go (G (fr.finish undef) cs) w:=by
 obtain⟨fn,tmps,todo,defers,mode,kind,ro⟩:=fr;dsimp only at ht hw;subst ht;simp only[stepG.exec,hw,Z4G,Z5h];rfl
def Z0y(ok:X.Ok){main:Bool}{fr:Frame}{cs:List Frame}(h:X.St fr cs){ops:Array Oper}{i:Nat}{rest:List Nat}{k:List Item}(ht:fr.todo=.inRegion ops (i::rest)::k)(hm:fr.mode=.run)(hsp:atSp fr=false){wl wc:World}(hw:X.WR wl wc)
  {W:World} (hW:W=wdR ((actS (renF X.ρ fr)).run X.P wc)) (ha:X.Agree wl wc W):X.Sim c0 ds wl wc W (stepG.exec X.Q true true fr (cs++[c0]) none wl) (stepG.exec X.P main true (renF X.ρ fr) (cs.map (renF X.ρ)++ds) none wc):=by
 have ht':(renF X.ρ fr).todo=.inRegion ops (i::rest)::k.map (renI X.ρ):=by simp[renF,ht,renI]
 have hy:yielded ops (renF X.ρ fr).tmps=yielded ops fr.tmps:=funext λj=>Tf X.ρ ops fr.tmps j;have hm':(renF X.ρ fr).mode=.run:=by simp[renF,hm,renM]
 have skip:W=wc->((ops[i]?).map (Region.wanted · (yielded ops fr.tmps))).getD false=false->X.Sim c0 ds wl wc W (stepG.exec X.Q true true fr (cs++[c0]) none wl) (stepG.exec X.P main true (renF X.ρ fr) (cs.map (renF X.ρ)++ds) none wc):=λhWc hs=>by
  subst hWc;rw[zQ ht hs,zQ ht' Z3L];have:=WC X.ρ X.Q fr undef h.top.todo;rw[X8]at this;rw[this];exact Sim.same (h.with (WB h.top _) (Xi _ _) (YV _ _)) hw
 have hops:okI X.Q fr.roundOf.isSome (.inRegion ops (i::rest))=true:=h.top.todo _ Z3M;cases ho:ops[i]? with
 |none=>
  refine skip ?_ Z3L;unfold actS at hW;rw[hm',ht']at hW;simp only[ho]at hW;exact hW
 |some o=>
  cases hwt:Region.wanted o (yielded ops fr.tmps)with
  |false=>
   refine skip ?_ Z3M;unfold actS at hW;rw[hm',ht']at hW;simp only[ho,hy,hwt,Z4G,Z5h]at hW;exact hW
  |true=>
   have hok:okOp X.Q fr.roundOf.isSome o.op=true:=by
    simp only[okI,Z6p]at hops;exact hops o (Z69 ho)
   have hd:fr.roundOf.isSome=true->∀c,o.op≠.defer c:=λh1 c e=>by
    simp_all[okOp]
   rw[Qs ht ho hwt hd,Qs ht' ho Z3M (by simp_all[renF])];refine Ju h (Cq (λx hx=>WW X.ρ fr x hx) (λv=>rfl) ok o hok (by simp_all[atSp])) hw ?_ ha
   have e:actS (renF X.ρ fr)=(execOp (renF X.ρ fr).eval o>>=λ_=>pure ()):=by
    unfold actS;rw[hm',ht'];simp only[ho,hy,hwt,Z5b]
   grind [Wm]
end
end
section
section
variable {X:Cx}{c0:Frame}{ds:List Frame}
def RZ{X:Cx}{fr:Frame}(h:X.OkF fr){i:Item}{k:List Item}(e:fr.todo=i::k):okI X.Q fr.roundOf.isSome i=true/\∀j∈k,okI X.Q fr.roundOf.isSome j=true:=
 ⟨h.todo _ Z3M,λj hj=>h.todo _ Z3M⟩
def Hr{V:List Nat}{rd:Bool}{s s':Sem Unit}(h:X.Img Eq V s s'):X.Img (X.NR rd) V (do s;pure .skip:Sem Next) (do s';pure .skip:Sem Next):=Hs h
def Gf(ok:X.Ok){main:Bool}{fr:Frame}{cs:List Frame}(h:X.St fr cs){k:List Item}(ht:fr.todo=.beginRound::k)(hm:fr.mode=.run){wl wc:World}(hw:X.WR wl wc)
  {W:World} (hW:W=wdR ((actS (renF X.ρ fr)).run X.P wc)) (ha:X.Agree wl wc W):X.Sim c0 ds wl wc W (stepG.exec X.Q true true fr (cs++[c0]) none wl) (stepG.exec X.P main true (renF X.ρ fr) (cs.map (renF X.ρ)++ds) none wc):=by
 have e1:∀(p:Program) (main:Bool) (fr:Frame) (cs:List Frame) (k:List Item) (w:World),fr.todo=.beginRound::k->stepG.exec p main true fr cs none w=stepG.apply p true fr cs none (do fr.roundOf.elim (stuck "beginRound: no round") Instr.beginRound;pure .skip) w:=λp main fr cs k w e=>by
  obtain⟨fn,tmps,todo,defers,mode,kind,ro⟩:=fr;dsimp only at e;subst e;rfl
 have ht':(renF X.ρ fr).todo=.beginRound::k.map (renI X.ρ):=by simp[renF,ht,renI]
 have hm':(renF X.ρ fr).mode=.run:=by simp[renF,hm,renM]
 rw[e1 _ _ _ _ _ _ ht,e1 _ _ _ _ _ _ ht']
 have hi:X.Img Eq [] (fr.roundOf.elim (stuck "beginRound: no round") Instr.beginRound) ((renF X.ρ fr).roundOf.elim (stuck "beginRound: no round") Instr.beginRound):=by
  show X.Img Eq [] _ ((fr.roundOf.map X.ρ).elim _ _);cases fr.roundOf with
  |none=>exact Z3 _ _
  |some l=>exact JR ok l
 refine Ju h (Hr hi) hw ?_ ha;unfold actS at hW;rw[hm',ht']at hW;rw[hW,Z54];show wdR (((renF X.ρ fr).roundOf.elim (stuck "beginRound: no round") Instr.beginRound).run X.P wc)=_;cases((renF X.ρ fr).roundOf.elim (stuck "beginRound: no round") Instr.beginRound).run X.P wc<;>rfl
def As(ok:X.Ok){main:Bool}{fr:Frame}{cs:List Frame}(h:X.St fr cs){l:Nat}{k:List Item}(ht:fr.todo=.endRangeFunc l::k)(hm:fr.mode=.run){wl wc:World}(hw:X.WR wl wc)
  {W:World} (hW:W=wdR ((actS (renF X.ρ fr)).run X.P wc)) (ha:X.Agree wl wc W):X.Sim c0 ds wl wc W (stepG.exec X.Q true true fr (cs++[c0]) none wl) (stepG.exec X.P main true (renF X.ρ fr) (cs.map (renF X.ρ)++ds) none wc):=by
 have e1:∀(p:Program) (main:Bool) (fr:Frame) (cs:List Frame) (l:Nat) (k:List Item) (w:World),fr.todo=.endRangeFunc l::k->stepG.exec p main true fr cs none w=
   GStep.after (seen p fr.fn ((Instr.endLoop l).runT p w #[]).2) (match((Instr.endLoop l).runT p w #[]).1 with
    |.ok jump w=>.go (G {fr with todo:=(jump.map Item.code).toList++k} cs) w
    |.halt (.panic v) w=>.go (G (fr.raise [{v,recovered:=false}]) cs) w
    |.halt _ w=>.ended (.stuck "range over a function: no such loop" (fr.pos p)) w):=λp main fr cs l k w e=>by
  obtain⟨fn,tmps,todo,defers,mode,kind,ro⟩:=fr;dsimp only at e;subst e;rfl
 have ht':(renF X.ρ fr).todo=.endRangeFunc (X.ρ l)::k.map (renI X.ρ):=by simp[renF,ht,renI]
 have hm':(renF X.ρ fr).mode=.run:=by simp[renF,hm,renM]
 rw[e1 _ _ _ _ _ _ _ ht,e1 _ _ _ _ _ _ _ ht']
 have hg:W=wdR ((Instr.endLoop (X.ρ l)).run X.P wc):=by
  unfold actS at hW;rw[hm',ht']at hW;dsimp only at hW;rwa[Wm]at hW
 have hT:=(jx (V:=[]) ok l).told hw (hg▸ha);obtain⟨es0,e0⟩:=W8 X.Q (Instr.endLoop l) wl #[];rw[e0];cases hq:(Instr.endLoop l).run X.Q wl with
 |halt x wl'=>
  rw[hq]at hT;cases x with
  |panic v=>
   obtain⟨wc',es',e2,af⟩:=hT;obtain rfl:=w_of hg e2 rfl;rw[e2];refine .inr ⟨fr.raise [{v,recovered:=false}],cs,wl',_,_,rfl,?_,h.with (Q3 h.top _) (Ug _ _) (Ve _ _),(af.es (es2:=seen X.P fr.fn es'++ #[]) λe he=> ?_)⟩
   ·rw[<-TL];rfl
   ·rw[Z5k]at he;exact mem_seen he
  |_=>exact .inl ⟨_,_,_,rfl⟩
 |ok j wl'=>
  rw[hq]at hT;obtain⟨b,wc',es',e2,⟨rfl,hj⟩,af⟩:=hT;obtain rfl:=w_of hg e2 rfl;rw[e2];obtain⟨hi,hk⟩:=RZ h.top ht;refine .inr ⟨{fr with todo:=(j.map Item.code).toList++k},cs,wl',_,_,rfl,?_,h.with ⟨λi hi=> ?_,h.top.defers,h.top.kind,h.top.fn⟩ rfl rfl,(af.es (es2:=seen X.P fr.fn es'++ #[]) λe he=> ?_)⟩
  ·cases j<;>simp[renF,renI,GStep.after]
  ·obtain hi|hi:=Z4R.1 hi
   ·cases j with
    |none=>cases hi
    |some c=>
     simp only[Z4K,Option.toList_some,Z5x]at hi;subst hi;exact Np (by simpa using hj) _ _
   ·exact hk i hi
  ·rw[Z5k]at he;exact mem_seen he
def Iy(ok:X.Ok){main:Bool}{fr:Frame}{cs:List Frame}(h:X.St fr cs){id:Nat}{ops:Array Oper}{k:List Item}(ht:fr.todo=.code (.region id ops true)::k)(hm:fr.mode=.run){wl wc:World}(hw:X.WR wl wc)
  {W:World} (hW:W=wdR ((actS (renF X.ρ fr)).run X.P wc)) (ha:X.Agree wl wc W):X.Sim c0 ds wl wc W (stepG.exec X.Q true true fr (cs++[c0]) none wl) (stepG.exec X.P main true (renF X.ρ fr) (cs.map (renF X.ρ)++ds) none wc):=by
 have e1:∀(p:Program) (main:Bool) (fr:Frame) (cs:List Frame) (k:List Item) (w:World),fr.todo=.code (.region id ops true)::k->stepG.exec p main true fr cs none w=
   (match(choose (.order fr.fn id)).run p w with
    |.ok t w=>.go (G {fr with todo:=.inRegion ops (Region.schedule (p.follows .mixedOrders) ops t)::k} cs) w
    |.halt _ w=>.ended (.stuck "order" (fr.pos p)) w):=λp main fr cs k w e=>by
  obtain⟨fn,tmps,todo,defers,mode,kind,ro⟩:=fr;dsimp only at e;subst e;rfl
 have ht':(renF X.ρ fr).todo=.code (.region id ops true)::k.map (renI X.ρ):=by simp[renF,ht,renI]
 have hm':(renF X.ρ fr).mode=.run:=by simp[renF,hm,renM]
 rw[e1 _ _ _ _ _ _ ht,e1 _ _ _ _ _ _ ht']
 have hg:W=wdR ((choose (.order fr.fn id)).run X.P wc):=by
  unfold actS at hW;rw[hm',ht']at hW;dsimp only at hW;rwa[Wm]at hW
 have hT:=(Y2 (X:=X) (V:=[]) (.order fr.fn id)).told hw (hg▸ha);cases hq:(choose (.order fr.fn id)).run X.Q wl with
 |halt x wl'=>exact .inl ⟨_,_,_,rfl⟩
 |ok t wl'=>
  rw[hq]at hT;obtain⟨b,wc',es',e2,rfl,af⟩:=Am hT;obtain rfl:W=wc':=by rw[hg,e2];rfl
  rw[show(renF X.ρ fr).fn=fr.fn from rfl,e2];obtain⟨hi,hk⟩:=RZ h.top ht;exact .inr ⟨{fr with todo:=.inRegion ops (Region.schedule (X.Q.follows .mixedOrders) ops t)::k},cs,wl',_,_,rfl,rfl,h.with ⟨λi hi'=>by obtain rfl|hi':=Z4H.1 hi';exact hi;grind,h.top.defers,h.top.kind,h.top.fn⟩ rfl rfl,(af.es (es2:=#[]) λe he=>by simp at he)⟩
def DM(fr:Frame)(f:Operand)(l:Nat):Sem Next:=do let d<-resolve fr.eval {callee:=.value f,args:=#[.const (.func (.yield l) #[] #[])],argTypes:=#[]} 0;invoke d.target d.args
def ED(ok:X.Ok){fr fr':Frame}(he:∀x,okV x=true->fr'.eval x=ren X.ρ (fr.eval x)){f:Operand}(hf:okV f=true)(l:Nat){rd:Bool}{V:List Nat}:X.Img (X.NR rd) V (DM fr f l) (DM fr' f (X.ρ l)):=by
 unfold DM resolve;dsimp only
 have e1:(#[.const (.func (.yield (X.ρ l)) #[] #[])]:Array Operand).map fr'.eval=(#[.func (.yield l) #[] #[]]:Array Value).map (ren X.ρ):=by
  simp[Frame.eval,ren,WL]
 have e2:(#[.const (.func (.yield l) #[] #[])]:Array Operand).map fr.eval=(#[.func (.yield l) #[] #[]]:Array Value):=by
  simp[Frame.eval]
 rw[e1,e2,he f hf];refine .bind (QK _ _) ?_;rintro V1 d _- ⟨rfl,hd⟩;exact Ss ok d.target d.args hd
def zf(ok:X.Ok){main:Bool}{fr:Frame}{cs:List Frame}(h:X.St fr cs){f:Operand}{ps:Array Tmp}{a b:Code}{k:List Item}(ht:fr.todo=.code (.rangeFunc f ps a b)::k)(hm:fr.mode=.run){wl wc:World}(hw:X.WR wl wc)
  {W:World} (hW:W=wdR ((actS (renF X.ρ fr)).run X.P wc)) (ha:X.Agree wl wc W):X.Sim c0 ds wl wc W (stepG.exec X.Q true true fr (cs++[c0]) none wl) (stepG.exec X.P main true (renF X.ρ fr) (cs.map (renF X.ρ)++ds) none wc):=by
 have e1:∀(p:Program) (main:Bool) (fr:Frame) (cs:List Frame) (k:List Item) (w:World),fr.todo=.code (.rangeFunc f ps a b)::k->stepG.exec p main true fr cs none w=
   GStep.after (seen p fr.fn ((Instr.enterLoop fr.fn fr.tmps ps a b fr.roundOf).runT p w #[]).2) (match((Instr.enterLoop fr.fn fr.tmps ps a b fr.roundOf).runT p w #[]).1 with
    |.ok (l,mark) w=>stepG.apply p true {fr with todo:=.inRangeFunc l::k,defers:=mark++fr.defers} cs none (DM fr f l) w
    |.halt _ w=>.ended (.stuck "range over a function: no such loop" (fr.pos p)) w):=λp main fr cs k w e=>by
  obtain⟨fn,tmps,todo,defers,mode,kind,ro⟩:=fr;dsimp only at e;subst e;rfl
 have ht':(renF X.ρ fr).todo=.code (.rangeFunc f ps a b)::k.map (renI X.ρ):=by simp[renF,ht,renI]
 have hm':(renF X.ρ fr).mode=.run:=by simp[renF,hm,renM]
 rw[e1 _ _ _ _ _ _ ht,e1 _ _ _ _ _ _ ht'];obtain⟨hi,hk⟩:=RZ h.top ht;simp only[okI,ZL,Z4x]at hi;obtain⟨⟨hf,hoa⟩,hob⟩:=hi;have himg:=Lv (V:=[]) ok fr.fn fr.tmps ps a b fr.roundOf h.top.fn hoa hob
 have e3:actS (renF X.ρ fr)=(Instr.enterLoop fr.fn (fr.tmps.map (ren X.ρ)) ps a b (fr.roundOf.map X.ρ)>>=λx=>DM (renF X.ρ fr) f x.1>>=λ_=>pure ()):=by
  unfold actS;rw[hm',ht'];rfl
 rw[e3]at hW
 have hg:X.Agree wl wc (wdR ((Instr.enterLoop fr.fn (fr.tmps.map (ren X.ρ)) ps a b (fr.roundOf.map X.ρ)).run X.P wc)):=by
  refine ha.mono ?_;rw[hW,Z54];cases(Instr.enterLoop fr.fn (fr.tmps.map (ren X.ρ)) ps a b (fr.roundOf.map X.ρ)).run X.P wc with
  |ok x w=>exact KY X.P _ w
  |halt x w=>exact⟨Z4A _,Z4A _⟩
 have hT:=himg.told hw hg;obtain⟨es0,e0⟩:=W8 X.Q (Instr.enterLoop fr.fn fr.tmps ps a b fr.roundOf) wl #[];rw[e0];cases hq:(Instr.enterLoop fr.fn fr.tmps ps a b fr.roundOf).run X.Q wl with
 |halt x wl'=>exact .inl ⟨_,_,_,rfl⟩
 |ok x wl1=>
  obtain⟨l,mark⟩:=x;rw[hq]at hT
  obtain⟨b',wc1,es1,e2,hrun,⟨rfl,hmk⟩,af⟩:∃b' wc1 es1,(Instr.enterLoop fr.fn (fr.tmps.map (ren X.ρ)) ps a b (fr.roundOf.map X.ρ)).runT X.P wc #[]=(.ok b' wc1,es1)/\(Instr.enterLoop fr.fn (fr.tmps.map (ren X.ρ)) ps a b (fr.roundOf.map X.ρ)).run X.P wc=.ok b' wc1/\(b'=(X.ρ l,mark.map (renD X.ρ))/\∀d∈mark,okD d=true)/\X.Aft wl wc wl1 wc1 #[] es1:=by
   obtain⟨b',wc1,es1,e2,hb,af⟩:=hT
   grind [Sem.runT_fst]
  rw[show(Instr.enterLoop (renF X.ρ fr).fn (renF X.ρ fr).tmps ps a b (renF X.ρ fr).roundOf).runT X.P wc #[]=_ from e2];dsimp only;rw[Z54,hrun,Z51,Wm]at hW;have hfr:X.OkF {fr with todo:=.inRangeFunc l::k,defers:=mark++fr.defers}:=⟨λi hi=>by obtain rfl|hi:=Z4H.1 hi;rfl;grind,λd hd=>by obtain hd|hd:=Z4R.1 hd;exact hmk d hd;exact h.top.defers d hd,h.top.kind,h.top.fn⟩;have hs:=Ju (c0:=c0) (ds:=ds) (h.with hfr rfl rfl) (ED ok (fr:=fr) (fr':=renF X.ρ fr) (λx hx=>WW X.ρ fr x hx) hf l) af.wr hW (ha.next af)
  have e4:({renF X.ρ fr with todo:=.inRangeFunc (X.ρ l)::k.map (renI X.ρ),defers:=mark.map (renD X.ρ)++(renF X.ρ fr).defers}:Frame)=renF X.ρ {fr with todo:=.inRangeFunc l::k,defers:=mark++fr.defers}:=by
   simp[renF,renI]
  rw[e4];exact hs.after (af.es λe he=>mem_seen he)
end
end
section
section
variable {X:Cx}{c0:Frame}{ds:List Frame}
theorem Iz(ok:X.Ok){main:Bool}{fr:Frame}{cs:List Frame}(h:X.St fr cs)(hm:fr.mode=.run)(hsp:atSp fr=false){wl wc:World}(hw:X.WR wl wc)
  {W:World} (hW:W=wdR ((actS (renF X.ρ fr)).run X.P wc)) (ha:X.Agree wl wc W):X.Sim c0 ds wl wc W (stepG.exec X.Q true true fr (cs++[c0]) none wl) (stepG.exec X.P main true (renF X.ρ fr) (cs.map (renF X.ρ)++ds) none wc):=by
 have hm':(renF X.ρ fr).mode=.run:=by simp[renF,hm,renM]
 cases ht:fr.todo with
 |nil=>
  have ht':(renF X.ρ fr).todo=[]:=by simp[renF,ht]
  have e1:∀(p:Program) (main:Bool) (fr:Frame) (cs:List Frame) (w:World),fr.todo=[]->stepG.exec p main true fr cs none w=Tz p main fr cs none (.ended (.stuck "exit, goto: no such block or label" (fr.pos p)) w) w:=λp main fr cs w e=>by
   obtain⟨fn,tmps,todo,defers,mode,kind,ro⟩:=fr;dsimp only at e;subst e;rfl
  rw[e1 _ _ _ _ _ ht,e1 _ _ _ _ _ ht'];unfold actS at hW;rw[hm',ht']at hW;exact TX ok h none rfl _ hw hW ha
 |cons i k=>
  obtain⟨hi,hk⟩:=RZ h.top ht;have ht':(renF X.ρ fr).todo=renI X.ρ i::k.map (renI X.ρ):=by simp[renF,ht]
  have to:∀k':List Item,(∀i∈k',okI X.Q fr.roundOf.isSome i=true)->(∀(p:Program) (main:Bool) fn tmps defers mode kind ro (cs:List Frame) (w:World),stepG.exec p main true ⟨fn,tmps,i::k,defers,mode,kind,ro⟩ cs none w=.go (G ⟨fn,tmps,k',defers,mode,kind,ro⟩ cs) w)->
    (∀(p:Program) (main:Bool) fn tmps defers mode kind ro (cs:List Frame) (w:World),stepG.exec p main true ⟨fn,tmps,renI X.ρ i::k.map (renI X.ρ),defers,mode,kind,ro⟩ cs none w=.go (G ⟨fn,tmps,k'.map (renI X.ρ),defers,mode,kind,ro⟩ cs) w)->
    W=wc->X.Sim c0 ds wl wc W (stepG.exec X.Q true true fr (cs++[c0]) none wl) (stepG.exec X.P main true (renF X.ρ fr) (cs.map (renF X.ρ)++ds) none wc):=λk' hk' e1 e2 hWc=>by
   rw[hWc];have h1:=BJ (c0:=c0) (ds:=ds) h k' hk' hw
   rw[show stepG.exec X.Q true true fr (cs++[c0]) none wl=.go (G {fr with todo:=k'} (cs++[c0])) wl from by
    obtain⟨fn,tmps,todo,defers,mode,kind,ro⟩:=fr;dsimp only at ht;subst ht;exact e1 _ _ _ _ _ _ _ _ _ _]
   have h2:∀fr1:Frame,fr1.todo=renI X.ρ i::k.map (renI X.ρ)->stepG.exec X.P main true fr1 (cs.map (renF X.ρ)++ds) none wc=.go (G {fr1 with todo:=k'.map (renI X.ρ)} (cs.map (renF X.ρ)++ds)) wc:=λfr1 e=>by
    obtain⟨fn,tmps,todo,defers,mode,kind,ro⟩:=fr1;dsimp only at e;subst e;exact e2 _ _ _ _ _ _ _ _ _ _
   rw[h2 _ ht'];exact h1
  have no:(∀fn tmps defers mode kind ro,∃o w es,stepG.exec X.Q true true ⟨fn,tmps,i::k,defers,mode,kind,ro⟩ (cs++[c0]) none wl=.ended o w es)->X.Sim c0 ds wl wc W (stepG.exec X.Q true true fr (cs++[c0]) none wl) (stepG.exec X.P main true (renF X.ρ fr) (cs.map (renF X.ρ)++ds) none wc):=λe=>by
   refine .inl ?_;obtain⟨fn,tmps,todo,defers,mode,kind,ro⟩:=fr;dsimp only at ht;subst ht;exact e _ _ _ _ _ _
  cases i with
  |inBlock id=>exact to k hk (λ_ _ _ _ _ _ _ _ _ _=>rfl) (λ_ _ _ _ _ _ _ _ _ _=>rfl) Z3U
  |inScope c=>exact to k hk (λ_ _ _ _ _ _ _ _ _ _=>rfl) (λ_ _ _ _ _ _ _ _ _ _=>rfl) Z3U
  |inLoop c=>exact to (.code c:: .inLoop c::k) (λi h1=>Z3W) (λ_ _ _ _ _ _ _ _ _ _=>rfl) (λ_ _ _ _ _ _ _ _ _ _=>rfl) Z3U
  |inRangeFunc l=>exact no λ_ _ _ _ _ _=>⟨_,_,_,rfl⟩
  |beginRound=>exact Gf ok h ht hm hw hW ha
  |endRangeFunc l=>exact As ok h ht hm hw hW ha
  |call=>cases hi
  |extern=>cases hi
  |inRegion ops l=>
   cases l with
   |nil=>exact to k hk (λ_ _ _ _ _ _ _ _ _ _=>rfl) (λ_ _ _ _ _ _ _ _ _ _=>rfl) Z3U
   |cons i rest=>exact Z0y ok h ht hm hsp hw hW ha
  |code c=>
   cases c with
   |skip=>exact to k hk (λ_ _ _ _ _ _ _ _ _ _=>rfl) (λ_ _ _ _ _ _ _ _ _ _=>rfl) Z3U
   |label l=>exact to k hk (λ_ _ _ _ _ _ _ _ _ _=>rfl) (λ_ _ _ _ _ _ _ _ _ _=>rfl) Z3U
   |seq a b=>
    simp only[okI,ZL,Z4x]at hi;exact to (.code a:: .code b::k) (λi h1=>by obtain rfl|h1:=Z4H.1 h1;exact hi.1;obtain rfl|h1:=Z4H.1 h1;exact hi.2;exact hk i h1) (λ_ _ _ _ _ _ _ _ _ _=>rfl) (λ_ _ _ _ _ _ _ _ _ _=>rfl) Z3U
   |block id c=>exact to (.code c:: .inBlock id::k) (λi h1=>by obtain rfl|h1:=Z4H.1 h1;exact hi;obtain rfl|h1:=Z4H.1 h1;rfl;exact hk i h1) (λ_ _ _ _ _ _ _ _ _ _=>rfl) (λ_ _ _ _ _ _ _ _ _ _=>rfl) Z3U
   |loop c=>exact to (.code c:: .inLoop c::k) (λi h1=>Z3W) (λ_ _ _ _ _ _ _ _ _ _=>rfl) (λ_ _ _ _ _ _ _ _ _ _=>rfl) Z3U
   |scope c=>exact to (.code c:: .inScope c::k) (λi h1=>Z3W) (λ_ _ _ _ _ _ _ _ _ _=>rfl) (λ_ _ _ _ _ _ _ _ _ _=>rfl) Z3U
   |refuse why=>exact no λ_ _ _ _ _ _=>⟨_,_,_,rfl⟩
   |rangeFunc f ps a b=>exact zf ok h ht hm hw hW ha
   |region id ops draw=>
    cases draw with
    |true=>exact Iy ok h ht hm hw hW ha
    |false=>exact to (.inRegion ops (List.range ops.size)::k) (λi h1=>by obtain rfl|h1:=Z4H.1 h1;exact hi;exact hk i h1) (λ_ _ _ _ _ _ _ _ _ _=>rfl) (λ_ _ _ _ _ _ _ _ _ _=>rfl) Z3U
   |cond c a b=>
    simp only[okI,ZL,Z4x]at hi;obtain⟨⟨h1,h2⟩,h3⟩:=hi
    have e1:∀(p:Program) (main:Bool) (fr:Frame) (cs:List Frame) (k:List Item) (w:World),fr.todo=.code (.cond c a b)::k->stepG.exec p main true fr cs none w=match fr.eval c with
      |.bool z=>.go (G {fr with todo:=.code (if z then a else b)::k} cs) w
      |_=>.ended (.stuck "cond: bool expected" (fr.pos p)) w:=λp main fr cs k w e=>by
     obtain⟨fn,tmps,todo,defers,mode,kind,ro⟩:=fr;dsimp only at e;subst e;rfl
    rw[e1 _ _ _ _ _ _ ht,e1 _ _ _ _ _ _ ht',WW X.ρ fr c h1];obtain rfl:W=wc:=Z3U;by_cases hb:∃z,fr.eval c=.bool z
    ·obtain⟨z,hz⟩:=hb;rw[hz,YH]
     exact BJ h (.code (if z then a else b)::k) (λi h1=>by
      obtain rfl|h1:=Z4H.1 h1
      ·cases z
       ·exact h3
       ·exact h2
      ·exact hk i h1) hw
    ·refine .inl ⟨.stuck "cond: bool expected" (fr.pos X.Q),wl, #[],?_⟩;split
     ·rename_i z hz;exact absurd ⟨z,hz⟩ hb
     ·rfl
   |ret=>
    have e1:∀(p:Program) (main:Bool) (fr:Frame) (cs:List Frame) (k:List Item) (w:World),fr.todo=.code .ret::k->stepG.exec p main true fr cs none w=Tz p main fr cs (some .ret) (.ended (.stuck "exit, goto: no such block or label" (fr.pos p)) w) w:=λp main fr cs k w e=>by
     obtain⟨fn,tmps,todo,defers,mode,kind,ro⟩:=fr;dsimp only at e;subst e;rfl
    rw[e1 _ _ _ _ _ _ ht,e1 _ _ _ _ _ _ ht'];unfold actS at hW;rw[hm',ht']at hW;exact TX ok h (some .ret) rfl _ hw hW ha
   |exit id=>
    have e1:∀(p:Program) (main:Bool) (fr:Frame) (cs:List Frame) (k:List Item) (w:World),fr.todo=.code (.exit id)::k->stepG.exec p main true fr cs none w=(exitTo id k).elim (Tz p main fr cs (some (.exit id)) (.ended (.stuck "exit, goto: no such block or label" (fr.pos p)) w) w) (λk'=>.go (G {fr with todo:=k'} cs) w):=λp main fr cs k w e=>by
     obtain⟨fn,tmps,todo,defers,mode,kind,ro⟩:=fr;dsimp only at e;subst e;rfl
    rw[e1 _ _ _ _ _ _ ht,e1 _ _ _ _ _ _ ht',Si];unfold actS at hW;rw[hm',ht']at hW;dsimp only[renI]at hW;rw[Si]at hW;cases he:exitTo id k with
    |none=>
     rw[he]at hW;exact TX ok h (some (.exit id)) rfl _ hw hW ha
    |some k'=>
     obtain rfl:W=wc:=by rw[he]at hW;exact hW
     exact BJ h k' (λi h1=>hk i (Kl id k k' he i h1)) hw
   |goto l=>
    have e1:∀(p:Program) (main:Bool) (fr:Frame) (cs:List Frame) (k:List Item) (w:World),fr.todo=.code (.goto l)::k->stepG.exec p main true fr cs none w=(gotoIn l k).elim (Tz p main fr cs (some (.goto l)) (.ended (.stuck "exit, goto: no such block or label" (fr.pos p)) w) w) (λk'=>.go (G {fr with todo:=k'} cs) w):=λp main fr cs k w e=>by
     obtain⟨fn,tmps,todo,defers,mode,kind,ro⟩:=fr;dsimp only at e;subst e;rfl
    rw[e1 _ _ _ _ _ _ ht,e1 _ _ _ _ _ _ ht',Sn];unfold actS at hW;rw[hm',ht']at hW;dsimp only[renI]at hW;rw[Sn]at hW;cases he:gotoIn l k with
    |none=>
     rw[he]at hW;exact TX ok h (some (.goto l)) rfl _ hw hW ha
    |some k'=>
     obtain rfl:W=wc:=by rw[he]at hW;exact hW
     exact BJ h k' (λi h1=>y6 X.Q _ l k k' hk he i h1) hw
end
end
section
section
variable {X:Cx}{c0:Frame}{ds:List Frame}
def LV(m:FrameMode):Bool:=match m with|.panicking _=>true|_=>false
section
variable {p:Program}{fr:Frame}{cs:List Frame}{d:Deferred}{w w':World}{es:Array Event}
def nilP(fr:Frame)(d:Deferred):Prop:=((match d.target with|.nil=>true|_=>false)&&LV fr.mode)=false
def P2(h:¬nilP fr d):∃o w' es,callDeferred p fr cs none d w=.ended o w' es:=by
 have h:((match d.target with|.nil=>true|_=>false)&&(match fr.mode with|.panicking _=>true|_=>false))=true:=by simpa[nilP,LV]using h
 exact⟨_,_,_,if_pos h⟩
def P1(hn:nilP fr d):callDeferred p fr cs none d w=(
  let(r,es):=(invoke d.target d.args).runT p w #[]
  let es:=match r with|.halt .blocked _|.halt .waiting _=> #[] |_=>es
  GStep.after (seen p fr.fn es)<|match r with
  |.ok (.enter f args) w=>.go (G (Frame.enter p f args .deferred) (fr::cs)) w
  |.ok (.round l f tmps assign body) w=>.go (G (Frame.round l f tmps assign body .deferred) (fr::cs)) w
  |.ok (.callThen d resume saved wrapper) w=>.go (G (Frame.ofExtern p d resume saved wrapper .deferred) (fr::cs)) w
  |.ok (.row row args) w=>.go (G (Frame.ofRow p row args .deferred) (fr::cs)) w
  | .ok .recover w=>
    match fr.mode,tryRecover fr cs with
    |.returning,some (_,callers)=>.go (G fr callers) w
    |_,_=>.go (G fr cs) w
  |.ok (.sleep till) w=>.go {frame:=fr,callers:=cs,status:=.sleeping till,dying:=none} w
  |.ok (.alone false _) w=>.alone (G fr cs) false w
  | .ok (.timer _) w|.ok (.alone _ _) w=>
    .ended (.unsupported (.noEntry "time.newTimer, stopTimer, resetTimer, runtime_procPin or procUnpin as a deferred call") (fr.pos p)) w
  |.ok .collect w=>.collect (G fr cs) w
  |.ok (.watch _) w=>.watch (G fr cs) w
  |.ok (.coroswitch c true) w=>.coroswitch (G fr cs) c true w
  |.ok (.coroswitch _ false) w|.ok (.newcoro ..) w=>.ended (.unsupported (.noEntry "a deferred call of iter.newcoro or iter.coroswitch") (fr.pos p)) w
  |.ok (.stack ..) w=>.ended (.unsupported (.noEntry "runtime.Caller or Callers as a deferred call or in a go statement") (fr.pos p)) w
  |.ok _ w=>.go (G fr cs) w
  |.halt (.panic v) w=>.go (G (fr.raise [{v,recovered:=false}]) cs) w
  |.halt (.exit c) w=>.ended (.exit c) w
  |.halt (.fatal m) w=>endFatal p fr cs none m w
  |.halt (.throw m) w=>endThrow fr m w
  |.halt (.unsupported u) w=>.ended (.unsupported u (fr.pos p)) w
  |.halt (.stuck s) w=>.ended (.stuck s (fr.pos p)) w
  |.halt .goexit w=>.go (G (fr.raise [goexitEntry]) cs) w
  |.halt .blocked w=>.go {frame:= {fr with defers:=d::fr.defers},callers:=cs,status:=.blocked,dying:=none} w
  |.halt .waiting w=>.go {frame:= {fr with defers:=d::fr.defers},callers:=cs,status:=.waiting,dying:=none} w):=by
 have h:((match d.target with|.nil=>true|_=>false)&&(match fr.mode with|.panicking _=>true|_=>false))=false:=hn;exact if_neg (λe=>Bool.false_ne_true (h.symm.trans e))
end
def qE(ok:X.Ok){fr:Frame}{cs:List Frame}(h:X.St fr cs)(d:Deferred)(hd:okD d=true){wl wc:World}(hw:X.WR wl wc){W:World}(hW:W=wdR ((invoke (renD X.ρ d).target (renD X.ρ d).args).run X.P wc))(ha:X.Agree wl wc W):
  X.Sim c0 ds wl wc W (callDeferred X.Q fr (cs++[c0]) none d wl) (callDeferred X.P (renF X.ρ fr) (cs.map (renF X.ρ)++ds) none (renD X.ρ d) wc):=by
 by_cases hn:nilP fr d
 ·have hn':nilP (renF X.ρ fr) (renD X.ρ d):=by
   have e1:LV (renF X.ρ fr).mode=LV fr.mode:=by obtain⟨fn,tmps,todo,defers,mode,kind,ro⟩:=fr;cases mode<;>rfl
   have e2:(match(renD X.ρ d).target with|.nil=>true|_=>false)=(match d.target with|.nil=>true|_=>false):=by obtain⟨t,a⟩:=d;cases t<;>rfl
   unfold nilP;rw[e1,e2];exact hn
  have ht:=(Ss (V:=[]) (rd:=true) ok d.target d.args hd).told hw (hW▸ha);obtain⟨es0,e0⟩:=W8 X.Q (invoke d.target d.args) wl #[];rw[P1 hn,P1 hn',e0];have last:∀(es es':Array Event) (e:Event),(∀e∈es,e∈es')->e∈es++(#[]:Array Event)->e∈es':=λes es' e h1 h2=>h1 e Z3L;cases hr:(invoke d.target d.args).run X.Q wl with
  |halt x wl'=>
   rw[hr]at ht;cases x with
   |panic v=>
    obtain⟨wc',es',e1,af⟩:=ht;obtain rfl:=w_of hW e1 rfl;rw[show(invoke (renD X.ρ d).target (renD X.ρ d).args).runT X.P wc #[]=_ from e1];refine .inr ⟨fr.raise [{v,recovered:=false}],cs,wl',_,seen X.P fr.fn es'++ #[],rfl,?_,h.with (Q3 h.top _) (Ug _ _) (Ve _ _),af.es λe he=>last _ _ e (λe he=>mem_seen he) he⟩;rw[<-TL];rfl
   |stuck=>exact .inl ⟨_,_,_,rfl⟩
   |unsupported=>exact .inl ⟨_,_,_,rfl⟩
   |_=>exact False.elim ht
  |ok a wl'=>
   rw[hr]at ht;obtain⟨b,wc',es',e1,hb,af⟩:=ht;obtain rfl:=w_of hW e1 rfl;rw[show(invoke (renD X.ρ d).target (renD X.ρ d).args).runT X.P wc #[]=_ from e1];have haf:X.Aft wl wc wl' W #[] (seen X.P fr.fn es'++ #[]):=af.es λe he=>last _ _ e (λe he=>mem_seen he) he;cases a with
   |value v=>obtain rfl:b=_:=hb;exact .inr ⟨fr,cs,wl',_,_,rfl,rfl,h,haf⟩
   |skip=>obtain rfl:b=_:=hb;exact .inr ⟨fr,cs,wl',_,_,rfl,rfl,h,haf⟩
   |defer=>obtain⟨rfl,_⟩:b=_/\_:=hb;exact .inr ⟨fr,cs,wl',_,_,rfl,rfl,h,haf⟩
   |recover=>obtain⟨_,h0⟩:b=_/\_:=hb;cases h0
   |enter f args=>
    obtain⟨rfl,hf⟩:b=_/\_:=hb;refine .inr ⟨Frame.enter X.Q f args .deferred,fr::cs,wl',_,_,rfl,?_,h.push (AV hf args _ (.inr rfl)),haf⟩;rw[<-zN hf];rfl
   |round l f tmps a c=>
    obtain⟨rfl,h1,h2,hf⟩:b=_/\_:=hb;refine .inr ⟨Frame.round l f tmps a c .deferred,fr::cs,wl',_,_,rfl,?_,h.push (BE h.top l f hf tmps a c h1 h2 _ (.inr rfl)),haf⟩;rfl
   |_=>exact False.elim hb
 ·exact .inl (P2 hn)
def UQ(fn:Func)(tmps:Array Value){V:List Nat}:X.Img X.Rv V (results fn tmps) (results fn (tmps.map (ren X.ρ))):=by
 have one:∀(V:List Nat) (r:ResultVar),X.Img X.Rv V (match r with|.tmp t=>pure (tmps.getD t undef)|.cell a t=>do loadVar t (<-asAddr (tmps.getD a undef)):Sem Value)
   (match r with|.tmp t=>pure ((tmps.map (ren X.ρ)).getD t undef)|.cell a t=>do loadVar t (<-asAddr ((tmps.map (ren X.ρ)).getD a undef)):Sem Value):=λV r=>by
  cases r with
  |tmp t=>dsimp only;rw[WY];exact .pure rfl
  |cell a t=>
   dsimp only;rw[WY];refine .bind (Sp _) ?_;rintro V1 a _-rfl;exact XV _ _
 have all:∀(l:List ResultVar) (V:List Nat),X.Img (λa b=>b=a.map (ren X.ρ)) V (l.mapM λr=>(match r with|.tmp t=>pure (tmps.getD t undef)|.cell a t=>do loadVar t (<-asAddr (tmps.getD a undef)):Sem Value))
   (l.mapM λr=>(match r with|.tmp t=>pure ((tmps.map (ren X.ρ)).getD t undef)|.cell a t=>do loadVar t (<-asAddr ((tmps.map (ren X.ρ)).getD a undef)):Sem Value)):=λl=>by
  induction l with
  |nil=>intro V;simp only[Z7z];exact .pure rfl
  |cons r l ih=>
   intro V;simp only[Z6N];refine .bind (one V r) ?_;rintro V1 v _-rfl;refine .bind (ih V1) ?_;rintro V2 vs _-rfl;exact .pure rfl
 unfold results;rw[Z5Y,Z5Y];refine .bind (RA:=λ(a:Array Value) b=>b=a.map (ren X.ρ)) (.map (all _ _) λa b h=>Z3L) ?_;rintro V1 vs _-rfl;refine .pure ?_;show _=ren _ _
 grind [vs,Xy]
def Ki{p:Program}{fr:Frame}(h:X.OkF fr):fr.catches p=false:=by
 unfold Frame.catches;have ht:=h.todo;split
 ·rename_i e;have:=ht _ (by rw[e];exact Z58 ..);cases this
 ·rfl
def jc{p:Program}{fr:Frame}(h:X.OkF fr):(renF X.ρ fr).catches p=false:=by
 unfold Frame.catches;have ht:=h.todo;split
 ·rename_i e;exfalso;have e:fr.todo.map (renI X.ρ)=_:=e;cases hq:fr.todo with
  |nil=>simp_all
  |cons i k=>
   rw[hq]at e;have:=ht i Z3M;cases i<;>first|(cases this;done)|cases e
 ·rfl
def i4{fr:Frame}(h:X.OkF fr):(∃fn fn',X.Q.funcs[fr.fn]?=some fn/\X.P.funcs[(renF X.ρ fr).fn]?=some fn'/\fn'.results=fn.results)\/(X.Q.funcs[fr.fn]?=none/\X.P.funcs[(renF X.ρ fr).fn]?=none):=by
 obtain⟨fn,c,h1,h2,_⟩|h|⟨fn,fn',h1,h2,h3⟩:=h.fn
 ·exact .inl ⟨fn,fn,h1,h2,rfl⟩
 ·exact .inr h
 ·exact .inl ⟨fn,fn',h1,h2,h3⟩
def KW{fn fn':Func}(h:fn'.results=fn.results)(t:Array Value):results fn' t=results fn t:=by grind [results]
def Ay{p:Program}{main:Bool}{fr:Frame}{cs:List Frame}{w:World}(hd:fr.defers=[])(hm:fr.mode=.returning)(hf:p.funcs[fr.fn]?=none):unwind p main fr cs none w=doReturn p main fr cs none (fr.tmps.getD 0 undef) w:=by
 simp_all[unwind]
def zm{p:Program}{main:Bool}{fr c:Frame}{cs:List Frame}{w:World}{ch:List PanicEntry}(hd:fr.defers=[])(hm:fr.mode=.panicking ch)(hc:fr.catches p=false):unwind p main fr (c::cs) none w=.go (G (c.raise ch) cs) w:=by
 unfold unwind;simp only[hd,hm,hc,Z4G,Z5h];rfl
def GA{p:Program}{main:Bool}{fr:Frame}{cs:List Frame}{w:World}{fn:Func}(hd:fr.defers=[])(hm:fr.mode=.returning)(hf:p.funcs[fr.fn]?=some fn):unwind p main fr cs none w=
  GStep.after (seen p fr.fn ((results fn fr.tmps).runT p w #[]).2) (match((results fn fr.tmps).runT p w #[]).1 with
   |.ok v w=>doReturn p main fr cs none v w
   |.halt (.stuck s) w=>.ended (.stuck s (fr.pos p)) w
   |.halt _ w=>.ended (.stuck "return: the result variables cannot be read" (fr.pos p)) w):=by
 simp_all[unwind];rfl
def GB{p:Program}{main:Bool}{fr:Frame}{cs:List Frame}{w:World}{b:Nat}{args:Array Value}{dl:List Deferred}(hd:fr.defers= {target:=.collected b,args}::dl):unwind p main fr cs none w=
  GStep.after (seen p fr.fn ((Instr.takeDeferred b).runT p w #[]).2) (match((Instr.takeDeferred b).runT p w #[]).1 with
   |.ok calls w=>.go (G {fr with defers:=calls++dl} cs) w
   |.halt _ w=>.ended (.stuck "the deferred calls of a range-over-func loop have been taken" (fr.pos p)) w):=by
 unfold unwind;simp only[hd];rfl
def Gz{p:Program}{main:Bool}{fr:Frame}{cs:List Frame}{w:World}{d:Deferred}{dl:List Deferred}(hd:fr.defers=d::dl)(hn:∀b,d.target≠.collected b):unwind p main fr cs none w=callDeferred p {fr with defers:=dl} cs none d w:=by
 obtain⟨t,a⟩:=d;unfold unwind;simp only[hd];cases t<;>first|rfl|simp_all
def D6(ok:X.Ok){main:Bool}{fr:Frame}{cs:List Frame}(h:X.St fr cs)(hm:fr.mode≠.run)(hend:¬(cs=[]/\fr.mode=.returning/\fr.defers=[])){wl wc:World}(hw:X.WR wl wc)
  {W:World} (hW:W=wdR ((actS (renF X.ρ fr)).run X.P wc)) (ha:X.Agree wl wc W):
  X.Sim c0 ds wl wc W (unwind X.Q true fr (cs++[c0]) none wl) (unwind X.P main (renF X.ρ fr) (cs.map (renF X.ρ)++ds) none wc)\/∃ch,cs=[]/\unwind X.Q true fr (cs++[c0]) none wl=.go (G (c0.raise ch) []) wl:=by
 have hm':(renF X.ρ fr).mode≠.run:=by
  obtain⟨fn,tmps,todo,defers,mode,kind,ro⟩:=fr;cases mode<;>first|exact absurd rfl hm|simp[renF,renM]
 have last:∀(es es':Array Event) (e:Event),(∀e∈es,e∈es')->e∈es++(#[]:Array Event)->e∈es':=λes es' e h1 h2=>h1 e (by simpa using h2)
 have hact:∀(g:Frame),g.mode≠.run->actS g=(match g.defers with
   | {target:=.collected b, .. }::_=>Instr.takeDeferred b>>=λ_=>pure ()
   |d::_=>invoke d.target d.args>>=λ_=>pure ()
   | []=>(match g.mode with
     | .returning=>program>>=λp=>(match p.funcs[g.fn]? with
       |some fn=>results fn g.tmps>>=λ_=>pure ()
       |none=>pure ())
     |_=>pure ())):=λg hg=>by
  unfold actS;cases e:g.mode<;>first|exact absurd e hg|rfl
 rw[hact _ hm']at hW;cases hd:fr.defers with
 |cons d dl=>
  left;have hok:okD d=true:=h.top.defers d (by rw[hd];exact Z58 ..);have hdl:∀x∈dl,okD x=true:=λx hx=>h.top.defers x (by rw[hd];exact Z53 _ hx);have hd':(renF X.ρ fr).defers=renD X.ρ d::dl.map (renD X.ρ):=by simp[renF,hd]
  rw[hd']at hW;by_cases hc:∃b,d.target=.collected b
  ·obtain⟨b,hb⟩:=hc;obtain⟨t,a⟩:=d;dsimp only at hb;subst hb;have hd2:(renF X.ρ fr).defers= {target:=.collected (X.ρ b),args:=a.map (ren X.ρ)}::dl.map (renD X.ρ):=hd';rw[GB hd,GB hd2]
   have hg:W=(wdR ((Instr.takeDeferred (X.ρ b)).run X.P wc)):=by
    have h2:W=(wdR ((Instr.takeDeferred (X.ρ b)>>=λ_=>(pure ():Sem Unit)).run X.P wc)):=hW;rwa[Wm]at h2
   have ht:=(Rz (V:=[]) ok b).told hw (hg▸ha);obtain⟨es0,e0⟩:=W8 X.Q (Instr.takeDeferred b) wl #[];rw[e0];cases hr:(Instr.takeDeferred b).run X.Q wl with
   |halt x wl'=>exact .inl ⟨_,_,_,rfl⟩
   |ok calls wl'=>
    rw[hr]at ht;obtain⟨b',wc',es',e1,⟨rfl,hcalls⟩,af⟩:=ht;obtain rfl:=w_of hg e1 rfl;rw[e1];refine .inr ⟨{fr with defers:=calls++dl},cs,wl',_,seen X.P fr.fn es'++ #[],rfl,?_,h.with ⟨h.top.todo,λx hx=> ?_,h.top.kind,h.top.fn⟩ rfl rfl,af.es λe he=>last _ _ e (λe he=>mem_seen he) he⟩
    ·simp[renF,GStep.after]
    ·obtain hx|hx:=Z4R.1 hx
     ·exact hcalls x hx
     ·exact hdl x hx
  ·have hn:∀b,d.target≠.collected b:=λb e=>hc ⟨b,e⟩
   have hn':∀b,(renD X.ρ d).target≠.collected b:=λb e=>by
    obtain⟨t,a⟩:=d;cases t<;>first|(simp[renD,renT]at e;done)|exact absurd rfl (hn _)
   rw[Gz hd hn,Gz hd' hn']
   have hg:W=(wdR ((invoke (renD X.ρ d).target (renD X.ρ d).args).run X.P wc)):=by
    have h2:W=(wdR ((invoke (renD X.ρ d).target (renD X.ρ d).args>>=λ_=>(pure ():Sem Unit)).run X.P wc)):=by
     obtain⟨t,a⟩:=d;cases t<;>first|exact hW|exact absurd rfl (hn _)
    rwa[Wm]at h2
   exact qE ok (fr:= {fr with defers:=dl}) (h.with ⟨h.top.todo,hdl,h.top.kind,h.top.fn⟩ rfl rfl) d hok hw hg ha
 |nil=>
  have hd':(renF X.ρ fr).defers=[]:=by simp[renF,hd]
  cases hmd:fr.mode with
  |run=>exact absurd hmd hm
  |panicking ch=>
   have hmd':(renF X.ρ fr).mode=.panicking (ch.map (qq X.ρ)):=by simp[renF,hmd,renM]
   cases cs with
   |nil=>exact .inr ⟨ch,rfl,zm hd hmd (Ki h.top)⟩
   |cons c cs=>
    left;rw[show unwind X.Q true fr (c::cs++[c0]) none wl=_ from zm hd hmd (Ki h.top),show unwind X.P main (renF X.ρ fr) ((c::cs).map (renF X.ρ)++ds) none wc=_ from zm hd' hmd' (jc h.top),TL]
    obtain rfl:W=wc:=by
     rw[hd',hmd']at hW;exact hW
    exact Sim.same (h.pop (Q3 (h.all c (Z58 ..)) _) (Ug _ _) (Ve _ _)) hw
  |returning=>
   left;have hmd':(renF X.ρ fr).mode=.returning:=by simp[renF,hmd,renM]
   obtain⟨fn,fn',hf,hf',hres⟩|⟨hf,hf'⟩:=i4 h.top
   ·rw[GA hd hmd hf,GA hd' hmd' hf',KW hres]
    have hg:W=(wdR ((results fn (fr.tmps.map (ren X.ρ))).run X.P wc)):=by
     rw[hd',hmd']at hW;dsimp only at hW;rw[Z54,Z6g,Z51,hf']at hW;rwa[Wm,KW hres]at hW
    have ht:=(UQ (X:=X) (V:=[]) fn fr.tmps).told hw (hg▸ha);obtain⟨es0,e0⟩:=W8 X.Q (results fn fr.tmps) wl #[];rw[e0];cases hr:(results fn fr.tmps).run X.Q wl with
    |halt x wl'=>cases x<;>exact .inl ⟨_,_,_,rfl⟩
    |ok v wl'=>
     rw[hr]at ht;obtain⟨b',wc',es',e1,hb,af⟩:=ht;obtain rfl:b'=_:=hb;obtain rfl:=w_of hg e1 rfl;rw[show(results fn (renF X.ρ fr).tmps).runT X.P wc #[]=_ from e1];cases cs with
     |nil=>exact absurd ⟨rfl,hmd,hd⟩ hend
     |cons c cs=>
      obtain⟨fr',t1,t2,hs⟩:=SQ (c0:=c0) (ds:=ds) (main:=main) h v wl' W;dsimp only;rw[t1,t2];exact .inr ⟨fr',cs,wl',_,_,rfl,rfl,hs,af.es λe he=>last _ _ e (λe he=>mem_seen he) he⟩
   ·rw[Ay hd hmd hf,Ay hd' hmd' hf']
    obtain rfl:W=wc:=by
     rw[hd',hmd']at hW;dsimp only at hW;rw[Z54,Z6g,Z51,hf']at hW;exact hW
    cases cs with
    |nil=>exact absurd ⟨rfl,hmd,hd⟩ hend
    |cons c cs=>
     obtain⟨fr',t1,t2,hs⟩:=SQ (c0:=c0) (ds:=ds) (main:=main) h (fr.tmps.getD 0 undef) wl W;rw[show(renF X.ρ fr).tmps.getD 0 undef=ren X.ρ (fr.tmps.getD 0 undef)from WY X.ρ fr.tmps 0];rw[t1,t2];exact Sim.same hs hw
def IA(ok:X.Ok){main:Bool}{fr:Frame}{cs:List Frame}(h:X.St fr cs)(hsp:atSp fr=false)(hend:¬(cs=[]/\fr.mode=.returning/\fr.defers=[])){wl wc:World}(hw:X.WR wl wc)
  {W:World} (hW:W=wdR ((actS (renF X.ρ fr)).run X.P wc)) (ha:X.Agree wl wc W):
  X.Sim c0 ds wl wc W (stepG X.Q true (G fr (cs++[c0])) wl) (stepG X.P main (G (renF X.ρ fr) (cs.map (renF X.ρ)++ds)) wc)\/∃ch,cs=[]/\stepG X.Q true (G fr (cs++[c0])) wl=.go (G (c0.raise ch) []) wl:=by
 have e1:∀(P:Program) (main:Bool) (fr:Frame) (cs:List Frame) (w:World),fr.mode=.run->stepG P main (G fr cs) w=stepG.exec P main true fr cs none w:=λP main fr cs w h=>by
  simp_all[stepG,G]
 have e2:∀(P:Program) (main:Bool) (fr:Frame) (cs:List Frame) (w:World),fr.mode≠.run->stepG P main (G fr cs) w=unwind P main fr cs none w:=λP main fr cs w h=>by
  simp_all[stepG,G,absurd]
 by_cases hm:fr.mode=.run
 ·grind [renF,renM,Iz]
 ·have hm':(renF X.ρ fr).mode≠.run:=by
   obtain⟨fn,tmps,todo,defers,mode,kind,ro⟩:=fr;cases mode<;>first|exact absurd rfl hm|simp[renF,renM]
  rw[e2 _ _ _ _ _ hm,e2 _ _ _ _ _ hm'];exact D6 ok h hm hend hw hW ha
end
end
section
def grow(O:Nat->Prop)(w w':World):Nat->Prop:=λb=>O b\/(w.heap.size<=b/\b<w'.heap.size)
structure Rely (K O:Nat->Prop) (w w1:World):Prop where
 sz:w.heap.size<=w1.heap.size
 tape:w1.tape=w.tape
 os:(w1.os,w1.output)=(w.os,w.output)
 keep:∀b,b<w.heap.size->(O b\/K b)->w1.heap[b]?=w.heap[b]?
def EvC(K O:Nat->Prop)(e:Event):Prop:=
 match e.loc with
 |.cell a=>O a.block\/(e.write=false/\K a.block)
 |.obj r=>O r
 |.mark m=>m=.noRoom
 |.output=>True
 |_=>False
structure Guar (K O:Nat->Prop) (w w':World) (es:Array Event):Prop where
 sz:w.heap.size<=w'.heap.size
 dr:w.drawn<=w'.drawn
 tape:w'.tape=w.tape
 os:(w'.os,w'.output)=(w.os,w.output)
 keep:∀b,b<w.heap.size->¬O b->w'.heap[b]?=w.heap[b]?
 evs:∀e∈es,EvC K (grow O w w') e
def Rely.refl(K O:Nat->Prop)(w:World):Rely K O w w:=⟨Z4A _,rfl,rfl,λ_ _ _=>rfl⟩
theorem Rely.trans{K O:Nat->Prop}{a b c:World}(h:Rely K O a b)(k:Rely K O b c):Rely K O a c:=
 ⟨Z4Z h.sz k.sz,k.tape.trans h.tape,k.os.trans h.os,λx hx ho=>(k.keep x (Z4F hx h.sz) ho).trans (h.keep x hx ho)⟩
def psum(a:Nat->Nat):Nat->Nat
 |0=>0
 |i+1=>psum a i+a i
def NW(a:Nat->Nat){i j:Nat}(h:i<=j):psum a i<=psum a j:=by
 induction h with
 |refl=>omega
 |step _ ih=>exact Z4Z ih (Nat.le_add_right _ _)
theorem Ig(a:Nat->Nat){i i' j j':Nat}(h:j<a i)(h':j'<a i')(e:psum a i+j=psum a i'+j'):i=i'/\j=j':=by
 have key:∀ {x x' y y':Nat},y<a x->x<x'->psum a x+y<psum a x'+y':=λ{x x' y y'} hy hx=>by
  have:=NW a (show x+1<=x' from hx)
  grind [psum]
 obtain h1|rfl|h1:=Z84 i i'
 ·have:=key (y':=j') h h1;omega
 ·omega
 ·have:=key (y':=j) h' h1;omega
def qT{α:Type}(a:Nat->Nat)(F:Nat->Nat->α)(d:α):∃f:Nat->α,∀i j,j<a i->f (psum a i+j)=F i j:=by
 classical
 refine⟨λm=>if h:∃p:Nat×Nat,p.2<a p.1/\m=psum a p.1+p.2 then F h.choose.1 h.choose.2 else d,λi j hj=> ?_⟩;have hex:∃p:Nat×Nat,p.2<a p.1/\psum a i+j=psum a p.1+p.2:=⟨(i,j),hj,rfl⟩;dsimp only;rw[dif_pos hex]
 grind [Ig]
def idB(n:Nat)(ρ:Nat->Nat):Prop:=∀b,b<n->ρ b=b
def FixV(n:Nat)(v:Value):Prop:=∀ρ,idB n ρ->ren ρ v=v
def FixO(n:Nat)(o:Obj):Prop:=∀ρ,idB n ρ->renO ρ o=o
def FixF(n:Nat)(f:Frame):Prop:=∀ρ,idB n ρ->renF ρ f=f
def Cx.at(X:Cx)(ρ:Nat->Nat):Cx:= {X with ρ}
open Classical in
noncomputable def Cx.maskO (X:Cx) (b:Nat) (o:Option Obj):Obj:=
 match o with
 |some o=>if X.O b then(if X.okO o/\(∀c e fr,o=.cells c e fr->fr=(0,0))then o else hid)
  else if X.G b then(match o with|.cells c e _=>.cells c e (0,c.size)|_=>hid)else hid
 |none=>hid
noncomputable def Cx.mask (X:Cx) (w:World) (t:Nat->Question->Nat):World:=
 {w with heap:=(Array.range X.n0).map λb=>X.maskO b w.heap[b]?,tape:=t,drawn:=0}
def LJ(X:Cx)(w:World)(t:Nat->Question->Nat)(b:Nat):(X.mask w t).heap[b]?=if b<X.n0 then some (X.maskO b w.heap[b]?)else none:=by
 simp_all[Cx.mask,Z50,Array.getElem?_range]
def Ny(X:Cx){w:World}(t:Nat->Question->Nat){ρ:Nat->Nat}(hρ:idB X.n0 ρ)(hf:∀b o,w.heap[b]?=some o->(X.O b\/X.G b)->FixO X.n0 o):(X.at ρ).WR (X.mask w t) w:=by
 have hsz:(X.mask w t).heap.size=X.n0:=by simp[Cx.mask]
 refine⟨rfl,by rw[hsz];exact Z4A _,hρ,λb b' _ _ hb hb' e=> ?_,λb o hb=> ?_⟩
 ·rw[hsz]at hb hb';have h1:ρ b=b:=hρ b hb;have h2:ρ b'=b':=hρ b' hb';have e:ρ b=ρ b':=e;omega
 ·rw[LJ]at hb;split at hb
  ·rename_i hlt;have hb:=(Z6c hb).symm;have e1:(X.at ρ).ρ b=b:=hρ b hlt;rw[e1];cases ho:w.heap[b]? with
   |none=>rw[ho]at hb;exact .inl hb
   |some o0=>
    rw[ho]at hb;unfold Cx.maskO at hb;dsimp only at hb;by_cases hO:X.O b
    ·rw[if_pos hO]at hb;split at hb
     ·rename_i hok;subst hb;refine .inr (.inr ⟨.inr hO,hok.1,?_,hok.2⟩);exact Z5J some (hf b _ ho (.inl hO) ρ hρ).symm
     ·exact .inl hb
    ·rw[if_neg hO]at hb
     have hno:¬(X.at ρ).Own b:=λh=>by
      obtain h|h:=h
      ·exact absurd hlt (Z8x.2 h)
      ·exact hO h
     by_cases hG:X.G b
     ·rw[if_pos hG]at hb;cases o0<;>first|exact .inl hb|skip
      rename_i c e fr;dsimp only at hb;refine .inr (.inl ⟨hno,c,e,(0,c.size),fr,hb,λi hi=>⟨Z5H _,hi⟩,hG,?_⟩);have:=hf b _ ho (.inr hG) ρ hρ;simp only[renO]at this;exact Z5J some this.symm
     ·rw[if_neg hG]at hb;exact .inl hb
  ·cases hb
def Al{X:Cx}{O:Nat->Prop}{wl w w1:World}(h:X.WR wl w)(hr:Rely X.G O w w1)(ho:∀b,X.Own b->b<wl.heap.size->O (X.ρ b)):X.WR wl w1:=by
 refine⟨(Z5J Prod.fst hr.os).trans h.os,h.nl,h.low,h.inj,λb o hb=> ?_⟩;have hlt:=(Z4z.1 hb).1;obtain e|⟨hn,c,e,fr,fr',h1,h2,h3,h4⟩|⟨h1,h2,h3,h4⟩:=h.blk b o hb
 ·exact .inl e
 ·have hb0:b<X.n0:=Nat.lt_of_not_le λh=>hn (.inl h);have hs:=(Z4z.1 h4).1;exact .inr (.inl ⟨hn,c,e,fr,fr',h1,h2,h3,by rw[hr.keep _ hs (.inr (by rw[h.low b hb0];exact h3))];exact h4⟩)
 ·have hs:=(Z4z.1 h3).1;exact .inr (.inr ⟨h1,h2,by rw[hr.keep _ hs (.inl (ho b h1 hlt))];exact h3,h4⟩)
def capF(Q:Program):Frame:= {fn:=Q.funcs.size,tmps:=#[],todo:=[.call {target:=.nil,args:=#[]} false "fmt's door" #[]],defers:=[],mode:=.run,kind:=.normal}
def G0:Extern.allNextRows.lookup "fmt's door" =none:=by kernel_rfl
def je:("fmt's door").startsWith "fmt's door" =true:=by kernel_rfl
def jb(Q:Program)(ch:List PanicEntry):((capF Q).raise ch).catches Q=true:=by
 simp_all[Frame.catches,Frame.raise,capF,Z6O,Z4A,je]
def IL{p:Program}{main:Bool}{fr:Frame}{cs:List Frame}{w:World}{ch:List PanicEntry}(hd:fr.defers=[])(hm:fr.mode=.panicking ch)(hc:fr.catches p=true):∃o,unwind p main fr cs none w=.ended o w:=by
 unfold unwind;simp only[hd,hm,hc,Z5b];exact⟨_,rfl⟩
def Rr(P:Program)(main:Bool)(fr:Frame)(cs:List Frame)(w:World)(h:fr.mode≠.run):stepG P main (G fr cs) w=unwind P main fr cs none w:=by
 simp_all[stepG,G,absurd]
def DR(Q:Program)(ch:List PanicEntry)(w:World):∃o w',step Q (lone ((capF Q).raise ch) [] w)=.ended o w':=by
 obtain⟨o,h⟩:=IL (p:=Q) (main:=true) (fr:=(capF Q).raise ch) (cs:=[]) (w:=w) rfl rfl (jb Q ch);refine⟨o,w,Z8n ?_⟩;have:=Rr Q true ((capF Q).raise ch) [] w (by simp[capF,Frame.raise]);simp_all[G]
def C8(Q:Program)(v:Value)(w:World):∃o w',step Q (lone ((capF Q).finish v) [] w)=.ended o w':=by
 refine⟨_,_,Z8n (o:=.stuck ("no extern row " ++ "fmt's door") (((capF Q).finish v).pos Q)) (w':=w) ?_⟩;simp_all[Extern.next,G0,stepG,stepG.exec,Frame.finish,capF]
def Fi{Q:Program}{c:Frame}{w:World}(h:∃o w',step Q (lone c [] w)=.ended o w')(k:Nat)(fr:Frame)(cs:List Frame)(c0:Frame)(w':World):runN Q k (lone c [] w)≠.next (lone fr (cs++[c0]) w'):=by
 obtain⟨o,w2,e⟩:=h;intro hk;cases k with
 |zero=>
  simp_all[runN,lone,Z88,Z8z,Z8q,Goroutine.mk.injEq]
 |succ k=>
  simp_all[runN]
end
def seqN{S:Type}(N:S->S)(s0:S):Nat->S
 |0=>s0
 |i+1=>N (seqN N s0 i)
def Hw{a b:Frame}{aq_ bs:List Frame}{w w':World}(h:lone a aq_ w=lone b bs w'):a=b/\aq_=bs/\w=w':=by
 simp only[lone,Z88,Z8z,Z8q,Goroutine.mk.injEq]at h;exact⟨h.2.1.1.1,h.2.1.1.2.1,h.1⟩
def Nf{X:Cx}{O:Nat->Prop}{wl w wl' w':World}{es:Array Event}(af:X.Aft wl w wl' w' #[] es)(hw:X.WR wl w)(ho:∀b,X.Own b->b<wl.heap.size->O (X.ρ b)):Guar X.G O w w' es:=by
 have q:=af.sz;have hsz:w.heap.size<=w'.heap.size:=by have:=af.szl;omega
 have own':∀b,X.Own b->b<wl'.heap.size->grow O w w' (X.ρ b):=λb hb hlt=>by
  by_cases h:b<wl.heap.size
  ·exact .inl (ho b hb h)
  ·exact .inr (af.new b Z0 hlt)
 refine⟨hsz,?_,af.tc,af.oc,λb hb hO=> ?_,λe he=> ?_⟩
 ·have:=af.dr;have:=af.drl;omega
 ·exact af.keep b hb λx hx hxl e=>hO (by rw[e];exact ho x hx hxl)
 ·obtain h|h:=af.evs e he
  ·simp at h
  ·unfold Cx.EvOk at h;unfold EvC;split at h
   ·rename_i a hl
    try rw[hl]
    obtain⟨b,h1,h2,h3⟩:=h
    try dsimp only
    rw[h2];by_cases hb:X.Own b
    ·exact .inl (own' b hb h1)
    ·obtain⟨h4,h5⟩:=h3 hb;refine .inr ⟨h4,?_⟩;rw[af.wr.low b (Nat.lt_of_not_le λh=>hb (.inl h))];exact h5
   ·rename_i r hl
    try rw[hl]
    obtain⟨b,h1,h2,h3⟩:=h
    try dsimp only
    rw[h3];exact own' b h1 h2
   ·rename_i m hl
    try rw[hl]
    exact h
   ·rename_i hl
    try rw[hl]
    trivial
   ·exact h.elim
def Ut{Q:Program}{fr fr':Frame}{cs cs':List Frame}{w w':World}{es:Array Event}(h:stepG Q true (G fr cs) w=.go (G fr' cs') w' es):step Q (lone fr cs w)=.next (lone fr' cs' w'):=
 Z7Q (by unfold G at h;rw[h];rfl)
def Vp{Q:Program}{fr:Frame}{cs:List Frame}{w w':World}{o:Outcome}{es:Array Event}(h:stepG Q true (G fr cs) w=.ended o w' es):step Q (lone fr cs w)=.ended o w':=
 Z8n (by unfold G at h;rw[h];rfl)
def Hb{X:Cx}{fr:Frame}(h:X.OkF fr)(hk:fr.kind=.normal)(hm:fr.mode=.returning)(hd:fr.defers=[])(c0:Frame)(w:World):
  (∃v w',step X.Q (lone fr [c0] w)=.next (lone (c0.finish v) [] w'))\/∃o w',step X.Q (lone fr [c0] w)=.ended o w':=by
 have e:=Rr X.Q true fr [c0] w (by rw[hm];simp);obtain⟨fn,_,hf,_⟩|⟨hf,_⟩:=i4 h;rotate_left
 ·rw[Ay hd hm hf,Uj hk]at e;exact .inl ⟨_,w,Ut e⟩
 rw[GA hd hm hf]at e;cases hr:((results fn fr.tmps).runT X.Q w #[]).1 with
 |ok v w'=>
  rw[hr]at e;dsimp only at e;rw[Uj hk]at e;exact .inl ⟨v,w',Ut e⟩
 |halt x w'=>
  rw[hr]at e;cases x<;>exact .inr ⟨_,_,Vp e⟩
theorem VD{Q:Program}{m:Machine}{o:Outcome}{w:World}(h:step Q m=.ended o w){k:Nat}(hk:0<k)(m':Machine):runN Q k m≠.next m':=by
 cases k with
 |zero=>omega
 |succ k=>simp_all[runN]
def zB{Q:Program}{g:Goroutine}{w:World}(h:g.status=.blocked):∃o w',step Q {world:=w,gs:=#[g],rest:= {timers:=#[],alone:=none,slice:=none}}=.ended o w':=by
 unfold step stepT;simp[move,ask,askOn,runnable_eq,due,ahead,Goroutine.canRun,Z6D,choose,pure,Sem.run,Question.forced,h];cases endWith w 2 (bytes "fatal error: all goroutines are asleep - deadlock!\n") (Outcome.fatal "all goroutines are asleep - deadlock!")<;>exact⟨_,_,rfl⟩
theorem zK{Q:Program}{fr:Frame}{cs:List Frame}{w w':World}{g2:Goroutine}{c:CommCase}{sh:CommShape}{es:Array Event}(h:stepG Q true (G fr cs) w=.comm g2 #[c] true sh w' es)
  (hc:∀(r:Nat) cp b cl s rc tm,w'.heap[r]? ≠some (Obj.chan cp b cl s rc tm)) {k:Nat} (hk:0<k) (fr':Frame) (cs':List Frame) (wl':World):runN Q k (lone fr cs w)≠.next (lone fr' cs' wl'):=by
 have hst:(∃o w2,step Q (lone fr cs w)=.ended o w2)\/∃g3 w2,g3.status=.blocked/\step Q (lone fr cs w)=.next {world:=w2,gs:=#[g3],rest:= {timers:=#[],alone:=none,slice:=none}}:=by
  have e:step Q (lone fr cs w)=(communicate Q {timers:=#[],alone:=none,slice:=none} #[{(default:Goroutine)with status:=.finished}] 0 g2 #[c] true sh w').1:=by
   unfold G at h;rw[step,stepT,move_lone];simp[runT,lone,Array.swapAt!,Array.swapAt,h]
  rw[e];unfold communicate;dsimp only;split
  ·simp
  ·rename_i hill
   have hn:ways w' #[{(default:Goroutine)with status:=.finished}] c=[]:=by
    unfold ways;split
    ·simp_all
    ·rfl
   have hr:((#[c].zipIdx.toList.map λ(c,k)=>(k,c,ways w' #[{(default:Goroutine)with status:=.finished}] c)).filter λ(_,_,ws)=> !ws.isEmpty)=[]:=by
    simp[hn]
   rw[hr];simp only[Z8b,Z5b,waitingAt]
   have ht:timerAhead {timers:=#[],alone:=none,slice:=none} w'.os.mono #[c]=false:=by
    unfold timerAhead;rw[Array.any_eq_false];intro k hk;split<;>simp
   simp_all
 obtain⟨o,w2,e⟩|⟨g3,w2,hb,e⟩:=hst
 ·exact VD e hk _
 ·obtain⟨k,rfl⟩:∃j,k=j+1:=⟨k-1,Z0⟩;simp only[runN,e];cases k with
  |zero=>
   grind [runN,lone,Machine.mk.injEq,Array.mk.injEq,List.cons.injEq]
  |succ k=>
   obtain⟨o,w3,e⟩:=zB (Q:=Q) (w:=w2) hb
   grind [VD]
def qv{Q:Program}:∀(n:Nat) (m m':Machine),runN Q n m=.next m'->m.gs.size<=m'.gs.size
 |0,m,m',h=>by simp_all[runN,Z4A]
 |n+1,m,m',h=>by
  simp only[runN]at h;cases hs:step Q m with
  |ended o w=>simp_all
  |next m1=>
   rw[hs]at h;exact Z4Z (stepT_size Q m m1 true hs) (qv n m1 m' h)
theorem Db{Q:Program}{fr:Frame}{cs:List Frame}{w w':World}{g2 ch:Goroutine}{es:Array Event}(h:stepG Q true (G fr cs) w=.spawn g2 ch w' es)
  {k:Nat} (hk:0<k) (fr':Frame) (cs':List Frame) (wl':World):runN Q k (lone fr cs w)≠.next (lone fr' cs' wl'):=by
 have e:step Q (lone fr cs w)=.next {world:=w',gs:=#[g2,ch],rest:= {timers:=#[],alone:=none,slice:=none}}:=by
  unfold G at h;rw[step,stepT,move_lone];simp[runT,lone,Array.swapAt!,Array.swapAt,h]
 obtain⟨k,rfl⟩:∃j,k=j+1:=⟨k-1,Z0⟩;simp only[runN,e];intro h;have:=qv _ _ _ h
 grind [lone]
def K9{p:Program}{fr:Frame}{cs:List Frame}{s:Sem Next}{w w':World}{es:Array Event}{c:Array CommCase}{b:Bool}{sh:CommShape}(e:s.runT p w #[]=(.ok (.comm c b sh) w',es)):∃es',stepG.apply p true fr cs none s w=.comm (G fr cs) c b sh w' es':=by
 unfold stepG.apply Conc.G;simp only[Z5b,e,GStep.after];exact⟨_,rfl⟩
def SW(P:Program)(main:Bool)(fr:Frame)(cs:List Frame)(w:World)(h:fr.mode=.run):stepG P main (G fr cs) w=stepG.exec P main true fr cs none w:=by
 simp_all[stepG,G]
def ML{fr:Frame}(h:atSp fr=true):fr.mode=.run/\∃ops i rest k o,fr.todo=.inRegion ops (i::rest)::k/\ops[i]?=some o/\Region.wanted o (yielded ops fr.tmps)=true/\spOp o.op=true:=by
 obtain⟨fn,tmps,todo,defers,mode,kind,ro⟩:=fr;cases mode with
 |run=>
  cases todo with
  |nil=>cases h
  |cons i k=>
   cases i with
   |inRegion ops l=>
    cases l with
    |nil=>cases h
    |cons i rest=>
     simp only[atSp]at h
     grind
   |_=>cases h
 |_=>cases h
def Oe{X:Cx}{fr:Frame}{cs:List Frame}{w:World}(hf:X.OkF fr)(h:atSp fr=true)(hw:∀(r:Nat) cp b cl s rc tm,w.heap[r]? ≠some (Obj.chan cp b cl s rc tm))
  {k:Nat} (hk:0<k) (fr':Frame) (cs':List Frame) (wl':World):runN X.Q k (lone fr cs w)≠.next (lone fr' cs' wl'):=by
 obtain⟨hm,ops,i,rest,kk,o,ht,ho,hwt,hs⟩:=ML h;have hd:fr.roundOf.isSome=true->∀c,o.op≠.defer c:=λ_ c e=>by rw[e]at hs;cases hs
 have e:=SW X.Q true fr cs w hm;rw[Qs ht ho hwt hd]at e;obtain⟨dst,op,type,pos,after,guard⟩:=o
 have hops:okOp X.Q fr.roundOf.isSome op=true:=by
  have:=hf.todo _ (by rw[ht];exact Z58 ..);simp only[okI,Z6p]at this;exact this _ (Z69 ho)
 dsimp only at hs;cases op with
 |send ch v=>
  obtain⟨es,e1⟩:=K9 (p:=X.Q) (fr:=fr) (cs:=cs) (s:=execOp fr.eval ⟨dst,.send ch v,type,pos,after,guard⟩) (w:=w) (w':=w) (es:=#[]) rfl
  grind [zK]
 |recv t ch b=>
  have hr:(∃h es,(execOp fr.eval ⟨dst,.recv t ch b,type,pos,after,guard⟩).runT X.Q w #[]=(.halt h w,es)/\bad h)\/∃c es,(execOp fr.eval ⟨dst,.recv t ch b,type,pos,after,guard⟩).runT X.Q w #[]=(.ok (.comm #[c] true (.recv b)) w,es):=by
   have e0:execOp fr.eval ⟨dst,.recv t ch b,type,pos,after,guard⟩=(do
    let .chan _ elem<-underlying t|stuck "receive: channel type expected"
    pure (.comm #[{chan:=fr.eval ch,send:=none,zero:= <-zeroValue elem}] true (.recv b)):Sem Next):=rfl
   rw[e0]
   have hu:∀ {α:Type} (f:TypeDesc->Sem α) (es:Array Event),(underlying t>>=f).runT X.Q w es=match X.Q.underlying t with|some d=>(f d).runT X.Q w es|none=>(.halt (.stuck "no such type") w,es):=λf es=>by
    have e1:(underlying t).runT X.Q w es=match X.Q.underlying t with|some d=>(.ok d w,es)|none=>(.halt (.stuck "no such type") w,es):=by
     show(match X.Q.underlying t with|some d=>pure d|none=>stuck "no such type" :Sem TypeDesc).runT X.Q w es=_;cases X.Q.underlying t<;>rfl
    show(Sem.bind _ _).runT X.Q w es=_
    grind [Sem.runT_bind']
   rw[hu];cases X.Q.underlying t with
   |none=>exact .inl ⟨_,_,rfl,trivial⟩
   |some d=>
    cases d<;>first|exact .inl ⟨_,_,rfl,trivial⟩|skip
    rename_i elem
    have hz:∀ {α:Type} (f:Value->Sem α) (es:Array Event),(zeroValue elem>>=f).runT X.Q w es=match X.Q.info? elem with
     |some i=>(match i.zero with|some z=>(f z).runT X.Q w es|none=>(.halt (.unsupported (.resourceLimit "a value of more than 2^22 cells")) w,es))
     |none=>(.halt (.stuck "no such type") w,es):=λf es=>by
     have e1:(typeInfo elem).runT X.Q w es=match X.Q.info? elem with|some d=>(.ok d w,es)|none=>(.halt (.stuck "no such type") w,es):=by
      show(match X.Q.info? elem with|some d=>pure d|none=>stuck "no such type" :Sem TypeInfo).runT X.Q w es=_;cases X.Q.info? elem<;>rfl
     have e2:(zeroValue elem).runT X.Q w es=match X.Q.info? elem with
      |some i=>(match i.zero with|some z=>(.ok z w,es)|none=>(.halt (.unsupported (.resourceLimit "a value of more than 2^22 cells")) w,es))
      |none=>(.halt (.stuck "no such type") w,es):=by
      show(Sem.bind (typeInfo elem) _).runT X.Q w es=_;rw[Z6w,e1];cases X.Q.info? elem with
      |none=>rfl
      |some i=>dsimp only;cases i.zero<;>rfl
     show(Sem.bind _ _).runT X.Q w es=_
     grind [Sem.runT_bind']
    dsimp only;rw[hz];cases X.Q.info? elem with
    |none=>exact .inl ⟨_,_,rfl,trivial⟩
    |some i=>
     dsimp only;cases i.zero with
     |none=>exact .inl ⟨_,_,rfl,trivial⟩
     |some z=>simp
  obtain⟨h,es,e1,hb⟩|⟨c,es,e1⟩:=hr
  ·obtain⟨o,w2,es2,e2⟩:=Qf (fr:=fr) (cs:=cs) hb e1;rw[e2]at e;exact VD (Vp e) hk _
  ·obtain⟨es',e2⟩:=K9 (fr:=fr) (cs:=cs) e1
   grind [zK]
 |go c=>
  simp only[okOp,Z4x]at hops;obtain⟨callee,args,ats⟩:=c;cases callee<;>first|(cases hops.2;done)|skip
  rename_i f;cases f<;>first|(cases hops.2;done)|skip
  rename_i f
  have e1:∃g2 ch es,stepG.apply X.Q true fr cs none (execOp fr.eval ⟨dst,.go ⟨.value (.func f),args,ats⟩,type,pos,after,guard⟩) w=.spawn g2 ch w es:=by
   have e0:(execOp fr.eval ⟨dst,.go ⟨.value (.func f),args,ats⟩,type,pos,after,guard⟩).runT X.Q w #[]=(.ok (.spawn {target:=.fn (.func f) #[],args:=#[]++args.map fr.eval}) w, #[]):=rfl;unfold stepG.apply;simp only[Z5b,e0];simp only[Bool.and_false,Bool.false_and,Z4G,Z5h,GStep.after];exact⟨_,_,_,rfl⟩
  grind [Db]
 |_=>cases hs
inductive Ev where
 |recv (v:Value)
 |closed (z:Value)
 |send (v:Value)
def AtEv(P:Program)(c:Nat)(e:Ev)(fr:Frame):Prop:=
 ∃ops i rest k o,fr.mode=.run/\fr.todo=.inRegion ops (i::rest)::k/\ops[i]?=some o/\Region.wanted o (yielded ops fr.tmps)=true/\
  match e with
  |.recv _=>∃t ch d el inf z,o.op=.recv t ch true/\okV ch=true/\fr.eval ch=.chan (some c)/\P.underlying t=some (.chan d el)/\P.info? el=some inf/\inf.zero=some z
  |.closed z=>∃t ch d el inf,o.op=.recv t ch true/\okV ch=true/\fr.eval ch=.chan (some c)/\P.underlying t=some (.chan d el)/\P.info? el=some inf/\inf.zero=some z
  |.send v=>∃ch x,o.op=.send ch x/\okV ch=true/\okV x=true/\fr.eval ch=.chan (some c)/\fr.eval x=v
def Ev.val:Ev->Value
 |.recv v=>.tuple #[v,.bool true]
 |.closed z=>.tuple #[z,.bool false]
 |.send _=>undef
def aft(e:Ev)(fr:Frame):Frame:=fr.finish e.val
def GQ(n:Nat):Ev->Prop
 |.recv v|.closed v|.send v=>FixV n v
def N6{n:Nat}{e:Ev}(h:GQ n e):FixV n e.val:=by
 intro ρ hρ;cases e with
 |recv v=>simp only[Ev.val,Xy];simp[h ρ hρ]
 |closed v=>simp only[Ev.val,Xy];simp[h ρ hρ]
 |send v=>exact X8 ρ
def MK{P:Program}{c:Nat}{e:Ev}{fr:Frame}(h:AtEv P c e fr):atSp fr=true:=by
 obtain⟨ops,i,rest,k,o,hm,ht,ho,hw,he⟩:=h
 grind [spOp,atSp]
def H2{X:Cx}{ρ:Nat->Nat}{n c:Nat}{e:Ev}{fr:Frame}(h:AtEv X.Q c e fr)(hρ:idB n ρ)(hc:c<n)(he:GQ n e):AtEv X.P c e (renF ρ fr):=by
 obtain⟨ops,i,rest,k,o,hm,ht,ho,hw,h⟩:=h;have hy:yielded ops (renF ρ fr).tmps=yielded ops fr.tmps:=funext λj=>Tf ρ ops fr.tmps j;have hch:ren ρ (.chan (some c))=.chan (some c):=by simp[ren,hρ c hc]
 refine⟨ops,i,rest,k.map (renI ρ),o,by simp[renF,hm,renM],by simp[renF,ht,renI],ho,Z3L,?_⟩;cases e with
 |recv v=>
  obtain⟨t,ch,d,el,inf,z,h1,h2,h3,h4,h5,h6⟩:=h;exact⟨t,ch,d,el,inf,z,h1,h2,by simp_all[WW],by rw[X.P_under];exact h4,by rw[X.P_info];exact h5,h6⟩
 |closed v=>
  obtain⟨t,ch,d,el,inf,h1,h2,h3,h4,h5,h6⟩:=h;exact⟨t,ch,d,el,inf,h1,h2,by simp_all[WW],by rw[X.P_under];exact h4,by rw[X.P_info];exact h5,h6⟩
 |send v=>
  obtain⟨ch,x,h1,h2,h3,h4,h5⟩:=h;exact⟨ch,x,h1,h2,h3,by simp_all[WW],by rw[WW ρ fr x h3,h5];exact he ρ hρ⟩
inductive Play (P:Program) (main:Bool) (c:Nat) (K:Nat->Prop) (Stop:(Nat->Prop)->Goroutine->World->Prop):List Ev->(Nat->Prop)->Goroutine->World->Prop where
 |stop {O:Nat->Prop} {g:Goroutine} {w:World}:(∀w1,Rely K O w w1->Stop O g w1)->Play P main c K Stop [] O g w
 |ev {e:Ev} {es:List Ev} {O:Nat->Prop} {fr:Frame} {cs:List Frame} {w:World}:AtEv P c e fr->(∀w1,Rely K O w w1->Play P main c K Stop es O (G (aft e fr) cs) w1)->Play P main c K Stop (e::es) O (G fr cs) w
 |step {es:List Ev} {O:Nat->Prop} {fr:Frame} {cs:List Frame} {w:World}:(∀w1,Rely K O w w1->∃fr' cs' w' es',stepG P main (G fr cs) w1=.go (G fr' cs') w' es'/\Guar K O w1 w' es')->
   (∀w1 g' w' es',Rely K O w w1->stepG P main (G fr cs) w1=.go g' w' es'->Play P main c K Stop es (grow O w1 w') g' w')->Play P main c K Stop es O (G fr cs) w
def Play.rely{P:Program}{main:Bool}{c:Nat}{K:Nat->Prop}{Stop:(Nat->Prop)->Goroutine->World->Prop}{es:List Ev}{O:Nat->Prop}{g:Goroutine}{w w1:World}(h:Play P main c K Stop es O g w)(hr:Rely K O w w1):Play P main c K Stop es O g w1:=by
 cases h with
 |stop h=>exact .stop λw2 h2=>h w2 (hr.trans h2)
 |ev h1 h2=>exact .ev h1 λw2 h=>h2 w2 (hr.trans h)
 |step h1 h2=>exact .step (λw2 h=>h1 w2 (hr.trans h)) λw2 g' w' es h=>h2 w2 g' w' es (hr.trans h)
def Play.mono{P:Program}{main:Bool}{c:Nat}{K:Nat->Prop}{Stop Stop':(Nat->Prop)->Goroutine->World->Prop}{es:List Ev}{O:Nat->Prop}{g:Goroutine}{w:World}(h:Play P main c K Stop es O g w)(hs:∀O g w,Stop O g w->Stop' O g w):Play P main c K Stop' es O g w:=by
 induction h with
 |stop h=>exact .stop λw2 h2=>hs _ _ _ (h w2 h2)
 |ev h1 h2 ih=>exact .ev h1 λw2 h=>ih w2 h
 |step h1 h2 ih=>exact .step h1 λw2 g' w' es h k=>ih w2 g' w' es h k
def LS(Q:Program)(c:Nat)(Post:Frame->List Frame->World->Prop):List Ev->Frame->List Frame->World->Prop
 | [],fr,cs,wl=>∃n fr' cs' wl',runN Q n (lone fr (cs++[capF Q]) wl)=.next (lone fr' (cs'++[capF Q]) wl')/\Post fr' cs' wl'
 |e::es,fr,cs,wl=>∃n fr' cs' wl',runN Q n (lone fr (cs++[capF Q]) wl)=.next (lone fr' (cs'++[capF Q]) wl')/\AtEv Q c e fr'/\LS Q c Post es (aft e fr') cs' wl'
def I2{P:Program}{main:Bool}{c:Nat}{K:Nat->Prop}{Stop:(Nat->Prop)->Goroutine->World->Prop}{es:List Ev}{O:Nat->Prop}{fr:Frame}{cs:List Frame}{w:World}(h:¬Play P main c K Stop es O (G fr cs) w):
  ∃w1,Rely K O w w1/\((¬ ∃fr' cs' w' es',stepG P main (G fr cs) w1=.go (G fr' cs') w' es'/\Guar K O w1 w' es')\/∃g' w' es',stepG P main (G fr cs) w1=.go g' w' es'/\¬Play P main c K Stop es (grow O w1 w') g' w'):=by
 refine Z6v λhn=>h (.step (λw1 h1=> ?_) λw1 g' w' es' h1 h2=> ?_)
 ·simp_all
 simp_all
def jW{P:Program}{main:Bool}{c:Nat}{K:Nat->Prop}{Stop:(Nat->Prop)->Goroutine->World->Prop}{e:Ev}{es:List Ev}{O:Nat->Prop}{fr:Frame}{cs:List Frame}{w:World}(h:¬Play P main c K Stop (e::es) O (G fr cs) w)(he:AtEv P c e fr):
  ∃w1,Rely K O w w1/\¬Play P main c K Stop es O (G (aft e fr) cs) w1:=
 Z6v λhn=>h (.ev he λw1 h1=>Z6v λh2=>hn ⟨w1,h1,h2⟩)
structure Cx.Woven (X:Cx) (ds:List Frame) (wc:World) (fr:Frame) (cs:List Frame) (wl:World) (O:Nat->Prop) (fc:Frame) (cc:List Frame) (w:World):Prop where
 top:fc=renF X.ρ fr
 under:cc=cs.map (renF X.ρ)++ds
 st:X.St fr cs
 wr:X.WR wl w
 own:∀b,X.Own b->b<wl.heap.size->O (X.ρ b)
 new:∀b,X.n0<=b->b<wl.heap.size->wc.heap.size<=X.ρ b
 sz:wc.heap.size<=w.heap.size
 sub:∀b,O b->X.O b\/wc.heap.size<=b
def NF{X:Cx}{wl w:World}(h:X.WR wl w)(r cp:Nat)(b:Array Value)(cl:Bool)(s rc:Nat)(tm:Bool):wl.heap[r]? ≠some (Obj.chan cp b cl s rc tm):=λe=>by
 obtain h|h:=h.kind e
 ·cases h
 ·exact h.elim
def Om(X:Cx)(hok:∀ρ,(X.at ρ).Ok){c:Nat}{es:List Ev}{fr:Frame}{cs ds:List Frame}{main:Bool}{wc:World}(hes:∀e∈es,GQ X.n0 e/\c<X.n0)(hst:∀ρ,(X.at ρ).St fr cs)
  (hfix:∀f∈fr::cs,FixF X.n0 f) (hfw:∀b o,wc.heap[b]?=some o->(X.O b\/X.G b)->FixO X.n0 o) {Post:World->Frame->List Frame->World->Prop}
  (hl:∀t,LS X.Q c (Post (X.mask wc t)) es fr cs (X.mask wc t)):
  Play X.P main c X.G (λO g w=>∃ρ t fr' cs' wl' fc cc,g=G fc cc/\idB X.n0 ρ/\Post (X.mask wc t) fr' cs' wl'/\(X.at ρ).Woven ds wc fr' cs' wl' O fc cc w) es X.O (G fr (cs++ds)) wc:=by
 classical
 refine Z6v λhbad=> ?_;generalize hStop:(λO g w=>∃ρ t fr' cs' wl' fc cc,g=G fc cc/\idB X.n0 ρ/\Post (X.mask wc t) fr' cs' wl'/\(X.at ρ).Woven ds wc fr' cs' wl' O fc cc w)=Stop at hbad
 let S:=List Ev×(Nat->Prop)×Frame×List Frame×World
 let Bad:S->Prop:=λs=>¬Play X.P main c X.G Stop s.1 s.2.1 (G s.2.2.1 s.2.2.2.1) s.2.2.2.2
 let IsEv:S->Prop:=λs=>∃e es,s.1=e::es/\AtEv X.P c e s.2.2.1
 have hnext:∀s:S,∃(w1:World) (s':S),Bad s->Rely X.G s.2.1 s.2.2.2.2 w1/\((∃e es,s.1=e::es/\AtEv X.P c e s.2.2.1/\s'=(es,s.2.1,aft e s.2.2.1,s.2.2.2.1,w1)/\Bad s')\/
   (¬IsEv s/\((¬ ∃fr' cs' w' es',stepG X.P main (G s.2.2.1 s.2.2.2.1) w1=.go (G fr' cs') w' es'/\Guar X.G s.2.1 w1 w' es')\/
    ∃es',stepG X.P main (G s.2.2.1 s.2.2.2.1) w1=.go (G s'.2.2.1 s'.2.2.2.1) s'.2.2.2.2 es'/\s'.2.1=grow s.2.1 w1 s'.2.2.2.2/\s'.1=s.1/\Bad s'))):=λs=>by
  by_cases h:Bad s
  ·by_cases he:IsEv s
   ·obtain⟨e,es,h1,h2⟩:=he;have h':¬Play X.P main c X.G Stop (e::es) s.2.1 (G s.2.2.1 s.2.2.2.1) s.2.2.2.2:=by rw[<-h1];exact h
    obtain⟨w1,h3,h4⟩:=jW h' h2;exact⟨w1,(es,s.2.1,aft e s.2.2.1,s.2.2.2.1,w1),λ_=>⟨h3,.inl ⟨e,es,h1,h2,rfl,h4⟩⟩⟩
   ·obtain⟨w1,h1,h2⟩:=I2 h;by_cases hg:∃fr' cs' w' es',stepG X.P main (G s.2.2.1 s.2.2.2.1) w1=.go (G fr' cs') w' es'/\Guar X.G s.2.1 w1 w' es'
    ·obtain h2|⟨g',w',es',h2,h3⟩:=h2
     ·simp_all
     ·obtain⟨fr',cs',w2,es2,h4,h5⟩:=hg;rw[h4]at h2;injection h2 with q1 q2 q3;subst q1 q2;exact⟨w1,(s.1,grow s.2.1 w1 w2,fr',cs',w2),λ_=>⟨h1,.inr ⟨he,.inr ⟨es2,h4,rfl,rfl,h3⟩⟩⟩⟩
    grind
  simp_all
 obtain⟨W1,hW1⟩:=Z86 hnext;obtain⟨N,hN⟩:=Z86 hW1
 let s:Nat->S:=seqN N (es,X.O,fr,cs++ds,wc)
 let W:Nat->World:=λi=>if IsEv (s i)then W1 (s i)else wdR ((actS (s i).2.2.1).run X.P (W1 (s i)))
 let a:Nat->Nat:=λi=>(W i).heap.size- (W1 (s i)).heap.size
 let b:Nat->Nat:=λi=>(W i).drawn- (W1 (s i)).drawn
 obtain⟨f,hf⟩:=qT a (λi j=>(W1 (s i)).heap.size+j) 0;obtain⟨t,ht⟩:=qT b (λi j=>(W1 (s i)).tape ((W1 (s i)).drawn+j)) (λ_=>0)
 let ρ:Nat->Nat:=λx=>if x<X.n0 then x else f (x-X.n0)
 have hid:idB X.n0 ρ:=λx hx=>if_pos hx
 have hρ:∀i j,j<a i->ρ (X.n0+psum a i+j)=(W1 (s i)).heap.size+j:=λi j hj=>by
  show(if X.n0+psum a i+j<X.n0 then _ else _)=_;rw[if_neg Z0,show X.n0+psum a i+j-X.n0=psum a i+j from by omega]
  grind
 have hsz0:(X.mask wc t).heap.size=X.n0:=by simp[Cx.mask]
 let Inv:Nat->Frame->List Frame->World->Prop:=λi fr' cs' wl'=>Bad (s i)/\(X.at ρ).Woven ds wc fr' cs' wl' (s i).2.1 (s i).2.2.1 (s i).2.2.2.1 (s i).2.2.2.2/\wl'.heap.size=X.n0+psum a i/\wl'.drawn=psum b i/\wl'.tape=t
 have one:∀i n fr1 cs1 wl1 frn csn wln,Inv i fr1 cs1 wl1->runN X.Q (n+1) (lone fr1 (cs1++[capF X.Q]) wl1)=.next (lone frn (csn++[capF X.Q]) wln)->
   ∃fr2 cs2 wl2,Inv (i+1) fr2 cs2 wl2/\(s (i+1)).1=(s i).1/\runN X.Q n (lone fr2 (cs2++[capF X.Q]) wl2)=.next (lone frn (csn++[capF X.Q]) wln):=by
  rintro i n fr1 cs1 wl1 frn csn wln ⟨hb1,hv,hsz,hdr,htp⟩ hrest
  have hnsp:atSp fr1=false:=by
   cases h:atSp fr1 with
   |false=>rfl
   |true=>exact absurd hrest (Oe (X:=X.at ρ) hv.st.top h (NF hv.wr) (Z8E n) _ _ _)
  have hnev:¬IsEv (s i):=λ⟨e,es,h1,h2⟩=>by
   have:=MK h2;rw[hv.top,H3,hnsp]at this;cases this
  obtain⟨hrel,hcase⟩:=hN (s i) hb1;have hw1:(X.at ρ).WR wl1 (W1 (s i)):=Al hv.wr hrel hv.own;have hWi0:W i=wdR ((actS (s i).2.2.1).run X.P (W1 (s i))):=if_neg hnev;have hge:(W1 (s i)).heap.size<=(W i).heap.size/\(W1 (s i)).drawn<=(W i).drawn:=by rw[hWi0];exact KY X.P _ _
  have hagree:(X.at ρ).Agree wl1 (W1 (s i)) (W i):=by
   refine⟨λj hj=> ?_,λj hj=> ?_⟩
   ·rw[hdr,htp];exact ht i j (by show j< (W i).drawn- (W1 (s i)).drawn;omega)
   ·rw[hsz];exact hρ i j (by show j< (W i).heap.size- (W1 (s i)).heap.size;omega)
  have hWi:W i=wdR ((actS (renF (X.at ρ).ρ fr1)).run (X.at ρ).P (W1 (s i))):=by
   rw[hWi0,hv.top];rfl
  have hend:¬(cs1=[]/\fr1.mode=.returning/\fr1.defers=[]):=λ⟨h1,h2,h3⟩=>by
   subst h1;have hk:fr1.kind=.normal:=by have:=hv.st.bot;simp only[bot,Z4C]at this;exact this.1
   obtain⟨v,w',e⟩|⟨o,w',e⟩:=Hb hv.st.top hk h2 h3 (capF X.Q) wl1
   ·have:runN X.Q n (lone ((capF X.Q).finish v) [] w')=.next (lone frn (csn++[capF X.Q]) wln):=by
     simp only[runN]at hrest;rw[show step X.Q (lone fr1 ([]++[capF X.Q]) wl1)=_ from e]at hrest;exact hrest
    exact Fi (C8 X.Q v w') _ _ _ _ _ this
   ·exact VD e (Z8E n) _ hrest
  obtain hsim|⟨ch,h1,h2⟩:=IA (c0:=capF X.Q) (ds:=ds) (hok ρ) (main:=main) hv.st hnsp hend hw1 hWi hagree
  ·obtain⟨o,w',es',e⟩|⟨fr2,cs2,wl2,esl,es',e1,e2,hst2,af⟩:=hsim
   ·exact absurd hrest (VD (Vp e) (Z8E n) _)
   ·have hg:=Nf af hw1 hv.own;have e2':stepG X.P main (G (s i).2.2.1 (s i).2.2.2.1) (W1 (s i))=.go (G (renF ρ fr2) (cs2.map (renF ρ)++ds)) (W i) es':=by rw[hv.top,hv.under];exact e2
    obtain⟨e,es,h1,h2,_⟩|⟨_,hno|⟨es'',e3,e4,e5,e6⟩⟩:=hcase
    ·exact absurd ⟨e,es,h1,h2⟩ hnev
    ·exact absurd ⟨_,_,_,_,e2',hg⟩ hno
    ·rw[e2']at e3;injection e3 with e7 e8 e9;have q5:renF ρ fr2=(N (s i)).2.2.1:=Z5J Goroutine.frame e7;have q6:cs2.map (renF ρ)++ds=(N (s i)).2.2.2.1:=Z5J Goroutine.callers e7;have hs1:s (i+1)=N (s i):=rfl;have q1:=af.sz;have q2:=af.szl;have q3:=af.dr;have q4:=af.drl;refine⟨fr2,cs2,wl2,⟨by rw[hs1];exact e6,⟨by rw[hs1,<-q5];rfl,by rw[hs1,<-q6];rfl,hst2,by rw[hs1,<-e8];exact af.wr,?_,?_,?_,?_⟩,?_,?_,af.tl.trans htp⟩,by rw[hs1];exact e5,?_⟩
     ·intro x hx hlt;rw[hs1,e4,<-e8];by_cases h:x<wl1.heap.size
      ·exact .inl (hv.own x hx h)
      ·exact .inr (af.new x Z0 hlt)
     ·intro x hx hlt;by_cases h:x<wl1.heap.size
      ·exact hv.new x hx h
      ·have:=(af.new x Z0 hlt).1;have:=hv.sz;have:=hrel.sz;omega
     ·rw[hs1,<-e8];have:=hv.sz;have:=hrel.sz;omega
     ·intro x hx;rw[hs1,e4]at hx;obtain hx|hx:=hx
      ·exact hv.sub x hx
      ·have:=hv.sz;have:=hrel.sz;omega
     ·show wl2.heap.size=X.n0+(psum a i+((W i).heap.size- (W1 (s i)).heap.size));omega
     ·show wl2.drawn=psum b i+((W i).drawn- (W1 (s i)).drawn);omega
     ·simp only[runN]at hrest;rw[show step X.Q (lone fr1 (cs1++[capF X.Q]) wl1)=_ from Ut e1]at hrest;exact hrest
  ·subst h1;have e:=Ut h2
   have:runN X.Q n (lone ((capF X.Q).raise ch) [] wl1)=.next (lone frn (csn++[capF X.Q]) wln):=by
    simp only[runN]at hrest;rw[show step X.Q (lone fr1 ([]++[capF X.Q]) wl1)=_ from e]at hrest;exact hrest
   exact absurd this (Fi (DR X.Q ch wl1) _ _ _ _ _)
 have far:∀n i fr1 cs1 wl1 frn csn wln,Inv i fr1 cs1 wl1->runN X.Q n (lone fr1 (cs1++[capF X.Q]) wl1)=.next (lone frn (csn++[capF X.Q]) wln)->
   ∃i',Inv i' frn csn wln/\(s i').1=(s i).1:=by
  intro n
  induction n with
  |zero=>
   intro i fr1 cs1 wl1 frn csn wln hi hr;simp only[runN]at hr;injection hr with hr;obtain⟨rfl,h2,rfl⟩:=Hw hr;obtain rfl:=List.append_cancel_right h2;exact⟨i,hi,rfl⟩
  |succ n ih=>
   intro i fr1 cs1 wl1 frn csn wln hi hr;obtain⟨fr2,cs2,wl2,h1,h2,h3⟩:=one i n fr1 cs1 wl1 frn csn wln hi hr;obtain⟨i',h4,h5⟩:=ih (i+1) fr2 cs2 wl2 frn csn wln h1 h3;exact⟨i',h4,h5.trans h2⟩
 have all:∀es',(∀e∈es',GQ X.n0 e/\c<X.n0)->∀i fr1 cs1 wl1,(s i).1=es'->LS X.Q c (Post (X.mask wc t)) es' fr1 cs1 wl1->Inv i fr1 cs1 wl1->False:=by
  intro es'
  induction es' with
  |nil=>
   intro _ i fr1 cs1 wl1 hs hls hi;obtain⟨n,fr',cs',wl',hr,hp⟩:=hls;obtain⟨i',⟨hb,hv,_⟩,h2⟩:=far n i _ _ _ _ _ _ hi hr;refine hb ?_;rw[h2,hs];refine .stop λw1 h1=> ?_;rw[<-hStop];exact⟨ρ,t,fr',cs',wl',_,_,rfl,hid,hp,hv.top,hv.under,hv.st,Al hv.wr h1 hv.own,hv.own,hv.new,Z4Z hv.sz h1.sz,hv.sub⟩
  |cons e es' ih=>
   intro hfx i fr1 cs1 wl1 hs hls hi;obtain⟨n,fr',cs',wl',hr,hat,hrest⟩:=hls;obtain⟨i',⟨hb,hv,hsz,hdr,htp⟩,h2⟩:=far n i _ _ _ _ _ _ hi hr;obtain⟨hfe,hc⟩:=hfx e (Z58 ..)
   have hat':AtEv X.P c e (s i').2.2.1:=by
    rw[hv.top];exact H2 hat hid hc hfe
   have hev:IsEv (s i'):=⟨e,es',h2.trans hs,hat'⟩;obtain⟨hrel,hcase⟩:=hN (s i') hb;have hWi:W i'=W1 (s i'):=if_pos hev;have ha0:a i'=0:=by show(W i').heap.size- (W1 (s i')).heap.size=0;rw[hWi];omega
   have hb0:b i'=0:=by show(W i').drawn- (W1 (s i')).drawn=0;rw[hWi];omega
   obtain⟨e2,es2,h3,h4,h5,h6⟩|⟨h3,_⟩:=hcase
   ·rw[h2,hs]at h3;injection h3 with h7 h8;subst h7 h8;have hs1:s (i'+1)=N (s i'):=rfl
    have hfin:renF ρ (aft e fr')=aft e (renF ρ fr'):=by
     unfold aft;rw[<-WC ρ X.Q fr' e.val hv.st.top.todo,N6 hfe ρ hid]
    refine ih (λx hx=>hfx x (Z53 _ hx)) (i'+1) (aft e fr') cs' wl' (by rw[hs1,h5]) hrest ⟨by rw[hs1];exact h6,?_,?_,?_,htp⟩
    ·rw[hs1,h5];refine⟨?_,hv.under,hv.st.with (WB hv.st.top _) (Xi _ _) (YV _ _),Al hv.wr hrel hv.own,hv.own,hv.new,Z4Z hv.sz hrel.sz,hv.sub⟩;show aft e (s i').2.2.1=renF ρ (aft e fr');rw[hfin,hv.top];rfl
    ·show wl'.heap.size=X.n0+(psum a i'+a i');omega
    ·show wl'.drawn=psum b i'+b i';omega
   ·exact absurd hev h3
 refine all es hes 0 fr cs (X.mask wc t) rfl (hl t) ⟨hbad,⟨?_,?_,hst ρ,Ny X t hid hfw,λx hx hlt=> ?_,λx hx hlt=> ?_,Z4A _,λb hb=>.inl hb⟩,by rw[hsz0];rfl,rfl,rfl⟩
 ·exact(hfix fr (Z58 ..) ρ hid).symm
 ·have h2:cs.map (renF ρ)=cs:=by
   have:∀c∈cs,renF ρ c=c:=λc hc=>hfix c (Z53 _ hc) ρ hid;exact(Z6J this).trans (List.map_id' _)
  show cs++ds=cs.map (renF ρ)++ds;rw[h2]
 ·rw[hsz0]at hlt;obtain hx|hx:=hx
  ·exact absurd hlt (Z8x.2 hx)
  ·have e:(X.at ρ).ρ x=x:=hid x hlt;rw[e];exact hx
 ·rw[hsz0]at hlt;exact absurd hlt (Z8x.2 hx)
section
def blk:Loc->Option Nat
 |.cell a=>some a.block
 |.obj r=>some r
 |_=>none
def lowE(n:Nat)(op:MemOp):Prop:=∀x b,op.act.touch?=some x->blk x.loc=some b->b<n
def KM{l:Loc}(h:l.isMemory=true):∃b,blk l=some b:=by
 cases l<;>first|exact⟨_,rfl⟩|cases h
def EvC.marks{K O:Nat->Prop}{e:Event}(h:EvC K O e):∀m,e.loc=.mark m->Neutral m:=by
 intro m hm;unfold EvC at h;rw[hm]at h;exact h
structure TI (n:Nat) (OA OB KB:Nat->Prop) (sz:Nat) (t:Trace):Prop where
 clean:∀said,¬Race said t
 hears:∀i,Deaf t i=0
 low:∀op∈t,lowE sz op
 j1:∀(i:Nat) (op:MemOp) (x:Touch),t[i]?=some op->op.act.touch?=some x->x.loc.isMemory=true->Knows t 0 i\/(op.g=n/\∃b,blk x.loc=some b/\(OB b\/(x.write=false/\KB b)))
 j2:∀(i:Nat) (op:MemOp) (x:Touch),t[i]?=some op->op.act.touch?=some x->x.loc.isMemory=true->op.g=n\/Knows t n i\/((x.write=true->∃b,blk x.loc=some b/\OA b)/\∀b,blk x.loc=some b->¬OB b)
section
variable {n:Nat}{OA OB KB KA:Nat->Prop}{sz sz':Nat}{t:Trace}
def Hc{K O:Nat->Prop}{g:Nat}{fn:FuncId}{pos:String}{es:Array Event}(hes:∀e∈es,EvC K O e){op:MemOp}(h:op∈MemOp.ofEvents g fn pos es){x:Touch}(hx:op.act.touch?=some x)(hm:x.loc.isMemory=true):
  op.g=g/\∃b,blk x.loc=some b/\(O b\/(x.write=false/\K b)):=by
 rw[ofEvents_eq]at h;obtain⟨e,he,rfl⟩:=Z7c.1 h;refine⟨rfl,?_⟩;have hc:=hes e he;obtain⟨h1,h2⟩:=ofEvent_touch hc.marks hx;obtain⟨b,hb⟩:=KM hm;refine⟨b,hb,?_⟩;unfold EvC at hc;rw[h1]at hb hm;rw[h2];split at hc
 ·rename_i a ha;rw[ha]at hb;cases hb;exact hc
 ·rename_i r hr;rw[hr]at hb;cases hb
  grind
 ·rename_i m hm';rw[hm']at hb;cases hb
 ·rename_i ho;rw[ho]at hb;cases hb
 simp_all
def E8{K O:Nat->Prop}{g:Nat}{fn:FuncId}{pos:String}{es:Array Event}(hes:∀e∈es,EvC K O e)(hO:∀b,O b->b<sz)(hK:∀b,K b->b<sz):∀op∈MemOp.ofEvents g fn pos es,lowE sz op:=by
 intro op h x b hx hb;rw[ofEvents_eq]at h;obtain⟨e,he,rfl⟩:=Z7c.1 h;have hc:=hes e he;obtain⟨h1,h2⟩:=ofEvent_touch hc.marks hx;rw[h1]at hb;unfold EvC at hc;split at hc
 ·rename_i a ha;rw[ha]at hb;cases hb
  grind
 ·rename_i r hr;rw[hr]at hb;cases hb
  grind
 ·rename_i m hm';rw[hm']at hb;cases hb
 ·rename_i ho;rw[ho]at hb;cases hb
 simp_all
def jg{K O:Nat->Prop}{g:Nat}{fn:FuncId}{pos:String}{es:Array Event}(hes:∀e∈es,EvC K O e)(h:∀i,Deaf t i=0)(i:Nat):Deaf (t++MemOp.ofEvents g fn pos es) i=0:=by
 by_cases hi:g=i
 ·subst hi;rw[Deaf_own,h];obtain⟨l⟩:=es
  induction l with
  |nil=>rfl
  |cons e l ih=>
   have hm:=(hes e Z1).marks
   have h1:deafBehind 0 (e::l).toArray=deafBehind 0 l.toArray:=by
    simp only[deafBehind,List.foldl_toArray',Z6i];congr 1;obtain⟨loc,wr,sy⟩:=e;cases loc with
    |mark m=>
     have:=hm m rfl;cases m<;>first|rfl|cases this
    |_=>rfl
   simp_all
 ·rw[Deaf_other t hi _ (λop hop=>by rw[ofEvents_eq]at hop;grind)];exact h i
def TI.main{OA':Nat->Prop}(h:TI n OA OB KB sz t)(hn:n≠0)(hsub:∀b,OA b->OA' b)(hnew:∀b,OA' b->OA b\/sz<=b)(hsz:sz<=sz')(hO:∀b,OA' b->b<sz')(hKA:∀b,KA b->b<sz)
  (hab:∀b,OA' b->¬OB b) (hak:∀b,OA' b->¬KB b) (hkb:∀b,KA b->¬OB b) {fn:FuncId} {pos:String} {es:Array Event} (hes:∀e∈es,EvC KA OA' e):TI n OA' OB KB sz' (t++MemOp.ofEvents 0 fn pos es):=by
 have hu:∀op∈MemOp.ofEvents 0 fn pos es,op.g=0:=λop hop=>by rw[ofEvents_eq]at hop;grind
 refine⟨λsaid=>noRace_append (h.clean said) hu λi a ha op hop b hb hc=> ?_,jg hes h.hears,λop hop=> ?_,λi op x hi hx hm=> ?_,λi op x hi hx hm=> ?_⟩
 ·obtain⟨y,hy,hya⟩:=touch_of ha;obtain⟨he,hme,hw,_⟩:=hc;obtain hk|⟨hg,c,hc1,hc2⟩:=h.j1 i y a hy hya hme;rotate_left
  ·obtain⟨_,d,hd1,hd2⟩:=Hc hes hop hb Z3M
   grind
  ·exact hk
 ·obtain hop|hop:=Z60.1 hop
  ·exactλx b hx hb=>Z4F (h.low op hop x b hx hb) hsz
  ·exact E8 hes hO (λb hb=>Z4F (hKA b hb) hsz) op hop
 ·obtain⟨_,hi'⟩|⟨_,hiu⟩:=getElem?_append_cases hi
  ·exact(h.j1 i op x hi' hx hm).imp (Knows.app _) id
  grind [knows_own]
 ·obtain⟨_,hi'⟩|⟨_,hiu⟩:=getElem?_append_cases hi
  ·obtain h1|h1|⟨h1,h2⟩:=h.j2 i op x hi' hx hm
   ·omega
   ·exact .inr (.inl (h1.app _))
   grind
  ·obtain⟨_,b,hb1,hb2⟩:=Hc hes hiu hx hm
   grind
def TI.child{OB':Nat->Prop}(h:TI n OA OB KB sz t)(hsub:∀b,OB b->OB' b)(hnew:∀b,OB' b->OB b\/sz<=b)(hsz:sz<=sz')(hO:∀b,OB' b->b<sz')(hKB:∀b,KB b->b<sz)
  (hab:∀b,OA b->¬OB' b) (hak:∀b,OA b->¬KB b) {fn:FuncId} {pos:String} {es:Array Event} (hes:∀e∈es,EvC KB OB' e):TI n OA OB' KB sz' (t++MemOp.ofEvents n fn pos es):=by
 have hu:∀op∈MemOp.ofEvents n fn pos es,op.g=n:=λop hop=>by rw[ofEvents_eq]at hop;grind
 have hold:∀(i:Nat) (op:MemOp) (x:Touch) (b:Nat),t[i]?=some op->op.act.touch?=some x->blk x.loc=some b->¬OB b->¬OB' b:=λi op x b hi hx hb hno hyes=>by
  obtain h1|h1:=hnew b hyes
  ·grind
  ·have:=h.low op (Z69 hi) x b hx hb;omega
 refine⟨λsaid=>noRace_append (h.clean said) hu λi a ha op hop b hb hc=> ?_,jg hes h.hears,λop hop=> ?_,λi op x hi hx hm=> ?_,λi op x hi hx hm=> ?_⟩
 ·obtain⟨y,hy,hya⟩:=touch_of ha;obtain⟨he,hme,hw,_⟩:=hc;obtain hg|hk|⟨h1,h2⟩:=h.j2 i y a hy hya hme
  ·grind [knows_own]
  ·exact hk
  ·exfalso;obtain⟨_,d,hd1,hd2⟩:=Hc hes hop hb Z3M
   grind
 ·obtain hop|hop:=Z60.1 hop
  ·exactλx b hx hb=>Z4F (h.low op hop x b hx hb) hsz
  ·exact E8 hes hO (λb hb=>Z4F (hKB b hb) hsz) op hop
 ·obtain⟨_,hi'⟩|⟨_,hiu⟩:=getElem?_append_cases hi
  ·exact(h.j1 i op x hi' hx hm).imp (Knows.app _) λ⟨hg,b,h1,h2⟩=>⟨hg,b,h1,h2.imp (hsub b) id⟩
  ·exact .inr ⟨hu op hiu,(Hc hes hiu hx hm).2⟩
 ·obtain⟨_,hi'⟩|⟨_,hiu⟩:=getElem?_append_cases hi
  ·obtain h1|h1|⟨h1,h2⟩:=h.j2 i op x hi' hx hm
   ·omega
   ·exact .inr (.inl (h1.app _))
   grind
  simp_all
def TI.comm(h:TI n OA OB KB sz t)(hsz:sz<=sz')(u:Trace)(hu:∀op∈u,op.act.touch?=none/\op.act≠.mark .disable/\op.act≠.mark .enable):TI n OA OB KB sz' (t++u):=by
 refine⟨λsaid=> ?_,λi=> ?_,λop hop=> ?_,λi op x hi hx hm=> ?_,λi op x hi hx hm=> ?_⟩
 ·rintro⟨i,j,hij,⟨a,b,ha,hb,hc⟩,n1,n2⟩;obtain⟨x,hx,hxa⟩:=touch_of ha;obtain⟨y,hy,hyb⟩:=touch_of hb;obtain⟨hj,hy'⟩|⟨_,hyu⟩:=getElem?_append_cases hy
  ·obtain⟨hi,hx'⟩|⟨_,hxu⟩:=getElem?_append_cases hx
   ·exact h.clean said ⟨i,j,hij,⟨a,b,by simp_all[Trace.act?],by simp_all[Trace.act?],hc⟩,λe=>n1 (hb_app u e),λe=>n2 (hb_app u e)⟩
   omega
  simp_all
 ·obtain⟨l⟩:=u;rw[Deaf_append,h.hears]
  induction l with
  |nil=>rfl
  |cons y l ih=>
   simp_all[deafStep,absurd,Z6i]
 ·obtain hop|hop:=Z60.1 hop
  ·exactλx b hx hb=>Z4F (h.low op hop x b hx hb) hsz
  ·exactλx b hx _=>Z3M
 ·obtain⟨_,hi'⟩|⟨_,hiu⟩:=getElem?_append_cases hi
  ·exact(h.j1 i op x hi' hx hm).imp (Knows.app _) id
  simp_all
 ·obtain⟨_,hi'⟩|⟨_,hiu⟩:=getElem?_append_cases hi
  ·exact(h.j2 i op x hi' hx hm).imp id (Or.imp (Knows.app _) id)
  simp_all
end
end
end Vm
end
section
namespace Vm
open Go Go.Conc Go.ConcN
section
def Lvs(P:Program)(n:Nat)(gs:Array Goroutine)(q:Nat->Nat):Prop:=∀i g,0<i->i≠n->gs[i]?=some g->QuitsIn P (q i) g
def Win(P:Program)(Final:Array Goroutine->World->Trace->Prop)(gs:Array Goroutine)(w:World)(sl:Option (Nat×Nat))(t:Trace):Prop:=
 ∃N gs' w' sl' t',runNT P N (crowd gs w sl) t=(.next (crowd gs' w' sl'),t')/\Final gs' w' t'
section
variable {P:Program}{Final:Array Goroutine->World->Trace->Prop}{n:Nat}
def Win.now{gs:Array Goroutine}{w:World}{sl:Option (Nat×Nat)}{t:Trace}(h:Final gs w t):Win P Final gs w sl t:=⟨0,gs,w,sl,t,rfl,h⟩
def Win.step{gs gs1:Array Goroutine}{w w1:World}{sl sl1:Option (Nat×Nat)}{t:Trace}{ops:Array MemOp}(h:stepT P (crowd gs w sl)=(.next (crowd gs1 w1 sl1),ops))(k:Win P Final gs1 w1 sl1 (t++ops)):Win P Final gs w sl t:=by
 obtain⟨N,gs',w',sl',t',h1,h2⟩:=k;exact⟨N+1,gs',w',sl',t',by simp only[runNT,h];exact h1,h2⟩
theorem JH{g g' b:Goroutine}{w':World}{k:Nat}(hB:QuitsIn P k b):woken P g g' w' b=b:=woken_quitsD (QuitsD.of_quitsIn hB)
def Z0D{Wn:Array Goroutine->World->Option (Nat×Nat)->Trace->Prop}(hstep:∀ {gs gs1:Array Goroutine} {w w1:World} {sl sl1:Option (Nat×Nat)} {t:Trace} {ops:Array MemOp},stepT P (crowd gs w sl)=(.next (crowd gs1 w1 sl1),ops)->Wn gs1 w1 sl1 (t++ops)->Wn gs w sl t)
  {gs:Array Goroutine} {w:World} {sl:Option (Nat×Nat)} {t:Trace} {q:Nat->Nat} (hl:Lvs P n gs q)
  (haw:∀i g,(i=0\/i=n)->gs[i]?=some g->awake g/\∀g1 g2 d,woken P g1 g2 (w.at d) g=g)
  (hr:∃i g,(i=0\/i=n)/\gs[i]?=some g/\g.status=.running)
  (H:∀gs' d0 sl0 d sl' q' i g,stepT P (crowd gs' (w.at d0) sl0)=runT P (crowd gs' (w.at d) sl') i->gs'.size=gs.size->(∀j,(j=0\/j=n)->gs'[j]?=gs[j]?)->Lvs P n gs' q'->(i=0\/i=n)->gs'[i]?=some g->g.status=.running->Wn gs' (w.at d0) sl0 t):Wn gs w sl t:=by
 have key:∀M gs' d sl q,sumTo gs.size q<=M->gs'.size=gs.size->(∀j,(j=0\/j=n)->gs'[j]?=gs[j]?)->Lvs P n gs' q->Wn gs' (w.at d) sl t:=by
  intro M
  induction M with
  |zero=>
   intro gs' d sl q hM hsz hsame hq
   have hall:∀g∈gs',awake g:=λg hg=>by
    obtain⟨i,hi,rfl⟩:=Z8k.1 hg;by_cases h:i=0\/i=n
    ·exact(haw i _ h (by rw[<-hsame i h];exact Z4X hi)).1
    ·have:=hq i _ Z0 Z0 (Z4X hi);exactλt ht=>by obtain h|h:=this.status<;>rw[h]at ht<;>cases ht
   obtain⟨i0,g0,h1,h2,h3⟩:=hr;obtain⟨i,g,d',sl',hi,hg,hst⟩:=crowd_pick (P:=P) (w:=w.at d) (sl:=sl) hall ⟨i0,g0,by rw[hsame i0 h1];exact h2,h3⟩;by_cases h:i=0\/i=n
   ·exact H gs' d sl d' sl' q i g hst hsz hsame hq h hi hg
   ·have hqi:=hq i g Z0 Z0 hi;have hlt:i<gs.size:=by rw[<-hsz];exact(Z4z.1 hi).1
    have hq0:q i=0:=by
     have h2:sumTo gs.size (upd q i 0)+q i=sumTo gs.size q+0:=by simpa using sumTo_upd q 0 id hlt
     omega
    rw[hq0]at hqi;rw[show g.status=.finished from hqi]at hg;cases hg
  |succ M ih=>
   intro gs' d sl q hM hsz hsame hq
   have hall:∀g∈gs',awake g:=λg hg=>by
    obtain⟨i,hi,rfl⟩:=Z8k.1 hg;by_cases h:i=0\/i=n
    ·exact(haw i _ h (by rw[<-hsame i h];exact Z4X hi)).1
    ·have:=hq i _ Z0 Z0 (Z4X hi);exactλt ht=>by obtain h|h:=this.status<;>rw[h]at ht<;>cases ht
   obtain⟨i0,g0,h1,h2,h3⟩:=hr;obtain⟨i,g,d',sl',hi,hg,hst⟩:=crowd_pick (P:=P) (w:=w.at d) (sl:=sl) hall ⟨i0,g0,by rw[hsame i0 h1];exact h2,h3⟩;by_cases h:i=0\/i=n
   ·exact H gs' d sl d' sl' q i g hst hsz hsame hq h hi hg
   ·have hqi:=hq i g Z0 Z0 hi;have hlt:i<gs.size:=by rw[<-hsz];exact(Z4z.1 hi).1
    cases hk:q i with
    |zero=>
     rw[hk]at hqi;rw[show g.status=.finished from hqi]at hg;cases hg
    |succ k=>
     rw[hk]at hqi;obtain hf|⟨_,g',hstp,hq'⟩:=hqi
     ·rw[hf]at hg;cases hg
     have hi0:(i==0)=false:=Z3N;have hrunT:=runT_crowd_go (P:=P) (sl:=sl') (i:=i) hi (by rw[hi0];exact hstp (w.at d'))
     have hsum:sumTo gs.size (upd q i k)+(k+1)=sumTo gs.size q+k:=by
      have:=sumTo_upd q k id hlt;simpa[hk]using this
     have hop:MemOp.ofEvents i g.frame.fn g.frame.place #[]=#[]:=rfl;rw[hop]at hrunT;refine hstep (hst.trans hrunT) ?_;rw[Z5k];refine ih _ d' sl' (upd q i k) Z0 (by simp[hsz]) (λj hj=> ?_) λj x hj hjn hx=> ?_
     ·have hne:i≠j:=Z0;rw[Z5q hne,Z50,hsame j hj];cases hgj:gs[j]? with
      |none=>rfl
      |some y=>simp only[Z4K];rw[(haw j y hj hgj).2]
     ·by_cases hji:i=j
      ·subst hji;have hlt':i<gs'.size:=Z0;rw[Z6S (by simpa using hlt')]at hx;cases hx;rw[upd_same];exact hq'
      ·rw[Z5q hji,Z50]at hx;obtain⟨y,hy,rfl⟩:=Z4w.1 hx;have hqj:=hq j y hj hjn hy;rw[JH hqj,upd_ne q k (Z6K hji)];exact hqj
 have:=key (sumTo gs.size q) gs w.drawn sl q (Z4A _) rfl (λ_ _=>rfl) hl;exact this
def skip{gs:Array Goroutine}{w:World}{sl:Option (Nat×Nat)}{t:Trace}{q:Nat->Nat}(hl:Lvs P n gs q)
  (haw:∀i g,(i=0\/i=n)->gs[i]?=some g->awake g/\∀g1 g2 d,woken P g1 g2 (w.at d) g=g)
  (hr:∃i g,(i=0\/i=n)/\gs[i]?=some g/\g.status=.running)
  (H:∀gs' d sl' q' i g,gs'.size=gs.size->(∀j,(j=0\/j=n)->gs'[j]?=gs[j]?)->Lvs P n gs' q'->(i=0\/i=n)->gs'[i]?=some g->g.status=.running->
   ∃gs1 w1 sl1 ops,runT P (crowd gs' (w.at d) sl') i=(.next (crowd gs1 w1 sl1),ops)/\Win P Final gs1 w1 sl1 (t++ops)):Win P Final gs w sl t:=
 Z0D (Wn:=Win P Final) Win.step hl haw hr λgs' d0 sl0 d sl' q' i g hst h1 h2 h3 h4 h5 h6=>by
  obtain⟨gs1,w1,sl1,ops,e1,e2⟩:=H gs' d sl' q' i g h1 h2 h3 h4 h5 h6;exact Win.step (hst.trans e1) e2
end
end
section
structure Cfg (P:Program) (n c:Nat) (KA KB OA0:Nat->Prop) (w0:World) (OA OB:Nat->Prop) (gs:Array Goroutine) (w:World) (t:Trace) (q:Nat->Nat):Prop where
 n0:0<n
 lv:Lvs P n gs q
 ti:TI n OA (λb=>OB b\/b=c) KB w.heap.size t
 la:∀b,OA b->b<w.heap.size
 lb:∀b,OB b->b<w.heap.size
 ka:∀b,KA b->b<w0.heap.size
 kb:∀b,KB b->b<w0.heap.size
 sab:∀b,OA b->¬OB b
 sak:∀b,OA b->¬KB b
 ca:¬OA c
 cka:¬KA c
 ckb:¬KB c
 c0:c<w0.heap.size
 b0:w0.heap.size<=w.heap.size
 tape:w.tape=w0.tape
 os:(w.os,w.output)=(w0.os,w0.output)
 oa:∀b,OA b->OA0 b\/w0.heap.size<=b
 ob:∀b,OB b->w0.heap.size<=b
 fr:∀b,b<w0.heap.size->¬OA0 b->b≠c->w.heap[b]?=w0.heap[b]?
section
variable {P:Program}{n c:Nat}{KA KB OA0 OA OB:Nat->Prop}{w0 w:World}{gs:Array Goroutine}{t:Trace}{q:Nat->Nat}
def EvC.mono{K O O':Nat->Prop}{e:Event}(h:EvC K O e)(ho:∀b,O b->O' b):EvC K O' e:=by
 unfold EvC at*;split<;>simp only[*]at h
 ·exact h.imp (ho _) id
 ·exact ho _ h
 ·exact h
 ·trivial
def Cfg.skb(h:Cfg P n c KA KB OA0 w0 OA OB gs w t q)(b:Nat)(hb:KA b):¬OB b:=λho=>by
 have:=h.ka b hb;have:=h.ob b ho;omega
def Cfg.cb(h:Cfg P n c KA KB OA0 w0 OA OB gs w t q):¬OB c:=λho=>by
 have:=h.ob c ho;have:=h.c0;omega
theorem Cfg.at(h:Cfg P n c KA KB OA0 w0 OA OB gs w t q)(d:Nat){gs':Array Goroutine}{q':Nat->Nat}(hl:Lvs P n gs' q'):Cfg P n c KA KB OA0 w0 OA OB gs' (w.at d) t q':=
 ⟨h.n0,hl,h.ti,h.la,h.lb,h.ka,h.kb,h.sab,h.sak,h.ca,h.cka,h.ckb,h.c0,h.b0,h.tape,h.os,h.oa,h.ob,h.fr⟩
theorem Rely.at(K O:Nat->Prop)(w:World)(d:Nat):Rely K O w (w.at d):=⟨Z4A _,rfl,rfl,λ_ _ _=>rfl⟩
def Cfg.relyB(h:Cfg P n c KA KB OA0 w0 OA OB gs w t q){w':World}{es:Array Event}(hg:Guar KA OA w w' es):Rely KB OB w w':=
 ⟨hg.sz,hg.tape,hg.os,λb hb ho=>hg.keep b hb λha=>ho.elim (h.sab b ha) (h.sak b ha)⟩
def Cfg.relyA(h:Cfg P n c KA KB OA0 w0 OA OB gs w t q){w':World}{es:Array Event}(hg:Guar KB OB w w' es):Rely KA OA w w':=
 ⟨hg.sz,hg.tape,hg.os,λb hb ho=>hg.keep b hb λhB=>ho.elim (λha=>h.sab b ha hB) λhk=>h.skb b hk hB⟩
def cput(w:World)(c:Nat)(o:Obj):World:= {w with heap:=w.heap.setIfInBounds c o}
def Vz{K O:Nat->Prop}(w:World)(c:Nat)(o:Obj)(h1:¬O c)(h2:¬K c):Rely K O w (cput w c o):=
 ⟨by simp[cput],rfl,rfl,λb hb ho=>by
  have:c≠b:=λe=>by subst e;exact ho.elim h1 h2
  simp[cput,Z5I,this]⟩
def Lm{w:World}{c:Nat}{o:Obj}(h:c<w.heap.size):(cput w c o).heap[c]?=some o:=by simp[cput,Z5I,h]
def Cfg.chan(h:Cfg P n c KA KB OA0 w0 OA OB gs w t q)(o:Obj){gs':Array Goroutine}{q':Nat->Nat}(hl:Lvs P n gs' q')(u:Trace)(hu:∀op∈u,op.act.touch?=none/\op.act≠.mark .disable/\op.act≠.mark .enable):
  Cfg P n c KA KB OA0 w0 OA OB gs' (cput w c o) (t++u) q':=by
 have hs:(cput w c o).heap.size=w.heap.size:=by simp[cput]
 refine⟨h.n0,hl,by rw[hs];exact h.ti.comm (Z4A _) u hu,λb hb=>by rw[hs];exact h.la b hb,λb hb=>by rw[hs];exact h.lb b hb,h.ka,h.kb,h.sab,h.sak,h.ca,h.cka,h.ckb,h.c0,by rw[hs];exact h.b0,h.tape,h.os,h.oa,h.ob,λb hb hO hc=> ?_⟩;rw[<-h.fr b hb hO hc];simp[cput,Z5I,Z6K hc]
def Cfg.same(h:Cfg P n c KA KB OA0 w0 OA OB gs w t q){gs':Array Goroutine}{q':Nat->Nat}(hl:Lvs P n gs' q')(u:Trace)(hu:∀op∈u,op.act.touch?=none/\op.act≠.mark .disable/\op.act≠.mark .enable):
  Cfg P n c KA KB OA0 w0 OA OB gs' w (t++u) q':=
 ⟨h.n0,hl,h.ti.comm (Z4A _) u hu,h.la,h.lb,h.ka,h.kb,h.sab,h.sak,h.ca,h.cka,h.ckb,h.c0,h.b0,h.tape,h.os,h.oa,h.ob,h.fr⟩
def Cfg.peek(h:Cfg P n c KA KB OA0 w0 OA OB gs w t q)(fn:FuncId)(pos:String):Cfg P n c KA KB OA0 w0 OA OB gs w (t++MemOp.ofEvents n fn pos #[⟨.obj c,false,true⟩]) q:=by
 have hb0:=h.b0;have hc0:=h.c0;refine⟨h.n0,h.lv,h.ti.child (λb hb=>hb) (λb hb=>.inl hb) (Z4A _) (λb hb=>by obtain hb|hb:=hb;exact h.lb b hb;omega) (λb hb=>by have:=h.kb b hb;omega) (λb ha hb=>by obtain hb|hb:=hb;exact h.sab b ha hb;subst hb;exact h.ca ha) h.sak (λe he=> ?_),h.la,h.lb,h.ka,h.kb,h.sab,h.sak,h.ca,h.cka,h.ckb,h.c0,h.b0,h.tape,h.os,h.oa,h.ob,h.fr⟩;have he:e=⟨.obj c,false,true⟩:=by simpa using he
 subst he;exact .inr rfl
def Cfg.mainGo(h:Cfg P n c KA KB OA0 w0 OA OB gs w t q){w':World}{es:Array Event}(hg:Guar KA OA w w' es){gs':Array Goroutine}{q':Nat->Nat}(hl:Lvs P n gs' q')(fn:FuncId)(pos:String):
  Cfg P n c KA KB OA0 w0 (grow OA w w') OB gs' w' (t++MemOp.ofEvents 0 fn pos es) q':=by
 have hb0:=h.b0;have hsz:=hg.sz
 have hab:∀b,grow OA w w' b->¬OB b:=λb hb ho=>by
  obtain hb|hb:=hb
  ·exact h.sab b hb ho
  ·have:=h.lb b ho;omega
 have hak:∀b,grow OA w w' b->¬KB b:=λb hb ho=>by
  obtain hb|hb:=hb
  ·exact h.sak b hb ho
  ·have:=h.kb b ho;omega
 have hla:∀b,grow OA w w' b->b<w'.heap.size:=λb hb=>by
  obtain hb|hb:=hb
  ·have:=h.la b hb;omega
  omega
 refine⟨h.n0,hl,h.ti.main (KA:=KA) (by have:=h.n0;omega) (λb hb=>.inl hb) (λb hb=>hb.imp id (·.1)) hsz hla (λb hb=>by have:=h.ka b hb;omega) (λb hb hx=>hx.elim (hab b hb) λe=>by subst e;obtain hb|hb:=hb;exact h.ca hb;have:=h.c0;omega) hak (λb hb hx=>hx.elim (h.skb b hb) λe=>by subst e;exact h.cka hb) hg.evs,hla,λb hb=>by have:=h.lb b hb;omega,h.ka,h.kb,hab,hak,λhb=> ?_,h.cka,h.ckb,h.c0,Z0,hg.tape.trans h.tape,hg.os.trans h.os,λb hb=> ?_,h.ob,λb hb hO hc=> ?_⟩
 ·obtain hb|hb:=hb
  ·exact h.ca hb
  ·have:=h.c0;omega
 ·obtain hb|hb:=hb
  ·exact h.oa b hb
  omega
 ·rw[hg.keep b Z0 λha=>(h.oa b ha).elim hO Z0];exact h.fr b hb hO hc
def Cfg.childGo(h:Cfg P n c KA KB OA0 w0 OA OB gs w t q){w':World}{es:Array Event}(hg:Guar KB OB w w' es){gs':Array Goroutine}{q':Nat->Nat}(hl:Lvs P n gs' q')(fn:FuncId)(pos:String):
  Cfg P n c KA KB OA0 w0 OA (grow OB w w') gs' w' (t++MemOp.ofEvents n fn pos es) q':=by
 have hb0:=h.b0;have hsz:=hg.sz
 have hab:∀b,OA b->¬grow OB w w' b:=λb ha hb=>by
  obtain hb|hb:=hb
  ·exact h.sab b ha hb
  ·have:=h.la b ha;omega
 have hlb:∀b,grow OB w w' b->b<w'.heap.size:=λb hb=>by
  obtain hb|hb:=hb
  ·have:=h.lb b hb;omega
  omega
 refine⟨h.n0,hl,h.ti.child (λb hb=>hb.imp .inl id) (λb hb=>by obtain(hb|hb)|hb:=hb;exact .inl (.inl hb);exact .inr hb.1;omega) hsz (λb hb=>by obtain hb|hb:=hb;exact hlb b hb;subst hb;have:=h.c0;omega) (λb hb=>by have:=h.kb b hb;omega) (λb ha hb=>by obtain hb|hb:=hb;exact hab b ha hb;subst hb;exact h.ca ha) h.sak (λe he=>(hg.evs e he).mono λb hb=>.inl hb),λb hb=>by have:=h.la b hb;omega,hlb,h.ka,h.kb,hab,h.sak,h.ca,h.cka,h.ckb,h.c0,Z0,hg.tape.trans h.tape,hg.os.trans h.os,h.oa,λb hb=> ?_,λb hb hO hc=> ?_⟩
 ·obtain hb|hb:=hb
  ·exact h.ob b hb
  ·omega
 ·rw[hg.keep b Z0 λho=>by have:=h.ob b ho;omega];exact h.fr b hb hO hc
end
def XN(P:Program)(c:Nat)(O:Nat->Prop)(g:Goroutine)(w:World):Prop:=
 g.status=.running/\mayWake P g=true/\∃g₂ k,(∀s r tm,w.heap[c]?=some (.chan 0 #[] false s r tm)->stepG P false g w=.go g₂ (cput w c (.chan 0 #[] true s r tm)) #[⟨.obj c,false,true⟩,⟨.obj c,true,true⟩])/\QuitsIn P k g₂
inductive BSit (P:Program) (c:Nat) (KB:Nat->Prop):List Value->(Nat->Prop)->Goroutine->World->Prop where
 |run {vs:List Value} {O:Nat->Prop} {b:Goroutine} {w:World}:Play P false c KB (XN P c) (vs.map .send) O b w->BSit P c KB vs O b w
 |park {v:Value} {vs:List Value} {O:Nat->Prop} {fr:Frame} {cs:List Frame} {z:Value} {w:World}:Play P false c KB (XN P c) (vs.map .send) O (G (aft (.send v) fr) cs) w->BSit P c KB (v::vs) O (parked (G fr cs) #[scase c v z] .send) w
def BSit.rely{P:Program}{c:Nat}{KB:Nat->Prop}{vs:List Value}{O:Nat->Prop}{b:Goroutine}{w w1:World}(h:BSit P c KB vs O b w)(hr:Rely KB O w w1):BSit P c KB vs O b w1:=by
 cases h with
 |run h=>exact .run (h.rely hr)
 |park h=>exact .park (h.rely hr)
def Play.running{P:Program}{main:Bool}{c:Nat}{K:Nat->Prop}{Stop:(Nat->Prop)->Goroutine->World->Prop}(hst:∀O g w,Stop O g w->g.status=.running){es:List Ev}{O:Nat->Prop}{g:Goroutine}{w:World}(h:Play P main c K Stop es O g w):g.status=.running:=by
 cases h with
 |stop h=>exact hst _ _ _ (h w (.refl _ _ _))
 |ev=>rfl
 |step=>rfl
end
section
theorem Qg{p:Program}{fr:Frame}{cs:List Frame}{s:Sem Next}{w w':World}{c:Array CommCase}{b:Bool}{sh:CommShape}(e:s.runT p w #[]=(.ok (.comm c b sh) w', #[])):stepG.apply p true fr cs none s w=.comm (G fr cs) c b sh w' #[]:=by
 simp_all[stepG.apply,Conc.G,Z5b,GStep.after,seen_none]
theorem D0{P:Program}{t:TypeId}{d:TypeDesc}(h:P.underlying t=some d){α:Type}(f:TypeDesc->Sem α)(w:World)(es:Array Event):(underlying t>>=f).runT P w es=(f d).runT P w es:=by
 simp_all[underlying,runT,pure,stuck,Sem.bind,Z6w]
theorem G4{P:Program}{t:TypeId}{i:TypeInfo}{z:Value}(h:P.info? t=some i)(hz:i.zero=some z){α:Type}(f:Value->Sem α)(w:World)(es:Array Event):(zeroValue t>>=f).runT P w es=(f z).runT P w es:=by
 simp_all[typeInfo,runT,pure,stuck,zeroValue,Sem.bind,Z6w]
section
variable {P:Program}{main:Bool}{c:Nat}{fr:Frame}{cs:List Frame}{v z:Value}
theorem qm{ops:Array Oper}{i:Nat}{rest:List Nat}{k:List Item}{o:Oper}{t el:TypeId}{ch:Operand}{d:ChanDir}{inf:TypeInfo}(hm:fr.mode=.run)(ht:fr.todo=.inRegion ops (i::rest)::k)(ho:ops[i]?=some o)(hw:Region.wanted o (yielded ops fr.tmps)=true)
  (h1:o.op=.recv t ch true) (h2:fr.eval ch=.chan (some c)) (h3:P.underlying t=some (.chan d el)) (h4:P.info? el=some inf) (h5:inf.zero=some z) (w:World):stepG P main (G fr cs) w=.comm (G fr cs) #[rcase c z] true (.recv true) w #[]:=by
 rw[SW P main fr cs w hm,Qs ht ho hw (λ_ c e=>Z3M)];refine Qg ?_;obtain⟨dst,op,type,pos,after,guard⟩:=o;dsimp only at h1;subst h1
 have e0:execOp fr.eval ⟨dst,.recv t ch true,type,pos,after,guard⟩=(do
  let .chan _ elem<-underlying t|stuck "receive: channel type expected"
  pure (.comm #[{chan:=fr.eval ch,send:=none,zero:= <-zeroValue elem}] true (.recv true)):Sem Next):=rfl
 rw[e0,D0 h3];dsimp only;rw[G4 h4 h5,h2];rfl
theorem FR(h:AtEv P c (.recv v) fr):∃z,∀w,stepG P main (G fr cs) w=.comm (G fr cs) #[rcase c z] true (.recv true) w #[]:=by
 obtain⟨ops,i,rest,k,o,hm,ht,ho,hw,t,ch,d,el,inf,z,h1,_,h2,h3,h4,h5⟩:=h;exact⟨z,λw=>qm hm ht ho hw h1 h2 h3 h4 h5 w⟩
theorem Qr(h:AtEv P c (.closed z) fr)(w:World):stepG P main (G fr cs) w=.comm (G fr cs) #[rcase c z] true (.recv true) w #[]:=by
 obtain⟨ops,i,rest,k,o,hm,ht,ho,hw,t,ch,d,el,inf,h1,_,h2,h3,h4,h5⟩:=h
 grind [qm]
theorem Jr(h:AtEv P c (.send v) fr):∃z,∀w,stepG P main (G fr cs) w=.comm (G fr cs) #[scase c v z] true .send w #[]:=by
 obtain⟨ops,i,rest,k,o,hm,ht,ho,hw,ch,x,h1,_,_,h2,h3⟩:=h;refine⟨.tuple #[],λw=> ?_⟩;rw[SW P main fr cs w hm,Qs ht ho hw (λ_ c e=>Z3M)];refine Qg ?_;obtain⟨dst,op,type,pos,after,guard⟩:=o;dsimp only at h1;subst h1;subst h3;show(Result.ok (Next.comm #[{chan:=fr.eval ch,send:=some (fr.eval x),zero:=.tuple #[]}] true .send) w,(#[]:Array Event))=_;rw[h2];rfl
end
theorem Rl{P:Program}{k:Nat}{g:Goroutine}(h:QuitsIn P k g)(c:Nat)(b:Bool):offersAt g c b=[]:=offersAt_of_not_blocked (by obtain h|h:=h.status<;>rw[h]<;>simp) c b
section
variable {P:Program}{n c:Nat}{gs:Array Goroutine}{q:Nat->Nat}{w:World}{sl:Option (Nat×Nat)}{s r:Nat}{tm:Bool}{g:Goroutine}{z v z':Value}
theorem Va(h:Lvs P n gs q)(i:Nat)(hi:i=0\/i=n)(x:Goroutine):Lvs P n (gs.setIfInBounds i x) q:=λj y h1 h2 h3=>by
 have hne:i≠j:=Z0;rw[Z5q hne]at h3;exact h j y h1 h2 h3
theorem R9(h:Lvs P n gs q)(i:Nat)(hi:i=0\/i=n)(g g' x:Goroutine)(w':World):Lvs P n ((gs.map (woken P g g' w')).setIfInBounds i x) q:=λj y h1 h2 h3=>by
 have hne:i≠j:=Z0;rw[Z5q hne,Z50]at h3;obtain⟨y',hy,rfl⟩:=Z4w.1 h3;have:=h j y' h1 h2 hy
 grind [JH]
theorem Xz{i:Nat}{x y:Goroutine}(h:gs[i]?=some y):(gs.setIfInBounds i x)[i]?=some x:=Z6S (Z4z.1 h).1
theorem Ge{i j:Nat}{x:Goroutine}(h:i≠j):(gs.setIfInBounds i x)[j]?=gs[j]? :=Z5q h
theorem SD(hl:Lvs P n gs q)(i:Nat)(hi:i=0\/i=n)(hn:∀j x,(j=0\/j=n)->j≠i->gs[j]?=some x->x.status≠.blocked)(b:Bool):partners (gs.setIfInBounds i ph) c b=[]:=by
 refine partners_nil λj x hx=> ?_;obtain⟨_,rfl⟩|⟨hne,hx⟩:=getElem?_stand gs i j x hx
 ·rfl
 ·by_cases h:j=0\/j=n
  ·grind [offersAt_of_not_blocked]
  ·exact Rl (hl j x Z0 Z0 hx) _ _
theorem J4(hl:Lvs P n gs q)(i j:Nat)(hi:i=0\/i=n)(hj:j=0\/j=n)(hij:j≠i){x:Goroutine}(hx:gs[j]?=some x)(b:Bool)(h:∀k,(k=0\/k=n)->k=i\/k=j):partners (gs.setIfInBounds i ph) c b=(offersAt x c b).map λk=>(j,k):=by
 refine partners_one (stand_get hij hx) λk y hk hy=> ?_;obtain⟨_,rfl⟩|⟨hne,hy⟩:=getElem?_stand gs i k y hy
 ·rfl
 ·by_cases h':k=0\/k=n
  ·omega
  ·exact Rl (hl k y Z0 Z0 hy) _ _
variable {fr frb:Frame}{cs csb:List Frame}
theorem yE(hl:Lvs P n gs q)(h0:gs[0]?=some g)(hst:stepG P true g w=.comm (G fr cs) #[rcase c z] true (.recv true) w #[])(hc:w.heap[c]?=some (.chan 0 #[] false s r tm))(hn:∀x,n≠0->gs[n]?=some x->x.status≠.blocked):
  runT P (crowd gs w sl) 0=(.next (crowd (gs.setIfInBounds 0 (parked (G fr cs) #[rcase c z] (.recv true))) w sl), #[]):=by
 refine crowd_waits (g:=g) h0 hst λcc hcc=> ?_;obtain rfl:cc=rcase c z:=Z3M;exact ways_recv_none hc (SD hl 0 (.inl rfl) (λj x hj hne hx=>Z3M) true)
theorem Rb(hn0:n≠0)(hl:Lvs P n gs q)(hb:gs[n]?=some g)(hst:stepG P false g w=.comm (G frb csb) #[scase c v z] true .send w #[])(hc:w.heap[c]?=some (.chan 0 #[] false s r tm))(h0:∀x,gs[0]?=some x->x.status≠.blocked):
  runT P (crowd gs w sl) n=(.next (crowd (gs.setIfInBounds n (parked (G frb csb) #[scase c v z] .send)) w sl), #[]):=by
 refine crowd_waits (g:=g) hb (by rw[show(n==0)=false by simp_all];exact hst) λcc hcc=> ?_;obtain rfl:cc=scase c v z:=Z3M;exact ways_send_none hc Z1 (SD hl n (.inr rfl) (λj x hj hne hx=>Z3M) false)
theorem yF(hn0:n≠0)(hl:Lvs P n gs q)(hb:gs[n]?=some g)(hst:stepG P false g w=.comm (G frb csb) #[scase c v z] true .send w #[])(hc:w.heap[c]?=some (.chan 0 #[] false s r tm))
  (h0:gs[0]?=some (parked (G fr cs) #[rcase c z'] (.recv true))):
  ∃u:Array MemOp,(∀op∈u,op.act.touch?=none/\op.act≠.mark .disable/\op.act≠.mark .enable)/\
   runT P (crowd gs w sl) n=(.next (crowd ((gs.setIfInBounds 0 (G (aft (.recv v) fr) cs)).setIfInBounds n (G (aft (.send v) frb) csb)) (cput w c (.chan 0 #[] false (s+1) (r+1) tm)) sl),u):=by
 have hp:=J4 (c:=c) hl n 0 (.inr rfl) (.inl rfl) (Z6K hn0) h0 false (λk hk=>Z0);rw[offersAt_parked_recv,if_pos rfl]at hp;have:=crowd_send_meets (sl:=sl) (i:=n) (j:=0) hb (by rw[show(n==0)=false by simp_all];exact hst) hc (Z6K hn0) h0 hp;refine⟨_,?_,this⟩;intro op hop;simp[MemOp.ofEvents]at hop;obtain rfl|rfl|rfl|rfl:=hop<;>simp[MemAct.touch?]
theorem yD(hn0:n≠0)(hl:Lvs P n gs q)(h0:gs[0]?=some g)(hst:stepG P true g w=.comm (G fr cs) #[rcase c z] true (.recv true) w #[])(hc:w.heap[c]?=some (.chan 0 #[] false s r tm))
  (hb:gs[n]?=some (parked (G frb csb) #[scase c v z'] .send)):
  ∃u:Array MemOp,(∀op∈u,op.act.touch?=none/\op.act≠.mark .disable/\op.act≠.mark .enable)/\
   runT P (crowd gs w sl) 0=(.next (crowd ((gs.setIfInBounds n (G (aft (.send v) frb) csb)).setIfInBounds 0 (G (aft (.recv v) fr) cs)) (cput w c (.chan 0 #[] false (s+1) (r+1) tm)) sl),u):=by
 have hp:=J4 (c:=c) hl 0 n (.inl rfl) (.inr rfl) hn0 hb true (λk hk=>Z0);rw[offersAt_parked_send,if_pos rfl]at hp;have:=crowd_recv_meets (sl:=sl) (i:=0) (j:=n) h0 hst hc hn0 hb hp;refine⟨_,?_,this⟩;intro op hop;simp[MemOp.ofEvents]at hop;obtain rfl|rfl|rfl|rfl:=hop<;>simp[MemAct.touch?]
theorem LH(hl:Lvs P n gs q)(h0:gs[0]?=some g)(hst:stepG P true g w=.comm (G fr cs) #[rcase c z] true (.recv true) w #[])(hc:w.heap[c]?=some (.chan 0 #[] true s r tm))(hn:∀x,n≠0->gs[n]?=some x->x.status≠.blocked):
  ∃op:MemOp,op.g=0/\op.act=.recvClosed c/\runT P (crowd gs w sl) 0=(.next (crowd (gs.setIfInBounds 0 (G (aft (.closed z) fr) cs)) w sl), #[op]):=by
 have hp:=SD (c:=c) hl 0 (.inl rfl) (λj x hj hne hx=>Z3M) true;have:=crowd_recv_closed (sl:=sl) (i:=0) h0 hst hc hp;exact⟨_,rfl,rfl,this⟩
end
end
section
def ClosedAt(t:Trace)(n c:Nat):Prop:=∃pc op,t[pc]?=some op/\op.g=n/\op.act=.close c/\t.heard pc/\∀(i:Nat) (op':MemOp),t[i]?=some op'->op'.g=n->i<=pc
def ClosedAt.app{t:Trace}{n c:Nat}(h:ClosedAt t n c)(u:Trace)(hu:∀op∈u,op.g≠n):ClosedAt (t++u) n c:=by
 obtain⟨pc,op,h1,h2,h3,h4,h5⟩:=h;have hlt:=lt_size_of_getElem? h1;refine⟨pc,op,by rw[getElem?_append_old hlt];exact h1,h2,h3,(heard_old hlt).2 h4,λi op' hi hg=> ?_⟩;obtain⟨_,hi'⟩|⟨_,hiu⟩:=getElem?_append_cases hi
 ·exact h5 i op' hi' hg
 ·exact absurd hg (hu op' hiu)
def y7{t:Trace}{op:MemOp}(h:Deaf t op.g=0):(t++ #[op]).heard t.size:=⟨op.g,by simp[Trace.g?],by rw[deaf_old (Z4A _)];exact h⟩
def ClosedAt.new{t:Trace}{n c:Nat}{op:MemOp}(hg:op.g=n)(ha:op.act=.close c)(hd:Deaf t n=0):ClosedAt (t++ #[op]) n c:=by
 refine⟨t.size,op,Z1,hg,ha,y7 (by rw[hg];exact hd),λi op' hi _=> ?_⟩;have:=lt_size_of_getElem? hi;simp at this;omega
section
variable {P:Program}{n c:Nat}{KA KB OA0:Nat->Prop}{w0:World}{Final:Array Goroutine->World->Trace->Prop}
def XO(O:Nat->Prop)(g:Goroutine)(w:World)(h:XN P c O g w):g.status=.running:=h.1
def inner{OA:Nat->Prop}{a:Goroutine}{R:List Value->Prop}{Ra:World->Prop}(hRa:∀w w',Rely KA OA w w'->Ra w->Ra w')
  (haw:awake a/\∀(w:World) s r tm g1 g2,w.heap[c]?=some (.chan 0 #[] false s r tm)->woken P g1 g2 w a=a)
  (H0:a.status=.running->∀vs OB b gs w sl t q s r tm,Cfg P n c KA KB OA0 w0 OA OB gs w t q->gs.size=n+1->gs[0]?=some a->gs[n]?=some b->Ra w->w.heap[c]?=some (.chan 0 #[] false s r tm)->R vs->
   Play P false c KB (XN P c) (vs.map .send) OB b w->∃gs1 w1 sl1 ops,runT P (crowd gs w sl) 0=(.next (crowd gs1 w1 sl1),ops)/\Win P Final gs1 w1 sl1 (t++ops))
  (HC:∀OB b b2 gs w sl t q s r tm,Cfg P n c KA KB OA0 w0 OA OB gs w t q->Lvs P gs.size gs q->gs.size=n+1->mayWake P b=true->b2.status≠.blocked->b2.status≠.waiting->gs[0]?=some (woken P b b2 w a)->Ra w->w.heap[c]?=some (.chan 0 #[] true s r tm)->R []->
   ClosedAt t n c->Win P Final gs w sl t)
  (HV:∀v vs OB fr cs gs w sl t q s r tm,Cfg P n c KA KB OA0 w0 OA OB gs w t q->gs.size=n+1->gs[0]?=some a->gs[n]?=some (G fr cs)->Ra w->w.heap[c]?=some (.chan 0 #[] false s r tm)->R (v::vs)->
   AtEv P c (.send v) fr->(∀w1,Rely KB OB w w1->Play P false c KB (XN P c) (vs.map .send) OB (G (aft (.send v) fr) cs) w1)->∃gs1 w1 sl1 ops,runT P (crowd gs w sl) n=(.next (crowd gs1 w1 sl1),ops)/\Win P Final gs1 w1 sl1 (t++ops)):
  ∀vs OB b wB,Play P false c KB (XN P c) (vs.map .send) OB b wB->∀gs w sl t q s r tm,Cfg P n c KA KB OA0 w0 OA OB gs w t q->gs.size=n+1->gs[0]?=some a->gs[n]?=some b->Ra w->Rely KB OB wB w->
   w.heap[c]?=some (.chan 0 #[] false s r tm)->R vs->Win P Final gs w sl t:=by
 intro vs OB b wB hB;generalize he:vs.map Ev.send=es at hB
 have pick:∀ {vs OB b gs w sl t q s r tm},Cfg P n c KA KB OA0 w0 OA OB gs w t q->gs.size=n+1->gs[0]?=some a->gs[n]?=some b->Ra w->w.heap[c]?=some (.chan 0 #[] false s r tm)->R vs->Play P false c KB (XN P c) (vs.map .send) OB b w->
   (∀gs' d sl' q',Cfg P n c KA KB OA0 w0 OA OB gs' (w.at d) t q'->gs'.size=n+1->gs'[0]?=some a->gs'[n]?=some b->∃gs1 w1 sl1 ops,runT P (crowd gs' (w.at d) sl') n=(.next (crowd gs1 w1 sl1),ops)/\Win P Final gs1 w1 sl1 (t++ops))->Win P Final gs w sl t:=by
  intro vs OB b gs w sl t q s r tm hC hsz h0 hn hra hch hR hpl hstep;have hbr:b.status=.running:=hpl.running XO;refine skip hC.lv (λi g hi hg=> ?_) ⟨n,b,.inr rfl,hn,hbr⟩ λgs' d sl' q' i g hsz' hsame hl' hi hgi hrun=> ?_
  ·by_cases h:i=0
   ·subst h;rw[h0]at hg;cases hg;exact⟨haw.1,λg1 g2 d=>haw.2 (w.at d) s r tm g1 g2 hch⟩
   ·have hi:i=n:=hi.resolve_left h;subst hi;rw[hn]at hg;cases hg;exact⟨awake_of (.inl hbr),λg1 g2 d=>woken_run hbr⟩
  ·have hC':=hC.at d hl';have h0':gs'[0]?=some a:=by rw[hsame 0 (.inl rfl)];exact h0
   have hn':gs'[n]?=some b:=by rw[hsame n (.inr rfl)];exact hn
   have hsz2:gs'.size=n+1:=by rw[hsz',hsz]
   by_cases h:i=0
   ·subst h;rw[h0']at hgi;cases hgi;exact H0 hrun vs OB b gs' (w.at d) sl' t q' s r tm hC' hsz2 h0' hn' (hRa _ _ (Rely.at _ _ _ d) hra) hch hR (hpl.rely (Rely.at _ _ _ d))
   ·have hi:i=n:=hi.resolve_left h;subst hi;exact hstep gs' d sl' q' hC' hsz2 h0' hn'
 induction hB generalizing vs with
 | @stop O g wB h=>
   intro gs w sl t q s r tm hC hsz h0 hn hra hrb hch hR
   have hvs:vs=[]:=by cases vs with
    |nil=>rfl
    |cons=>cases he
   subst hvs;refine pick hC hsz h0 hn hra hch hR (.stop λw1 h1=>h w1 (hrb.trans h1)) λgs' d sl' q' hC' hsz' h0' hn'=> ?_;obtain⟨hrun,hwk,g₂,k,hgo,hq⟩:=h (w.at d) (hrb.trans (Rely.at _ _ _ d));have hn0:n≠0:=by have:=hC.n0;omega
   have hgo:=hgo s r tm hch;have hclt:c<w.heap.size:=(Z4z.1 hch).1;have hrunT:=runT_crowd_go (P:=P) (sl:=sl') (i:=n) hn' (by rw[show(n==0)=false by simpa using hn0];exact hgo);refine⟨_,_,_,_,hrunT,?_⟩
   have hops:MemOp.ofEvents n g.frame.fn g.frame.place #[⟨.obj c,false,true⟩,⟨.obj c,true,true⟩]=MemOp.ofEvents n g.frame.fn g.frame.place #[⟨.obj c,false,true⟩]++ #[{g:=n,fn:=g.frame.fn,pos:=g.frame.place,act:=.close c}]:=by
    rw[ofEvents_eq,ofEvents_eq];simp[MemAct.ofEvent]
   rw[hops,<-Array.append_assoc];replace hC':=hC'.peek g.frame.fn g.frame.place
   have hl1:Lvs P n ((gs'.map (woken P g g₂ (cput (w.at d) c (.chan 0 #[] true s r tm)))).setIfInBounds n g₂) (upd q' n k):=λj x h1 h2 h3=>by
    have:=R9 hC'.lv n (.inr rfl) g g₂ g₂ (cput (w.at d) c (.chan 0 #[] true s r tm)) j x h1 h2 h3;rw[upd_ne q' k h2];exact this
   refine HC O g g₂ _ (cput (w.at d) c (.chan 0 #[] true s r tm)) _ _ (upd q' n k) s r tm (hC'.chan _ hl1 _ (by simp[MemAct.touch?])) (λj x h1 h2 h3=> ?_) (by simpa using hsz') hwk ?_ ?_ ?_ (hRa _ _ ((Rely.at _ _ _ d).trans (Vz (w.at d) c _ hC.ca hC.cka)) hra) (Lm hclt) hR (ClosedAt.new rfl rfl (hC'.ti.hears n))
   ·by_cases hj:j=n
    ·subst hj;rw[Xz (y:=woken P g g₂ (cput (w.at d) c (.chan 0 #[] true s r tm)) g) (by rw[Z50,hn'];rfl)]at h3;cases h3;rw[upd_same];exact hq
    ·exact hl1 j x h1 hj h3
   ·obtain h|h:=hq.status<;>rw[h]<;>simp
   ·obtain h|h:=hq.status<;>rw[h]<;>simp
   ·rw[Ge hn0,Z50,h0'];rfl
 | @ev e es O fr cs wB hat hk ih=>
   intro gs w sl t q s r tm hC hsz h0 hn hra hrb hch hR;cases vs with
   |nil=>cases he
   |cons v vs=>
    injection he with he1 he2;subst he1;subst he2
    exact pick hC hsz h0 hn hra hch hR (.ev hat λw1 h1=>hk w1 (hrb.trans h1)) λgs' d sl' q' hC' hsz' h0' hn'=>
     HV v vs O fr cs gs' (w.at d) sl' t q' s r tm hC' hsz' h0' hn' (hRa _ _ (Rely.at _ _ _ d) hra) hch hR hat λw1 h1=>hk w1 (hrb.trans ((Rely.at _ _ _ d).trans h1))
 | @step es O fr cs wB h1 h2 ih=>
   intro gs w sl t q s r tm hC hsz h0 hn hra hrb hch hR;subst he;refine pick hC hsz h0 hn hra hch hR (.step (λw1 h=>h1 w1 (hrb.trans h)) λw1 g' w' es' h k=>h2 w1 g' w' es' (hrb.trans h) k) λgs' d sl' q' hC' hsz' h0' hn'=> ?_;obtain⟨fr',cs',w',es',hgo,hg⟩:=h1 (w.at d) (hrb.trans (Rely.at _ _ _ d));have hn0:n≠0:=by have:=hC.n0;omega
   have hrunT:=runT_crowd_go (P:=P) (sl:=sl') (i:=n) hn' (by rw[show(n==0)=false by simpa using hn0];exact hgo)
   have hch':w'.heap[c]?=some (.chan 0 #[] false s r tm):=by
    rw[hg.keep c (Z4z.1 hch).1 hC.cb];exact hch
   refine⟨_,_,_,_,hrunT,?_⟩;refine ih (w.at d) (G fr' cs') w' es' (hrb.trans (Rely.at _ _ _ d)) hgo vs rfl _ w' _ _ q' s r tm (hC'.childGo hg (R9 hC'.lv n (.inr rfl) _ _ _ _) _ _) (by simpa using hsz') ?_ (Xz (by rw[Z50,hn'];rfl)) (hRa _ _ ((Rely.at _ _ _ d).trans (hC'.relyA hg)) hra) (.refl _ _ _) hch' hR;rw[Ge hn0,Z50,h0'];simp only[Z4K];rw[haw.2 w' s r tm _ _ hch']
end
end
end Vm
end
