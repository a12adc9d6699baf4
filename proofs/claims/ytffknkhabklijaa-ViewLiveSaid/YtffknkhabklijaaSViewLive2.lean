import Derived.Conc.Beside
import Derived.Conc.Listed
import Derived.Conc.Own5
import Derived.Conc.CompanyDraw
import Derived.WalkKit
import Derived.MapKept
import Derived.Test.YtffknkhabklijaaSViewLive1
set_option linter.unusedSimpArgs false
set_option linter.unusedVariables false
set_option linter.defProp false
def ZkF:=@_root_.Nat.lt_or_ge
def ZgX:=@_root_.List.mem_map
def ZhD:=@_root_.Bool.not_eq_true'
def Zhy:=@_root_.Nat.zero_add
def ZhZ:=@_root_.List.length_append
def Zi2:=@_root_.Nat.succ_mul
def Zhn:=@_root_.List.getElem?_append_left
def Zh6:=@_root_.List.getElem?_append_right
def ZhB:=@_root_.List.mem_of_mem_take
def ZhY:=@_root_.List.length_take
def Zhi:=@_root_.List.take_of_length_le
def Zhh:=@_root_.Nat.mul_le_mul_right
def Zil:=@_root_.List.drop_of_length_le
def ZgQ:=@_root_.List.mem_of_getElem?
def ZhG:=@_root_.Go.World.cell?_of_block
def ZgT:=@_root_.List.all_eq_true
def ZhI:=@_root_.Array.eq_empty_of_size_eq_zero
def Zhz:=@_root_.List.eq_nil_of_length_eq_zero
def Zh3:=@_root_.Go.cell_of_row
def Zhm:=@_root_.List.getElem?_take
def ZgI:=@_root_.Option.bind_eq_some_iff
def ZgL:=@_root_.List.getElem?_eq_some_iff
def Zju:=@_root_.List.any_eq_false
def ZiS:=@_root_.Bool.not_eq_true
def ZhA:=@_root_.Go.RowKit.Below.refl
def ZjM:=@_root_.Go.Operand.const.injEq
def ZhN:=@_root_.Option.isSome_iff_exists
def Zhk:=@_root_.Go.run_underlying
def ZiI:=@_root_.Go.Addr.add_lit
def ZgJ:=@_root_.List.getElem?_eq_getElem
def Zkc:=@_root_.List.ext_getElem?
def Zh8:=@_root_.List.getElem?_of_mem
def Zht:=@_root_.List.getElem?_drop
def ZiE:=@_root_.List.length_drop
def ZiR:=@_root_.Array.length_toList
def Zi0:=@_root_.Array.getElem?_toList
def Zhu:=@_root_.List.length_map
def ZiK:=@_root_.List.getElem?_toArray
def Zif:=@_root_.Nat.add_assoc
def Zke:=@_root_.List.length_range
def Zih:=@_root_.List.mem_of_mem_drop
def Zh4:=@_root_.Int.eq_ofNat_of_zero_le
def Zhl:=@_root_.Int.toNat_natCast
def ZgZ:=@_root_.List.getElem_mem
def Zkn:=@_root_.Array.getElem?_extract
def Ziy:=@_root_.List.length_nil
def Zko:=@_root_.List.drop_eq_nil_of_le
def Ziu:=@_root_.Nat.sub_self
def Zib:=@_root_.List.take_length
def Zi5:=@_root_.Go.World.grownBy_alloc
def Zhv:=@_root_.Go.heap_alloc_new
def Zh2:=@_root_.List.getElem?_map
def ZhL:=@_root_.List.length_cons
def Zkt:=@_root_.Array.getElem?_zipIdx
def Zkf:=@_root_.Nat.add_right_cancel_iff
def ZiN:=@_root_.List.mem_range
def Zi6:=@_root_.List.contains_eq_mem
def Zjs:=@_root_.decide_eq_false_iff_not
def Ziz:=@_root_.List.nodup_cons
def Zh1:=@_root_.decide_eq_true_eq
def Zk5:=@_root_.Nat.lt_or_gt_of_ne
def Zjf:=@_root_.List.mem_of_find?_eq_some
def ZjP:=@_root_.List.find?_some
def ZhU:=@_root_.List.map_append
def Zjv:=@_root_.List.nodup_append
section
namespace Vm
open Go Go.Conc Go.ConcN
section
def ClosedAt(t:Trace)(n c:Nat):Prop:=∃pc op,t[pc]?=some op/\op.g=n/\op.act=.close c/\t.heard pc/\∀(i:Nat) (op':MemOp),t[i]?=some op'->op'.g=n->i<=pc
theorem ClosedAt.app{t:Trace}{n c:Nat}(h:ClosedAt t n c)(u:Trace)(hu:∀op∈u,op.g≠n):ClosedAt (t++u) n c:=by
 obtain⟨pc,op,h1,h2,h3,h4,h5⟩:=h;have hlt:=lt_size_of_getElem? h1;refine⟨pc,op,by rw[getElem?_append_old hlt];exact h1,h2,h3,(heard_old hlt).2 h4,λi op' hi hg=> ?_⟩;rcases getElem?_append_cases hi with ⟨_,hi'⟩|⟨_,hiu⟩
 ·exact h5 i op' hi' hg
 ·exact absurd hg (hu op' hiu)
theorem yY{t:Trace}{op:MemOp}(h:Deaf t op.g=0):(t++ #[op]).heard t.size:=⟨op.g,by simp[Trace.g?],by rw[deaf_old (ZgP _)];exact h⟩
theorem ClosedAt.new{t:Trace}{n c:Nat}{op:MemOp}(hg:op.g=n)(ha:op.act=.close c)(hd:Deaf t n=0):ClosedAt (t++ #[op]) n c:=by
 refine⟨t.size,op,by simp,hg,ha,yY (by rw[hg];exact hd),λi op' hi _=> ?_⟩;have:=lt_size_of_getElem? hi;simp at this;omega
section
variable {P:Program}{n c:Nat}{KA KB OA0:Nat->Prop}{w0:World}{Final:Array Goroutine->World->Trace->Prop}
theorem XQ(O:Nat->Prop)(g:Goroutine)(w:World)(h:XO P c O g w):g.status=.running:=h.1
theorem Za4{OA:Nat->Prop}{a:Goroutine}{R:List Value->Prop}{Ra:World->Prop}(hRa:∀w w',Rely KA OA w w'->Ra w->Ra w')
  (haw:awake a/\∀(w:World) s r tm g1 g2,w.heap[c]?=some (.chan 0 #[] false s r tm)->woken P g1 g2 w a=a)
  (H0:a.status=.running->∀vs OB b gs w sl t q s r tm,Cfg P n c KA KB OA0 w0 OA OB gs w t q->gs.size=n+1->gs[0]?=some a->gs[n]?=some b->Ra w->w.heap[c]?=some (.chan 0 #[] false s r tm)->R vs->
   Play P false c KB (XO P c) (vs.map .send) OB b w->∃gs1 w1 sl1 ops,runT P (crowd gs w sl) 0=(.next (crowd gs1 w1 sl1),ops)/\Win P Final gs1 w1 sl1 (t++ops))
  (HC:∀OB b b2 gs w sl t q s r tm,Cfg P n c KA KB OA0 w0 OA OB gs w t q->Lvs P gs.size gs q->gs.size=n+1->mayWake P b=true->b2.status≠.blocked->b2.status≠.waiting->gs[0]?=some (woken P b b2 w a)->Ra w->w.heap[c]?=some (.chan 0 #[] true s r tm)->R []->
   ClosedAt t n c->Win P Final gs w sl t)
  (HV:∀v vs OB fr cs gs w sl t q s r tm,Cfg P n c KA KB OA0 w0 OA OB gs w t q->gs.size=n+1->gs[0]?=some a->gs[n]?=some (G fr cs)->Ra w->w.heap[c]?=some (.chan 0 #[] false s r tm)->R (v::vs)->
   AtEv P c (.send v) fr->(∀w1,Rely KB OB w w1->Play P false c KB (XO P c) (vs.map .send) OB (G (aft (.send v) fr) cs) w1)->∃gs1 w1 sl1 ops,runT P (crowd gs w sl) n=(.next (crowd gs1 w1 sl1),ops)/\Win P Final gs1 w1 sl1 (t++ops)):
  ∀vs OB b wB,Play P false c KB (XO P c) (vs.map .send) OB b wB->∀gs w sl t q s r tm,Cfg P n c KA KB OA0 w0 OA OB gs w t q->gs.size=n+1->gs[0]?=some a->gs[n]?=some b->Ra w->Rely KB OB wB w->
   w.heap[c]?=some (.chan 0 #[] false s r tm)->R vs->Win P Final gs w sl t:=by
 intro vs OB b wB hB;generalize he:vs.map Ev.send=es at hB
 have pick:∀ {vs OB b gs w sl t q s r tm},Cfg P n c KA KB OA0 w0 OA OB gs w t q->gs.size=n+1->gs[0]?=some a->gs[n]?=some b->Ra w->w.heap[c]?=some (.chan 0 #[] false s r tm)->R vs->Play P false c KB (XO P c) (vs.map .send) OB b w->
   (∀gs' d sl' q',Cfg P n c KA KB OA0 w0 OA OB gs' (w.at d) t q'->gs'.size=n+1->gs'[0]?=some a->gs'[n]?=some b->∃gs1 w1 sl1 ops,runT P (crowd gs' (w.at d) sl') n=(.next (crowd gs1 w1 sl1),ops)/\Win P Final gs1 w1 sl1 (t++ops))->Win P Final gs w sl t:=by
  intro vs OB b gs w sl t q s r tm hC hsz h0 hn hra hch hR hpl hstep;have hbr:b.status=.running:=hpl.running XQ;refine skip hC.lv (λi g hi hg=> ?_) ⟨n,b,.inr rfl,hn,hbr⟩ λgs' d sl' q' i g hsz' hsame hl' hi hgi hrun=> ?_
  ·by_cases h:i=0
   ·subst h;rw[h0]at hg;cases hg;exact⟨haw.1,λg1 g2 d=>haw.2 (w.at d) s r tm g1 g2 hch⟩
   ·have hi:i=n:=hi.resolve_left h;subst hi;rw[hn]at hg;cases hg;exact⟨awake_of (.inl hbr),λg1 g2 d=>woken_run hbr⟩
  ·have hC':=hC.at d hl';have h0':gs'[0]?=some a:=by rw[hsame 0 (.inl rfl)];exact h0
   have hn':gs'[n]?=some b:=by rw[hsame n (.inr rfl)];exact hn
   have hsz2:gs'.size=n+1:=by rw[hsz',hsz]
   by_cases h:i=0
   ·subst h;rw[h0']at hgi;cases hgi;exact H0 hrun vs OB b gs' (w.at d) sl' t q' s r tm hC' hsz2 h0' hn' (hRa _ _ (Rely.at _ _ _ d) hra) hch hR (hpl.rely (Rely.at _ _ _ d))
   ·have hi:i=n:=hi.resolve_left h;subst hi;exact hstep gs' d sl' q' hC' hsz2 h0' hn'
 induction hB generalizing vs with
 | @stop O g wB h=>
   intro gs w sl t q s r tm hC hsz h0 hn hra hrb hch hR
   have hvs:vs=[]:=by cases vs with
    |nil=>rfl
    |cons=>cases he
   subst hvs;refine pick hC hsz h0 hn hra hch hR (.stop λw1 h1=>h w1 (hrb.trans h1)) λgs' d sl' q' hC' hsz' h0' hn'=> ?_;obtain⟨hrun,hwk,g₂,k,hgo,hq⟩:=h (w.at d) (hrb.trans (Rely.at _ _ _ d));have hn0:n≠0:=by have:=hC.n0;omega
   have hgo:=hgo s r tm hch;have hclt:c<w.heap.size:=(ZgO.1 hch).1;have hrunT:=runT_crowd_go (P:=P) (sl:=sl') (i:=n) hn' (by rw[show(n==0)=false by simpa using hn0];exact hgo);refine⟨_,_,_,_,hrunT,?_⟩
   have hops:MemOp.ofEvents n g.frame.fn g.frame.place #[⟨.obj c,false,true⟩,⟨.obj c,true,true⟩]=MemOp.ofEvents n g.frame.fn g.frame.place #[⟨.obj c,false,true⟩]++ #[{g:=n,fn:=g.frame.fn,pos:=g.frame.place,act:=.close c}]:=by
    rw[ofEvents_eq,ofEvents_eq];simp[MemAct.ofEvent]
   rw[hops,<-Array.append_assoc];replace hC':=hC'.peek g.frame.fn g.frame.place
   have hl1:Lvs P n ((gs'.map (woken P g g₂ (cput (w.at d) c (.chan 0 #[] true s r tm)))).setIfInBounds n g₂) (upd q' n k):=λj x h1 h2 h3=>by
    have:=RD hC'.lv n (.inr rfl) g g₂ g₂ (cput (w.at d) c (.chan 0 #[] true s r tm)) j x h1 h2 h3;rw[upd_ne q' k h2];exact this
   refine HC O g g₂ _ (cput (w.at d) c (.chan 0 #[] true s r tm)) _ _ (upd q' n k) s r tm (hC'.chan _ hl1 _ (by simp[MemAct.touch?])) (λj x h1 h2 h3=> ?_) (by simpa using hsz') hwk ?_ ?_ ?_ (hRa _ _ ((Rely.at _ _ _ d).trans (VL (w.at d) c _ hC.ca hC.cka)) hra) (LX hclt) hR (ClosedAt.new rfl rfl (hC'.ti.hears n))
   ·by_cases hj:j=n
    ·subst hj;rw[XB (y:=woken P g g₂ (cput (w.at d) c (.chan 0 #[] true s r tm)) g) (by rw[Zh7,hn'];rfl)]at h3;cases h3;rw[upd_same];exact hq
    ·exact hl1 j x h1 hj h3
   ·rcases hq.status with h|h<;>rw[h]<;>simp
   ·rcases hq.status with h|h<;>rw[h]<;>simp
   ·rw[Z6H hn0,Zh7,h0'];rfl
 | @ev e es O fr cs wB hat hk ih=>
   intro gs w sl t q s r tm hC hsz h0 hn hra hrb hch hR;cases vs with
   |nil=>cases he
   |cons v vs=>
    injection he with he1 he2;subst he1;subst he2
    exact pick hC hsz h0 hn hra hch hR (.ev hat λw1 h1=>hk w1 (hrb.trans h1)) λgs' d sl' q' hC' hsz' h0' hn'=>
     HV v vs O fr cs gs' (w.at d) sl' t q' s r tm hC' hsz' h0' hn' (hRa _ _ (Rely.at _ _ _ d) hra) hch hR hat λw1 h1=>hk w1 (hrb.trans ((Rely.at _ _ _ d).trans h1))
 | @step es O fr cs wB h1 h2 ih=>
   intro gs w sl t q s r tm hC hsz h0 hn hra hrb hch hR;subst he;refine pick hC hsz h0 hn hra hch hR (.step (λw1 h=>h1 w1 (hrb.trans h)) λw1 g' w' es' h k=>h2 w1 g' w' es' (hrb.trans h) k) λgs' d sl' q' hC' hsz' h0' hn'=> ?_;obtain⟨fr',cs',w',es',hgo,hg⟩:=h1 (w.at d) (hrb.trans (Rely.at _ _ _ d));have hn0:n≠0:=by have:=hC.n0;omega
   have hrunT:=runT_crowd_go (P:=P) (sl:=sl') (i:=n) hn' (by rw[show(n==0)=false by simpa using hn0];exact hgo)
   have hch':w'.heap[c]?=some (.chan 0 #[] false s r tm):=by
    rw[hg.keep c (ZgO.1 hch).1 hC.cb];exact hch
   refine⟨_,_,_,_,hrunT,?_⟩;refine ih (w.at d) (G fr' cs') w' es' (hrb.trans (Rely.at _ _ _ d)) hgo vs rfl _ w' _ _ q' s r tm (hC'.childGo hg (RD hC'.lv n (.inr rfl) _ _ _ _) _ _) (by simpa using hsz') ?_ (XB (by rw[Zh7,hn'];rfl)) (hRa _ _ ((Rely.at _ _ _ d).trans (hC'.relyA hg)) hra) (.refl _ _ _) hch' hR;rw[Z6H hn0,Zh7,h0'];simp only[ZgY];rw[haw.2 w' s r tm _ _ hch']
end
end
section
def KnownAll(t:Trace):Prop:=∀(i:Nat) (op:MemOp) (x:Touch),t[i]?=some op->op.act.touch?=some x->x.loc.isMemory=true->Knows t 0 i
theorem KnownAll.app0{t u:Trace}(h:KnownAll t)(hu:∀op∈u,op.g=0):KnownAll (t++u):=λi op x hi hx hm=>by
 rcases getElem?_append_cases hi with ⟨_,hi'⟩|⟨_,hiu⟩
 ·exact(h i op x hi' hx hm).app u
 grind [knows_own]
theorem qp{n c:Nat}{OA OB KB:Nat->Prop}{sz:Nat}{t:Trace}(h:TI n OA OB KB sz t)(hc:ClosedAt t n c){y:MemOp}(hg:y.g=0)(ha:y.act=.recvClosed c):KnownAll (t++ #[y]):=by
 intro i op x hi hx hm;rcases getElem?_append_cases hi with ⟨hlt,hi'⟩|⟨_,hiu⟩
 ·rcases h.j1 i op x hi' hx hm with h1|⟨h1,_⟩
  ·exact h1.app _
  ·obtain⟨pc,opc,h2,h3,h4,h5,h6⟩:=hc;have hpl:=lt_size_of_getElem? h2;have hle:=h6 i op hi' h1;have hy:(t++ #[y])[t.size]?=some y:=by simp
   have hpc:(t++ #[y])[pc]?=some opc:=by rw[getElem?_append_old hpl];exact h2
   have hedge:HappensBefore (t++ #[y]) pc t.size:=.single (.inr ⟨.closed (c:=c) (by rw[act?_of hpc,h4]) (by rw[act?_of hy,ha]),(heard_old hpl).2 h5,yY (by rw[hg];exact h.hears 0)⟩)
   have hb:Before (t++ #[y]) i pc:=by
    by_cases he:i=pc
    ·exact .inl he
    ·exact .inr (hb_po (by omega) hi hpc (h1.trans h3.symm))
   exact⟨t.size,y,hy,hg,.inr (hb.hb hedge)⟩
 grind [knows_own]
theorem Zas{g:Nat}{fn:FuncId}{pos:String}{es:Array Event}:∀op∈MemOp.ofEvents g fn pos es,op.g=g:=λop hop=>by
 rw[ofEvents_eq]at hop;grind
section
variable {P:Program}{n c:Nat}{KA KB OA0:Nat->Prop}{w0:World}{StopA:(Nat->Prop)->Goroutine->World->Prop}
def Qy(P:Program)(n c:Nat)(KA KB OA0:Nat->Prop)(w0:World)(StopA:(Nat->Prop)->Goroutine->World->Prop)(gs:Array Goroutine)(w:World)(t:Trace):Prop:=
 ∃a OA OB q,gs[0]?=some a/\gs.size=n+1/\StopA OA a w/\Cfg P n c KA KB OA0 w0 OA OB gs w t q/\Lvs P gs.size gs q/\KnownAll t
structure Ph (P:Program) (n c:Nat) (KA KB OA0:Nat->Prop) (w0:World) (StopA:(Nat->Prop)->Goroutine->World->Prop) (es:List Ev) (OA:Nat->Prop) (a:Goroutine) (wA:World):Prop where
 opn:∀vs z OB b gs w sl t q s r tm,es=vs.map .recv++[.closed z]->Cfg P n c KA KB OA0 w0 OA OB gs w t q->gs.size=n+1->gs[0]?=some a->gs[n]?=some b->Rely KA OA wA w->BSit P c KB vs OB b w->
  w.heap[c]?=some (.chan 0 #[] false s r tm)->Win P (Qy P n c KA KB OA0 w0 StopA) gs w sl t
 sht:∀z OB gs w sl t q s r tm,es=[.closed z]->Cfg P n c KA KB OA0 w0 OA OB gs w t q->Lvs P gs.size gs q->gs.size=n+1->gs[0]?=some a->Rely KA OA wA w->
  w.heap[c]?=some (.chan 0 #[] true s r tm)->ClosedAt t n c->Win P (Qy P n c KA KB OA0 w0 StopA) gs w sl t
 fin:∀OB gs w sl t q,es=[]->Cfg P n c KA KB OA0 w0 OA OB gs w t q->Lvs P gs.size gs q->gs.size=n+1->gs[0]?=some a->Rely KA OA wA w->KnownAll t->Win P (Qy P n c KA KB OA0 w0 StopA) gs w sl t
theorem ZaO{Final:Array Goroutine->World->Trace->Prop}{OA OB:Nat->Prop}{gs:Array Goroutine}{a:Goroutine}{w:World}{sl:Option (Nat×Nat)}{t:Trace}{q:Nat->Nat}(hC:Cfg P n c KA KB OA0 w0 OA OB gs w t q)(hl:Lvs P gs.size gs q)(hsz:gs.size=n+1)(h0:gs[0]?=some a)(ha:a.status=.running)
  (H:∀gs' d sl' q',Cfg P n c KA KB OA0 w0 OA OB gs' (w.at d) t q'->Lvs P gs'.size gs' q'->gs'.size=n+1->gs'[0]?=some a->∃gs1 w1 sl1 ops,runT P (crowd gs' (w.at d) sl') 0=(.next (crowd gs1 w1 sl1),ops)/\Win P Final gs1 w1 sl1 (t++ops)):Win P Final gs w sl t:=by
 have hnone:∀(gs':Array Goroutine) g,gs'[gs'.size]? ≠some g:=λgs' g e=>by
  simp_all
 refine skip hl (λi g hi hg=> ?_) ⟨0,a,.inl rfl,h0,ha⟩ λgs' d sl' q' i g hsz' hsame hl' hi hgi hrun=> ?_
 ·rcases hi with rfl|rfl
  ·simp_all[awake_of,woken_run]
  simp_all
 ·rcases hi with rfl|rfl
  ·have hl2:Lvs P gs'.size gs' q':=by rw[hsz'];exact hl'
   have hl3:Lvs P n gs' q':=λj x h1 h2 h3=>hl2 j x h1 (by grind) h3;exact H gs' d sl' q' (hC.at d hl3) hl2 (by omega) (by simp_all)
  simp_all
theorem Zfq{es:List Ev}{OA:Nat->Prop}{a:Goroutine}{wA:World}(h:Play P true c KA StopA es OA a wA):Ph P n c KA KB OA0 w0 StopA es OA a wA:=by
 induction h with
 | @stop OA g wA h=>
   refine⟨λvs z _ _ _ _ _ _ _ _ _ _ he=> ?_,λz _ _ _ _ _ _ _ _ _ he=> ?_,λOB gs w sl t q _ hC hl hsz h0 hr hk=> ?_⟩
   ·simp_all
   ·cases he
   ·exact Win.now ⟨g,OA,OB,q,h0,hsz,h w hr,hC,hl,hk⟩
 | @ev e es OA fr cs wA hat hk ih=>
   have SH:∀a2:Goroutine,a2.frame=fr->a2.callers=cs->a2.dying=none->a2.status=.running->∀z,e=.closed z->es=[]->∀OB gs w sl t q s r tm,Cfg P n c KA KB OA0 w0 OA OB gs w t q->Lvs P gs.size gs q->gs.size=n+1->gs[0]?=some a2->Rely KA OA wA w->
     w.heap[c]?=some (.chan 0 #[] true s r tm)->ClosedAt t n c->Win P (Qy P n c KA KB OA0 w0 StopA) gs w sl t:=by
    intro a2 e1 e2 e3 e4 z he hes OB gs w sl t q s r tm hC hl hsz h0 hr hch hcl;subst he;refine ZaO hC hl hsz h0 e4 λgs' d sl' q' hC' hl' hsz' h0'=> ?_
    have hst:stepG P true a2 (w.at d)=.comm (G fr cs) #[rcase c z] true (.recv true) (w.at d) #[]:=by
     rw[stepG_same (h:=G fr cs) e1 e2 e3];exact QX hat _
    obtain⟨op,hg,ha,hrun⟩:=zl (sl:=sl') hl' h0' hst hch (λx _ hx=>by simp_all);refine⟨_,_,_,_,hrun,?_⟩
    have hl1:Lvs P (gs'.setIfInBounds 0 (G (aft (.closed z) fr) cs)).size (gs'.setIfInBounds 0 (G (aft (.closed z) fr) cs)) q':=by
     rw[Zi3];exact Vi hl' 0 (.inl rfl) _
    exact(ih (w.at d) (hr.trans (Rely.at _ _ _ d))).fin OB _ _ _ _ q' hes (hC'.same (Vi hC'.lv 0 (.inl rfl) _) _ (λx hx=>by simp_all[MemAct.touch?])) hl1 (by simp_all) (XB h0') (.refl _ _ _)
     (qp hC'.ti hcl hg ha)
   refine⟨?_,λz OB gs w sl t q s r tm he hC hl hsz h0 hr hch hcl=> ?_,λ_ _ _ _ _ _ he=>by cases he⟩
   ·intro vs z OB b gs w sl t q s r tm he hC hsz h0 hn hr hB hch;have hn0:n≠0:=by have:=hC.n0;omega
    obtain⟨zz,hcm⟩:∃zz,∀w,stepG P true (G fr cs) w=.comm (G fr cs) #[rcase c zz] true (.recv true) w #[]:=by
     cases vs with
     |nil=>injection he with h1 h2;subst h1;exact⟨z,QX hat⟩
     |cons v vs=>injection he with h1 h2;subst h1;exact Z6q hat
    have meet:∀v vs' z,e::es=(v::vs').map .recv++[.closed z]->e=.recv v/\es=vs'.map .recv++[.closed z]:=λv vs' z h=>by grind
    have MB:∀v vs' OB frb csb zb gs w sl t q s r tm,e::es=(v::vs').map .recv++[.closed z]->Cfg P n c KA KB OA0 w0 OA OB gs w t q->gs.size=n+1->gs[0]?=some (G fr cs)->gs[n]?=some (parked (G frb csb) #[scase c v zb] .send)->Rely KA OA wA w->
      Play P false c KB (XO P c) (vs'.map .send) OB (G (aft (.send v) frb) csb) w->w.heap[c]?=some (.chan 0 #[] false s r tm)->Win P (Qy P n c KA KB OA0 w0 StopA) gs w sl t:=by
     intro v vs' OB frb csb zb gs w sl t q s r tm he hC hsz h0 hn hr hpl hch;refine skip hC.lv (λi g hi hg=> ?_) ⟨0,_,.inl rfl,h0,rfl⟩ λgs' d sl' q' i g hsz' hsame hl' hi hgi hrun=> ?_
     ·by_cases h:i=0
      ·subst h;rw[h0]at hg;cases hg;exact⟨awake_of (.inl rfl),λg1 g2 d=>woken_run rfl⟩
      ·obtain rfl:=hi.resolve_left h;rw[hn]at hg;cases hg;exact⟨awake_of (.inr (.inl rfl)),λg1 g2 d=>woken_send_open g1 g2 (w:=w.at d) hch⟩
     ·have h0':gs'[0]?=some (G fr cs):=by simp_all
      have hn':gs'[n]?=some (parked (G frb csb) #[scase c v zb] .send):=by rw[hsame n (.inr rfl)];exact hn
      by_cases h:i=0
      ·subst h;obtain⟨u,hu,hrunT⟩:=qA (sl:=sl') hn0 hl' h0' (hcm (w.at d)) hch hn';refine⟨_,_,_,_,hrunT,?_⟩;obtain⟨he1,he2⟩:=meet v vs' z he;subst he1
       refine(ih (w.at d) (hr.trans (Rely.at _ _ _ d))).opn vs' z OB _ _ _ _ _ q' (s+1) (r+1) tm he2 ((hC.at d hl').chan _ (Vi (Vi hl' n (.inr rfl) _) 0 (.inl rfl) _) u hu) (by grind) (XB (y:=G fr cs) (by grind)) (by grind)
        (VL _ _ _ hC.ca hC.cka) (.run (hpl.rely ((Rely.at _ _ _ d).trans (VL _ _ _ hC.cb hC.ckb)))) (LX (ZgO.1 hch).1)
      ·obtain rfl:=hi.resolve_left h;rw[hn']at hgi;cases hgi;cases hrun
    have PK:=Za4 (P:=P) (n:=n) (c:=c) (KA:=KA) (KB:=KB) (OA0:=OA0) (w0:=w0) (Final:=Qy P n c KA KB OA0 w0 StopA) (OA:=OA) (a:=parked (G fr cs) #[rcase c zz] (.recv true)) (R:=λvs=>e::es=vs.map .recv++[.closed z]) (Ra:=λw=>Rely KA OA wA w)
     (λw w' h k=>k.trans h) ⟨awake_of (.inr (.inl rfl)),λw s r tm g1 g2 hc=>woken_recv_open g1 g2 hc⟩ (λh=>by cases h)
     (λOB b b2 gs w sl t q s r tm hC hl hsz hwk hs1 hs2 h0 hr hch hR hcl=>by
      injection hR with h1 h2;refine SH _ ?_ ?_ ?_ ?_ z h1 h2 OB gs w sl t q s r tm hC hl hsz h0 hr hch hcl
      all_goals
       have hw:woken P b b2 w (parked (G fr cs) #[rcase c zz] (.recv true))= {parked (G fr cs) #[rcase c zz] (.recv true)with status:=.running}:=by
        unfold woken;rw[if_pos (by simp[hwk,hs1,hs2])];exact again_recv_closed hch
       first|(rw[hw];done)|(rw[hw];rfl))
     (λv vs' OB frb csb gs w sl t q s r tm hC hsz h0 hn hr hch hR hatb hpl=>by
      obtain⟨zb,hsend⟩:=JV (main:=false) (cs:=csb) hatb;obtain⟨u,hu,hrunT⟩:=qC (sl:=sl) hn0 hC.lv hn (hsend w) hch h0;refine⟨_,_,_,_,hrunT,?_⟩;obtain⟨he1,he2⟩:=meet v vs' z hR;subst he1
      exact(ih w hr).opn vs' z OB _ _ _ _ _ q (s+1) (r+1) tm he2 (hC.chan _ (Vi (Vi hC.lv 0 (.inl rfl) _) n (.inr rfl) _) u hu) (by simp[hsz]) (by grind) (XB (y:=G frb csb) (by grind))
       (VL _ _ _ hC.ca hC.cka) (.run (hpl _ (VL _ _ _ hC.cb hC.ckb))) (LX (ZgO.1 hch).1))
    have RN:=Za4 (P:=P) (n:=n) (c:=c) (KA:=KA) (KB:=KB) (OA0:=OA0) (w0:=w0) (Final:=Qy P n c KA KB OA0 w0 StopA) (OA:=OA) (a:=G fr cs) (R:=λvs=>e::es=vs.map .recv++[.closed z]) (Ra:=λw=>Rely KA OA wA w)
     (λw w' h k=>k.trans h) ⟨awake_of (.inl rfl),λw s r tm g1 g2 hc=>woken_run rfl⟩
     (λ_ vs' OB b gs w sl t q s r tm hC hsz h0 hn hr hch hR hpl=>by
      have hbr:=hpl.running XQ;have hrunT:=qB (sl:=sl) hC.lv h0 (hcm w) hch (λx _ hx=>by grind);refine⟨_,_,_,_,hrunT,?_⟩;rw[Zhw];have:=hC.same (Vi hC.lv 0 (.inl rfl) (parked (G fr cs) #[rcase c zz] (.recv true))) #[] (by simp);rw[Zhw]at this;exact PK vs' OB b w hpl _ _ _ _ q s r tm this (by grind) (XB h0) (by grind) hr (.refl _ _ _) hch hR)
     (λOB b b2 gs w sl t q s r tm hC hl hsz hwk hs1 hs2 h0 hr hch hR hcl=>by
      injection hR with h1 h2;rw[woken_run (b:=G fr cs) rfl]at h0;exact SH _ rfl rfl rfl rfl z h1 h2 OB gs w sl t q s r tm hC hl hsz h0 hr hch hcl)
     (λv vs' OB frb csb gs w sl t q s r tm hC hsz h0 hn hr hch hR hatb hpl=>by
      obtain⟨zb,hsend⟩:=JV (main:=false) (cs:=csb) hatb;have hrunT:=RE (sl:=sl) hn0 hC.lv hn (hsend w) hch (λx hx=>by grind [G]);refine⟨_,_,_,_,hrunT,?_⟩;rw[Zhw];have:=hC.same (Vi hC.lv n (.inr rfl) (parked (G frb csb) #[scase c v zb] .send)) #[] (by simp);rw[Zhw]at this;exact MB v vs' OB frb csb zb _ w sl t q s r tm hR this (by grind) (by grind) (XB hn) hr (hpl w (.refl _ _ _)) hch)
    cases hB with
    |run hpl=>exact RN vs OB b w hpl gs w sl t q s r tm hC hsz h0 hn hr (.refl _ _ _) hch he
    | @park v vs' O frb csb zb w hpl=>grind
   ·injection he with h1 h2;exact SH _ rfl rfl rfl rfl z h1 h2 OB gs w sl t q s r tm hC hl hsz h0 hr hch hcl
 | @step es OA fr cs wA h1 h2 ih=>
   have own:∀OB gs w sl t q,Cfg P n c KA KB OA0 w0 OA OB gs w t q->gs[0]?=some (G fr cs)->Rely KA OA wA w->∃g' w' es',Guar KA OA w w' es'/\Ph P n c KA KB OA0 w0 StopA es (grow OA w w') g' w'/\
     runT P (crowd gs w sl) 0=(.next (crowd ((gs.map (woken P (G fr cs) g' w')).setIfInBounds 0 g') w' sl),MemOp.ofEvents 0 (G fr cs).frame.fn (G fr cs).frame.place es'):=λOB gs w sl t q hC h0 hr=>by
    grind [runT_crowd_go]
   have SH:∀z OB gs w sl t q s r tm,es=[.closed z]->Cfg P n c KA KB OA0 w0 OA OB gs w t q->Lvs P gs.size gs q->gs.size=n+1->gs[0]?=some (G fr cs)->Rely KA OA wA w->w.heap[c]?=some (.chan 0 #[] true s r tm)->ClosedAt t n c->Win P (Qy P n c KA KB OA0 w0 StopA) gs w sl t:=by
    intro z OB gs w sl t q s r tm he hC hl hsz h0 hr hch hcl;refine ZaO hC hl hsz h0 rfl λgs' d sl' q' hC' hl' hsz' h0'=> ?_;obtain⟨g',w',es',hg,hph,hrunT⟩:=own OB gs' (w.at d) sl' t q' hC' h0' (hr.trans (Rely.at _ _ _ d));refine⟨_,_,_,_,hrunT,?_⟩;have hn0:n≠0:=by have:=hC.n0;omega
    refine hph.sht z OB _ w' _ _ q' s r tm he (hC'.mainGo hg (RD hC'.lv 0 (.inl rfl) _ _ _ _) _ _) ?_ (by simp_all) (XB (by rw[Zh7,h0'];rfl)) (.refl _ _ _) ?_ (hcl.app _ λop hop=>by rw[Zas op hop];omega)
    ·rw[Zi3,ZiU];exact RD hl' 0 (.inl rfl) _ _ _ _
    ·rw[hg.keep c (ZgO.1 hch).1 hC.ca];exact hch
   refine⟨?_,SH,λOB gs w sl t q he hC hl hsz h0 hr hk=> ?_⟩
   ·intro vs z OB b gs w sl t q s r tm he hC hsz h0 hn hr hB hch;have hn0:n≠0:=by have:=hC.n0;omega
    have move:∀vs OB b gs w sl t q s r tm,es=vs.map .recv++[.closed z]->Cfg P n c KA KB OA0 w0 OA OB gs w t q->gs.size=n+1->gs[0]?=some (G fr cs)->gs[n]?=some b->(∀g1 g2 w',w'.heap[c]?=some (.chan 0 #[] false s r tm)->woken P g1 g2 w' b=b)->Rely KA OA wA w->BSit P c KB vs OB b w->
      w.heap[c]?=some (.chan 0 #[] false s r tm)->∃gs1 w1 sl1 ops,runT P (crowd gs w sl) 0=(.next (crowd gs1 w1 sl1),ops)/\Win P (Qy P n c KA KB OA0 w0 StopA) gs1 w1 sl1 (t++ops):=by
     intro vs OB b gs w sl t q s r tm he hC hsz h0 hn hbw hr hB hch;obtain⟨g',w',es',hg,hph,hrunT⟩:=own OB gs w sl t q hC h0 hr;refine⟨_,_,_,_,hrunT,?_⟩
     have hch':w'.heap[c]?=some (.chan 0 #[] false s r tm):=by
      rw[hg.keep c (ZgO.1 hch).1 hC.ca];exact hch
     refine hph.opn vs z OB b _ w' _ _ q s r tm he (hC.mainGo hg (RD hC.lv 0 (.inl rfl) _ _ _ _) _ _) (by grind) (XB (by rw[Zh7,h0];rfl)) ?_ (.refl _ _ _) (hB.rely (hC.relyB hg)) hch';rw[Z6H (ZiO hn0),Zh7,hn];simp only[ZgY];rw[hbw _ _ w' hch']
    have MB:∀v vs' OB frb csb zb gs w sl t q s r tm,es=(v::vs').map .recv++[.closed z]->Cfg P n c KA KB OA0 w0 OA OB gs w t q->gs.size=n+1->gs[0]?=some (G fr cs)->gs[n]?=some (parked (G frb csb) #[scase c v zb] .send)->Rely KA OA wA w->
      Play P false c KB (XO P c) (vs'.map .send) OB (G (aft (.send v) frb) csb) w->w.heap[c]?=some (.chan 0 #[] false s r tm)->Win P (Qy P n c KA KB OA0 w0 StopA) gs w sl t:=by
     intro v vs' OB frb csb zb gs w sl t q s r tm he hC hsz h0 hn hr hpl hch;refine skip hC.lv (λi g hi hg=> ?_) ⟨0,_,.inl rfl,h0,rfl⟩ λgs' d sl' q' i g hsz' hsame hl' hi hgi hrun=> ?_
     ·by_cases h:i=0
      ·subst h;rw[h0]at hg;cases hg;exact⟨awake_of (.inl rfl),λg1 g2 d=>woken_run rfl⟩
      ·obtain rfl:=hi.resolve_left h;rw[hn]at hg;cases hg;exact⟨awake_of (.inr (.inl rfl)),λg1 g2 d=>woken_send_open g1 g2 (w:=w.at d) hch⟩
     ·have h0':gs'[0]?=some (G fr cs):=by simp_all
      have hn':gs'[n]?=some (parked (G frb csb) #[scase c v zb] .send):=by rw[hsame n (.inr rfl)];exact hn
      by_cases h:i=0
      ·subst h;exact move (v::vs') OB _ gs' (w.at d) sl' t q' s r tm he (hC.at d hl') (by omega) h0' hn' (λg1 g2 w' hc'=>woken_send_open g1 g2 hc') (hr.trans (Rely.at _ _ _ d)) (.park (hpl.rely (Rely.at _ _ _ d))) hch
      ·obtain rfl:=hi.resolve_left h;rw[hn']at hgi;cases hgi;cases hrun
    have RN:=Za4 (P:=P) (n:=n) (c:=c) (KA:=KA) (KB:=KB) (OA0:=OA0) (w0:=w0) (Final:=Qy P n c KA KB OA0 w0 StopA) (OA:=OA) (a:=G fr cs) (R:=λvs=>es=vs.map .recv++[.closed z]) (Ra:=λw=>Rely KA OA wA w)
     (λw w' h k=>k.trans h) ⟨awake_of (.inl rfl),λw s r tm g1 g2 hc=>woken_run rfl⟩
     (λ_ vs' OB b gs w sl t q s r tm hC hsz h0 hn hr hch hR hpl=>move vs' OB b gs w sl t q s r tm hR hC hsz h0 hn (λg1 g2 w' _=>woken_run (hpl.running XQ)) hr (.run hpl) hch)
     (λOB b b2 gs w sl t q s r tm hC hl hsz hwk hs1 hs2 h0 hr hch hR hcl=>by
      rw[woken_run (b:=G fr cs) rfl]at h0
      grind)
     (λv vs' OB frb csb gs w sl t q s r tm hC hsz h0 hn hr hch hR hatb hpl=>by
      obtain⟨zb,hsend⟩:=JV (main:=false) (cs:=csb) hatb;have hrunT:=RE (sl:=sl) hn0 hC.lv hn (hsend w) hch (λx hx=>by grind [G]);refine⟨_,_,_,_,hrunT,?_⟩;rw[Zhw];have:=hC.same (Vi hC.lv n (.inr rfl) (parked (G frb csb) #[scase c v zb] .send)) #[] (by simp);rw[Zhw]at this;exact MB v vs' OB frb csb zb _ w sl t q s r tm hR this (by grind) (by grind) (XB hn) hr (hpl w (.refl _ _ _)) hch)
    cases hB with
    |run hpl=>exact RN vs OB b w hpl gs w sl t q s r tm hC hsz h0 hn hr (.refl _ _ _) hch he
    | @park v vs' O frb csb zb w hpl=>grind
   ·refine ZaO hC hl hsz h0 rfl λgs' d sl' q' hC' hl' hsz' h0'=> ?_;obtain⟨g',w',es',hg,hph,hrunT⟩:=own OB gs' (w.at d) sl' t q' hC' h0' (hr.trans (Rely.at _ _ _ d));refine⟨_,_,_,_,hrunT,?_⟩;refine hph.fin OB _ w' _ _ q' he (hC'.mainGo hg (RD hC'.lv 0 (.inl rfl) _ _ _ _) _ _) ?_ (by simp_all) (XB (by rw[Zh7,h0'];rfl)) (.refl _ _ _) (hk.app0 Zas);rw[Zi3,ZiU];exact RD hl' 0 (.inl rfl) _ _ _ _
end
end
end Vm
end
section
namespace Vm
open Go Go.Conc
inductive Calm {α:Type}:Sem α->Prop where
 |pure (a:α):Calm (.pure a)
 |halt (h:Halt):Calm (.halt h)
 |load {m:Mode} {a:Addr} {k:Value->Sem α}:(∀v,Calm (k v))->Calm (.load m a k)
 |store {m:Mode} {a:Addr} {v:Value} {k:Sem α}:Calm k->Calm (.store m a v k)
 |new {o:Obj} {k:Nat->Sem α}:(∀r,Calm (k r))->Calm (.new o k)
 |shape {r:Nat} {k:Option (TypeId×Nat)->Sem α}:(∀x,Calm (k x))->Calm (.shape r k)
 |freeze {a:Addr} {n:Nat} {k:Sem α}:Calm k->Calm (.freeze a n k)
 |frozen {a:Addr} {k:Bool->Sem α}:(∀x,Calm (k x))->Calm (.frozen a k)
 |getObj {r:Nat} {k:Obj->Sem α}:(∀o,Calm (k o))->Calm (.getObj r k)
 |setObj {r:Nat} {o:Obj} {k:Sem α}:Calm k->Calm (.setObj r o k)
 |choose {q:Question} {k:Nat->Sem α}:(∀n,Calm (k n))->Calm (.choose q k)
 |sys {c:Sys} {k:SysRet->Sem α}:(∀r,Calm (k r))->Calm (.sys c k)
 |prog {k:Program->Sem α}:(∀p,Calm (k p))->Calm (.program k)
 |room {k:Sem α}:Calm k->Calm (.mark .noRoom k)
def Calm.bind{α β:Type}{s:Sem α}{f:α->Sem β}(h:Calm s)(hf:∀a,Calm (f a)):Calm (s>>=f):=by
 show Calm (s.bind f)
 induction h with
 |pure a=>exact hf a
 |halt h=>exact .halt h
 |load _ ih=>exact .load ih
 |store _ ih=>exact .store ih
 |new _ ih=>exact .new ih
 |shape _ ih=>exact .shape ih
 |freeze _ ih=>exact .freeze ih
 |frozen _ ih=>exact .frozen ih
 |getObj _ ih=>exact .getObj ih
 |setObj _ ih=>exact .setObj ih
 |choose _ ih=>exact .choose ih
 |sys _ ih=>exact .sys ih
 |prog _ ih=>exact .prog ih
 |room _ ih=>exact .room ih
def Calm.map{α β:Type}{s:Sem α}{f:α->β}(h:Calm s):Calm (f<$>s):=by
 rw[Zji];exact h.bind λa=>.pure _
def yx{α β:Type}{f:α->Sem β}(hf:∀a,Calm (f a)):∀l:List α,Calm (l.mapM f)
 | []=>by simp only[ZjG];exact .pure _
 |a::l=>by
  simp only[ZiV];exact(hf a).bind λb=>(yx hf l).bind λbs=>.pure _
def Z2{α:Type}(a:α):Calm (pure a:Sem α):=.pure a
def Z4{α:Type}{c:Prop} [Decidable c]{a b:Sem α}(h:Calm a)(k:Calm b):Calm (if c then a else b):=by
 grind
def yu(a:Addr)(m:Mode):Calm (load a m):=.load λv=>.pure v
def Z3d(a:Addr)(v:Value)(m:Mode):Calm (store a v m):=.store (.pure ())
def LR(o:Obj):Calm (newObj o):=.new λr=>.pure r
def YT(r:Nat):Calm (shape r):=.shape λr=>.pure r
def UW(a:Addr):Calm (frozen a):=.frozen λr=>.pure r
def LN(r:Nat):Calm (getObj r):=.getObj λo=>.pure o
def Yv(q:Question):Calm (choose q):=.choose λn=>.pure n
def Xs:Calm program:=.prog λp=>.pure p
def yA:Calm (mark .noRoom):=.room (.pure ())
def Z7{α:Type}(s:String):Calm (stuck s:Sem α):=.halt _
def Zu{α:Type}(u:Unsupported):Calm (unsupported u:Sem α):=.halt _
def Z3b{α:Type}(v:Value):Calm (goPanic v:Sem α):=.halt _
def Rj(n:Nat):Calm (askRoom n):=by
 simp_all[askRoom,bind,Z2,yA,Calm.map,Z4]
def QT(r:Nat):Calm (viewAt r):=by
 unfold viewAt
 repeat' first|(with_reducible refine .bind ?_ λ_=> ?_)|(intro _)|with_reducible exact Z2 .. |with_reducible exact YT .. |with_reducible exact LN .. |(with_reducible refine Calm.map ?_)|(with_reducible refine Z4 ?_ ?_)|split|dsimp only
def Tz(r:Nat):Calm (numberAt r):=by
 unfold numberAt
 repeat' first|(with_reducible refine .bind ?_ λ_=> ?_)|(intro _)|with_reducible exact Z2 .. |with_reducible exact YT .. |with_reducible exact LN .. |(with_reducible refine Calm.map ?_)|(with_reducible refine Z4 ?_ ?_)|split|dsimp only
def QQ(a:Addr):Calm (noView a):=by
 unfold noView
 repeat' first|(with_reducible refine .bind ?_ λ_=> ?_)|(intro _)|with_reducible exact Z2 .. |with_reducible exact Zu .. |with_reducible exact QT .. |(with_reducible refine Calm.map ?_)|(with_reducible refine Z4 ?_ ?_)|split|dsimp only
def LM(a:Addr)(l:Bool):Calm (asNumber a l):=by
 unfold asNumber
 repeat' first|(with_reducible refine .bind ?_ λ_=> ?_)|(intro _)|with_reducible exact Z2 .. |simp_all[LR] |(with_reducible refine Calm.map ?_)|(with_reducible refine Z4 ?_ ?_)|split|dsimp only
def UU(a:Addr):Calm (behindNumber a):=by
 unfold behindNumber
 repeat' first|(with_reducible refine .bind ?_ λ_=> ?_)|(intro _)|with_reducible exact Z2 .. |simp_all[Tz] |(with_reducible refine Calm.map ?_)|(with_reducible refine Z4 ?_ ?_)|split|dsimp only
def Km(a:Addr):Calm (stringish a):=by
 unfold stringish
 repeat' first|(with_reducible refine .bind ?_ λ_=> ?_)|(intro _)|with_reducible exact Z2 .. |with_reducible exact YT .. |with_reducible exact UW .. |(with_reducible refine Calm.map ?_)|(with_reducible refine Z4 ?_ ?_)|split|dsimp only
def LP(a b:Addr):Calm (mayBeOne a b):=by
 unfold mayBeOne
 repeat' first|(with_reducible refine .bind ?_ λ_=> ?_)|(intro _)|with_reducible exact Z2 .. |with_reducible exact YT .. |with_reducible exact Km .. |(with_reducible refine Calm.map ?_)|(with_reducible refine Z4 ?_ ?_)|split|dsimp only
def TA(a b:Addr):Calm (sameAddr a b):=by
 unfold sameAddr
 repeat' first|(with_reducible refine .bind ?_ λ_=> ?_)|(intro _)|with_reducible exact Z2 .. |with_reducible exact UW .. |with_reducible exact Yv .. |with_reducible exact Zu .. |with_reducible exact QQ .. |with_reducible exact LP .. |(with_reducible refine Calm.map ?_)|(with_reducible refine Z4 ?_ ?_)|split|dsimp only
def RU(a b:Option Addr):Calm (samePointer a b):=by
 unfold samePointer
 repeat' first|(with_reducible refine .bind ?_ λ_=> ?_)|(intro _)|with_reducible exact Z2 .. |with_reducible exact TA .. |(with_reducible refine Calm.map ?_)|(with_reducible refine Z4 ?_ ?_)|split|dsimp only
def Yk(t:TypeId):Calm (typeInfo t):=by
 unfold typeInfo
 repeat' first|(with_reducible refine .bind ?_ λ_=> ?_)|(intro _)|with_reducible exact Z2 .. |with_reducible exact Xs .. |with_reducible exact Z7 .. |(with_reducible refine Calm.map ?_)|(with_reducible refine Z4 ?_ ?_)|split|dsimp only
def Zh(t:TypeId):Calm (underlying t):=by
 unfold underlying
 repeat' first|(with_reducible refine .bind ?_ λ_=> ?_)|(intro _)|with_reducible exact Z2 .. |with_reducible exact Xs .. |with_reducible exact Z7 .. |(with_reducible refine Calm.map ?_)|(with_reducible refine Z4 ?_ ?_)|split|dsimp only
def yD(t:TypeId):Calm (typeStr t):=by
 unfold typeStr
 repeat' first|(with_reducible refine .bind ?_ λ_=> ?_)|(intro _)|with_reducible exact Z2 .. |with_reducible exact Zu .. |simp_all[Yk] |(with_reducible refine Calm.map ?_)|(with_reducible refine Z4 ?_ ?_)|split|dsimp only
def YK(t:TypeId):Calm (zeroValue t):=by
 unfold zeroValue
 repeat' first|(with_reducible refine .bind ?_ λ_=> ?_)|(intro _)|with_reducible exact Z2 .. |with_reducible exact Zu .. |simp_all[Yk] |(with_reducible refine Calm.map ?_)|(with_reducible refine Z4 ?_ ?_)|split|dsimp only
def ZE(t:TypeId):Calm (Go.sizeOf t):=by
 unfold Go.sizeOf
 repeat' first|(with_reducible refine .bind ?_ λ_=> ?_)|(intro _)|with_reducible exact Z2 .. |simp_all[Yk] |(with_reducible refine Calm.map ?_)|(with_reducible refine Z4 ?_ ?_)|split|dsimp only
def KQ(t:TypeId):Calm (isAgg t):=by
 unfold isAgg
 repeat' first|(with_reducible refine .bind ?_ λ_=> ?_)|(intro _)|with_reducible exact Z2 .. |with_reducible exact Zh .. |(with_reducible refine Calm.map ?_)|(with_reducible refine Z4 ?_ ?_)|split|dsimp only
def Tx(a:Addr):∀(n i:Nat) (acc:Array Value),Calm (loadCellsFrom a i n acc)
 |0,_,_=>.pure _
 |n+1,i,acc=>(yu _ _).bind λv=>Tx a n _ _
def UI(a:Addr)(n:Nat):Calm (loadCells a n):=by
 simp_all[loadCells,bind,Z2,Tx,Calm.map,Z4]
def XW(a:Addr):∀(vs:List Value) (i:Nat),Calm (storeCells a vs i)
 | [],_=>.pure _
 |v::vs,i=>(Z3d _ _ _).bind λ_=>XW a vs _
def Ro(t:TypeId)(a:Addr):Calm (loadVar t a):=by
 unfold loadVar
 repeat' first|(with_reducible refine .bind ?_ λ_=> ?_)|(intro _)|with_reducible exact Z2 .. |with_reducible exact yu .. |with_reducible exact ZE .. |with_reducible exact KQ .. |with_reducible exact UI .. |(with_reducible refine Calm.map ?_)|(with_reducible refine Z4 ?_ ?_)|split|dsimp only
def TB(t:TypeId)(a:Addr)(v:Value):Calm (storeVar t a v):=by
 unfold storeVar
 repeat' first|(with_reducible refine .bind ?_ λ_=> ?_)|(intro _)|with_reducible exact Z2 .. |with_reducible exact Z7 .. |with_reducible exact ZE .. |with_reducible exact XW .. |(with_reducible refine Calm.map ?_)|(with_reducible refine Z4 ?_ ?_)|split|dsimp only
def V8(t:TypeId)(cs:Array Value):Calm (newRow t cs):=by
 unfold newRow
 repeat' first|(with_reducible refine .bind ?_ λ_=> ?_)|(intro _)|with_reducible exact Z2 .. |simp_all[LR] |(with_reducible refine Calm.map ?_)|(with_reducible refine Z4 ?_ ?_)|split|dsimp only
def UX(t:TypeId)(v:Value):Calm (newVar t v):=by
 simp_all[newVar,bind,Z2,V8,Calm.map,Z4]
def jY(t:TypeId):Calm (elemOf t):=by
 unfold elemOf
 repeat' first|(with_reducible refine .bind ?_ λ_=> ?_)|(intro _)|with_reducible exact Z2 .. |with_reducible exact Z7 .. |with_reducible exact Zh .. |(with_reducible refine Calm.map ?_)|(with_reducible refine Z4 ?_ ?_)|split|dsimp only
def XV(t:TypeId)(cs:Array Value)(n:Nat):Calm (part t cs n):=by
 unfold part
 repeat' first|(with_reducible refine .bind ?_ λ_=> ?_)|(intro _)|with_reducible exact Z2 .. |with_reducible exact Z7 .. |with_reducible exact ZE .. |with_reducible exact KQ .. |(with_reducible refine Calm.map ?_)|(with_reducible refine Z4 ?_ ?_)|split|dsimp only
theorem Yh{α:Type}(e:RuntimeError):Calm (runtimePanic e:Sem α):=by
 unfold runtimePanic
 repeat' first|(with_reducible refine .bind ?_ λ_=> ?_)|(intro _)|with_reducible exact Z2 .. |with_reducible exact Xs .. |with_reducible exact Z3b .. |simp_all[UX] |with_reducible exact jY .. |(with_reducible refine Calm.map ?_)|(with_reducible refine Z4 ?_ ?_)|split|dsimp only
def UV{α:Type}(k:IntKind)(x y:Int)(c:BoundsCode):Calm (boundsPanic k x y c:Sem α):=by
 unfold boundsPanic;dsimp only;split
 ·exact .bind (Yv _).map λ_=>Yh _
 grind [bind,pure,Yh]
def Wk(v:Value):Calm (asIntOf v):=by
 unfold asIntOf
 repeat' first|(with_reducible refine .bind ?_ λ_=> ?_)|(intro _)|with_reducible exact Z2 .. |with_reducible exact Z7 .. |with_reducible exact Zu .. |(with_reducible refine Calm.map ?_)|(with_reducible refine Z4 ?_ ?_)|split|dsimp only
def WG(v:Value):Calm (asInt v):=by
 unfold asInt
 repeat' first|(with_reducible refine .bind ?_ λ_=> ?_)|(intro _)|with_reducible exact Z2 .. |simp_all[Wk] |(with_reducible refine Calm.map ?_)|(with_reducible refine Z4 ?_ ?_)|split|dsimp only
def UT(v:Value):Calm (asBool v):=by
 unfold asBool
 repeat' first|(with_reducible refine .bind ?_ λ_=> ?_)|(intro _)|with_reducible exact Z2 .. |with_reducible exact Z7 .. |(with_reducible refine Calm.map ?_)|(with_reducible refine Z4 ?_ ?_)|split|dsimp only
def Z33(v:Value):Calm (asAgg v):=by
 unfold asAgg
 repeat' first|(with_reducible refine .bind ?_ λ_=> ?_)|(intro _)|with_reducible exact Z2 .. |with_reducible exact Z7 .. |(with_reducible refine Calm.map ?_)|(with_reducible refine Z4 ?_ ?_)|split|dsimp only
def QK(v:Value):Calm (asAddr v):=by
 unfold asAddr
 repeat' first|(with_reducible refine .bind ?_ λ_=> ?_)|(intro _)|with_reducible exact Z2 .. |with_reducible exact Z7 .. |with_reducible exact Yh .. |(with_reducible refine Calm.map ?_)|(with_reducible refine Z4 ?_ ?_)|split|dsimp only
def X1(v:Value):Calm (Instr.sureAddr v):=by
 unfold Instr.sureAddr
 repeat' first|(with_reducible refine .bind ?_ λ_=> ?_)|(intro _)|with_reducible exact Z2 .. |with_reducible exact Z7 .. |(with_reducible refine Calm.map ?_)|(with_reducible refine Z4 ?_ ?_)|split|dsimp only
def V0(a:Addr):Calm (byteOf a):=by
 unfold byteOf
 repeat' first|(with_reducible refine .bind ?_ λ_=> ?_)|(intro _)|with_reducible exact Z2 .. |with_reducible exact YT .. |with_reducible exact Xs .. |with_reducible exact Z7 .. |with_reducible exact QQ .. |(with_reducible refine Calm.map ?_)|(with_reducible refine Z4 ?_ ?_)|split|dsimp only
def Z05(a:Addr)(c b:Nat):Calm (partAt a c b):=by
 unfold partAt
 repeat' first|(with_reducible refine .bind ?_ λ_=> ?_)|(intro _)|with_reducible exact Z2 .. |with_reducible exact V0 .. |(with_reducible refine Calm.map ?_)|(with_reducible refine Z4 ?_ ?_)|split|dsimp only
def QO(a:Addr)(f:Field):Calm (fieldPlace a f):=by
 unfold fieldPlace
 repeat' first|(with_reducible refine .bind ?_ λ_=> ?_)|(intro _)|with_reducible exact Z2 .. |with_reducible exact ZE .. |with_reducible exact Z05 .. |(with_reducible refine Calm.map ?_)|(with_reducible refine Z4 ?_ ?_)|split|dsimp only
def Z32(t:TypeId)(b:Bool)(v:Value):Calm (Instr.alloc t b v):=by
 unfold Instr.alloc
 repeat' first|(with_reducible refine .bind ?_ λ_=> ?_)|(intro _)|with_reducible exact Z2 .. |with_reducible exact YK .. |with_reducible exact TB .. |simp_all[UX] |(with_reducible refine Calm.map ?_)|(with_reducible refine Z4 ?_ ?_)|split|dsimp only
def Z7n(t:TypeId)(v:Value):Calm (Instr.box t v):=by
 unfold Instr.box
 repeat' first|(with_reducible refine .bind ?_ λ_=> ?_)|(intro _)|with_reducible exact Z2 .. |simp_all[UX] |(with_reducible refine Calm.map ?_)|(with_reducible refine Z4 ?_ ?_)|split|dsimp only
def Z01(t:TypeId)(v:Value):Calm (Instr.loadAt t v):=by
 unfold Instr.loadAt
 repeat' first|(with_reducible refine .bind ?_ λ_=> ?_)|(intro _)|with_reducible exact Z2 .. |with_reducible exact Ro .. |simp_all[X1] |(with_reducible refine Calm.map ?_)|(with_reducible refine Z4 ?_ ?_)|split|dsimp only
def yC(t:TypeId)(v x:Value):Calm (Instr.storeAt t v x):=by
 unfold Instr.storeAt
 repeat' first|(with_reducible refine .bind ?_ λ_=> ?_)|(intro _)|with_reducible exact Z2 .. |with_reducible exact TB .. |simp_all[X1] |(with_reducible refine Calm.map ?_)|(with_reducible refine Z4 ?_ ?_)|split|dsimp only
def VK(v:Value)(i:Nat):Calm (Instr.extract v i):=by
 unfold Instr.extract
 repeat' first|(with_reducible refine .bind ?_ λ_=> ?_)|(intro _)|with_reducible exact Z2 .. |with_reducible exact Z7 .. |(with_reducible refine Calm.map ?_)|(with_reducible refine Z4 ?_ ?_)|split|dsimp only
def Ty(t:TypeId)(v:Value):Calm (Instr.makeInterface t v):=by
 unfold Instr.makeInterface
 repeat' first|(with_reducible refine .bind ?_ λ_=> ?_)|(intro _)|with_reducible exact Z2 .. |with_reducible exact Z7 .. |with_reducible exact Zh .. |(with_reducible refine Calm.map ?_)|(with_reducible refine Z4 ?_ ?_)|split|dsimp only
def LO(f:Fn)(a b:Array Value):Calm (Instr.makeFunc f a b):=by
 simp_all[Instr.makeFunc,bind,Z2,Calm.map,Z4]
def yw(t:TypeId)(r:Option Value):Calm (Instr.makeMap t r):=by
 unfold Instr.makeMap
 repeat' first|(with_reducible refine .bind ?_ λ_=> ?_)|(intro _)|with_reducible exact Z2 .. |simp_all[LR] |with_reducible exact Z7 .. |with_reducible exact Zh .. |with_reducible exact WG .. |(with_reducible refine Calm.map ?_)|(with_reducible refine Z4 ?_ ?_)|split|dsimp only
def Sw(t:TypeId)(x:Value)(f:Nat):Calm (Instr.field t x f):=by
 unfold Instr.field
 repeat' first|(with_reducible refine .bind ?_ λ_=> ?_)|(intro _)|with_reducible exact Z2 .. |with_reducible exact Z7 .. |with_reducible exact Zh .. |with_reducible exact XV .. |with_reducible exact Z33 .. |(with_reducible refine Calm.map ?_)|(with_reducible refine Z4 ?_ ?_)|split|dsimp only
def KP(t:TypeId)(x i:Value):Calm (Instr.index t x i):=by
 unfold Instr.index
 repeat' first|(with_reducible refine .bind ?_ λ_=> ?_)|(intro _)|with_reducible exact Z2 .. |with_reducible exact Z7 .. |with_reducible exact Zh .. |with_reducible exact ZE .. |with_reducible exact XV .. |with_reducible exact UV .. |simp_all[Wk] |(with_reducible refine Calm.map ?_)|(with_reducible refine Z4 ?_ ?_)|split|dsimp only
def QR(x:Value)(y:Nat)(c:BoundsCode):Calm (Instr.sliceBound x y c):=by
 unfold Instr.sliceBound
 repeat' first|(with_reducible refine .bind ?_ λ_=> ?_)|(intro _)|with_reducible exact Z2 .. |with_reducible exact UV .. |simp_all[Wk] |(with_reducible refine Calm.map ?_)|(with_reducible refine Z4 ?_ ?_)|split|dsimp only
def Vy(b:Bool)(n c:Nat)(l h m:Option Value):Calm (Instr.sliceBounds b n c l h m):=by
 unfold Instr.sliceBounds
 repeat' first|(with_reducible refine .bind ?_ λ_=> ?_)|(intro _)|with_reducible exact Z2 .. |with_reducible exact Z7 .. |with_reducible exact QR .. |(with_reducible refine Calm.map ?_)|(with_reducible refine Z4 ?_ ?_)|split|dsimp only
def yq(t:TypeId)(x:Value)(f:Nat):Calm (Instr.fieldAt t x f):=by
 unfold Instr.fieldAt
 repeat' first|(with_reducible refine .bind ?_ λ_=> ?_)|(intro _)|with_reducible exact Z2 .. |with_reducible exact Z7 .. |with_reducible exact Zh .. |simp_all[X1] |with_reducible exact QO .. |with_reducible exact Sw .. |(with_reducible refine Calm.map ?_)|(with_reducible refine Z4 ?_ ?_)|split|dsimp only
def yr(t:TypeId)(x i:Value):Calm (Instr.indexAt t x i):=by
 unfold Instr.indexAt
 repeat' first|(with_reducible refine .bind ?_ λ_=> ?_)|(intro _)|with_reducible exact Z2 .. |with_reducible exact Z7 .. |with_reducible exact Zu .. |with_reducible exact Zh .. |with_reducible exact ZE .. |with_reducible exact UV .. |simp_all[Wk] |simp_all[X1] |with_reducible exact KP .. |(with_reducible refine Calm.map ?_)|(with_reducible refine Z4 ?_ ?_)|split|dsimp only
def QP{α β:Type}{f:α->β->Sem (ForInStep β)}(hf:∀a b,Calm (f a b)):∀(l:List α) (b:β),Calm (forIn l b f)
 | [],b=>by simp only[List.forIn_nil];exact .pure _
 |a::l,b=>by
  rw[List.forIn_cons];refine(hf a b).bind λx=> ?_;cases x with
  |done b=>exact .pure _
  |yield b=>exact QP hf l b
def Zd{α β:Type}{f:α->β->Sem (ForInStep β)}(hf:∀a b,Calm (f a b))(l:Array α)(b:β):Calm (forIn l b f):=by
 rw[<-Array.forIn_toList];exact QP hf _ _
def Ze{β:Type}{f:Nat->β->Sem (ForInStep β)}(hf:∀a b,Calm (f a b))(r:Std.Legacy.Range)(b:β):Calm (forIn r b f):=by
 rw[Std.Legacy.Range.forIn_eq_forIn_range'];exact QP hf _ _
def Zc{α β:Type}{f:α->Sem β}(hf:∀a,Calm (f a))(l:Array α):Calm (l.mapM f):=by
 rw[Zi7];exact(yx hf _).map
def KO{α β:Type}{f:β->α->Sem β}(hf:∀b a,Calm (f b a)):∀(l:List α) (b:β),Calm (l.foldlM f b)
 | [],b=>.pure _
 |a::l,b=>by
  rw[Zkk];exact(hf b a).bind λb=>KO hf l b
def Z35(t:TypeId)(ps:Array (Nat×Value)):Calm (Instr.build t ps):=by
 unfold Instr.build
 repeat' first|(with_reducible refine .bind ?_ λ_=> ?_)|(intro _)|with_reducible exact Z2 .. |with_reducible exact Z7 .. |with_reducible exact Zh .. |with_reducible exact YK .. |with_reducible exact ZE .. |with_reducible exact XV .. |with_reducible exact Sw .. |(with_reducible refine Zc (λ_=> ?_) _)|(with_reducible refine Zd (λ_ _=> ?_) _ _)|(with_reducible refine Ze (λ_ _=> ?_) _ _)|(with_reducible refine Calm.map ?_)|(with_reducible refine Z4 ?_ ?_)|split|dsimp only
def QL(t:TypeId)(n:Nat)(ps:Array (Nat×Value)):Calm (Instr.buildSlice t n ps):=by
 unfold Instr.buildSlice
 repeat' first|(with_reducible refine .bind ?_ λ_=> ?_)|(intro _)|with_reducible exact Z2 .. |with_reducible exact Z7 .. |with_reducible exact Zu .. |with_reducible exact Zh .. |with_reducible exact YK .. |with_reducible exact ZE .. |with_reducible exact V8 .. |with_reducible exact XV .. |(with_reducible refine Zc (λ_=> ?_) _)|(with_reducible refine Zd (λ_ _=> ?_) _ _)|(with_reducible refine Ze (λ_ _=> ?_) _ _)|(with_reducible refine Calm.map ?_)|(with_reducible refine Z4 ?_ ?_)|split|dsimp only
def YU(t:TypeId)(x:Value)(l h m:Option Value):Calm (Instr.slice t x l h m):=by
 unfold Instr.slice
 repeat' first|(with_reducible refine .bind ?_ λ_=> ?_)|(intro _)|with_reducible exact Z2 .. |with_reducible exact Z7 .. |with_reducible exact Zh .. |with_reducible exact ZE .. |with_reducible exact QK .. |with_reducible exact VK .. |with_reducible exact Vy .. |(with_reducible refine Zc (λ_=> ?_) _)|(with_reducible refine Zd (λ_ _=> ?_) _ _)|(with_reducible refine Ze (λ_ _=> ?_) _ _)|(with_reducible refine Calm.map ?_)|(with_reducible refine Z4 ?_ ?_)|split|dsimp only
def yB(t:TypeId)(x:Value)(l h m:Option Value):Calm (Instr.sliceAt t x l h m):=by
 unfold Instr.sliceAt
 repeat' first|(with_reducible refine .bind ?_ λ_=> ?_)|(intro _)|with_reducible exact Z2 .. |with_reducible exact Zh .. |with_reducible exact ZE .. |with_reducible exact X1 .. |with_reducible exact Vy .. |with_reducible exact YU .. |(with_reducible refine Zc (λ_=> ?_) _)|(with_reducible refine Zd (λ_ _=> ?_) _ _)|(with_reducible refine Ze (λ_ _=> ?_) _ _)|(with_reducible refine Calm.map ?_)|(with_reducible refine Z4 ?_ ?_)|split|dsimp only
def Kl(t:TypeId)(x y:Value):Calm (Instr.makeSlice t x y):=by
 unfold Instr.makeSlice
 repeat' first|(with_reducible refine .bind ?_ λ_=> ?_)|(intro _)|with_reducible exact Z2 .. |with_reducible exact Yv .. |with_reducible exact Z7 .. |with_reducible exact Rj .. |with_reducible exact Yk .. |with_reducible exact Zh .. |with_reducible exact YK .. |with_reducible exact ZE .. |with_reducible exact V8 .. |with_reducible exact Yh .. |with_reducible exact WG .. |with_reducible exact YU .. |(with_reducible refine Zc (λ_=> ?_) _)|(with_reducible refine Zd (λ_ _=> ?_) _ _)|(with_reducible refine Ze (λ_ _=> ?_) _ _)|(with_reducible refine Calm.map ?_)|(with_reducible refine Z4 ?_ ?_)|split|dsimp only
def Z1I(ts:Array TypeId)(t:TypeId)(aq_:Array Value):Calm (Builtin.len_ ts t aq_):=by
 unfold Builtin.len_
 repeat' first|(with_reducible refine .bind ?_ λ_=> ?_)|(intro _)|with_reducible exact Z2 .. |with_reducible exact LN .. |with_reducible exact Z7 .. |with_reducible exact Zh .. |with_reducible exact YU .. |(with_reducible refine Zc (λ_=> ?_) _)|(with_reducible refine Zd (λ_ _=> ?_) _ _)|(with_reducible refine Ze (λ_ _=> ?_) _ _)|(with_reducible refine Calm.map ?_)|(with_reducible refine Z4 ?_ ?_)|split|dsimp only
theorem calm_holds(a:Addr)(n:Nat):Calm (Builtin.holdsCells a n):=by
 unfold Builtin.holdsCells
 repeat' first|(with_reducible refine .bind ?_ λ_=> ?_)|(intro _)|with_reducible exact Z2 .. |with_reducible exact YT .. |(with_reducible refine Zc (λ_=> ?_) _)|(with_reducible refine Zd (λ_ _=> ?_) _ _)|(with_reducible refine Ze (λ_ _=> ?_) _ _)|(with_reducible refine Calm.map ?_)|(with_reducible refine Z4 ?_ ?_)|split|dsimp only
def LQ(a b n:Nat)(o:Option Addr)(x:Value):Calm (Builtin.mayShare a b n o x):=by
 unfold Builtin.mayShare
 repeat' first|(with_reducible refine .bind ?_ λ_=> ?_)|(intro _)|with_reducible exact Z2 .. |with_reducible exact UW .. |with_reducible exact YU .. |with_reducible exact calm_holds .. |(with_reducible refine Zc (λ_=> ?_) _)|(with_reducible refine Zd (λ_ _=> ?_) _ _)|(with_reducible refine Ze (λ_ _=> ?_) _ _)|(with_reducible refine Calm.map ?_)|(with_reducible refine Z4 ?_ ?_)|split|dsimp only
def Z3a(x:Value):Calm (Builtin.lenOf x):=by
 unfold Builtin.lenOf
 repeat' first|(with_reducible refine .bind ?_ λ_=> ?_)|(intro _)|with_reducible exact Z2 .. |with_reducible exact Z7 .. |with_reducible exact YU .. |(with_reducible refine Zc (λ_=> ?_) _)|(with_reducible refine Zd (λ_ _=> ?_) _ _)|(with_reducible refine Ze (λ_ _=> ?_) _ _)|(with_reducible refine Calm.map ?_)|(with_reducible refine Z4 ?_ ?_)|split|dsimp only
def Z38(a n:Nat)(x:Value):Calm (Builtin.firstCells a n x):=by
 unfold Builtin.firstCells
 repeat' first|(with_reducible refine .bind ?_ λ_=> ?_)|(intro _)|with_reducible exact Z2 .. |with_reducible exact Z7 .. |with_reducible exact UI .. |with_reducible exact VK .. |with_reducible exact YU .. |(with_reducible refine Zc (λ_=> ?_) _)|(with_reducible refine Zd (λ_ _=> ?_) _ _)|(with_reducible refine Ze (λ_ _=> ?_) _ _)|(with_reducible refine Calm.map ?_)|(with_reducible refine Z4 ?_ ?_)|split|dsimp only
def jX(ts:Array TypeId)(t:TypeId)(aq_:Array Value):Calm (Builtin.append_ ts t aq_):=by
 unfold Builtin.append_
 repeat' first|(with_reducible refine .bind ?_ λ_=> ?_)|(intro _)|with_reducible exact Z2 .. |with_reducible exact Yv .. |with_reducible exact yA .. |with_reducible exact Z7 .. |with_reducible exact Zu .. |with_reducible exact Rj .. |with_reducible exact Yk .. |with_reducible exact Zh .. |with_reducible exact YK .. |with_reducible exact ZE .. |with_reducible exact XW .. |with_reducible exact V8 .. |with_reducible exact Yh .. |with_reducible exact WG .. |with_reducible exact YU .. |with_reducible exact LQ .. |with_reducible exact Z3a .. |with_reducible exact Z38 .. |(with_reducible refine Zc (λ_=> ?_) _)|(with_reducible refine Zd (λ_ _=> ?_) _ _)|(with_reducible refine Ze (λ_ _=> ?_) _ _)|(with_reducible refine Calm.map ?_)|(with_reducible refine Z4 ?_ ?_)|split|dsimp only
def Tw(op:BinOp)(k:IntKind)(x y:Int):Calm (Op.intArith op k x y):=by
 unfold Op.intArith
 repeat' first|(with_reducible refine .bind ?_ λ_=> ?_)|(intro _)|with_reducible exact Z2 .. |with_reducible exact Z7 .. |(with_reducible refine Zc (λ_=> ?_) _)|(with_reducible refine Zd (λ_ _=> ?_) _ _)|(with_reducible refine Ze (λ_ _=> ?_) _ _)|(with_reducible refine Calm.map ?_)|(with_reducible refine Z4 ?_ ?_)|split|dsimp only
def Z00(op:BinOp)(k:IntKind)(x y:Int):Calm (Op.intDiv op k x y):=by
 unfold Op.intDiv
 repeat' first|(with_reducible refine .bind ?_ λ_=> ?_)|(intro _)|with_reducible exact Z2 .. |with_reducible exact Z7 .. |with_reducible exact Yh .. |(with_reducible refine Zc (λ_=> ?_) _)|(with_reducible refine Zd (λ_ _=> ?_) _ _)|(with_reducible refine Ze (λ_ _=> ?_) _ _)|(with_reducible refine Calm.map ?_)|(with_reducible refine Z4 ?_ ?_)|split|dsimp only
def Rn(op:BinOp)(k:IntKind)(x y:Int):Calm (Op.intBits op k x y):=by
 unfold Op.intBits
 repeat' first|(with_reducible refine .bind ?_ λ_=> ?_)|(intro _)|with_reducible exact Z2 .. |with_reducible exact Z7 .. |(with_reducible refine Zc (λ_=> ?_) _)|(with_reducible refine Zd (λ_ _=> ?_) _ _)|(with_reducible refine Ze (λ_ _=> ?_) _ _)|(with_reducible refine Calm.map ?_)|(with_reducible refine Z4 ?_ ?_)|split|dsimp only
def jZ(op:BinOp)(x y:Int):Calm (Op.intCmp op x y):=by
 unfold Op.intCmp
 repeat' first|(with_reducible refine .bind ?_ λ_=> ?_)|(intro _)|with_reducible exact Z2 .. |with_reducible exact Z7 .. |(with_reducible refine Zc (λ_=> ?_) _)|(with_reducible refine Zd (λ_ _=> ?_) _ _)|(with_reducible refine Ze (λ_ _=> ?_) _ _)|(with_reducible refine Calm.map ?_)|(with_reducible refine Z4 ?_ ?_)|split|dsimp only
def Z3c(op:BinOp)(k k':IntKind)(x y:Int):Calm (Op.shift op k x k' y):=by
 unfold Op.shift
 repeat' first|(with_reducible refine .bind ?_ λ_=> ?_)|(intro _)|with_reducible exact Z2 .. |with_reducible exact Z7 .. |with_reducible exact Yh .. |(with_reducible refine Zc (λ_=> ?_) _)|(with_reducible refine Zd (λ_ _=> ?_) _ _)|(with_reducible refine Ze (λ_ _=> ?_) _ _)|(with_reducible refine Calm.map ?_)|(with_reducible refine Z4 ?_ ?_)|split|dsimp only
def QN(op:BinOp)(k:FloatKind)(x y:Nat):Calm (Op.floatArith op k x y):=by
 unfold Op.floatArith
 repeat' first|(with_reducible refine .bind ?_ λ_=> ?_)|(intro _)|with_reducible exact Z2 .. |with_reducible exact Yv .. |with_reducible exact Z7 .. |(with_reducible refine Zc (λ_=> ?_) _)|(with_reducible refine Zd (λ_ _=> ?_) _ _)|(with_reducible refine Ze (λ_ _=> ?_) _ _)|(with_reducible refine Calm.map ?_)|(with_reducible refine Z4 ?_ ?_)|split|dsimp only
def yp(op:BinOp)(k:FloatKind)(x y:Nat):Calm (Op.floatCmp op k x y):=by
 unfold Op.floatCmp
 repeat' first|(with_reducible refine .bind ?_ λ_=> ?_)|(intro _)|with_reducible exact Z2 .. |with_reducible exact Z7 .. |(with_reducible refine Zc (λ_=> ?_) _)|(with_reducible refine Zd (λ_ _=> ?_) _ _)|(with_reducible refine Ze (λ_ _=> ?_) _ _)|(with_reducible refine Calm.map ?_)|(with_reducible refine Z4 ?_ ?_)|split|dsimp only
def KR(op:BinOp)(x y:ByteArray):Calm (Op.stringOp op x y):=by
 unfold Op.stringOp
 repeat' first|(with_reducible refine .bind ?_ λ_=> ?_)|(intro _)|with_reducible exact Z2 .. |with_reducible exact Z7 .. |with_reducible exact Zu .. |(with_reducible refine Zc (λ_=> ?_) _)|(with_reducible refine Zd (λ_ _=> ?_) _ _)|(with_reducible refine Ze (λ_ _=> ?_) _ _)|(with_reducible refine Calm.map ?_)|(with_reducible refine Z4 ?_ ?_)|split|dsimp only
def Z3e(op:UnOp)(x:Value):Calm (Op.unary op x):=by
 unfold Op.unary
 repeat' first|(with_reducible refine .bind ?_ λ_=> ?_)|(intro _)|with_reducible exact Z2 .. |with_reducible exact Z7 .. |with_reducible exact Zu .. |with_reducible exact Tw .. |with_reducible exact Rn .. |(with_reducible refine Zc (λ_=> ?_) _)|(with_reducible refine Zd (λ_ _=> ?_) _ _)|(with_reducible refine Ze (λ_ _=> ?_) _ _)|(with_reducible refine Calm.map ?_)|(with_reducible refine Z4 ?_ ?_)|split|dsimp only
def XU(op:BinOp)(k:FloatKind)(x y:Nat):Calm (Op.Complex.arith op k x y):=by
 unfold Op.Complex.arith
 repeat' first|(with_reducible refine .bind ?_ λ_=> ?_)|(intro _)|with_reducible exact Z2 .. |with_reducible exact Z7 .. |with_reducible exact QN .. |(with_reducible refine Zc (λ_=> ?_) _)|(with_reducible refine Zd (λ_ _=> ?_) _ _)|(with_reducible refine Ze (λ_ _=> ?_) _ _)|(with_reducible refine Calm.map ?_)|(with_reducible refine Z4 ?_ ?_)|split|dsimp only
def yn(op:BinOp)(k:FloatKind)(x y:Nat):Calm (Op.Complex.cmp op k x y):=by
 unfold Op.Complex.cmp
 repeat' first|(with_reducible refine .bind ?_ λ_=> ?_)|(intro _)|with_reducible exact Z2 .. |with_reducible exact UT .. |with_reducible exact yp .. |(with_reducible refine Zc (λ_=> ?_) _)|(with_reducible refine Zd (λ_ _=> ?_) _ _)|(with_reducible refine Ze (λ_ _=> ?_) _ _)|(with_reducible refine Calm.map ?_)|(with_reducible refine Z4 ?_ ?_)|split|dsimp only
def Z7o(s:FloatKind)(x:Nat)(d:FloatKind):Calm (Conv.floatToFloat s x d):=by
 unfold Conv.floatToFloat
 repeat' first|(with_reducible refine .bind ?_ λ_=> ?_)|(intro _)|with_reducible exact Z2 .. |with_reducible exact Yv .. |(with_reducible refine Zc (λ_=> ?_) _)|(with_reducible refine Zd (λ_ _=> ?_) _ _)|(with_reducible refine Ze (λ_ _=> ?_) _ _)|(with_reducible refine Calm.map ?_)|(with_reducible refine Z4 ?_ ?_)|split|dsimp only
def Z36(s:FloatKind)(x:Nat)(d:FloatKind):Calm (Op.Complex.conv s x d):=by
 unfold Op.Complex.conv
 repeat' first|(with_reducible refine .bind ?_ λ_=> ?_)|(intro _)|with_reducible exact Z2 .. |with_reducible exact Z7 .. |with_reducible exact Z7o .. |(with_reducible refine Zc (λ_=> ?_) _)|(with_reducible refine Zd (λ_ _=> ?_) _ _)|(with_reducible refine Ze (λ_ _=> ?_) _ _)|(with_reducible refine Calm.map ?_)|(with_reducible refine Z4 ?_ ?_)|split|dsimp only
def VH(x y:Nat):Calm (Op.Complex.add x y):=XU ..
def VJ(x y:Nat):Calm (Op.Complex.sub x y):=XU ..
def VI(x y:Nat):Calm (Op.Complex.mul x y):=XU ..
def QM(x y:Nat):Calm (Op.Complex.quo x y):=XU ..
def yz(a b c d:Nat):Calm (Op.Complex.product a b c d):=by
 unfold Op.Complex.product
 repeat' first|(with_reducible refine .bind ?_ λ_=> ?_)|(intro _)|with_reducible exact Z2 .. |with_reducible exact VH .. |with_reducible exact VJ .. |with_reducible exact VI .. |(with_reducible refine Zc (λ_=> ?_) _)|(with_reducible refine Zd (λ_ _=> ?_) _ _)|(with_reducible refine Ze (λ_ _=> ?_) _ _)|(with_reducible refine Calm.map ?_)|(with_reducible refine Z4 ?_ ?_)|split|dsimp only
def Kk(s a b c d:Nat):Calm (Op.Complex.corrected s a b c d):=by
 unfold Op.Complex.corrected
 repeat' first|(with_reducible refine .bind ?_ λ_=> ?_)|(intro _)|with_reducible exact Z2 .. |with_reducible exact VH .. |with_reducible exact VJ .. |with_reducible exact VI .. |(with_reducible refine Zc (λ_=> ?_) _)|(with_reducible refine Zd (λ_ _=> ?_) _ _)|(with_reducible refine Ze (λ_ _=> ?_) _ _)|(with_reducible refine Calm.map ?_)|(with_reducible refine Z4 ?_ ?_)|split|dsimp only
def LT(a b c d:Nat):Calm (Op.Complex.quotient a b c d):=by
 unfold Op.Complex.quotient
 repeat' first|(with_reducible refine .bind ?_ λ_=> ?_)|(intro _)|with_reducible exact Z2 .. |with_reducible exact yn .. |with_reducible exact VH .. |with_reducible exact VJ .. |with_reducible exact VI .. |with_reducible exact QM .. |with_reducible exact Kk .. |(with_reducible refine Zc (λ_=> ?_) _)|(with_reducible refine Zd (λ_ _=> ?_) _ _)|(with_reducible refine Ze (λ_ _=> ?_) _ _)|(with_reducible refine Calm.map ?_)|(with_reducible refine Z4 ?_ ?_)|split|dsimp only
def Kj(op:BinOp)(k:FloatKind)(a b c d:Nat):Calm (Op.complexOp op k a b c d):=by
 unfold Op.complexOp
 repeat' first|(with_reducible refine .bind ?_ λ_=> ?_)|(intro _)|with_reducible exact Z2 .. |with_reducible exact Z7 .. |with_reducible exact XU .. |with_reducible exact yn .. |with_reducible exact Z36 .. |with_reducible exact VH .. |with_reducible exact VJ .. |with_reducible exact VI .. |with_reducible exact QM .. |with_reducible exact yz .. |with_reducible exact LT .. |(with_reducible refine Zc (λ_=> ?_) _)|(with_reducible refine Zd (λ_ _=> ?_) _ _)|(with_reducible refine Ze (λ_ _=> ?_) _ _)|(with_reducible refine Calm.map ?_)|(with_reducible refine Z4 ?_ ?_)|split|dsimp only
def QS(ts:Array TypeId)(t:TypeId)(p:Option Addr)(b:Value):Calm (Builtin.unsafeAdd_ ts t #[.pointer p,b]):=by
 unfold Builtin.unsafeAdd_;refine .bind (WG b) λn=> ?_;dsimp only
 repeat' first|(with_reducible refine .bind ?_ λ_=> ?_)|(intro _)|with_reducible exact Z2 .. |with_reducible exact YT .. |with_reducible exact Xs .. |with_reducible exact Z7 .. |with_reducible exact Zu .. |with_reducible exact QT .. |with_reducible exact WG .. |with_reducible exact Z1I .. |(with_reducible refine Zc (λ_=> ?_) _)|(with_reducible refine Zd (λ_ _=> ?_) _ _)|(with_reducible refine Ze (λ_ _=> ?_) _ _)|(with_reducible refine Calm.map ?_)|(with_reducible refine Z4 ?_ ?_)|split|dsimp only
def UK(ts:Array TypeId)(t:TypeId)(aq_:Array Value):Calm (Builtin.unsafeAdd_ ts t aq_):=by
 obtain⟨l⟩:=aq_;rcases l with _|⟨a,_|⟨b,_|⟨c,r⟩⟩⟩
 ·exact Z7 _
 ·exact Z7 _
 ·cases a<;>first|exact Z7 _|exact QS ..
 ·exact Z7 _
def Z02(t:TypeId)(x y:Value):Calm (movedNumber t x y):=by
 unfold movedNumber
 repeat' first|(with_reducible refine .bind ?_ λ_=> ?_)|(intro _)|with_reducible exact Z2 .. |with_reducible exact Zu .. |with_reducible exact LM .. |with_reducible exact UU .. |with_reducible exact Zh .. |with_reducible exact UK .. |(with_reducible refine Zc (λ_=> ?_) _)|(with_reducible refine Zd (λ_ _=> ?_) _ _)|(with_reducible refine Ze (λ_ _=> ?_) _ _)|(with_reducible refine Calm.map ?_)|(with_reducible refine Z4 ?_ ?_)|split|dsimp only
def Z03(t:TypeId)(x y:Value):Calm (movedPointer t x y):=by
 unfold movedPointer
 repeat' first|(with_reducible refine .bind ?_ λ_=> ?_)|(intro _)|with_reducible exact Z2 .. |with_reducible exact Zu .. |with_reducible exact Tz .. |with_reducible exact UK .. |(with_reducible refine Zc (λ_=> ?_) _)|(with_reducible refine Zd (λ_ _=> ?_) _ _)|(with_reducible refine Ze (λ_ _=> ?_) _ _)|(with_reducible refine Calm.map ?_)|(with_reducible refine Z4 ?_ ?_)|split|dsimp only
def UJ(a b:Addr):Calm (Op.twoPlaces a b):=by
 unfold Op.twoPlaces
 repeat' first|(with_reducible refine .bind ?_ λ_=> ?_)|(intro _)|with_reducible exact Z2 .. |with_reducible exact Xs .. |with_reducible exact Zu .. |with_reducible exact V0 .. |(with_reducible refine Zc (λ_=> ?_) _)|(with_reducible refine Zd (λ_ _=> ?_) _ _)|(with_reducible refine Ze (λ_ _=> ?_) _ _)|(with_reducible refine Calm.map ?_)|(with_reducible refine Z4 ?_ ?_)|split|dsimp only
def ym(k:IntKind)(a b:Addr):Calm (Op.addrSub k a b):=by
 unfold Op.addrSub
 repeat' first|(with_reducible refine .bind ?_ λ_=> ?_)|(intro _)|with_reducible exact Z2 .. |with_reducible exact UJ .. |(with_reducible refine Zc (λ_=> ?_) _)|(with_reducible refine Zd (λ_ _=> ?_) _ _)|(with_reducible refine Ze (λ_ _=> ?_) _ _)|(with_reducible refine Calm.map ?_)|(with_reducible refine Z4 ?_ ?_)|split|dsimp only
def yk(op:BinOp)(a b:Addr):Calm (Op.addrCmp op a b):=by
 unfold Op.addrCmp
 repeat' first|(with_reducible refine .bind ?_ λ_=> ?_)|(intro _)|with_reducible exact Z2 .. |with_reducible exact Zu .. |with_reducible exact UJ .. |(with_reducible refine Zc (λ_=> ?_) _)|(with_reducible refine Zd (λ_ _=> ?_) _ _)|(with_reducible refine Ze (λ_ _=> ?_) _ _)|(with_reducible refine Calm.map ?_)|(with_reducible refine Z4 ?_ ?_)|split|dsimp only
def yl(k:IntKind)(a:Addr)(n:Int):Calm (Op.addrMod k a n):=by
 unfold Op.addrMod
 repeat' first|(with_reducible refine .bind ?_ λ_=> ?_)|(intro _)|with_reducible exact Z2 .. |with_reducible exact YT .. |with_reducible exact Zu .. |with_reducible exact Yk .. |with_reducible exact V0 .. |(with_reducible refine Zc (λ_=> ?_) _)|(with_reducible refine Zd (λ_ _=> ?_) _ _)|(with_reducible refine Ze (λ_ _=> ?_) _ _)|(with_reducible refine Calm.map ?_)|(with_reducible refine Z4 ?_ ?_)|split|dsimp only
def Rl:∀(n:Nat) (t:TypeId) (x y:Value),Calm (Op.equalIn n t x y)
 |0,_,_,_=>.halt _
 |n+1,t,x,y=>by
  have ih:=Rl n;unfold Op.equalIn
  repeat' first|with_reducible exact ih _ _ _|(with_reducible refine .bind ?_ λ_=> ?_)|(intro _)|with_reducible exact Z2 .. |with_reducible exact Yv .. |with_reducible exact Xs .. |with_reducible exact Z7 .. |with_reducible exact Zu .. |with_reducible exact UU .. |with_reducible exact TA .. |with_reducible exact RU .. |with_reducible exact Yk .. |with_reducible exact Zh .. |with_reducible exact yD .. |with_reducible exact ZE .. |with_reducible exact XV .. |with_reducible exact Yh .. |with_reducible exact V0 .. |with_reducible exact YU .. |(with_reducible refine Zc (λ_=> ?_) _)|(with_reducible refine Zd (λ_ _=> ?_) _ _)|(with_reducible refine Ze (λ_ _=> ?_) _ _)|(with_reducible refine Calm.map ?_)|(with_reducible refine Z4 ?_ ?_)|split|dsimp only
def Rm:∀(n:Nat) (t:TypeId) (x y:Value),Calm (Op.eqGuardIn n t x y)
 |0,_,_,_=>.halt _
 |n+1,t,x,y=>by
  have ih:=Rm n;unfold Op.eqGuardIn
  repeat' first|with_reducible exact ih _ _ _|(with_reducible refine .bind ?_ λ_=> ?_)|(intro _)|with_reducible exact Z2 .. |with_reducible exact Zu .. |with_reducible exact Zh .. |with_reducible exact ZE .. |with_reducible exact XV .. |(with_reducible refine Zc (λ_=> ?_) _)|(with_reducible refine Zd (λ_ _=> ?_) _ _)|(with_reducible refine Ze (λ_ _=> ?_) _ _)|(with_reducible refine Calm.map ?_)|(with_reducible refine Z4 ?_ ?_)|split|dsimp only
def Z37(t:TypeId)(x y:Value):Calm (Op.equal t x y):=by
 unfold Op.equal
 repeat' first|(with_reducible refine .bind ?_ λ_=> ?_)|(intro _)|with_reducible exact Z2 .. |with_reducible exact Rl .. |(with_reducible refine Zc (λ_=> ?_) _)|(with_reducible refine Zd (λ_ _=> ?_) _ _)|(with_reducible refine Ze (λ_ _=> ?_) _ _)|(with_reducible refine Calm.map ?_)|(with_reducible refine Z4 ?_ ?_)|split|dsimp only
def Z39(op:BinOp)(t:TypeId)(x y:Operand)(a b:Value):Calm (eqGuard op t x y a b):=by
 unfold eqGuard
 repeat' first|(with_reducible refine .bind ?_ λ_=> ?_)|(intro _)|with_reducible exact Z2 .. |with_reducible exact Xs .. |with_reducible exact Zu .. |with_reducible exact XV .. |with_reducible exact Rm .. |(with_reducible refine Zc (λ_=> ?_) _)|(with_reducible refine Zd (λ_ _=> ?_) _ _)|(with_reducible refine Ze (λ_ _=> ?_) _ _)|(with_reducible refine Calm.map ?_)|(with_reducible refine Z4 ?_ ?_)|split|dsimp only
def Z34(op:BinOp)(t:TypeId)(x y:Value):Calm (binOp op t x y):=by
 unfold binOp
 repeat' first|(with_reducible refine .bind ?_ λ_=> ?_)|(intro _)|with_reducible exact Z2 .. |with_reducible exact Z7 .. |with_reducible exact Zu .. |with_reducible exact UU .. |with_reducible exact Zh .. |with_reducible exact Tw .. |with_reducible exact Z00 .. |with_reducible exact Rn .. |with_reducible exact jZ .. |with_reducible exact Z3c .. |with_reducible exact QN .. |with_reducible exact yp .. |with_reducible exact KR .. |with_reducible exact VH .. |with_reducible exact VJ .. |with_reducible exact VI .. |with_reducible exact QM .. |with_reducible exact Kj .. |with_reducible exact Z02 .. |with_reducible exact Z03 .. |with_reducible exact ym .. |with_reducible exact yk .. |with_reducible exact yl .. |with_reducible exact Z37 .. |(with_reducible refine Zc (λ_=> ?_) _)|(with_reducible refine Zd (λ_ _=> ?_) _ _)|(with_reducible refine Ze (λ_ _=> ?_) _ _)|(with_reducible refine Calm.map ?_)|(with_reducible refine Z4 ?_ ?_)|split|dsimp only
def Z4G(x y:Value):Calm (Builtin.min2 x y):=by
 unfold Builtin.min2
 repeat' first|(with_reducible refine .bind ?_ λ_=> ?_)|(intro _)|with_reducible exact Z2 .. |with_reducible exact Yv .. |with_reducible exact Z7 .. |with_reducible exact Zu .. |with_reducible exact UT .. |with_reducible exact KR .. |(with_reducible refine Zc (λ_=> ?_) _)|(with_reducible refine Zd (λ_ _=> ?_) _ _)|(with_reducible refine Ze (λ_ _=> ?_) _ _)|(with_reducible refine Calm.map ?_)|(with_reducible refine Z4 ?_ ?_)|split|dsimp only
def Z7p(ts:Array TypeId)(t:TypeId)(aq_:Array Value):Calm (Builtin.min_ ts t aq_):=by
 unfold Builtin.min_;split
 ·exact .halt _
 ·exact KO Z4G _ _
def EvB(n:Nat)(e:Event):Prop:=EvC (λ_=>False) (λb=>b<n) e
def EvB.mono{n n':Nat}{e:Event}(h:EvB n e)(hn:n<=n'):EvB n' e:=by
 unfold EvB EvC at*;split<;>simp only[*]at h
 ·exact .inl (ZgV (h.resolve_right λx=>x.2) hn)
 ·exact ZgV h hn
 ·exact h
 ·trivial
def EvB.cell{n:Nat}{a:Addr}(h:a.block<n)(w s:Bool):EvB n ⟨.cell a,w,s⟩:=.inl h
def EvB.obj{n r:Nat}(h:r<n)(w s:Bool):EvB n ⟨.obj r,w,s⟩:=h
def LV{w:World}{a:Addr}{v:Value}(h:w.cell? a=some v):a.block<w.heap.size:=by
 obtain⟨_,c,e,fr,h1,_⟩:=WH h;exact(ZgO.1 h1).1
def Z2C{p:Program}{w:World}{at_:Addr}{u:TypeId}{k:Addr}{b:Bool}{r:Array Value×TypeId×(Nat×Nat)×Nat×Value×List (Nat×Nat×List UInt8)}(h:w.seen p at_ u k b=.ok r):at_.block<w.heap.size:=by
 rcases ZkF at_.block w.heap.size with h1|h1
 ·exact h1
 ·exfalso;have h2:w.heap[at_.block]?=none:=ZiW h1;unfold World.seen at h;simp only[h2,bind,Except.bind]at h
  repeat' split at h
  all_goals cases h
def Z0d{p:Program}{w:World}{a:Addr}{b:Bool}{v:Value}{l:List Addr}(h:w.farLoad p a b=.ok (v,l)):∀x∈l,x.block<w.heap.size:=by
 unfold World.farLoad at h;split at h
 ·split at h
  ·rename_i at_ u _ r e;cases h;unfold World.viewLoad at e;simp only[bind,Except.bind]at e;split at e
   ·cases e
   ·rename_i r hs;have hl:=Z2C hs
    repeat' split at e
    all_goals first|(cases e;done)|skip
    all_goals
     cases e;intro x hx;obtain⟨y,_,rfl⟩:=ZgX.1 hx;exact hl
  ·cases h
 ·cases h
def yL{p:Program}{w w':World}{a:Addr}{v:Value}{b:Bool}{l:List Addr}(h:w.farStore p a v b=.ok (w',l)):∀x∈l,x.block<w.heap.size:=by
 unfold World.farStore at h;split at h
 ·split at h
  ·rename_i at_ u _ r e;cases h;unfold World.viewStore at e;simp only[bind,Except.bind]at e;split at e
   ·cases e
   ·split at e
    ·cases e
    ·rename_i r hs;have hl:=Z2C hs
     repeat' split at e
     all_goals first|(cases e;done)|skip
     all_goals
      cases e;intro x hx;obtain⟨y,_,rfl⟩:=ZgX.1 hx;exact hl
  ·cases h
 ·cases h
def EvsB(n:Nat)(es:Array Event):Prop:=∀e∈es,EvB n e
def EvsB.mono{n n':Nat}{es:Array Event}(h:EvsB n es)(hn:n<=n'):EvsB n' es:=λe he=>(h e he).mono hn
def EvsB.push{n:Nat}{es:Array Event}{e:Event}(h:EvsB n es)(he:EvB n e):EvsB n (es.push e):=λx hx=>by
 rcases Zk7.1 hx with hx|rfl
 ·exact h x hx
 ·exact he
def EvsB.far{n:Nat}{es:Array Event}(h:EvsB n es){l:List Addr}(hl:∀x∈l,x.block<n)(b s:Bool):EvsB n (es++l.toArray.map (⟨.cell ·,b,s⟩)):=λx hx=>by
 rcases Zi9.1 hx with hx|hx
 ·exact h x hx
 ·obtain⟨a,ha,rfl⟩:=ZiG.1 hx;exact .cell (hl a (by simpa using ha)) _ _
def Calm.evs{α:Type}{p:Program}{s:Sem α}(h:Calm s):∀(w:World) (es:Array Event),EvsB w.heap.size es->EvsB (wdR (s.run p w)).heap.size (s.runT p w es).2:=by
 induction h with
 |pure a=>intro w es h;exact h
 |halt x=>intro w es h;exact h
 |load _ ih=>
  intro w es h;unfold Sem.run Sem.runT;split
  ·rename_i e;exact ih _ w _ (h.push (.cell (LV e) _ _))
  ·split
   ·rename_i e;exact ih _ w _ (h.far (Z0d e) _ _)
   ·exact h
 | @store m a v k _ ih=>
   intro w es h;cases v<;>simp only[Sem.run,Sem.runT]<;>first|exact h|skip
   all_goals
    split
    ·rename_i e;split
     ·exact h
     ·refine ih _ _ (EvsB.push ?_ (.cell ?_ _ _))
      ·rw[ZM];exact h
      ·rw[ZM];exact LV e
    ·split
     ·rename_i e;have hs:=(QZ e).1;refine ih _ _ (EvsB.far ?_ ?_ _ _)
      ·rw[hs];exact h
      ·rw[hs];exact yL e
     ·exact h
 |new _ ih=>intro w es h;exact ih _ {w with heap:=w.heap.push _} es (h.mono (by simp))
 |shape _ ih=>intro w es h;exact ih _ w es h
 |freeze _ ih=>intro w es h;exact ih (w.freeze _ _) es (by rw[(T7 _ _ _).1];exact h)
 |frozen _ ih=>intro w es h;exact ih _ w es h
 |getObj _ ih=>
  intro w es h;unfold Sem.run Sem.runT;split
  ·exact h
  ·rename_i e;exact ih _ w _ (h.push (.obj (ZgO.1 e).1 _ _))
  ·exact h
 | @setObj r o k _ ih=>
   intro w es h;unfold Sem.run Sem.runT;split
   ·exact h
   ·rename_i e;have hs:({w with heap:=w.heap.setIfInBounds r o}:World).heap.size=w.heap.size:=by simp
    refine ih _ _ (EvsB.push ?_ (.obj ?_ _ _))
    ·rw[hs];exact h
    ·rw[hs];exact(ZgO.1 e).1
   ·exact h
 |choose _ ih=>
  intro w es h;unfold Sem.run Sem.runT;split
  ·exact ih _ w es h
  ·exact ih _ {w with drawn:=w.drawn+1} es h
 | @sys c k _ ih=>
   intro w es h;have hs:=(Z9q w c).1;exact ih _ (w.sys c).2 _ (EvsB.push (by rw[hs];exact h) (show EvB _ _ from True.intro))
 |prog _ ih=>intro w es h;exact ih _ w es h
 |room _ ih=>intro w es h;exact ih w _ (h.push (show EvB _ _ from(rfl:Mark.noRoom=Mark.noRoom)))
def Z31(P:Program):Op->Bool
 |.move _|.assign _|.pick _ _ _|.alloc _|.box _ _|.build _ _|.buildSlice _ _ _|.load _ _|.store _ _ _|.binOp _ _ _ _ _|.unOp _ _ _|.makeInterface _ _|.makeFunc _ _ _|.makeMap _ _
 |.makeSlice _ _ _|.slice _ _ _ _ _|.fieldAddr _ _ _|.field _ _ _|.indexAddr _ _ _|.index _ _ _|.extract _ _=>true
 | .call c=>match c.callee with
   |.builtin .append|.builtin .len|.builtin .min=>true
   | .value (.func f)=>match P.funcs[f]? with
     |some fn=> !(fn.name== "runtime.NumGoroutine")&&fn.body.isSome
     |none=>false
   |_=>false
 |_=>false
def Ki(P:Program):Code->Bool
 |.region _ ops _=>ops.all λo=>Z31 P o.op
 |.seq x y=>Ki P x&&Ki P y
 |.cond _ x y=>Ki P x&&Ki P y
 |.block _ x|.loop x|.scope x=>Ki P x
 |.skip|.label _|.exit _|.ret=>true
 |_=>false
end Vm
end
section
namespace Vm
open Go Go.Conc Go.ConcN
section
theorem YV{s:Sem Value}(h:Calm s):Calm (do pure (.value (<-s)):Sem Next):=h.bind λ_=>.pure _
theorem Zbq{s:Sem Unit}(h:Calm s):Calm (do s;pure .skip:Sem Next):=h.bind λ_=>.pure _
theorem XJ{α:Type}{P:Program}{s:Sem α}(h:Calm s)(w:World):EvsB (wdR (s.run P w)).heap.size (s.events P w #[]):=h.evs w #[] λe he=>by simp at he
theorem Z1U{P:Program}{o:Oper}(h:Z31 P o.op=true)(a:Act)(w:World):EvsB (wdR ((execOp a.eval o).run P w)).heap.size ((execOp a.eval o).events P w #[]):=by
 cases hop:o.op with
 |call c=>
  obtain⟨callee,args,ats⟩:=c;rw[hop]at h;simp only[Z31]at h;split at h
  ·refine XJ ?_ w;unfold execOp;simp only[hop,resolve,builtin];exact YV (jX ..)
  ·refine XJ ?_ w;unfold execOp;simp only[hop,resolve,builtin];exact YV (Z1I ..)
  ·refine XJ ?_ w;unfold execOp;simp only[hop,resolve,builtin];exact YV (Z7p ..)
  ·rename_i f;split at h
   ·rename_i fn hf;simp only[ZgM,ZhD]at h;rw[events_call_body hop hf h.1 (by cases hb:fn.body<;>simp_all)];exactλe he=>by simp at he
   ·cases h
  ·cases h
 |_=>
  rw[hop]at h
  first
  |cases h;done
  | (refine XJ ?_ w
     unfold execOp;simp only[hop]
     first
     |exact .pure _
     |exact YV (Z32 ..)
     |exact YV (Z7n ..)
     |exact YV (Z35 ..)
     |exact YV (QL ..)
     |exact YV (Z01 ..)
     |exact Zbq (yC ..)
     |exact YV (.bind (Z39 ..) λ_=>Z34 ..)
     |exact YV (Z3e ..)
     |exact YV (Ty ..)
     |exact YV (LO ..)
     |exact YV (yw ..)
     |exact YV (Kl ..)
     |exact YV (yB ..)
     |exact YV (yq ..)
     |exact YV (Sw ..)
     |exact YV (yr ..)
     |exact YV (KP ..)
     |exact YV (VK ..)
     |exact .bind (UT _) λ_=>.pure _)
structure TBt (sz:Nat) (t:Trace):Prop where
 clean:∀said,¬Race said t
 hears:∀i,Deaf t i=0
 low:∀op∈t,lowE sz op
 known:KnownAll t
theorem TBt.main{sz sz':Nat}{t:Trace}(h:TBt sz t)(hs:sz<=sz'){fn:FuncId}{pos:String}{es:Array Event}(hes:EvsB sz' es):TBt sz' (t++MemOp.ofEvents 0 fn pos es):=by
 have hu:=Zas (g:=0) (fn:=fn) (pos:=pos) (es:=es);refine⟨λsaid=>noRace_append (h.clean said) hu λi a ha op hop b hb hc=> ?_,Z0c hes h.hears,λop hop=> ?_,h.known.app0 hu⟩
 ·obtain⟨y,hy,hya⟩:=touch_of ha;exact h.known i y a hy hya hc.2.1
 ·rcases Zi9.1 hop with hop|hop
  ·exactλx b hx hb=>ZgV (h.low op hop x b hx hb) hs
  ·exact Z4U hes (λb hb=>hb) (λb hb=>hb.elim) op hop
theorem Sd{P:Program}:∀(N:Nat) {K:Nat} {m m1:Machine} {r:Stepped×Trace} {t t1:Trace},runNT P N m t=(.next m1,t1)->runNT P K m1 t1=r->runNT P (N+K) m t=r
 |0,K,m,m1,r,t,t1,h,k=>by
  simp only[runNT,ZgR,Stepped.next.injEq]at h;obtain⟨rfl,rfl⟩:=h;rw[Zhy];exact k
 |N+1,K,m,m1,r,t,t1,h,k=>by
  rw[show N+1+K=(N+K)+1 by omega];simp only[runNT]at h⊢;rcases hst:stepT P m with ⟨e,ops⟩;rw[hst]at h;cases e with
  |next m'=>exact Sd N h k
  |ended o w=>cases h
theorem Win.bind{P:Program}{F F':Array Goroutine->World->Trace->Prop}{gs:Array Goroutine}{w:World}{sl:Option (Nat×Nat)}{t:Trace}(h:Win P F gs w sl t)(hk:∀gs w sl t,F gs w t->Win P F' gs w sl t):Win P F' gs w sl t:=by
 obtain⟨N,gs1,w1,sl1,t1,h1,h2⟩:=h;obtain⟨K,gs2,w2,sl2,t2,h3,h4⟩:=hk gs1 w1 sl1 t1 h2;exact⟨N+K,gs2,w2,sl2,t2,Sd N h1 h3,h4⟩
def AtS(P:Program)(Stop:Frame->List Frame->World->Prop)(gs:Array Goroutine)(w:World)(t:Trace):Prop:=
 ∃fr cs q,gs[0]?=some (G fr cs)/\Stop fr cs w/\Lvs P gs.size gs q/\TBt w.heap.size t
def Walk(P:Program)(Stop:Frame->List Frame->World->Prop)(fr:Frame)(cs:List Frame)(w:World):Prop:=
 ∀(d:Nat) (gs:Array Goroutine) (sl:Option (Nat×Nat)) (t:Trace) (q:Nat->Nat),Lvs P gs.size gs q->gs[0]?=some (G fr cs)->TBt w.heap.size t->Win P (AtS P Stop) gs (w.at d) sl t
section
variable {P:Program}{Stop Stop':Frame->List Frame->World->Prop}{fr:Frame}{cs:List Frame}{w:World}
theorem Walk.stop(h:∀d,Stop fr cs (w.at d)):Walk P Stop fr cs w:=λd gs sl t q hl h0 ht=>Win.now ⟨fr,cs,q,h0,h d,hl,ht⟩
theorem Walk.at(h:Walk P Stop fr cs w)(d:Nat):Walk P Stop fr cs (w.at d):=h
theorem Walk.one(h:∀d,∃fr' cs' w' es,stepG P true (G fr cs) (w.at d)=.go (G fr' cs') w' es/\w.heap.size<=w'.heap.size/\EvsB w'.heap.size es/\Walk P Stop fr' cs' w'):Walk P Stop fr cs w:=by
 intro d0 gs sl t q hl h0 ht
 have hnone:∀(gs':Array Goroutine) g,gs'[gs'.size]? ≠some g:=λgs' g e=>by
  have:=(ZgO.1 e).1;omega
 refine skip hl (λi g hi hg=> ?_) ⟨0,_,.inl rfl,h0,rfl⟩ λgs' d sl' q' i g hsz' hsame hl' hi hgi hrun=> ?_
 ·rcases hi with rfl|rfl
  ·rw[h0]at hg;cases hg;exact⟨awake_of (.inl rfl),λg1 g2 d=>woken_run rfl⟩
  ·exact absurd hg (hnone gs g)
 ·rcases hi with rfl|rfl
  ·rw[hsame 0 (.inl rfl),h0]at hgi;cases hgi;obtain⟨fr',cs',w',es,e1,e2,e3,e4⟩:=h d;have h0':gs'[0]?=some (G fr cs):=by rw[hsame 0 (.inl rfl)];exact h0
   have hrunT:=runT_crowd_go (P:=P) (sl:=sl') (i:=0) h0' (w':=w') (g':=G fr' cs') (es:=es) e1;refine⟨_,_,_,_,hrunT,?_⟩;have hs1:((gs'.map (woken P (G fr cs) (G fr' cs') w')).setIfInBounds 0 (G fr' cs')).size=gs.size:=by simp[hsz']
   exact e4 w'.drawn _ sl' _ q' (by rw[hs1];exact RD hl' 0 (.inl rfl) _ _ _ _) (XB (y:=woken P (G fr cs) (G fr' cs') w' (G fr cs)) (by rw[Zh7,h0'];rfl)) (ht.main e2 e3)
  ·rw[<-hsz']at hgi;exact absurd hgi (hnone gs' g)
theorem Walk.go{fr':Frame}{cs':List Frame}(h:∀w,stepG P true (G fr cs) w=.go (G fr' cs') w #[])(k:Walk P Stop fr' cs' w):Walk P Stop fr cs w:=
 .one λd=>⟨fr',cs',w.at d, #[],h _,ZgP _,λe he=>by simp at he,k⟩
end
end
end Vm
end
section
namespace Vm
open Go
inductive V where
 |int (k:IntKind) (n:Int)
 |bool (b:Bool)
 |str (s:ByteArray)
 |sl (l:List V)
 |agg (cs:List V)
 |tup (l:List V)
 |ptr (cs:List V)
 |fn (f:FuncId)
 |mp (id:Nat) (ks vs:List V)
 |clo (f:FuncId) (cs:List V)
 |nul (k:Nat)
 deriving Inhabited
def V.cells:V->List V
 |.agg cs=>cs
 |x=>[x]
def V.one:V->Bool
 |.agg _|.tup _=>false
 |_=>true
def V.fits(k:Nat)(x:V):Prop:=x.cells.length=k/\∀c∈x.cells,c.one=true
def flat(l:List V):List V:=l.flatMap V.cells
theorem Z7A:flat []=[]:=rfl
theorem WL(x:V)(l:List V):flat (x::l)=x.cells++flat l:=rfl
theorem T4(l r:List V):flat (l++r)=flat l++flat r:=by simp[flat]
theorem Yl{k:Nat}:∀ {l:List V},(∀x∈l,x.fits k)->(flat l).length=l.length*k
 | [],_=>by simp[flat]
 |x::l,h=>by
  rw[WL,ZhZ,(h x (by simp)).1,Yl (λy hy=>h y (by simp[hy]))];simp[Zi2,ZjC]
theorem X2{k:Nat}:∀ {l:List V} {i:Nat} {x:V},(∀x∈l,x.fits k)->l[i]?=some x->∀j,j<k->(flat l)[i*k+j]?=x.cells[j]?
 | [],i,x,_,h,_,_=>by simp at h
 |y::l,0,x,hk,h,j,hj=>by
  simp at h;subst h;rw[WL,Nat.zero_mul,Zhy,Zhn (by rw[(hk y (by simp)).1];exact hj)]
 |y::l,i+1,x,hk,h,j,hj=>by
  rw[WL,Zh6 (by rw[(hk y (by simp)).1];rw[Zi2];omega),(hk y (by simp)).1,
   show(i+1)*k+j-k=i*k+j from by rw[Zi2];omega]
  exact X2 (λz hz=>hk z (by simp[hz])) (by simpa using h) j hj
theorem Z50{k:Nat}{l:List V}(h:∀x∈l,x.fits k)(n:Nat):flat (l.take n)=(flat l).take (n*k):=by
 by_cases hn:n<=l.length
 ·have h1:(flat (l.take n)).length=n*k:=by
   rw[Yl (λx hx=>h x (ZhB hx)),ZhY,Nat.min_eq_left hn]
  grind [flat,T4,List.take_append_drop,List.take_left]
 ·rw[Zhi (by omega),Zhi];rw[Yl h];exact Zhh _ (by omega)
theorem Z4Z{k:Nat}{l:List V}(h:∀x∈l,x.fits k)(n:Nat):flat (l.drop n)=(flat l).drop (n*k):=by
 by_cases hn:n<=l.length
 ·have h1:(flat (l.take n)).length=n*k:=by
   rw[Yl (λx hx=>h x (ZhB hx)),ZhY,Nat.min_eq_left hn]
  grind [flat,T4,List.take_append_drop,List.drop_left]
 ·rw[Zil (by omega),Zil,Z7A];rw[Yl h];exact Zhh _ (by omega)
theorem z9{l:List V}{i:Nat}{c:V}(h:(flat l)[i]?=some c):∃x∈l,c∈x.cells:=by
 have:=ZgQ h;simp_all[flat]
inductive Rd (w:World) (G:Nat->Prop):V->Value->Prop where
 |int (k:IntKind) (n:Int):Rd w G (.int k n) (.int k n)
 |bool (b:Bool):Rd w G (.bool b) (.bool b)
 |str (s:ByteArray):Rd w G (.str s) (.string s)
 |nil (a:Option Addr) (cap:Nat):cap<=maxLen->Rd w G (.sl []) (.slice a 0 cap)
 |sl (l:List V) (b o cap k:Nat) (vs:Nat->Value):l.length<=cap->cap<=maxLen->G b->(∀x∈l,x.fits k)->
   (∀i,i<l.length*k->w.cell? ⟨b,o+i,none⟩=some (vs i))->(∀i c,(flat l)[i]?=some c->Rd w G c (vs i))->
   Rd w G (.sl l) (.slice (some ⟨b,o,none⟩) l.length cap)
 |agg (cs:List V) (vs:Array Value):vs.size=cs.length->(∀c∈cs,c.one=true)->(∀i c,cs[i]?=some c->Rd w G c (vs.getD i undef))->Rd w G (.agg cs) (.agg vs)
 |tup (l:List V) (vs:Array Value):vs.size=l.length->(∀i c,l[i]?=some c->Rd w G c (vs.getD i undef))->Rd w G (.tup l) (.tuple vs)
 |ptr (cs:List V) (b o:Nat) (vs:Nat->Value):G b->(∀c∈cs,c.one=true)->(∀i,i<cs.length->w.cell? ⟨b,o+i,none⟩=some (vs i))->
   (∀i c,cs[i]?=some c->Rd w G c (vs i))->Rd w G (.ptr cs) (.pointer (some ⟨b,o,none⟩))
 |fn (f:FuncId):Rd w G (.fn f) (.func (.func f) #[] #[])
 |clo (f:FuncId) (cs:List V) (vs:Array Value):vs.size=cs.length->(∀i c,cs[i]?=some c->Rd w G c (vs.getD i undef))->Rd w G (.clo f cs) (.func (.func f) #[] vs)
 |nul0:Rd w G (.nul 0) (.pointer none)
 |nul1:Rd w G (.nul 1) .nilFunc
 |nomp:Rd w G (.mp 0 [] []) (.map none)
 |mp (id:Nat) (ks xs:List V) (b clk:Nat) (es:Array MapEntry):(id=0\/id=b+1)->G b->w.heap[b]?=some (.map es clk)->ks.length=es.size->xs.length=es.size->
   (∀i c,ks[i]?=some c->Rd w G c (es.getD i default).key)->(∀i c,xs[i]?=some c->Rd w G c (es.getD i default).val)->Rd w G (.mp id ks xs) (.map (some b))
def Same(G:Nat->Prop)(w w':World):Prop:=∀b,G b->w'.heap[b]?=w.heap[b]?
theorem Same.refl(G:Nat->Prop)(w:World):Same G w w:=λ_ _=>rfl
theorem Same.trans{G:Nat->Prop}{a b c:World}(h:Same G a b)(k:Same G b c):Same G a c:=λx hx=>(k x hx).trans (h x hx)
theorem Same.cell{G:Nat->Prop}{w w':World}(h:Same G w w'){b o:Nat}(hb:G b):w'.cell? ⟨b,o,none⟩=w.cell? ⟨b,o,none⟩:=
 ZhG (h b hb)
theorem Rd.keep{w w':World}{G G':Nat->Prop}{x:V}{v:Value}(h:Rd w G x v)(hs:Same G w w')(hg:∀b,G b->G' b):Rd w' G' x v:=by
 induction h with
 |int k n=>exact .int k n
 |bool b=>exact .bool b
 |str s=>exact .str s
 |nil a cap hc=>exact .nil a cap hc
 |sl l b o cap k vs h1 h2 h3 h4 h5 _ ih=>exact .sl l b o cap k vs h1 h2 (hg _ h3) h4 (λi hi=>by rw[hs.cell h3];grind) ih
 |agg cs vs h1 h2 _ ih=>exact .agg cs vs h1 h2 ih
 |tup l vs h1 _ ih=>exact .tup l vs h1 ih
 |ptr cs b o vs h1 h2 h3 _ ih=>exact .ptr cs b o vs (hg _ h1) h2 (λi hi=>by rw[hs.cell h1];grind) ih
 |fn f=>exact .fn f
 |clo f cs vs h1 _ ih=>exact .clo f cs vs h1 ih
 |nul0=>exact .nul0
 |nul1=>exact .nul1
 |nomp=>exact .nomp
 |mp id ks xs b clk es h0 h1 h2 h3 h4 _ _ ih1 ih2=>exact .mp id ks xs b clk es h0 (hg _ h1) (by rw[hs b h1];exact h2) h3 h4 ih1 ih2
theorem Rd.mono{w:World}{G G':Nat->Prop}{x:V}{v:Value}(h:Rd w G x v)(hg:∀b,G b->G' b):Rd w G' x v:=h.keep (.refl _ _) hg
theorem Rd.one_eq{w:World}{G:Nat->Prop}{x:V}{v:Value}(h:Rd w G x v):v.oneCell'=x.one:=by
 cases h<;>rfl
theorem Rd.cells{w:World}{G:Nat->Prop}{x:V}{v:Value}(h:Rd w G x v)(ht:∀l,x≠.tup l):v.cells.size=x.cells.length/\(∀c∈x.cells,c.one=true)/\∀i c,x.cells[i]?=some c->Rd w G c (v.cells.getD i undef):=by
 have aux:∀ {x:V} {v:Value},Rd w G x v->x.one=true->v.cells=#[v]->x.cells=[x]->v.cells.size=x.cells.length/\(∀c∈x.cells,c.one=true)/\∀i c,x.cells[i]?=some c->Rd w G c (v.cells.getD i undef):=by
  intro x v h h1 hv hx;rw[hv,hx];refine⟨rfl,by grind,λi c hi=> ?_⟩;cases i with
  |zero=>simp_all
  |succ i=>simp at hi
 cases h with
 |agg cs vs h1 h2 h3=>exact⟨h1,h2,h3⟩
 |tup l vs _ _=>simp_all
 |int k n=>exact aux (.int k n) rfl rfl rfl
 |bool b=>exact aux (.bool b) rfl rfl rfl
 |str s=>exact aux (.str s) rfl rfl rfl
 |nil a cap hc=>exact aux (.nil a cap hc) rfl rfl rfl
 |sl l b o cap k vs h1 h2 h3 h4 h5 h6=>exact aux (.sl l b o cap k vs h1 h2 h3 h4 h5 h6) rfl rfl rfl
 |ptr cs b o vs h1 h2 h3 h4=>exact aux (.ptr cs b o vs h1 h2 h3 h4) rfl rfl rfl
 |fn f=>exact aux (.fn f) rfl rfl rfl
 |clo f cs vs h1 h2=>exact aux (.clo f cs vs h1 h2) rfl rfl rfl
 |nul0=>exact aux .nul0 rfl rfl rfl
 |nul1=>exact aux .nul1 rfl rfl rfl
 |nomp=>exact aux .nomp rfl rfl rfl
 |mp id ks xs b clk es h0 h1 h2 h3 h4 h5 h6=>exact aux (.mp id ks xs b clk es h0 h1 h2 h3 h4 h5 h6) rfl rfl rfl
end Vm
namespace Vm
open Go
inductive KC where
 |b|i (k:IntKind)|s
 deriving DecidableEq,Inhabited
inductive E where
 |c (v:V)
 |s (t:Nat)
 |m (t i:Nat)
 |mm (t i n:Nat)
 |bin (op:BinOp) (a b:E)
 |eqv (neg:Bool) (a b:E)
 |un (op:UnOp) (a:E)
 |conv (k:IntKind) (a:E)
 |len (a:E)
 |mn (a b:E)
 |mx (a b:E)
 |ext (a:E) (i:Nat)
 |idx (a i:E) (k:Nat)
 |fld (a:E) (o:Nat)
 |flds (a:E) (o n:Nat)
 |ai (a i:E) (n k:Nat) (ag:Bool)
 |slc (a lo hi:E) (k:Nat)
 |slcl (a lo:E) (k:Nat)
 |app (a b:E) (k:Nat)
 |upd (a i:E) (o:Nat) (b:E)
 |aput (a i:E) (n k:Nat) (b:E)
 |mk (z:V) (n:E)
 |lit (l:List E)
 |ag (l:List E)
 |ite (c a b:E)
 |star (a:E)
 |isag (a:E)
 |one (a:E)
 |sz (a:E) (n:Nat)
 |fl (a:E)
 |fls (a:E)
 |lk (kc:KC) (a k:E) (z:V) (ok:Bool)
 |mput (kc:KC) (a k v:E)
 |mlen (a:E)
 |mclr (a:E)
 |pt (f:Option FuncId) (l:List E)
 deriving Inhabited
inductive SV where
 |no
 |v (x:V)
 |m (cs:List V)
 deriving Inhabited
abbrev St:=List SV
def get(s:St)(t:Nat):SV:=(s[t]?).getD .no
def lim:Nat:=4294967296
def binV:BinOp->V->V->Option V
 |.add,.int k a,.int k' b=>if k=k' then some (.int k (k.wrap (a+b)))else none
 |.sub,.int k a,.int k' b=>if k=k' then some (.int k (k.wrap (a-b)))else none
 |.mul,.int k a,.int k' b=>if k=k' then some (.int k (k.wrap (a*b)))else none
 |.quo,.int k a,.int k' b=>if k=k'/\b≠0 then some (.int k (k.wrap (a.tdiv b)))else none
 |.rem,.int k a,.int k' b=>if k=k'/\b≠0 then some (.int k (a.tmod b))else none
 |.and,.int k a,.int k' b=>if k=k' then some (.int k (k.wrap (BitVec.ofInt k.bits a&&& BitVec.ofInt k.bits b).toNat))else none
 |.or,.int k a,.int k' b=>if k=k' then some (.int k (k.wrap (BitVec.ofInt k.bits a|||BitVec.ofInt k.bits b).toNat))else none
 |.xor,.int k a,.int k' b=>if k=k' then some (.int k (k.wrap (BitVec.ofInt k.bits a ^^^ BitVec.ofInt k.bits b).toNat))else none
 |.shl,.int k a,.int _ b=>if 0<=b then some (.int k (k.wrap (a*2 ^ (min b.toNat k.bits))))else none
 |.shr,.int k a,.int _ b=>if 0<=b then some (.int k (a.fdiv (2 ^ (min b.toNat k.bits))))else none
 |.eql,.int k a,.int k' b=>if k=k' then some (.bool (a==b))else none
 |.neq,.int k a,.int k' b=>if k=k' then some (.bool (a !=b))else none
 |.lss,.int k a,.int k' b=>if k=k' then some (.bool (decide (a<b)))else none
 |.leq,.int k a,.int k' b=>if k=k' then some (.bool (decide (a<=b)))else none
 |.gtr,.int k a,.int k' b=>if k=k' then some (.bool (decide (a>b)))else none
 |.geq,.int k a,.int k' b=>if k=k' then some (.bool (decide (a≥b)))else none
 |_,_,_=>none
def eqV(neg:Bool):V->V->Option V
 |.bool a,.bool b=>some (.bool (neg ^^ (a==b)))
 |_,_=>none
def unV:UnOp->V->Option V
 |.neg,.int k n=>some (.int k (k.wrap (0-n)))
 |.not,.bool b=>some (.bool !b)
 |_,_=>none
def Z3m(k:IntKind):V->Option V
 |.int _ n=>some (.int k (k.wrap n))
 |_=>none
def lenV:V->Option V
 |.sl l=>some (.int .i64 l.length)
 |_=>none
def minV:V->V->Option V
 |.int k x,.int _ y=>some (.int k (if y<x then y else x))
 |_,_=>none
def maxV:V->V->Option V
 |.int k x,.int _ y=>some (.int k (if y>x then y else x))
 |_,_=>none
def extV:V->Nat->Option V
 |.tup l,i=>l[i]?
 |_,_=>none
def idxV(x i:V)(k:Nat):Option V:=
 match x,i with
 |.sl l,.int _ i=>if 0<=i then(l[i.toNat]?).bind λz=>if z.cells.length=k then some z else none else none
 |_,_=>none
def V.pc:V->List V
 |.agg cs=>cs
 |x=>[x]
def K3:V->Option V
 |.ptr cs=>some (.agg cs)
 |_=>none
def oneV(x:V):Option V:=if x.one then some x else none
def szV(x:V)(n:Nat):Option V:=if x.cells.length=n then match x with|.tup _=>none|x=>some x else none
def Z0C:V->Option V
 |.agg cs=>some (.agg cs)
 |_=>none
def fldV(x:V)(o:Nat):Option V:=(x.pc[o]?).bind oneV
def Yr(k:Nat)(l:List V):Bool:=l.all λx=>x.cells.length==k
def RX(x:V)(o n:Nat):Option V:=if o+n<=x.pc.length then some (.agg ((x.pc.drop o).take n))else none
def aiV(x i:V)(n k:Nat)(ag:Bool):Option V:=
 match x,i with
 |.agg cs,.int _ i=>if 0<=i/\i<n/\cs.length=n*k then(if ag then some (.agg ((cs.drop (i.toNat*k)).take k))else cs[i.toNat*k]?)else none
 |_,_=>none
def slcV(k:Nat):V->V->V->Option V
 |.sl l,.int _ a,.int _ b=>if 0<=a/\a<=b/\b<=l.length/\Yr k l=true then some (.sl ((l.take b.toNat).drop a.toNat))else none
 |_,_,_=>none
def Z1p(k:Nat):V->V->Option V
 |.sl l,.int _ a=>if 0<=a/\a<=l.length/\Yr k l=true then some (.sl (l.drop a.toNat))else none
 |_,_=>none
def appV(k:Nat):V->V->Option V
 |.sl a,.sl b=>if a.length+b.length<=lim/\Yr k b=true then some (.sl (a++b))else none
 |_,_=>none
def ZA(cs:List V)(o:Nat)(b:List V):List V:=cs.take o++b++cs.drop (o+b.length)
def V.put(x:V)(o:Nat)(b:List V):V:=
 match x with
 |.agg cs=>.agg (ZA cs o b)
 |_=>b.headD x
def updV(x i:V)(o:Nat)(b:V):Option V:=
 match x,i with
 |.sl l,.int _ i=>if 0<=i then(l[i.toNat]?).bind λy=>if o+b.cells.length<=y.cells.length/\b.cells≠[]then some (.sl (l.set i.toNat (y.put o b.cells)))else none else none
 |_,_=>none
def QJ(x i:V)(n k:Nat)(b:V):Option V:=
 match x,i with
 |.agg cs,.int _ i=>if 0<=i/\i<n/\cs.length=n*k/\b.cells.length=k then some (.agg (ZA cs (i.toNat*k) b.cells))else none
 |_,_=>none
def mkV(z:V):V->Option V
 |.int _ n=>if 0<=n/\n<=lim then some (.sl (List.replicate n.toNat z))else none
 |_=>none
def agV(l:List V):V:=.agg (flat l)
def V.flatc:V->Bool
 |.int .. |.bool _|.str _=>true
 |_=>false
def flV(x:V):Option V:=
 match x with
 |.tup _=>none
 |x=>if x.cells.all V.flatc then some x else none
def flsV(x:V):Option V:=
 match x with
 |.sl l=>if(Vm.flat l).all V.flatc then some x else none
 |_=>none
def Z5w:V->V->Option Bool
 |.int k a,.int k' b=>if k=k' then some (a==b)else none
 |.bool a,.bool b=>some (a==b)
 |.str a,.str b=>some (a==b)
 |_,_=>none
def Kn(k:V):List V->Option (Option Nat)
 | []=>some none
 |y::l=>match Z5w k y with
  |some true=>some (some 0)
  |some false=>(Kn k l).map λr=>r.map (· +1)
  |none=>none
def isK:KC->V->Bool
 |.b,.bool _=>true
 |.i k,.int k' _=>decide (k=k')
 |.s,.str _=>true
 |_,_=>false
def lkV(kc:KC)(x k z:V)(ok:Bool):Option V:=
 if isK kc k=false then none else
 match x with
 | .mp _ ks vs=>match Kn k ks with
   |some (some i)=>(vs[i]?).map λv=>if ok then .tup [v,.bool true]else v
   |some none=>some (if ok then .tup [z,.bool false]else z)
   |none=>none
 |_=>none
def Js(kc:KC)(x k v:V):Option V:=
 if isK kc k=false then none else
 match x with
 | .mp id ks vs=>match Kn k ks with
   |some (some i)=>some (.mp id ks (vs.set i v))
   |some none=>some (.mp id (ks++[k]) (vs++[v]))
   |none=>none
 |_=>none
def Z5P:V->Option V
 |.mp id _ _=>some (.mp id [] [])
 |_=>none
def qH:V->Option V
 |.mp _ ks _=>some (.int .i64 ks.length)
 |_=>none
def iteV(c:V)(a b:Option V):Option V:=
 match c with
 |.bool true=>a
 |.bool false=>b
 |_=>none
def ptV(f:Option FuncId)(l:List V):Option V:=
 match f with
 |none=>if l.all V.one then some (.ptr l)else none
 |some f=>some (.clo f l)
mutual
def eval(s:St):E->Option V
 |.c v=>some v
 |.s t=>match get s t with|.v x=>some x|_=>none
 |.m t i=>match get s t with|.m cs=>(cs[i]?).bind oneV|_=>none
 |.mm t i n=>match get s t with|.m cs=>if i+n<=cs.length then some (.agg ((cs.drop i).take n))else none|_=>none
 |.bin op a b=>(eval s a).bind λx=>(eval s b).bind λy=>binV op x y
 |.eqv n a b=>(eval s a).bind λx=>(eval s b).bind λy=>eqV n x y
 |.un op a=>(eval s a).bind (unV op)
 |.conv k a=>(eval s a).bind (Z3m k)
 |.len a=>(eval s a).bind lenV
 |.mn a b=>(eval s a).bind λx=>(eval s b).bind λy=>minV x y
 |.mx a b=>(eval s a).bind λx=>(eval s b).bind λy=>maxV x y
 |.ext a i=>(eval s a).bind λx=>extV x i
 |.idx a i k=>(eval s a).bind λx=>(eval s i).bind λy=>idxV x y k
 |.fld a o=>(eval s a).bind λx=>fldV x o
 |.flds a o n=>(eval s a).bind λx=>RX x o n
 |.ai a i n k ag=>(eval s a).bind λx=>(eval s i).bind λy=>aiV x y n k ag
 |.slc a lo hi k=>(eval s a).bind λx=>(eval s lo).bind λy=>(eval s hi).bind λz=>slcV k x y z
 |.slcl a lo k=>(eval s a).bind λx=>(eval s lo).bind λy=>Z1p k x y
 |.app a b k=>(eval s a).bind λx=>(eval s b).bind λy=>appV k x y
 |.upd a i o b=>(eval s a).bind λx=>(eval s i).bind λy=>(eval s b).bind λz=>updV x y o z
 |.aput a i n k b=>(eval s a).bind λx=>(eval s i).bind λy=>(eval s b).bind λz=>QJ x y n k z
 |.mk z n=>(eval s n).bind (mkV z)
 |.lit l=>(Yc s l).map .sl
 |.ag l=>(Yc s l).map agV
 |.ite c a b=>(eval s c).bind λx=>iteV x (eval s a) (eval s b)
 |.star a=>(eval s a).bind K3
 |.isag a=>(eval s a).bind Z0C
 |.one a=>(eval s a).bind oneV
 |.sz a n=>(eval s a).bind λx=>szV x n
 |.fl a=>(eval s a).bind flV
 |.fls a=>(eval s a).bind flsV
 |.lk kc a k z ok=>(eval s a).bind λx=>(eval s k).bind λy=>lkV kc x y z ok
 |.mput kc a k v=>(eval s a).bind λx=>(eval s k).bind λy=>(eval s v).bind λz=>Js kc x y z
 |.mlen a=>(eval s a).bind qH
 |.mclr a=>(eval s a).bind Z5P
 |.pt f l=>(Yc s l).bind (ptV f)
def Yc(s:St):List E->Option (List V)
 | []=>some []
 |e::l=>(eval s e).bind λx=>(Yc s l).map (x:: ·)
end
mutual
def V.same:V->V->Bool
 |.int k n,.int k' n'=>decide (k=k')&&decide (n=n')
 |.bool a,.bool b=>a==b
 |.sl a,.sl b=>V.sames a b
 |.agg a,.agg b=>V.sames a b
 |.tup a,.tup b=>V.sames a b
 |.fn a,.fn b=>a==b
 |.mp i a b,.mp i' a' b'=>i==i'&&V.sames a a'&&V.sames b b'
 |_,_=>false
def V.sames:List V->List V->Bool
 | [],[]=>true
 |a::l,b::r=>V.same a b&&V.sames l r
 |_,_=>false
end
mutual
def E.same:E->E->Bool
 |.c a,.c b=>V.same a b
 |.s a,.s b=>a==b
 |.m a i,.m b j=>a==b&&i==j
 |.mm a i n,.mm b j n'=>a==b&&i==j&&n==n'
 |.bin o a b,.bin o' a' b'=>decide (o=o')&&E.same a a'&&E.same b b'
 |.eqv o a b,.eqv o' a' b'=>o==o'&&E.same a a'&&E.same b b'
 |.un o a,.un o' a'=>decide (o=o')&&E.same a a'
 |.conv k a,.conv k' a'=>decide (k=k')&&E.same a a'
 |.len a,.len b=>E.same a b
 |.mn a b,.mn a' b'=>E.same a a'&&E.same b b'
 |.mx a b,.mx a' b'=>E.same a a'&&E.same b b'
 |.ext a i,.ext b j=>E.same a b&&i==j
 |.idx a b k,.idx a' b' k'=>E.same a a'&&E.same b b'&&k==k'
 |.fld a o,.fld b o'=>E.same a b&&o==o'
 |.flds a o n,.flds b o' n'=>E.same a b&&o==o'&&n==n'
 |.ai a i n k g,.ai a' i' n' k' g'=>E.same a a'&&E.same i i'&&n==n'&&k==k'&&g==g'
 |.slc a b d k,.slc a' b' d' k'=>E.same a a'&&E.same b b'&&E.same d d'&&k==k'
 |.slcl a b k,.slcl a' b' k'=>E.same a a'&&E.same b b'&&k==k'
 |.app a b k,.app a' b' k'=>E.same a a'&&E.same b b'&&k==k'
 |.upd a i o b,.upd a' i' o' b'=>E.same a a'&&E.same i i'&&o==o'&&E.same b b'
 |.aput a i n k b,.aput a' i' n' k' b'=>E.same a a'&&E.same i i'&&n==n'&&k==k'&&E.same b b'
 |.mk z n,.mk z' n'=>V.same z z'&&E.same n n'
 |.lit l,.lit r=>E.sames l r
 |.ag l,.ag r=>E.sames l r
 |.star a,.star b=>E.same a b
 |.isag a,.isag b=>E.same a b
 |.one a,.one b=>E.same a b
 |.sz a n,.sz b n'=>E.same a b&&n==n'
 |.fl a,.fl b=>E.same a b
 |.fls a,.fls b=>E.same a b
 |.lk q a k z o,.lk q' a' k' z' o'=>decide (q=q')&&E.same a a'&&E.same k k'&&V.same z z'&&o==o'
 |.mput q a k v,.mput q' a' k' v'=>decide (q=q')&&E.same a a'&&E.same k k'&&E.same v v'
 |.mlen a,.mlen b=>E.same a b
 |.mclr a,.mclr b=>E.same a b
 |.pt f l,.pt g r=>f==g&&E.sames l r
 |.ite a b d,.ite a' b' d'=>E.same a a'&&E.same b b'&&E.same d d'
 |_,_=>false
def E.sames:List E->List E->Bool
 | [],[]=>true
 |a::l,b::r=>E.same a b&&E.sames l r
 |_,_=>false
end
mutual
def E.has(x:E):E->Bool
 |.bin o a b=>E.same x (.bin o a b)||E.has x a||E.has x b
 |.eqv o a b=>E.same x (.eqv o a b)||E.has x a||E.has x b
 |.un o a=>E.same x (.un o a)||E.has x a
 |.conv k a=>E.same x (.conv k a)||E.has x a
 |.len a=>E.same x (.len a)||E.has x a
 |.mn a b=>E.same x (.mn a b)||E.has x a||E.has x b
 |.mx a b=>E.same x (.mx a b)||E.has x a||E.has x b
 |.ext a i=>E.same x (.ext a i)||E.has x a
 |.idx a b k=>E.same x (.idx a b k)||E.has x a||E.has x b
 |.fld a o=>E.same x (.fld a o)||E.has x a
 |.flds a o n=>E.same x (.flds a o n)||E.has x a
 |.ai a i n k g=>E.same x (.ai a i n k g)||E.has x a||E.has x i
 |.slc a b d k=>E.same x (.slc a b d k)||E.has x a||E.has x b||E.has x d
 |.slcl a b k=>E.same x (.slcl a b k)||E.has x a||E.has x b
 |.app a b k=>E.same x (.app a b k)||E.has x a||E.has x b
 |.upd a i o b=>E.same x (.upd a i o b)||E.has x a||E.has x i||E.has x b
 |.aput a i n k b=>E.same x (.aput a i n k b)||E.has x a||E.has x i||E.has x b
 |.mk z n=>E.same x (.mk z n)||E.has x n
 |.lit l=>E.same x (.lit l)||E.hasIn x l
 |.ag l=>E.same x (.ag l)||E.hasIn x l
 |.ite a b d=>E.same x (.ite a b d)||E.has x a
 |.star a=>E.same x (.star a)||E.has x a
 |.isag a=>E.same x (.isag a)||E.has x a
 |.one a=>E.same x (.one a)||E.has x a
 |.sz a n=>E.same x (.sz a n)||E.has x a
 |.fl a=>E.same x (.fl a)||E.has x a
 |.fls a=>E.same x (.fls a)||E.has x a
 |.lk q a k z o=>E.same x (.lk q a k z o)||E.has x a||E.has x k
 |.mput q a k v=>E.same x (.mput q a k v)||E.has x a||E.has x k||E.has x v
 |.mlen a=>E.same x (.mlen a)||E.has x a
 |.mclr a=>E.same x (.mclr a)||E.has x a
 |.pt f l=>E.same x (.pt f l)||E.hasIn x l
 |.c v=>E.same x (.c v)
 |.s t=>E.same x (.s t)
 |.m t i=>E.same x (.m t i)
 |.mm t i n=>E.same x (.mm t i n)
def E.hasIn(x:E):List E->Bool
 | []=>false
 |a::l=>E.has x a||E.hasIn x l
end
def E.sure:E->Bool
 |.c v=>v.one
 |.m .. |.bin .. |.eqv .. |.un .. |.conv .. |.len _|.mn .. |.mx .. |.fld .. |.slc .. |.slcl .. |.app .. |.upd .. |.mk .. |.lit _|.one _|.mput .. |.mlen _|.mclr _=>true
 |.ite _ a b=>E.sure a&&E.sure b
 |_=>false
def E.sized(n:Nat):E->Bool
 |.mm _ _ k=>k==n
 |.flds _ _ k=>k==n
 |.ag l=>l.length==n&&l.all E.sure
 |.sz _ k=>k==n
 |_=>false
def oneE(e:E):E:=if e.sure then e else .one e
def szE(e:E)(n:Nat):E:=if e.sized n then e else .sz e n
def tyE(ag:Bool)(n:Nat)(e:E):E:=if ag then szE e n else oneE e
inductive TD where
 |sc|sl (e:TypeId)|st (fs:List (Nat×Nat×Bool×Bool))|ar (n:Nat) (e:TypeId)|pt (e:TypeId)|no
 deriving DecidableEq,Inhabited
def UE:Value->Option V
 |.int k n=>some (.int k n)
 |.bool b=>some (.bool b)
 |.string s=>some (.str s)
 |.slice none 0 0=>some (.sl [])
 |.func (.func f) first captured=>if first.size=0/\captured.size=0 then some (.fn f)else none
 |.map none=>some (.mp 0 [] [])
 |.pointer none=>some (.nul 0)
 |.nilFunc=>some (.nul 1)
 |_=>none
def Zq(P:Program)(t:TypeId):Bool:=
 match P.underlying t with
 |some (.struct _)|some (.array _ _)=>true
 |_=>false
def zeroCells(P:Program)(t:TypeId):Option (List V):=
 ((P.info? t).bind (·.zero)).bind λz=>z.cells.toList.mapM UE
def Xx(P:Program)(t:TypeId):Bool:=
 match P.underlying t with
 |some .bool|some (.int _)|some .string=>true
 |some (.struct _)|some (.array _ _)=>match zeroCells P t with|some l=>l.all V.flatc|none=>false
 |some (.tuple ts)=>ts.all λu=>match P.underlying u with
  |some .bool|some (.int _)|some .string=>true
  |some (.struct _)|some (.array _ _)=>(match zeroCells P u with|some l=>l.all V.flatc|none=>false)
  |_=>false
 |_=>false
def okT(P:Program)(T:TypeId):Bool:=(P.underlying T).isSome&&(P.info? T).isSome
def tdOf(P:Program)(t:TypeId):TD:=
 match P.underlying t with
 |some .bool|some (.int _)|some .string=>.sc
 |some (.slice e)=>.sl e
 |some (.struct fs)=>if fs.toList.all (λf=>okT P f.type)then .st (fs.toList.map λf=>(f.offset,P.cellsOf f.type,Zq P f.type,Xx P f.type))else .no
 |some (.array n e)=>.ar n e
 |some (.pointer e)=>.pt e
 |_=>.no
def elOk(P:Program)(el:TypeId):Bool:=
 match P.info? el with
 |some i=>match i.zero with
  |some z=>z.cells.size==i.size&&decide (0<i.size)&&decide (i.bytes<=32768)
  |none=>false
 |none=>false
inductive CK where
 |fz|own (ty:TypeId)|nil|dead
 deriving DecidableEq,Inhabited
inductive OT where
 |fz|own (ty:TypeId)|nil|mem (l:List CK)|clo (f:FuncId) (caps:List Nat)
 deriving DecidableEq,Inhabited
inductive TK where
 |no
 |val (e:E) (sh:List Nat)
 |own (ty:TypeId) (e:E)
 |nil
 |mem (cs:List (CK×E))
 |ags (cs:List (CK×E))
 |ref (p:Nat)
 |refm (p i:Nat)
 |pm (p o:Nat)
 |pc (e:E) (o:Nat) (sh:List Nat)
 |pe (p:Nat) (i:Option Nat) (j:E) (o k:Nat)
 |pa (p o:Nat) (j:E) (n k:Nat)
 |clo (f:FuncId) (caps:List Nat)
 |big (e:E) (sh:List Nat)
 deriving Inhabited
def TK.isNo:TK->Bool
 |.no=>true
 |_=>false
abbrev Zi:=List (Nat×Bool)
abbrev Gam:=List (Nat×Zi×TK)
def Gam.at(g:Gam)(t:Nat):Zi×TK:=
 match g with
 | []=>([],.no)
 |(u,x)::r=>if u=t then x else Gam.at r t
def memOf(g:Gam)(p:Nat):Option (List (CK×E)):=
 match g.at p with
 |([],.mem cs)=>some cs
 |_=>none
def ownOf(g:Gam)(p:Nat):Option (TypeId×E):=
 match g.at p with
 |([],.own ty e)=>some (ty,e)
 |_=>none
def UZ(a b:Zi):Bool:=a.all λx=>b.contains x
def look(g:Gam)(C:Zi)(t:Nat):TK:=let x:=g.at t;if UZ x.1 C then x.2 else .no
def VE(cs:List (CK×E)):Bool:=cs.any λc=>match c.1 with|.own _=>true|_=>false
def Y9(cs:List (CK×E)):Bool:=cs.any λc=>c.1==.dead
def ownAt(g:Gam):TK->Option (TypeId×E)
 |.ref p=>ownOf g p
 | .refm p i=>(memOf g p).bind λcs=>match cs[i]? with
   |some (.own ty,e)=>some (ty,e)
   |_=>none
 |_=>none
def asE(g:Gam)(k:TK)(t:Nat):Option (E×List Nat):=
 match k with
 |.val e sh=>some (e,sh)
 |.own _ e=>some (e,[t])
 |.nil=>some (.c (.sl []),[])
 |.ags cs=>if Y9 cs then none else some (.ag (cs.map (·.2)),if VE cs then [t]else [])
 |.ref p=>(ownAt g (.ref p)).map λx=>(x.2,[p])
 |.refm p i=>(ownAt g (.refm p i)).map λx=>(x.2,[p])
 |_=>none
def opK(g:Gam)(C:Zi)(x:Operand):TK:=
 match x with
 |.const (.slice none 0 0)=>.nil
 |.const v=>match UE v with|some x=>.val (.c x) [] |none=>.no
 |.tmp t=>look g C t
 |.func f=>.val (.c (.fn f)) []
 |_=>.no
def qW:Operand->Nat
 |.tmp t=>t
 |_=>0
def opE(g:Gam)(C:Zi)(x:Operand):Option (E×List Nat):=
 asE g (opK g C x) (match x with|.tmp t=>t|_=>0)
def flE(fl:Bool)(b:E×List Nat):E×List Nat:=if b.2.isEmpty then b else if fl then(.fl b.1,[])else b
def opsF(g:Gam)(C:Zi)(fl:Bool):List Operand->Option (List E×List Nat)
 | []=>some ([],[])
 |x::l=>(opE g C x).bind λa0=>(opsF g C fl l).map λb=>let a:=flE fl a0;(a.1::b.1,a.2++b.2)
def Z4K(g:Gam):List Nat->Option (List E)
 | []=>some []
 |p::l=>(memOf g p).bind λcs=>if Y9 cs then none else(Z4K g l).map λes=>.pt none (cs.map (·.2))::es
def bigE(g:Gam)(k:TK)(t:Nat):Option (E×List Nat):=
 match k with
 |.mem cs=>if Y9 cs then none else some (.pt none (cs.map (·.2)),[t])
 |.pm p 0=>(memOf g p).bind λcs=>if Y9 cs then none else some (.pt none (cs.map (·.2)),[p])
 |.clo f caps=>(Z4K g caps).map λes=>(.pt (some f) es,caps)
 |.big e sh=>some (e,sh)
 |_=>none
def argE(g:Gam)(C:Zi)(fl:Bool)(x:Operand):Option (E×List Nat×Bool):=
 match opE g C x with
 |some a=>some ((flE fl a).1,(flE fl a).2,false)
 |none=>(bigE g (opK g C x) (qW x)).map λa=>(a.1,a.2,true)
def Z4w(P:Program)(g:Gam)(C:Zi):List Operand->List TypeId->Option (List E×List Nat×Bool)
 | [],_=>some ([],[],false)
 |x::l,ts=>(argE g C (match ts with|t::_=>Xx P t| []=>false) x).bind λa=>(Z4w P g C l ts.tail).map λb=>(a.1::b.1,a.2.1++b.2.1,a.2.2||b.2.2)
def X7(p:Nat):Nat->List (CK×E)->Bool
 |_,[]=>true
 |i,(_,.m q j)::r=>p==q&&i==j&&X7 p (i+1) r
 |_,_=>false
def valE:TK->List E
 |.val e _=>[e]
 |_=>[]
structure Ctx where
 P:Program
 ix:Nat->Nat
 own:Nat->Bool
 fresh:FuncId->Bool
 sig:FuncId->Option (List OT)
 tr:List Nat
 n:Nat
def Z7O(c:Ctx)(g:Gam)(T:TypeId)(p o:Nat):Option TK:=
 (memOf g p).bind λcs=>
  if Zq c.P T then
   let part:=(cs.drop o).take (c.P.cellsOf T)
   if part.length=c.P.cellsOf T/\Y9 part=false/\0<c.P.cellsOf T then
    some (.val (if X7 (c.ix p) o part then .mm (c.ix p) o part.length else .ag (part.map (·.2))) (if VE part then [p]else []))
   else none
  else match cs[o]? with
   |some (.fz,e)=>some (.val e [])
   |some (.own _,_)=>some (.refm p o)
   |some (.nil,_)=>some .nil
   |_=>none
def Zaa(c:Ctx)(g:Gam)(T:TypeId)(p o:Nat)(j:E)(m k:Nat):Option TK:=
 (memOf g p).bind λcs=>
  let part:=(cs.drop o).take (m*k)
  if part.length=m*k/\c.P.cellsOf T=k/\0<m*k/\VE part=false/\Y9 part=false then
   some (.val (.ai (if X7 (c.ix p) o part then .mm (c.ix p) o part.length else .ag (part.map (·.2))) j m k (Zq c.P T)) [])
  else none
def yF(c:Ctx)(T:TypeId)(e:E)(o:Nat):E:=if Zq c.P T then .flds e o (c.P.cellsOf T)else .fld e o
def JG(p:Nat):Option Nat->TK
 |none=>.ref p
 |some i=>.refm p i
def Zab(c:Ctx)(g:Gam)(T:TypeId)(p:Nat)(i:Option Nat)(j:E)(o k:Nat):Option TK:=
 (ownAt g (JG p i)).bind λx=>if c.P.cellsOf x.1=k then some (.val (yF c T (.idx x.2 j k) o) [p])else none
def ZcG(c:Ctx)(g:Gam)(T:TypeId)(k:TK)(t:Nat):Option TK:=
 match k with
 |.mem _=>Z7O c g T t 0
 |.pm p o=>Z7O c g T p o
 |.pc e o sh=>some (.val (yF c T e o) sh)
 |.val e sh=>some (.val (yF c T (.star e) 0) sh)
 |.pe p i j o k=>Zab c g T p i j o k
 |.pa p o j m k=>Zaa c g T p o j m k
 |_=>none
def J0(P:Program)(T:TypeId)(f:Nat):Option (Nat×Nat×Bool×Bool):=
 match tdOf P T with
 |.st fs=>fs[f]?
 |_=>none
abbrev PK:=Option (TK×List E)
def TK.free:TK->Bool
 |.own .. |.mem _|.ags _|.no=>false
 |_=>true
def Z6j(g:Gam)(C:Zi)(x:Operand):PK:=
 if(opK g C x).free then some (opK g C x,[])else
 match x,opK g C x with
 |.tmp t,.own _ _=>some (.ref t,[])
 |.tmp t,.mem _=>some (.pm t 0,[])
 |.tmp t,.ags cs=>(asE g (.ags cs) t).map λy=>(.val y.1 y.2,[])
 |_,_=>none
def R2(g:Gam)(C:Zi)(x:Operand):PK:=
 match opK g C x with
 |.mem _=>some (.pm (qW x) 0,[])
 |.pm p o=>some (.pm p o,[])
 |.val e sh=>some (.val e sh,[.star e])
 |_=>none
def zI(c:Ctx)(g:Gam)(C:Zi)(ty:TypeId)(x:Operand):PK:=
 match opK g C x with
 |.val e []=>some (.val e [],[])
 |.val e (p::sh)=>if Xx c.P ty then some (.val (.fl e) [],[.fl e])else none
 |.nil=>some (.nil,[])
 |.clo f caps=>some (.clo f caps,[])
 |_=>none
def Z0Y(c:Ctx)(T:TypeId):PK:=
 (zeroCells c.P T).bind λz=>if z.isEmpty then none else some (.mem (z.map λx=>((match x with|.sl _=>CK.nil|_=>.fz),E.c x)),[])
def Zaw(c:Ctx)(g:Gam)(C:Zi)(T:TypeId)(x:Operand):PK:=
 match opK g C x with
 | .val e0 []=>
   if okT c.P T then
    let e:=tyE (Zq c.P T) (c.P.cellsOf T) e0
    if Zq c.P T then some (.mem ((List.range (c.P.cellsOf T)).map λi=>(CK.fz,E.fld e i)),[e])else some (.mem [(.fz,e)],[e])
   else none
 |_=>none
def eqTy(P:Program)(T:TypeId):Bool:=
 match P.underlying T with
 |some .bool=>true
 |_=>false
def binS(P:Program)(rec:TypeId->Nat->Option E)(n o:Nat):List Field->Option E
 | []=>some (.c (.bool true))
 |f::l=>if f.name≠ "_" /\f.offset+P.cellsOf f.type<=n then(rec f.type (o+f.offset)).bind λx=>(binS P rec n o l).map λy=>.ite x y (.c (.bool false))else none
def eqD(P:Program)(a b:E):Nat->TypeId->Nat->Option E
 |0,_,_=>none
 |d+1,T,o=>
  match P.underlying T with
  |some .bool=>if P.cellsOf T=1 then some (.eqv false (.fld a o) (.fld b o))else none
  |some (.int _)=>if P.cellsOf T=1 then some (.bin .eql (.fld a o) (.fld b o))else none
  |some (.struct fs)=>if fs.toList≠[]/\P.cellsOf T≠0/\P.stoodInHeld T=false then binS P (eqD P a b d) (P.cellsOf T) o fs.toList else none
  |_=>none
def eqSt(P:Program)(T:TypeId)(a b:E):Option E:=
 if Zq P T/\P.eqGuardType P.depth T=false then eqD P (.sz (.isag a) (P.cellsOf T)) (.sz (.isag b) (P.cellsOf T)) 4 T 0 else none
def binE(P:Program)(T:TypeId)(op:BinOp)(a b:E):E:=
 if eqTy P T then match op with
  |.eql=>.eqv false a b
  |.neq=>.eqv true a b
  |_=>.bin op a b
 else match op with
  |.eql=>(eqSt P T a b).getD (.bin op a b)
  |.neq=>((eqSt P T a b).map (.un .not)).getD (.bin op a b)
  |_=>.bin op a b
def Zav(c:Ctx)(g:Gam)(C:Zi)(op:BinOp)(T:TypeId)(x y:Operand):PK:=
 (opE g C x).bind λa=>(opE g C y).map λb=>let e:=binE c.P T op a.1 b.1;(.val e [],[e])
def pkUn(g:Gam)(C:Zi)(op:UnOp)(x:Operand):PK:=(opE g C x).map λa=>(.val (.un op a.1) [],[.un op a.1])
def Z9h(c:Ctx)(g:Gam)(C:Zi)(src dst:TypeId)(x:Operand):PK:=
 if(c.P.underlying src).isNone then none else
 match c.P.underlying dst with
 |some (.int k)=>(opE g C x).map λa=>(.val (.conv k a.1) [],[.conv k a.1])
 |_=>none
def Zdg(c:Ctx)(g:Gam)(C:Zi)(ty:TypeId)(x:Operand)(i:Nat):PK:=
 (opE g C x).map λa=>let y:=flE (Xx c.P ty) (.ext a.1 i,a.2);(.val y.1 y.2,[y.1])
def Z6h(c:Ctx)(g:Gam)(C:Zi)(T:TypeId)(a:Operand):PK:=
 if okT c.P T then(ZcG c g T (opK g C a) (qW a)).map λk=>(k,valE k)else none
def Z10(c:Ctx)(g:Gam)(C:Zi)(T:TypeId)(a:Operand)(f:Nat):PK:=
 (J0 c.P T f).bind λx=>if x.2.1=0 then none else
  match opK g C a with
  |.mem _=>some (.pm (qW a) x.1,[])
  |.pm p q=>some (.pm p (q+x.1),[])
  |.pc e q sh=>some (.pc e (q+x.1) sh,[])
  |.val e sh=>some (.pc (.star e) x.1 sh,[.star e])
  |.pe p i j q k=>some (.pe p i j (q+x.1) k,[])
  |_=>none
def Qe(c:Ctx)(g:Gam)(p:Nat)(i:Option Nat)(el:TypeId)(j:E):PK:=
 (ownAt g (JG p i)).bind λx=>if c.P.cellsOf x.1=c.P.cellsOf el/\okT c.P el=true then some (.pe p i j 0 (c.P.cellsOf el),[.idx x.2 j (c.P.cellsOf el)])else none
def Th(c:Ctx)(g:Gam)(C:Zi)(T:TypeId)(x i:Operand):PK:=
 match tdOf c.P T with
 | .sl el=>(opE g C i).bind λj=>
   match opK g C x with
   |.ref p=>Qe c g p none el j.1
   |.refm p q=>Qe c g p (some q) el j.1
   |.val e sh=>if okT c.P el then some (.pc (.idx e j.1 (c.P.cellsOf el)) 0 sh,[.idx e j.1 (c.P.cellsOf el)])else none
   |_=>none
 | .ar n el=>if !okT c.P el then none else(opE g C i).bind λj=>
   match opK g C x with
   |.mem _=>some (.pa (qW x) 0 j.1 n (c.P.cellsOf el),[.ai (.c (.agg (List.replicate n (.bool true)))) j.1 n 1 false])
   |.pm p o=>some (.pa p o j.1 n (c.P.cellsOf el),[.ai (.c (.agg (List.replicate n (.bool true)))) j.1 n 1 false])
   |.pc e q sh=>let e':=E.ai (.flds e q (n*c.P.cellsOf el)) j.1 n (c.P.cellsOf el) true;some (.pc e' 0 sh,[e'])
   |_=>none
 |_=>none
def Zax(c:Ctx)(g:Gam)(C:Zi)(T:TypeId)(x:Operand)(f:Nat):PK:=
 (J0 c.P T f).bind λy=>if y.2.1=0 then none else(opE g C x).map λa=>
  let e:=if y.2.2.1 then E.flds (.isag a.1) y.1 y.2.1 else .fld (.isag a.1) y.1
  (.val e a.2,[e])
def Z12(c:Ctx)(g:Gam)(C:Zi)(T:TypeId)(x i:Operand):PK:=
 match tdOf c.P T with
 | .ar n el=>if !okT c.P el then none else(opE g C x).bind λa=>(opE g C i).map λb=>
   let e:=E.ai a.1 b.1 n (c.P.cellsOf el) (Zq c.P el)
   (.val e a.2,[e])
 |_=>none
def opLo(g:Gam)(C:Zi):Option Operand->Option E
 |some l=>(opE g C l).map Prod.fst
 |none=>some (.c (.int .i64 0))
def opHi(g:Gam)(C:Zi)(a l:E)(k:Nat):Option Operand->Option E
 |some h=>(opE g C h).map λy=>.slc a l y.1 k
 |none=>some (.slcl a l k)
def Z14(c:Ctx)(g:Gam)(C:Zi)(T:TypeId)(x:Operand)(lo hi:Option Operand):PK:=
 match tdOf c.P T with
 | .sl el=>if okT c.P el then(opE g C x).bind λa=>
   (opLo g C lo).bind λl=>(opHi g C a.1 l (c.P.cellsOf el) hi).map λe=>(.val e a.2,[e])else none
 |_=>none
def JD(g:Gam)(C:Zi)(n:Nat)(ag fl:Bool)(x:Operand):Option (List (CK×E)×List Nat×List Nat):=
 match x,opK g C x with
 |.tmp t,.own ty e=>some ([(.own ty,e)],[],[t])
 |_,.nil=>some ([(.nil,.c (.sl []))],[],[])
 |_,_=>(opE g C x).map λa0=>let a:=flE fl a0;let e:=tyE ag n a.1;(if ag then(List.range n).map λj=>(.fz,.fld e j)else [(.fz,e)],a.2,[])
abbrev BC:=List (CK×E)×List Nat×List Nat
def Sn(zs:List V)(o n:Nat):BC:=(((zs.drop o).take n).map λ(z:V)=>((match z with|.sl _=>CK.nil|_=>CK.fz),E.c z),[],[])
def Z9g(g:Gam)(C:Zi)(zs:List V)(parts:List (Nat×Operand))(f:Nat×Nat×Bool×Bool)(i:Nat):Option BC:=
 match parts.find? (λp=>p.1==i)with
 |some p=>JD g C f.2.1 f.2.2.1 f.2.2.2 p.2
 |none=>some (Sn zs f.1 f.2.1)
def TZ:List Nat->Bool
 | []=>true
 |x::l=> !l.contains x&&TZ l
def VG(g:Gam)(C:Zi)(zs:List V)(parts:List (Nat×Operand)):List (Nat×Nat×Bool×Bool)->Nat->Nat->Option BC
 | [],_,o=>if o=zs.length then some ([],[],[])else none
 |f::r,i,o=>(Z9g g C zs parts f i).bind λa=>if f.1=o/\a.1.length=f.2.1/\f.2.1≠0 then(VG g C zs parts r (i+1) (o+f.2.1)).map λb=>(a.1++b.1,a.2.1++b.2.1,a.2.2++b.2.2)else none
def Ug(g:Gam)(C:Zi)(zs:List V)(parts:List (Nat×Operand))(fs:List (Nat×Nat×Bool×Bool)):Option BC:=
 if TZ (parts.map (·.1))&&parts.all (λp=>decide (p.1<fs.length))then VG g C zs parts fs 0 0 else none
def ZeN(cs:List (CK×E)):Bool:=cs.all λc=>c.1==.fz
def Z2m(P:Program)(T:TypeId):Option (List (Nat×Nat×Bool×Bool)):=
 match tdOf P T with
 |.st fs=>some fs
 |.ar n el=>if okT P el then some ((List.range n).map λi=>(i*P.cellsOf el,P.cellsOf el,Zq P el,Xx P el))else none
 |_=>none
def Z6f(c:Ctx)(g:Gam)(C:Zi)(T:TypeId)(parts:List (Nat×Operand)):PK:=
 (Z2m c.P T).bind λfs=>(zeroCells c.P T).bind λzs=>(Ug g C zs parts fs).bind λb=>
  if b.2.2.isEmpty then
   let e:=E.ag (b.1.map (·.2))
   if b.2.1.isEmpty&& !ZeN b.1 then some (.ags b.1,[e])else some (.val e b.2.1,[e])
  else none
def Kw(c:Ctx)(dst:Option Nat)(el:TypeId)(e:E)(sh:List Nat):PK:=
 match dst with
 |some d=>if c.own d&&sh.isEmpty then some (.own el e,[e])else some (.val e sh,[e])
 |none=>none
def VZ(c:Ctx)(g:Gam)(C:Zi)(dst:Option Nat)(T:TypeId)(n:Nat)(parts:List (Nat×Operand)):PK:=
 match tdOf c.P T with
 | .sl el=>(opsF g C (Xx c.P el) (parts.map (·.2))).bind λes=>
   if parts.map (·.1)=List.range n/\n<256/\c.P.cellsOf el<256/\elOk c.P el=true/\(Zq c.P el=true\/c.P.cellsOf el=1)then Kw c dst el (.lit (es.1.map (tyE (Zq c.P el) (c.P.cellsOf el)))) es.2 else none
 |_=>none
def Z6G:Operand->Operand->Bool
 |.tmp t,.tmp u=>t==u
 |.const (.int _ x),.const (.int _ y)=>x==y
 |_,_=>false
def Z6i(c:Ctx)(g:Gam)(C:Zi)(dst:Option Nat)(T:TypeId)(n m:Operand):PK:=
 match tdOf c.P T with
 | .sl el=>(zeroCells c.P el).bind λz=>(opE g C n).bind λa=>
   if Z6G n m&&elOk c.P el&&(Zq c.P el||z.length==1)then Kw c dst el (.mk (if Zq c.P el then .agg z else z.headD (.agg [])) a.1) []else none
 |_=>none
def Zdh(c:Ctx)(g:Gam)(C:Zi)(T:TypeId)(x:Operand):PK:=
 match c.P.underlying T with
 |some (.slice _)=>(opE g C x).map λa=>(.val (.len a.1) [],[.len a.1])
 |some (.array n _)=>some (.val (.c (.int .i64 n)) [],[])
 |some (.map _ _)=>(opE g C x).map λa=>(.val (.mlen a.1) [],[.mlen a.1])
 |_=>none
def yE(g:Gam)(C:Zi):List Operand->Option (List Nat)
 | []=>some []
 |x::l=>match x,opK g C x with
  |.tmp t,.mem _=>(yE g C l).map (t:: ·)
  |_,_=>none
def R1(g:Gam)(C:Zi)(f:Go.Fn)(first captured:List Operand):PK:=
 match f,first,captured with
 |.func f,[],[]=>some (.val (.c (.fn f)) [],[])
 |.func f,[],l=>(yE g C l).map λts=>(.clo f ts,[])
 |_,_,_=>none
def kcOf(P:Program)(t:TypeId):Option KC:=
 match P.underlying t with
 |some .bool=>some .b
 |some (.int k)=>some (.i k)
 |some .string=>some .s
 |_=>none
def Zb1(P:Program)(t:TypeId):Option V:=
 ((P.info? t).bind (·.zero)).bind λz=>match z with
   |.agg cs=>(cs.toList.mapM UE).map .agg
   |v=>UE v
def Z5v(P:Program)(t:TypeId):Bool:=
 match P.underlying t with
 |some (.map _ _)=>true
 |_=>false
def JF(c:Ctx)(T:TypeId):PK:=if Z5v c.P T then some (.own T (.c (.mp 0 [] [])),[])else none
def U0(c:Ctx)(g:Gam)(C:Zi)(T:TypeId)(x k:Operand)(ok:Bool):PK:=
 match c.P.underlying T with
 |some (.map kt el)=>(kcOf c.P kt).bind λkc=>(Zb1 c.P el).bind λz=>(opE g C x).bind λa=>(opE g C k).map λb=>
   let e:=E.lk kc a.1 b.1 z ok
   (.val e a.2,[e])
 |_=>none
def Z8Z(P:Program)(T:TypeId):Bool:=
 match P.underlying T with
 |some (.map _ el)=>Xx P el
 |_=>false
def zJ(c:Ctx)(g:Gam)(C:Zi)(T:TypeId)(x k:Operand)(ok:Bool):PK:=
 (U0 c g C T x k ok).bind λr=>match r.1 with
 |.val e sh=>let y:=flE (!ok&&Z8Z c.P T) (e,sh);some (.val y.1 y.2,[y.1])
 |_=>none
def pkMM(g:Gam)(C:Zi)(mx:Bool)(x y:Operand):PK:=
 (opE g C x).bind λa=>(opE g C y).map λb=>let e:=if mx then E.mx a.1 b.1 else .mn a.1 b.1;(.val e [],[e])
def Rq(fl:Bool)(b:E×List Nat):E×List Nat:=if b.2.isEmpty then b else if fl then(.fls b.1,[])else b
def zH(c:Ctx)(g:Gam)(C:Zi)(dst:Option Nat)(T U:TypeId)(x y:Operand):PK:=
 match tdOf c.P T with
 |.sl el=>if T=U/\elOk c.P el=true then
   match opK g C x with
   | .nil=>(opE g C y).bind λb=>
     let y:=Rq (Xx c.P el) b
     if(match dst with|some d=>c.own d|none=>false)&& !y.2.isEmpty then none else Kw c dst el (.app (.c (.sl [])) y.1 (c.P.cellsOf el)) y.2
   |_=>none
  else none
 |_=>none
def pk(c:Ctx)(g:Gam)(C:Zi)(o:Oper):PK:=
 match o.op with
 |.move x=>Z6j g C x
 |.nilCheck x=>R2 g C x
 |.assign x=>zI c g C o.type x
 |.alloc T=>Z0Y c T
 |.box T x=>Zaw c g C T x
 |.binOp op T x y _=>Zav c g C op T x y
 |.unOp op _ x=>pkUn g C op x
 |.convert src dst x=>Z9h c g C src dst x
 |.extract x i=>Zdg c g C o.type x i
 |.load T a=>Z6h c g C T a
 |.fieldAddr T a f=>Z10 c g C T a f
 |.indexAddr T x i=>Th c g C T x i
 |.field T x f=>Zax c g C T x f
 |.index T x i=>Z12 c g C T x i
 |.slice T x lo hi none=>Z14 c g C T x lo hi
 |.build T parts=>Z6f c g C T parts.toList
 |.buildSlice T n parts=>VZ c g C o.dst T n parts.toList
 |.makeSlice T n m=>Z6i c g C o.dst T n m
 |.makeFunc f first captured=>R1 g C f first.toList captured.toList
 |.makeMap T none=>JF c T
 |.lookup T x k ok=>zJ c g C T x k ok
 | .call {callee:=.builtin .len,args,argTypes}=>match args.toList,argTypes.toList with
   | [x],[T]=>Zdh c g C T x
   |_,_=>none
 | .call {callee:=.builtin .min,args, .. }=>match args.toList with
   | [x,y]=>pkMM g C false x y
   |_=>none
 | .call {callee:=.builtin .max,args, .. }=>match args.toList with
   | [x,y]=>pkMM g C true x y
   |_=>none
 | .call {callee:=.builtin .append,args,argTypes}=>match args.toList,argTypes.toList with
   | [x,y],[T,U]=>zH c g C o.dst T U x y
   |_,_=>none
 |_=>none
inductive FN where
 |id (f:FuncId)
 |e (x:E)
 deriving Inhabited
def FN.es:FN->List E
 |.id _=>[]
 |.e x=>[x]
inductive EF where
 |lt (i:Nat) (C:Zi) (e:E)
 |call (i:Nat) (C:Zi) (f:FN) (fr fl:Bool) (args:List E)
 |callm (i:Nat) (C:Zi) (f:FN) (ks:List OT) (args:List E)
 deriving Inhabited
inductive OV where
 |v (e:E)
 |m (l:List E)
 |no
 deriving Inhabited
structure Reg where
 efs:List EF
 chks:List (Zi×E)
 outs:List (Nat×OV)
 deriving Inhabited
structure OS where
 d:Gam
 ps:List Nat
 rb:List Nat
 fz:List Nat
 efs:List EF
 chks:List (Zi×E)
 deriving Inhabited
def Zcy:CK->CK
 |.own _=>.fz
 |k=>k
def T6:TK->TK
 |.own _ e=>.val e []
 |.ags cs=>if Y9 cs then .no else .val (.ag (cs.map (·.2))) []
 |.mem cs=>.mem (cs.map λc=>(Zcy c.1,c.2))
 |k=>k
def SN(fz:List Nat):TK->Bool
 |.pe q _ _ _ _=>fz.contains q
 |_=>false
def XC(p:Nat):TK->Bool
 |.val _ sh=>sh.contains p
 |.ref q=>p==q
 |.refm q _=>p==q
 |.pc _ _ sh=>sh.contains p
 |.pe q _ _ _ _=>p==q
 |.big _ sh=>sh.contains p
 |_=>false
def leads(p:Nat):TK->Bool
 |.pa q _ _ _ _=>p==q
 |.pm q _=>p==q
 |.clo _ caps=>caps.contains p
 |_=>false
def calm(ps rb fz:List Nat)(k:TK):Bool:= !(ps.any λp=>XC p k)&& !(rb.any λp=>leads p k)&& !SN fz k
def Wh(ps rb fz:List Nat)(g:Gam):Gam:=g.filterMap λx=>if calm ps rb fz x.2.2 then none else some (x.1,[],.no)
def Xk(fz:List Nat)(g:Gam):Gam:=fz.map λp=>(p,(g.at p).1,T6 (g.at p).2)
def frz(fz:List Nat)(g:Gam):Gam:=Wh [] [] fz g++Xk fz g++g
def Zz(g:Gam):List Nat:=g.map (·.1)
structure MS where
 d:Gam
 ps:List Nat
 rb:List Nat
 fz:List Nat
 es:List E
 deriving Inhabited
def qo(g:Gam)(fl:Bool)(x:Operand):Option (E×List Nat):=(opE g [] x).map λa0=>flE fl a0
def Uw(cs:List (CK×E))(o:Nat)(new:List (CK×E)):List (CK×E):=cs.take o++new++cs.drop (o+new.length)
def putM(g:Gam)(p o:Nat)(new:List (CK×E)):Option TK:=
 (memOf g p).bind λcs=>if o+new.length<=cs.length then some (.mem (Uw cs o new))else none
def Z21(c:Ctx)(g:Gam)(d:Nat):TK->Option (Nat×TypeId×E)
 |.ref p=>if c.tr.contains d&&p !=d then(ownOf g p).map λy=>(p,y.1,y.2)else none
 |_=>none
def Qg(c:Ctx)(g:Gam)(ty:TypeId)(d:Nat)(x:Operand):Option MS:=
 match x,opK g [] x with
 |.tmp t,.own ty e=>if t=d\/(g.at t).1≠[]then none else some {d:=[(d,[],.own ty e),(t,[],.no)],ps:=[d,t],rb:=[d,t],fz:=[],es:=[]}
 |.tmp t,.mem cs=>if t=d\/(g.at t).1≠[]then none else some {d:=[(d,[],.mem cs),(t,[],.no)],ps:=[d,t],rb:=[d,t],fz:=[],es:=[]}
 | .tmp _,.pm p 0=>if c.tr.contains d&&p !=d then(memOf g p).bind λcs=>if Y9 cs then none else
   some {d:=[(d,[],.val (.pt none (cs.map (·.2))) []),(p,[],.no)],ps:=[d,p],rb:=[d,p],fz:=[],es:=[.pt none (cs.map (·.2))]}else none
 |_,.nil=>some {d:=[(d,[],.nil)],ps:=[d],rb:=[d],fz:=[],es:=[]}
 |_,k=>match Z21 c g d k with
  |some (p,ty,e)=>some {d:=[(d,[],.own ty e),(p,[],.no)],ps:=[d,p],rb:=[d,p],fz:=[],es:=[]}
  |none=>(qo g (Xx c.P ty) x).map λa=> {d:=[(d,[],.val a.1 [])],ps:=[d],rb:=[d],fz:=a.2,es:=[a.1]}
def Qh(c:Ctx)(g:Gam)(T:TypeId)(p o:Nat)(x:Operand):Option MS:=
 let n:=c.P.cellsOf T
 if Zq c.P T then
  match x,opK g [] x with
  |.tmp t,.ags cs=>if cs.length=n/\t≠p/\(g.at t).1=[]then(putM g p o cs).map λk=> {d:=[(p,[],k),(t,[],.no)],ps:=[p,t],rb:=[t],fz:=[],es:=[]}else none
  |_,_=>(qo g (Xx c.P T) x).bind λa=>let e:=tyE true n a.1;(putM (frz a.2 g) p o ((List.range n).map λj=>(CK.fz,E.fld e j))).map λk=> {d:=[(p,[],k)],ps:=[p],rb:=[],fz:=a.2,es:=[e]}
 else match x,opK g [] x with
  |.tmp t,.own ty e=>if t≠p/\(g.at t).1=[]then(putM g p o [(.own ty,e)]).map λk=> {d:=[(p,[],k),(t,[],.no)],ps:=[p,t],rb:=[t],fz:=[],es:=[]}else none
  |_,.nil=>(putM g p o [(.nil,.c (.sl []))]).map λk=> {d:=[(p,[],k)],ps:=[p],rb:=[],fz:=[],es:=[]}
  |_,_=>(qo g (Xx c.P T) x).bind λa=>let e:=oneE a.1;(putM (frz a.2 g) p o [(.fz,e)]).map λk=> {d:=[(p,[],k)],ps:=[p],rb:=[],fz:=a.2,es:=[e]}
def zw(c:Ctx)(g:Gam)(T:TypeId)(p:Nat)(i:Option Nat)(j:E)(o k:Nat)(x:Operand):Option MS:=
 (qo g (Xx c.P T) x).bind λa=>let e:=tyE (Zq c.P T) (c.P.cellsOf T) a.1;let g:=frz a.2 g
  if a.2.contains p then none else
  match i with
  |none=>(ownOf g p).bind λx=>let e':=E.upd x.2 j o e;if c.P.cellsOf x.1=k then some {d:=[(p,[],.own x.1 e')],ps:=[p],rb:=[],fz:=a.2,es:=[e']}else none
  |some q=>(memOf g p).bind λcs=>match cs[q]? with
   |some (.own ty,e0)=>let e':=E.upd e0 j o e;if c.P.cellsOf ty=k then(putM g p q [(.own ty,e')]).map λk=> {d:=[(p,[],k)],ps:=[p],rb:=[],fz:=a.2,es:=[e']}else none
   |_=>none
def zu(c:Ctx)(g:Gam)(T:TypeId)(p o:Nat)(j:E)(n k:Nat)(x:Operand):Option MS:=
 (qo g (Xx c.P T) x).bind λa1=>let a:=(tyE (Zq c.P T) (c.P.cellsOf T) a1.1,a1.2);if !a.2.isEmpty||c.P.cellsOf T≠k then none else
  (memOf g p).bind λcs=>
   let part:=(cs.drop o).take (n*k)
   if part.length=n*k/\part.all (λx=>x.1==.fz)then
    let e':=E.aput (if X7 (c.ix p) o part then .mm (c.ix p) o (n*k)else .ag (part.map (·.2))) j n k a.1
    (putM g p o ((List.range (n*k)).map λi=>(CK.fz,E.fld e' i))).map λk=> {d:=[(p,[],k)],ps:=[p],rb:=[],fz:=[],es:=[e']}
   else none
def Z0M(c:Ctx)(g:Gam)(d:Nat)(T:TypeId)(parts:List (Nat×Operand)):Option MS:=
 (Z2m c.P T).bind λfs=>(zeroCells c.P T).bind λzs=>(Ug g [] zs parts fs).bind λb=>
  let ts:=b.2.2
  if ts.any (λt=>b.2.1.contains t||t==d|| !(g.at t).1.isEmpty)|| !TZ ts then none else
  some {d:=(d,[],.ags b.1)::ts.map λt=>(t,[],.no),ps:=d::ts,rb:=d::ts,fz:=b.2.1,es:=[.ag (b.1.map (·.2))]}
def Z5U(c:Ctx)(g:Gam)(T:TypeId)(a x:Operand):Option MS:=
 if !okT c.P T|| !(Zq c.P T||c.P.cellsOf T==1)then none else
 match opK g [] a with
 |.mem _=>Qh c g T (qW a) 0 x
 |.pm p o=>Qh c g T p o x
 |.pe p i j o k=>zw c g T p i j o k x
 |.pa p o j n k=>zu c g T p o j n k x
 |_=>none
def zt(c:Ctx)(g0:Gam)(d:Nat)(T U:TypeId)(x y:Operand):Option MS:=
 match tdOf c.P T with
 |.sl el=>if T=U/\elOk c.P el=true then
   (opE g0 [] y).bind λb0=>
    let b:=Rq (Xx c.P el) b0
    let g:=frz b.2 g0
    match x,opK g [] x with
    |_,.nil=>let e':=E.app (.c (.sl [])) b.1 (c.P.cellsOf el);some {d:=[(d,[],.own el e')],ps:=[d],rb:=[d],fz:=b.2,es:=[e']}
    |.tmp t,.own ty e=>if ty=el/\t≠d/\(g.at t).1=[]then let e':=E.app e b.1 (c.P.cellsOf el);some {d:=[(d,[],.own ty e'),(t,[],.no)],ps:=[d,t],rb:=[d,t],fz:=b.2,es:=[e']}else none
    |_,.ref p=>(ownOf g p).bind λx=>if x.1=el/\p≠d then let e':=E.app x.2 b.1 (c.P.cellsOf el);some {d:=[(d,[],.own x.1 e'),(p,[],.no)],ps:=[d,p],rb:=[d,p],fz:=b.2,es:=[e']}else none
    |_,.refm p i=>(memOf g p).bind λcs=>match cs[i]? with
     |some (.own ty,e)=>if ty=el/\p≠d then let e':=E.app e b.1 (c.P.cellsOf el);(putM g p i [(.dead,.c (.sl []))]).map λk=> {d:=[(d,[],.own ty e'),(p,[],k)],ps:=[d,p],rb:=[d],fz:=b.2,es:=[e']}else none
     |_=>none
    |_,_=>none
  else none
 |_=>none
def Zaf(c:Ctx)(g:Gam)(d:Nat)(T:TypeId)(x:Operand):Option MS:=
 match x,opK g [] x with
 |.tmp t,.own ty e=>if t≠d/\(g.at t).1=[]then some {d:=[(d,[],.mem [(.own ty,e)]),(t,[],.no)],ps:=[d,t],rb:=[d,t],fz:=[],es:=[]}else none
 |.tmp t,.ags cs=>if t≠d/\(g.at t).1=[]then some {d:=[(d,[],.mem cs),(t,[],.no)],ps:=[d,t],rb:=[d,t],fz:=[],es:=[]}else none
 |_,_=>none
def Zad(g:Gam)(x:Operand):Option (Nat×Option Nat×TypeId×E):=
 match x,opK g [] x with
 |.tmp t,.own ty e=>if(g.at t).1=[]then some (t,none,ty,e)else none
 |_,.ref p=>(ownOf g p).map λy=>(p,none,y.1,y.2)
 |_,.refm p i=>(memOf g p).bind λcs=>match cs[i]? with
  |some (.own ty,e)=>some (p,some i,ty,e)
  |_=>none
 |_,_=>none
def Z9j(g:Gam)(p:Nat)(i:Option Nat)(ty:TypeId)(e:E):Option TK:=
 match i with
 |none=>some (.own ty e)
 |some i=>putM g p i [(.own ty,e)]
def Z7W(g:Gam)(T:TypeId)(m:Operand)(f:E->E):Option MS:=
 (Zad g m).bind λx=>if x.2.2.1=T then(Z9j g x.1 x.2.1 T (f x.2.2.2)).map λk=> {d:=[(x.1,[],k)],ps:=[x.1],rb:=[],fz:=[],es:=[f x.2.2.2]}else none
def Td(c:Ctx)(g:Gam)(T:TypeId)(m k v:Operand):Option MS:=
 match c.P.underlying T with
 |some (.map kt _)=>(kcOf c.P kt).bind λkc=>(opE g [] k).bind λb=>(opE g [] v).bind λa=>if !a.2.isEmpty then none else Z7W g T m λe=>.mput kc e b.1 a.1
 |_=>none
def Z0O(c:Ctx)(g:Gam)(T:TypeId)(m:Operand):Option MS:=if Z5v c.P T then Z7W g T m .mclr else none
def mk(c:Ctx)(g:Gam)(o:Oper):Option MS:=
 match o.op,o.dst with
 |.assign x,some d=>Qg c g o.type d x
 |.move x,some d=>Qg c g o.type d x
 |.store T a x,none=>Z5U c g T a x
 |.build T parts,some d=>Z0M c g d T parts.toList
 |.box T x,some d=>Zaf c g d T x
 |.mapUpdate T m k v,none=>Td c g T m k v
 | .call {callee:=.builtin .clear,args,argTypes},none=>match args.toList,argTypes.toList with
   | [x],[T]=>Z0O c g T x
   |_,_=>none
 | .call {callee:=.builtin .append,args,argTypes},some d=>match args.toList,argTypes.toList with
   | [x,y],[T,U]=>zt c g d T U x y
   |_,_=>none
 |_,_=>none
def LW(c:Ctx)(ops:Array Oper)(g:Gam)(o:Oper):Option Zi:=
 match o.guard with
 |none=>some []
 |some (j,want)=>((ops[j]?).bind (·.dst)).bind λt=>match g.at t with
  |(C,.val (.s u) [])=>if u=c.ix t then some (C++[(t,want)])else none
  |_=>none
def ixC(c:Ctx)(C:Zi):Zi:=C.map λx=>(c.ix x.1,x.2)
def Z6k(c:Ctx)(g:Gam)(C:Zi)(x a b:Operand):PK:=
 match x,opK g C x with
 | .tmp t,.val (.s u) []=>if u≠c.ix t then none else(opE g (C++[(t,true)]) a).bind λy=>(opE g (C++[(t,false)]) b).map λz=>
   let e:=E.ite (.s (c.ix t)) y.1 z.1
   (.val e (y.2++z.2),[e])
 |_,_=>none
def Z4D(g:Gam)(C:Zi)(o:Oper):Option (FN×List Nat×List Operand×List TypeId):=
 match o.op with
 |.call {callee:=.value (.func f),args,argTypes}=>some (.id f,[],args.toList,argTypes.toList)
 | .call {callee:=.value (.tmp t),args,argTypes}=>match opK g C (.tmp t)with
   |.val e sh=>some (.e e,sh,args.toList,argTypes.toList)
   |_=>none
 |_=>none
def Z8b(g:Gam)(t:Nat):Bool:=
 match(g.at t).2 with
 |.own .. |.mem _=>true
 |_=>false
def Z5A:TK->List Nat
 |.ref p|.refm p _|.pm p _|.pe p _ _ _ _|.pa p _ _ _ _=>[p]
 |.val _ sh|.pc _ _ sh|.big _ sh=>sh
 |.clo _ caps=>caps
 |_=>[]
def ZcA(ops:Array Oper)(o:Oper):List Nat:=
 match o.guard with
 |none=>[]
 |some (j,_)=>((ops[j]?).bind (·.dst)).toList
def Jo(ops:Array Oper)(g:Gam)(o:Oper):List Nat:=
 let ts:=(o.op.operands.toList.filterMap λx=>match x with|.tmp t=>some t|_=>none)++ZcA ops o++o.dst.toList
 let us:=ts++ts.flatMap λt=>Z5A (g.at t).2
 us++us.flatMap λt=>Z5A (g.at t).2
def only(g:Gam)(R:List Nat):Gam:=R.map λt=>(t,g.at t)
def L1(c:Ctx):FN->Bool
 |.id f=>c.fresh f
 |.e _=>false
def zV(c:Ctx)(g:Gam)(C:Zi)(ty:TypeId)(d:Nat)(f:FN)(sh:List Nat)(args:List Operand)(ts:List TypeId):Option OS:=
 if !(g.at d).2.isNo then none else(Z4w c.P g C args ts).map λaq_=>
  let fl:=(!(aq_.2.1++sh).isEmpty||aq_.2.2)&& !L1 c f&&Xx c.P ty
  {d:=[(d,C,if aq_.2.2&& !(fl||L1 c f)then .big (.s (c.ix d)) (aq_.2.1++sh)else .val (.s (c.ix d)) (if fl||L1 c f then []else aq_.2.1++sh))],ps:=[d],rb:=[d],fz:=[],efs:=[.call (c.ix d) (ixC c C) f (L1 c f) fl aq_.1],chks:=[]}
inductive AP where
 |op (x:Operand) (ty:TypeId)
 |cap (p:Nat)
 deriving Inhabited
def leCK(P:Program):CK->CK->Bool
 |.own a,.own b=>a==b
 |.nil,.own a=>decide (0<P.cellsOf a)
 |.nil,.nil|.nil,.fz|.fz,.fz|.own _,.fz=>true
 |_,.dead=>true
 |_,_=>false
def Z3C(P:Program):List CK->List CK->Bool
 | [],[]=>true
 |a::l,b::r=>leCK P a b&&Z3C P l r
 |_,_=>false
def Ll(P:Program):List CK->List CK->Bool
 | [],[]=>true
 |a::l,b::r=>(a==b||(match a,b with|.nil,.own ty=>decide (0<P.cellsOf ty)|.nil,.fz=>true|_,_=>false))&&Ll P l r
 |_,_=>false
def ZaP(g:Gam)(C:Zi):AP->Option Nat
 |.cap p=>some p
 | .op (.tmp t) _=>match opK g C (.tmp t)with
   |.mem _=>some t
   |.pm p 0=>some p
   |_=>none
 |_=>none
def ZdH(g:Gam)(C:Zi):AP->Option Nat
 | .op (.tmp t) _=>match opK g C (.tmp t)with
   |.own _ _=>some t
   |.ref p=>some p
   |_=>none
 |_=>none
def VX(c:Ctx)(g:Gam)(C:Zi)(k:OT)(x:AP):Option (E×Option Nat):=
 match k with
 | .fz=>match x with
   |.op x ty=>(opE g C x).bind λa0=>let a:=flE (Xx c.P ty) a0;if a.2.isEmpty then some (a.1,none)else none
   |.cap _=>none
 | .mem l=>(ZaP g C x).bind λp=>(memOf g p).bind λcs=>
   if !Y9 cs&&Ll c.P (cs.map (·.1)) l then some (.ag (cs.map (·.2)),some p)else none
 |.own ty=>(ZdH g C x).bind λp=>(ownOf g p).bind λy=>if y.1=ty then some (y.2,some p)else none
 |_=>none
def Wc(c:Ctx)(g:Gam)(C:Zi):List OT->List AP->Option (List (E×Option Nat))
 | [],[]=>some []
 |k::ks,x::l=>(VX c g C k x).bind λa=>(Wc c g C ks l).map (a:: ·)
 |_,_=>none
def newK(i q:Nat):OT->TK
 |.mem l=>.mem (l.zipIdx.map λx=>(x.1,.fld (.ext (.s i) q) x.2))
 |.own ty=>.own ty (.ext (.s i) q)
 |_=>.no
def Xy(i:Nat):Nat->List OT->List (E×Option Nat)->Gam
 |q,k::ks,(_,some p)::l=>(p,[],newK i q k)::Xy i (q+1) ks l
 |q,_::ks,(_,none)::l=>Xy i q ks l
 |_,_,_=>[]
def K4(c:Ctx)(g all:Gam)(C:Zi)(d:Nat)(fn:FN)(ks:List OT)(aps:List AP):Option OS:=
 if !(g.at d).2.isNo then none else(Wc c g C ks aps).bind λaq_=>
  let ps:=aq_.filterMap (·.2)
  if !TZ ps||ps.contains d then none else
  some {d:=(d,C,.val (if ps.isEmpty then .s (c.ix d)else .ext (.s (c.ix d)) 0) [])::Xy (c.ix d) 1 ks aq_++Wh (d::ps) [d] [] all,ps:=d::ps,rb:=[d],fz:=[],
        efs:=[.callm (c.ix d) (ixC c C) fn ks (aq_.map (·.1))],chks:=[]}
def UR(args:List Operand)(ts:List TypeId):List AP:=
 match args,ts with
 |x::l,t::r=>.op x t::UR l r
 |x::l,[]=>.op x 0::UR l []
 | [],_=>[]
def jV(c:Ctx)(g:Gam)(C:Zi)(o:Oper):Option (FN×List OT×List AP):=
 match o.op with
 |.call {callee:=.value (.func f),args,argTypes}=>(c.sig f).map λks=>(.id f,ks,UR args.toList argTypes.toList)
 | .call {callee:=.value (.tmp t),args,argTypes}=>match opK g C (.tmp t)with
   |.clo f caps=>(c.sig f).map λks=>(.id f,ks,UR args.toList argTypes.toList++caps.map .cap)
   |.val e _=>(c.sig (1000000+argTypes.toList.headD 0)).map λks=>(.e e,ks,UR args.toList argTypes.toList)
   |_=>none
 |_=>none
def Z7v(g:Gam)(o:Oper):Bool:=match o.dst with|some d=>Z8b g d|none=>true
def ZbA(g:Gam)(o:Oper):Bool:=match o.dst with|some d=> !(g.at d).2.isNo|none=>true
def Zbz(o:Oper)(ps:List Nat):Bool:=match o.dst with|some d=>ps.contains d|none=>true
def Z8Y(c:Ctx)(o:Oper):Bool:=match o.dst with|some d=> !decide (d<c.n)|none=>false
def pkOf(c:Ctx)(g:Gam)(C:Zi)(o:Oper):PK:=
 match o.op with
 |.pick x a b=>Z6k c g C x a b
 |.assign _=>if Z7v g o then none else pk c g C o
 |.move _=>if ZbA g o then none else pk c g C o
 |_=>pk c g C o
def Z6R(c:Ctx)(lets:List Nat)(g:Gam)(C:Zi)(d:Nat)(k:TK)(es:List E):Option OS:=
 if lets.contains d then
  match k with
  |.val e []=>if !(g.at d).2.isNo then none else some {d:=[(d,C,.val (.s (c.ix d)) [])],ps:=[d],rb:=[d],fz:=[],efs:=[.lt (c.ix d) (ixC c C) e],chks:=es.map λe=>(ixC c C,e)}
  |_=>none
 else if XC d k||leads d k then none else some {d:=[(d,C,k)],ps:=[d],rb:=[d],fz:=[],efs:=[],chks:=es.map λe=>(ixC c C,e)}
def ZaS(g all:Gam)(m:MS):OS:= {d:=m.d++Wh m.ps m.rb m.fz all++Xk m.fz g,ps:=m.ps,rb:=m.rb,fz:=m.fz,efs:=[],chks:=m.es.map λe=>([],e)}
def K5(c:Ctx)(lets:List Nat)(ops:Array Oper)(all:Gam)(o:Oper):Option OS:=
 let g:=only all (Jo ops all o)
 if Z8Y c o then none else
 (LW c ops g o).bind λC=>
 match jV c g C o,o.dst with
 |some (fn,ks,aps),some d=>K4 c g all C d fn ks aps
 |some _,none=>none
 |none,_=>
 match Z4D g C o,o.dst with
 |some (f,sh,args,ts),some d=>zV c g C o.type d f sh args ts
 |some _,none=>none
 |none,_=>match pkOf c g C o,o.dst with
  |some (k,es),some d=>Z6R c lets g C d k es
  |_,_=>if o.guard.isSome then none else(mk c g o).bind λm=>if m.ps.all (λp=>(Zz m.d).contains p)&&m.rb.all (λp=>m.ps.contains p)&&Zbz o m.ps then some (ZaS g all m)else none
def Z8a(ops:Array Oper):List Nat:=
 ops.toList.filterMap λo=>match o.op,o.dst with
  |.assign (.tmp t),some _=>some t
  |.store _ _ (.tmp t),_=>some t
  |.call {callee:=.builtin .append,args, .. },_=>match args.toList with|.tmp t::_=>some t|_=>none
  |_,_=>none
def Z6c(ops:Array Oper):List Nat:=
 let l:=Z8a ops
 l++ops.toList.flatMap λo=>match o.op,o.dst with
  |.build _ parts,some d=>if l.contains d then parts.toList.filterMap λx=>match x.2 with|.tmp t=>some t|_=>none else []
  |_,_=>[]
def Z29(ops:Array Oper):List Nat:=
 ops.toList.filterMap λo=>match o.guard with
  |some (j,_)=>(ops[j]?).bind (·.dst)
  |none=>none
structure XS where
 os:OS
 R:List Nat
 T:List Nat
 deriving Inhabited
def Tof(xs:List XS)(e:Nat):List Nat:=match xs[e]? with|some x=>x.T|none=>[]
def VM(o:Oper):List Nat:=(o.after.toList.filter λe=>Region.binds .any e).map (·.on)
def Z4k(draw:Bool)(xs:List XS)(o:Oper):List Nat:=
 if draw then(List.range xs.length).filter λj=>(VM o).any λe=>e==j||(Tof xs e).contains j
 else List.range xs.length
def Re(c:Ctx)(draw:Bool)(lets:List Nat)(ops:Array Oper):List Oper->Gam->List XS->Option (Gam×List XS)
 | [],g,xs=>some (g,xs)
 |o::l,g,xs=>if draw&& !(VM o).all (λe=>decide (e<xs.length))then none else(K5 c lets ops g o).bind λos=>Re c draw lets ops l (os.d++g) (xs++[{os,R:=Jo ops g o,T:=Z4k draw xs o}])
def JJ(os:OS)(g:Gam):Bool:=g.all λx=>(Zz os.d).contains x.1||calm os.ps os.rb os.fz x.2.2
def Z4v(a b:List Nat):Bool:=a.all λt=> !b.contains t
def Z2g(x:XS)(i:Nat)(y:XS)(j:Nat):Bool:=
 j==i||((y.T.contains i||JJ x.os y.os.d)&&(x.T.contains j||y.T.contains i||(Z4v (Zz y.os.d) (Zz x.os.d)&&Z4v (Zz y.os.d) x.R)))
def zC(g0:Gam)(xs:List XS):Bool:=
 xs.zipIdx.all λx=>(x.1.os.ps.all λp=>(Zz x.1.os.d).contains p)&&(x.1.os.fz.all λp=>(Zz x.1.os.d).contains p)&&JJ x.1.os g0&&
  (x.1.T.all λj=>j<x.2)&&xs.zipIdx.all λy=>Z2g x.1 x.2 y.1 y.2
abbrev SS:=List (Nat×OT)
def KU(c:Ctx)(t:Nat):OT->TK
 |.fz=>.val (.s (c.ix t)) []
 |.own ty=>.own ty (.s (c.ix t))
 |.nil=>.nil
 |.mem l=>.mem (l.zipIdx.map λx=>(x.1,.m (c.ix t) x.2))
 |.clo f caps=>.clo f caps
def Y0(c:Ctx)(S:SS):Gam:=S.map λx=>(x.1,[],KU c x.1 x.2)
def outK:TK->Option OT
 |.val _ _=>some .fz
 |.own ty _=>some (.own ty)
 |.nil=>some .nil
 |.mem cs=>some (.mem (cs.map (·.1)))
 |.clo f caps=>some (.clo f caps)
 |_=>none
def W9(keep:List Nat)(g:Gam):List Nat:=keep.flatMap λt=>match g.at t with
 |([],.val _ sh)=>sh
 |_=>[]
def ovK:TK->OV
 |.val e _=>.v e
 |.own _ e=>.v e
 |.nil=>.v (.c (.sl []))
 |.mem cs=>.m (cs.map (·.2))
 |_=>.no
def Sg(i:Nat):OV->Bool
 |.v (.s j)=>i==j
 |.m l=>(l.zipIdx.all λx=>match x.1 with|.m j k=>i==j&&k==x.2|_=>false)
 |_=>false
def qZ(keep:List Nat)(g:Gam):SS:=keep.filterMap λt=>if(g.at t).1.isEmpty then(outK (g.at t).2).map λk=>(t,k)else none
def SS.at(S:SS)(t:Nat):Option OT:=
 match S with
 | []=>none
 |(u,x)::r=>if u=t then some x else SS.at r t
def UO(c:Ctx)(S:SS)(g:Gam)(t:Nat):Option (Nat×OV):=
 let o:=if(g.at t).1.isEmpty then ovK (g.at t).2 else .no
 if Sg (c.ix t) o then none
 else match S.at t,(g.at t).2 with
  |some .nil,.nil=>none
  |none,.no=>none
  |_,_=>some (c.ix t,o)
def Zdd(c:Ctx)(S:SS)(keep:List Nat)(g:Gam):List (Nat×OV):=keep.filterMap (UO c S g)
def efE:EF->List (Zi×E)
 |.lt _ C e=>[(C,e)]
 |.call _ C f _ _ aq_=>(f.es++aq_).map λe=>(C,e)
 |.callm _ C f _ aq_=>(f.es++aq_).map λe=>(C,e)
def ovE:OV->List E
 |.v e=>[e]
 |.m l=>l
 |.no=>[]
def Z4N(l:List (Zi×E))(x:Zi×E):Bool:=l.any λy=>UZ y.1 x.1&&E.has x.2 y.2
def Z8d:List (Zi×E)->List (Zi×E)->List (Zi×E)
 |_,[]=>[]
 |l,x::r=>let q:=Z8d l r;if Z4N (l++q) x then q else x::q
def efI:EF->Nat
 |.lt i _ _=>i
 |.call i _ _ _ _ _=>i
 |.callm i _ _ _ _=>i
mutual
def E.asks(t:Nat):E->Bool
 |.s u=>t==u
 |.m u _=>t==u
 |.mm u _ _=>t==u
 |.bin _ a b|.eqv _ a b|.mn a b|.mx a b=>E.asks t a||E.asks t b
 |.idx a b _|.ai a b _ _ _|.slcl a b _|.app a b _=>E.asks t a||E.asks t b
 |.lk _ a b _ _=>E.asks t a||E.asks t b
 |.mput _ a b d=>E.asks t a||E.asks t b||E.asks t d
 |.mlen a|.mclr a=>E.asks t a
 |.un _ a|.conv _ a|.len a|.ext a _|.fld a _|.flds a _ _|.mk _ a|.star a|.isag a|.one a|.sz a _|.fl a|.fls a=>E.asks t a
 |.slc a b d _|.upd a b _ d|.aput a b _ _ d|.ite a b d=>E.asks t a||E.asks t b||E.asks t d
 |.lit l|.ag l|.pt _ l=>E.asksIn t l
 |.c _=>false
def E.asksIn(t:Nat):List E->Bool
 | []=>false
 |a::l=>E.asks t a||E.asksIn t l
end
def Yp(t:Nat):EF->Bool
 |.lt _ C e=>C.any (λx=>x.1==t)||E.asks t e
 |.call _ C f _ _ aq_=>C.any (λx=>x.1==t)||E.asksIn t (f.es++aq_)
 |.callm _ C f _ aq_=>C.any (λx=>x.1==t)||E.asksIn t (f.es++aq_)
def Z86:List EF->Bool
 | []=>true
 |x::l=> !Yp (efI x) x&&l.all (λy=>efI y !=efI x&& !Yp (efI y) x)&&Z86 l
def Zf4(fix:List Nat)(ops:Array Oper):Bool:=ops.toList.all λo=>match o.dst with
 |some d=> !fix.contains d
 |none=>true
def Z09(P:Program)(ix:Nat->Nat)(fresh:FuncId->Bool)(sig:FuncId->Option (List OT))(tr fix:List Nat)(n:Nat)(keep:List Nat)(draw:Bool)(ops:Array Oper)(S:SS):Option (Reg×SS):=
 let uses:=Z6c ops
 let c:Ctx:= {P,ix,own:=λt=>uses.contains t,fresh,sig,tr,n}
 let g0:=Y0 c S
 (Re c draw (Z29 ops) ops ops.toList g0 []).bind λr=>
  let sh:=W9 keep r.1
  let g:=frz sh r.1
  let outs:=Zdd c S keep g
  let efs:=r.2.flatMap λx=>x.os.efs
  let chks:=r.2.flatMap λx=>x.os.chks
  let asked:=(efs.flatMap efE)++(outs.flatMap λx=>(ovE x.2).map λe=>(([]:Zi),e))
  if Zf4 fix ops&&zC g0 r.2&&Z86 efs&&(efs.all λx=>S.all λy=>c.ix y.1 !=efI x)then
   some ({efs,chks:=Z8d asked chks,outs},qZ keep g)
  else none
end Vm
namespace Vm
open Go
inductive Stm where
 |reg (r:Reg)
 |skip
 |seq (a b:Stm)
 |cond (c:E) (a b:Stm)
 |block (id:Nat) (a:Stm)
 |loop (keep:List Nat) (a:Stm)
 |exit (id:Nat)
 |ret
 deriving Inhabited
def Z19(ops:Array Oper):List Oper->List Nat->List Nat
 | [],_=>[]
 |o::l,seen=>
  (o.op.operands.toList.filterMap λx=>match x with|.tmp t=>if seen.contains t then none else some t|_=>none)++
  Z19 ops l (match o.dst with|some d=>d::seen|none=>seen)
def Z2k(ops:Array Oper):List Nat:=
 ops.toList.filterMap λo=>match o.dst,o.op with
  |some d,.assign _|some d,.alloc _|some d,.box _ _=>some d
  |_,_=>none
def Z28(ops:Array Oper):List Nat:=
 ops.toList.filterMap λo=>match o.dst,o.op with
  |some d,.call {callee:=.value _, .. }=>some d
  |some d,_=>if(Z29 ops).contains d then some d else none
  |none,_=>none
def Yw(f:Array Oper->List Nat):Code->List Nat
 |.region _ ops _=>f ops
 |.seq a b=>Yw f a++Yw f b
 |.cond (.tmp t) a b=>t::Yw f a++Yw f b
 |.cond _ a b=>Yw f a++Yw f b
 |.block _ a|.loop a|.scope a=>Yw f a
 |_=>[]
def Z4O:List Nat->List Nat->List Nat
 |acc,[]=>acc.reverse
 |acc,t::l=>Z4O (if acc.contains t then acc else t::acc) l
def pos:List Nat->Nat->Nat
 | [],_=>0
 |u::l,t=>if u=t then 0 else pos l t+1
def leOT(P:Program):OT->OT->Bool
 |.own a,.own b=>a==b
 |.nil,.own a=>decide (0<P.cellsOf a)
 |.nil,.nil|.nil,.fz|.fz,.fz|.own _,.fz=>true
 |.mem a,.mem b=>Z3C P a b
 |.clo f a,.clo g b=>f==g&&a==b
 |_,_=>false
def leSS(P:Program)(S R:SS):Bool:=R.all λx=>match S.at x.1 with|some k=>leOT P k x.2|none=>false
def leO(P:Program)(S:Option SS)(R:Option SS):Bool:=match S,R with|none,_=>true|some S,some R=>leSS P S R|some _,none=>false
def ZcJ(P:Program):CK->CK->CK
 |a,b=>if leCK P a b then b else if leCK P b a then a else match a,b with|.dead,_|_,.dead=>.dead|_,_=>.fz
def ZcK(P:Program):OT->OT->Option OT
 |.mem a,.mem b=>if a.length=b.length then some (.mem ((a.zip b).map λx=>ZcJ P x.1 x.2))else none
 |.mem _,_|_,.mem _=>none
 |a,b=>if leOT P a b then some b else if leOT P b a then some a else some .fz
def Z98(P:Program)(S R:SS):SS:=S.filterMap λx=>(R.at x.1).bind λk=>(ZcK P x.2 k).map λk=>(x.1,k)
def Z7T(P:Program):Option SS->Option SS->Option SS
 |none,b=>b
 |a,none=>a
 |some a,some b=>some (Z98 P a b)
def Z0L(P:Program):List SS->Option SS
 | []=>none
 |S::l=>Z7T P (some S) (Z0L P l)
structure Flow where
 n:Option SS
 x:List (Nat×SS)
 r:List SS
structure FC where
 P:Program
 ix:Nat->Nat
 fresh:FuncId->Bool
 sig:FuncId->Option (List OT)
 tr:List Nat
 fix:List Nat
 n:Nat
 keep:List Nat
def Zf6(S:SS):SS:=S.map λx=>(x.1,match x.2 with|.mem l=>.mem (l.map λk=>match k with|.own _=>.fz|k=>k)|k=>k)
def Z58(P:Program)(f:SS->Option (Stm×Flow)):Nat->SS->Option SS
 |0,S=>some S
 |k+1,S=>match f S with
  |none=>Z58 P f k (Zf6 S)
  |some x=>match x.2.n with
  |none=>some S
  |some R=>if leSS P R S then some S else Z58 P f k (Z98 P S R)
def comp(c:FC):Code->SS->Option (Stm×Flow)
 |.skip,S|.label _,S=>some (.skip,⟨some S,[],[]⟩)
 |.region _ ops draw,S=>(Z09 c.P c.ix c.fresh c.sig c.tr c.fix c.n c.keep draw ops S).map λx=>(.reg x.1,⟨some x.2,[],[]⟩)
 | .seq a b,S=>(comp c a S).bind λx=>match x.2.n with
   |none=>some x
   |some R=>(comp c b R).map λy=>(.seq x.1 y.1,⟨y.2.n,x.2.x++y.2.x,x.2.r++y.2.r⟩)
 | .cond (.tmp t) a b,S=>if S.at t=some .fz then(comp c a S).bind λx=>(comp c b S).bind λy=>
   let M:=Z7T c.P x.2.n y.2.n
   if leO c.P x.2.n M&&leO c.P y.2.n M then some (.cond (.s (c.ix t)) x.1 y.1,⟨M,x.2.x++y.2.x,x.2.r++y.2.r⟩)else none else none
 | .block id a,S=>(comp c a S).bind λx=>
   let M:=Z7T c.P x.2.n (Z0L c.P ((x.2.x.filter λy=>y.1==id).map (·.2)))
   if leO c.P x.2.n M&&x.2.x.all (λy=>y.1 !=id||leO c.P (some y.2) M)then
    some (.block id x.1,⟨M,x.2.x.filter λy=>y.1 !=id,x.2.r⟩)else none
 | .loop a,S=>(Z58 c.P (comp c a) 4 S).bind λH=>(comp c a H).bind λx=>
   if leSS c.P S H&&leO c.P x.2.n (some H)then some (.loop (H.map λy=>c.ix y.1) x.1,⟨none,x.2.x,x.2.r⟩)else none
 |.exit id,S=>some (.exit id,⟨none,[(id,S)],[]⟩)
 |.scope a,S=>comp c a S
 |.ret,S=>some (.ret,⟨none,[],[S]⟩)
 |_,_=>none
inductive RK where
 |v|ag (n:Nat)|one
 deriving Inhabited
structure Fn where
 n:Nat
 keep:List Nat
 body:Stm
 res:List (Nat×RK)
 deriving Inhabited
def Z6t(P:Program)(ix:Nat->Nat)(f:Func):List (Nat×RK):=
 f.results.toList.map λr=>match r with|.tmp t=>(ix t,.v)|.cell a t=>(ix a,if Zq P t then .ag (P.cellsOf t)else .one)
def qU(P:Program)(S:SS):ResultVar->Bool
 |.tmp t=>match S.at t with|some (.mem _)|some (.clo _ _)|none=>false|_=>true
 |.cell t ty=>match S.at t with|some (.mem l)=>okT P ty&&l.all (λk=>k !=.dead)&&(if Zq P ty then l.length==P.cellsOf ty else decide (0<l.length))|_=>false
def Vk(ks:List OT):SS:=ks.zipIdx.filterMap λx=>match x.1 with
 |.fz=>none
 |k=>some (x.2,k)
def U5:ResultVar->Nat
 |.tmp t=>t
 |.cell t _=>t
def qS(P:Program)(f:Func)(fin:SS)(S:SS):Bool:=f.results.toList.all (qU P S)&&leSS P S fin
def Z2s(f:Func)(fin:SS):Bool:=f.results.toList.all λr=>(fin.at (U5 r)).isNone
def Zd2(P:Program)(f:Func)(fin:SS):Option SS->Bool
 |some R=>qS P f fin R
 |none=>true
def Zd1(P:Program)(ix:Nat->Nat)(f:Func)(ks:List OT)(fin:SS)(fl:Flow):Bool:=
 Zd2 P f fin fl.n&&fl.r.all (qS P f fin)&&fl.x.isEmpty&&(List.range ks.length).all (λt=>ix t==t)
def Z0f(ks:List OT):List Nat:=(Vk ks).map (·.1)
def trOf(f:Func):List Nat:=f.results.toList.filterMap λr=>match r with
 |.tmp t=>some t
 |_=>none
def Zj(P:Program)(fresh:FuncId->Bool)(sig:FuncId->Option (List OT))(ks:List OT)(fin:SS)(f:Func):Option Fn:=
 f.body.bind λcode=>
  let keep:=Z4O [] ((List.range ks.length)++Yw (λops=>Z2k ops++Z19 ops ops.toList []) code)
  let ix:=pos (keep++Z4O [] ((Yw Z28 code).filter λt=> !keep.contains t))
  let S:SS:=ks.zipIdx.map λx=>(x.2,x.1)
  (comp {P,ix,fresh,sig,tr:=trOf f,fix:=Z0f ks,n:=f.ntmps,keep} code S).bind λx=>
   if Zd1 P ix f ks fin x.2 then
    some {n:=keep.length,keep,body:=x.1,res:=Z6t P ix f}
   else none
end Vm
namespace Vm
open Go
structure GH where
 F:Nat->Prop
 bl:Nat->Nat->Option Nat
 K:Nat->Prop
structure Ok (B:Nat) (G:Nat->Prop) (w:World) (h:GH):Prop where
 base:B<=w.heap.size
 f_lt:∀b,h.F b->b<w.heap.size
 f_or:∀b,h.F b->G b\/B<=b
 g_F:∀b,G b->h.F b
 b_lt:∀t i b,h.bl t i=some b->B<=b/\b<w.heap.size/\¬h.F b
 inj:∀t i u j b,h.bl t i=some b->h.bl u j=some b->t=u/\i=j
 k_lt:∀b,h.K b->b<w.heap.size
 k_bl:∀t i b,h.bl t i=some b->¬h.K b
 k_F:∀b,h.F b->G b\/¬h.K b
def GH.exb(h:GH)(big:Bool)(sh:List Nat)(b:Nat):Prop:=h.F b\/∃p∈sh,∃i,(big=true\/0<i)/\h.bl p i=some b
def GH.ext(h:GH)(sh:List Nat)(b:Nat):Prop:=h.F b\/∃p∈sh,∃i,h.bl p (i+1)=some b
theorem GH.ext_F{h:GH}{sh:List Nat}{b:Nat}(hb:h.F b):h.ext sh b:=.inl hb
theorem GH.ext_nil{h:GH}{b:Nat}(hb:h.ext [] b):h.F b:=by
 rcases hb with hb|⟨p,hp,_⟩
 ·exact hb
 grind
theorem GH.ext_left{h:GH}{sh r:List Nat}{b:Nat}(hb:h.ext sh b):h.ext (sh++r) b:=by
 rcases hb with hb|⟨p,hp,x⟩
 ·exact .inl hb
 ·exact .inr ⟨p,by simp[hp],x⟩
theorem GH.ext_right{h:GH}{sh r:List Nat}{b:Nat}(hb:h.ext r b):h.ext (sh++r) b:=by
 rcases hb with hb|⟨p,hp,x⟩
 ·exact .inl hb
 ·exact .inr ⟨p,by simp[hp],x⟩
def OwnL(P:Program)(B:Nat)(w:World)(h:GH)(o:Option Nat)(ty:TypeId)(x:V)(v:Value):Prop:=
 ∃l xs,x=.sl l/\0<P.cellsOf ty/\(∀y∈l,y.fits (P.cellsOf ty))/\w.ownsRow B ty (P.cellsOf ty) v l.length xs/\v.ownBlock=o/\
  ∀(i:Nat) (c:V),(flat l)[i]?=some c->∃u,xs[i]?=some u/\Rd w h.F c u
def OwnM(B:Nat)(w:World)(h:GH)(o:Option Nat)(x:V)(v:Value):Prop:=
 ∃id ks xs b es clk,x=.mp id ks xs/\v=.map (some b)/\o=some b/\B<=b/\(id=0\/id=b+1)/\w.heap[b]?=some (.map es clk)/\ks.length=es.size/\xs.length=es.size/\
  (∀(i:Nat) (c:V),ks[i]?=some c->Rd w h.F c (es.getD i default).key)/\∀(i:Nat) (c:V),xs[i]?=some c->Rd w h.F c (es.getD i default).val
def OwnV(P:Program)(B:Nat)(w:World)(h:GH)(o:Option Nat)(ty:TypeId)(x:V)(v:Value):Prop:=OwnL P B w h o ty x v\/OwnM B w h o x v
def plI:Option Nat->Nat
 |none=>1
 |some i=>i+1
def RelC(P:Program)(B:Nat)(s:St)(w:World)(h:GH)(o:Option Nat)(k:CK)(e:E)(v:Value):Prop:=
 match k with
 |.fz=>∃x,eval s e=some x/\x.one=true/\Rd w h.F x v
 |.own ty=>∃x,eval s e=some x/\OwnV P B w h o ty x v
 |.nil=>v=.slice none 0 0/\eval s e=some (.sl [])
 |.dead=>v.oneCell'=true
def RelCs(P:Program)(B:Nat)(s:St)(w:World)(h:GH)(t:Nat)(cs:List (CK×E))(vs:Array Value):Prop:=
 vs.size=cs.length/\∀i c,cs[i]?=some c->RelC P B s w h (h.bl t (i+1)) c.1 c.2 (vs.getD i undef)
def RelK(P:Program)(B:Nat)(s:St)(w:World)(h:GH)(tm:Nat->Option Value)(t:Nat)(v:Value):TK->Prop
 |.no=>True
 |.val e sh=>∃x,eval s e=some x/\Rd w (h.ext sh) x v
 |.own ty e=>∃x,eval s e=some x/\OwnV P B w h (h.bl t 1) ty x v
 |.nil=>v=.slice none 0 0
 |.mem cs=>∃b vs T,h.bl t 0=some b/\v=.pointer (some ⟨b,0,none⟩)/\w.heap[b]?=some (.cells vs T (0,0))/\RelCs P B s w h t cs vs
 |.ags cs=>∃vs,v=.agg vs/\RelCs P B s w h t cs vs
 |.ref p=>tm p=some v
 |.refm p i=>∃b,h.bl p 0=some b/\w.cell? ⟨b,i,none⟩=some v
 |.pm p o=>∃b,h.bl p 0=some b/\v=.pointer (some ⟨b,o,none⟩)
 | .pc e o sh=>∃x b q,∃vs:Nat->Value,eval s e=some x/\v=.pointer (some ⟨b,q+o,none⟩)/\h.ext sh b/\(∀c∈x.pc,c.one=true)/\
   (∀i,i<x.pc.length->w.cell? ⟨b,q+i,none⟩=some (vs i))/\∀i c,x.pc[i]?=some c->Rd w (h.ext sh) c (vs i)
 |.pe p i j o k=>∃n q,h.bl p (plI i)=some n/\(∃ki,eval s j=some (.int ki (q:Nat)))/\v=.pointer (some ⟨n,q*k+o,none⟩)
 |.pa p o j n k=>∃b q,h.bl p 0=some b/\(∃ki,eval s j=some (.int ki (q:Nat)))/\q<n/\v=.pointer (some ⟨b,o+q*k,none⟩)
 |.big e sh=>∃x,eval s e=some x/\Rd w (h.exb true sh) x v
 |.clo f caps=>∃vs:Array Value,v=.func (.func f) #[] vs/\vs.size=caps.length/\∀(i p:Nat),caps[i]?=some p->∃b,h.bl p 0=some b/\vs[i]?=some (.pointer (some ⟨b,0,none⟩))
def holds(s:St)(C:Zi):Prop:=∀x∈C,get s x.1=.v (.bool x.2)
theorem Y4(s:St):holds s []:=λ_ h=>by simp at h
theorem VQ{s:St}{C D:Zi}:holds s (C++D)↔holds s C/\holds s D:=by
 unfold holds;constructor
 ·simp_all
 grind
theorem Z7G{s:St}{c:Ctx}{C D:Zi}(h:UZ C D=true)(hd:holds s (ixC c D)):holds s (ixC c C):=by
 intro x hx;simp only[ixC,ZgX]at hx;obtain⟨y,hy,rfl⟩:=hx;refine hd (c.ix y.1,y.2) ?_;simp only[UZ,ZgT]at h;have:=h y hy;simp only[ixC,ZgX]
 grind
structure RelG (c:Ctx) (B:Nat) (G:Nat->Prop) (s:St) (a:Act) (w:World) (h:GH) (g:Gam):Prop where
 ok:Ok B G w h
 at_:∀t,holds s (ixC c (g.at t).1)->(g.at t).2.isNo=false->∃v,a.tmps[t]?=some v/\RelK c.P B s w h (λp=>a.tmps[p]?) t v (g.at t).2
 skip:∀t,¬holds s (ixC c (g.at t).1)->a.tmps.getD t undef=undef
theorem Act.eval_tmp(a:Act)(t:Nat)(v:Value)(h:a.tmps[t]?=some v):a.eval (.tmp t)=v:=by
 simp_all[Act.eval,ZgN,Zhe]
theorem qz{g:Gam}{C:Zi}{t:Nat}{k:TK}(h:look g C t=k)(hk:k.isNo=false):(g.at t).2=k/\UZ (g.at t).1 C=true:=by
 grind [look,TK.isNo]
section
variable {c:Ctx}{B:Nat}{G:Nat->Prop}{s:St}{a:Act}{w:World}{h:GH}{g:Gam}{C:Zi}
theorem RelG.look(hr:RelG c B G s a w h g)(hC:holds s (ixC c C)){t:Nat}{k:TK}(hl:look g C t=k)(hk:k.isNo=false):
  ∃v,a.tmps[t]?=some v/\RelK c.P B s w h (λp=>a.tmps[p]?) t v k/\(g.at t).2=k:=by
 obtain⟨h1,h2⟩:=qz hl hk;obtain⟨v,hv,hrel⟩:=hr.at_ t (Z7G h2 hC) (by simp_all);simp_all
theorem Q7{v:Value}{x:V}(hv:UE v=some x)(w:World)(G:Nat->Prop):Rd w G x v:=by
 unfold UE at hv
 split at hv<;>first
  |(simp only[ZgH]at hv;subst hv;first|exact .int _ _|exact .bool _|exact .str _|exact .nil _ _ (ZhO _)|exact .nomp|exact .nul0|exact .nul1)
  | (split at hv<;>first
    | (rename_i hs
       simp only[ZgH]at hv;subst hv;rw[ZhI hs.1,ZhI hs.2];exact .fn _)
    |simp at hv)
  |simp at hv
theorem QW{v:Value}{x:V}(hv:UE v=some x):x.one=true:=by
 unfold UE at hv
 split at hv<;>first
  |(simp only[ZgH]at hv;subst hv;rfl)
  |(split at hv<;>first|(simp only[ZgH]at hv;subst hv;rfl)|simp at hv)
  |simp at hv
theorem OwnV.rd{P:Program}{o:Option Nat}{ty:TypeId}{x:V}{v:Value}(hv:OwnV P B w h o ty x v){G':Nat->Prop}(hF:∀b,h.F b->G' b)(ho:∀b,o=some b->G' b):Rd w G' x v:=by
 rcases hv with ⟨l,xs,rfl,h0,hfit,hown,hb,hrd⟩|⟨id,ks,xs,b,es,clk,rfl,rfl,rfl,_,hid,hh,hk1,hx1,hk2,hx2⟩
 case inr=>exact .mp id ks xs b clk es hid (ho b rfl) hh hk1 hx1 (λi c hi=>(hk2 i c hi).mono hF) λi c hi=>(hx2 i c hi).mono hF
 obtain⟨hlen,hc⟩:=hown;rcases hc with ⟨rfl,hn⟩|⟨b,cap,cur,rfl,_,hh,hle,hcap,hsz,htk⟩
 ·have:l=[]:=Zhz hn;subst this;exact .nil _ _ (ZhO _)
 ·simp only[Value.ownBlock]at hb;refine .sl l b 0 cap (P.cellsOf ty) (λi=>cur.getD i undef) hle hcap (ho b hb.symm) hfit (λi hi=> ?_) λi c hi=> ?_
  ·rw[Zhy,Zh3 w b i cur ty (0,0) hh];have:i<cur.size:=by rw[hsz];exact ZgV hi (Zhh _ hle)
   simp_all
  ·obtain⟨u,hu,hr⟩:=hrd i c hi
   have hu':cur.getD i undef=u:=by
    rw[<-htk,Zhm]at hu;split at hu
    ·simp_all
    ·simp at hu
   rw[hu'];exact hr.mono hF
theorem RelC.cell{P:Program}{o:Option Nat}{k:CK}{e:E}{v:Value}(hr:RelC P B s w h o k e v):v.oneCell'=true:=by
 cases k with
 |fz=>obtain⟨x,_,h1,h2⟩:=hr;rw[h2.one_eq,h1]
 |own ty=>
  obtain⟨x,_,⟨l,xs,_,_,_,⟨_,hc⟩,_⟩|⟨_,_,_,_,_,_,_,rfl,_⟩⟩:=hr
  ·rcases hc with ⟨rfl,_⟩|⟨_,_,_,rfl,_⟩<;>rfl
  ·rfl
 |nil=>obtain⟨rfl,_⟩:=hr;rfl
 |dead=>exact hr
theorem RelC.rd{P:Program}{o:Option Nat}{k:CK}{e:E}{v:Value}(hr:RelC P B s w h o k e v)(hd:k≠.dead){G':Nat->Prop}(hF:∀b,h.F b->G' b)(ho:∀ty,k=.own ty->∀b,o=some b->G' b):
  ∃x,eval s e=some x/\x.one=true/\Rd w G' x v:=by
 cases k with
 |fz=>obtain⟨x,h0,h1,h2⟩:=hr;exact⟨x,h0,h1,h2.mono hF⟩
 |own ty=>
  obtain⟨x,h0,hv⟩:=hr;refine⟨x,h0,?_,hv.rd hF (ho ty rfl)⟩;rcases hv with ⟨l,xs,rfl,_⟩|⟨_,_,_,_,_,_,rfl,_⟩<;>rfl
 |nil=>obtain⟨rfl,h0⟩:=hr;exact⟨_,h0,rfl,.nil _ _ (ZhO _)⟩
 |dead=>simp_all
theorem Yy{l:List E}{xs:List V}(h:Yc s l=some xs):xs.length=l.length/\∀(i:Nat) (e:E),l[i]?=some e->∃x,xs[i]?=some x/\eval s e=some x:=by
 induction l generalizing xs with
 |nil=>simp only[Yc,ZgH]at h;subst h;exact⟨rfl,λi e hi=>by simp at hi⟩
 |cons e l ih=>
  simp only[Yc,ZgI,ZgK]at h
  grind
theorem KV{l:List E}(h:∀e∈l,∃x,eval s e=some x):∃xs,Yc s l=some xs:=by
 induction l with
 |nil=>exact⟨[],rfl⟩
 |cons e l ih=>
  obtain⟨x,hx⟩:=h e (by simp)
  grind [Yc]
theorem YG{l:List V}(h:∀x∈l,x.one=true):flat l=l:=by
 induction l with
 |nil=>rfl
 |cons x l ih=>
  rw[WL,ih λy hy=>h y (by simp[hy])];have hx:=h x (by simp);cases x<;>first|rfl|simp[V.one]at hx
theorem RelCs.rd{P:Program}{t:Nat}{cs:List (CK×E)}{vs:Array Value}(hr:RelCs P B s w h t cs vs)(hd:Y9 cs=false){G':Nat->Prop}(hF:∀b,h.F b->G' b)(ho:VE cs=true->∀i b,h.bl t (i+1)=some b->G' b):
  ∃x,eval s (.ag (cs.map (·.2)))=some (.agg x)/\x.length=cs.length/\Rd w G' (.agg x) (.agg vs):=by
 obtain⟨hsz,hc⟩:=hr
 have key:∀i k e,cs[i]?=some (k,e)->∃x,eval s e=some x/\x.one=true/\Rd w G' x (vs.getD i undef):=by
  intro i k e hi;have hmem:=ZgQ hi;refine(hc i (k,e) hi).rd ?_ hF ?_
  ·grind [Y9,List.any_eq_true]
  ·grind [VE,List.any_eq_true]
 obtain⟨xs,hxs⟩:=KV (s:=s) (l:=cs.map (·.2)) (by
  intro e he;simp only[ZgX]at he;obtain⟨⟨k,e'⟩,hm,rfl⟩:=he
  grind [List.getElem?_of_mem])
 obtain⟨hl,hx⟩:=Yy hxs;have hl':xs.length=cs.length:=by simpa using hl
 have hall:∀i x,xs[i]?=some x->x.one=true/\Rd w G' x (vs.getD i undef):=by
  intro i x hi
  have hlt:i<cs.length:=by
   have:=(ZgL.1 hi).1;omega
  obtain⟨y,hy,h1,h2⟩:=key i cs[i].1 cs[i].2 (by simp[hlt]);obtain⟨z,hz,hz'⟩:=hx i (cs[i].2) (by simp[hlt]);rw[hi]at hz;cases hz;rw[hy]at hz';cases hz';exact⟨h1,h2⟩
 have hone:∀x∈xs,x.one=true:=λx hxm=>by
  grind [List.getElem?_of_mem]
 refine⟨xs,?_,hl',.agg xs vs (by omega) hone λi x hi=>(hall i x hi).2⟩;simp_all[eval,agV,YG]
theorem Jq{P:Program}{t b:Nat}{vs:Array Value}{T:TypeId}{cs:List (CK×E)}(hb0:h.bl t 0=some b)(hh:w.heap[b]?=some (.cells vs T (0,0)))(hcs:RelCs P B s w h t cs vs)(hd:Y9 cs=false)
  {z:V} (hz:eval s (.pt none (cs.map (·.2)))=some z) {G':Nat->Prop} (hF:∀b,h.F b->G' b) (hb:∀i b,h.bl t i=some b->G' b):Rd w G' z (.pointer (some ⟨b,0,none⟩)):=by
 simp only[eval,ZgI]at hz;obtain⟨xs,hxs,hz⟩:=hz;simp only[ptV]at hz;split at hz
 ·rename_i hone;simp only[ZgH]at hz;subst hz;have hone':∀x∈xs,x.one=true:=λx hx=>ZgT.1 hone x hx;obtain⟨x,hx,hl,hrd⟩:=hcs.rd hd (G':=G') hF (λ_ i b hi=>hb _ b hi);simp only[eval,hxs,ZgY,agV,YG hone',ZgH,V.agg.injEq]at hx;subst hx;cases hrd with
  |agg _ _ h1 h2 h3=>
   refine .ptr xs b 0 (λi=>vs.getD i undef) (hb 0 b hb0) h2 (λi hi=> ?_) h3;rw[Zhy,Zh3 w b i vs T (0,0) hh];have:i<vs.size:=by omega
   simp_all
 ·cases hz
theorem RelG.ownOf(hr:RelG c B G s a w h g){p:Nat}{ty:TypeId}{e:E}(hp:ownOf g p=some (ty,e)):
  ∃v,a.tmps[p]?=some v/\∃x,eval s e=some x/\OwnV c.P B w h (h.bl p 1) ty x v:=by
 unfold Vm.ownOf at hp;split at hp
 ·rename_i ty' e' hat;simp only[ZgH,ZgR]at hp;obtain⟨rfl,rfl⟩:=hp;obtain⟨v,hv,hrel⟩:=hr.at_ p (by rw[hat];exact Y4 s) (by rw[hat];rfl);rw[hat]at hrel;exact⟨v,hv,hrel⟩
 grind
theorem RelG.memOf(hr:RelG c B G s a w h g){p:Nat}{cs:List (CK×E)}(hp:memOf g p=some cs):
  ∃b vs T,h.bl p 0=some b/\a.tmps[p]?=some (.pointer (some ⟨b,0,none⟩))/\w.heap[b]?=some (.cells vs T (0,0))/\RelCs c.P B s w h p cs vs:=by
 unfold Vm.memOf at hp;split at hp
 ·rename_i cs' hat;simp only[ZgH]at hp;subst hp;obtain⟨v,hv,hrel⟩:=hr.at_ p (by rw[hat];exact Y4 s) (by rw[hat];rfl);rw[hat]at hrel;obtain⟨b,vs,T,h1,rfl,h2,h3⟩:=hrel;simp_all
 grind
def Z9i:TK->Nat×Nat
 |.ref p=>(p,1)
 |.refm p i=>(p,i+1)
 |_=>(0,0)
theorem RelG.ownAt(hr:RelG c B G s a w h g){k:TK}{ty:TypeId}{e:E}(hp:ownAt g k=some (ty,e)){t:Nat}{v:Value}(hk:RelK c.P B s w h (λp=>a.tmps[p]?) t v k):
  ∃x,eval s e=some x/\OwnV c.P B w h (h.bl (Z9i k).1 (Z9i k).2) ty x v:=by
 cases k with
 |ref p=>
  obtain⟨u,hu,x,hx,ho⟩:=hr.ownOf hp
  have:u=v:=by
   have h1:a.tmps[p]?=some v:=hk;rw[hu]at h1;cases h1;rfl
  subst this;exact⟨x,hx,ho⟩
 |refm p i=>
  simp only[Vm.ownAt,ZgI]at hp;obtain⟨cs,hm,hp⟩:=hp;obtain⟨b,vs,T,hb,_,hh,hsz,hcs⟩:=hr.memOf hm;obtain⟨b',hb',hcell⟩:=hk;rw[hb]at hb';cases hb';rw[Zh3 w b i vs T (0,0) hh]at hcell;have hget:vs.getD i undef=v:=by simp[ZgN,hcell]
  split at hp
  ·rename_i ty' e' hci;simp only[ZgH,ZgR]at hp;obtain⟨rfl,rfl⟩:=hp;have:=hcs i _ hci;rw[hget]at this;exact this
  grind
 |_=>simp[Vm.ownAt]at hp
theorem RelG.place(hr:RelG c B G s a w h g){p:Nat}{i:Option Nat}{ty:TypeId}{e:E}(hp:Vm.ownAt g (JG p i)=some (ty,e)):
  ∃v x,RelK c.P B s w h (λp=>a.tmps[p]?) 0 v (JG p i)/\eval s e=some x/\OwnV c.P B w h (h.bl p (plI i)) ty x v:=by
 cases i with
 |none=>
  obtain⟨u,hu,x,hx,ho⟩:=hr.ownOf hp;exact⟨u,x,hu,hx,ho⟩
 |some i=>
  have hp0:=hp;simp only[JG,Vm.ownAt,ZgI]at hp;obtain⟨cs,hm,hp⟩:=hp;obtain⟨b,vs,T,hb,_,hh,hsz,hcs⟩:=hr.memOf hm;split at hp
  ·rename_i ty' e' hci;have hlt:i<vs.size:=by rw[hsz];exact(ZgL.1 hci).1
   have hrel:RelK c.P B s w h (λp=>a.tmps[p]?) 0 (vs.getD i undef) (JG p (some i)):=
    ⟨b,hb,by rw[Zh3 w b i vs T (0,0) hh];simp_all⟩
   obtain⟨x,hx,ho⟩:=hr.ownAt hp0 hrel;exact⟨_,x,hrel,hx,ho⟩
  grind
theorem Z8T(hr:RelG c B G s a w h g){k:TK}{t:Nat}{v:Value}(hv:a.tmps[t]?=some v)(hk:RelK c.P B s w h (λp=>a.tmps[p]?) t v k){e:E}{sh:List Nat}(he:asE g k t=some (e,sh)):
  ∃x,eval s e=some x/\Rd w (h.ext sh) x v:=by
 cases k with
 |val e' sh'=>simp only[asE,ZgH,ZgR]at he;obtain⟨rfl,rfl⟩:=he;exact hk
 |own ty e'=>
  simp only[asE,ZgH,ZgR]at he;obtain⟨rfl,rfl⟩:=he;obtain⟨x,hx,ho⟩:=hk;exact⟨x,hx,ho.rd (λb hb=>GH.ext_F hb) λb hb=>.inr ⟨t,by simp,0,hb⟩⟩
 |nil=>
  simp only[asE,ZgH,ZgR]at he;obtain⟨rfl,rfl⟩:=he;have:v=.slice none 0 0:=hk;subst this;exact⟨.sl [],rfl,.nil _ _ (ZhO _)⟩
 |ags cs=>
  simp only[asE]at he;split at he
  grind
  ·rename_i hd;simp only[ZgH,ZgR]at he;obtain⟨rfl,rfl⟩:=he;obtain⟨vs,rfl,hcs⟩:=hk;obtain⟨x,hx,_,hrd⟩:=hcs.rd (G':=h.ext (if VE cs=true then [t]else [])) (by grind) (λb hb=>GH.ext_F hb) (λho i b hb=>by rw[if_pos ho];exact .inr ⟨t,by simp,i,hb⟩);simp_all
 |ref p=>
  simp only[asE,ownAt,ZgK]at he;obtain⟨⟨ty,e'⟩,hp,he⟩:=he;simp only[ZgR]at he;obtain⟨rfl,rfl⟩:=he;obtain⟨u,hu,x,hx,ho⟩:=hr.ownOf hp
  have:u=v:=by
   have h1:a.tmps[p]?=some v:=hk;rw[hu]at h1;cases h1;rfl
  subst this;exact⟨x,hx,ho.rd (λb hb=>GH.ext_F hb) λb hb=>.inr ⟨p,by simp,0,hb⟩⟩
 |refm p i=>
  simp only[asE,ZgK]at he;obtain⟨⟨ty,e'⟩,hp,he⟩:=he;simp only[ZgR]at he;obtain⟨rfl,rfl⟩:=he;obtain⟨x,hx,ho⟩:=hr.ownAt hp (show RelK c.P B s w h (λp=>a.tmps[p]?) t v (.refm p i)from hk);exact⟨x,hx,ho.rd (λb hb=>GH.ext_F hb) λb hb=>.inr ⟨p,by simp,i,hb⟩⟩
 |no=>simp[asE]at he
 |mem cs=>simp[asE]at he
 |pm p o=>simp[asE]at he
 |pc e' o sh'=>simp[asE]at he
 |pe p i j o k=>simp[asE]at he
 |pa p o j n k=>simp[asE]at he
 |clo f caps=>simp[asE]at he
 |big e' sh'=>simp[asE]at he
end
end Vm
namespace Vm
open Go
open Go.RowKit (Below)
def TK.owning:TK->Bool
 |.own .. |.mem _|.ags _=>true
 |_=>false
structure Step (B:Nat) (ps rb fz:List Nat) (w w':World) (h h':GH):Prop where
 below:Below B w w'
 same:∀b,b<w.heap.size->(∀p∈ps,∀i,h.bl p i≠some b)->w'.heap[b]?=w.heap[b]?
 F:∀b,h.F b->h'.F b
 bl:∀t,t∉ps->t∉fz->h'.bl t=h.bl t
 fz0:∀t,t∉rb->h'.bl t 0=h.bl t 0
 fzF:∀t i b,t∉ps->t∈fz->h.bl t (i+1)=some b->h'.F b
 K:h'.K=h.K
section
variable {P:Program}{B:Nat}{G:Nat->Prop}{s:St}{w w':World}{h h':GH}{ps rb fz:List Nat}
theorem Step.F_same(hs:Step B ps rb fz w w' h h')(hok:Ok B G w h){b:Nat}(hb:h.F b):w'.heap[b]?=w.heap[b]? :=
 hs.same b (hok.f_lt b hb) λp _ i hi=>(hok.b_lt p i b hi).2.2 hb
theorem Step.bl_same(hs:Step B ps rb fz w w' h h')(hok:Ok B G w h){t i b:Nat}(ht:t∉ps)(hb:h.bl t i=some b):w'.heap[b]?=w.heap[b]? :=
 hs.same b (hok.b_lt t i b hb).2.1 λp hp j hj=>ht (by have:=(hok.inj t i p j b hb hj).1;simp_all)
theorem Step.ext_same(hs:Step B ps rb fz w w' h h')(hok:Ok B G w h){sh:List Nat}(hsh:∀p∈ps,p∉sh):Same (h.ext sh) w w':=by
 intro b hb;rcases hb with hb|⟨p,hp,i,hi⟩
 ·exact hs.F_same hok hb
 ·exact hs.bl_same hok (λhps=>hsh p hps hp) hi
theorem Step.ext_mono(hs:Step B ps rb fz w w' h h'){sh:List Nat}(hsh:∀p∈ps,p∉sh):∀b,h.ext sh b->h'.ext sh b:=by
 intro b hb;rcases hb with hb|⟨p,hp,i,hi⟩
 ·exact .inl (hs.F b hb)
 ·have hps:p∉ps:=λhps=>hsh p hps hp;by_cases hfz:p∈fz
  ·exact .inl (hs.fzF p i b hps hfz hi)
  ·exact .inr ⟨p,hp,i,by rw[hs.bl p hps hfz];exact hi⟩
theorem Step.exb_same(hs:Step B ps rb fz w w' h h')(hok:Ok B G w h){big:Bool}{sh:List Nat}(hsh:∀p∈ps,p∉sh):Same (h.exb big sh) w w':=by
 intro b hb;rcases hb with hb|⟨p,hp,i,_,hi⟩
 ·exact hs.F_same hok hb
 ·exact hs.bl_same hok (λhps=>hsh p hps hp) hi
theorem Step.exb_mono(hs:Step B ps rb fz w w' h h')(hrb:∀t∈rb,t∈ps){big:Bool}{sh:List Nat}(hsh:∀p∈ps,p∉sh):∀b,h.exb big sh b->h'.exb big sh b:=by
 intro b hb;rcases hb with hb|⟨p,hp,i,hi0,hi⟩
 ·exact .inl (hs.F b hb)
 ·have hps:p∉ps:=λhps=>hsh p hps hp;by_cases hfz:p∈fz
  ·cases i with
   |zero=>exact .inr ⟨p,hp,0,hi0,by rw[hs.fz0 p λhr=>hps (hrb p hr)];exact hi⟩
   |succ i=>exact .inl (hs.fzF p i b hps hfz hi)
  ·exact .inr ⟨p,hp,i,hi0,by rw[hs.bl p hps hfz];exact hi⟩
theorem j3{e:TypeId}{k:Nat}{v:Value}{n:Nat}{xs:List Value}(hr:w.ownsRow B e k v n xs)(hb:∀b,v.ownBlock=some b->w'.heap[b]?=w.heap[b]?):w'.ownsRow B e k v n xs:=by
 refine⟨hr.1,?_⟩;rcases hr.2 with hn|⟨g,cap,cur,rfl,h1,h2,h3⟩
 ·grind
 ·exact .inr ⟨g,cap,cur,rfl,h1,by rw[hb g rfl];exact h2,h3⟩
theorem OwnV.keep{o:Option Nat}{ty:TypeId}{x:V}{v:Value}(hv:OwnV P B w h o ty x v)(hF:Same h.F w w')(hFF:∀b,h.F b->h'.F b)(ho:∀b,o=some b->w'.heap[b]?=w.heap[b]?):OwnV P B w' h' o ty x v:=by
 rcases hv with ⟨l,xs,rfl,h0,h1,h2,h3,h4⟩|⟨id,ks,xs,b,es,clk,rfl,rfl,rfl,h0,hid,h1,h2,h3,h4,h5⟩
 case inr=>exact .inr ⟨id,ks,xs,b,es,clk,rfl,rfl,rfl,h0,hid,by rw[ho b rfl];exact h1,h2,h3,λi c hi=>(h4 i c hi).keep hF hFF,λi c hi=>(h5 i c hi).keep hF hFF⟩
 refine .inl ⟨l,xs,rfl,h0,h1,j3 h2 (λb hb=>ho b (by rw[<-h3];exact hb)),h3,λi c hi=> ?_⟩;obtain⟨u,hu,hr⟩:=h4 i c hi;exact⟨u,hu,hr.keep hF hFF⟩
theorem RelC.keep{o:Option Nat}{k:CK}{e:E}{v:Value}(hr:RelC P B s w h o k e v)(hF:Same h.F w w')(hFF:∀b,h.F b->h'.F b)(ho:∀b,o=some b->w'.heap[b]?=w.heap[b]?):RelC P B s w' h' o k e v:=by
 cases k with
 |fz=>obtain⟨x,h0,h1,h2⟩:=hr;exact⟨x,h0,h1,h2.keep hF hFF⟩
 |own ty=>obtain⟨x,h0,h1⟩:=hr;exact⟨x,h0,h1.keep hF hFF ho⟩
 |nil=>exact hr
 |dead=>exact hr
theorem RelCs.keep{t:Nat}{cs:List (CK×E)}{vs:Array Value}(hr:RelCs P B s w h t cs vs)(hF:Same h.F w w')(hFF:∀b,h.F b->h'.F b)(hbl:∀i,h'.bl t (i+1)=h.bl t (i+1))(ho:∀i b,h.bl t (i+1)=some b->w'.heap[b]?=w.heap[b]?):RelCs P B s w' h' t cs vs:=
 ⟨hr.1,λi ck hi=>by rw[hbl];exact(hr.2 i ck hi).keep hF hFF λb hb=>ho _ b hb⟩
theorem Z4H{k:TK}(hc:calm ps rb fz k=true):(∀p∈ps,XC p k=false)/\(∀p∈rb,leads p k=false)/\SN fz k=false:=by
 simp_all[calm,ZgM,ZhD,Zju,ZiS]
theorem RelK.keep{tm tm':Nat->Option Value}{t:Nat}{v:Value}{k:TK}(hk:RelK P B s w h tm t v k)(hs:Step B ps rb fz w w' h h')(hok:Ok B G w h)(hrb:∀t∈rb,t∈ps)
  (ht:t∉ps) (htf:t∈fz->k.owning=false) (hcalm:calm ps rb fz k=true) (htm:∀p,p∉ps->tm' p=tm p):RelK P B s w' h' tm' t v k:=by
 obtain⟨hto,hle,hin⟩:=Z4H hcalm;have hF:Same h.F w w':=λb hb=>hs.F_same hok hb;cases k with
 |no=>trivial
 |val e sh=>
  obtain⟨x,h0,h1⟩:=hk;have hsh:∀p∈ps,p∉sh:=λp hp hin=>by have:=hto p hp;simp[XC]at this;exact this hin
  exact⟨x,h0,h1.keep (hs.ext_same hok hsh) (hs.ext_mono hsh)⟩
 |big e sh=>
  obtain⟨x,h0,h1⟩:=hk;have hsh:∀p∈ps,p∉sh:=λp hp hin=>by have:=hto p hp;simp[XC]at this;exact this hin
  exact⟨x,h0,h1.keep (hs.exb_same hok hsh) (hs.exb_mono hrb hsh)⟩
 |own ty e=>
  obtain⟨x,h0,h1⟩:=hk;refine⟨x,h0,?_⟩;have htf:t∉fz:=λhf=>by cases htf hf
  rw[hs.bl t ht htf];exact h1.keep hF hs.F λb hb=>hs.bl_same hok ht hb
 |nil=>exact hk
 |mem cs=>
  obtain⟨b,vs,T,h1,h2,h3,h4⟩:=hk;have htf:t∉fz:=λhf=>by cases htf hf
  exact⟨b,vs,T,by rw[hs.bl t ht htf];exact h1,h2,by rw[hs.bl_same hok ht h1];exact h3,h4.keep hF hs.F (λi=>by rw[hs.bl t ht htf]) λi b hb=>hs.bl_same hok ht hb⟩
 |ags cs=>
  obtain⟨vs,h2,h4⟩:=hk;have htf:t∉fz:=λhf=>by cases htf hf
  exact⟨vs,h2,h4.keep hF hs.F (λi=>by rw[hs.bl t ht htf]) λi b hb=>hs.bl_same hok ht hb⟩
 |ref p=>
  have hp:p∉ps:=λhp=>by have:=hto p hp;simp[XC]at this
  exact(htm p hp).trans hk
 |refm p i=>
  have hp:p∉ps:=λhp=>by have:=hto p hp;simp[XC]at this
  obtain⟨b,h1,h2⟩:=hk;exact⟨b,by rw[hs.fz0 p (λhr=>hp (hrb p hr))];exact h1,by rw[ZhG (w:=w) (a:=⟨b,i,none⟩) (hs.bl_same hok hp h1)];exact h2⟩
 |pm p o=>
  obtain⟨b,h1,h2⟩:=hk;have hp:p∉rb:=λhp=>by have:=hle p hp;simp[leads]at this
  exact⟨b,by rw[hs.fz0 p hp];exact h1,h2⟩
 |pc e o sh=>
  obtain⟨x,b,q,vs,h0,h1,h2,h3,h4,h5⟩:=hk;have hsh:∀p∈ps,p∉sh:=λp hp hin=>by have:=hto p hp;simp[XC]at this;exact this hin
  exact⟨x,b,q,vs,h0,h1,hs.ext_mono hsh b h2,h3,λi hi=>by rw[(hs.ext_same hok hsh).cell h2];exact h4 i hi,λi ck hi=>(h5 i ck hi).keep (hs.ext_same hok hsh) (hs.ext_mono hsh)⟩
 |pe p i j o k=>
  have hp:p∉ps:=λhp=>by have:=hto p hp;simp[XC]at this
  have hpf:p∉fz:=λhp=>by simp[SN]at hin;exact hin hp
  obtain⟨n,q,h1,h2,h3⟩:=hk;exact⟨n,q,by rw[hs.bl p hp hpf];exact h1,h2,h3⟩
 |pa p o j n k=>
  have hp:p∉rb:=λhp=>by have:=hle p hp;simp[leads]at this
  obtain⟨b,q,h1,h2,h3,h4⟩:=hk;exact⟨b,q,by rw[hs.fz0 p hp];exact h1,h2,h3,h4⟩
 |clo f caps=>
  obtain⟨vs,h1,h2,h3⟩:=hk;refine⟨vs,h1,h2,λi p hi=> ?_⟩;obtain⟨b,h4,h5⟩:=h3 i p hi;have hp:p∉rb:=λhp=>by have:=hle p hp;simp[leads]at this;exact this (ZgQ hi)
  exact⟨b,by rw[hs.fz0 p hp];exact h4,h5⟩
end
def PRes(c:Ctx)(B:Nat)(G:Nat->Prop)(s:St)(w:World)(h:GH)(tm:Nat->Option Value)(d:Nat)(k:TK)(v:Value)(w':World):Prop:=
 ∃h',Step B [d] [d] [] w w' h h'/\Ok B G w' h'/\RelK c.P B s w' h' tm d v k
section
variable {c:Ctx}{B:Nat}{G:Nat->Prop}{s:St}{a:Act}{w:World}{h:GH}{g:Gam}{C:Zi}
theorem Step.refl(ps rb:List Nat)(w:World)(h:GH):Step B ps rb [] w w h h:=⟨ZhA _ _,λ_ _ _=>rfl,λ_ hb=>hb,λ_ _ _=>rfl,λ_ _=>rfl,λ_ _ _ _ hm=>(by simp at hm),rfl⟩
theorem PRes.here{tm:Nat->Option Value}{d:Nat}{k:TK}{v:Value}(hok:Ok B G w h)(hk:RelK c.P B s w h tm d v k):PRes c B G s w h tm d k v w:=
 ⟨h,Step.refl _ _ _ _,hok,hk⟩
theorem Z66(hr:RelG c B G s a w h g)(hC:holds s (ixC c C)){x:Operand}{k:TK}(hx:opK g C x=k)(hk:k.isNo=false):
  (∃v,x=.const v)\/(∃t,x=.tmp t/\look g C t=k/\∃v,a.tmps[t]?=some v/\a.eval x=v/\RelK c.P B s w h (λp=>a.tmps[p]?) t v k)\/∃f,x=.func f/\ .val (.c (.fn f)) []=k:=by
 cases x with
 |const v=>simp
 |tmp t=>
  have hx':look g C t=k:=hx;obtain⟨v,hv,hrel,_⟩:=hr.look hC hx' hk;exact .inr (.inl ⟨t,rfl,hx',v,hv,Act.eval_tmp a t v hv,hrel⟩)
 |global q=>grind [opK,TK.isNo]
 |func f=>exact .inr (.inr ⟨f,rfl,hx⟩)
theorem Xg(hr:RelG c B G s a w h g)(hC:holds s (ixC c C)){x:Operand}{e:E}{sh:List Nat}(he:opE g C x=some (e,sh)):
  ∃y,eval s e=some y/\Rd w (h.ext sh) y (a.eval x):=by
 unfold opE at he;cases x with
 |tmp t=>
  simp only at he
  have hn:(opK g C (.tmp t)).isNo=false:=by
   cases hk:opK g C (.tmp t)<;>first|rfl|simp_all[asE]
  obtain⟨v,hv,hrel,_⟩:=hr.look hC (rfl:look g C t=opK g C (.tmp t)) hn;rw[Act.eval_tmp a t v hv];exact Z8T hr hv hrel he
 |const v=>
  simp only[opK]at he;split at he
  ·rename_i heq;simp only[ZjM]at heq;subst heq;simp only[asE,ZgH,ZgR]at he;obtain⟨rfl,rfl⟩:=he;exact⟨_,rfl,.nil _ _ (ZhO _)⟩
  ·rename_i heq;simp only[ZjM]at heq;subst heq;split at he
   ·rename_i x hx;simp only[asE,ZgH,ZgR]at he;obtain⟨rfl,rfl⟩:=he;exact⟨x,rfl,Q7 hx _ _⟩
   grind [asE]
  ·simp_all
  ·simp_all
  grind [asE]
 |global q=>grind [opK,asE]
 |func f=>
  simp only[opK,asE,ZgH,ZgR]at he;obtain⟨rfl,rfl⟩:=he;exact⟨.fn f,rfl,.fn f⟩
theorem Xn(hr:RelG c B G s a w h g)(hC:holds s (ixC c C)){x:Operand}{e:E}{sh:List Nat}(he:opK g C x=.val e sh):
  ∃y,eval s e=some y/\Rd w (h.ext sh) y (a.eval x):=Xg hr hC (by unfold opE;rw[he];rfl)
theorem SZ(hr:RelG c B G s a w h g)(hC:holds s (ixC c C)){x:Operand}(he:opK g C x=.nil):a.eval x=.slice none 0 0:=by
 rcases Z66 hr hC he rfl with ⟨v,rfl⟩|⟨t,rfl,_,v,hv,hev,hrel⟩|⟨f,_,hf⟩;rotate_left 2
 ·cases hf
 ·simp only[opK]at he;split at he
  ·rename_i heq;simp only[ZjM]at heq;subst heq;rfl
  ·grind
  ·simp_all
  ·simp_all
  grind
 ·rw[hev];exact hrel
theorem Rd.F{x:V}{v:Value}(hx:Rd w (h.ext []) x v):Rd w h.F x v:=hx.mono λ_ hb=>GH.ext_nil hb
theorem Rd.flat{G' G'':Nat->Prop}{x:V}{v:Value}(hx:Rd w G' x v)(hf:x.flatc=true):Rd w G'' x v:=by
 cases hx<;>first|exact .int _ _|exact .bool _|exact .str _|simp[V.flatc]at hf
theorem Z8r{op:BinOp}{x y z:V}(hz:binV op x y=some z){G' G'':Nat->Prop}{v u:Value}(hv:Rd w G' x v)(hu:Rd w G'' y u)(T:TypeId)(xo yo:Operand):
  ∃r,(do eqGuard op T xo yo v u;binOp op T v u:Sem Value).run c.P w=.ok r w/\Rd w h.F z r:=by
 cases hv<;>cases hu<;>(try (cases op<;>simp[binV]at hz;done))
 rename_i k n k' n';cases op<;>simp only[binV]at hz<;>(try split at hz)<;>(try simp only[ZgH]at hz)<;>(try subst hz)<;>(try (simp at hz;done))
 all_goals
  first|refine⟨.int _ _,?_,.int _ _⟩|refine⟨.bool _,?_,.bool _⟩
  first
   |(rename_i hk;subst hk;simp[eqGuard,binOp,Op.intArith,Op.intBits,Op.intCmp];done)
   |(rename_i hk;obtain⟨rfl,hb⟩:=hk;simp[eqGuard,binOp,Op.intDiv,hb];done)
   | (rename_i hk;have:¬n'<0:=by omega
      simp[eqGuard,binOp,Op.shift,this];done)
theorem Z6E{neg:Bool}{x y z:V}(hz:eqV neg x y=some z){G' G'':Nat->Prop}{v u:Value}(hv:Rd w G' x v)(hu:Rd w G'' y u){T:TypeId}(hT:eqTy c.P T=true)(xo yo:Operand):
  ∃r,(do eqGuard (if neg then .neq else .eql) T xo yo v u;binOp (if neg then .neq else .eql) T v u:Sem Value).run c.P w=.ok r w/\Rd w h.F z r:=by
 have hT':c.P.underlying T=some .bool:=by
  unfold eqTy at hT;split at hT
  ·assumption
  ·simp at hT
 cases hv with
 |bool a=>
  cases hu with
  |bool b=>
   simp only[eqV,ZgH]at hz;subst hz;refine⟨.bool _,?_,.bool _⟩;cases neg
   ·simp_all[run_eql_bool,eqGuard]
   simp_all[run_neq_bool,eqGuard]
  |_=>simp[eqV]at hz
 |_=>simp[eqV]at hz
theorem ZaJ{op:UnOp}{x z:V}(hz:unV op x=some z){G':Nat->Prop}{v:Value}(hv:Rd w G' x v):∃r,(Op.unary op v).run c.P w=.ok r w/\Rd w h.F z r:=by
 cases hv<;>(try (cases op<;>simp[unV]at hz;done))
 ·rename_i k n;cases op<;>simp only[unV,ZgH]at hz<;>first|(simp at hz;done)|skip
  subst hz;exact⟨.int _ _,by rfl,.int _ _⟩
 ·rename_i b;cases op<;>simp only[unV,ZgH]at hz<;>first|(simp at hz;done)|skip
  subst hz;exact⟨.bool _,by rfl,.bool _⟩
theorem Z6C{k:IntKind}{x z:V}(hz:Z3m k x=some z){G':Nat->Prop}{v:Value}(hv:Rd w G' x v){S T:TypeId}(hS:(c.P.underlying S).isSome=true)(hT:c.P.underlying T=some (.int k)):
  ∃r,(convert S T v).run c.P w=.ok r w/\Rd w h.F z r:=by
 obtain⟨dS,hS⟩:=ZhN.1 hS;cases hv<;>(try (simp[Z3m]at hz;done))
 simp only[Z3m,ZgH]at hz;subst hz;exact⟨.int _ _,by simp_all[convert,Zhk,Conv.intToInt],.int _ _⟩
theorem Z8t{x z:V}(hz:lenV x=some z){G':Nat->Prop}{v:Value}(hv:Rd w G' x v){T ty e:TypeId}(hT:c.P.underlying T=some (.slice e)):
  ∃r,(Builtin.len_ #[T] ty #[v]).run c.P w=.ok r w/\Rd w h.F z r:=by
 cases hv with
 |nil a' cap hc=>
  simp only[lenV,ZgH]at hz;subst hz;exact⟨.int .i64 0,by simp[Builtin.len_,Zhk hT,goInt],.int _ _⟩
 |sl l b o cap k vs h1 h2 h3 h4 h5 h6=>
  simp only[lenV,ZgH]at hz;subst hz;exact⟨.int .i64 l.length,by simp[Builtin.len_,Zhk hT,goInt],.int _ _⟩
 |_=>simp[lenV]at hz
theorem Z8v{x y z:V}(hz:minV x y=some z){G' G'':Nat->Prop}{v u:Value}(hv:Rd w G' x v)(hu:Rd w G'' y u)(ts:Array TypeId)(ty:TypeId):
  ∃r,(Builtin.min_ ts ty #[v,u]).run c.P w=.ok r w/\Rd w h.F z r:=by
 cases hv<;>(try (simp[minV]at hz;done))
 cases hu<;>(try (simp[minV]at hz;done))
 rename_i k n k' n';simp only[minV,ZgH]at hz;subst hz;exact⟨.int k _,by rfl,.int _ _⟩
theorem Z8u{x y z:V}(hz:maxV x y=some z){G' G'':Nat->Prop}{v u:Value}(hv:Rd w G' x v)(hu:Rd w G'' y u)(ts:Array TypeId)(ty:TypeId):
  ∃r,(Builtin.max_ ts ty #[v,u]).run c.P w=.ok r w/\Rd w h.F z r:=by
 cases hv<;>(try (simp[maxV]at hz;done))
 cases hu<;>(try (simp[maxV]at hz;done))
 rename_i k n k' n';simp only[maxV,ZgH]at hz;subst hz;exact⟨.int k _,by rfl,.int _ _⟩
theorem Z8s{x z:V}{i:Nat}(hz:extV x i=some z){G':Nat->Prop}{v:Value}(hv:Rd w G' x v):∃r,(Instr.extract v i).run c.P w=.ok r w/\Rd w G' z r:=by
 cases hv<;>(try (simp[extV]at hz;done))
 rename_i l vs h1 h2;simp only[extV]at hz;have hlt:i<vs.size:=by rw[h1];exact(ZgL.1 hz).1
 refine⟨vs.getD i undef,?_,h2 i z hz⟩;simp[Instr.extract,hlt,ZgN]
theorem WP{P:Program}{T:TypeId}(hT:okT P T=true):∃d i,P.underlying T=some d/\P.info? T=some i/\P.cellsOf T=i.size/\∀w:World,(isAgg T).run P w=.ok (Zq P T) w:=by
 simp only[okT,ZgM]at hT;obtain⟨d,hd⟩:=ZhN.1 hT.1;obtain⟨i,hi⟩:=ZhN.1 hT.2;refine⟨d,i,hd,hi,by simp[Program.cellsOf,hi],λw=> ?_⟩;unfold isAgg Zq;rw[Zhf,Zhk hd w,hd];cases d<;>rfl
theorem YI{P:Program}{T:TypeId}{i:TypeInfo}(hi:P.info? T=some i)(w:World):(Go.sizeOf T).run P w=.ok i.size w:=by
 simp[Go.sizeOf,typeInfo,hi]
theorem U7{P:Program}{T:TypeId}(hT:okT P T=true)(hag:Zq P T=false){b o:Nat}{v:Value}(hc:w.cell? ⟨b,o,none⟩=some v):
  (Instr.loadAt T (.pointer (some ⟨b,o,none⟩))).run P w=.ok v w:=by
 obtain⟨d,i,hd,hi,hs,hagg⟩:=WP hT;simp_all[Instr.loadAt,Instr.sureAddr,loadVar]
theorem Sf{P:Program}{T:TypeId}(hT:okT P T=true)(hag:Zq P T=true){b o:Nat}(vs:List Value)(hn:vs.length=P.cellsOf T)(hc:∀i u,vs[i]?=some u->w.cell? ⟨b,o+i,none⟩=some u):
  (Instr.loadAt T (.pointer (some ⟨b,o,none⟩))).run P w=.ok (.agg vs.toArray) w:=by
 obtain⟨d,i,hd,hi,hs,hagg⟩:=WP hT;have hl:=run_loadCells_list (P:=P) w ⟨b,o,none⟩ vs (λj u hj=>by simp_all[ZiI]);simp_all[Instr.loadAt,Instr.sureAddr,loadVar,YI]
theorem X5{x z:V}(h:oneV x=some z):x=z/\z.one=true:=by
 unfold oneV at h
 grind
theorem zM{p:Nat}{cs:List (CK×E)}:∀ {i:Nat},X7 p i cs=true->∀(j:Nat) (x:CK×E),cs[j]?=some x->x.2=E.m p (i+j):=by
 induction cs with
 |nil=>simp
 |cons y r ih=>
  intro i hp j x hj;obtain⟨k,e⟩:=y;cases e<;>simp only[X7]at hp<;>first|(cases hp;done)|skip
  grind
theorem LZ{p i:Nat}{cs:List (CK×E)}{x:List V}(hp:X7 p i cs=true)(hne:0<cs.length)(hx:eval s (.ag (cs.map (·.2)))=some (.agg x))(hone:∀(j:Nat) (e:CK×E),cs[j]?=some e->∃y,eval s e.2=some y/\y.one=true):
  eval s (.mm p i cs.length)=some (.agg x):=by
 simp only[eval,ZgK]at hx;obtain⟨ys,hys,hag⟩:=hx;obtain⟨hl,hget⟩:=Yy hys;have hl':ys.length=cs.length:=by simpa using hl
 have hy:∀j,j<cs.length->∃l,get s p=.m l/\∃y,l[i+j]?=some y/\ys[j]?=some y:=by
  intro j hj;obtain⟨y,hy,he⟩:=hget j (cs[j].2) (by simp[hj]);rw[zM hp j cs[j] (by simp[hj])]at he;simp only[eval]at he;split at he
  ·rename_i l hl;rw[ZgI]at he;obtain⟨y',he,h1⟩:=he;obtain⟨rfl,_⟩:=X5 h1;simp_all
  grind
 obtain⟨l,hl0,_⟩:=hy 0 hne
 have hyl:∀j,j<cs.length->l[i+j]?=ys[j]? :=by
  intro j hj;obtain⟨l',hl',y,h1,h2⟩:=hy j hj;rw[hl0]at hl';cases hl';rw[h1,h2]
 have hlen:i+cs.length<=l.length:=by
  have h1:=hyl (cs.length-1) (by omega);have h2:ys[cs.length-1]?=some ys[cs.length-1]:=ZgJ (by omega);rw[h2]at h1;have:=(ZgL.1 h1).1;omega
 have hys':(l.drop i).take cs.length=ys:=by
  apply Zkc;intro j;rw[Zhm];split
  ·simp_all
  ·simp_all
 have hone':∀y∈ys,y.one=true:=by
  intro y hym;obtain⟨j,hj⟩:=Zh8 hym;have hlt:j<cs.length:=by have:=(ZgL.1 hj).1;omega
  obtain⟨z,hz,hz1⟩:=hone j cs[j] (by simp[hlt]);obtain⟨z',hz',he'⟩:=hget j (cs[j].2) (by simp[hlt]);rw[hj]at hz';cases hz';rw[hz]at he';cases he';exact hz1
 simp_all[agV,V.agg.injEq,YG,eval,Zhp]
theorem RelCs.part{P:Program}{t:Nat}{cs:List (CK×E)}{vs:Array Value}(hr:RelCs P B s w h t cs vs){o n:Nat}(hn:((cs.drop o).take n).length=n):
  ∀(i:Nat) (ck:CK×E),((cs.drop o).take n)[i]?=some ck->RelC P B s w h (h.bl t (o+i+1)) ck.1 ck.2 (vs.getD (o+i) undef)/\vs[o+i]?=some (vs.getD (o+i) undef):=by
 intro i ck hi;rw[Zhm]at hi;split at hi
 ·rw[Zht]at hi;refine⟨hr.2 _ _ hi,?_⟩;have hlt:o+i<vs.size:=by rw[hr.1];exact(ZgL.1 hi).1
  simp_all
 grind
theorem RelCs.part_rd{P:Program}{t:Nat}{cs:List (CK×E)}{vs:Array Value}(hr:RelCs P B s w h t cs vs){o n:Nat}(hn:((cs.drop o).take n).length=n)(hd:Y9 ((cs.drop o).take n)=false){G':Nat->Prop}(hF:∀b,h.F b->G' b)
  (ho:VE ((cs.drop o).take n)=true->∀i b,h.bl t (i+1)=some b->G' b):
  ∃x,eval s (.ag (((cs.drop o).take n).map (·.2)))=some (.agg x)/\x.length=n/\(∀(j:Nat) (e:CK×E),((cs.drop o).take n)[j]?=some e->∃y,eval s e.2=some y/\y.one=true)/\
   Rd w G' (.agg x) (.agg ((vs.toList.drop o).take n).toArray)/\∀(i:Nat) (u:Value),((vs.toList.drop o).take n)[i]?=some u->vs[o+i]?=some u:=by
 have hp:=hr.part hn
 have hvl:((vs.toList.drop o).take n).length=n:=by
  have h1:=hr.1;simp only[ZhY,ZiE,ZiR]at hn⊢;omega
 have hvg:∀i,i<n->((vs.toList.drop o).take n)[i]?=vs[o+i]? :=by
  intro i hi;rw[Zhm,if_pos hi,Zht,Zi0]
 have key:∀i k e,((cs.drop o).take n)[i]?=some (k,e)->∃x,eval s e=some x/\x.one=true/\Rd w G' x (vs.getD (o+i) undef):=by
  intro i k e hi;have hmem:=ZgQ hi;refine(hp i (k,e) hi).1.rd ?_ hF ?_
  ·grind [Y9,List.any_eq_true]
  ·grind [VE,List.any_eq_true]
 have hsome:∀e∈((cs.drop o).take n).map (·.2),∃x,eval s e=some x:=by
  intro e he;obtain⟨⟨k,e'⟩,hm,rfl⟩:=ZgX.1 he
  grind [List.getElem?_of_mem]
 obtain⟨xs,hxs⟩:=KV hsome;obtain⟨hl,hx⟩:=Yy hxs;have hl':xs.length=n:=by rw[hl,Zhu,hn]
 have hall:∀i x,xs[i]?=some x->x.one=true/\Rd w G' x (vs.getD (o+i) undef):=by
  intro i x hi
  have hlt:i< ((cs.drop o).take n).length:=by
   have:=(ZgL.1 hi).1;omega
  obtain⟨y,hy,h1,h2⟩:=key i ((cs.drop o).take n)[i].1 ((cs.drop o).take n)[i].2 (by grind);obtain⟨z,hz,hz'⟩:=hx i (((cs.drop o).take n)[i].2) (by grind);rw[hi]at hz;cases hz;rw[hy]at hz';cases hz';exact⟨h1,h2⟩
 have hone:∀x∈xs,x.one=true:=λx hxm=>by
  grind [List.getElem?_of_mem]
 refine⟨xs,?_,hl',λj e hj=> ?_,.agg xs _ (by simp_all) hone λi x hi=> ?_,λi u hi=> ?_⟩
 ·simp_all[eval,ZgY,agV,YG]
 ·grind
 ·have hlt:i<n:=by have:=(ZgL.1 hi).1;omega
  have:((vs.toList.drop o).take n).toArray.getD i undef=vs.getD (o+i) undef:=by
   simp only[ZgN,ZiK,hvg i hlt]
  simp_all
 grind
end
end Vm
namespace Vm
open Go
open Go.RowKit (Below)
section
variable {c:Ctx}{B:Nat}{G:Nat->Prop}{s:St}{a:Act}{w:World}{h:GH}{g:Gam}{C:Zi}
def Has(c:Ctx)(B:Nat)(s:St)(w:World)(h:GH)(tm:Nat->Option Value)(d:Nat)(k:TK)(m:Sem Value):Prop:=
 ∃v,m.run c.P w=.ok v w/\RelK c.P B s w h tm d v k
theorem J6{x z:V}{o:Nat}(h:fldV x o=some z):x.pc[o]?=some z:=by
 unfold fldV at h;rw[ZgI]at h;obtain⟨y,h1,h2⟩:=h;rw[h1,(X5 h2).1]
theorem Uh{x z:V}{o n:Nat}(h:RX x o n=some z):o+n<=x.pc.length/\z=.agg ((x.pc.drop o).take n):=by
 simp_all[RX,ZgH]
theorem Z0I{T:TypeId}(hT:okT c.P T=true){x:V}{b q o:Nat}{vs:Nat->Value}{sh:List Nat}(hone:∀y∈x.pc,y.one=true)
  (hcell:∀i,i<x.pc.length->w.cell? ⟨b,q+i,none⟩=some (vs i)) (hrd:∀i y,x.pc[i]?=some y->Rd w (h.ext sh) y (vs i)) {e:E} (he:eval s e=some x)
  (hev:∃z,eval s (if Zq c.P T then .flds e o (c.P.cellsOf T)else .fld e o)=some z) (tm:Nat->Option Value) (d:Nat):
  Has c B s w h tm d (.val (if Zq c.P T then .flds e o (c.P.cellsOf T)else .fld e o) sh) (Instr.loadAt T (.pointer (some ⟨b,q+o,none⟩))):=by
 obtain⟨z,hz⟩:=hev;cases hag:Zq c.P T with
 |false=>
  rw[hag]at hz;simp only[ZgU,Zhr,eval,he,ZgS]at hz⊢;have hz':=J6 hz;have hlt:=(ZgL.1 hz').1;exact⟨vs o,U7 hT hag (hcell o hlt),z,by simp only[eval,he,ZgS];exact hz,hrd o z hz'⟩
 |true=>
  rw[hag]at hz;simp only[Zhp,eval,he,ZgS]at hz⊢;obtain⟨hle,rfl⟩:=Uh hz;have hlen:((x.pc.drop o).take (c.P.cellsOf T)).length=c.P.cellsOf T:=by simp;omega
  refine⟨.agg ((List.range (c.P.cellsOf T)).map λi=>vs (o+i)).toArray,Sf hT hag _ (by simp) (λi u hi=> ?_),_,by simp only[eval,he,ZgS];exact hz,?_⟩
  ·have hlt:i<c.P.cellsOf T:=by simpa using(ZgL.1 hi).1
   have:vs (o+i)=u:=by simpa[hlt]using hi
   rw[<-this,Zif];exact hcell (o+i) (by omega)
  ·refine .agg _ _ (by simp only[Zie,Zhu,Zke,hlen]) (λy hy=>hone y (Zih (ZhB hy))) λi y hi=> ?_;have hlt:i<c.P.cellsOf T:=by have:=(ZgL.1 hi).1;omega
   rw[Zhm,if_pos hlt,Zht]at hi
   have:((List.range (c.P.cellsOf T)).map λi=>vs (o+i)).toArray.getD i undef=vs (o+i):=by
    simp[ZgN,hlt]
   rw[this];exact hrd (o+i) y hi
theorem Rd.flatAll{G' G'':Nat->Prop}{x:V}{v:Value}(hx:Rd w G' x v)(hf:∀y∈x.cells,y.flatc=true)(ht:∀l,x≠.tup l):Rd w G'' x v:=by
 cases hx with
 |agg cs vs h1 h2 h3=>exact .agg cs vs h1 h2 λi y hi=>(h3 i y hi).flat (hf y (ZgQ hi))
 |tup l vs h1 h2=>simp_all
 |int k n=>exact .int _ _
 |bool b=>exact .bool _
 |str b=>exact .str _
 |nil a cap hc=>exact .nil _ _ hc
 |sl l b o cap k vs h1 h2 h3 h4 h5 h6=>simp_all[absurd,V.cells,V.flatc]
 |ptr cs b o vs h1 h2 h3 h4=>simp_all[absurd,V.cells,V.flatc]
 |fn f=>exact .fn f
 |clo f cs vs h1 h2=>simp_all[absurd,V.cells,V.flatc]
 |nul0=>exact .nul0
 |nul1=>exact .nul1
 |nomp=>exact .nomp
 |mp id ks xs b clk es h0 h1 h2 h3 h4 h5 h6=>exact absurd (hf (.mp id ks xs) (by simp[V.cells])) (by simp[V.flatc])
theorem Un(hr:RelG c B G s a w h g)(hC:holds s (ixC c C)){x:Operand}{k:TK}(hx:opK g C x=k)(hk:k.isNo=false):
  ((∃e,k=.val e [])\/k=.nil)\/∃t,x=.tmp t/\(∃v,a.tmps[t]?=some v/\a.eval x=v/\RelK c.P B s w h (λp=>a.tmps[p]?) t v k)/\(g.at t).2=k/\UZ (g.at t).1 C=true:=by
 rcases Z66 hr hC hx hk with ⟨v,rfl⟩|⟨t,rfl,hl,v,hv,hev,hrel⟩|⟨f,_,hf⟩;rotate_left 2
 ·grind
 ·left;simp only[opK]at hx;split at hx
  ·exact .inr hx.symm
  ·split at hx
   ·exact .inl ⟨_,hx.symm⟩
   ·subst hx;simp[TK.isNo]at hk
  ·simp_all
  ·simp_all
  ·subst hx;simp[TK.isNo]at hk
 ·obtain⟨h1,h2⟩:=qz hl hk;simp_all
theorem RelK.moved{tm:Nat->Option Value}{t d:Nat}{v:Value}{k:TK}(hk:RelK c.P B s w h tm t v k)(hf:k.free=true):RelK c.P B s w h tm d v k:=by
 cases k<;>first|exact hk|simp[TK.free]at hf
theorem ZQ(hr:RelG c B G s a w h g)(hC:holds s (ixC c C)){x:Operand}{k:TK}(hx:opK g C x=k)(hf:k.free=true)(d:Nat):
  RelK c.P B s w h (λp=>a.tmps[p]?) d (a.eval x) k:=by
 have hn:k.isNo=false:=by cases k<;>first|rfl|simp[TK.free]at hf
 rcases Un hr hC hx hn with (⟨e,rfl⟩|rfl)|⟨t,rfl,⟨v,hv,hev,hrel⟩,_⟩
 ·obtain⟨y,hy,hrd⟩:=Xn hr hC hx;exact⟨y,hy,hrd⟩
 ·exact SZ hr hC hx
 ·rw[hev];exact hrel.moved hf
theorem Z3L(hr:RelG c B G s a w h g)(hC:holds s (ixC c C)){x:Operand}{k:TK}{es:List E}(hp:Z6j g C x=some (k,es))(d:Nat):
  RelK c.P B s w h (λp=>a.tmps[p]?) d (a.eval x) k:=by
 unfold Z6j at hp;split at hp
 ·rename_i hf;simp only[ZgH,ZgR]at hp;obtain⟨rfl,rfl⟩:=hp;exact ZQ hr hC rfl hf d
 ·split at hp
  ·rename_i t ty e _ hk;simp only[ZgH,ZgR]at hp;obtain⟨rfl,rfl⟩:=hp;obtain⟨v,hv,_⟩:=hr.look hC (show look g C t=_ from hk) rfl;rw[Act.eval_tmp a t v hv];exact hv
  ·rename_i t cs _ hk;simp only[ZgH,ZgR]at hp;obtain⟨rfl,rfl⟩:=hp;obtain⟨v,hv,⟨b,vs,T,h1,h2,_⟩,_⟩:=hr.look hC (show look g C t=_ from hk) rfl;rw[Act.eval_tmp a t v hv];exact⟨b,h1,h2⟩
  ·rename_i t cs _ hk;simp only[ZgK]at hp;obtain⟨⟨e,sh⟩,he,hp⟩:=hp;simp only[ZgR]at hp;obtain⟨rfl,rfl⟩:=hp;obtain⟨v,hv,hrel,_⟩:=hr.look hC (show look g C t=_ from hk) rfl;rw[Act.eval_tmp a t v hv];exact Z8T hr hv hrel he
  grind
theorem J5{fl:Bool}{b:E×List Nat}{v:Value}{y:V}(he:eval s b.1=some y)(hrd:Rd w (h.ext b.2) y v)(hs:∃z,eval s (flE fl b).1=some z):
  ∃z,eval s (flE fl b).1=some z/\Rd w (h.ext (flE fl b).2) z v:=by
 obtain⟨z,hz⟩:=hs;unfold flE at hz⊢;split
 ·simp_all
 ·split
  ·rename_i hb hfl;simp only[hb,hfl,ZgU,Zhr,Zhp,eval,he,ZgS]at hz;refine⟨z,by simp_all[eval,ZgS],?_⟩;unfold flV at hz;split at hz
   grind
   ·rename_i ht;split at hz
    ·rename_i hall;simp only[ZgH]at hz;subst hz;exact hrd.flatAll (λy hy=>by simp_all) λl hl=>ht l hl
    grind
  simp_all
theorem j6(hr:RelG c B G s a w h g)(hC:holds s (ixC c C)){ty:TypeId}{x:Operand}{k:TK}{es:List E}(hp:zI c g C ty x=some (k,es))(hes:∀e∈es,∃z,eval s e=some z)(d:Nat):
  RelK c.P B s w h (λp=>a.tmps[p]?) d (a.eval x) k:=by
 unfold zI at hp;split at hp
 ·rename_i e hk;simp only[ZgH,ZgR]at hp;obtain⟨rfl,rfl⟩:=hp;exact ZQ hr hC hk rfl d
 ·rename_i e p sh hk;split at hp
  ·simp only[ZgH,ZgR]at hp;obtain⟨rfl,rfl⟩:=hp;obtain⟨y,hy,hrd⟩:=Xn hr hC hk;have:=J5 (s:=s) (w:=w) (h:=h) (fl:=true) (b:=(e,p::sh)) hy hrd (by simp_all[flE]);obtain⟨z,hz,hzr⟩:=this;exact⟨z,by simp_all[flE],by simp_all[flE]⟩
  grind
 ·rename_i hk;simp only[ZgH,ZgR]at hp;obtain⟨rfl,rfl⟩:=hp;exact ZQ hr hC hk rfl d
 ·rename_i f caps hk;simp only[ZgH,ZgR]at hp;obtain⟨rfl,rfl⟩:=hp;exact ZQ hr hC hk rfl d
 grind
theorem Kz(hr:RelG c B G s a w h g)(hC:holds s (ixC c C)){x:Operand}{k:TK}{es:List E}(hp:R2 g C x=some (k,es))(hes:∀e∈es,∃z,eval s e=some z)(o:Oper)(ho:o.op=.nilCheck x)(d:Nat):
  ∃v,(execOp a.eval o).run c.P w=.ok (.value v) w/\RelK c.P B s w h (λp=>a.tmps[p]?) d v k:=by
 unfold execOp;simp only[ho];unfold R2 at hp;split at hp
 ·rename_i cs hk;simp only[ZgH,ZgR]at hp;obtain⟨rfl,rfl⟩:=hp;obtain⟨t,rfl,⟨v,hv,hev,⟨b,vs,T,h1,rfl,_⟩⟩,_⟩:=(Un hr hC hk rfl).resolve_left (by simp);rw[hev];exact⟨_,rfl,b,h1,rfl⟩
 ·rename_i p q hk;simp only[ZgH,ZgR]at hp;obtain⟨rfl,rfl⟩:=hp;obtain⟨b,h1,h2⟩:=ZQ hr hC hk rfl d;rw[h2];exact⟨_,rfl,b,h1,rfl⟩
 ·rename_i e sh hk;simp only[ZgH,ZgR]at hp;obtain⟨rfl,rfl⟩:=hp;obtain⟨y,hy,hrd⟩:=Xn hr hC hk;obtain⟨z,hz⟩:=hes _ (List.Mem.head _);generalize a.eval x=v at hrd;simp only[eval,hy,ZgS]at hz;unfold K3 at hz;split at hz
  ·cases hrd with
   |ptr _ b o vs h1 h2 h3 h4=>exact⟨_,rfl,_,hy,.ptr _ b o vs h1 h2 h3 h4⟩
  ·cases hz
 grind
theorem qu(hr:RelG c B G s a w h g){T:TypeId}(hT:okT c.P T=true){p o:Nat}{k:TK}(hl:Z7O c g T p o=some k){b:Nat}(hb:h.bl p 0=some b)(d:Nat):
  Has c B s w h (λp=>a.tmps[p]?) d k (Instr.loadAt T (.pointer (some ⟨b,o,none⟩))):=by
 unfold Z7O at hl;simp only[ZgI]at hl;obtain⟨cs,hm,hl⟩:=hl;obtain⟨b',vs,ty,h1,_,hh,hcs⟩:=hr.memOf hm;rw[hb]at h1;cases h1;split at hl
 ·rename_i hag;split at hl
  ·rename_i hcond;obtain⟨hn,hd,h0⟩:=hcond;simp only[ZgH]at hl;obtain⟨x,hx,hxl,hone,hrd,hvs⟩:=hcs.part_rd hn hd (G':=h.ext (if VE ((cs.drop o).take (c.P.cellsOf T))=true then [p]else [])) (λb hb=>GH.ext_F hb) (λho i b hb=>by rw[if_pos ho];exact .inr ⟨p,by simp,i,hb⟩);refine⟨_,Sf hT hag ((vs.toList.drop o).take (c.P.cellsOf T)) ?_ (λi u hi=> ?_),?_⟩
   ·have h2:=hcs.1;simp_all
   ·grind [cell_of_row]
   ·rw[<-hl];refine⟨.agg x,?_,hrd⟩
    grind [LZ]
  grind
 ·rename_i hag;have hag':Zq c.P T=false:=by simpa using hag
  split at hl
  ·rename_i e hc;simp only[ZgH]at hl;obtain⟨x,hx,h1,hrd⟩:=hcs.2 o _ hc;have hlt:o<vs.size:=by rw[hcs.1];exact(ZgL.1 hc).1
   refine⟨vs.getD o undef,U7 hT hag' (by rw[Zh3 w b o vs ty (0,0) hh];simp_all),?_⟩;rw[<-hl];exact⟨x,hx,hrd.mono λb hb=>GH.ext_F hb⟩
  ·rename_i ty' e hc;simp only[ZgH]at hl;have hlt:o<vs.size:=by rw[hcs.1];exact(ZgL.1 hc).1
   have hcell:w.cell? ⟨b,o,none⟩=some (vs.getD o undef):=by rw[Zh3 w b o vs ty (0,0) hh];simp_all
   refine⟨vs.getD o undef,U7 hT hag' hcell,?_⟩;rw[<-hl];exact⟨b,hb,hcell⟩
  ·rename_i e hc;simp only[ZgH]at hl;obtain⟨hnil,_⟩:=hcs.2 o _ hc;have hlt:o<vs.size:=by rw[hcs.1];exact(ZgL.1 hc).1
   have hcell:w.cell? ⟨b,o,none⟩=some (vs.getD o undef):=by rw[Zh3 w b o vs ty (0,0) hh];simp_all
   refine⟨vs.getD o undef,U7 hT hag' hcell,?_⟩;rw[<-hl];exact hnil
  grind
theorem Q6{x i z:V}{n k:Nat}{ag:Bool}(hz:aiV x i n k ag=some z):∃cs ki j,x=.agg cs/\i=.int ki (j:Nat)/\j<n/\cs.length=n*k/\
  (if ag then some (V.agg ((cs.drop (j*k)).take k))else cs[j*k]?)=some z:=by
 unfold aiV at hz;split at hz
 ·rename_i cs ki i;split at hz
  ·rename_i hc;obtain⟨h0,h1,h2⟩:=hc;obtain⟨j,rfl⟩:=Zh4 h0;exact⟨cs,ki,j,rfl,rfl,by omega,h2,by simpa using hz⟩
  grind
 grind
theorem Z5F(hr:RelG c B G s a w h g){T:TypeId}(hT:okT c.P T=true){p o:Nat}{j:E}{m kk:Nat}{k:TK}(hl:Zaa c g T p o j m kk=some k)(hes:∀e∈valE k,∃z,eval s e=some z)
  {b q:Nat} (hb:h.bl p 0=some b) {ki:IntKind} (hj:eval s j=some (.int ki (q:Nat))) (hq:q<m) (d:Nat):
  Has c B s w h (λp=>a.tmps[p]?) d k (Instr.loadAt T (.pointer (some ⟨b,o+q*kk,none⟩))):=by
 unfold Zaa at hl;simp only[ZgI]at hl;obtain⟨cs,hm,hl⟩:=hl;obtain⟨b',vs,ty,h1,_,hh,hcs⟩:=hr.memOf hm;rw[hb]at h1;cases h1;split at hl
 ·rename_i hcond;obtain⟨hn,hk,h0,how,hd⟩:=hcond;simp only[ZgH]at hl;obtain⟨x,hx,hxl,hone,hrd,hvs⟩:=hcs.part_rd hn hd (G':=h.F) (λb hb=>hb) (λho=>by rw[how]at ho;cases ho)
  have hev:eval s (if X7 (c.ix p) o ((cs.drop o).take (m*kk))=true then E.mm (c.ix p) o ((cs.drop o).take (m*kk)).length else .ag (((cs.drop o).take (m*kk)).map (·.2)))=some (.agg x):=by
   split
   ·rename_i hp;exact LZ hp (by rw[hn];exact h0) hx hone
   ·exact hx
  generalize (if X7 (c.ix p) o ((cs.drop o).take (m*kk))=true then E.mm (c.ix p) o ((cs.drop o).take (m*kk)).length else .ag (((cs.drop o).take (m*kk)).map (·.2)))=ee at hev hl;subst hl;obtain⟨z,hz⟩:=hes _ (List.Mem.head _);simp only[eval,hev,hj,ZgS]at hz;obtain⟨cs',ki',j',hcs',hj',hlt,hlen,hzz⟩:=Q6 hz;cases hcs'
  have hjq:j'=q:=by
   simp only[V.int.injEq]at hj';omega
  subst hjq
  have hle:j'*kk+kk<=m*kk:=by
   rw[<-Zi2];exact Zhh _ hlt
  have hcell:∀i,i<m*kk->w.cell? ⟨b,o+i,none⟩=some (vs.getD (o+i) undef):=by
   intro i hi;have hi':i< ((cs.drop o).take (m*kk)).length:=by rw[hn];exact hi
   have:=(hcs.part hn i _ (ZgJ hi')).2;rw[Zh3 w b (o+i) vs ty (0,0) hh,this]
  have hrdc:∀i y,x[i]?=some y->y.one=true/\Rd w h.F y (vs.getD (o+i) undef):=by
   intro i y hi;have hlt':i<m*kk:=by rw[<-hxl];exact(ZgL.1 hi).1
   cases hrd with
   |agg _ _ h1 h2 h3=>
    have:=h3 i y hi
    have hg:((vs.toList.drop o).take (m*kk)).toArray.getD i undef=vs.getD (o+i) undef:=by
     simp only[ZgN,ZiK,Zhm,if_pos hlt',Zht,Zi0]
    rw[hg]at this;exact⟨h2 y (ZgQ hi),this⟩
  cases hag:Zq c.P T with
  |false=>
   rw[hag]at hzz hz;simp only[ZgU,Zhr]at hzz;have hlt2:j'*kk<m*kk:=by rw[<-hxl];exact(ZgL.1 hzz).1
   refine⟨_,U7 hT hag (hcell _ hlt2),z,by simp only[eval,hev,hj,ZgS];exact hz,(hrdc _ z hzz).2.mono λb hb=>GH.ext_F hb⟩
  |true=>
   rw[hag]at hzz hz;simp only[Zhp,ZgH]at hzz;subst hzz;refine⟨.agg ((List.range kk).map λi=>vs.getD (o+(j'*kk+i)) undef).toArray,Sf hT hag _ (by simp[hk]) (λi u hi=> ?_),_,by simp only[eval,hev,hj,ZgS];exact hz,?_⟩
   ·have hlt2:i<kk:=by simpa using(ZgL.1 hi).1
    have:vs.getD (o+(j'*kk+i)) undef=u:=by simpa[hlt2]using hi
    rw[<-this,show o+j'*kk+i=o+(j'*kk+i)from by omega];exact hcell _ (by omega)
   ·have hlen2:((x.drop (j'*kk)).take kk).length=kk:=by simp;omega
    refine .agg _ _ (by simp only[Zie,Zhu,Zke,hlen2]) (λy hy=> ?_) λi y hi=> ?_
    ·obtain⟨i,hi⟩:=Zh8 (Zih (ZhB hy));exact(hrdc i y hi).1
    ·have hlt2:i<kk:=by have:=(ZgL.1 hi).1;omega
     rw[Zhm,if_pos hlt2,Zht]at hi
     have:((List.range kk).map λi=>vs.getD (o+(j'*kk+i)) undef).toArray.getD i undef=vs.getD (o+(j'*kk+i)) undef:=by
      simp[ZgN,hlt2]
     rw[this];exact(hrdc _ y hi).2.mono λb hb=>GH.ext_F hb
 ·simp at hl
theorem OwnV.elem{o:Option Nat}{ty:TypeId}{x:V}{v:Value}(hv:OwnV c.P B w h o ty x v){ki:IntKind}{q:Nat}{y:V}{kk:Nat}(hy:idxV x (.int ki (q:Nat)) kk=some y):
  ∃l n cap cur,∃xs:Nat->Value,x=.sl l/\l[q]?=some y/\o=some n/\v=.slice (some ⟨n,0,none⟩) l.length cap/\w.heap[n]?=some (.cells cur ty (0,0))/\y.fits (c.P.cellsOf ty)/\q*c.P.cellsOf ty+c.P.cellsOf ty<=cur.size/\
   (∀i,i<c.P.cellsOf ty->w.cell? ⟨n,q*c.P.cellsOf ty+i,none⟩=some (xs i))/\∀i z,y.cells[i]?=some z->Rd w h.F z (xs i):=by
 rcases hv with ⟨l,xs,rfl,h0,hfit,hown,hb,hrd⟩|⟨_,_,_,_,_,_,rfl,_⟩
 case inr=>simp[idxV]at hy
 simp only[idxV]at hy;split at hy
 ·rw[Zhl,ZgI]at hy;obtain⟨y',hy,hy'⟩:=hy;split at hy'<;>first|(simp only[ZgH]at hy';subst y')|simp_all
  have hlt:=(ZgL.1 hy).1;rcases hown.2 with ⟨rfl,hn⟩|⟨n,cap,cur,rfl,_,hh,hle,_,hsz,htk⟩
  ·omega
  ·have hle':q*c.P.cellsOf ty+c.P.cellsOf ty<=l.length*c.P.cellsOf ty:=by
    rw[<-Zi2];exact Zhh _ hlt
   have hle2:l.length*c.P.cellsOf ty<=cur.size:=by rw[hsz];exact Zhh _ hle
   refine⟨l,n,cap,cur,λi=>cur.getD (q*c.P.cellsOf ty+i) undef,rfl,hy,by rw[<-hb];rfl,rfl,hh,hfit y (ZgQ hy),by omega,λi hi=> ?_,λi z hz=> ?_⟩
   ·rw[Zh3 w n _ cur ty (0,0) hh];have:q*c.P.cellsOf ty+i<cur.size:=by omega
    simp_all
   ·have hi:i<c.P.cellsOf ty:=by
     have:=(ZgL.1 hz).1;rw[(hfit y (ZgQ hy)).1]at this;exact this
    obtain⟨u,hu,hru⟩:=hrd (q*c.P.cellsOf ty+i) z (by simp_all[X2])
    have:cur.getD (q*c.P.cellsOf ty+i) undef=u:=by
     rw[<-htk,Zhm,if_pos (by omega)]at hu;have hu':cur[q*c.P.cellsOf ty+i]?=some u:=by simpa using hu
     simp[ZgN,hu']
    simp_all
 omega
theorem Z4Y{x:V}{k:Nat}(h:x.fits k):x.pc=x.cells:=by
 rfl
theorem Z5G(hr:RelG c B G s a w h g){T:TypeId}(hT:okT c.P T=true){p:Nat}{i:Option Nat}{j:E}{o kk:Nat}{k:TK}(hl:Zab c g T p i j o kk=some k)(hes:∀e∈valE k,∃z,eval s e=some z)
  {n q:Nat} (hb:h.bl p (plI i)=some n) {ki:IntKind} (hj:eval s j=some (.int ki (q:Nat))) (d:Nat):
  Has c B s w h (λp=>a.tmps[p]?) d k (Instr.loadAt T (.pointer (some ⟨n,q*kk+o,none⟩))):=by
 unfold Zab at hl;simp only[ZgI]at hl;obtain⟨⟨ty,e⟩,ho,hl⟩:=hl;split at hl
 ·rename_i hk;simp only[ZgH]at hl;subst hl;obtain⟨v,x,_,hx,hown⟩:=hr.place ho;obtain⟨z,hz⟩:=hes _ (List.Mem.head _)
  have hidx:∃y,eval s (.idx e j kk)=some y:=by
   unfold yF at hz;split at hz
   ·simp only[eval]at hz⊢;cases hy:((eval s e).bind λx=>(eval s j).bind λy=>idxV x y kk)with
    |none=>simp_all
    |some y=>simp
   ·simp only[eval]at hz⊢;cases hy:((eval s e).bind λx=>(eval s j).bind λy=>idxV x y kk)with
    |none=>simp_all
    |some y=>simp
  obtain⟨y,hy⟩:=hidx
  have hy':idxV x (.int ki (q:Nat)) kk=some y:=by
   simp only[eval,hx,hj,ZgS]at hy;exact hy
  obtain⟨l,n',cap,cur,xs,rfl,hly,hn,rfl,hh,hfit,_,hcell,hrd⟩:=hown.elem hy';rw[hb]at hn;simp only[ZgH]at hn;subst hn;rw[hk]at hcell hfit;have hpc:y.pc=y.cells:=Z4Y hfit;exact Z0I (c:=c) (B:=B) (sh:=[p]) hT (b:=n) (q:=q*kk) (o:=o) (vs:=xs) (by rw[hpc];exact hfit.2) (by rw[hpc,hfit.1];exact hcell) (λi z hz=>by rw[hpc]at hz;exact(hrd i z hz).mono λb hb=>GH.ext_F hb) hy ⟨z,hz⟩ _ d
 grind
theorem Z3J(hr:RelG c B G s a w h g)(hC:holds s (ixC c C)){T:TypeId}{x:Operand}{k:TK}{es:List E}(hp:Z6h c g C T x=some (k,es))(hes:∀e∈es,∃z,eval s e=some z)(d:Nat):
  Has c B s w h (λp=>a.tmps[p]?) d k (Instr.loadAt T (a.eval x)):=by
 unfold Z6h at hp;split at hp
 ·rename_i hT;simp only[ZgK,ZgR]at hp;obtain⟨k',hl,rfl,rfl⟩:=hp;unfold ZcG at hl;split at hl
  ·rename_i cs hk;obtain⟨t,rfl,⟨v,hv,hev,⟨b,vs,ty,h1,rfl,_⟩⟩,_⟩:=(Un hr hC hk rfl).resolve_left (by simp);rw[hev];exact qu hr hT hl h1 d
  ·rename_i p o hk;obtain⟨b,h1,h2⟩:=ZQ hr hC hk rfl d
   grind [qu]
  ·rename_i e o sh hk;simp only[ZgH]at hl;subst hl;obtain⟨y,b,q,vs,h0,h1,h2,h3,h4,h5⟩:=ZQ hr hC hk rfl d;rw[h1];exact Z0I hT h3 h4 h5 h0 (hes _ (List.Mem.head _)) _ d
  ·rename_i e sh hk;simp only[ZgH]at hl;subst hl;obtain⟨y,hy,hrd⟩:=Xn hr hC hk;obtain⟨z,hz⟩:=hes _ (List.Mem.head _)
   have hst:∃u,K3 y=some u:=by
    unfold yF at hz;cases hu:K3 y with
    |none=>grind [eval]
    |some u=>simp
   obtain⟨u,hu⟩:=hst;generalize a.eval x=v at hrd;cases hrd with
   |ptr cs b o vs h1 h2 h3 h4=>
    simp only[K3,ZgH]at hu;subst hu;exact Z0I (c:=c) (B:=B) (sh:=sh) hT (x:=.agg cs) (b:=b) (q:=o) (o:=0) (vs:=vs) h2 h3 h4 (by simp[eval,hy,K3]) ⟨z,hz⟩ _ d
   |_=>simp[K3]at hu
  ·rename_i p i j o kk hk;obtain⟨n,q,h1,⟨ki,h2⟩,h3⟩:=ZQ hr hC hk rfl d
   grind [Z5G]
  ·rename_i p o j m kk hk;obtain⟨b,q,h1,⟨ki,h2⟩,h3,h4⟩:=ZQ hr hC hk rfl d
   grind [Z5F]
  grind
 grind
end
end Vm
namespace Vm
open Go
open Go.RowKit (Below)
section
variable {c:Ctx}{B:Nat}{G:Nat->Prop}{s:St}{a:Act}{w:World}{h:GH}{g:Gam}{C:Zi}
theorem Vh{P:Program}{T:TypeId}(h:P.cellsOf T≠0):∃i,P.info? T=some i/\P.cellsOf T=i.size:=by
 unfold Program.cellsOf at h⊢;cases hi:P.info? T with
 |none=>grind
 |some i=>simp
theorem ZdK{P:Program}{T:TypeId}{fs:List (Nat×Nat×Bool×Bool)}(h:tdOf P T=.st fs):∃fds,P.underlying T=some (.struct fds)/\(∀fd∈fds,okT P fd.type=true)/\fs=fds.toList.map λf=>(f.offset,P.cellsOf f.type,Zq P f.type,Xx P f.type):=by
 unfold tdOf at h
 grind
theorem Rr{P:Program}{T:TypeId}{f:Nat}{x:Nat×Nat×Bool×Bool}(hf:J0 P T f=some x):
  ∃fs fd,P.underlying T=some (.struct fs)/\fs[f]?=some fd/\okT P fd.type=true/\x=(fd.offset,P.cellsOf fd.type,Zq P fd.type,Xx P fd.type):=by
 unfold J0 at hf;split at hf
 ·rename_i fs htd;obtain⟨fds,hu,hall,rfl⟩:=ZdK htd
  grind
 ·cases hf
theorem We{T:TypeId}{f b o:Nat}{x:Nat×Nat×Bool×Bool}(hf:J0 c.P T f=some x)(hn:x.2.1≠0):
  (Instr.fieldAt T (.pointer (some ⟨b,o,none⟩)) f).run c.P w=.ok (.pointer (some ⟨b,o+x.1,none⟩)) w:=by
 obtain⟨fs,fd,hu,hfd,_,rfl⟩:=Rr hf;obtain⟨i,hi,hs⟩:=Vh hn;simp_all[Instr.fieldAt,Zhk,Instr.sureAddr,fieldPlace,YI,ZiI]
theorem Z11(hr:RelG c B G s a w h g)(hC:holds s (ixC c C)){T:TypeId}{x:Operand}{f:Nat}{k:TK}{es:List E}(hp:Z10 c g C T x f=some (k,es))(hes:∀e∈es,∃z,eval s e=some z)(d:Nat):
  Has c B s w h (λp=>a.tmps[p]?) d k (Instr.fieldAt T (a.eval x) f):=by
 unfold Z10 at hp;simp only[ZgI]at hp;obtain⟨y,hf,hp⟩:=hp;split at hp
 grind
 ·rename_i hn;split at hp
  ·rename_i cs hk;simp only[ZgH,ZgR]at hp;obtain⟨rfl,rfl⟩:=hp;obtain⟨t,rfl,⟨v,hv,hev,⟨b,vs,ty,h1,rfl,_⟩⟩,_⟩:=(Un hr hC hk rfl).resolve_left (by simp);rw[hev];exact⟨_,We hf hn,b,h1,by simp⟩
  ·rename_i p q hk;simp only[ZgH,ZgR]at hp;obtain⟨rfl,rfl⟩:=hp;obtain⟨b,h1,h2⟩:=ZQ hr hC hk rfl d;rw[h2];exact⟨_,We hf hn,b,h1,rfl⟩
  ·rename_i e q sh hk;simp only[ZgH,ZgR]at hp;obtain⟨rfl,rfl⟩:=hp;obtain⟨z,b,r,vs,h0,h1,h2,h3,h4,h5⟩:=ZQ hr hC hk rfl d;rw[h1];exact⟨_,We hf hn,z,b,r,vs,h0,by simp,h2,h3,h4,h5⟩
  ·rename_i e sh hk;simp only[ZgH,ZgR]at hp;obtain⟨rfl,rfl⟩:=hp;obtain⟨u,hu,hrd⟩:=Xn hr hC hk;obtain⟨z,hz⟩:=hes _ (List.Mem.head _);simp only[eval,hu,ZgS]at hz;generalize a.eval x=v at hrd;cases hrd with
   |ptr cs b o vs h1 h2 h3 h4=>
    exact⟨_,We hf hn,.agg cs,b,o,vs,by simp[eval,hu,K3],rfl,h1,h2,h3,h4⟩
   |_=>simp[K3]at hz
  ·rename_i p i j q kk hk;simp only[ZgH,ZgR]at hp;obtain⟨rfl,rfl⟩:=hp;obtain⟨n,r,h1,h2,h3⟩:=ZQ hr hC hk rfl d;rw[h3];exact⟨_,We hf hn,n,r,h1,h2,by simp⟩
  grind
theorem Z4e{P:Program}{T el:TypeId}(h:tdOf P T=.sl el):P.underlying T=some (.slice el):=by
 grind [tdOf]
theorem ZaT{P:Program}{T el:TypeId}{n:Nat}(h:tdOf P T=.ar n el):P.underlying T=some (.array n el):=by
 grind [tdOf]
theorem q9{x j z:V}{k:Nat}(hz:idxV x j k=some z):∃l ki q,x=.sl l/\j=.int ki (q:Nat)/\l[q]?=some z/\z.cells.length=k:=by
 unfold idxV at hz;split at hz
 ·rename_i l ki i;split at hz
  ·rename_i h0;obtain⟨q,rfl⟩:=Zh4 h0;rw[Zhl,ZgI]at hz;obtain⟨y',hy,hy'⟩:=hz;split at hy'<;>first|(simp only[ZgH]at hy';subst y')|simp_all
   exact⟨l,ki,q,rfl,rfl,hy,by assumption⟩
  grind
 grind
theorem Rd.int_eq{G':Nat->Prop}{ki:IntKind}{n:Int}{v:Value}(h:Rd w G' (.int ki n) v):v=.int ki n:=by cases h;rfl
theorem JU{T el:TypeId}(hT:c.P.underlying T=some (.slice el))(hel:okT c.P el=true){b o len cap:Nat}{ki:IntKind}{q:Nat}(hq:q<len):
  (Instr.indexAt T (.slice (some ⟨b,o,none⟩) len cap) (.int ki (q:Nat))).run c.P w=.ok (.pointer (some ⟨b,o+q*c.P.cellsOf el,none⟩)) w:=by
 obtain⟨dd,i,hd,hi,hs,_⟩:=WP hel;have h1:(0:Int)<=(q:Nat)/\((q:Nat):Int)< (len:Nat):=by omega
 simp[Instr.indexAt,asIntOf,Zhk hT,hq,YI hi,hs,ZiI]
theorem JE(hr:RelG c B G s a w h g)(hC:holds s (ixC c C)){T:TypeId}{x i:Operand}{k:TK}{es:List E}(hp:Th c g C T x i=some (k,es))(hes:∀e∈es,∃z,eval s e=some z)(d:Nat):
  Has c B s w h (λp=>a.tmps[p]?) d k (Instr.indexAt T (a.eval x) (a.eval i)):=by
 unfold Th at hp;split at hp
 ·rename_i el hT;have hT':=Z4e hT;simp only[ZgI]at hp;obtain⟨⟨j,sj⟩,hj,hp⟩:=hp;obtain⟨y,hy,hyr⟩:=Xg hr hC hj
  have own:∀ {p:Nat} {pi:Option Nat},opK g C x=JG p pi->Qe c g p pi el j=some (k,es)->Has c B s w h (λp=>a.tmps[p]?) d k (Instr.indexAt T (a.eval x) (a.eval i)):=by
   intro p pi hk hio;unfold Qe at hio;simp only[ZgI]at hio;obtain⟨⟨ty,e⟩,ho,hio⟩:=hio;split at hio
   ·rename_i hcel;obtain⟨hcel,hokel⟩:=hcel;simp only[ZgH,ZgR]at hio;obtain⟨rfl,rfl⟩:=hio;have hrel:=ZQ hr hC hk (by cases pi<;>rfl) 0;obtain⟨xv,hxv,hown⟩:=hr.ownAt ho hrel;obtain⟨z,hz⟩:=hes _ (List.Mem.head _);simp only[eval,hxv,hy,ZgS]at hz;have hz':=hz;obtain⟨l,ki,q,rfl,rfl,hlz,_⟩:=q9 hz;obtain⟨l',n,cap,cur,xs,hl',_,hbl,hv,_⟩:=hown.elem hz';cases hl';rw[hv,hyr.int_eq];refine⟨_,JU hT' hokel (ZgL.1 hlz).1,n,q,?_,⟨ki,hy⟩,by rw[Zhy,ZiQ]⟩;cases pi<;>exact hbl
   ·simp at hio
  split at hp
  ·rename_i p hk;exact own (pi:=none) hk hp
  ·rename_i p q hk;exact own (pi:=some q) hk hp
  ·rename_i e sh hk;split at hp
   ·rename_i hokel;simp only[ZgH,ZgR]at hp;obtain⟨rfl,rfl⟩:=hp;obtain⟨u,hu,hrd⟩:=Xn hr hC hk;obtain⟨z,hz⟩:=hes _ (List.Mem.head _);have hz0:=hz;simp only[eval,hu,hy,ZgS]at hz;obtain⟨l,ki,q,rfl,rfl,hlz,hzk⟩:=q9 hz;rw[hyr.int_eq];generalize a.eval x=v at hrd;cases hrd with
    |nil a' cap hc=>simp at hlz
    |sl _ b o cap kk vs h1 h2 h3 h4 h5 h6=>
     have hfit:=h4 z (ZgQ hlz);have hkk:kk=c.P.cellsOf el:=by rw[<-hfit.1,hzk]
     subst hkk;have hlt:=(ZgL.1 hlz).1
     have hle:q*c.P.cellsOf el+c.P.cellsOf el<=l.length*c.P.cellsOf el:=by
      rw[<-Zi2];exact Zhh _ hlt
     have hpc:=Z4Y hfit;refine⟨_,JU hT' hokel hlt,z,b,o+q*c.P.cellsOf el,λi=>vs (q*c.P.cellsOf el+i),hz0,by rw[ZiQ],h3,by rw[hpc];exact hfit.2,λi hi=> ?_,λi u hi=> ?_⟩
     ·rw[hpc,hfit.1]at hi;rw[Zif];exact h5 _ (by omega)
     ·rw[hpc]at hi;have hi':i<c.P.cellsOf el:=by rw[<-hfit.1];exact(ZgL.1 hi).1
      exact h6 _ u (by rw[X2 h4 hlz i hi'];exact hi)
   ·simp at hp
  ·simp at hp
 ·rename_i n el hT;have hT':=ZaT hT;split at hp
  ·simp at hp
  ·rename_i hokel;simp only[ZiS,Bool.not_eq_false']at hokel;simp only[ZgI]at hp;obtain⟨⟨j,sj⟩,hj,hp⟩:=hp;obtain⟨y,hy,hyr⟩:=Xg hr hC hj
   have fin:∀ {p o b:Nat},a.eval x=.pointer (some ⟨b,o,none⟩)->h.bl p 0=some b->some (TK.pa p o j n (c.P.cellsOf el),[E.ai (.c (.agg (List.replicate n (.bool true)))) j n 1 false])=some (k,es)->Has c B s w h (λp=>a.tmps[p]?) d k (Instr.indexAt T (a.eval x) (a.eval i)):=by
    intro p o b hev hb heq;simp only[ZgH,ZgR]at heq;obtain⟨rfl,rfl⟩:=heq;obtain⟨z,hz⟩:=hes _ (List.Mem.head _);simp only[eval,hy,ZgS]at hz;obtain⟨cs,ki,q,_,rfl,hq,_⟩:=Q6 hz;rw[hev,hyr.int_eq];obtain⟨dd,info,hd,hi,hs,_⟩:=WP hokel;refine⟨_,?_,b,q,hb,⟨ki,hy⟩,hq,rfl⟩;simp[Instr.indexAt,asIntOf,Zhk hT',hq,YI hi,hs,ZiI,Instr.sureAddr]
   split at hp
   ·rename_i cs hk;obtain⟨t,rfl,⟨v,hv,hev,⟨b,vs,ty,h1,rfl,_⟩⟩,_⟩:=(Un hr hC hk rfl).resolve_left (by rintro(⟨e,h⟩|h)<;>cases h);exact fin hev h1 hp
   ·rename_i p o hk;obtain⟨b,h1,h2⟩:=ZQ hr hC hk rfl d;exact fin h2 h1 hp
   ·rename_i e o sh hk;simp only[ZgH,ZgR]at hp;obtain⟨rfl,rfl⟩:=hp;obtain⟨u,b,q0,vs,he,hv,hext,hone,hcell,hrd⟩:=ZQ hr hC hk rfl d;obtain⟨z,hz⟩:=hes _ (List.Mem.head _);have hz0:=hz;simp only[eval,he,hy,ZgS,ZgI]at hz;obtain⟨cs,hcs,hz⟩:=hz;obtain⟨hle,rfl⟩:=Uh hcs;obtain⟨cs',ki,q,hcc,rfl,hq,hlen,hzz⟩:=Q6 hz;cases hcc;simp only[Zhp,ZgH]at hzz;rw[hv,hyr.int_eq];obtain⟨dd,info,hd,hi,hs,_⟩:=WP hokel
    have hle2:q*c.P.cellsOf el+c.P.cellsOf el<=n*c.P.cellsOf el:=by
     rw[<-Zi2];exact Zhh _ hq
    have hat:∀(i:Nat) (x:V),z.pc[i]?=some x->i<c.P.cellsOf el/\u.pc[o+q*c.P.cellsOf el+i]?=some x:=by
     intro i x hx;rw[<-hzz]at hx;simp only[V.pc,Zhm]at hx;split at hx
     ·rename_i hik;rw[Zht,Zhm,if_pos (by omega),Zht]at hx;exact⟨hik,by rw[<-hx];congr 1;omega⟩
     ·cases hx
    refine⟨_,?_,z,b,q0+(o+q*c.P.cellsOf el),λi=>vs (o+q*c.P.cellsOf el+i),hz0,rfl,hext,?_,?_,?_⟩
    ·simp[Instr.indexAt,asIntOf,Zhk hT',hq,YI hi,hs,ZiI,Instr.sureAddr,Zif]
    ·intro x hx;obtain⟨i,hi⟩:=Zh8 hx;exact hone x (ZgQ (hat i x hi).2)
    ·intro i hi;have:=hat i _ (ZgJ hi);rw[Zif];exact hcell _ (ZgL.1 this.2).1
    ·intro i x hx;exact hrd _ x (hat i x hx).2
   ·simp at hp
 ·simp at hp
theorem Z0D{x z:V}(h:oneV x=some z):z.one=true:=(X5 h).2
theorem Lj{kc:KC}{x k v z:V}(h:Js kc x k v=some z):∃id ks vs ks' vs',x=.mp id ks vs/\z=.mp id ks' vs':=by
 unfold Js at h
 grind
theorem TG:∀(e:E) (x:V),e.sure=true->eval s e=some x->x.one=true
 |.c v,x,h,he=>by simp only[eval,ZgH]at he;subst he;exact h
 | .m t i,x,_,he=>by
   simp only[eval]at he;split at he
   ·rw[ZgI]at he;obtain⟨y,_,h1⟩:=he;exact Z0D h1
   grind
 | .bin op a b,x,_,he=>by
   simp only[eval,ZgI]at he;obtain⟨y,_,z,_,h1⟩:=he;cases y<;>cases z<;>cases op<;>simp only[binV]at h1<;>(try split at h1)<;>(try simp only[ZgH]at h1)<;>(try subst h1)<;>first|rfl|simp at h1
 | .eqv n a b,x,_,he=>by
   simp only[eval,ZgI]at he;obtain⟨y,_,z,_,h1⟩:=he;cases y<;>cases z<;>simp only[eqV]at h1<;>(try simp only[ZgH]at h1)<;>(try subst h1)<;>first|rfl|simp at h1
 | .un op a,x,_,he=>by
   simp only[eval,ZgI]at he;obtain⟨y,_,h1⟩:=he;cases y<;>cases op<;>simp only[unV]at h1<;>(try simp only[ZgH]at h1)<;>(try subst h1)<;>first|rfl|simp at h1
 | .conv k a,x,_,he=>by
   simp only[eval,ZgI]at he;obtain⟨y,_,h1⟩:=he;cases y<;>simp only[Z3m]at h1<;>(try simp only[ZgH]at h1)<;>(try subst h1)<;>first|rfl|simp at h1
 | .len a,x,_,he=>by
   simp only[eval,ZgI]at he;obtain⟨y,_,h1⟩:=he;cases y<;>simp only[lenV]at h1<;>(try simp only[ZgH]at h1)<;>(try subst h1)<;>first|rfl|simp at h1
 | .mn a b,x,_,he=>by
   simp only[eval,ZgI]at he;obtain⟨y,_,z,_,h1⟩:=he;cases y<;>cases z<;>simp only[minV]at h1<;>(try simp only[ZgH]at h1)<;>(try subst h1)<;>first|rfl|simp at h1
 | .mx a b,x,_,he=>by
   simp only[eval,ZgI]at he;obtain⟨y,_,z,_,h1⟩:=he;cases y<;>cases z<;>simp only[maxV]at h1<;>(try simp only[ZgH]at h1)<;>(try subst h1)<;>first|rfl|simp at h1
 | .mput kc a k v,x,_,he=>by
   simp only[eval,ZgI]at he;obtain⟨y,_,z,_,u,_,h1⟩:=he;obtain⟨_,_,_,_,_,_,rfl⟩:=Lj h1;rfl
 | .mlen a,x,_,he=>by
   simp only[eval,ZgI]at he;obtain⟨y,_,h1⟩:=he;cases y<;>simp only[qH]at h1<;>(try simp only[ZgH]at h1)<;>(try subst h1)<;>first|rfl|simp at h1
 | .mclr a,x,_,he=>by
   simp only[eval,ZgI]at he;obtain⟨y,_,h1⟩:=he;cases y<;>simp only[Z5P]at h1<;>(try simp only[ZgH]at h1)<;>(try subst h1)<;>first|rfl|simp at h1
 | .fld a o,x,_,he=>by
   simp only[eval,ZgI,fldV]at he
   grind [Z0D]
 | .slc a lo hi k,x,_,he=>by
   simp only[eval,ZgI]at he;obtain⟨y,_,z,_,u,_,h1⟩:=he;unfold slcV at h1;split at h1
   ·split at h1
    ·simp only[ZgH]at h1;subst h1;rfl
    grind
   grind
 | .slcl a lo k,x,_,he=>by
   simp only[eval,ZgI]at he;obtain⟨y,_,z,_,h1⟩:=he;unfold Z1p at h1;split at h1
   ·split at h1
    ·simp only[ZgH]at h1;subst h1;rfl
    grind
   grind
 | .app a b k,x,_,he=>by
   simp only[eval,ZgI]at he;obtain⟨y,_,z,_,h1⟩:=he;unfold appV at h1;split at h1
   ·split at h1
    ·simp only[ZgH]at h1;subst h1;rfl
    grind
   grind
 | .upd a i o b,x,_,he=>by
   simp only[eval,ZgI]at he;obtain⟨y,_,z,_,u,_,h1⟩:=he;unfold updV at h1;split at h1
   ·split at h1
    ·rw[ZgI]at h1;obtain⟨q,_,h1⟩:=h1;split at h1
     ·simp only[ZgH]at h1;subst h1;rfl
     grind
    grind
   grind
 | .mk z n,x,_,he=>by
   simp only[eval,ZgI]at he;obtain⟨y,_,h1⟩:=he;unfold mkV at h1;split at h1
   ·split at h1
    ·simp only[ZgH]at h1;subst h1;rfl
    grind
   grind
 | .lit l,x,_,he=>by
   simp only[eval,ZgK]at he;obtain⟨y,_,h1⟩:=he;subst h1;rfl
 | .one a,x,_,he=>by
   grind [eval,Option.bind_eq_some_iff,Z0D]
 | .ite d a b,x,h,he=>by
   simp only[E.sure,ZgM]at h;simp only[eval,ZgI]at he;obtain⟨y,_,h1⟩:=he;unfold iteV at h1;split at h1
   ·exact TG a x h.1 h1
   ·exact TG b x h.2 h1
   grind
 |.s t,x,h,he=>by simp[E.sure]at h
 |.mm t i n,x,h,he=>by simp[E.sure]at h
 |.ext a i,x,h,he=>by simp[E.sure]at h
 |.idx a i k,x,h,he=>by simp[E.sure]at h
 |.flds a o n,x,h,he=>by simp[E.sure]at h
 |.ai a i n k ag,x,h,he=>by simp[E.sure]at h
 |.aput a i n k b,x,h,he=>by simp[E.sure]at h
 |.ag l,x,h,he=>by simp[E.sure]at h
 |.star a,x,h,he=>by simp[E.sure]at h
 |.isag a,x,h,he=>by simp[E.sure]at h
 |.sz a n,x,h,he=>by simp[E.sure]at h
 |.fl a,x,h,he=>by simp[E.sure]at h
 |.fls a,x,h,he=>by simp[E.sure]at h
end
end Vm
namespace Vm
open Go
open Go.RowKit (Below)
section
variable {c:Ctx}{B:Nat}{G:Nat->Prop}{s:St}{a:Act}{w:World}{h:GH}{g:Gam}{C:Zi}
theorem qV{e:E}{x:V}(hx:eval s (oneE e)=some x):eval s e=some x/\x.one=true:=by
 unfold oneE at hx;split at hx
 ·grind [TG]
 ·simp only[eval,ZgI]at hx;obtain⟨y,hy,h1⟩:=hx;obtain⟨rfl,h2⟩:=X5 h1;simp_all
theorem Z2I{x z:V}{n:Nat}(hz:szV x n=some z):x=z/\z.cells.length=n/\∀l,z≠.tup l:=by
 unfold szV at hz;split at hz
 ·rename_i hn;cases x<;>simp only[ZgH]at hz<;>first|(subst hz;exact⟨rfl,hn,by simp⟩)|(simp at hz;done)
 grind
theorem Jw{x:V}(h:x.one=true):∀l,x≠.tup l:=by
 grind [V.one]
theorem YN{x:V}(h:x.one=true):x.cells=[x]:=by
 cases x<;>first|rfl|simp[V.one]at h
theorem Z8D{e:E}{n:Nat}{x:V}(hx:eval s (szE e n)=some x):eval s e=some x/\x.cells.length=n/\∀l,x≠.tup l:=by
 unfold szE at hx;split at hx
 ·rename_i hs;refine⟨hx,?_⟩;cases e<;>simp only[E.sized,Zhq,ZgM]at hs<;>first|(cases hs;done)|skip
  ·grind [eval,Option.some.injEq,V.cells]
  ·subst hs;simp only[eval,ZgI]at hx;obtain⟨y,_,hy⟩:=hx;obtain⟨h1,rfl⟩:=Uh hy
   grind [V.cells]
  ·rename_i l;obtain⟨hl,hall⟩:=hs;simp only[eval,ZgK]at hx;obtain⟨xs,hxs,rfl⟩:=hx;obtain⟨h1,h2⟩:=Yy hxs
   have hone:∀y∈xs,y.one=true:=by
    intro y hy;obtain⟨i,hi⟩:=Zh8 hy;have hlt:i<l.length:=by have:=(ZgL.1 hi).1;omega
    obtain⟨z,hz,hz'⟩:=h2 i l[i] (ZgJ hlt);rw[hi]at hz;cases hz;exact TG _ _ (ZgT.1 hall _ (ZgZ hlt)) hz'
   simp_all[agV,V.cells,YG]
  grind [eval,Option.bind_eq_some_iff,Z2I]
 ·simp only[eval,ZgI]at hx;obtain⟨y,hy,h1⟩:=hx;obtain⟨rfl,h2⟩:=Z2I h1;simp_all
theorem Qu{ag:Bool}{n:Nat}{e:E}{x:V}(hx:eval s (tyE ag n e)=some x):eval s e=some x/\(∀l,x≠.tup l)/\(ag=true->x.cells.length=n)/\(ag=false->x.one=true):=by
 grind [tyE,Z8D,qV,Jw]
theorem zR{P:Program}{T:TypeId}(hT:(P.underlying T).isSome=true)(hsz:P.cellsOf T≠0){vs:Array Value}{o:Nat}(hlt:o+P.cellsOf T<=vs.size):
  (part T vs o).run P w=.ok (if Zq P T then .agg (vs.extract o (o+P.cellsOf T))else vs.getD o undef) w:=by
 obtain⟨i,hi,hs⟩:=Vh hsz;have hok:okT P T=true:=by simp[okT,hT,hi]
 obtain⟨d,i',hd,hi',hs',hagg⟩:=WP hok;have hlt':o<vs.size:=by omega
 cases hag:Zq P T with
 |true=>simp_all[part,YI]
 |false=>simp_all[part,ZgN]
theorem Rd.part{G':Nat->Prop}{cs:List V}{vs:Array Value}(h1:vs.size=cs.length)(h2:∀c∈cs,c.one=true)(h3:∀i c,cs[i]?=some c->Rd w G' c (vs.getD i undef)){o n:Nat}(hle:o+n<=cs.length):
  Rd w G' (.agg ((cs.drop o).take n)) (.agg (vs.extract o (o+n))):=by
 refine .agg _ _ (by simp;omega) (λy hy=>h2 y (Zih (ZhB hy))) λi y hi=> ?_;rw[Zhm]at hi;split at hi
 ·rename_i hin;rw[Zht]at hi;have:=h3 (o+i) y hi
  have hg:(vs.extract o (o+n)).getD i undef=vs.getD (o+i) undef:=by
   have hb:i<o+n-o:=by omega
   simp only[ZgN,Zkn];rw[if_pos (by omega)]
  simp_all
 grind
theorem La{x z:V}(hz:Z0C x=some z):∃cs,x=.agg cs/\z=.agg cs:=by
 unfold Z0C at hz;split at hz
 ·simp only[ZgH]at hz;exact⟨_,rfl,hz.symm⟩
 grind
theorem Z6g(hr:RelG c B G s a w h g)(hC:holds s (ixC c C)){T:TypeId}{x:Operand}{f:Nat}{k:TK}{es:List E}(hp:Zax c g C T x f=some (k,es))(hes:∀e∈es,∃z,eval s e=some z)(d:Nat):
  Has c B s w h (λp=>a.tmps[p]?) d k (Instr.field T (a.eval x) f):=by
 unfold Zax at hp;simp only[ZgI]at hp;obtain⟨y,hf,hp⟩:=hp;split at hp
 grind
 ·rename_i hn;simp only[ZgK,ZgR]at hp;obtain⟨⟨e,sh⟩,he,rfl,rfl⟩:=hp;obtain⟨fs,fd,hu,hfd,hok,rfl⟩:=Rr hf;simp only at hn;obtain⟨u,hu',hrd⟩:=Xg hr hC he;obtain⟨z,hz⟩:=hes _ (List.Mem.head _);simp only at hz;generalize a.eval x=v at hrd;obtain⟨i,hi,hs⟩:=Vh hn;have hsome:(c.P.underlying fd.type).isSome=true:=by simp only[okT,ZgM]at hok;exact hok.1
  cases hag:Zq c.P fd.type with
  |true=>
   rw[hag]at hz;simp only[Zhp,eval,hu',ZgS,ZgI]at hz;obtain⟨q,hq,hz⟩:=hz;obtain⟨cs,rfl,rfl⟩:=La hq;obtain⟨hle,rfl⟩:=Uh hz;cases hrd with
   |agg _ vs h1 h2 h3=>
    refine⟨.agg (vs.extract fd.offset (fd.offset+c.P.cellsOf fd.type)),?_,.agg ((cs.drop fd.offset).take (c.P.cellsOf fd.type)),?_,Rd.part h1 h2 h3 hle⟩
    ·have:=zR (w:=w) (P:=c.P) hsome hn (vs:=vs) (o:=fd.offset) (by rw[h1];exact hle);simp_all[Instr.field,Zhk,asAgg]
    ·simp only[hag,Zhp,eval,hu',ZgS,Z0C,RX];rw[if_pos hle];rfl
  |false=>
   rw[hag]at hz;simp only[ZgU,Zhr,eval,hu',ZgS,ZgI]at hz;obtain⟨q,hq,hz⟩:=hz;obtain⟨cs,rfl,rfl⟩:=La hq;have hz':=J6 hz;cases hrd with
   |agg _ vs h1 h2 h3=>
    have hlt:fd.offset<vs.size:=by rw[h1];exact(ZgL.1 hz').1
    refine⟨vs.getD fd.offset undef,?_,z,?_,h3 _ _ hz'⟩
    ·obtain⟨d',i',hd',hi',hs',hagg⟩:=WP (P:=c.P) (T:=fd.type) (by omega);simp_all[Instr.field,Zhk,asAgg,part,ZgN]
    simp_all[ZgU,Zhr,eval,ZgS,Z0C]
theorem Z13(hr:RelG c B G s a w h g)(hC:holds s (ixC c C)){T:TypeId}{x i:Operand}{k:TK}{es:List E}(hp:Z12 c g C T x i=some (k,es))(hes:∀e∈es,∃z,eval s e=some z)(d:Nat):
  Has c B s w h (λp=>a.tmps[p]?) d k (Instr.index T (a.eval x) (a.eval i)):=by
 unfold Z12 at hp;split at hp
 ·rename_i n el hT;have hT':=ZaT hT;split at hp
  grind
  ·rename_i hokel;simp only[ZiS,Bool.not_eq_false']at hokel;simp only[ZgI,ZgK,ZgR]at hp;obtain⟨⟨e,sh⟩,he,⟨j,sj⟩,hj,rfl,rfl⟩:=hp;obtain⟨u,hu,hrd⟩:=Xg hr hC he;obtain⟨y,hy,hyr⟩:=Xg hr hC hj;obtain⟨z,hz⟩:=hes _ (List.Mem.head _);have hz0:=hz;simp only[eval,hu,hy,ZgS]at hz;obtain⟨cs,ki,q,rfl,rfl,hq,hlen,hzz⟩:=Q6 hz;rw[hyr.int_eq];generalize a.eval x=v at hrd;obtain⟨dd,info,hd,hi,hs,hagg⟩:=WP hokel
   have hle:q*c.P.cellsOf el+c.P.cellsOf el<=n*c.P.cellsOf el:=by
    rw[<-Zi2];exact Zhh _ hq
   cases hrd with
   |agg _ vs h1 h2 h3=>
    cases hag:Zq c.P el with
    |false=>
     rw[hag]at hzz hz0;simp only[ZgU,Zhr]at hzz;have hlt:q*c.P.cellsOf el<vs.size:=by rw[h1];exact(ZgL.1 hzz).1
     rw[hs]at hlt hzz;refine⟨vs.getD (q*info.size) undef,?_,z,by omega,h3 _ _ hzz⟩;simp[Instr.index,asIntOf,Zhk hT',hq,YI hi,part,hagg,hag,hlt,ZgN]
    |true=>
     rw[hag]at hzz hz0;simp only[Zhp,ZgH]at hzz;subst hzz;refine⟨.agg (vs.extract (q*c.P.cellsOf el) (q*c.P.cellsOf el+c.P.cellsOf el)),?_,_,by omega,Rd.part h1 h2 h3 (by omega)⟩;rw[hs];simp[Instr.index,asIntOf,Zhk hT',hq,YI hi,part,hagg,hag]
 grind
theorem JZ{k:Nat}{l:List V}(hk:Yr k l=true):∀x∈l,x.cells.length=k:=λx hx=>by
 have:=ZgT.1 hk x hx;simp_all
theorem Z9L{P:Program}{T el:TypeId}(h:P.underlying T=some (.slice el)):P.elem T=el:=by
 simp[Program.elem,h]
theorem Rd.sliced{G':Nat->Prop}{l:List V}{o:Option Addr}{len cap:Nat}(hx:Rd w G' (.sl l) (.slice o len cap)){k p q:Nat}(hk:Yr k l=true)(hpq:p<=q)(hq:q<=l.length):
  q<=cap/\len=l.length/\Rd w G' (.sl ((l.take q).drop p)) (sliced o p q cap k):=by
 cases hx with
 |nil _ _ hc=>
  simp only[Ziy,Nat.le_zero]at hq;subst hq;have hp0:p=0:=by omega
  subst hp0;exact⟨ZhO _,rfl,by simp only[Go.sliced,List.take_nil,List.drop_nil,Nat.sub_zero];exact .nil _ _ hc⟩
 |sl _ b o _ kk vs h1 h2 h3 h4 h5 h6=>
  refine⟨by omega,rfl,?_⟩;unfold Go.sliced;by_cases hpq':p=q
  ·subst hpq'
   have:(l.take p).drop p=[]:=by
    rw[Zko];simp;omega
   rw[this,Ziu];exact .nil _ _ (by omega)
  ·have hne:cap≠p:=by omega
   have hl0:∃x,l[p]?=some x:=⟨_,ZgJ (by omega)⟩;obtain⟨x,hx⟩:=hl0;have hkk:kk=k:=by rw[<-(h4 x (ZgQ hx)).1,JZ hk x (ZgQ hx)]
   subst hkk;have hlen:((l.take q).drop p).length=q-p:=by simp;omega
   simp only[if_neg hne,ZgY,ZiI];rw[<-hlen]
   have hflat:Vm.flat ((l.take q).drop p)=((Vm.flat l).take (q*kk)).drop (p*kk):=by
    rw[Z4Z (k:=kk) (λx hx=>h4 x (ZhB hx)),Z50 h4]
   refine .sl _ b (o+p*kk) (cap-p) kk (λi=>vs (p*kk+i)) (by omega) (by omega) h3 (λx hx=>h4 x (ZhB (Zih hx))) (λi hi=> ?_) λi c hi=> ?_
   ·rw[Zif];refine h5 _ ?_;have:(q-p)*kk+p*kk<=l.length*kk:=by rw[<-Nat.add_mul];exact Zhh _ (by omega)
    rw[hlen]at hi;omega
   ·rw[hflat,Zht,Zhm]at hi;split at hi
    ·exact h6 _ _ hi
    ·simp at hi
theorem U8{T:TypeId}(hT:c.P.underlying T=some (.slice (c.P.elem T))){v:Value}{lo hi:Option Value}{tm:Nat->Option Value}{d:Nat}{k:TK}:
  Has c B s w h tm d k (Instr.sliceAt T v lo hi none)=Has c B s w h tm d k (Instr.slice T v lo hi none):=by
 simp_all[Has,run_sliceAt_slice]
theorem Uv{P:Program}{T:TypeId}(hT:okT P T=true)(w:World):(Go.sizeOf T).run P w=.ok (P.cellsOf T) w:=by
 grind [WP,YI]
theorem Z6K{k:Nat}{x y z u:V}(hz:slcV k x y z=some u):∃l ka kb p q,x=.sl l/\y=.int ka (p:Nat)/\z=.int kb (q:Nat)/\p<=q/\q<=l.length/\Yr k l=true/\u=.sl ((l.take q).drop p):=by
 unfold slcV at hz;split at hz
 ·rename_i l ka p kb q;split at hz
  ·rename_i hc;obtain⟨h0,h1,h2,h3⟩:=hc;obtain⟨p,rfl⟩:=Zh4 h0;obtain⟨q,rfl⟩:=Zh4 (Int.le_trans h0 h1)
   grind
  grind
 grind
theorem Z44{k:Nat}{x y u:V}(hz:Z1p k x y=some u):∃l ka p,x=.sl l/\y=.int ka (p:Nat)/\p<=l.length/\Yr k l=true/\u=.sl (l.drop p):=by
 unfold Z1p at hz;split at hz
 ·rename_i l ka p;split at hz
  ·rename_i hc;obtain⟨h0,h1,h3⟩:=hc;obtain⟨p,rfl⟩:=Zh4 h0;simp only[ZgH,Zhl]at hz;exact⟨l,ka,p,rfl,rfl,by omega,h3,hz.symm⟩
  grind
 grind
theorem Rd.sl_eq{G':Nat->Prop}{l:List V}{v:Value}(hx:Rd w G' (.sl l) v):∃o len cap,v=.slice o len cap:=by
 cases hx<;>exact⟨_,_,_,rfl⟩
theorem Z15(hr:RelG c B G s a w h g)(hC:holds s (ixC c C)){T:TypeId}{x:Operand}{lo hi:Option Operand}{k:TK}{es:List E}(hp:Z14 c g C T x lo hi=some (k,es))(hes:∀e∈es,∃z,eval s e=some z)(d:Nat):
  Has c B s w h (λp=>a.tmps[p]?) d k (Instr.sliceAt T (a.eval x) (lo.map a.eval) (hi.map a.eval) none):=by
 unfold Z14 at hp;split at hp
 ·rename_i el hT;have hT':=Z4e hT;have hel:=Z9L hT';have hT2:c.P.underlying T=some (.slice (c.P.elem T)):=by rw[hel];exact hT'
  split at hp
  ·rename_i hok;simp only[ZgI,ZgK,ZgR]at hp;obtain⟨⟨e,sh⟩,he,l,hl,e',he',rfl,rfl⟩:=hp;obtain⟨u,hu,hrd⟩:=Xg hr hC he;obtain⟨z,hz⟩:=hes _ (List.Mem.head _);rw[U8 hT2];generalize a.eval x=v at hrd;cases hi with
   |some hh=>
    simp only[opHi,ZgK]at he';obtain⟨⟨f,sf⟩,hf,rfl⟩:=he';obtain⟨y2,hy2,hr2⟩:=Xg hr hC hf;have hz0:=hz;simp only[eval,hu,hy2,ZgS,ZgI]at hz;obtain⟨y1,hy1,hz⟩:=hz;obtain⟨ll,ka,kb,p,q,rfl,rfl,rfl,hpq,hq,hsz,rfl⟩:=Z6K hz;obtain⟨o,len,cap,rfl⟩:=hrd.sl_eq;obtain⟨hqc,hlen,hres⟩:=hrd.sliced hsz hpq hq;refine⟨_,?_,_,hz0,hres⟩;cases lo with
    |some ll'=>
     simp only[opLo,ZgK]at hl;obtain⟨⟨f1,sf1⟩,hf1,rfl⟩:=hl;obtain⟨y3,hy3,hr3⟩:=Xg hr hC hf1;rw[hy1]at hy3;cases hy3;simp only[ZgY];rw[hr2.int_eq,hr3.int_eq];simp_all[run_slice_lh,Uv,Result.andThen]
    |none=>
     simp only[opLo,ZgH]at hl;subst hl;simp only[eval,ZgH,V.int.injEq]at hy1;have hp0:p=0:=by omega
     subst hp0;simp only[ZgY,Zj7];rw[hr2.int_eq]
     grind [run_slice_h,Uv,Result.andThen]
   |none=>
    simp only[opHi,ZgH]at he';subst he';have hz0:=hz;simp only[eval,hu,ZgS,ZgI]at hz;obtain⟨y1,hy1,hz⟩:=hz;obtain⟨ll,ka,p,rfl,rfl,hq,hsz,rfl⟩:=Z44 hz;obtain⟨o,len,cap,rfl⟩:=hrd.sl_eq;obtain⟨hqc,hlen,hres⟩:=hrd.sliced hsz hq (ZgP _);rw[Zib]at hres;refine⟨_,?_,_,hz0,hres⟩;cases lo with
    |some ll'=>
     simp only[opLo,ZgK]at hl;obtain⟨⟨f1,sf1⟩,hf1,rfl⟩:=hl;obtain⟨y3,hy3,hr3⟩:=Xg hr hC hf1;rw[hy1]at hy3;cases hy3;simp only[ZgY,Zj7];rw[hr3.int_eq];simp_all[run_slice_l,Uv,Result.andThen]
    |none=>
     simp only[opLo,ZgH]at hl;subst hl;simp only[eval,ZgH,V.int.injEq]at hy1
     grind [run_slice_all,Uv,Result.andThen]
  grind
 grind
end
end Vm
namespace Vm
open Go
open Go.RowKit (Below)
def GH.give(h:GH)(d i n:Nat):GH:= {F:=h.F,bl:=λt j=>if t=d then(if j=i then some n else none)else h.bl t j,K:=h.K}
def GH.froz(h:GH)(n:Nat):GH:= {F:=λb=>h.F b\/b=n,bl:=h.bl,K:=h.K}
section
variable {c:Ctx}{B:Nat}{G:Nat->Prop}{s:St}{a:Act}{w w':World}{h:GH}{g:Gam}{C:Zi}
theorem Xi(hok:Ok B G w h)(hg:w.grownBy w' none):Below B w w':=(ZhA B w).grown hg hok.base λk hk=>by cases hk
theorem Sl(hok:Ok B G w h)(hg:w.grownBy w' none)(d i:Nat){n:Nat}(hn:w.heap.size<=n)(hn':n<w'.heap.size):
  Ok B G w' (h.give d i n)/\Step B [d] [d] [] w w' h (h.give d i n):=by
 have hsz:=hg.size
 refine⟨⟨Zhc hok.base hsz,λb hb=>ZgV (hok.f_lt b hb) hsz,hok.f_or,hok.g_F,λt j b hb=> ?_,λt j u q b hb hb'=> ?_,λb hb=>ZgV (hok.k_lt b hb) hsz,λt j b hb hK=> ?_,hok.k_F⟩,
  Xi hok hg,λb hb _=>hg.block b hb (by simp),λb hb=>hb,λt ht _=> ?_,λt ht=> ?_,λ_ _ _ _ hm=>(by simp at hm),rfl⟩
 ·simp only[GH.give]at hb;split at hb
  ·split at hb
   ·simp only[ZgH]at hb;subst hb;exact⟨Zhc hok.base hn,hn',λhF=>by have:=hok.f_lt _ hF;omega⟩
   ·cases hb
  ·obtain⟨h1,h2,h3⟩:=hok.b_lt t j b hb;exact⟨h1,ZgV h2 hsz,h3⟩
 ·simp only[GH.give]at hb hb';split at hb<;>split at hb'
  ·simp_all
  ·split at hb<;>first|(cases hb;done)|skip
   simp only[ZgH]at hb;have:=(hok.b_lt u q b hb').2.1;omega
  ·split at hb'<;>first|(cases hb';done)|skip
   simp only[ZgH]at hb';have:=(hok.b_lt t j b hb).2.1;omega
  ·exact hok.inj t j u q b hb hb'
 ·simp only[GH.give]at hb;split at hb
  ·split at hb
   ·simp only[ZgH]at hb;subst hb;have:=hok.k_lt _ hK;omega
   ·cases hb
  ·exact hok.k_bl t j b hb hK
 ·simp_all[GH.give]
 simp_all[GH.give]
theorem Z6S(hok:Ok B G w h)(hg:w.grownBy w' none)(ps rb:List Nat){n:Nat}(hn:w.heap.size<=n)(hn':n<w'.heap.size):
  Ok B G w' (h.froz n)/\Step B ps rb [] w w' h (h.froz n):=by
 have hsz:=hg.size
 refine⟨⟨Zhc hok.base hsz,λb hb=> ?_,λb hb=> ?_,λb hb=>.inl (hok.g_F b hb),λt j b hb=> ?_,hok.inj,λb hb=>ZgV (hok.k_lt b hb) hsz,hok.k_bl,λb hb=> ?_⟩,
  Xi hok hg,λb hb _=>hg.block b hb (by simp),λb hb=>.inl hb,λt ht _=>rfl,λt ht=>rfl,λ_ _ _ _ hm=>(by simp at hm),rfl⟩
 ·rcases hb with hb|rfl
  ·exact ZgV (hok.f_lt b hb) hsz
  omega
 ·rcases hb with hb|rfl
  ·exact hok.f_or b hb
  ·exact .inr (Zhc hok.base hn)
 ·obtain⟨h1,h2,h3⟩:=hok.b_lt t j b hb;refine⟨h1,ZgV h2 hsz,λhF=> ?_⟩;rcases hF with hF|rfl
  ·exact h3 hF
  ·omega
 ·rcases hb with hb|rfl
  ·exact hok.k_F b hb
  ·exact .inr λhK=>by have:=hok.k_lt _ hK;omega
theorem R8(hok:Ok B G w h)(hg:w.grownBy w' none){G':Nat->Prop}(hlt:∀b,G' b->b<w.heap.size):Same G' w w':=λb hb=>hg.block b (hlt b hb) (by simp)
theorem ZbB(hok:Ok B G w h)(sh:List Nat):∀b,h.ext sh b->b<w.heap.size:=by
 intro b hb;rcases hb with hb|⟨p,_,i,hi⟩
 ·exact hok.f_lt b hb
 ·exact(hok.b_lt p (i+1) b hi).2.1
theorem Jp{α β:Type}{f:α->Option β}:∀ {l:List α} {r:List β},l.mapM f=some r->r.length=l.length/\∀(i:Nat) (v:α),l[i]?=some v->∃x,r[i]?=some x/\f v=some x
 | [],r,hm=>by
   simp at hm;subst hm;exact⟨rfl,λi v hi=>by simp at hi⟩
 |y::l,r,hm=>by
  rw[ZiV]at hm;simp only[Option.bind_eq_bind,ZgI,Option.pure_def,ZgH]at hm;obtain⟨x,hx,xs,hxs,rfl⟩:=hm;obtain⟨h1,h2⟩:=Jp hxs;refine⟨by simp[h1],λi v hi=> ?_⟩;cases i with
  |zero=>simp at hi;subst hi;exact⟨x,by simp,hx⟩
  |succ i=>simpa using h2 i v (by simpa using hi)
theorem WB{P:Program}{T:TypeId}{zs:List V}(hz:zeroCells P T=some zs):∃i z,P.info? T=some i/\i.zero=some z/\z.cells.size=zs.length/\∀(j:Nat) (v:Value),z.cells[j]?=some v->∃x,zs[j]?=some x/\UE v=some x:=by
 unfold zeroCells at hz;simp only[ZgI]at hz;obtain⟨z,⟨i,hi,hz0⟩,hm⟩:=hz;obtain⟨h1,h2⟩:=Jp hm;simp_all
theorem Vt{P:Program}{T:TypeId}{i:TypeInfo}{z:Value}(hi:P.info? T=some i)(hz:i.zero=some z)(w:World):(zeroValue T).run P w=.ok z w:=by
 simp[zeroValue,typeInfo,hi,hz]
theorem R7{P:Program}{T:TypeId}(v:Value)(w:World):(newVar T v).run P w=.ok ⟨w.heap.size,0,none⟩ (w.alloc (.cells v.cells T)):=by
 rfl
def ZdX(x:V):CK:=match x with|.sl _=>CK.nil|_=>.fz
theorem Z8P{P:Program}{o:Option Nat}{v:Value}{x:V}(hv:UE v=some x):RelC P B s w h o (ZdX x) (.c x) v:=by
 unfold UE at hv
 split at hv<;>first
  |(simp only[ZgH]at hv;subst hv;first|exact⟨_,rfl,rfl,.int _ _⟩|exact⟨_,rfl,rfl,.bool _⟩|exact⟨_,rfl,rfl,.str _⟩|exact⟨rfl,rfl⟩|exact⟨_,rfl,rfl,.nomp⟩|exact⟨_,rfl,rfl,.nul0⟩|exact⟨_,rfl,rfl,.nul1⟩)
  | (split at hv<;>first
    | (rename_i hs
       simp only[ZgH]at hv;subst hv;rw[ZhI hs.1,ZhI hs.2];exact⟨_,rfl,rfl,.fn _⟩)
    |simp at hv)
  |simp at hv
theorem Z0Z(hok:Ok B G w h){T:TypeId}{k:TK}{es:List E}(hp:Z0Y c T=some (k,es))(tm:Nat->Option Value)(d:Nat):
  ∃v w',(Instr.alloc T true (.tuple #[])).run c.P w=.ok v w'/\PRes c B G s w h tm d k v w':=by
 unfold Z0Y at hp;simp only[ZgI]at hp;obtain⟨zs,hz,hp⟩:=hp;split at hp
 grind
 ·simp only[ZgH,ZgR]at hp;obtain⟨rfl,rfl⟩:=hp;obtain⟨i,z,hi,hz0,hsz,hcells⟩:=WB hz;have hg:=Zi5 w (.cells z.cells T) none;obtain⟨hok',hst⟩:=Sl hok hg d 0 (n:=w.heap.size) (ZgP _) (by simp);refine⟨.pointer (some ⟨w.heap.size,0,none⟩),_,?_,_,hst,hok',?_⟩
  ·simp[Instr.alloc,Vt hi hz0,R7]
  ·refine⟨w.heap.size,z.cells,T,by simp[GH.give],rfl,Zhv w _,by simp_all,λj ck hj=> ?_⟩;simp only[Zh2,ZgK]at hj;obtain⟨x,hx,rfl⟩:=hj;have hlt:j<z.cells.size:=by rw[hsz];exact(ZgL.1 hx).1
   obtain⟨x',hx',hc⟩:=hcells j z.cells[j] (Zh5 hlt);rw[hx]at hx';cases hx';have:z.cells.getD j undef=z.cells[j]:=by simp[hlt]
   rw[this];exact Z8P hc
theorem Z6e(hr:RelG c B G s a w h g)(hC:holds s (ixC c C)){T:TypeId}{x:Operand}{k:TK}{es:List E}(hp:Zaw c g C T x=some (k,es))(hes:∀e∈es,∃z,eval s e=some z)(tm:Nat->Option Value)(d:Nat):
  ∃v w',(Instr.box T (a.eval x)).run c.P w=.ok v w'/\PRes c B G s w h tm d k v w':=by
 unfold Zaw at hp;split at hp
 ·rename_i e0 hk;split at hp
  ·rename_i hokT;obtain⟨y,hy,hrd⟩:=Xn hr hC hk;have hg:=Zi5 w (.cells (a.eval x).cells T) none;obtain⟨hok',hst⟩:=Sl hr.ok hg d 0 (n:=w.heap.size) (ZgP _) (by simp);have hF:Same h.F w (w.alloc (.cells (a.eval x).cells T)):=R8 hr.ok hg hr.ok.f_lt;refine⟨.pointer (some ⟨w.heap.size,0,none⟩),_,by rfl,_,hst,hok',?_⟩;generalize a.eval x=v at*;split at hp
   ·rename_i hag;simp only[hag,ZgH,ZgR]at hp;obtain⟨rfl,rfl⟩:=hp;obtain⟨z,hz⟩:=hes _ (List.Mem.head _);obtain⟨h1,h2,h3,_⟩:=Qu hz;rw[hy]at h1;cases h1;obtain⟨hs1,hs2,hs3⟩:=hrd.cells h2;refine⟨w.heap.size,v.cells,T,by simp[GH.give],rfl,Zhv w _,by simp_all,λj ck hj=> ?_⟩;simp only[Zh2,ZgK]at hj;obtain⟨j',hj',rfl⟩:=hj;have hlt:j<c.P.cellsOf T:=by simpa using(ZgL.1 hj').1
    have hj2:j'=j:=by simpa[hlt]using hj'.symm
    subst hj2;have hlt2:j'<y.cells.length:=by rw[h3 rfl];exact hlt
    have hget:y.cells[j']?=some y.cells[j']:=ZgJ hlt2;refine⟨y.cells[j'],?_,hs2 _ (ZgZ _),(hs3 j' _ hget).F.keep hF λb hb=>hb⟩;have hpc:y.pc=y.cells:=by cases y<;>first|rfl|exact absurd rfl (h2 _)
    simp_all[eval,ZgS,fldV,oneV,if_pos,ZgZ]
   ·rename_i hag;have hag':Zq c.P T=false:=by simpa using hag
    simp only[hag',ZgH,ZgR]at hp;obtain⟨rfl,rfl⟩:=hp;obtain⟨z,hz⟩:=hes _ (List.Mem.head _);obtain⟨h1,h2,_,h3⟩:=Qu hz;rw[hy]at h1;cases h1;obtain⟨hs1,hs2,hs3⟩:=hrd.cells h2;have hyc:=YN (h3 rfl);rw[hyc]at hs1 hs3;refine⟨w.heap.size,v.cells,T,by simp[GH.give],rfl,Zhv w _,by omega,λj ck hj=> ?_⟩;cases j with
    |zero=>
     simp at hj;subst hj;exact⟨y,hz,h3 rfl,(hs3 0 y rfl).F.keep hF λb hb=>hb⟩
    |succ j=>simp at hj
  grind
 grind
theorem JW(off:Nat):∀(l:List (Value×Nat)) (cs:Array Value) (m:Nat),(∀(i:Nat) (q:Value×Nat),l[i]?=some q->q.2=m+i)->off+m+l.length<=cs.size->
  (l.foldl (λcs (c,j)=>cs.setIfInBounds (off+j) c) cs).size=cs.size/\
  (∀x,x<off+m\/off+m+l.length<=x->(l.foldl (λcs (c,j)=>cs.setIfInBounds (off+j) c) cs)[x]?=cs[x]?)/\
  ∀(i:Nat) (q:Value×Nat),l[i]?=some q->(l.foldl (λcs (c,j)=>cs.setIfInBounds (off+j) c) cs)[off+m+i]?=some q.1
 | [],cs,m,_,_=>⟨rfl,λ_ _=>rfl,λi q hi=>by simp at hi⟩
 | (v,j)::l,cs,m,hidx,hle=>by
   have hj:j=m:=hidx 0 (v,j) rfl;subst hj
   have hl':∀(i:Nat) (q:Value×Nat),l[i]?=some q->q.2=(j+1)+i:=λi q hi=>by
    have:=hidx (i+1) q (by grind);omega
   simp only[ZhL]at hle;obtain⟨h1,h2,h3⟩:=JW off l (cs.setIfInBounds (off+j) v) (j+1) hl' (by simp;omega);simp only[Zj4];refine⟨by rw[h1];simp,λx hx=> ?_,λi q hi=> ?_⟩
   ·rw[h2 x (by simp only[ZhL]at hx;omega),ZhC (by simp only[ZhL]at hx;omega)]
   ·cases i with
    |zero=>
     simp at hi;subst hi;rw[ZiQ,h2 (off+j) (by omega)];have:off+j<cs.size:=by omega
     simp[this]
    |succ i=>
     have:=h3 i q (by grind);rw[show off+j+(i+1)=off+(j+1)+i from by omega];exact this
theorem jr(off:Nat)(v:Value)(cs:Array Value)(hle:off+v.cells.size<=cs.size):
  (v.cells.zipIdx.foldl (λcs (c,j)=>cs.setIfInBounds (off+j) c) cs).size=cs.size/\
  (∀x,x<off\/off+v.cells.size<=x->(v.cells.zipIdx.foldl (λcs (c,j)=>cs.setIfInBounds (off+j) c) cs)[x]?=cs[x]?)/\
  ∀i,i<v.cells.size->(v.cells.zipIdx.foldl (λcs (c,j)=>cs.setIfInBounds (off+j) c) cs)[off+i]?=v.cells[i]? :=by
 have hz:∀(i:Nat) (q:Value×Nat),v.cells.zipIdx.toList[i]?=some q->v.cells[i]?=some q.1/\q.2=0+i:=by
  intro i q hi;rw[Zi0,Zkt,ZgK]at hi;obtain⟨u,hu,rfl⟩:=hi;exact⟨hu,by omega⟩
 have hlen:v.cells.zipIdx.toList.length=v.cells.size:=by simp
 rw[<-ZiX];obtain⟨h1,h2,h3⟩:=JW off v.cells.zipIdx.toList cs 0 (λi q hi=>(hz i q hi).2) (by rw[hlen];omega);refine⟨h1,λx hx=>h2 x (by rw[hlen];omega),λi hi=> ?_⟩
 have hq:v.cells.zipIdx.toList[i]?=some (v.cells[i],0+i):=by
  rw[Zi0,Zkt];simp[hi]
 have:=h3 i _ hq;rw[ZiQ]at this;rw[this];simp[hi]
theorem J1(place:Nat->Option (Nat×Nat)):∀(parts:List (Nat×Value)) (cs:Array Value),(∀p∈parts,∃off,place p.1=some (off,p.2.cells.size)/\off+p.2.cells.size<=cs.size)->
  ∃R,Instr.fill place cs parts=some R/\R.size=cs.size/\
   (∀x,(∀p∈parts,∀off n,place p.1=some (off,n)->x<off\/off+n<=x)->R[x]?=cs[x]?)/\
   ∀pre p suf,parts=pre++p::suf->∀off,place p.1=some (off,p.2.cells.size)->(∀q∈suf,∀o n,place q.1=some (o,n)->off+p.2.cells.size<=o\/o+n<=off)->∀j,j<p.2.cells.size->R[off+j]?=p.2.cells[j]?
 | [],cs,_=>⟨cs,rfl,rfl,λ_ _=>rfl,λpre p suf hp=>by simp at hp⟩
 | (i,v)::parts,cs,hall=>by
   obtain⟨off,hpl,hle⟩:=hall (i,v) (by simp);simp only at hpl hle;obtain⟨h1,h2,h3⟩:=jr off v cs hle;obtain⟨R,hR,hsz,hout,hin⟩:=J1 place parts (v.cells.zipIdx.foldl (λcs (c,j)=>cs.setIfInBounds (off+j) c) cs) (λp hp=>by simp_all);refine⟨R,?_,by omega,λx hx=> ?_,λpre p suf hp off' hpl' hsuf j hj=> ?_⟩
   ·have:¬(off+v.cells.size>cs.size):=by omega
    simp only[Instr.fill,hpl]
    grind
   ·rw[hout x λp hp=>hx p (by simp[hp])];exact h2 x (hx (i,v) (by simp) off _ hpl)
   ·cases pre with
    |nil=>
     grind
    |cons y pre=>
     grind
end
end Vm
namespace Vm
open Go
open Go.RowKit (Below)
def ZS:List (CK×E)->List Nat->Nat->Option Nat
 | [],_,_=>none
 |(.own _,_)::_,t::_,0=>some t
 |(.own _,_)::r,_::ts,i+1=>ZS r ts i
 |(.own _,_)::_,[],_=>none
 |_::_,_,0=>none
 |_::r,ts,i+1=>ZS r ts i
def owns:List (CK×E)->Nat
 | []=>0
 |(.own _,_)::r=>owns r+1
 |_::r=>owns r
theorem Tp:∀ {l:List (CK×E)} {ts us:List Nat} {r:List (CK×E)} {i:Nat},owns l=ts.length->i<l.length->ZS (l++r) (ts++us) i=ZS l ts i
 | [],_,_,_,_,_,hi=>by simp at hi
 | (k,e)::l,ts,us,r,i,ho,hi=>by
   cases k with
   |own ty=>
    cases ts with
    |nil=>simp[owns]at ho
    |cons t ts=>
     simp only[owns,ZhL,Zkf]at ho;cases i with
     |zero=>rfl
     |succ i=>simpa[ZS]using Tp ho (by grind)
   |_=>
    simp only[owns]at ho;cases i with
    |zero=>rfl
    |succ i=>simpa[ZS]using Tp ho (by grind)
theorem Ua:∀ {l:List (CK×E)} {ts us:List Nat} {r:List (CK×E)} {i:Nat},owns l=ts.length->ZS (l++r) (ts++us) (l.length+i)=ZS r us i
 | [],ts,us,r,i,ho=>by
   grind [List.eq_nil_of_length_eq_zero,owns]
 | (k,e)::l,ts,us,r,i,ho=>by
   have e1:(l.length+1+i)=(l.length+i)+1:=by omega
   cases k with
   |own ty=>
    cases ts with
    |nil=>simp[owns]at ho
    |cons t ts=>
     simp_all[owns,ZhL,Zkf,ZhX,ZS,Ua]
   |_=>
    simp only[owns]at ho;simp only[ZhL,ZhX,e1,ZS];exact Ua ho
theorem JB:∀(l r:List (CK×E)),owns (l++r)=owns l+owns r
 | [],r=>by simp[owns]
 | (k,e)::l,r=>by
   cases k<;>simp only[ZhX,owns,JB l r]<;>omega
section
variable {c:Ctx}{B:Nat}{G:Nat->Prop}{s:St}{a:Act}{w w':World}{h:GH}{g:Gam}{C:Zi}
def BRel(c:Ctx)(B:Nat)(s:St)(a:Act)(w:World)(h:GH)(cs:List (CK×E))(ts sh:List Nat)(i:Nat)(ck:CK×E)(v:Value):Prop:=
 match ck.1 with
 |.own ty=>∃t,ZS cs ts i=some t/\t∈ts/\a.tmps[t]?=some v/\∃x,eval s ck.2=some x/\OwnV c.P B w h (h.bl t 1) ty x v
 |.nil=>v=.slice none 0 0/\eval s ck.2=some (.sl [])
 |.fz=>∃x,eval s ck.2=some x/\x.one=true/\Rd w (h.ext sh) x v
 |.dead=>False
theorem jN{zs:List V}{z:Array Value}(hz:∀(j:Nat) (v:Value),z[j]?=some v->∃x,zs[j]?=some x/\UE v=some x)(hsz:z.size=zs.length)(o n:Nat):
  owns (Sn zs o n).1=0/\∀(cs:List (CK×E)) (ts sh:List Nat) (i:Nat) (j:Nat) (ck:CK×E),(Sn zs o n).1[j]?=some ck->BRel c B s a w h cs ts sh i ck (z.getD (o+j) undef):=by
 constructor
 ·unfold Sn;simp only
  induction (List.take n (List.drop o zs))with
  |nil=>rfl
  |cons x r ih=>cases x<;>simp_all[owns]
 ·intro cs ts sh i j ck hj;simp only[Sn,Zh2,ZgK]at hj;obtain⟨x,hx,rfl⟩:=hj;rw[Zhm]at hx;split at hx
  ·rw[Zht]at hx;have hlt:o+j<z.size:=by rw[hsz];exact(ZgL.1 hx).1
   obtain⟨x',hx',hc⟩:=hz (o+j) z[o+j] (Zh5 hlt);rw[hx]at hx';cases hx';have hget:z.getD (o+j) undef=z[o+j]:=by simp[hlt]
   rw[hget];generalize z[o+j]=v at hc;unfold UE at hc
   split at hc<;>first
    |(simp only[ZgH]at hc;subst hc;first|exact⟨_,rfl,rfl,.int _ _⟩|exact⟨_,rfl,rfl,.bool _⟩|exact⟨_,rfl,rfl,.str _⟩|exact⟨rfl,rfl⟩|exact⟨_,rfl,rfl,.nomp⟩|exact⟨_,rfl,rfl,.nul0⟩|exact⟨_,rfl,rfl,.nul1⟩)
    | (split at hc<;>first
      | (rename_i hs
         simp only[ZgH]at hc;subst hc;rw[ZhI hs.1,ZhI hs.2];exact⟨_,rfl,rfl,.fn _⟩)
      |simp at hc)
    |simp at hc
  grind
theorem Zcn{e:E}{n j:Nat}{z:V}(hz:eval s (.fld e j)=some z):∃y,eval s e=some y/\y.pc[j]?=some z/\z.one=true:=by
 grind [eval,Option.bind_eq_some_iff,J6,fldV,X5]
theorem Zdf{x:V}(h:∀l,x≠.tup l):x.pc=x.cells:=by
 rfl
theorem SP(hr:RelG c B G s a w h g)(hC:holds s (ixC c C)){x:Operand}{b0:E×List Nat}(hx:opE g C x=some b0){ag fl:Bool}{n:Nat}(hn:n≠0){z:V}
  (hz:eval s (tyE ag n (flE fl b0).1)=some z):
  (∀l,z≠.tup l)/\(ag=true->z.cells.length=n)/\(ag=false->z.one=true)/\Rd w (h.ext (flE fl b0).2) z (a.eval x):=by
 obtain⟨y,hy,hyr⟩:=Xg hr hC (show opE g C x=some (b0.1,b0.2)from hx);obtain⟨h1,h2,h3,h4⟩:=Qu hz;obtain⟨z',hz',hzr⟩:=J5 (fl:=fl) (b:=b0) hy hyr ⟨z,h1⟩;simp_all
theorem zG(hr:RelG c B G s a w h g)(hC:holds s (ixC c C)){n:Nat}(hn:n≠0){ag fl:Bool}{x:Operand}{b:BC}(hp:JD g C n ag fl x=some b)(hlen:b.1.length=n)
  (hev:∀ck∈b.1,∃z,eval s ck.2=some z):
  owns b.1=b.2.2.length/\(a.eval x).cells.size=n/\∀(sh:List Nat),(∀t∈b.2.1,t∈sh)->∀(j:Nat) (ck:CK×E),b.1[j]?=some ck->BRel c B s a w h b.1 b.2.2 sh j ck ((a.eval x).cells.getD j undef):=by
 have rest:∀ {b:BC},((opE g C x).map λa0=>let a:=flE fl a0;let e:=tyE ag n a.1;(if ag then(List.range n).map λj=>(CK.fz,E.fld e j)else [(.fz,e)],a.2,[]))=some b->b.1.length=n->(∀ck∈b.1,∃z,eval s ck.2=some z)->
   owns b.1=b.2.2.length/\(a.eval x).cells.size=n/\∀(sh:List Nat),(∀t∈b.2.1,t∈sh)->∀(j:Nat) (ck:CK×E),b.1[j]?=some ck->BRel c B s a w h b.1 b.2.2 sh j ck ((a.eval x).cells.getD j undef):=by
  intro b hb hlen hev;simp only[ZgK]at hb;obtain⟨b0,hx,rfl⟩:=hb
  have hmono:∀(sh:List Nat),(∀t∈(flE fl b0).2,t∈sh)->∀b,h.ext (flE fl b0).2 b->h.ext sh b:=by
   intro sh hsh b hb;rcases hb with hb|⟨p,hp,i,hi⟩
   ·exact .inl hb
   ·exact .inr ⟨p,hsh p hp,i,hi⟩
  cases ag with
  |true=>
   simp only[Zhp]at hlen hev⊢;have h0:=hev (CK.fz,E.fld (tyE true n (flE fl b0).1) 0) (ZgX.2 ⟨0,ZiN.2 (by omega),rfl⟩);obtain⟨z0,hz0⟩:=h0;obtain⟨y,hy,_,_⟩:=Zcn (n:=n) hz0;obtain⟨h1,h2,_,h4⟩:=SP hr hC hx hn hy;obtain⟨hs1,hs2,hs3⟩:=h4.cells h1;refine⟨?_,by simp_all,λsh hsh j ck hj=> ?_⟩
   ·generalize List.range n=l
    induction l with
    |nil=>rfl
    |cons q r ih=>simp_all[owns]
   ·simp only[Zh2,ZgK]at hj;obtain⟨j',hj',rfl⟩:=hj;have hlt:j<n:=by simpa using(ZgL.1 hj').1
    have hjj:j'=j:=by simpa[hlt]using hj'.symm
    subst hjj;have hget:y.cells[j']?=some (y.cells[j']'(by simp_all)):=ZgJ _;refine⟨_,?_,hs2 _ (ZgQ hget),(hs3 j' _ hget).mono (hmono sh hsh)⟩;simp_all[eval,ZgS,fldV,Zdf,oneV,if_pos,ZgQ]
  |false=>
   simp only[ZgU,Zhr]at hlen hev⊢;obtain⟨y,hy⟩:=hev (CK.fz,tyE false n (flE fl b0).1) (ZhJ.2 rfl);have hy:eval s (tyE false n (flE fl b0).1)=some y:=hy;obtain⟨h1,_,h3,h4⟩:=SP hr hC hx hn hy;obtain⟨hs1,hs2,hs3⟩:=h4.cells h1;rw[YN (h3 rfl)]at hs1 hs3;refine⟨rfl,by simp_all,λsh hsh j ck hj=> ?_⟩;cases j with
   |zero=>
    simp at hj;subst hj;exact⟨y,hy,h3 rfl,(hs3 0 y rfl).mono (hmono sh hsh)⟩
   |succ j=>simp at hj
 unfold JD at hp;split at hp
 ·rename_i t ty e hk;simp only[ZgH]at hp;subst hp;obtain⟨v,hv,⟨x,hx,ho⟩,_⟩:=hr.look hC (show look g C t=_ from hk) rfl
  have hone:v.cells=#[v]:=by
   rcases ho with ⟨l,xs,_,_,_,⟨_,hc⟩,_⟩|⟨_,_,_,_,_,_,_,rfl,_⟩
   ·rcases hc with ⟨rfl,_⟩|⟨_,_,_,rfl,_⟩<;>rfl
   ·rfl
  rw[Act.eval_tmp a t v hv,hone];refine⟨rfl,by omega,λsh hsh j ck hj=> ?_⟩;cases j with
  |zero=>
   simp at hj;subst hj;exact⟨t,rfl,by simp,by simpa using hv,x,hx,by simpa using ho⟩
  |succ j=>simp at hj
 ·rename_i hk;simp only[ZgH]at hp;subst hp;rw[SZ hr hC hk];refine⟨rfl,by grind [Value.cells],λsh hsh j ck hj=> ?_⟩;cases j with
  |zero=>simp at hj;subst hj;exact⟨rfl,rfl⟩
  |succ j=>simp at hj
 grind
theorem BRel.left{cs r:List (CK×E)}{ts us sh:List Nat}{i:Nat}{ck:CK×E}{v:Value}(hb:BRel c B s a w h cs ts sh i ck v)(ho:owns cs=ts.length)(hi:i<cs.length):BRel c B s a w h (cs++r) (ts++us) sh i ck v:=by
 grind [BRel,Tp]
theorem BRel.right{cs r:List (CK×E)}{ts us sh:List Nat}{i:Nat}{ck:CK×E}{v:Value}(hb:BRel c B s a w h r us sh i ck v)(ho:owns cs=ts.length):BRel c B s a w h (cs++r) (ts++us) sh (cs.length+i) ck v:=by
 grind [BRel,Ua]
theorem Tv(hr:RelG c B G s a w h g)(hC:holds s (ixC c C)){zs:List V}{parts:List (Nat×Operand)}{z:Array Value}(hz:∀(j:Nat) (v:Value),z[j]?=some v->∃x,zs[j]?=some x/\UE v=some x)(hsz:z.size=zs.length)(sh:List Nat):
  ∀(fs:List (Nat×Nat×Bool×Bool)) (i o:Nat) (b:BC),VG g C zs parts fs i o=some b->(∀ck∈b.1,∃z,eval s ck.2=some z)->(∀t∈b.2.1,t∈sh)->
   o+b.1.length=zs.length/\owns b.1=b.2.2.length/\
   (∀(q:Nat) (f:Nat×Nat×Bool×Bool),fs[q]?=some f->o<=f.1/\f.1+f.2.1<=zs.length/\(∀(q':Nat) (f':Nat×Nat×Bool×Bool),fs[q']?=some f'->q<q'->f.1+f.2.1<=f'.1))/\
   (∀(q:Nat) (f:Nat×Nat×Bool×Bool) (p:Nat×Operand),fs[q]?=some f->parts.find? (λp=>p.1==i+q)=some p->(a.eval p.2).cells.size=f.2.1)/\
   ∀R:Array Value,(∀(q:Nat) (f:Nat×Nat×Bool×Bool),fs[q]?=some f->∀j,j<f.2.1->R.getD (f.1+j) undef=match parts.find? (λp=>p.1==i+q)with|some p=>(a.eval p.2).cells.getD j undef|none=>z.getD (f.1+j) undef)->
    ∀(j:Nat) (ck:CK×E),b.1[j]?=some ck->BRel c B s a w h b.1 b.2.2 sh j ck (R.getD (o+j) undef)
 | [],i,o,b,hb,_,_=>by
   simp only[VG]at hb;split at hb
   ·simp only[ZgH]at hb;subst hb;exact⟨by simpa,rfl,λq f hq=>by simp at hq,λq f p hq=>by simp at hq,λR _ j ck hj=>by simp at hj⟩
   grind
 |f::fs,i,o,b,hb,hev,hsh=>by
  simp only[VG,ZgI]at hb;obtain⟨b1,hb1,hb⟩:=hb;split at hb
  ·rename_i hcond;obtain⟨ho,hl1,hn⟩:=hcond;simp only[ZgK]at hb;obtain⟨b2,hb2,rfl⟩:=hb;simp only[Zh9]at hev hsh;obtain⟨h1,h2,h3,h4,h5⟩:=Tv hr hC hz hsz sh fs (i+1) (o+f.2.1) b2 hb2 (λck hck=>hev ck (.inr hck)) (λt ht=>hsh t (.inr ht))
   have hfst:owns b1.1=b1.2.2.length/\(∀p,parts.find? (λp=>p.1==i)=some p->(a.eval p.2).cells.size=f.2.1)/\
     ∀(j:Nat) (ck:CK×E),b1.1[j]?=some ck->BRel c B s a w h b1.1 b1.2.2 sh j ck (match parts.find? (λp=>p.1==i)with|some p=>(a.eval p.2).cells.getD j undef|none=>z.getD (f.1+j) undef):=by
    unfold Z9g at hb1;cases hfind:parts.find? (λp=>p.1==i)with
    |some p=>
     simp only[hfind]at hb1;obtain⟨k1,k2,k3⟩:=zG hr hC hn hb1 hl1 λck hck=>hev ck (.inl hck)
     grind
    |none=>
     simp only[hfind,ZgH]at hb1;subst hb1;obtain⟨k1,k2⟩:=jN (c:=c) (B:=B) (s:=s) (a:=a) (w:=w) (h:=h) hz hsz f.1 f.2.1;exact⟨k1,(λp' hp'=>by cases hp'),λj ck hj=>k2 _ _ sh j j ck hj⟩
   obtain⟨f1,f2,f3⟩:=hfst;refine⟨by grind,by grind [JB,List.length_append],λq f' hq=> ?_,λq f' p hq hp=> ?_,λR hR j ck hj=> ?_⟩
   ·cases q with
    |zero=>
     simp at hq;subst hq;refine⟨by omega,by omega,λq' f' hq' hlt=> ?_⟩
     grind
    |succ q=>
     obtain⟨g1,g2,g3⟩:=h3 q f' (by grind);refine⟨by omega,g2,λq' f'' hq' hlt=> ?_⟩;cases q' with
     |zero=>omega
     |succ q'=>grind
   ·cases q with
    |zero=>simp at hq;subst hq;exact f2 p (by simpa using hp)
    |succ q=>exact h4 q f' p (by grind) (by rw[show i+1+q=i+(q+1)from by omega];exact hp)
   ·by_cases hlt:j<b1.1.length
    ·rw[Zhn hlt]at hj;have hR0:=hR 0 f rfl j (by omega);rw[ho]at hR0;rw[hR0];have:=f3 j ck hj;rw[ho]at this;exact(this).left f1 hlt
    ·rw[Zh6 (by omega)]at hj
     have:=h5 R (λq f' hq j' hj'=>by
      have:=hR (q+1) f' (by grind) j' hj'
      grind) (j-b1.1.length) ck hj
     have hres:=this.right (cs:=b1.1) (ts:=b1.2.2) f1;rw[show b1.1.length+(j-b1.1.length)=j from by omega]at hres;rw[show o+f.2.1+(j-b1.1.length)=o+j from by omega]at hres;exact hres
  grind
theorem Te:∀ {l:List Nat},TZ l=true->l.Nodup
 | [],_=>List.nodup_nil
 |x::l,hl=>by
  simp only[TZ,ZgM,ZhD,Zi6,Zjs]at hl;exact Ziz.2 ⟨hl.1,Te hl.2⟩
theorem TH{β:Type}:∀ {l:List (Nat×β)} {p:Nat×β},(l.map (·.1)).Nodup->p∈l->l.find? (λq=>q.1==p.1)=some p
 | [],p,_,hp=>by simp at hp
 |q::l,p,hn,hp=>by
  simp only[Zha,Ziz]at hn;rcases Zh0.1 hp with rfl|hp
  ·simp
  ·have hne:q.1≠p.1:=λhe=>hn.1 (by rw[he];exact ZgX.2 ⟨p,hp,rfl⟩);rw[List.find?_cons_of_neg (by simpa using hne)];exact TH hn.2 hp
theorem Z5O{α β:Type}{f:α->Option β}{g:α->β}:∀(l:List α),(∀x∈l,f x=some (g x))->l.mapM f=some (l.map g)
 | [],_=>rfl
 |x::l,hx=>by
  simp_all[ZiV,Z5O]
theorem TM{β:Type}{n q:Nat}{f:Nat->β}{x:β}(h:((List.range n).map f)[q]?=some x):q<n/\x=f q:=by
 grind
theorem Lr(hr:RelG c B G s a w h g)(hC:holds s (ixC c C)){T:TypeId}{fs:List (Nat×Nat×Bool×Bool)}(hT:Z2m c.P T=some fs){zs:List V}(hz:zeroCells c.P T=some zs){parts:Array (Nat×Operand)}{b:BC}
  (hb:Ug g C zs parts.toList fs=some b) (hev:∀ck∈b.1,∃z,eval s ck.2=some z):
  ∃vs,(Instr.build T (parts.map λ(i,x)=>(i,a.eval x))).run c.P w=.ok (.agg vs) w/\vs.size=b.1.length/\owns b.1=b.2.2.length/\
   ∀(j:Nat) (ck:CK×E),b.1[j]?=some ck->BRel c B s a w h b.1 b.2.2 b.2.1 j ck (vs.getD j undef):=by
 unfold Ug at hb;split at hb
 ·rename_i hcond;simp only[ZgM,ZgT,Zh1]at hcond;obtain⟨hnd,hlt⟩:=hcond;have hnd:=Te hnd;obtain⟨i,z,hi,hz0,hsz,hcells⟩:=WB hz
  obtain⟨place,hplace,hbuilt0⟩:∃place:Nat->Option (Nat×Nat),(∀(q:Nat) (f:Nat×Nat×Bool×Bool),fs[q]?=some f->place q=some (f.1,f.2.1))/\
    ∀(ps:List (Nat×Value)) (R:Array Value),Instr.fill place z.cells ps=some R->c.P.built T ps=some R:=by
   unfold Z2m at hT;split at hT
   ·rename_i fs' htd;cases hT;obtain⟨fds,hu,hok,rfl⟩:=ZdK htd
    have hpl:fds.toList.mapM (λf=>(c.P.info? f.type).map λi=>(f.offset,i.size))=some (fds.toList.map λf=>(f.offset,c.P.cellsOf f.type)):=by
     apply Z5O;intro f hf;obtain⟨d,i,hd,hi,hs,_⟩:=WP (hok f (Array.mem_toList_iff.1 hf));simp[hi,hs]
    refine⟨λx=>(fds.toList.map λf=>(f.offset,c.P.cellsOf f.type)).toArray[x]?,λq f hq=> ?_,λps R hR=> ?_⟩
    ·simp only[Zh2,ZgK]at hq;obtain⟨f',hf',rfl⟩:=hq;simp[hf']
    ·simp only[Program.built,hi,hu,hz0,hpl];exact hR
   ·rename_i n el htd;split at hT
    ·rename_i hok;cases hT;have hu:=ZaT htd;obtain⟨d,i',hd,hi',hs,_⟩:=WP hok;refine⟨λx=>some (x*c.P.cellsOf el,c.P.cellsOf el),λq f hq=> ?_,λps R hR=> ?_⟩
     ·obtain⟨_,rfl⟩:=TM hq;rfl
     ·simp only[Program.built,hi,hu,hz0,hi',<-hs];exact hR
    ·cases hT
   ·cases hT
  obtain⟨h1,h2,h3,h4,h5⟩:=Tv hr hC hcells hsz b.2.1 _ 0 0 b hb hev (λt ht=>ht);simp only[Zhy]at h1 h4 h5
  have hmem:∀p∈parts.toList,∃f,fs[p.1]?=some f/\(a.eval p.2).cells.size=f.2.1:=by
   intro p hp;have hl:=hlt p hp;refine⟨_,ZgJ hl,h4 p.1 _ p (ZgJ hl) (TH hnd hp)⟩
  obtain⟨R,hR,hRs,hRout,hRin⟩:=J1 place (parts.toList.map λp=>(p.1,a.eval p.2)) z.cells (by
   intro p hp;obtain⟨p',hp',rfl⟩:=ZgX.1 hp;obtain⟨f,hf,hsf⟩:=hmem p' hp';refine⟨f.1,by rw[hplace _ f hf,hsf],?_⟩;simp only;rw[hsf,hsz];exact(h3 _ f hf).2.1)
  have hbuilt:c.P.built T (parts.map λ(i,x)=>(i,a.eval x)).toList=some R:=hbuilt0 _ _ (by simpa only[ZhP]using hR);refine⟨R,run_build w T _ R hbuilt,by rw[hRs,hsz];omega,h2,λj ck hj=>h5 R (λq f hq j' hj'=> ?_) j ck hj⟩
  have hdisj:∀(q':Nat) (f':Nat×Nat×Bool×Bool),fs[q']?=some f'->q'≠q->f.1+f.2.1<=f'.1\/f'.1+f'.2.1<=f.1:=by
   intro q' f' hq' hne;rcases Zk5 hne with hl|hl
   ·exact .inr ((h3 q' f' hq').2.2 q f hq hl)
   ·exact .inl ((h3 q f hq).2.2 q' f' hq' hl)
  cases hfind:parts.toList.find? (λp=>p.1==q)with
  |some p=>
   have hpm:=Zjf hfind;have hpq:p.1=q:=by simpa using ZjP hfind
   obtain⟨pre,suf,hps⟩:=List.append_of_mem hpm;obtain⟨f',hf',hsf⟩:=hmem p hpm;rw[hpq,hq]at hf';cases hf'
   have hin:=hRin (pre.map λp=>(p.1,a.eval p.2)) (p.1,a.eval p.2) (suf.map λp=>(p.1,a.eval p.2)) (by rw[hps];simp) f.1 (by rw[hpq,hplace q f hq,hsf]) (by
    intro q' hq' o n ho;obtain⟨p',hp',rfl⟩:=ZgX.1 hq';obtain⟨f'',hf'',_⟩:=hmem p' (by rw[hps];simp[hp']);simp only at ho;rw[hplace _ f'' hf'']at ho;simp only[ZgH,ZgR]at ho;obtain⟨rfl,rfl⟩:=ho;simp only;rw[hsf];refine hdisj p'.1 f'' hf'' λhe=> ?_;rw[hps]at hnd;simp only[ZhU,Zha,Zjv,Ziz]at hnd;exact hnd.2.1.1 (by rw[hpq,<-he];exact ZgX.2 ⟨p',hp',rfl⟩)) j' (by simp only;rw[hsf];exact hj')
   simp only[ZgN];rw[hin]
  |none=>
   have hout:=hRout (f.1+j') (by
    intro p hp off n ho;obtain⟨p',hp',rfl⟩:=ZgX.1 hp;obtain⟨f'',hf'',_⟩:=hmem p' hp';simp only at ho;rw[hplace _ f'' hf'']at ho;simp only[ZgH,ZgR]at ho;obtain⟨rfl,rfl⟩:=ho
    have hne:p'.1≠q:=λhe=>by
     have:=List.find?_eq_none.1 hfind p' hp';simp[he]at this
    have:=hdisj p'.1 f'' hf'' hne;omega)
   simp only[ZgN];rw[hout]
 ·simp at hb
end
end Vm
end
