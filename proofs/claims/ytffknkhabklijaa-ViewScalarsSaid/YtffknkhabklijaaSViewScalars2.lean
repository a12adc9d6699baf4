import Derived.Conc.Beside
import Derived.Conc.CompanyDraw
import Derived.WalkKit
import Derived.Test.YtffknkhabklijaaSViewScalars1
set_option linter.unusedSimpArgs false
set_option linter.unusedVariables false
set_option linter.defProp false
theorem Z4q{p:Prop}(h:p:=by simp at h):p:=h
theorem Z46{p:Prop}(h:p:=by rw[hsz];exact Nat.lt_of_lt_of_le hi (Nat.mul_le_mul_right _ hle)):p:=h
theorem Z43{p:Prop}(h:p:=by simp at hi):p:=h
theorem Z4o{p:Prop}(h:p:=by simp at hm):p:=h
theorem Z4r{p:Prop}(h:p:=by rfl):p:=h
theorem Z3Z{p:Prop}(h:p:=by have:=(List.getElem?_eq_some_iff.1 hi).1;omega):p:=h
theorem Z44{p:Prop}(h:p:=by simp[E.sure]at h):p:=h
def Z6z:=@Array.size_setIfInBounds
def Z8w:=@Nat.lt_or_ge
def Z4I:=@List.mem_map
def Z5m:=@Bool.not_eq_true'
def Z5g:=@Nat.zero_add
def Z5N:=@List.length_append
def Z5P:=@Nat.succ_mul
def Z57:=@List.getElem?_append_left
def Z4S:=@List.getElem?_append_right
def Z5o:=@List.mem_of_mem_take
def Z5Q:=@List.length_take
def Z52:=@List.take_of_length_le
def Z5a:=@Nat.mul_le_mul_right
def Z67:=@List.drop_of_length_le
def Z4B:=@List.mem_of_getElem?
def Z5j:=@Go.World.cell?_of_block
def Z4D:=@List.all_eq_true
def Z5v:=@Array.eq_empty_of_size_eq_zero
def Z5s:=@List.eq_nil_of_length_eq_zero
def Z4Q:=@Go.cell_of_row
def Z55:=@List.getElem?_take
def Z4t:=@Option.bind_eq_some_iff
def Z4v:=@List.getElem?_eq_some_iff
def Z7m:=@List.any_eq_false
def Z6L:=@Bool.not_eq_true
def Z5i:=@Go.RowKit.Below.refl
def Z7G:=@Go.Operand.const.injEq
def Z5y:=@Option.isSome_iff_exists
def Z5e:=@Go.run_underlying
def Z6q:=@Go.Addr.add_lit
def Z4u:=@List.getElem?_eq_getElem
def Z6Z:=@List.ext_getElem?
def Z4V:=@List.getElem?_of_mem
def Z5d:=@List.getElem?_drop
def Z6M:=@List.length_drop
def Z6I:=@Array.length_toList
def Z5O:=@Array.getElem?_toList
def Z56:=@List.length_map
def Z6s:=@List.getElem?_toArray
def Z61:=@Nat.add_assoc
def Z82:=@List.length_range
def Z64:=@List.mem_of_mem_drop
def Z4P:=@Int.eq_ofNat_of_zero_le
def Z5f:=@Int.toNat_natCast
def Z4J:=@List.getElem_mem
def Z8d:=@Array.getElem?_extract
def Z6j:=@List.length_nil
def Z8e:=@List.drop_eq_nil_of_le
def Z6b:=@Nat.sub_self
def Z5D:=@List.take_length
def Z5U:=@Go.World.grownBy_alloc
def Z5c:=@Go.heap_alloc_new
def Z4M:=@List.getElem?_map
def Z5B:=@List.length_cons
def Z8i:=@Array.getElem?_zipIdx
def Z83:=@Nat.add_right_cancel_iff
def Z6x:=@List.mem_range
def Z5W:=@List.contains_eq_mem
def Z7k:=@decide_eq_false_iff_not
def Z6k:=@List.nodup_cons
def Z4N:=@decide_eq_true_eq
def Z7S:=@Nat.lt_or_gt_of_ne
def Z75:=@List.mem_of_find?_eq_some
def Z7J:=@List.find?_some
def Z5F:=@List.map_append
def Z7n:=@List.nodup_append
section
namespace Vm
open Go Go.Conc Go.ConcN
section
def KnownAll(t:Trace):Prop:=∀(i:Nat) (op:MemOp) (x:Touch),t[i]?=some op->op.act.touch?=some x->x.loc.isMemory=true->Knows t 0 i
theorem KnownAll.app0{t u:Trace}(h:KnownAll t)(hu:∀op∈u,op.g=0):KnownAll (t++u):=λi op x hi hx hm=>by
 obtain⟨_,hi'⟩|⟨_,hiu⟩:=getElem?_append_cases hi
 ·exact(h i op x hi' hx hm).app u
 grind [knows_own]
theorem yp{n c:Nat}{OA OB KB:Nat->Prop}{sz:Nat}{t:Trace}(h:TI n OA OB KB sz t)(hc:ClosedAt t n c){y:MemOp}(hg:y.g=0)(ha:y.act=.recvClosed c):KnownAll (t++ #[y]):=by
 intro i op x hi hx hm;obtain⟨hlt,hi'⟩|⟨_,hiu⟩:=getElem?_append_cases hi
 ·obtain h1|⟨h1,_⟩:=h.j1 i op x hi' hx hm
  ·exact h1.app _
  ·obtain⟨pc,opc,h2,h3,h4,h5,h6⟩:=hc;have hpl:=lt_size_of_getElem? h2;have hle:=h6 i op hi' h1;have hy:(t++ #[y])[t.size]?=some y:=Z1;have hpc:(t++ #[y])[pc]?=some opc:=by rw[getElem?_append_old hpl];exact h2
   have hedge:HappensBefore (t++ #[y]) pc t.size:=.single (.inr ⟨.closed (c:=c) (by rw[act?_of hpc,h4]) (by rw[act?_of hy,ha]),(heard_old hpl).2 h5,y7 (by rw[hg];exact h.hears 0)⟩)
   have hb:Before (t++ #[y]) i pc:=by
    by_cases he:i=pc
    ·exact .inl he
    ·exact .inr (hb_po Z0 hi hpc (h1.trans h3.symm))
   exact⟨t.size,y,hy,hg,.inr (hb.hb hedge)⟩
 grind [knows_own]
theorem NO{g:Nat}{fn:FuncId}{pos:String}{es:Array Event}:∀op∈MemOp.ofEvents g fn pos es,op.g=g:=λop hop=>by
 rw[ofEvents_eq]at hop;grind
section
variable {P:Program}{n c:Nat}{KA KB OA0:Nat->Prop}{w0:World}{StopA:(Nat->Prop)->Goroutine->World->Prop}
def Qa(P:Program)(n c:Nat)(KA KB OA0:Nat->Prop)(w0:World)(StopA:(Nat->Prop)->Goroutine->World->Prop)(gs:Array Goroutine)(w:World)(t:Trace):Prop:=
 ∃a OA OB q,gs[0]?=some a/\gs.size=n+1/\StopA OA a w/\Cfg P n c KA KB OA0 w0 OA OB gs w t q/\Lvs P gs.size gs q/\KnownAll t
structure Ph (P:Program) (n c:Nat) (KA KB OA0:Nat->Prop) (w0:World) (StopA:(Nat->Prop)->Goroutine->World->Prop) (es:List Ev) (OA:Nat->Prop) (a:Goroutine) (wA:World):Prop where
 opn:∀vs z OB b gs w sl t q s r tm,es=vs.map .recv++[.closed z]->Cfg P n c KA KB OA0 w0 OA OB gs w t q->gs.size=n+1->gs[0]?=some a->gs[n]?=some b->Rely KA OA wA w->BSit P c KB vs OB b w->
  w.heap[c]?=some (.chan 0 #[] false s r tm)->Win P (Qa P n c KA KB OA0 w0 StopA) gs w sl t
 sht:∀z OB gs w sl t q s r tm,es=[.closed z]->Cfg P n c KA KB OA0 w0 OA OB gs w t q->Lvs P gs.size gs q->gs.size=n+1->gs[0]?=some a->Rely KA OA wA w->
  w.heap[c]?=some (.chan 0 #[] true s r tm)->ClosedAt t n c->Win P (Qa P n c KA KB OA0 w0 StopA) gs w sl t
 fin:∀OB gs w sl t q,es=[]->Cfg P n c KA KB OA0 w0 OA OB gs w t q->Lvs P gs.size gs q->gs.size=n+1->gs[0]?=some a->Rely KA OA wA w->KnownAll t->Win P (Qa P n c KA KB OA0 w0 StopA) gs w sl t
theorem Oc{Final:Array Goroutine->World->Trace->Prop}{OA OB:Nat->Prop}{gs:Array Goroutine}{a:Goroutine}{w:World}{sl:Option (Nat×Nat)}{t:Trace}{q:Nat->Nat}(hC:Cfg P n c KA KB OA0 w0 OA OB gs w t q)(hl:Lvs P gs.size gs q)(hsz:gs.size=n+1)(h0:gs[0]?=some a)(ha:a.status=.running)
  (H:∀gs' d sl' q',Cfg P n c KA KB OA0 w0 OA OB gs' (w.at d) t q'->Lvs P gs'.size gs' q'->gs'.size=n+1->gs'[0]?=some a->∃gs1 w1 sl1 ops,runT P (crowd gs' (w.at d) sl') 0=(.next (crowd gs1 w1 sl1),ops)/\Win P Final gs1 w1 sl1 (t++ops)):Win P Final gs w sl t:=by
 have hnone:∀(gs':Array Goroutine) g,gs'[gs'.size]? ≠some g:=λgs' g e=>by
  simp_all
 refine skip hl (λi g hi hg=> ?_) ⟨0,a,.inl rfl,h0,ha⟩ λgs' d sl' q' i g hsz' hsame hl' hi hgi hrun=> ?_
 ·obtain rfl|rfl:=hi
  ·simp_all[awake_of,woken_run]
  simp_all
 ·obtain rfl|rfl:=hi
  ·have hl2:Lvs P gs'.size gs' q':=by rw[hsz'];exact hl'
   have hl3:Lvs P n gs' q':=λj x h1 h2 h3=>hl2 j x h1 Z3L h3;exact H gs' d sl' q' (hC.at d hl3) hl2 Z0 Z3M
  simp_all
theorem Z2n{es:List Ev}{OA:Nat->Prop}{a:Goroutine}{wA:World}(h:Play P true c KA StopA es OA a wA):Ph P n c KA KB OA0 w0 StopA es OA a wA:=by
 induction h with
 | @stop OA g wA h=>
   refine⟨λvs z _ _ _ _ _ _ _ _ _ _ he=> ?_,λz _ _ _ _ _ _ _ _ _ he=> ?_,λOB gs w sl t q _ hC hl hsz h0 hr hk=> ?_⟩
   ·simp_all
   ·cases he
   ·exact Win.now ⟨g,OA,OB,q,h0,hsz,h w hr,hC,hl,hk⟩
 | @ev e es OA fr cs wA hat hk ih=>
   have SH:∀a2:Goroutine,a2.frame=fr->a2.callers=cs->a2.dying=none->a2.status=.running->∀z,e=.closed z->es=[]->∀OB gs w sl t q s r tm,Cfg P n c KA KB OA0 w0 OA OB gs w t q->Lvs P gs.size gs q->gs.size=n+1->gs[0]?=some a2->Rely KA OA wA w->
     w.heap[c]?=some (.chan 0 #[] true s r tm)->ClosedAt t n c->Win P (Qa P n c KA KB OA0 w0 StopA) gs w sl t:=by
    intro a2 e1 e2 e3 e4 z he hes OB gs w sl t q s r tm hC hl hsz h0 hr hch hcl;subst he;refine Oc hC hl hsz h0 e4 λgs' d sl' q' hC' hl' hsz' h0'=> ?_
    have hst:stepG P true a2 (w.at d)=.comm (G fr cs) #[rcase c z] true (.recv true) (w.at d) #[]:=by
     rw[stepG_same (h:=G fr cs) e1 e2 e3];exact Qr hat _
    obtain⟨op,hg,ha,hrun⟩:=LH (sl:=sl') hl' h0' hst hch (λx _ hx=>Z3M);refine⟨_,_,_,_,hrun,?_⟩
    have hl1:Lvs P (gs'.setIfInBounds 0 (G (aft (.closed z) fr) cs)).size (gs'.setIfInBounds 0 (G (aft (.closed z) fr) cs)) q':=by
     rw[Z6z];exact Va hl' 0 (.inl rfl) _
    exact(ih (w.at d) (hr.trans (Rely.at _ _ _ d))).fin OB _ _ _ _ q' hes (hC'.same (Va hC'.lv 0 (.inl rfl) _) _ (λx hx=>by simp_all[MemAct.touch?])) hl1 Z3M (Xz h0') (.refl _ _ _)
     (yp hC'.ti hcl hg ha)
   refine⟨?_,λz OB gs w sl t q s r tm he hC hl hsz h0 hr hch hcl=> ?_,λ_ _ _ _ _ _ he=>by cases he⟩
   ·intro vs z OB b gs w sl t q s r tm he hC hsz h0 hn hr hB hch;have hn0:n≠0:=by have:=hC.n0;omega
    obtain⟨zz,hcm⟩:∃zz,∀w,stepG P true (G fr cs) w=.comm (G fr cs) #[rcase c zz] true (.recv true) w #[]:=by
     cases vs with
     |nil=>injection he with h1 h2;subst h1;exact⟨z,Qr hat⟩
     |cons v vs=>injection he with h1 h2;subst h1;exact FR hat
    have meet:∀v vs' z,e::es=(v::vs').map .recv++[.closed z]->e=.recv v/\es=vs'.map .recv++[.closed z]:=λv vs' z h=>Z3L
    have MB:∀v vs' OB frb csb zb gs w sl t q s r tm,e::es=(v::vs').map .recv++[.closed z]->Cfg P n c KA KB OA0 w0 OA OB gs w t q->gs.size=n+1->gs[0]?=some (G fr cs)->gs[n]?=some (parked (G frb csb) #[scase c v zb] .send)->Rely KA OA wA w->
      Play P false c KB (XN P c) (vs'.map .send) OB (G (aft (.send v) frb) csb) w->w.heap[c]?=some (.chan 0 #[] false s r tm)->Win P (Qa P n c KA KB OA0 w0 StopA) gs w sl t:=by
     intro v vs' OB frb csb zb gs w sl t q s r tm he hC hsz h0 hn hr hpl hch;refine skip hC.lv (λi g hi hg=> ?_) ⟨0,_,.inl rfl,h0,rfl⟩ λgs' d sl' q' i g hsz' hsame hl' hi hgi hrun=> ?_
     ·by_cases h:i=0
      ·subst h;rw[h0]at hg;cases hg;exact⟨awake_of (.inl rfl),λg1 g2 d=>woken_run rfl⟩
      ·obtain rfl:=hi.resolve_left h;rw[hn]at hg;cases hg;exact⟨awake_of (.inr (.inl rfl)),λg1 g2 d=>woken_send_open g1 g2 (w:=w.at d) hch⟩
     ·have h0':gs'[0]?=some (G fr cs):=Z3M;have hn':gs'[n]?=some (parked (G frb csb) #[scase c v zb] .send):=by rw[hsame n (.inr rfl)];exact hn
      by_cases h:i=0
      ·subst h;obtain⟨u,hu,hrunT⟩:=yD (sl:=sl') hn0 hl' h0' (hcm (w.at d)) hch hn';refine⟨_,_,_,_,hrunT,?_⟩;obtain⟨he1,he2⟩:=meet v vs' z he;subst he1
       refine(ih (w.at d) (hr.trans (Rely.at _ _ _ d))).opn vs' z OB _ _ _ _ _ q' (s+1) (r+1) tm he2 ((hC.at d hl').chan _ (Va (Va hl' n (.inr rfl) _) 0 (.inl rfl) _) u hu) Z3L (Xz (y:=G fr cs) Z3L) Z3L
        (Vz _ _ _ hC.ca hC.cka) (.run (hpl.rely ((Rely.at _ _ _ d).trans (Vz _ _ _ hC.cb hC.ckb)))) (Lm (Z4z.1 hch).1)
      ·obtain rfl:=hi.resolve_left h;rw[hn']at hgi;cases hgi;cases hrun
    have PK:=inner (P:=P) (n:=n) (c:=c) (KA:=KA) (KB:=KB) (OA0:=OA0) (w0:=w0) (Final:=Qa P n c KA KB OA0 w0 StopA) (OA:=OA) (a:=parked (G fr cs) #[rcase c zz] (.recv true)) (R:=λvs=>e::es=vs.map .recv++[.closed z]) (Ra:=λw=>Rely KA OA wA w)
     (λw w' h k=>k.trans h) ⟨awake_of (.inr (.inl rfl)),λw s r tm g1 g2 hc=>woken_recv_open g1 g2 hc⟩ (λh=>Z3V)
     (λOB b b2 gs w sl t q s r tm hC hl hsz hwk hs1 hs2 h0 hr hch hR hcl=>by
      injection hR with h1 h2;refine SH _ ?_ ?_ ?_ ?_ z h1 h2 OB gs w sl t q s r tm hC hl hsz h0 hr hch hcl
      all_goals
       have hw:woken P b b2 w (parked (G fr cs) #[rcase c zz] (.recv true))= {parked (G fr cs) #[rcase c zz] (.recv true)with status:=.running}:=by
        unfold woken;rw[if_pos (by simp[hwk,hs1,hs2])];exact again_recv_closed hch
       first|(rw[hw];done)|(rw[hw];rfl))
     (λv vs' OB frb csb gs w sl t q s r tm hC hsz h0 hn hr hch hR hatb hpl=>by
      obtain⟨zb,hsend⟩:=Jr (main:=false) (cs:=csb) hatb;obtain⟨u,hu,hrunT⟩:=yF (sl:=sl) hn0 hC.lv hn (hsend w) hch h0;refine⟨_,_,_,_,hrunT,?_⟩;obtain⟨he1,he2⟩:=meet v vs' z hR;subst he1
      exact(ih w hr).opn vs' z OB _ _ _ _ _ q (s+1) (r+1) tm he2 (hC.chan _ (Va (Va hC.lv 0 (.inl rfl) _) n (.inr rfl) _) u hu) (by simp[hsz]) Z3L (Xz (y:=G frb csb) Z3L)
       (Vz _ _ _ hC.ca hC.cka) (.run (hpl _ (Vz _ _ _ hC.cb hC.ckb))) (Lm (Z4z.1 hch).1))
    have RN:=inner (P:=P) (n:=n) (c:=c) (KA:=KA) (KB:=KB) (OA0:=OA0) (w0:=w0) (Final:=Qa P n c KA KB OA0 w0 StopA) (OA:=OA) (a:=G fr cs) (R:=λvs=>e::es=vs.map .recv++[.closed z]) (Ra:=λw=>Rely KA OA wA w)
     (λw w' h k=>k.trans h) ⟨awake_of (.inl rfl),λw s r tm g1 g2 hc=>woken_run rfl⟩
     (λ_ vs' OB b gs w sl t q s r tm hC hsz h0 hn hr hch hR hpl=>by
      have hbr:=hpl.running XO;have hrunT:=yE (sl:=sl) hC.lv h0 (hcm w) hch (λx _ hx=>Z3L);refine⟨_,_,_,_,hrunT,?_⟩;rw[Z5k];have:=hC.same (Va hC.lv 0 (.inl rfl) (parked (G fr cs) #[rcase c zz] (.recv true))) #[] Z1;rw[Z5k]at this;exact PK vs' OB b w hpl _ _ _ _ q s r tm this Z3L (Xz h0) Z3L hr (.refl _ _ _) hch hR)
     (λOB b b2 gs w sl t q s r tm hC hl hsz hwk hs1 hs2 h0 hr hch hR hcl=>by
      injection hR with h1 h2;rw[woken_run (b:=G fr cs) rfl]at h0;exact SH _ rfl rfl rfl rfl z h1 h2 OB gs w sl t q s r tm hC hl hsz h0 hr hch hcl)
     (λv vs' OB frb csb gs w sl t q s r tm hC hsz h0 hn hr hch hR hatb hpl=>by
      obtain⟨zb,hsend⟩:=Jr (main:=false) (cs:=csb) hatb;have hrunT:=Rb (sl:=sl) hn0 hC.lv hn (hsend w) hch (λx hx=>by grind [G]);refine⟨_,_,_,_,hrunT,?_⟩;rw[Z5k];have:=hC.same (Va hC.lv n (.inr rfl) (parked (G frb csb) #[scase c v zb] .send)) #[] Z1;rw[Z5k]at this;exact MB v vs' OB frb csb zb _ w sl t q s r tm hR this Z3L Z3L (Xz hn) hr (hpl w (.refl _ _ _)) hch)
    cases hB with
    |run hpl=>exact RN vs OB b w hpl gs w sl t q s r tm hC hsz h0 hn hr (.refl _ _ _) hch he
    | @park v vs' O frb csb zb w hpl=>grind
   ·injection he with h1 h2;exact SH _ rfl rfl rfl rfl z h1 h2 OB gs w sl t q s r tm hC hl hsz h0 hr hch hcl
 | @step es OA fr cs wA h1 h2 ih=>
   have own:∀OB gs w sl t q,Cfg P n c KA KB OA0 w0 OA OB gs w t q->gs[0]?=some (G fr cs)->Rely KA OA wA w->∃g' w' es',Guar KA OA w w' es'/\Ph P n c KA KB OA0 w0 StopA es (grow OA w w') g' w'/\
     runT P (crowd gs w sl) 0=(.next (crowd ((gs.map (woken P (G fr cs) g' w')).setIfInBounds 0 g') w' sl),MemOp.ofEvents 0 (G fr cs).frame.fn (G fr cs).frame.place es'):=λOB gs w sl t q hC h0 hr=>by
    grind [runT_crowd_go]
   have SH:∀z OB gs w sl t q s r tm,es=[.closed z]->Cfg P n c KA KB OA0 w0 OA OB gs w t q->Lvs P gs.size gs q->gs.size=n+1->gs[0]?=some (G fr cs)->Rely KA OA wA w->w.heap[c]?=some (.chan 0 #[] true s r tm)->ClosedAt t n c->Win P (Qa P n c KA KB OA0 w0 StopA) gs w sl t:=by
    intro z OB gs w sl t q s r tm he hC hl hsz h0 hr hch hcl;refine Oc hC hl hsz h0 rfl λgs' d sl' q' hC' hl' hsz' h0'=> ?_;obtain⟨g',w',es',hg,hph,hrunT⟩:=own OB gs' (w.at d) sl' t q' hC' h0' (hr.trans (Rely.at _ _ _ d));refine⟨_,_,_,_,hrunT,?_⟩;have hn0:n≠0:=by have:=hC.n0;omega
    refine hph.sht z OB _ w' _ _ q' s r tm he (hC'.mainGo hg (R9 hC'.lv 0 (.inl rfl) _ _ _ _) _ _) ?_ Z3M (Xz (by rw[Z50,h0'];rfl)) (.refl _ _ _) ?_ (hcl.app _ λop hop=>by rw[NO op hop];omega)
    ·rw[Z6z,Z7p];exact R9 hl' 0 (.inl rfl) _ _ _ _
    ·rw[hg.keep c (Z4z.1 hch).1 hC.ca];exact hch
   refine⟨?_,SH,λOB gs w sl t q he hC hl hsz h0 hr hk=> ?_⟩
   ·intro vs z OB b gs w sl t q s r tm he hC hsz h0 hn hr hB hch;have hn0:n≠0:=by have:=hC.n0;omega
    have move:∀vs OB b gs w sl t q s r tm,es=vs.map .recv++[.closed z]->Cfg P n c KA KB OA0 w0 OA OB gs w t q->gs.size=n+1->gs[0]?=some (G fr cs)->gs[n]?=some b->(∀g1 g2 w',w'.heap[c]?=some (.chan 0 #[] false s r tm)->woken P g1 g2 w' b=b)->Rely KA OA wA w->BSit P c KB vs OB b w->
      w.heap[c]?=some (.chan 0 #[] false s r tm)->∃gs1 w1 sl1 ops,runT P (crowd gs w sl) 0=(.next (crowd gs1 w1 sl1),ops)/\Win P (Qa P n c KA KB OA0 w0 StopA) gs1 w1 sl1 (t++ops):=by
     intro vs OB b gs w sl t q s r tm he hC hsz h0 hn hbw hr hB hch;obtain⟨g',w',es',hg,hph,hrunT⟩:=own OB gs w sl t q hC h0 hr;refine⟨_,_,_,_,hrunT,?_⟩
     have hch':w'.heap[c]?=some (.chan 0 #[] false s r tm):=by
      rw[hg.keep c (Z4z.1 hch).1 hC.ca];exact hch
     refine hph.opn vs z OB b _ w' _ _ q s r tm he (hC.mainGo hg (R9 hC.lv 0 (.inl rfl) _ _ _ _) _ _) Z3L (Xz (by rw[Z50,h0];rfl)) ?_ (.refl _ _ _) (hB.rely (hC.relyB hg)) hch';rw[Ge (Z6K hn0),Z50,hn];simp only[Z4K];rw[hbw _ _ w' hch']
    have MB:∀v vs' OB frb csb zb gs w sl t q s r tm,es=(v::vs').map .recv++[.closed z]->Cfg P n c KA KB OA0 w0 OA OB gs w t q->gs.size=n+1->gs[0]?=some (G fr cs)->gs[n]?=some (parked (G frb csb) #[scase c v zb] .send)->Rely KA OA wA w->
      Play P false c KB (XN P c) (vs'.map .send) OB (G (aft (.send v) frb) csb) w->w.heap[c]?=some (.chan 0 #[] false s r tm)->Win P (Qa P n c KA KB OA0 w0 StopA) gs w sl t:=by
     intro v vs' OB frb csb zb gs w sl t q s r tm he hC hsz h0 hn hr hpl hch;refine skip hC.lv (λi g hi hg=> ?_) ⟨0,_,.inl rfl,h0,rfl⟩ λgs' d sl' q' i g hsz' hsame hl' hi hgi hrun=> ?_
     ·by_cases h:i=0
      ·subst h;rw[h0]at hg;cases hg;exact⟨awake_of (.inl rfl),λg1 g2 d=>woken_run rfl⟩
      ·obtain rfl:=hi.resolve_left h;rw[hn]at hg;cases hg;exact⟨awake_of (.inr (.inl rfl)),λg1 g2 d=>woken_send_open g1 g2 (w:=w.at d) hch⟩
     ·have h0':gs'[0]?=some (G fr cs):=Z3M;have hn':gs'[n]?=some (parked (G frb csb) #[scase c v zb] .send):=by rw[hsame n (.inr rfl)];exact hn
      by_cases h:i=0
      ·subst h;exact move (v::vs') OB _ gs' (w.at d) sl' t q' s r tm he (hC.at d hl') Z0 h0' hn' (λg1 g2 w' hc'=>woken_send_open g1 g2 hc') (hr.trans (Rely.at _ _ _ d)) (.park (hpl.rely (Rely.at _ _ _ d))) hch
      ·obtain rfl:=hi.resolve_left h;rw[hn']at hgi;cases hgi;cases hrun
    have RN:=inner (P:=P) (n:=n) (c:=c) (KA:=KA) (KB:=KB) (OA0:=OA0) (w0:=w0) (Final:=Qa P n c KA KB OA0 w0 StopA) (OA:=OA) (a:=G fr cs) (R:=λvs=>es=vs.map .recv++[.closed z]) (Ra:=λw=>Rely KA OA wA w)
     (λw w' h k=>k.trans h) ⟨awake_of (.inl rfl),λw s r tm g1 g2 hc=>woken_run rfl⟩
     (λ_ vs' OB b gs w sl t q s r tm hC hsz h0 hn hr hch hR hpl=>move vs' OB b gs w sl t q s r tm hR hC hsz h0 hn (λg1 g2 w' _=>woken_run (hpl.running XO)) hr (.run hpl) hch)
     (λOB b b2 gs w sl t q s r tm hC hl hsz hwk hs1 hs2 h0 hr hch hR hcl=>by
      rw[woken_run (b:=G fr cs) rfl]at h0
      grind)
     (λv vs' OB frb csb gs w sl t q s r tm hC hsz h0 hn hr hch hR hatb hpl=>by
      obtain⟨zb,hsend⟩:=Jr (main:=false) (cs:=csb) hatb;have hrunT:=Rb (sl:=sl) hn0 hC.lv hn (hsend w) hch (λx hx=>by grind [G]);refine⟨_,_,_,_,hrunT,?_⟩;rw[Z5k];have:=hC.same (Va hC.lv n (.inr rfl) (parked (G frb csb) #[scase c v zb] .send)) #[] Z1;rw[Z5k]at this;exact MB v vs' OB frb csb zb _ w sl t q s r tm hR this Z3L Z3L (Xz hn) hr (hpl w (.refl _ _ _)) hch)
    cases hB with
    |run hpl=>exact RN vs OB b w hpl gs w sl t q s r tm hC hsz h0 hn hr (.refl _ _ _) hch he
    | @park v vs' O frb csb zb w hpl=>grind
   ·refine Oc hC hl hsz h0 rfl λgs' d sl' q' hC' hl' hsz' h0'=> ?_;obtain⟨g',w',es',hg,hph,hrunT⟩:=own OB gs' (w.at d) sl' t q' hC' h0' (hr.trans (Rely.at _ _ _ d));refine⟨_,_,_,_,hrunT,?_⟩;refine hph.fin OB _ w' _ _ q' he (hC'.mainGo hg (R9 hC'.lv 0 (.inl rfl) _ _ _ _) _ _) ?_ Z3M (Xz (by rw[Z50,h0'];rfl)) (.refl _ _ _) (hk.app0 NO);rw[Z6z,Z7p];exact R9 hl' 0 (.inl rfl) _ _ _ _
end
end
end Vm
end
section
namespace Vm
open Go Go.Conc
class inductive Calm {α:Type}:Sem α->Prop where
 |pure (a:α):Calm (.pure a)
 |halt (h:Halt):Calm (.halt h)
 |load {m:Mode} {a:Addr} {k:Value->Sem α}:(∀v,Calm (k v))->Calm (.load m a k)
 |store {m:Mode} {a:Addr} {v:Value} {k:Sem α}:Calm k->Calm (.store m a v k)
 |new {o:Obj} {k:Nat->Sem α}:(∀r,Calm (k r))->Calm (.new o k)
 |shape {r:Nat} {k:Option (TypeId×Nat)->Sem α}:(∀x,Calm (k x))->Calm (.shape r k)
 |freeze {a:Addr} {n:Nat} {k:Sem α}:Calm k->Calm (.freeze a n k)
 |frozen {a:Addr} {k:Bool->Sem α}:(∀x,Calm (k x))->Calm (.frozen a k)
 |getObj {r:Nat} {k:Obj->Sem α}:(∀o,Calm (k o))->Calm (.getObj r k)
 |setObj {r:Nat} {o:Obj} {k:Sem α}:Calm k->Calm (.setObj r o k)
 |choose {q:Question} {k:Nat->Sem α}:(∀n,Calm (k n))->Calm (.choose q k)
 |sys {c:Sys} {k:SysRet->Sem α}:(∀r,Calm (k r))->Calm (.sys c k)
 |prog {k:Program->Sem α}:(∀p,Calm (k p))->Calm (.program k)
 |room {k:Sem α}:Calm k->Calm (.mark .noRoom k)
theorem Calm.bind{α β:Type}{s:Sem α}{f:α->Sem β}(h:Calm s)(hf:∀a,Calm (f a)):Calm (s>>=f):=by
 show Calm (s.bind f)
 induction h with
 |pure a=>exact hf a
 |halt h=>exact .halt h
 |load _ ih=>exact .load ih
 |store _ ih=>exact .store ih
 |new _ ih=>exact .new ih
 |shape _ ih=>exact .shape ih
 |freeze _ ih=>exact .freeze ih
 |frozen _ ih=>exact .frozen ih
 |getObj _ ih=>exact .getObj ih
 |setObj _ ih=>exact .setObj ih
 |choose _ ih=>exact .choose ih
 |sys _ ih=>exact .sys ih
 |prog _ ih=>exact .prog ih
 |room _ ih=>exact .room ih
theorem Calm.map{α β:Type}{s:Sem α}{f:α->β}(h:Calm s):Calm (f<$>s):=by
 rw[Z78];exact h.bind λa=>.pure _
theorem zG{α β:Type}{f:α->Sem β}(hf:∀a,Calm (f a)):∀l:List α,Calm (l.mapM f)
 | []=>by simp only[Z7z];exact .pure _
 |a::l=>by
  simp only[Z6N];exact(hf a).bind λb=>(zG hf l).bind λbs=>.pure _
theorem Qn{α β:Type}{f:α->β->Sem (ForInStep β)}(hf:∀a b,Calm (f a b)):∀(l:List α) (b:β),Calm (forIn l b f)
 | [],b=>by simp only[List.forIn_nil];exact .pure _
 |a::l,b=>by
  rw[List.forIn_cons];refine(hf a b).bind λx=> ?_;cases x with
  |done b=>exact .pure _
  |yield b=>exact Qn hf l b
theorem DO{α β:Type}{f:α->β->Sem (ForInStep β)}(hf:∀a b,Calm (f a b))(l:Array α)(b:β):Calm (forIn l b f):=by
 rw[<-Array.forIn_toList];exact Qn hf _ _
theorem DP{β:Type}{f:Nat->β->Sem (ForInStep β)}(hf:∀a b,Calm (f a b))(r:Std.Legacy.Range)(b:β):Calm (forIn r b f):=by
 rw[Std.Legacy.Range.forIn_eq_forIn_range'];exact Qn hf _ _
theorem zE{α β:Type}{f:α->Sem β}(hf:∀a,Calm (f a))(l:Array α):Calm (l.mapM f):=by
 rw[Z5Y];exact(zG hf _).map
theorem Kg{α β:Type}{f:β->α->Sem β}(hf:∀b a,Calm (f b a)):∀(l:List α) (b:β),Calm (l.foldlM f b)
 | [],b=>.pure _
 |a::l,b=>by
  rw[Z8a];exact(hf b a).bind λb=>Kg hf l b
theorem H6{α:Type}{c:Prop} [Decidable c]{a b:Sem α}(h:Calm a)(k:Calm b):Calm (if c then a else b):=by
 split
 ·exact h
 ·exact k
theorem Zl{α:Type}{s:Sem α}(h:Calm s:=by repeat' first|infer_instance|(with_reducible refine .bind ?_ λ_=> ?_)|(intro _)|(with_reducible refine zE (λ_=> ?_) _)|(with_reducible refine DO (λ_ _=> ?_) _ _)|(with_reducible refine DP (λ_ _=> ?_) _ _)|(with_reducible refine Calm.map ?_)|(with_reducible refine H6 ?_ ?_)|split|dsimp only):Calm s:=h
instance calm_pure {α:Type} (a:α):Calm (pure a:Sem α):=.pure a
instance calm_load (a:Addr) (m:Mode):Calm (load a m):=.load λv=>.pure v
instance calm_store (a:Addr) (v:Value) (m:Mode):Calm (store a v m):=.store (.pure ())
instance calm_new (o:Obj):Calm (newObj o):=.new λr=>.pure r
instance calm_shape (r:Nat):Calm (shape r):=.shape λr=>.pure r
instance calm_freeze (a:Addr) (n:Nat):Calm (freeze a n):=.freeze (.pure ())
instance calm_frozen (a:Addr):Calm (frozen a):=.frozen λr=>.pure r
instance calm_get (r:Nat):Calm (getObj r):=.getObj λo=>.pure o
instance calm_set (r:Nat) (o:Obj):Calm (setObj r o):=.setObj (.pure ())
instance calm_choose (q:Question):Calm (choose q):=.choose λn=>.pure n
instance calm_sys (c:Sys):Calm (sys c):=.sys λr=>.pure r
instance calm_prog:Calm program:=.prog λp=>.pure p
instance calm_room:Calm (mark .noRoom):=.room (.pure ())
instance calm_stuck {α:Type} (s:String):Calm (stuck s:Sem α):=.halt _
instance calm_unsup {α:Type} (u:Unsupported):Calm (unsupported u:Sem α):=.halt _
instance calm_panic {α:Type} (v:Value):Calm (goPanic v:Sem α):=.halt _
instance calm_askRoom (n):Calm (askRoom n):=by
 unfold askRoom;exact Zl
instance calm_viewAt (r):Calm (viewAt r):=by
 unfold viewAt;exact Zl
instance calm_numberAt (r):Calm (numberAt r):=by
 unfold numberAt;exact Zl
instance calm_noView (a):Calm (noView a):=by
 unfold noView;exact Zl
instance calm_asNumber (a l):Calm (asNumber a l):=by
 unfold asNumber;exact Zl
instance calm_behind (a):Calm (behindNumber a):=by
 unfold behindNumber;exact Zl
instance calm_stringish (a):Calm (stringish a):=by
 unfold stringish;exact Zl
instance calm_mayBeOne (a b):Calm (mayBeOne a b):=by
 unfold mayBeOne;exact Zl
instance calm_sameAddr (a b):Calm (sameAddr a b):=by
 unfold sameAddr;exact Zl
instance calm_samePointer (a b):Calm (samePointer a b):=by
 unfold samePointer;exact Zl
instance calm_typeInfo (t):Calm (typeInfo t):=by
 unfold typeInfo;exact Zl
instance calm_underlying (t):Calm (underlying t):=by
 unfold underlying;exact Zl
instance calm_typeStr (t):Calm (typeStr t):=by
 unfold typeStr;exact Zl
instance calm_zeroValue (t):Calm (zeroValue t):=by
 unfold zeroValue;exact Zl
instance calm_sizeOf (t):Calm (Go.sizeOf t):=by
 unfold Go.sizeOf;exact Zl
instance calm_isAgg (t):Calm (isAgg t):=by
 unfold isAgg;exact Zl
instance calm_loadFrom (a:Addr):∀(n i:Nat) (acc:Array Value),Calm (loadCellsFrom a i n acc)
 |0,_,_=>.pure _
 |n+1,i,acc=>(calm_load _ _).bind λv=>calm_loadFrom a n _ _
instance calm_loadCells (a n):Calm (loadCells a n):=by
 unfold loadCells;exact Zl
instance calm_storeCells (a:Addr):∀(vs:List Value) (i:Nat),Calm (storeCells a vs i)
 | [],_=>.pure _
 |v::vs,i=>(calm_store _ _ _).bind λ_=>calm_storeCells a vs _
instance calm_loadVar (t a):Calm (loadVar t a):=by
 unfold loadVar;exact Zl
instance calm_storeVar (t a v):Calm (storeVar t a v):=by
 unfold storeVar;exact Zl
instance calm_newRow (t cs):Calm (newRow t cs):=by
 unfold newRow;exact Zl
instance calm_newVar (t v):Calm (newVar t v):=by
 unfold newVar;exact Zl
instance calm_elemOf (t):Calm (elemOf t):=by
 unfold elemOf;exact Zl
instance calm_part (t cs n):Calm (part t cs n):=by
 unfold part;exact Zl
instance calm_rtPanic {α:Type} (e):Calm (runtimePanic e:Sem α):=by
 unfold runtimePanic;exact Zl
instance calm_bounds {α:Type} (k:IntKind) (x y:Int) (c:BoundsCode):Calm (boundsPanic k x y c:Sem α):=by
 unfold boundsPanic;dsimp only;split
 ·exact .bind (calm_choose _).map λ_=>calm_rtPanic _
 ·exact .bind (.pure _) λ_=>calm_rtPanic _
instance calm_asIntOf (v):Calm (asIntOf v):=by
 unfold asIntOf;exact Zl
instance calm_asInt (v):Calm (asInt v):=by
 unfold asInt;exact Zl
instance calm_asBool (v):Calm (asBool v):=by
 unfold asBool;exact Zl
instance calm_asAgg (v):Calm (asAgg v):=by
 unfold asAgg;exact Zl
instance calm_asAddr (v):Calm (asAddr v):=by
 unfold asAddr;exact Zl
instance calm_sureAddr (v):Calm (Instr.sureAddr v):=by
 unfold Instr.sureAddr;exact Zl
instance calm_byteOf (a):Calm (byteOf a):=by
 unfold byteOf;exact Zl
instance calm_partAt (a c b):Calm (partAt a c b):=by
 unfold partAt;exact Zl
instance calm_fieldPlace (a f):Calm (fieldPlace a f):=by
 unfold fieldPlace;exact Zl
instance calm_alloc (t b v):Calm (Instr.alloc t b v):=by
 unfold Instr.alloc;exact Zl
instance calm_box (t v):Calm (Instr.box t v):=by
 unfold Instr.box;exact Zl
instance calm_loadAt (t v):Calm (Instr.loadAt t v):=by
 unfold Instr.loadAt;exact Zl
instance calm_storeAt (t v x):Calm (Instr.storeAt t v x):=by
 unfold Instr.storeAt;exact Zl
instance calm_extract (v i):Calm (Instr.extract v i):=by
 unfold Instr.extract;exact Zl
instance calm_makeInterface (t v):Calm (Instr.makeInterface t v):=by
 unfold Instr.makeInterface;exact Zl
instance calm_makeFunc (f a b):Calm (Instr.makeFunc f a b):=by
 unfold Instr.makeFunc;exact Zl
instance calm_makeMap (t r):Calm (Instr.makeMap t r):=by
 unfold Instr.makeMap;exact Zl
instance calm_field (t x f):Calm (Instr.field t x f):=by
 unfold Instr.field;exact Zl
instance calm_index (t x i):Calm (Instr.index t x i):=by
 unfold Instr.index;exact Zl
instance calm_sliceBound (x y c):Calm (Instr.sliceBound x y c):=by
 unfold Instr.sliceBound;exact Zl
instance calm_sliceBounds (b n c l h m):Calm (Instr.sliceBounds b n c l h m):=by
 unfold Instr.sliceBounds;exact Zl
instance calm_fieldAt (t x f):Calm (Instr.fieldAt t x f):=by
 unfold Instr.fieldAt;exact Zl
instance calm_indexAt (t x i):Calm (Instr.indexAt t x i):=by
 unfold Instr.indexAt;exact Zl
instance calm_build (t ps):Calm (Instr.build t ps):=by
 unfold Instr.build;exact Zl
instance calm_buildSlice (t n ps):Calm (Instr.buildSlice t n ps):=by
 unfold Instr.buildSlice;exact Zl
instance calm_slice (t x l h m):Calm (Instr.slice t x l h m):=by
 unfold Instr.slice;exact Zl
instance calm_sliceAt (t x l h m):Calm (Instr.sliceAt t x l h m):=by
 unfold Instr.sliceAt;exact Zl
instance calm_makeSlice (t x y):Calm (Instr.makeSlice t x y):=by
 unfold Instr.makeSlice;exact Zl
instance calm_len (ts t aq_):Calm (Builtin.len_ ts t aq_):=by
 unfold Builtin.len_;exact Zl
instance calm_holds (a n):Calm (Builtin.holdsCells a n):=by
 unfold Builtin.holdsCells;exact Zl
instance calm_mayShare (a b n o x):Calm (Builtin.mayShare a b n o x):=by
 unfold Builtin.mayShare;exact Zl
instance calm_lenOf (x):Calm (Builtin.lenOf x):=by
 unfold Builtin.lenOf;exact Zl
instance calm_first (a n x):Calm (Builtin.firstCells a n x):=by
 unfold Builtin.firstCells;exact Zl
instance calm_append (ts t aq_):Calm (Builtin.append_ ts t aq_):=by
 unfold Builtin.append_;exact Zl
instance calm_intArith (op k x y):Calm (Op.intArith op k x y):=by
 unfold Op.intArith;exact Zl
instance calm_intDiv (op k x y):Calm (Op.intDiv op k x y):=by
 unfold Op.intDiv;exact Zl
instance calm_intBits (op k x y):Calm (Op.intBits op k x y):=by
 unfold Op.intBits;exact Zl
instance calm_intCmp (op x y):Calm (Op.intCmp op x y):=by
 unfold Op.intCmp;exact Zl
instance calm_shift (op k k' x y):Calm (Op.shift op k x k' y):=by
 unfold Op.shift;exact Zl
instance calm_fArith (op k x y):Calm (Op.floatArith op k x y):=by
 unfold Op.floatArith;exact Zl
instance calm_fCmp (op k x y):Calm (Op.floatCmp op k x y):=by
 unfold Op.floatCmp;exact Zl
instance calm_strOp (op x y):Calm (Op.stringOp op x y):=by
 unfold Op.stringOp;exact Zl
instance calm_unary (op x):Calm (Op.unary op x):=by
 unfold Op.unary;exact Zl
instance calm_cArith (op k x y):Calm (Op.Complex.arith op k x y):=by
 unfold Op.Complex.arith;exact Zl
instance calm_cCmp (op k x y):Calm (Op.Complex.cmp op k x y):=by
 unfold Op.Complex.cmp;exact Zl
instance calm_f2f (s x d):Calm (Conv.floatToFloat s x d):=by
 unfold Conv.floatToFloat;exact Zl
instance calm_cConv (s x d):Calm (Op.Complex.conv s x d):=by
 unfold Op.Complex.conv;exact Zl
instance calm_cadd (x y:Nat):Calm (Op.Complex.add x y):=calm_cArith ..
instance calm_csub (x y:Nat):Calm (Op.Complex.sub x y):=calm_cArith ..
instance calm_cmul (x y:Nat):Calm (Op.Complex.mul x y):=calm_cArith ..
instance calm_cquo (x y:Nat):Calm (Op.Complex.quo x y):=calm_cArith ..
instance calm_product (a b c d):Calm (Op.Complex.product a b c d):=by
 unfold Op.Complex.product;exact Zl
instance calm_corrected (s a b c d):Calm (Op.Complex.corrected s a b c d):=by
 unfold Op.Complex.corrected;exact Zl
instance calm_quotient (a b c d):Calm (Op.Complex.quotient a b c d):=by
 unfold Op.Complex.quotient;exact Zl
instance calm_complexOp (op k a b c d):Calm (Op.complexOp op k a b c d):=by
 unfold Op.complexOp;exact Zl
instance calm_unsafeAdd2 (ts:Array TypeId) (t:TypeId) (p:Option Addr) (b:Value):Calm (Builtin.unsafeAdd_ ts t #[.pointer p,b]):=by
 unfold Builtin.unsafeAdd_;refine .bind (calm_asInt b) λn=> ?_;dsimp only;exact Zl
instance calm_unsafeAdd (ts:Array TypeId) (t:TypeId) (aq_:Array Value):Calm (Builtin.unsafeAdd_ ts t aq_):=by
 obtain⟨l⟩:=aq_;obtain _|⟨a,_|⟨b,_|⟨c,r⟩⟩⟩:=l
 ·exact calm_stuck _
 ·exact calm_stuck _
 ·cases a<;>first|exact calm_stuck _|exact calm_unsafeAdd2 ..
 ·exact calm_stuck _
instance calm_movedN (t x y):Calm (movedNumber t x y):=by
 unfold movedNumber;exact Zl
instance calm_movedP (t x y):Calm (movedPointer t x y):=by
 unfold movedPointer;exact Zl
instance calm_twoPlaces (a b):Calm (Op.twoPlaces a b):=by
 unfold Op.twoPlaces;exact Zl
instance calm_addrSub (k a b):Calm (Op.addrSub k a b):=by
 unfold Op.addrSub;exact Zl
instance calm_addrCmp (op a b):Calm (Op.addrCmp op a b):=by
 unfold Op.addrCmp;exact Zl
instance calm_addrMod (k a n):Calm (Op.addrMod k a n):=by
 unfold Op.addrMod;exact Zl
instance calm_equalIn:∀(n:Nat) (t:TypeId) (x y:Value),Calm (Op.equalIn n t x y)
 |0,_,_,_=>.halt _
 |n+1,t,x,y=>by
  have ih:=calm_equalIn n;unfold Op.equalIn;exact Zl
instance calm_guardIn:∀(n:Nat) (t:TypeId) (x y:Value),Calm (Op.eqGuardIn n t x y)
 |0,_,_,_=>.halt _
 |n+1,t,x,y=>by
  have ih:=calm_guardIn n;unfold Op.eqGuardIn;exact Zl
instance calm_equal (t x y):Calm (Op.equal t x y):=by
 unfold Op.equal;exact Zl
instance calm_guard (op t x y a b):Calm (eqGuard op t x y a b):=by
 unfold eqGuard;exact Zl
instance calm_binOp (op t x y):Calm (binOp op t x y):=by
 unfold binOp;exact Zl
instance calm_min2 (x y):Calm (Builtin.min2 x y):=by
 unfold Builtin.min2;exact Zl
instance calm_min (ts:Array TypeId) (t:TypeId) (aq_:Array Value):Calm (Builtin.min_ ts t aq_):=by
 unfold Builtin.min_;split
 ·exact .halt _
 ·exact Kg calm_min2 _ _
def EvB(n:Nat)(e:Event):Prop:=EvC (λ_=>False) (λb=>b<n) e
def EvB.mono{n n':Nat}{e:Event}(h:EvB n e)(hn:n<=n'):EvB n' e:=by
 unfold EvB EvC at*;split<;>simp only[*]at h
 ·exact .inl (Z4F (h.resolve_right λx=>x.2) hn)
 ·exact Z4F h hn
 ·exact h
 ·trivial
def EvB.cell{n:Nat}{a:Addr}(h:a.block<n)(w s:Bool):EvB n ⟨.cell a,w,s⟩:=.inl h
def EvB.obj{n r:Nat}(h:r<n)(w s:Bool):EvB n ⟨.obj r,w,s⟩:=h
def Lk{w:World}{a:Addr}{v:Value}(h:w.cell? a=some v):a.block<w.heap.size:=by
 obtain⟨_,c,e,fr,h1,_⟩:=Wz h;exact(Z4z.1 h1).1
def BI{p:Program}{w:World}{at_:Addr}{u:TypeId}{k:Addr}{b:Bool}{r:Array Value×TypeId×(Nat×Nat)×Nat×Value×List (Nat×Nat×List UInt8)}(h:w.seen p at_ u k b=.ok r):at_.block<w.heap.size:=by
 obtain h1|h1:=Z8w at_.block w.heap.size
 ·exact h1
 ·exfalso;have h2:w.heap[at_.block]?=none:=Z6O h1;unfold World.seen at h;simp only[h2,bind,Except.bind]at h
  repeat' split at h
  all_goals cases h
def jh{p:Program}{w:World}{a:Addr}{b:Bool}{v:Value}{l:List Addr}(h:w.farLoad p a b=.ok (v,l)):∀x∈l,x.block<w.heap.size:=by
 unfold World.farLoad at h;split at h
 ·split at h
  ·rename_i at_ u _ r e;cases h;unfold World.viewLoad at e;simp only[bind,Except.bind]at e;split at e
   ·cases e
   ·rename_i r hs;have hl:=BI hs
    repeat' split at e
    all_goals first|(cases e;done)|skip
    all_goals
     cases e;intro x hx;obtain⟨y,_,rfl⟩:=Z4I.1 hx;exact hl
  ·cases h
 ·cases h
def zR{p:Program}{w w':World}{a:Addr}{v:Value}{b:Bool}{l:List Addr}(h:w.farStore p a v b=.ok (w',l)):∀x∈l,x.block<w.heap.size:=by
 unfold World.farStore at h;split at h
 ·split at h
  ·rename_i at_ u _ r e;cases h;unfold World.viewStore at e;simp only[bind,Except.bind]at e;split at e
   ·cases e
   ·split at e
    ·cases e
    ·rename_i r hs;have hl:=BI hs
     repeat' split at e
     all_goals first|(cases e;done)|skip
     all_goals
      cases e;intro x hx;obtain⟨y,_,rfl⟩:=Z4I.1 hx;exact hl
  ·cases h
 ·cases h
def EvsB(n:Nat)(es:Array Event):Prop:=∀e∈es,EvB n e
def EvsB.mono{n n':Nat}{es:Array Event}(h:EvsB n es)(hn:n<=n'):EvsB n' es:=λe he=>(h e he).mono hn
def EvsB.push{n:Nat}{es:Array Event}{e:Event}(h:EvsB n es)(he:EvB n e):EvsB n (es.push e):=λx hx=>by
 obtain hx|rfl:=Z7U.1 hx
 ·exact h x hx
 ·exact he
def EvsB.far{n:Nat}{es:Array Event}(h:EvsB n es){l:List Addr}(hl:∀x∈l,x.block<n)(b s:Bool):EvsB n (es++l.toArray.map (⟨.cell ·,b,s⟩)):=λx hx=>by
 obtain hx|hx:=Z60.1 hx
 ·exact h x hx
 ·obtain⟨a,ha,rfl⟩:=Z7c.1 hx;exact .cell (hl a (by simpa using ha)) _ _
theorem Calm.evs{α:Type}{p:Program}{s:Sem α}(h:Calm s):∀(w:World) (es:Array Event),EvsB w.heap.size es->EvsB (wdR (s.run p w)).heap.size (s.runT p w es).2:=by
 induction h with
 |pure a=>intro w es h;exact h
 |halt x=>intro w es h;exact h
 |load _ ih=>
  intro w es h;unfold Sem.run Sem.runT;split
  ·rename_i e;exact ih _ w _ (h.push (.cell (Lk e) _ _))
  ·split
   ·rename_i e;exact ih _ w _ (h.far (jh e) _ _)
   ·exact h
 | @store m a v k _ ih=>
   intro w es h;cases v<;>simp only[Sem.run,Sem.runT]<;>first|exact h|skip
   all_goals
    split
    ·rename_i e;split
     ·exact h
     ·refine ih _ _ (EvsB.push ?_ (.cell ?_ _ _))
      ·rw[Y9];exact h
      ·rw[Y9];exact Lk e
    ·split
     ·rename_i e;have hs:=(Qt e).1;refine ih _ _ (EvsB.far ?_ ?_ _ _)
      ·rw[hs];exact h
      ·rw[hs];exact zR e
     ·exact h
 |new _ ih=>intro w es h;exact ih _ {w with heap:=w.heap.push _} es (h.mono Z1)
 |shape _ ih=>intro w es h;exact ih _ w es h
 |freeze _ ih=>intro w es h;exact ih (w.freeze _ _) es (by rw[(QD _ _ _).1];exact h)
 |frozen _ ih=>intro w es h;exact ih _ w es h
 |getObj _ ih=>
  intro w es h;unfold Sem.run Sem.runT;split
  ·exact h
  ·rename_i e;exact ih _ w _ (h.push (.obj (Z4z.1 e).1 _ _))
  ·exact h
 | @setObj r o k _ ih=>
   intro w es h;unfold Sem.run Sem.runT;split
   ·exact h
   ·rename_i e;have hs:({w with heap:=w.heap.setIfInBounds r o}:World).heap.size=w.heap.size:=Z1;refine ih _ _ (EvsB.push ?_ (.obj ?_ _ _))
    ·rw[hs];exact h
    ·rw[hs];exact(Z4z.1 e).1
   ·exact h
 |choose _ ih=>
  intro w es h;unfold Sem.run Sem.runT;split
  ·exact ih _ w es h
  ·exact ih _ {w with drawn:=w.drawn+1} es h
 | @sys c k _ ih=>
   intro w es h;have hs:=(Mx w c).1;exact ih _ (w.sys c).2 _ (EvsB.push (by rw[hs];exact h) (show EvB _ _ from True.intro))
 |prog _ ih=>intro w es h;exact ih _ w es h
 |room _ ih=>intro w es h;exact ih w _ (h.push (show EvB _ _ from(rfl:Mark.noRoom=Mark.noRoom)))
def C6(P:Program):Op->Bool
 |.move _|.assign _|.pick _ _ _|.alloc _|.box _ _|.build _ _|.buildSlice _ _ _|.load _ _|.store _ _ _|.binOp _ _ _ _ _|.unOp _ _ _|.makeInterface _ _|.makeFunc _ _ _|.makeMap _ _
 |.makeSlice _ _ _|.slice _ _ _ _ _|.fieldAddr _ _ _|.field _ _ _|.indexAddr _ _ _|.index _ _ _|.extract _ _=>true
 | .call c=>match c.callee with
   |.builtin .append|.builtin .len|.builtin .min=>true
   | .value (.func f)=>match P.funcs[f]? with
     |some fn=> !(fn.name== "runtime.NumGoroutine")&&fn.body.isSome
     |none=>false
   |_=>false
 |_=>false
def JM(P:Program):Code->Bool
 |.region _ ops _=>ops.all λo=>C6 P o.op
 |.seq x y=>JM P x&&JM P y
 |.cond _ x y=>JM P x&&JM P y
 |.block _ x|.loop x|.scope x=>JM P x
 |.skip|.label _|.exit _|.ret=>true
 |_=>false
end Vm
end
section
namespace Vm
open Go Go.Conc Go.ConcN
section
theorem YT{s:Sem Value}(h:Calm s):Calm (do pure (.value (<-s)):Sem Next):=h.bind λ_=>.pure _
theorem P0{s:Sem Unit}(h:Calm s):Calm (do s;pure .skip:Sem Next):=h.bind λ_=>.pure _
theorem XJ{α:Type}{P:Program}{s:Sem α}(h:Calm s)(w:World):EvsB (wdR (s.run P w)).heap.size (s.events P w #[]):=h.evs w #[] λe he=>by simp at he
def B0{P:Program}{o:Oper}(h:C6 P o.op=true)(a:Act)(w:World):EvsB (wdR ((execOp a.eval o).run P w)).heap.size ((execOp a.eval o).events P w #[]):=by
 cases hop:o.op with
 |call c=>
  obtain⟨callee,args,ats⟩:=c;rw[hop]at h;simp only[C6]at h;split at h
  ·refine XJ ?_ w;unfold execOp;simp only[hop,resolve,builtin];exact YT (calm_append ..)
  ·refine XJ ?_ w;unfold execOp;simp only[hop,resolve,builtin];exact YT (calm_len ..)
  ·refine XJ ?_ w;unfold execOp;simp only[hop,resolve,builtin];exact YT (calm_min ..)
  ·rename_i f;split at h
   ·rename_i fn hf;simp only[Z4x,Z5m]at h;rw[events_call_body hop hf h.1 (by cases hb:fn.body<;>simp_all)];exactλe he=>by simp at he
   ·cases h
  ·cases h
 |_=>
  rw[hop]at h
  first
  |cases h;done
  | (refine XJ ?_ w
     unfold execOp;simp only[hop]
     first
     |exact .pure _
     |exact YT (calm_alloc ..)
     |exact YT (calm_box ..)
     |exact YT (calm_build ..)
     |exact YT (calm_buildSlice ..)
     |exact YT (calm_loadAt ..)
     |exact P0 (calm_storeAt ..)
     |exact YT (.bind (calm_guard ..) λ_=>calm_binOp ..)
     |exact YT (calm_unary ..)
     |exact YT (calm_makeInterface ..)
     |exact YT (calm_makeFunc ..)
     |exact YT (calm_makeMap ..)
     |exact YT (calm_makeSlice ..)
     |exact YT (calm_sliceAt ..)
     |exact YT (calm_fieldAt ..)
     |exact YT (calm_field ..)
     |exact YT (calm_indexAt ..)
     |exact YT (calm_index ..)
     |exact YT (calm_extract ..)
     |exact .bind (calm_asBool _) λ_=>.pure _)
structure TBt (sz:Nat) (t:Trace):Prop where
 clean:∀said,¬Race said t
 hears:∀i,Deaf t i=0
 low:∀op∈t,lowE sz op
 known:KnownAll t
def TBt.main{sz sz':Nat}{t:Trace}(h:TBt sz t)(hs:sz<=sz'){fn:FuncId}{pos:String}{es:Array Event}(hes:EvsB sz' es):TBt sz' (t++MemOp.ofEvents 0 fn pos es):=by
 have hu:=NO (g:=0) (fn:=fn) (pos:=pos) (es:=es);refine⟨λsaid=>noRace_append (h.clean said) hu λi a ha op hop b hb hc=> ?_,jg hes h.hears,λop hop=> ?_,h.known.app0 hu⟩
 ·obtain⟨y,hy,hya⟩:=touch_of ha;exact h.known i y a hy hya hc.2.1
 ·obtain hop|hop:=Z60.1 hop
  ·exactλx b hx hb=>Z4F (h.low op hop x b hx hb) hs
  ·exact E8 hes (λb hb=>hb) (λb hb=>hb.elim) op hop
def TR{P:Program}:∀(N:Nat) {K:Nat} {m m1:Machine} {r:Stepped×Trace} {t t1:Trace},runNT P N m t=(.next m1,t1)->runNT P K m1 t1=r->runNT P (N+K) m t=r
 |0,K,m,m1,r,t,t1,h,k=>by
  simp only[runNT,Z4C,Stepped.next.injEq]at h;obtain⟨rfl,rfl⟩:=h;rw[Z5g];exact k
 |N+1,K,m,m1,r,t,t1,h,k=>by
  rw[show N+1+K=(N+K)+1 by omega];simp only[runNT]at h⊢;rcases hst:stepT P m with ⟨e,ops⟩;rw[hst]at h;cases e with
  |next m'=>exact TR N h k
  |ended o w=>cases h
theorem Win.bind{P:Program}{F F':Array Goroutine->World->Trace->Prop}{gs:Array Goroutine}{w:World}{sl:Option (Nat×Nat)}{t:Trace}(h:Win P F gs w sl t)(hk:∀gs w sl t,F gs w t->Win P F' gs w sl t):Win P F' gs w sl t:=by
 obtain⟨N,gs1,w1,sl1,t1,h1,h2⟩:=h;obtain⟨K,gs2,w2,sl2,t2,h3,h4⟩:=hk gs1 w1 sl1 t1 h2;exact⟨N+K,gs2,w2,sl2,t2,TR N h1 h3,h4⟩
def AtS(P:Program)(Stop:Frame->List Frame->World->Prop)(gs:Array Goroutine)(w:World)(t:Trace):Prop:=
 ∃fr cs q,gs[0]?=some (G fr cs)/\Stop fr cs w/\Lvs P gs.size gs q/\TBt w.heap.size t
def Walk(P:Program)(Stop:Frame->List Frame->World->Prop)(fr:Frame)(cs:List Frame)(w:World):Prop:=
 ∀(d:Nat) (gs:Array Goroutine) (sl:Option (Nat×Nat)) (t:Trace) (q:Nat->Nat),Lvs P gs.size gs q->gs[0]?=some (G fr cs)->TBt w.heap.size t->Win P (AtS P Stop) gs (w.at d) sl t
section
variable {P:Program}{Stop Stop':Frame->List Frame->World->Prop}{fr:Frame}{cs:List Frame}{w:World}
def Walk.stop(h:∀d,Stop fr cs (w.at d)):Walk P Stop fr cs w:=λd gs sl t q hl h0 ht=>Win.now ⟨fr,cs,q,h0,h d,hl,ht⟩
theorem Walk.at(h:Walk P Stop fr cs w)(d:Nat):Walk P Stop fr cs (w.at d):=h
theorem Walk.one(h:∀d,∃fr' cs' w' es,stepG P true (G fr cs) (w.at d)=.go (G fr' cs') w' es/\w.heap.size<=w'.heap.size/\EvsB w'.heap.size es/\Walk P Stop fr' cs' w'):Walk P Stop fr cs w:=by
 intro d0 gs sl t q hl h0 ht
 have hnone:∀(gs':Array Goroutine) g,gs'[gs'.size]? ≠some g:=λgs' g e=>by
  have:=(Z4z.1 e).1;omega
 refine skip hl (λi g hi hg=> ?_) ⟨0,_,.inl rfl,h0,rfl⟩ λgs' d sl' q' i g hsz' hsame hl' hi hgi hrun=> ?_
 ·obtain rfl|rfl:=hi
  ·rw[h0]at hg;cases hg;exact⟨awake_of (.inl rfl),λg1 g2 d=>woken_run rfl⟩
  ·exact absurd hg (hnone gs g)
 ·obtain rfl|rfl:=hi
  ·rw[hsame 0 (.inl rfl),h0]at hgi;cases hgi;obtain⟨fr',cs',w',es,e1,e2,e3,e4⟩:=h d;have h0':gs'[0]?=some (G fr cs):=by rw[hsame 0 (.inl rfl)];exact h0
   have hrunT:=runT_crowd_go (P:=P) (sl:=sl') (i:=0) h0' (w':=w') (g':=G fr' cs') (es:=es) e1;refine⟨_,_,_,_,hrunT,?_⟩;have hs1:((gs'.map (woken P (G fr cs) (G fr' cs') w')).setIfInBounds 0 (G fr' cs')).size=gs.size:=by simp[hsz']
   exact e4 w'.drawn _ sl' _ q' (by rw[hs1];exact R9 hl' 0 (.inl rfl) _ _ _ _) (Xz (y:=woken P (G fr cs) (G fr' cs') w' (G fr cs)) (by rw[Z50,h0'];rfl)) (ht.main e2 e3)
  ·rw[<-hsz']at hgi;exact absurd hgi (hnone gs' g)
def Walk.go{fr':Frame}{cs':List Frame}(h:∀w,stepG P true (G fr cs) w=.go (G fr' cs') w #[])(k:Walk P Stop fr' cs' w):Walk P Stop fr cs w:=
 .one λd=>⟨fr',cs',w.at d, #[],h _,Z4A _,λe he=>by simp at he,k⟩
end
end
end Vm
end
section
namespace Vm
open Go
inductive V where
 |int (k:IntKind) (n:Int)
 |bool (b:Bool)
 |str (s:ByteArray)
 |sl (l:List V)
 |agg (cs:List V)
 |tup (l:List V)
 |ptr (cs:List V)
 |fn (f:FuncId)
 |mp (id:Nat) (ks vs:List V)
 |clo (f:FuncId) (cs:List V)
 |nul (k:Nat)
 deriving Inhabited
def V.cells:V->List V
 |.agg cs=>cs
 |x=>[x]
def V.one:V->Bool
 |.agg _|.tup _=>false
 |_=>true
def V.fits(k:Nat)(x:V):Prop:=x.cells.length=k/\∀c∈x.cells,c.one=true
def flat(l:List V):List V:=l.flatMap V.cells
def Hf:flat []=[]:=rfl
def Xq(x:V)(l:List V):flat (x::l)=x.cells++flat l:=rfl
theorem UO(l r:List V):flat (l++r)=flat l++flat r:=by simp[flat]
def Yb{k:Nat}:∀ {l:List V},(∀x∈l,x.fits k)->(flat l).length=l.length*k
 | [],_=>by simp[flat]
 |x::l,h=>by
  rw[Xq,Z5N,(h x Z1).1,Yb (λy hy=>h y (by simp[hy]))];simp[Z5P,Z7u]
def YJ{k:Nat}:∀ {l:List V} {i:Nat} {x:V},(∀x∈l,x.fits k)->l[i]?=some x->∀j,j<k->(flat l)[i*k+j]?=x.cells[j]?
 | [],i,x,_,h,_,_=>Z4q
 |y::l,0,x,hk,h,j,hj=>by
  simp at h;subst h;rw[Xq,Nat.zero_mul,Z5g,Z57 (by rw[(hk y Z1).1];exact hj)]
 |y::l,i+1,x,hk,h,j,hj=>by
  rw[Xq,Z4S (by rw[(hk y Z1).1];rw[Z5P];omega),(hk y Z1).1,
   show(i+1)*k+j-k=i*k+j from by rw[Z5P];omega]
  exact YJ (λz hz=>hk z (by simp[hz])) (by simpa using h) j hj
def Ee{k:Nat}{l:List V}(h:∀x∈l,x.fits k)(n:Nat):flat (l.take n)=(flat l).take (n*k):=by
 by_cases hn:n<=l.length
 ·have h1:(flat (l.take n)).length=n*k:=by
   rw[Yb (λx hx=>h x (Z5o hx)),Z5Q,Nat.min_eq_left hn]
  grind [flat,UO,List.take_append_drop,List.take_left]
 ·rw[Z52 Z0,Z52];rw[Yb h];exact Z5a _ Z0
def Ec{k:Nat}{l:List V}(h:∀x∈l,x.fits k)(n:Nat):flat (l.drop n)=(flat l).drop (n*k):=by
 by_cases hn:n<=l.length
 ·have h1:(flat (l.take n)).length=n*k:=by
   rw[Yb (λx hx=>h x (Z5o hx)),Z5Q,Nat.min_eq_left hn]
  grind [flat,UO,List.take_append_drop,List.drop_left]
 ·rw[Z67 Z0,Z67,Hf];rw[Yb h];exact Z5a _ Z0
def Lt{l:List V}{i:Nat}{c:V}(h:(flat l)[i]?=some c):∃x∈l,c∈x.cells:=by
 have:=Z4B h;simp_all[flat]
inductive Rd (w:World) (G:Nat->Prop):V->Value->Prop where
 |int (k:IntKind) (n:Int):Rd w G (.int k n) (.int k n)
 |bool (b:Bool):Rd w G (.bool b) (.bool b)
 |str (s:ByteArray):Rd w G (.str s) (.string s)
 |nil (a:Option Addr) (cap:Nat):cap<=maxLen->Rd w G (.sl []) (.slice a 0 cap)
 |sl (l:List V) (b o cap k:Nat) (vs:Nat->Value):l.length<=cap->cap<=maxLen->G b->(∀x∈l,x.fits k)->
   (∀i,i<l.length*k->w.cell? ⟨b,o+i,none⟩=some (vs i))->(∀i c,(flat l)[i]?=some c->Rd w G c (vs i))->
   Rd w G (.sl l) (.slice (some ⟨b,o,none⟩) l.length cap)
 |agg (cs:List V) (vs:Array Value):vs.size=cs.length->(∀c∈cs,c.one=true)->(∀i c,cs[i]?=some c->Rd w G c (vs.getD i undef))->Rd w G (.agg cs) (.agg vs)
 |tup (l:List V) (vs:Array Value):vs.size=l.length->(∀i c,l[i]?=some c->Rd w G c (vs.getD i undef))->Rd w G (.tup l) (.tuple vs)
 |ptr (cs:List V) (b o:Nat) (vs:Nat->Value):G b->(∀c∈cs,c.one=true)->(∀i,i<cs.length->w.cell? ⟨b,o+i,none⟩=some (vs i))->
   (∀i c,cs[i]?=some c->Rd w G c (vs i))->Rd w G (.ptr cs) (.pointer (some ⟨b,o,none⟩))
 |fn (f:FuncId):Rd w G (.fn f) (.func (.func f) #[] #[])
 |clo (f:FuncId) (cs:List V) (vs:Array Value):vs.size=cs.length->(∀i c,cs[i]?=some c->Rd w G c (vs.getD i undef))->Rd w G (.clo f cs) (.func (.func f) #[] vs)
 |nul0:Rd w G (.nul 0) (.pointer none)
 |nul1:Rd w G (.nul 1) .nilFunc
 |nomp:Rd w G (.mp 0 [] []) (.map none)
 |mp (id:Nat) (ks xs:List V) (b clk:Nat) (es:Array MapEntry):(id=0\/id=b+1)->G b->w.heap[b]?=some (.map es clk)->ks.length=es.size->xs.length=es.size->
   (∀i c,ks[i]?=some c->Rd w G c (es.getD i default).key)->(∀i c,xs[i]?=some c->Rd w G c (es.getD i default).val)->Rd w G (.mp id ks xs) (.map (some b))
def Same(G:Nat->Prop)(w w':World):Prop:=∀b,G b->w'.heap[b]?=w.heap[b]?
def Same.refl(G:Nat->Prop)(w:World):Same G w w:=λ_ _=>rfl
theorem Same.trans{G:Nat->Prop}{a b c:World}(h:Same G a b)(k:Same G b c):Same G a c:=λx hx=>(k x hx).trans (h x hx)
def Same.cell{G:Nat->Prop}{w w':World}(h:Same G w w'){b o:Nat}(hb:G b):w'.cell? ⟨b,o,none⟩=w.cell? ⟨b,o,none⟩:=
 Z5j (h b hb)
def Rd.keep{w w':World}{G G':Nat->Prop}{x:V}{v:Value}(h:Rd w G x v)(hs:Same G w w')(hg:∀b,G b->G' b):Rd w' G' x v:=by
 induction h with
 |int k n=>exact .int k n
 |bool b=>exact .bool b
 |str s=>exact .str s
 |nil a cap hc=>exact .nil a cap hc
 |sl l b o cap k vs h1 h2 h3 h4 h5 _ ih=>exact .sl l b o cap k vs h1 h2 (hg _ h3) h4 (λi hi=>by rw[hs.cell h3];grind) ih
 |agg cs vs h1 h2 _ ih=>exact .agg cs vs h1 h2 ih
 |tup l vs h1 _ ih=>exact .tup l vs h1 ih
 |ptr cs b o vs h1 h2 h3 _ ih=>exact .ptr cs b o vs (hg _ h1) h2 (λi hi=>by rw[hs.cell h1];grind) ih
 |fn f=>exact .fn f
 |clo f cs vs h1 _ ih=>exact .clo f cs vs h1 ih
 |nul0=>exact .nul0
 |nul1=>exact .nul1
 |nomp=>exact .nomp
 |mp id ks xs b clk es h0 h1 h2 h3 h4 _ _ ih1 ih2=>exact .mp id ks xs b clk es h0 (hg _ h1) (by rw[hs b h1];exact h2) h3 h4 ih1 ih2
def Rd.mono{w:World}{G G':Nat->Prop}{x:V}{v:Value}(h:Rd w G x v)(hg:∀b,G b->G' b):Rd w G' x v:=h.keep (.refl _ _) hg
def Rd.one_eq{w:World}{G:Nat->Prop}{x:V}{v:Value}(h:Rd w G x v):v.oneCell'=x.one:=by
 cases h<;>rfl
theorem Rd.cells{w:World}{G:Nat->Prop}{x:V}{v:Value}(h:Rd w G x v)(ht:∀l,x≠.tup l):v.cells.size=x.cells.length/\(∀c∈x.cells,c.one=true)/\∀i c,x.cells[i]?=some c->Rd w G c (v.cells.getD i undef):=by
 have aux:∀ {x:V} {v:Value},Rd w G x v->x.one=true->v.cells=#[v]->x.cells=[x]->v.cells.size=x.cells.length/\(∀c∈x.cells,c.one=true)/\∀i c,x.cells[i]?=some c->Rd w G c (v.cells.getD i undef):=by
  intro x v h h1 hv hx;rw[hv,hx];refine⟨rfl,Z3L,λi c hi=> ?_⟩;cases i with
  |zero=>simp_all
  |succ i=>simp at hi
 cases h with
 |agg cs vs h1 h2 h3=>exact⟨h1,h2,h3⟩
 |tup l vs _ _=>simp_all
 |int k n=>exact aux (.int k n) rfl rfl rfl
 |bool b=>exact aux (.bool b) rfl rfl rfl
 |str s=>exact aux (.str s) rfl rfl rfl
 |nil a cap hc=>exact aux (.nil a cap hc) rfl rfl rfl
 |sl l b o cap k vs h1 h2 h3 h4 h5 h6=>exact aux (.sl l b o cap k vs h1 h2 h3 h4 h5 h6) rfl rfl rfl
 |ptr cs b o vs h1 h2 h3 h4=>exact aux (.ptr cs b o vs h1 h2 h3 h4) rfl rfl rfl
 |fn f=>exact aux (.fn f) rfl rfl rfl
 |clo f cs vs h1 h2=>exact aux (.clo f cs vs h1 h2) rfl rfl rfl
 |nul0=>exact aux .nul0 rfl rfl rfl
 |nul1=>exact aux .nul1 rfl rfl rfl
 |nomp=>exact aux .nomp rfl rfl rfl
 |mp id ks xs b clk es h0 h1 h2 h3 h4 h5 h6=>exact aux (.mp id ks xs b clk es h0 h1 h2 h3 h4 h5 h6) rfl rfl rfl
end Vm
namespace Vm
open Go
inductive KC where
 |b|i (k:IntKind)|s
 deriving DecidableEq,Inhabited
inductive E where
 |c (v:V)
 |s (t:Nat)
 |m (t i:Nat)
 |mm (t i n:Nat)
 |bin (op:BinOp) (a b:E)
 |eqv (neg:Bool) (a b:E)
 |un (op:UnOp) (a:E)
 |conv (k:IntKind) (a:E)
 |len (a:E)
 |mn (a b:E)
 |mx (a b:E)
 |ext (a:E) (i:Nat)
 |idx (a i:E) (k:Nat)
 |fld (a:E) (o:Nat)
 |flds (a:E) (o n:Nat)
 |ai (a i:E) (n k:Nat) (ag:Bool)
 |slc (a lo hi:E) (k:Nat)
 |slcl (a lo:E) (k:Nat)
 |app (a b:E) (k:Nat)
 |upd (a i:E) (o:Nat) (b:E)
 |aput (a i:E) (n k:Nat) (b:E)
 |mk (z:V) (n:E)
 |lit (l:List E)
 |ag (l:List E)
 |ite (c a b:E)
 |star (a:E)
 |isag (a:E)
 |one (a:E)
 |sz (a:E) (n:Nat)
 |fl (a:E)
 |fls (a:E)
 |lk (kc:KC) (a k:E) (z:V) (ok:Bool)
 |mput (kc:KC) (a k v:E)
 |mlen (a:E)
 |mclr (a:E)
 |pt (f:Option FuncId) (l:List E)
 deriving Inhabited
inductive SV where
 |no
 |v (x:V)
 |m (cs:List V)
 deriving Inhabited
abbrev St:=List SV
def get(s:St)(t:Nat):SV:=(s[t]?).getD .no
def lim:Nat:=4294967296
def binV:BinOp->V->V->Option V
 |.add,.int k a,.int k' b=>if k=k' then some (.int k (k.wrap (a+b)))else none
 |.sub,.int k a,.int k' b=>if k=k' then some (.int k (k.wrap (a-b)))else none
 |.mul,.int k a,.int k' b=>if k=k' then some (.int k (k.wrap (a*b)))else none
 |.quo,.int k a,.int k' b=>if k=k'/\b≠0 then some (.int k (k.wrap (a.tdiv b)))else none
 |.rem,.int k a,.int k' b=>if k=k'/\b≠0 then some (.int k (a.tmod b))else none
 |.and,.int k a,.int k' b=>if k=k' then some (.int k (k.wrap (BitVec.ofInt k.bits a&&& BitVec.ofInt k.bits b).toNat))else none
 |.or,.int k a,.int k' b=>if k=k' then some (.int k (k.wrap (BitVec.ofInt k.bits a|||BitVec.ofInt k.bits b).toNat))else none
 |.xor,.int k a,.int k' b=>if k=k' then some (.int k (k.wrap (BitVec.ofInt k.bits a ^^^ BitVec.ofInt k.bits b).toNat))else none
 |.shl,.int k a,.int _ b=>if 0<=b then some (.int k (k.wrap (a*2 ^ (min b.toNat k.bits))))else none
 |.shr,.int k a,.int _ b=>if 0<=b then some (.int k (a.fdiv (2 ^ (min b.toNat k.bits))))else none
 |.eql,.int k a,.int k' b=>if k=k' then some (.bool (a==b))else none
 |.neq,.int k a,.int k' b=>if k=k' then some (.bool (a !=b))else none
 |.lss,.int k a,.int k' b=>if k=k' then some (.bool (decide (a<b)))else none
 |.leq,.int k a,.int k' b=>if k=k' then some (.bool (decide (a<=b)))else none
 |.gtr,.int k a,.int k' b=>if k=k' then some (.bool (decide (a>b)))else none
 |.geq,.int k a,.int k' b=>if k=k' then some (.bool (decide (a≥b)))else none
 |_,_,_=>none
def eqV(neg:Bool):V->V->Option V
 |.bool a,.bool b=>some (.bool (neg ^^ (a==b)))
 |_,_=>none
def unV:UnOp->V->Option V
 |.neg,.int k n=>some (.int k (k.wrap (0-n)))
 |.not,.bool b=>some (.bool !b)
 |_,_=>none
def Cf(k:IntKind):V->Option V
 |.int _ n=>some (.int k (k.wrap n))
 |_=>none
def lenV:V->Option V
 |.sl l=>some (.int .i64 l.length)
 |_=>none
def minV:V->V->Option V
 |.int k x,.int _ y=>some (.int k (if y<x then y else x))
 |_,_=>none
def maxV:V->V->Option V
 |.int k x,.int _ y=>some (.int k (if y>x then y else x))
 |_,_=>none
def extV:V->Nat->Option V
 |.tup l,i=>l[i]?
 |_,_=>none
def idxV(x i:V)(k:Nat):Option V:=
 match x,i with
 |.sl l,.int _ i=>if 0<=i then(l[i.toNat]?).bind λz=>if z.cells.length=k then some z else none else none
 |_,_=>none
def V.pc:V->List V
 |.agg cs=>cs
 |x=>[x]
def Jx:V->Option V
 |.ptr cs=>some (.agg cs)
 |_=>none
def oneV(x:V):Option V:=if x.one then some x else none
def szV(x:V)(n:Nat):Option V:=if x.cells.length=n then match x with|.tup _=>none|x=>some x else none
def jH:V->Option V
 |.agg cs=>some (.agg cs)
 |_=>none
def fldV(x:V)(o:Nat):Option V:=(x.pc[o]?).bind oneV
def Ya(k:Nat)(l:List V):Bool:=l.all λx=>x.cells.length==k
def Ry(x:V)(o n:Nat):Option V:=if o+n<=x.pc.length then some (.agg ((x.pc.drop o).take n))else none
def aiV(x i:V)(n k:Nat)(ag:Bool):Option V:=
 match x,i with
 |.agg cs,.int _ i=>if 0<=i/\i<n/\cs.length=n*k then(if ag then some (.agg ((cs.drop (i.toNat*k)).take k))else cs[i.toNat*k]?)else none
 |_,_=>none
def slcV(k:Nat):V->V->V->Option V
 |.sl l,.int _ a,.int _ b=>if 0<=a/\a<=b/\b<=l.length/\Ya k l=true then some (.sl ((l.take b.toNat).drop a.toNat))else none
 |_,_,_=>none
def At(k:Nat):V->V->Option V
 |.sl l,.int _ a=>if 0<=a/\a<=l.length/\Ya k l=true then some (.sl (l.drop a.toNat))else none
 |_,_=>none
def appV(k:Nat):V->V->Option V
 |.sl a,.sl b=>if a.length+b.length<=lim/\Ya k b=true then some (.sl (a++b))else none
 |_,_=>none
def Zx(cs:List V)(o:Nat)(b:List V):List V:=cs.take o++b++cs.drop (o+b.length)
def V.put(x:V)(o:Nat)(b:List V):V:=
 match x with
 |.agg cs=>.agg (Zx cs o b)
 |_=>b.headD x
def updV(x i:V)(o:Nat)(b:V):Option V:=
 match x,i with
 |.sl l,.int _ i=>if 0<=i then(l[i.toNat]?).bind λy=>if o+b.cells.length<=y.cells.length/\b.cells≠[]then some (.sl (l.set i.toNat (y.put o b.cells)))else none else none
 |_,_=>none
def Qm(x i:V)(n k:Nat)(b:V):Option V:=
 match x,i with
 |.agg cs,.int _ i=>if 0<=i/\i<n/\cs.length=n*k/\b.cells.length=k then some (.agg (Zx cs (i.toNat*k) b.cells))else none
 |_,_=>none
def mkV(z:V):V->Option V
 |.int _ n=>if 0<=n/\n<=lim then some (.sl (List.replicate n.toNat z))else none
 |_=>none
def agV(l:List V):V:=.agg (flat l)
def V.flatc:V->Bool
 |.int .. |.bool _|.str _=>true
 |_=>false
def flV(x:V):Option V:=
 match x with
 |.tup _=>none
 |x=>if x.cells.all V.flatc then some x else none
def flsV(x:V):Option V:=
 match x with
 |.sl l=>if(Vm.flat l).all V.flatc then some x else none
 |_=>none
def ES:V->V->Option Bool
 |.int k a,.int k' b=>if k=k' then some (a==b)else none
 |.bool a,.bool b=>some (a==b)
 |.str a,.str b=>some (a==b)
 |_,_=>none
def JO(k:V):List V->Option (Option Nat)
 | []=>some none
 |y::l=>match ES k y with
  |some true=>some (some 0)
  |some false=>(JO k l).map λr=>r.map (· +1)
  |none=>none
def isK:KC->V->Bool
 |.b,.bool _=>true
 |.i k,.int k' _=>decide (k=k')
 |.s,.str _=>true
 |_,_=>false
def lkV(kc:KC)(x k z:V)(ok:Bool):Option V:=
 if isK kc k=false then none else
 match x with
 | .mp _ ks vs=>match JO k ks with
   |some (some i)=>(vs[i]?).map λv=>if ok then .tup [v,.bool true]else v
   |some none=>some (if ok then .tup [z,.bool false]else z)
   |none=>none
 |_=>none
def QY(kc:KC)(x k v:V):Option V:=
 if isK kc k=false then none else
 match x with
 | .mp id ks vs=>match JO k ks with
   |some (some i)=>some (.mp id ks (vs.set i v))
   |some none=>some (.mp id (ks++[k]) (vs++[v]))
   |none=>none
 |_=>none
def F9:V->Option V
 |.mp id _ _=>some (.mp id [] [])
 |_=>none
def yK:V->Option V
 |.mp _ ks _=>some (.int .i64 ks.length)
 |_=>none
def iteV(c:V)(a b:Option V):Option V:=
 match c with
 |.bool true=>a
 |.bool false=>b
 |_=>none
def ptV(f:Option FuncId)(l:List V):Option V:=
 match f with
 |none=>if l.all V.one then some (.ptr l)else none
 |some f=>some (.clo f l)
mutual
def eval(s:St):E->Option V
 |.c v=>some v
 |.s t=>match get s t with|.v x=>some x|_=>none
 |.m t i=>match get s t with|.m cs=>(cs[i]?).bind oneV|_=>none
 |.mm t i n=>match get s t with|.m cs=>if i+n<=cs.length then some (.agg ((cs.drop i).take n))else none|_=>none
 |.bin op a b=>(eval s a).bind λx=>(eval s b).bind λy=>binV op x y
 |.eqv n a b=>(eval s a).bind λx=>(eval s b).bind λy=>eqV n x y
 |.un op a=>(eval s a).bind (unV op)
 |.conv k a=>(eval s a).bind (Cf k)
 |.len a=>(eval s a).bind lenV
 |.mn a b=>(eval s a).bind λx=>(eval s b).bind λy=>minV x y
 |.mx a b=>(eval s a).bind λx=>(eval s b).bind λy=>maxV x y
 |.ext a i=>(eval s a).bind λx=>extV x i
 |.idx a i k=>(eval s a).bind λx=>(eval s i).bind λy=>idxV x y k
 |.fld a o=>(eval s a).bind λx=>fldV x o
 |.flds a o n=>(eval s a).bind λx=>Ry x o n
 |.ai a i n k ag=>(eval s a).bind λx=>(eval s i).bind λy=>aiV x y n k ag
 |.slc a lo hi k=>(eval s a).bind λx=>(eval s lo).bind λy=>(eval s hi).bind λz=>slcV k x y z
 |.slcl a lo k=>(eval s a).bind λx=>(eval s lo).bind λy=>At k x y
 |.app a b k=>(eval s a).bind λx=>(eval s b).bind λy=>appV k x y
 |.upd a i o b=>(eval s a).bind λx=>(eval s i).bind λy=>(eval s b).bind λz=>updV x y o z
 |.aput a i n k b=>(eval s a).bind λx=>(eval s i).bind λy=>(eval s b).bind λz=>Qm x y n k z
 |.mk z n=>(eval s n).bind (mkV z)
 |.lit l=>(Yg s l).map .sl
 |.ag l=>(Yg s l).map agV
 |.ite c a b=>(eval s c).bind λx=>iteV x (eval s a) (eval s b)
 |.star a=>(eval s a).bind Jx
 |.isag a=>(eval s a).bind jH
 |.one a=>(eval s a).bind oneV
 |.sz a n=>(eval s a).bind λx=>szV x n
 |.fl a=>(eval s a).bind flV
 |.fls a=>(eval s a).bind flsV
 |.lk kc a k z ok=>(eval s a).bind λx=>(eval s k).bind λy=>lkV kc x y z ok
 |.mput kc a k v=>(eval s a).bind λx=>(eval s k).bind λy=>(eval s v).bind λz=>QY kc x y z
 |.mlen a=>(eval s a).bind yK
 |.mclr a=>(eval s a).bind F9
 |.pt f l=>(Yg s l).bind (ptV f)
def Yg(s:St):List E->Option (List V)
 | []=>some []
 |e::l=>(eval s e).bind λx=>(Yg s l).map (x:: ·)
end
mutual
def V.same:V->V->Bool
 |.int k n,.int k' n'=>decide (k=k')&&decide (n=n')
 |.bool a,.bool b=>a==b
 |.sl a,.sl b=>V.sames a b
 |.agg a,.agg b=>V.sames a b
 |.tup a,.tup b=>V.sames a b
 |.fn a,.fn b=>a==b
 |.mp i a b,.mp i' a' b'=>i==i'&&V.sames a a'&&V.sames b b'
 |_,_=>false
def V.sames:List V->List V->Bool
 | [],[]=>true
 |a::l,b::r=>V.same a b&&V.sames l r
 |_,_=>false
end
mutual
def E.same:E->E->Bool
 |.c a,.c b=>V.same a b
 |.s a,.s b=>a==b
 |.m a i,.m b j=>a==b&&i==j
 |.mm a i n,.mm b j n'=>a==b&&i==j&&n==n'
 |.bin o a b,.bin o' a' b'=>decide (o=o')&&E.same a a'&&E.same b b'
 |.eqv o a b,.eqv o' a' b'=>o==o'&&E.same a a'&&E.same b b'
 |.un o a,.un o' a'=>decide (o=o')&&E.same a a'
 |.conv k a,.conv k' a'=>decide (k=k')&&E.same a a'
 |.len a,.len b=>E.same a b
 |.mn a b,.mn a' b'=>E.same a a'&&E.same b b'
 |.mx a b,.mx a' b'=>E.same a a'&&E.same b b'
 |.ext a i,.ext b j=>E.same a b&&i==j
 |.idx a b k,.idx a' b' k'=>E.same a a'&&E.same b b'&&k==k'
 |.fld a o,.fld b o'=>E.same a b&&o==o'
 |.flds a o n,.flds b o' n'=>E.same a b&&o==o'&&n==n'
 |.ai a i n k g,.ai a' i' n' k' g'=>E.same a a'&&E.same i i'&&n==n'&&k==k'&&g==g'
 |.slc a b d k,.slc a' b' d' k'=>E.same a a'&&E.same b b'&&E.same d d'&&k==k'
 |.slcl a b k,.slcl a' b' k'=>E.same a a'&&E.same b b'&&k==k'
 |.app a b k,.app a' b' k'=>E.same a a'&&E.same b b'&&k==k'
 |.upd a i o b,.upd a' i' o' b'=>E.same a a'&&E.same i i'&&o==o'&&E.same b b'
 |.aput a i n k b,.aput a' i' n' k' b'=>E.same a a'&&E.same i i'&&n==n'&&k==k'&&E.same b b'
 |.mk z n,.mk z' n'=>V.same z z'&&E.same n n'
 |.lit l,.lit r=>E.sames l r
 |.ag l,.ag r=>E.sames l r
 |.star a,.star b=>E.same a b
 |.isag a,.isag b=>E.same a b
 |.one a,.one b=>E.same a b
 |.sz a n,.sz b n'=>E.same a b&&n==n'
 |.fl a,.fl b=>E.same a b
 |.fls a,.fls b=>E.same a b
 |.lk q a k z o,.lk q' a' k' z' o'=>decide (q=q')&&E.same a a'&&E.same k k'&&V.same z z'&&o==o'
 |.mput q a k v,.mput q' a' k' v'=>decide (q=q')&&E.same a a'&&E.same k k'&&E.same v v'
 |.mlen a,.mlen b=>E.same a b
 |.mclr a,.mclr b=>E.same a b
 |.pt f l,.pt g r=>f==g&&E.sames l r
 |.ite a b d,.ite a' b' d'=>E.same a a'&&E.same b b'&&E.same d d'
 |_,_=>false
def E.sames:List E->List E->Bool
 | [],[]=>true
 |a::l,b::r=>E.same a b&&E.sames l r
 |_,_=>false
end
mutual
def E.has(x:E):E->Bool
 |.bin o a b=>E.same x (.bin o a b)||E.has x a||E.has x b
 |.eqv o a b=>E.same x (.eqv o a b)||E.has x a||E.has x b
 |.un o a=>E.same x (.un o a)||E.has x a
 |.conv k a=>E.same x (.conv k a)||E.has x a
 |.len a=>E.same x (.len a)||E.has x a
 |.mn a b=>E.same x (.mn a b)||E.has x a||E.has x b
 |.mx a b=>E.same x (.mx a b)||E.has x a||E.has x b
 |.ext a i=>E.same x (.ext a i)||E.has x a
 |.idx a b k=>E.same x (.idx a b k)||E.has x a||E.has x b
 |.fld a o=>E.same x (.fld a o)||E.has x a
 |.flds a o n=>E.same x (.flds a o n)||E.has x a
 |.ai a i n k g=>E.same x (.ai a i n k g)||E.has x a||E.has x i
 |.slc a b d k=>E.same x (.slc a b d k)||E.has x a||E.has x b||E.has x d
 |.slcl a b k=>E.same x (.slcl a b k)||E.has x a||E.has x b
 |.app a b k=>E.same x (.app a b k)||E.has x a||E.has x b
 |.upd a i o b=>E.same x (.upd a i o b)||E.has x a||E.has x i||E.has x b
 |.aput a i n k b=>E.same x (.aput a i n k b)||E.has x a||E.has x i||E.has x b
 |.mk z n=>E.same x (.mk z n)||E.has x n
 |.lit l=>E.same x (.lit l)||E.hasIn x l
 |.ag l=>E.same x (.ag l)||E.hasIn x l
 |.ite a b d=>E.same x (.ite a b d)||E.has x a
 |.star a=>E.same x (.star a)||E.has x a
 |.isag a=>E.same x (.isag a)||E.has x a
 |.one a=>E.same x (.one a)||E.has x a
 |.sz a n=>E.same x (.sz a n)||E.has x a
 |.fl a=>E.same x (.fl a)||E.has x a
 |.fls a=>E.same x (.fls a)||E.has x a
 |.lk q a k z o=>E.same x (.lk q a k z o)||E.has x a||E.has x k
 |.mput q a k v=>E.same x (.mput q a k v)||E.has x a||E.has x k||E.has x v
 |.mlen a=>E.same x (.mlen a)||E.has x a
 |.mclr a=>E.same x (.mclr a)||E.has x a
 |.pt f l=>E.same x (.pt f l)||E.hasIn x l
 |.c v=>E.same x (.c v)
 |.s t=>E.same x (.s t)
 |.m t i=>E.same x (.m t i)
 |.mm t i n=>E.same x (.mm t i n)
def E.hasIn(x:E):List E->Bool
 | []=>false
 |a::l=>E.has x a||E.hasIn x l
end
def E.sure:E->Bool
 |.c v=>v.one
 |.m .. |.bin .. |.eqv .. |.un .. |.conv .. |.len _|.mn .. |.mx .. |.fld .. |.slc .. |.slcl .. |.app .. |.upd .. |.mk .. |.lit _|.one _|.mput .. |.mlen _|.mclr _=>true
 |.ite _ a b=>E.sure a&&E.sure b
 |_=>false
def E.sized(n:Nat):E->Bool
 |.mm _ _ k=>k==n
 |.flds _ _ k=>k==n
 |.ag l=>l.length==n&&l.all E.sure
 |.sz _ k=>k==n
 |_=>false
def oneE(e:E):E:=if e.sure then e else .one e
def szE(e:E)(n:Nat):E:=if e.sized n then e else .sz e n
def tyE(ag:Bool)(n:Nat)(e:E):E:=if ag then szE e n else oneE e
inductive TD where
 |sc|sl (e:TypeId)|st (fs:List (Nat×Nat×Bool×Bool))|ar (n:Nat) (e:TypeId)|pt (e:TypeId)|no
 deriving DecidableEq,Inhabited
def Uy:Value->Option V
 |.int k n=>some (.int k n)
 |.bool b=>some (.bool b)
 |.string s=>some (.str s)
 |.slice none 0 0=>some (.sl [])
 |.func (.func f) first captured=>if first.size=0/\captured.size=0 then some (.fn f)else none
 |.map none=>some (.mp 0 [] [])
 |.pointer none=>some (.nul 0)
 |.nilFunc=>some (.nul 1)
 |_=>none
def Zn(P:Program)(t:TypeId):Bool:=
 match P.underlying t with
 |some (.struct _)|some (.array _ _)=>true
 |_=>false
def zeroCells(P:Program)(t:TypeId):Option (List V):=
 ((P.info? t).bind (·.zero)).bind λz=>z.cells.toList.mapM Uy
def Xu(P:Program)(t:TypeId):Bool:=
 match P.underlying t with
 |some .bool|some (.int _)|some .string=>true
 |some (.struct _)|some (.array _ _)=>match zeroCells P t with|some l=>l.all V.flatc|none=>false
 |some (.tuple ts)=>ts.all λu=>match P.underlying u with
  |some .bool|some (.int _)|some .string=>true
  |some (.struct _)|some (.array _ _)=>(match zeroCells P u with|some l=>l.all V.flatc|none=>false)
  |_=>false
 |_=>false
def okT(P:Program)(T:TypeId):Bool:=(P.underlying T).isSome&&(P.info? T).isSome
def tdOf(P:Program)(t:TypeId):TD:=
 match P.underlying t with
 |some .bool|some (.int _)|some .string=>.sc
 |some (.slice e)=>.sl e
 |some (.struct fs)=>if fs.toList.all (λf=>okT P f.type)then .st (fs.toList.map λf=>(f.offset,P.cellsOf f.type,Zn P f.type,Xu P f.type))else .no
 |some (.array n e)=>.ar n e
 |some (.pointer e)=>.pt e
 |_=>.no
def elOk(P:Program)(el:TypeId):Bool:=
 match P.info? el with
 |some i=>match i.zero with
  |some z=>z.cells.size==i.size&&decide (0<i.size)&&decide (i.bytes<=32768)
  |none=>false
 |none=>false
inductive CK where
 |fz|own (ty:TypeId)|nil|dead
 deriving DecidableEq,Inhabited
inductive OT where
 |fz|own (ty:TypeId)|nil|mem (l:List CK)|clo (f:FuncId) (caps:List Nat)
 deriving DecidableEq,Inhabited
inductive TK where
 |no
 |val (e:E) (sh:List Nat)
 |own (ty:TypeId) (e:E)
 |nil
 |mem (cs:List (CK×E))
 |ags (cs:List (CK×E))
 |ref (p:Nat)
 |refm (p i:Nat)
 |pm (p o:Nat)
 |pc (e:E) (o:Nat) (sh:List Nat)
 |pe (p:Nat) (i:Option Nat) (j:E) (o k:Nat)
 |pa (p o:Nat) (j:E) (n k:Nat)
 |clo (f:FuncId) (caps:List Nat)
 |big (e:E) (sh:List Nat)
 deriving Inhabited
def TK.isNo:TK->Bool
 |.no=>true
 |_=>false
abbrev Zg:=List (Nat×Bool)
abbrev Gam:=List (Nat×Zg×TK)
def Gam.at(g:Gam)(t:Nat):Zg×TK:=
 match g with
 | []=>([],.no)
 |(u,x)::r=>if u=t then x else Gam.at r t
def memOf(g:Gam)(p:Nat):Option (List (CK×E)):=
 match g.at p with
 |([],.mem cs)=>some cs
 |_=>none
def ownOf(g:Gam)(p:Nat):Option (TypeId×E):=
 match g.at p with
 |([],.own ty e)=>some (ty,e)
 |_=>none
def UN(a b:Zg):Bool:=a.all λx=>b.contains x
def look(g:Gam)(C:Zg)(t:Nat):TK:=let x:=g.at t;if UN x.1 C then x.2 else .no
def Vu(cs:List (CK×E)):Bool:=cs.any λc=>match c.1 with|.own _=>true|_=>false
def Ye(cs:List (CK×E)):Bool:=cs.any λc=>c.1==.dead
def ownAt(g:Gam):TK->Option (TypeId×E)
 |.ref p=>ownOf g p
 | .refm p i=>(memOf g p).bind λcs=>match cs[i]? with
   |some (.own ty,e)=>some (ty,e)
   |_=>none
 |_=>none
def asE(g:Gam)(k:TK)(t:Nat):Option (E×List Nat):=
 match k with
 |.val e sh=>some (e,sh)
 |.own _ e=>some (e,[t])
 |.nil=>some (.c (.sl []),[])
 |.ags cs=>if Ye cs then none else some (.ag (cs.map (·.2)),if Vu cs then [t]else [])
 |.ref p=>(ownAt g (.ref p)).map λx=>(x.2,[p])
 |.refm p i=>(ownAt g (.refm p i)).map λx=>(x.2,[p])
 |_=>none
def opK(g:Gam)(C:Zg)(x:Operand):TK:=
 match x with
 |.const (.slice none 0 0)=>.nil
 |.const v=>match Uy v with|some x=>.val (.c x) [] |none=>.no
 |.tmp t=>look g C t
 |.func f=>.val (.c (.fn f)) []
 |_=>.no
def yX:Operand->Nat
 |.tmp t=>t
 |_=>0
def opE(g:Gam)(C:Zg)(x:Operand):Option (E×List Nat):=
 asE g (opK g C x) (match x with|.tmp t=>t|_=>0)
def flE(fl:Bool)(b:E×List Nat):E×List Nat:=if b.2.isEmpty then b else if fl then(.fl b.1,[])else b
def opsF(g:Gam)(C:Zg)(fl:Bool):List Operand->Option (List E×List Nat)
 | []=>some ([],[])
 |x::l=>(opE g C x).bind λa0=>(opsF g C fl l).map λb=>let a:=flE fl a0;(a.1::b.1,a.2++b.2)
def DS(g:Gam):List Nat->Option (List E)
 | []=>some []
 |p::l=>(memOf g p).bind λcs=>if Ye cs then none else(DS g l).map λes=>.pt none (cs.map (·.2))::es
def bigE(g:Gam)(k:TK)(t:Nat):Option (E×List Nat):=
 match k with
 |.mem cs=>if Ye cs then none else some (.pt none (cs.map (·.2)),[t])
 |.pm p 0=>(memOf g p).bind λcs=>if Ye cs then none else some (.pt none (cs.map (·.2)),[p])
 |.clo f caps=>(DS g caps).map λes=>(.pt (some f) es,caps)
 |.big e sh=>some (e,sh)
 |_=>none
def argE(g:Gam)(C:Zg)(fl:Bool)(x:Operand):Option (E×List Nat×Bool):=
 match opE g C x with
 |some a=>some ((flE fl a).1,(flE fl a).2,false)
 |none=>(bigE g (opK g C x) (yX x)).map λa=>(a.1,a.2,true)
def DE(P:Program)(g:Gam)(C:Zg):List Operand->List TypeId->Option (List E×List Nat×Bool)
 | [],_=>some ([],[],false)
 |x::l,ts=>(argE g C (match ts with|t::_=>Xu P t| []=>false) x).bind λa=>(DE P g C l ts.tail).map λb=>(a.1::b.1,a.2.1++b.2.1,a.2.2||b.2.2)
def X4(p:Nat):Nat->List (CK×E)->Bool
 |_,[]=>true
 |i,(_,.m q j)::r=>p==q&&i==j&&X4 p (i+1) r
 |_,_=>false
def valE:TK->List E
 |.val e _=>[e]
 |_=>[]
structure Ctx where
 P:Program
 ix:Nat->Nat
 own:Nat->Bool
 fresh:FuncId->Bool
 sig:FuncId->Option (List OT)
 tr:List Nat
 n:Nat
def Hv(c:Ctx)(g:Gam)(T:TypeId)(p o:Nat):Option TK:=
 (memOf g p).bind λcs=>
  if Zn c.P T then
   let part:=(cs.drop o).take (c.P.cellsOf T)
   if part.length=c.P.cellsOf T/\Ye part=false/\0<c.P.cellsOf T then
    some (.val (if X4 (c.ix p) o part then .mm (c.ix p) o part.length else .ag (part.map (·.2))) (if Vu part then [p]else []))
   else none
  else match cs[o]? with
   |some (.fz,e)=>some (.val e [])
   |some (.own _,_)=>some (.refm p o)
   |some (.nil,_)=>some .nil
   |_=>none
def Nu(c:Ctx)(g:Gam)(T:TypeId)(p o:Nat)(j:E)(m k:Nat):Option TK:=
 (memOf g p).bind λcs=>
  let part:=(cs.drop o).take (m*k)
  if part.length=m*k/\c.P.cellsOf T=k/\0<m*k/\Vu part=false/\Ye part=false then
   some (.val (.ai (if X4 (c.ix p) o part then .mm (c.ix p) o part.length else .ag (part.map (·.2))) j m k (Zn c.P T)) [])
  else none
def zJ(c:Ctx)(T:TypeId)(e:E)(o:Nat):E:=if Zn c.P T then .flds e o (c.P.cellsOf T)else .fld e o
def Jd(p:Nat):Option Nat->TK
 |none=>.ref p
 |some i=>.refm p i
def Nv(c:Ctx)(g:Gam)(T:TypeId)(p:Nat)(i:Option Nat)(j:E)(o k:Nat):Option TK:=
 (ownAt g (Jd p i)).bind λx=>if c.P.cellsOf x.1=k then some (.val (zJ c T (.idx x.2 j k) o) [p])else none
def l9(c:Ctx)(g:Gam)(T:TypeId)(k:TK)(t:Nat):Option TK:=
 match k with
 |.mem _=>Hv c g T t 0
 |.pm p o=>Hv c g T p o
 |.pc e o sh=>some (.val (zJ c T e o) sh)
 |.val e sh=>some (.val (zJ c T (.star e) 0) sh)
 |.pe p i j o k=>Nv c g T p i j o k
 |.pa p o j m k=>Nu c g T p o j m k
 |_=>none
def Qu(P:Program)(T:TypeId)(f:Nat):Option (Nat×Nat×Bool×Bool):=
 match tdOf P T with
 |.st fs=>fs[f]?
 |_=>none
abbrev PK:=Option (TK×List E)
def TK.free:TK->Bool
 |.own .. |.mem _|.ags _|.no=>false
 |_=>true
def FJ(g:Gam)(C:Zg)(x:Operand):PK:=
 if(opK g C x).free then some (opK g C x,[])else
 match x,opK g C x with
 |.tmp t,.own _ _=>some (.ref t,[])
 |.tmp t,.mem _=>some (.pm t 0,[])
 |.tmp t,.ags cs=>(asE g (.ags cs) t).map λy=>(.val y.1 y.2,[])
 |_,_=>none
def SJ(g:Gam)(C:Zg)(x:Operand):PK:=
 match opK g C x with
 |.mem _=>some (.pm (yX x) 0,[])
 |.pm p o=>some (.pm p o,[])
 |.val e sh=>some (.val e sh,[.star e])
 |_=>none
def LY(c:Ctx)(g:Gam)(C:Zg)(ty:TypeId)(x:Operand):PK:=
 match opK g C x with
 |.val e []=>some (.val e [],[])
 |.val e (p::sh)=>if Xu c.P ty then some (.val (.fl e) [],[.fl e])else none
 |.nil=>some (.nil,[])
 |.clo f caps=>some (.clo f caps,[])
 |_=>none
def A2(c:Ctx)(T:TypeId):PK:=
 (zeroCells c.P T).bind λz=>if z.isEmpty then none else some (.mem (z.map λx=>((match x with|.sl _=>CK.nil|_=>.fz),E.c x)),[])
def NT(c:Ctx)(g:Gam)(C:Zg)(T:TypeId)(x:Operand):PK:=
 match opK g C x with
 | .val e0 []=>
   if okT c.P T then
    let e:=tyE (Zn c.P T) (c.P.cellsOf T) e0
    if Zn c.P T then some (.mem ((List.range (c.P.cellsOf T)).map λi=>(CK.fz,E.fld e i)),[e])else some (.mem [(.fz,e)],[e])
   else none
 |_=>none
def eqTy(P:Program)(T:TypeId):Bool:=
 match P.underlying T with
 |some .bool=>true
 |_=>false
def binS(P:Program)(rec:TypeId->Nat->Option E)(n o:Nat):List Field->Option E
 | []=>some (.c (.bool true))
 |f::l=>if f.name≠ "_" /\f.offset+P.cellsOf f.type<=n then(rec f.type (o+f.offset)).bind λx=>(binS P rec n o l).map λy=>.ite x y (.c (.bool false))else none
def eqD(P:Program)(a b:E):Nat->TypeId->Nat->Option E
 |0,_,_=>none
 |d+1,T,o=>
  match P.underlying T with
  |some .bool=>if P.cellsOf T=1 then some (.eqv false (.fld a o) (.fld b o))else none
  |some (.int _)=>if P.cellsOf T=1 then some (.bin .eql (.fld a o) (.fld b o))else none
  |some (.struct fs)=>if fs.toList≠[]/\P.cellsOf T≠0/\P.stoodInHeld T=false then binS P (eqD P a b d) (P.cellsOf T) o fs.toList else none
  |_=>none
def eqSt(P:Program)(T:TypeId)(a b:E):Option E:=
 if Zn P T/\P.eqGuardType P.depth T=false then eqD P (.sz (.isag a) (P.cellsOf T)) (.sz (.isag b) (P.cellsOf T)) 4 T 0 else none
def binE(P:Program)(T:TypeId)(op:BinOp)(a b:E):E:=
 if eqTy P T then match op with
  |.eql=>.eqv false a b
  |.neq=>.eqv true a b
  |_=>.bin op a b
 else match op with
  |.eql=>(eqSt P T a b).getD (.bin op a b)
  |.neq=>((eqSt P T a b).map (.un .not)).getD (.bin op a b)
  |_=>.bin op a b
def NS(c:Ctx)(g:Gam)(C:Zg)(op:BinOp)(T:TypeId)(x y:Operand):PK:=
 (opE g C x).bind λa=>(opE g C y).map λb=>let e:=binE c.P T op a.1 b.1;(.val e [],[e])
def pkUn(g:Gam)(C:Zg)(op:UnOp)(x:Operand):PK:=(opE g C x).map λa=>(.val (.un op a.1) [],[.un op a.1])
def Mn(c:Ctx)(g:Gam)(C:Zg)(src dst:TypeId)(x:Operand):PK:=
 if(c.P.underlying src).isNone then none else
 match c.P.underlying dst with
 |some (.int k)=>(opE g C x).map λa=>(.val (.conv k a.1) [],[.conv k a.1])
 |_=>none
def Z0f(c:Ctx)(g:Gam)(C:Zg)(ty:TypeId)(x:Operand)(i:Nat):PK:=
 (opE g C x).map λa=>let y:=flE (Xu c.P ty) (.ext a.1 i,a.2);(.val y.1 y.2,[y.1])
def FH(c:Ctx)(g:Gam)(C:Zg)(T:TypeId)(a:Operand):PK:=
 if okT c.P T then(l9 c g T (opK g C a) (yX a)).map λk=>(k,valE k)else none
def A4(c:Ctx)(g:Gam)(C:Zg)(T:TypeId)(a:Operand)(f:Nat):PK:=
 (Qu c.P T f).bind λx=>if x.2.1=0 then none else
  match opK g C a with
  |.mem _=>some (.pm (yX a) x.1,[])
  |.pm p q=>some (.pm p (q+x.1),[])
  |.pc e q sh=>some (.pc e (q+x.1) sh,[])
  |.val e sh=>some (.pc (.star e) x.1 sh,[.star e])
  |.pe p i j q k=>some (.pe p i j (q+x.1) k,[])
  |_=>none
def RR(c:Ctx)(g:Gam)(p:Nat)(i:Option Nat)(el:TypeId)(j:E):PK:=
 (ownAt g (Jd p i)).bind λx=>if c.P.cellsOf x.1=c.P.cellsOf el/\okT c.P el=true then some (.pe p i j 0 (c.P.cellsOf el),[.idx x.2 j (c.P.cellsOf el)])else none
def UZ(c:Ctx)(g:Gam)(C:Zg)(T:TypeId)(x i:Operand):PK:=
 match tdOf c.P T with
 | .sl el=>(opE g C i).bind λj=>
   match opK g C x with
   |.ref p=>RR c g p none el j.1
   |.refm p q=>RR c g p (some q) el j.1
   |.val e sh=>if okT c.P el then some (.pc (.idx e j.1 (c.P.cellsOf el)) 0 sh,[.idx e j.1 (c.P.cellsOf el)])else none
   |_=>none
 | .ar n el=>if !okT c.P el then none else(opE g C i).bind λj=>
   match opK g C x with
   |.mem _=>some (.pa (yX x) 0 j.1 n (c.P.cellsOf el),[.ai (.c (.agg (List.replicate n (.bool true)))) j.1 n 1 false])
   |.pm p o=>some (.pa p o j.1 n (c.P.cellsOf el),[.ai (.c (.agg (List.replicate n (.bool true)))) j.1 n 1 false])
   |.pc e q sh=>let e':=E.ai (.flds e q (n*c.P.cellsOf el)) j.1 n (c.P.cellsOf el) true;some (.pc e' 0 sh,[e'])
   |_=>none
 |_=>none
def NU(c:Ctx)(g:Gam)(C:Zg)(T:TypeId)(x:Operand)(f:Nat):PK:=
 (Qu c.P T f).bind λy=>if y.2.1=0 then none else(opE g C x).map λa=>
  let e:=if y.2.2.1 then E.flds (.isag a.1) y.1 y.2.1 else .fld (.isag a.1) y.1
  (.val e a.2,[e])
def A6(c:Ctx)(g:Gam)(C:Zg)(T:TypeId)(x i:Operand):PK:=
 match tdOf c.P T with
 | .ar n el=>if !okT c.P el then none else(opE g C x).bind λa=>(opE g C i).map λb=>
   let e:=E.ai a.1 b.1 n (c.P.cellsOf el) (Zn c.P el)
   (.val e a.2,[e])
 |_=>none
def opLo(g:Gam)(C:Zg):Option Operand->Option E
 |some l=>(opE g C l).map Prod.fst
 |none=>some (.c (.int .i64 0))
def opHi(g:Gam)(C:Zg)(a l:E)(k:Nat):Option Operand->Option E
 |some h=>(opE g C h).map λy=>.slc a l y.1 k
 |none=>some (.slcl a l k)
def A8(c:Ctx)(g:Gam)(C:Zg)(T:TypeId)(x:Operand)(lo hi:Option Operand):PK:=
 match tdOf c.P T with
 | .sl el=>if okT c.P el then(opE g C x).bind λa=>
   (opLo g C lo).bind λl=>(opHi g C a.1 l (c.P.cellsOf el) hi).map λe=>(.val e a.2,[e])else none
 |_=>none
def Ja(g:Gam)(C:Zg)(n:Nat)(ag fl:Bool)(x:Operand):Option (List (CK×E)×List Nat×List Nat):=
 match x,opK g C x with
 |.tmp t,.own ty e=>some ([(.own ty,e)],[],[t])
 |_,.nil=>some ([(.nil,.c (.sl []))],[],[])
 |_,_=>(opE g C x).map λa0=>let a:=flE fl a0;let e:=tyE ag n a.1;(if ag then(List.range n).map λj=>(.fz,.fld e j)else [(.fz,e)],a.2,[])
abbrev BC:=List (CK×E)×List Nat×List Nat
def S8(zs:List V)(o n:Nat):BC:=(((zs.drop o).take n).map λ(z:V)=>((match z with|.sl _=>CK.nil|_=>CK.fz),E.c z),[],[])
def Mm(g:Gam)(C:Zg)(zs:List V)(parts:List (Nat×Operand))(f:Nat×Nat×Bool×Bool)(i:Nat):Option BC:=
 match parts.find? (λp=>p.1==i)with
 |some p=>Ja g C f.2.1 f.2.2.1 f.2.2.2 p.2
 |none=>some (S8 zs f.1 f.2.1)
def TG:List Nat->Bool
 | []=>true
 |x::l=> !l.contains x&&TG l
def Vx(g:Gam)(C:Zg)(zs:List V)(parts:List (Nat×Operand)):List (Nat×Nat×Bool×Bool)->Nat->Nat->Option BC
 | [],_,o=>if o=zs.length then some ([],[],[])else none
 |f::r,i,o=>(Mm g C zs parts f i).bind λa=>if f.1=o/\a.1.length=f.2.1/\f.2.1≠0 then(Vx g C zs parts r (i+1) (o+f.2.1)).map λb=>(a.1++b.1,a.2.1++b.2.1,a.2.2++b.2.2)else none
def U7(g:Gam)(C:Zg)(zs:List V)(parts:List (Nat×Operand))(fs:List (Nat×Nat×Bool×Bool)):Option BC:=
 if TG (parts.map (·.1))&&parts.all (λp=>decide (p.1<fs.length))then Vx g C zs parts fs 0 0 else none
def Z1J(cs:List (CK×E)):Bool:=cs.all λc=>c.1==.fz
def Br(P:Program)(T:TypeId):Option (List (Nat×Nat×Bool×Bool)):=
 match tdOf P T with
 |.st fs=>some fs
 |.ar n el=>if okT P el then some ((List.range n).map λi=>(i*P.cellsOf el,P.cellsOf el,Zn P el,Xu P el))else none
 |_=>none
def FF(c:Ctx)(g:Gam)(C:Zg)(T:TypeId)(parts:List (Nat×Operand)):PK:=
 (Br c.P T).bind λfs=>(zeroCells c.P T).bind λzs=>(U7 g C zs parts fs).bind λb=>
  if b.2.2.isEmpty then
   let e:=E.ag (b.1.map (·.2))
   if b.2.1.isEmpty&& !Z1J b.1 then some (.ags b.1,[e])else some (.val e b.2.1,[e])
  else none
def JW(c:Ctx)(dst:Option Nat)(el:TypeId)(e:E)(sh:List Nat):PK:=
 match dst with
 |some d=>if c.own d&&sh.isEmpty then some (.own el e,[e])else some (.val e sh,[e])
 |none=>none
def VQ(c:Ctx)(g:Gam)(C:Zg)(dst:Option Nat)(T:TypeId)(n:Nat)(parts:List (Nat×Operand)):PK:=
 match tdOf c.P T with
 | .sl el=>(opsF g C (Xu c.P el) (parts.map (·.2))).bind λes=>
   if parts.map (·.1)=List.range n/\n<256/\c.P.cellsOf el<256/\elOk c.P el=true/\(Zn c.P el=true\/c.P.cellsOf el=1)then JW c dst el (.lit (es.1.map (tyE (Zn c.P el) (c.P.cellsOf el)))) es.2 else none
 |_=>none
def G9:Operand->Operand->Bool
 |.tmp t,.tmp u=>t==u
 |.const (.int _ x),.const (.int _ y)=>x==y
 |_,_=>false
def FI(c:Ctx)(g:Gam)(C:Zg)(dst:Option Nat)(T:TypeId)(n m:Operand):PK:=
 match tdOf c.P T with
 | .sl el=>(zeroCells c.P el).bind λz=>(opE g C n).bind λa=>
   if G9 n m&&elOk c.P el&&(Zn c.P el||z.length==1)then JW c dst el (.mk (if Zn c.P el then .agg z else z.headD (.agg [])) a.1) []else none
 |_=>none
def Z0g(c:Ctx)(g:Gam)(C:Zg)(T:TypeId)(x:Operand):PK:=
 match c.P.underlying T with
 |some (.slice _)=>(opE g C x).map λa=>(.val (.len a.1) [],[.len a.1])
 |some (.array n _)=>some (.val (.c (.int .i64 n)) [],[])
 |some (.map _ _)=>(opE g C x).map λa=>(.val (.mlen a.1) [],[.mlen a.1])
 |_=>none
def zI(g:Gam)(C:Zg):List Operand->Option (List Nat)
 | []=>some []
 |x::l=>match x,opK g C x with
  |.tmp t,.mem _=>(zI g C l).map (t:: ·)
  |_,_=>none
def SI(g:Gam)(C:Zg)(f:Go.Fn)(first captured:List Operand):PK:=
 match f,first,captured with
 |.func f,[],[]=>some (.val (.c (.fn f)) [],[])
 |.func f,[],l=>(zI g C l).map λts=>(.clo f ts,[])
 |_,_,_=>none
def kcOf(P:Program)(t:TypeId):Option KC:=
 match P.underlying t with
 |some .bool=>some .b
 |some (.int k)=>some (.i k)
 |some .string=>some .s
 |_=>none
def Ot(P:Program)(t:TypeId):Option V:=
 ((P.info? t).bind (·.zero)).bind λz=>match z with
   |.agg cs=>(cs.toList.mapM Uy).map .agg
   |v=>Uy v
def EQ(P:Program)(t:TypeId):Bool:=
 match P.underlying t with
 |some (.map _ _)=>true
 |_=>false
def Jc(c:Ctx)(T:TypeId):PK:=if EQ c.P T then some (.own T (.c (.mp 0 [] [])),[])else none
def VR(c:Ctx)(g:Gam)(C:Zg)(T:TypeId)(x k:Operand)(ok:Bool):PK:=
 match c.P.underlying T with
 |some (.map kt el)=>(kcOf c.P kt).bind λkc=>(Ot c.P el).bind λz=>(opE g C x).bind λa=>(opE g C k).map λb=>
   let e:=E.lk kc a.1 b.1 z ok
   (.val e a.2,[e])
 |_=>none
def M5(P:Program)(T:TypeId):Bool:=
 match P.underlying T with
 |some (.map _ el)=>Xu P el
 |_=>false
def LZ(c:Ctx)(g:Gam)(C:Zg)(T:TypeId)(x k:Operand)(ok:Bool):PK:=
 (VR c g C T x k ok).bind λr=>match r.1 with
 |.val e sh=>let y:=flE (!ok&&M5 c.P T) (e,sh);some (.val y.1 y.2,[y.1])
 |_=>none
def pkMM(g:Gam)(C:Zg)(mx:Bool)(x y:Operand):PK:=
 (opE g C x).bind λa=>(opE g C y).map λb=>let e:=if mx then E.mx a.1 b.1 else .mn a.1 b.1;(.val e [],[e])
def R1(fl:Bool)(b:E×List Nat):E×List Nat:=if b.2.isEmpty then b else if fl then(.fls b.1,[])else b
def LX(c:Ctx)(g:Gam)(C:Zg)(dst:Option Nat)(T U:TypeId)(x y:Operand):PK:=
 match tdOf c.P T with
 |.sl el=>if T=U/\elOk c.P el=true then
   match opK g C x with
   | .nil=>(opE g C y).bind λb=>
     let y:=R1 (Xu c.P el) b
     if(match dst with|some d=>c.own d|none=>false)&& !y.2.isEmpty then none else JW c dst el (.app (.c (.sl [])) y.1 (c.P.cellsOf el)) y.2
   |_=>none
  else none
 |_=>none
def pk(c:Ctx)(g:Gam)(C:Zg)(o:Oper):PK:=
 match o.op with
 |.move x=>FJ g C x
 |.nilCheck x=>SJ g C x
 |.assign x=>LY c g C o.type x
 |.alloc T=>A2 c T
 |.box T x=>NT c g C T x
 |.binOp op T x y _=>NS c g C op T x y
 |.unOp op _ x=>pkUn g C op x
 |.convert src dst x=>Mn c g C src dst x
 |.extract x i=>Z0f c g C o.type x i
 |.load T a=>FH c g C T a
 |.fieldAddr T a f=>A4 c g C T a f
 |.indexAddr T x i=>UZ c g C T x i
 |.field T x f=>NU c g C T x f
 |.index T x i=>A6 c g C T x i
 |.slice T x lo hi none=>A8 c g C T x lo hi
 |.build T parts=>FF c g C T parts.toList
 |.buildSlice T n parts=>VQ c g C o.dst T n parts.toList
 |.makeSlice T n m=>FI c g C o.dst T n m
 |.makeFunc f first captured=>SI g C f first.toList captured.toList
 |.makeMap T none=>Jc c T
 |.lookup T x k ok=>LZ c g C T x k ok
 | .call {callee:=.builtin .len,args,argTypes}=>match args.toList,argTypes.toList with
   | [x],[T]=>Z0g c g C T x
   |_,_=>none
 | .call {callee:=.builtin .min,args, .. }=>match args.toList with
   | [x,y]=>pkMM g C false x y
   |_=>none
 | .call {callee:=.builtin .max,args, .. }=>match args.toList with
   | [x,y]=>pkMM g C true x y
   |_=>none
 | .call {callee:=.builtin .append,args,argTypes}=>match args.toList,argTypes.toList with
   | [x,y],[T,U]=>LX c g C o.dst T U x y
   |_,_=>none
 |_=>none
inductive FN where
 |id (f:FuncId)
 |e (x:E)
 deriving Inhabited
def FN.es:FN->List E
 |.id _=>[]
 |.e x=>[x]
inductive EF where
 |lt (i:Nat) (C:Zg) (e:E)
 |call (i:Nat) (C:Zg) (f:FN) (fr fl:Bool) (args:List E)
 |callm (i:Nat) (C:Zg) (f:FN) (ks:List OT) (args:List E)
 deriving Inhabited
inductive OV where
 |v (e:E)
 |m (l:List E)
 |no
 deriving Inhabited
structure Reg where
 efs:List EF
 chks:List (Zg×E)
 outs:List (Nat×OV)
 deriving Inhabited
structure OS where
 d:Gam
 ps:List Nat
 rb:List Nat
 fz:List Nat
 efs:List EF
 chks:List (Zg×E)
 deriving Inhabited
def i7:CK->CK
 |.own _=>.fz
 |k=>k
def UP:TK->TK
 |.own _ e=>.val e []
 |.ags cs=>if Ye cs then .no else .val (.ag (cs.map (·.2))) []
 |.mem cs=>.mem (cs.map λc=>(i7 c.1,c.2))
 |k=>k
def Sw(fz:List Nat):TK->Bool
 |.pe q _ _ _ _=>fz.contains q
 |_=>false
def XB(p:Nat):TK->Bool
 |.val _ sh=>sh.contains p
 |.ref q=>p==q
 |.refm q _=>p==q
 |.pc _ _ sh=>sh.contains p
 |.pe q _ _ _ _=>p==q
 |.big _ sh=>sh.contains p
 |_=>false
def leads(p:Nat):TK->Bool
 |.pa q _ _ _ _=>p==q
 |.pm q _=>p==q
 |.clo _ caps=>caps.contains p
 |_=>false
def calm(ps rb fz:List Nat)(k:TK):Bool:= !(ps.any λp=>XB p k)&& !(rb.any λp=>leads p k)&& !Sw fz k
def Wc(ps rb fz:List Nat)(g:Gam):Gam:=g.filterMap λx=>if calm ps rb fz x.2.2 then none else some (x.1,[],.no)
def Xj(fz:List Nat)(g:Gam):Gam:=fz.map λp=>(p,(g.at p).1,UP (g.at p).2)
def frz(fz:List Nat)(g:Gam):Gam:=Wc [] [] fz g++Xj fz g++g
def Zw(g:Gam):List Nat:=g.map (·.1)
structure MS where
 d:Gam
 ps:List Nat
 rb:List Nat
 fz:List Nat
 es:List E
 deriving Inhabited
def yn(g:Gam)(fl:Bool)(x:Operand):Option (E×List Nat):=(opE g [] x).map λa0=>flE fl a0
def Un(cs:List (CK×E))(o:Nat)(new:List (CK×E)):List (CK×E):=cs.take o++new++cs.drop (o+new.length)
def putM(g:Gam)(p o:Nat)(new:List (CK×E)):Option TK:=
 (memOf g p).bind λcs=>if o+new.length<=cs.length then some (.mem (Un cs o new))else none
def B8(c:Ctx)(g:Gam)(d:Nat):TK->Option (Nat×TypeId×E)
 |.ref p=>if c.tr.contains d&&p !=d then(ownOf g p).map λy=>(p,y.1,y.2)else none
 |_=>none
def RT(c:Ctx)(g:Gam)(ty:TypeId)(d:Nat)(x:Operand):Option MS:=
 match x,opK g [] x with
 |.tmp t,.own ty e=>if t=d\/(g.at t).1≠[]then none else some {d:=[(d,[],.own ty e),(t,[],.no)],ps:=[d,t],rb:=[d,t],fz:=[],es:=[]}
 |.tmp t,.mem cs=>if t=d\/(g.at t).1≠[]then none else some {d:=[(d,[],.mem cs),(t,[],.no)],ps:=[d,t],rb:=[d,t],fz:=[],es:=[]}
 | .tmp _,.pm p 0=>if c.tr.contains d&&p !=d then(memOf g p).bind λcs=>if Ye cs then none else
   some {d:=[(d,[],.val (.pt none (cs.map (·.2))) []),(p,[],.no)],ps:=[d,p],rb:=[d,p],fz:=[],es:=[.pt none (cs.map (·.2))]}else none
 |_,.nil=>some {d:=[(d,[],.nil)],ps:=[d],rb:=[d],fz:=[],es:=[]}
 |_,k=>match B8 c g d k with
  |some (p,ty,e)=>some {d:=[(d,[],.own ty e),(p,[],.no)],ps:=[d,p],rb:=[d,p],fz:=[],es:=[]}
  |none=>(yn g (Xu c.P ty) x).map λa=> {d:=[(d,[],.val a.1 [])],ps:=[d],rb:=[d],fz:=a.2,es:=[a.1]}
def RU(c:Ctx)(g:Gam)(T:TypeId)(p o:Nat)(x:Operand):Option MS:=
 let n:=c.P.cellsOf T
 if Zn c.P T then
  match x,opK g [] x with
  |.tmp t,.ags cs=>if cs.length=n/\t≠p/\(g.at t).1=[]then(putM g p o cs).map λk=> {d:=[(p,[],k),(t,[],.no)],ps:=[p,t],rb:=[t],fz:=[],es:=[]}else none
  |_,_=>(yn g (Xu c.P T) x).bind λa=>let e:=tyE true n a.1;(putM (frz a.2 g) p o ((List.range n).map λj=>(CK.fz,E.fld e j))).map λk=> {d:=[(p,[],k)],ps:=[p],rb:=[],fz:=a.2,es:=[e]}
 else match x,opK g [] x with
  |.tmp t,.own ty e=>if t≠p/\(g.at t).1=[]then(putM g p o [(.own ty,e)]).map λk=> {d:=[(p,[],k),(t,[],.no)],ps:=[p,t],rb:=[t],fz:=[],es:=[]}else none
  |_,.nil=>(putM g p o [(.nil,.c (.sl []))]).map λk=> {d:=[(p,[],k)],ps:=[p],rb:=[],fz:=[],es:=[]}
  |_,_=>(yn g (Xu c.P T) x).bind λa=>let e:=oneE a.1;(putM (frz a.2 g) p o [(.fz,e)]).map λk=> {d:=[(p,[],k)],ps:=[p],rb:=[],fz:=a.2,es:=[e]}
def LO(c:Ctx)(g:Gam)(T:TypeId)(p:Nat)(i:Option Nat)(j:E)(o k:Nat)(x:Operand):Option MS:=
 (yn g (Xu c.P T) x).bind λa=>let e:=tyE (Zn c.P T) (c.P.cellsOf T) a.1;let g:=frz a.2 g
  if a.2.contains p then none else
  match i with
  |none=>(ownOf g p).bind λx=>let e':=E.upd x.2 j o e;if c.P.cellsOf x.1=k then some {d:=[(p,[],.own x.1 e')],ps:=[p],rb:=[],fz:=a.2,es:=[e']}else none
  |some q=>(memOf g p).bind λcs=>match cs[q]? with
   |some (.own ty,e0)=>let e':=E.upd e0 j o e;if c.P.cellsOf ty=k then(putM g p q [(.own ty,e')]).map λk=> {d:=[(p,[],k)],ps:=[p],rb:=[],fz:=a.2,es:=[e']}else none
   |_=>none
def LN(c:Ctx)(g:Gam)(T:TypeId)(p o:Nat)(j:E)(n k:Nat)(x:Operand):Option MS:=
 (yn g (Xu c.P T) x).bind λa1=>let a:=(tyE (Zn c.P T) (c.P.cellsOf T) a1.1,a1.2);if !a.2.isEmpty||c.P.cellsOf T≠k then none else
  (memOf g p).bind λcs=>
   let part:=(cs.drop o).take (n*k)
   if part.length=n*k/\part.all (λx=>x.1==.fz)then
    let e':=E.aput (if X4 (c.ix p) o part then .mm (c.ix p) o (n*k)else .ag (part.map (·.2))) j n k a.1
    (putM g p o ((List.range (n*k)).map λi=>(CK.fz,E.fld e' i))).map λk=> {d:=[(p,[],k)],ps:=[p],rb:=[],fz:=[],es:=[e']}
   else none
def jQ(c:Ctx)(g:Gam)(d:Nat)(T:TypeId)(parts:List (Nat×Operand)):Option MS:=
 (Br c.P T).bind λfs=>(zeroCells c.P T).bind λzs=>(U7 g [] zs parts fs).bind λb=>
  let ts:=b.2.2
  if ts.any (λt=>b.2.1.contains t||t==d|| !(g.at t).1.isEmpty)|| !TG ts then none else
  some {d:=(d,[],.ags b.1)::ts.map λt=>(t,[],.no),ps:=d::ts,rb:=d::ts,fz:=b.2.1,es:=[.ag (b.1.map (·.2))]}
def Fe(c:Ctx)(g:Gam)(T:TypeId)(a x:Operand):Option MS:=
 if !okT c.P T|| !(Zn c.P T||c.P.cellsOf T==1)then none else
 match opK g [] a with
 |.mem _=>RU c g T (yX a) 0 x
 |.pm p o=>RU c g T p o x
 |.pe p i j o k=>LO c g T p i j o k x
 |.pa p o j n k=>LN c g T p o j n k x
 |_=>none
def LM(c:Ctx)(g0:Gam)(d:Nat)(T U:TypeId)(x y:Operand):Option MS:=
 match tdOf c.P T with
 |.sl el=>if T=U/\elOk c.P el=true then
   (opE g0 [] y).bind λb0=>
    let b:=R1 (Xu c.P el) b0
    let g:=frz b.2 g0
    match x,opK g [] x with
    |_,.nil=>let e':=E.app (.c (.sl [])) b.1 (c.P.cellsOf el);some {d:=[(d,[],.own el e')],ps:=[d],rb:=[d],fz:=b.2,es:=[e']}
    |.tmp t,.own ty e=>if ty=el/\t≠d/\(g.at t).1=[]then let e':=E.app e b.1 (c.P.cellsOf el);some {d:=[(d,[],.own ty e'),(t,[],.no)],ps:=[d,t],rb:=[d,t],fz:=b.2,es:=[e']}else none
    |_,.ref p=>(ownOf g p).bind λx=>if x.1=el/\p≠d then let e':=E.app x.2 b.1 (c.P.cellsOf el);some {d:=[(d,[],.own x.1 e'),(p,[],.no)],ps:=[d,p],rb:=[d,p],fz:=b.2,es:=[e']}else none
    |_,.refm p i=>(memOf g p).bind λcs=>match cs[i]? with
     |some (.own ty,e)=>if ty=el/\p≠d then let e':=E.app e b.1 (c.P.cellsOf el);(putM g p i [(.dead,.c (.sl []))]).map λk=> {d:=[(d,[],.own ty e'),(p,[],k)],ps:=[d,p],rb:=[d],fz:=b.2,es:=[e']}else none
     |_=>none
    |_,_=>none
  else none
 |_=>none
def Nz(c:Ctx)(g:Gam)(d:Nat)(T:TypeId)(x:Operand):Option MS:=
 match x,opK g [] x with
 |.tmp t,.own ty e=>if t≠d/\(g.at t).1=[]then some {d:=[(d,[],.mem [(.own ty,e)]),(t,[],.no)],ps:=[d,t],rb:=[d,t],fz:=[],es:=[]}else none
 |.tmp t,.ags cs=>if t≠d/\(g.at t).1=[]then some {d:=[(d,[],.mem cs),(t,[],.no)],ps:=[d,t],rb:=[d,t],fz:=[],es:=[]}else none
 |_,_=>none
def Nx(g:Gam)(x:Operand):Option (Nat×Option Nat×TypeId×E):=
 match x,opK g [] x with
 |.tmp t,.own ty e=>if(g.at t).1=[]then some (t,none,ty,e)else none
 |_,.ref p=>(ownOf g p).map λy=>(p,none,y.1,y.2)
 |_,.refm p i=>(memOf g p).bind λcs=>match cs[i]? with
  |some (.own ty,e)=>some (p,some i,ty,e)
  |_=>none
 |_,_=>none
def Mp(g:Gam)(p:Nat)(i:Option Nat)(ty:TypeId)(e:E):Option TK:=
 match i with
 |none=>some (.own ty e)
 |some i=>putM g p i [(.own ty,e)]
def HT(g:Gam)(T:TypeId)(m:Operand)(f:E->E):Option MS:=
 (Nx g m).bind λx=>if x.2.2.1=T then(Mp g x.1 x.2.1 T (f x.2.2.2)).map λk=> {d:=[(x.1,[],k)],ps:=[x.1],rb:=[],fz:=[],es:=[f x.2.2.2]}else none
def UU(c:Ctx)(g:Gam)(T:TypeId)(m k v:Operand):Option MS:=
 match c.P.underlying T with
 |some (.map kt _)=>(kcOf c.P kt).bind λkc=>(opE g [] k).bind λb=>(opE g [] v).bind λa=>if !a.2.isEmpty then none else HT g T m λe=>.mput kc e b.1 a.1
 |_=>none
def jS(c:Ctx)(g:Gam)(T:TypeId)(m:Operand):Option MS:=if EQ c.P T then HT g T m .mclr else none
def mk(c:Ctx)(g:Gam)(o:Oper):Option MS:=
 match o.op,o.dst with
 |.assign x,some d=>RT c g o.type d x
 |.move x,some d=>RT c g o.type d x
 |.store T a x,none=>Fe c g T a x
 |.build T parts,some d=>jQ c g d T parts.toList
 |.box T x,some d=>Nz c g d T x
 |.mapUpdate T m k v,none=>UU c g T m k v
 | .call {callee:=.builtin .clear,args,argTypes},none=>match args.toList,argTypes.toList with
   | [x],[T]=>jS c g T x
   |_,_=>none
 | .call {callee:=.builtin .append,args,argTypes},some d=>match args.toList,argTypes.toList with
   | [x,y],[T,U]=>LM c g d T U x y
   |_,_=>none
 |_,_=>none
def Ll(c:Ctx)(ops:Array Oper)(g:Gam)(o:Oper):Option Zg:=
 match o.guard with
 |none=>some []
 |some (j,want)=>((ops[j]?).bind (·.dst)).bind λt=>match g.at t with
  |(C,.val (.s u) [])=>if u=c.ix t then some (C++[(t,want)])else none
  |_=>none
def ixC(c:Ctx)(C:Zg):Zg:=C.map λx=>(c.ix x.1,x.2)
def FK(c:Ctx)(g:Gam)(C:Zg)(x a b:Operand):PK:=
 match x,opK g C x with
 | .tmp t,.val (.s u) []=>if u≠c.ix t then none else(opE g (C++[(t,true)]) a).bind λy=>(opE g (C++[(t,false)]) b).map λz=>
   let e:=E.ite (.s (c.ix t)) y.1 z.1
   (.val e (y.2++z.2),[e])
 |_,_=>none
def DL(g:Gam)(C:Zg)(o:Oper):Option (FN×List Nat×List Operand×List TypeId):=
 match o.op with
 |.call {callee:=.value (.func f),args,argTypes}=>some (.id f,[],args.toList,argTypes.toList)
 | .call {callee:=.value (.tmp t),args,argTypes}=>match opK g C (.tmp t)with
   |.val e sh=>some (.e e,sh,args.toList,argTypes.toList)
   |_=>none
 |_=>none
def Ic(g:Gam)(t:Nat):Bool:=
 match(g.at t).2 with
 |.own .. |.mem _=>true
 |_=>false
def EV:TK->List Nat
 |.ref p|.refm p _|.pm p _|.pe p _ _ _ _|.pa p _ _ _ _=>[p]
 |.val _ sh|.pc _ _ sh|.big _ sh=>sh
 |.clo _ caps=>caps
 |_=>[]
def i9(ops:Array Oper)(o:Oper):List Nat:=
 match o.guard with
 |none=>[]
 |some (j,_)=>((ops[j]?).bind (·.dst)).toList
def QU(ops:Array Oper)(g:Gam)(o:Oper):List Nat:=
 let ts:=(o.op.operands.toList.filterMap λx=>match x with|.tmp t=>some t|_=>none)++i9 ops o++o.dst.toList
 let us:=ts++ts.flatMap λt=>EV (g.at t).2
 us++us.flatMap λt=>EV (g.at t).2
def only(g:Gam)(R:List Nat):Gam:=R.map λt=>(t,g.at t)
def Kr(c:Ctx):FN->Bool
 |.id f=>c.fresh f
 |.e _=>false
def zh(c:Ctx)(g:Gam)(C:Zg)(ty:TypeId)(d:Nat)(f:FN)(sh:List Nat)(args:List Operand)(ts:List TypeId):Option OS:=
 if !(g.at d).2.isNo then none else(DE c.P g C args ts).map λaq_=>
  let fl:=(!(aq_.2.1++sh).isEmpty||aq_.2.2)&& !Kr c f&&Xu c.P ty
  {d:=[(d,C,if aq_.2.2&& !(fl||Kr c f)then .big (.s (c.ix d)) (aq_.2.1++sh)else .val (.s (c.ix d)) (if fl||Kr c f then []else aq_.2.1++sh))],ps:=[d],rb:=[d],fz:=[],efs:=[.call (c.ix d) (ixC c C) f (Kr c f) fl aq_.1],chks:=[]}
inductive AP where
 |op (x:Operand) (ty:TypeId)
 |cap (p:Nat)
 deriving Inhabited
def leCK(P:Program):CK->CK->Bool
 |.own a,.own b=>a==b
 |.nil,.own a=>decide (0<P.cellsOf a)
 |.nil,.nil|.nil,.fz|.fz,.fz|.own _,.fz=>true
 |_,.dead=>true
 |_,_=>false
def CB(P:Program):List CK->List CK->Bool
 | [],[]=>true
 |a::l,b::r=>leCK P a b&&CB P l r
 |_,_=>false
def KQ(P:Program):List CK->List CK->Bool
 | [],[]=>true
 |a::l,b::r=>(a==b||(match a,b with|.nil,.own ty=>decide (0<P.cellsOf ty)|.nil,.fz=>true|_,_=>false))&&KQ P l r
 |_,_=>false
def Od(g:Gam)(C:Zg):AP->Option Nat
 |.cap p=>some p
 | .op (.tmp t) _=>match opK g C (.tmp t)with
   |.mem _=>some t
   |.pm p 0=>some p
   |_=>none
 |_=>none
def Z0G(g:Gam)(C:Zg):AP->Option Nat
 | .op (.tmp t) _=>match opK g C (.tmp t)with
   |.own _ _=>some t
   |.ref p=>some p
   |_=>none
 |_=>none
def VO(c:Ctx)(g:Gam)(C:Zg)(k:OT)(x:AP):Option (E×Option Nat):=
 match k with
 | .fz=>match x with
   |.op x ty=>(opE g C x).bind λa0=>let a:=flE (Xu c.P ty) a0;if a.2.isEmpty then some (a.1,none)else none
   |.cap _=>none
 | .mem l=>(Od g C x).bind λp=>(memOf g p).bind λcs=>
   if !Ye cs&&KQ c.P (cs.map (·.1)) l then some (.ag (cs.map (·.2)),some p)else none
 |.own ty=>(Z0G g C x).bind λp=>(ownOf g p).bind λy=>if y.1=ty then some (y.2,some p)else none
 |_=>none
def W4(c:Ctx)(g:Gam)(C:Zg):List OT->List AP->Option (List (E×Option Nat))
 | [],[]=>some []
 |k::ks,x::l=>(VO c g C k x).bind λa=>(W4 c g C ks l).map (a:: ·)
 |_,_=>none
def newK(i q:Nat):OT->TK
 |.mem l=>.mem (l.zipIdx.map λx=>(x.1,.fld (.ext (.s i) q) x.2))
 |.own ty=>.own ty (.ext (.s i) q)
 |_=>.no
def Xv(i:Nat):Nat->List OT->List (E×Option Nat)->Gam
 |q,k::ks,(_,some p)::l=>(p,[],newK i q k)::Xv i (q+1) ks l
 |q,_::ks,(_,none)::l=>Xv i q ks l
 |_,_,_=>[]
def Jy(c:Ctx)(g all:Gam)(C:Zg)(d:Nat)(fn:FN)(ks:List OT)(aps:List AP):Option OS:=
 if !(g.at d).2.isNo then none else(W4 c g C ks aps).bind λaq_=>
  let ps:=aq_.filterMap (·.2)
  if !TG ps||ps.contains d then none else
  some {d:=(d,C,.val (if ps.isEmpty then .s (c.ix d)else .ext (.s (c.ix d)) 0) [])::Xv (c.ix d) 1 ks aq_++Wc (d::ps) [d] [] all,ps:=d::ps,rb:=[d],fz:=[],
        efs:=[.callm (c.ix d) (ixC c C) fn ks (aq_.map (·.1))],chks:=[]}
def UK(args:List Operand)(ts:List TypeId):List AP:=
 match args,ts with
 |x::l,t::r=>.op x t::UK l r
 |x::l,[]=>.op x 0::UK l []
 | [],_=>[]
def j7(c:Ctx)(g:Gam)(C:Zg)(o:Oper):Option (FN×List OT×List AP):=
 match o.op with
 |.call {callee:=.value (.func f),args,argTypes}=>(c.sig f).map λks=>(.id f,ks,UK args.toList argTypes.toList)
 | .call {callee:=.value (.tmp t),args,argTypes}=>match opK g C (.tmp t)with
   |.clo f caps=>(c.sig f).map λks=>(.id f,ks,UK args.toList argTypes.toList++caps.map .cap)
   |.val e _=>(c.sig (1000000+argTypes.toList.headD 0)).map λks=>(.e e,ks,UK args.toList argTypes.toList)
   |_=>none
 |_=>none
def Ha(g:Gam)(o:Oper):Bool:=match o.dst with|some d=>Ic g d|none=>true
def Pc(g:Gam)(o:Oper):Bool:=match o.dst with|some d=> !(g.at d).2.isNo|none=>true
def Pb(o:Oper)(ps:List Nat):Bool:=match o.dst with|some d=>ps.contains d|none=>true
def M4(c:Ctx)(o:Oper):Bool:=match o.dst with|some d=> !decide (d<c.n)|none=>false
def pkOf(c:Ctx)(g:Gam)(C:Zg)(o:Oper):PK:=
 match o.op with
 |.pick x a b=>FK c g C x a b
 |.assign _=>if Ha g o then none else pk c g C o
 |.move _=>if Pc g o then none else pk c g C o
 |_=>pk c g C o
def Gn(c:Ctx)(lets:List Nat)(g:Gam)(C:Zg)(d:Nat)(k:TK)(es:List E):Option OS:=
 if lets.contains d then
  match k with
  |.val e []=>if !(g.at d).2.isNo then none else some {d:=[(d,C,.val (.s (c.ix d)) [])],ps:=[d],rb:=[d],fz:=[],efs:=[.lt (c.ix d) (ixC c C) e],chks:=es.map λe=>(ixC c C,e)}
  |_=>none
 else if XB d k||leads d k then none else some {d:=[(d,C,k)],ps:=[d],rb:=[d],fz:=[],efs:=[],chks:=es.map λe=>(ixC c C,e)}
def Og(g all:Gam)(m:MS):OS:= {d:=m.d++Wc m.ps m.rb m.fz all++Xj m.fz g,ps:=m.ps,rb:=m.rb,fz:=m.fz,efs:=[],chks:=m.es.map λe=>([],e)}
def Jz(c:Ctx)(lets:List Nat)(ops:Array Oper)(all:Gam)(o:Oper):Option OS:=
 let g:=only all (QU ops all o)
 if M4 c o then none else
 (Ll c ops g o).bind λC=>
 match j7 c g C o,o.dst with
 |some (fn,ks,aps),some d=>Jy c g all C d fn ks aps
 |some _,none=>none
 |none,_=>
 match DL g C o,o.dst with
 |some (f,sh,args,ts),some d=>zh c g C o.type d f sh args ts
 |some _,none=>none
 |none,_=>match pkOf c g C o,o.dst with
  |some (k,es),some d=>Gn c lets g C d k es
  |_,_=>if o.guard.isSome then none else(mk c g o).bind λm=>if m.ps.all (λp=>(Zw m.d).contains p)&&m.rb.all (λp=>m.ps.contains p)&&Pb o m.ps then some (Og g all m)else none
def Ia(ops:Array Oper):List Nat:=
 ops.toList.filterMap λo=>match o.op,o.dst with
  |.assign (.tmp t),some _=>some t
  |.store _ _ (.tmp t),_=>some t
  |.call {callee:=.builtin .append,args, .. },_=>match args.toList with|.tmp t::_=>some t|_=>none
  |_,_=>none
def FA(ops:Array Oper):List Nat:=
 let l:=Ia ops
 l++ops.toList.flatMap λo=>match o.op,o.dst with
  |.build _ parts,some d=>if l.contains d then parts.toList.filterMap λx=>match x.2 with|.tmp t=>some t|_=>none else []
  |_,_=>[]
def Bg(ops:Array Oper):List Nat:=
 ops.toList.filterMap λo=>match o.guard with
  |some (j,_)=>(ops[j]?).bind (·.dst)
  |none=>none
structure XS where
 os:OS
 R:List Nat
 T:List Nat
 deriving Inhabited
def Tof(xs:List XS)(e:Nat):List Nat:=match xs[e]? with|some x=>x.T|none=>[]
def VA(o:Oper):List Nat:=(o.after.toList.filter λe=>Region.binds .any e).map (·.on)
def Dn(draw:Bool)(xs:List XS)(o:Oper):List Nat:=
 if draw then(List.range xs.length).filter λj=>(VA o).any λe=>e==j||(Tof xs e).contains j
 else List.range xs.length
def SU(c:Ctx)(draw:Bool)(lets:List Nat)(ops:Array Oper):List Oper->Gam->List XS->Option (Gam×List XS)
 | [],g,xs=>some (g,xs)
 |o::l,g,xs=>if draw&& !(VA o).all (λe=>decide (e<xs.length))then none else(Jz c lets ops g o).bind λos=>SU c draw lets ops l (os.d++g) (xs++[{os,R:=QU ops g o,T:=Dn draw xs o}])
def Jf(os:OS)(g:Gam):Bool:=g.all λx=>(Zw os.d).contains x.1||calm os.ps os.rb os.fz x.2.2
def DD(a b:List Nat):Bool:=a.all λt=> !b.contains t
def Bm(x:XS)(i:Nat)(y:XS)(j:Nat):Bool:=
 j==i||((y.T.contains i||Jf x.os y.os.d)&&(x.T.contains j||y.T.contains i||(DD (Zw y.os.d) (Zw x.os.d)&&DD (Zw y.os.d) x.R)))
def LT(g0:Gam)(xs:List XS):Bool:=
 xs.zipIdx.all λx=>(x.1.os.ps.all λp=>(Zw x.1.os.d).contains p)&&(x.1.os.fz.all λp=>(Zw x.1.os.d).contains p)&&Jf x.1.os g0&&
  (x.1.T.all λj=>j<x.2)&&xs.zipIdx.all λy=>Bm x.1 x.2 y.1 y.2
abbrev SS:=List (Nat×OT)
def Kj(c:Ctx)(t:Nat):OT->TK
 |.fz=>.val (.s (c.ix t)) []
 |.own ty=>.own ty (.s (c.ix t))
 |.nil=>.nil
 |.mem l=>.mem (l.zipIdx.map λx=>(x.1,.m (c.ix t) x.2))
 |.clo f caps=>.clo f caps
def Y0(c:Ctx)(S:SS):Gam:=S.map λx=>(x.1,[],Kj c x.1 x.2)
def outK:TK->Option OT
 |.val _ _=>some .fz
 |.own ty _=>some (.own ty)
 |.nil=>some .nil
 |.mem cs=>some (.mem (cs.map (·.1)))
 |.clo f caps=>some (.clo f caps)
 |_=>none
def XX(keep:List Nat)(g:Gam):List Nat:=keep.flatMap λt=>match g.at t with
 |([],.val _ sh)=>sh
 |_=>[]
def ovK:TK->OV
 |.val e _=>.v e
 |.own _ e=>.v e
 |.nil=>.v (.c (.sl []))
 |.mem cs=>.m (cs.map (·.2))
 |_=>.no
def TU(i:Nat):OV->Bool
 |.v (.s j)=>i==j
 |.m l=>(l.zipIdx.all λx=>match x.1 with|.m j k=>i==j&&k==x.2|_=>false)
 |_=>false
def q9(keep:List Nat)(g:Gam):SS:=keep.filterMap λt=>if(g.at t).1.isEmpty then(outK (g.at t).2).map λk=>(t,k)else none
def SS.at(S:SS)(t:Nat):Option OT:=
 match S with
 | []=>none
 |(u,x)::r=>if u=t then some x else SS.at r t
def UG(c:Ctx)(S:SS)(g:Gam)(t:Nat):Option (Nat×OV):=
 let o:=if(g.at t).1.isEmpty then ovK (g.at t).2 else .no
 if TU (c.ix t) o then none
 else match S.at t,(g.at t).2 with
  |some .nil,.nil=>none
  |none,.no=>none
  |_,_=>some (c.ix t,o)
def Z0b(c:Ctx)(S:SS)(keep:List Nat)(g:Gam):List (Nat×OV):=keep.filterMap (UG c S g)
def efE:EF->List (Zg×E)
 |.lt _ C e=>[(C,e)]
 |.call _ C f _ _ aq_=>(f.es++aq_).map λe=>(C,e)
 |.callm _ C f _ aq_=>(f.es++aq_).map λe=>(C,e)
def ovE:OV->List E
 |.v e=>[e]
 |.m l=>l
 |.no=>[]
def DU(l:List (Zg×E))(x:Zg×E):Bool:=l.any λy=>UN y.1 x.1&&E.has x.2 y.2
def If:List (Zg×E)->List (Zg×E)->List (Zg×E)
 |_,[]=>[]
 |l,x::r=>let q:=If l r;if DU (l++q) x then q else x::q
def efI:EF->Nat
 |.lt i _ _=>i
 |.call i _ _ _ _ _=>i
 |.callm i _ _ _ _=>i
mutual
def E.asks(t:Nat):E->Bool
 |.s u=>t==u
 |.m u _=>t==u
 |.mm u _ _=>t==u
 |.bin _ a b|.eqv _ a b|.mn a b|.mx a b=>E.asks t a||E.asks t b
 |.idx a b _|.ai a b _ _ _|.slcl a b _|.app a b _=>E.asks t a||E.asks t b
 |.lk _ a b _ _=>E.asks t a||E.asks t b
 |.mput _ a b d=>E.asks t a||E.asks t b||E.asks t d
 |.mlen a|.mclr a=>E.asks t a
 |.un _ a|.conv _ a|.len a|.ext a _|.fld a _|.flds a _ _|.mk _ a|.star a|.isag a|.one a|.sz a _|.fl a|.fls a=>E.asks t a
 |.slc a b d _|.upd a b _ d|.aput a b _ _ d|.ite a b d=>E.asks t a||E.asks t b||E.asks t d
 |.lit l|.ag l|.pt _ l=>E.asksIn t l
 |.c _=>false
def E.asksIn(t:Nat):List E->Bool
 | []=>false
 |a::l=>E.asks t a||E.asksIn t l
end
def Yq(t:Nat):EF->Bool
 |.lt _ C e=>C.any (λx=>x.1==t)||E.asks t e
 |.call _ C f _ _ aq_=>C.any (λx=>x.1==t)||E.asksIn t (f.es++aq_)
 |.callm _ C f _ aq_=>C.any (λx=>x.1==t)||E.asksIn t (f.es++aq_)
def I6:List EF->Bool
 | []=>true
 |x::l=> !Yq (efI x) x&&l.all (λy=>efI y !=efI x&& !Yq (efI y) x)&&I6 l
def Z20(fix:List Nat)(ops:Array Oper):Bool:=ops.toList.all λo=>match o.dst with
 |some d=> !fix.contains d
 |none=>true
def jd(P:Program)(ix:Nat->Nat)(fresh:FuncId->Bool)(sig:FuncId->Option (List OT))(tr fix:List Nat)(n:Nat)(keep:List Nat)(draw:Bool)(ops:Array Oper)(S:SS):Option (Reg×SS):=
 let uses:=FA ops
 let c:Ctx:= {P,ix,own:=λt=>uses.contains t,fresh,sig,tr,n}
 let g0:=Y0 c S
 (SU c draw (Bg ops) ops ops.toList g0 []).bind λr=>
  let sh:=XX keep r.1
  let g:=frz sh r.1
  let outs:=Z0b c S keep g
  let efs:=r.2.flatMap λx=>x.os.efs
  let chks:=r.2.flatMap λx=>x.os.chks
  let asked:=(efs.flatMap efE)++(outs.flatMap λx=>(ovE x.2).map λe=>(([]:Zg),e))
  if Z20 fix ops&&LT g0 r.2&&I6 efs&&(efs.all λx=>S.all λy=>c.ix y.1 !=efI x)then
   some ({efs,chks:=If asked chks,outs},q9 keep g)
  else none
end Vm
namespace Vm
open Go
inductive Stm where
 |reg (r:Reg)
 |skip
 |seq (a b:Stm)
 |cond (c:E) (a b:Stm)
 |block (id:Nat) (a:Stm)
 |loop (keep:List Nat) (a:Stm)
 |exit (id:Nat)
 |ret
 deriving Inhabited
def Af(ops:Array Oper):List Oper->List Nat->List Nat
 | [],_=>[]
 |o::l,seen=>
  (o.op.operands.toList.filterMap λx=>match x with|.tmp t=>if seen.contains t then none else some t|_=>none)++
  Af ops l (match o.dst with|some d=>d::seen|none=>seen)
def Bq(ops:Array Oper):List Nat:=
 ops.toList.filterMap λo=>match o.dst,o.op with
  |some d,.assign _|some d,.alloc _|some d,.box _ _=>some d
  |_,_=>none
def Bf(ops:Array Oper):List Nat:=
 ops.toList.filterMap λo=>match o.dst,o.op with
  |some d,.call {callee:=.value _, .. }=>some d
  |some d,_=>if(Bg ops).contains d then some d else none
  |none,_=>none
def Yx(f:Array Oper->List Nat):Code->List Nat
 |.region _ ops _=>f ops
 |.seq a b=>Yx f a++Yx f b
 |.cond (.tmp t) a b=>t::Yx f a++Yx f b
 |.cond _ a b=>Yx f a++Yx f b
 |.block _ a|.loop a|.scope a=>Yx f a
 |_=>[]
def DV:List Nat->List Nat->List Nat
 |acc,[]=>acc.reverse
 |acc,t::l=>DV (if acc.contains t then acc else t::acc) l
def pos:List Nat->Nat->Nat
 | [],_=>0
 |u::l,t=>if u=t then 0 else pos l t+1
def leOT(P:Program):OT->OT->Bool
 |.own a,.own b=>a==b
 |.nil,.own a=>decide (0<P.cellsOf a)
 |.nil,.nil|.nil,.fz|.fz,.fz|.own _,.fz=>true
 |.mem a,.mem b=>CB P a b
 |.clo f a,.clo g b=>f==g&&a==b
 |_,_=>false
def leSS(P:Program)(S R:SS):Bool:=R.all λx=>match S.at x.1 with|some k=>leOT P k x.2|none=>false
def leO(P:Program)(S:Option SS)(R:Option SS):Bool:=match S,R with|none,_=>true|some S,some R=>leSS P S R|some _,none=>false
def m5(P:Program):CK->CK->CK
 |a,b=>if leCK P a b then b else if leCK P b a then a else match a,b with|.dead,_|_,.dead=>.dead|_,_=>.fz
def m6(P:Program):OT->OT->Option OT
 |.mem a,.mem b=>if a.length=b.length then some (.mem ((a.zip b).map λx=>m5 P x.1 x.2))else none
 |.mem _,_|_,.mem _=>none
 |a,b=>if leOT P a b then some b else if leOT P b a then some a else some .fz
def Me(P:Program)(S R:SS):SS:=S.filterMap λx=>(R.at x.1).bind λk=>(m6 P x.2 k).map λk=>(x.1,k)
def HJ(P:Program):Option SS->Option SS->Option SS
 |none,b=>b
 |a,none=>a
 |some a,some b=>some (Me P a b)
def jO(P:Program):List SS->Option SS
 | []=>none
 |S::l=>HJ P (some S) (jO P l)
structure Flow where
 n:Option SS
 x:List (Nat×SS)
 r:List SS
structure FC where
 P:Program
 ix:Nat->Nat
 fresh:FuncId->Bool
 sig:FuncId->Option (List OT)
 tr:List Nat
 fix:List Nat
 n:Nat
 keep:List Nat
def Z22(S:SS):SS:=S.map λx=>(x.1,match x.2 with|.mem l=>.mem (l.map λk=>match k with|.own _=>.fz|k=>k)|k=>k)
def Eo(P:Program)(f:SS->Option (Stm×Flow)):Nat->SS->Option SS
 |0,S=>some S
 |k+1,S=>match f S with
  |none=>Eo P f k (Z22 S)
  |some x=>match x.2.n with
  |none=>some S
  |some R=>if leSS P R S then some S else Eo P f k (Me P S R)
def comp(c:FC):Code->SS->Option (Stm×Flow)
 |.skip,S|.label _,S=>some (.skip,⟨some S,[],[]⟩)
 |.region _ ops draw,S=>(jd c.P c.ix c.fresh c.sig c.tr c.fix c.n c.keep draw ops S).map λx=>(.reg x.1,⟨some x.2,[],[]⟩)
 | .seq a b,S=>(comp c a S).bind λx=>match x.2.n with
   |none=>some x
   |some R=>(comp c b R).map λy=>(.seq x.1 y.1,⟨y.2.n,x.2.x++y.2.x,x.2.r++y.2.r⟩)
 | .cond (.tmp t) a b,S=>if S.at t=some .fz then(comp c a S).bind λx=>(comp c b S).bind λy=>
   let M:=HJ c.P x.2.n y.2.n
   if leO c.P x.2.n M&&leO c.P y.2.n M then some (.cond (.s (c.ix t)) x.1 y.1,⟨M,x.2.x++y.2.x,x.2.r++y.2.r⟩)else none else none
 | .block id a,S=>(comp c a S).bind λx=>
   let M:=HJ c.P x.2.n (jO c.P ((x.2.x.filter λy=>y.1==id).map (·.2)))
   if leO c.P x.2.n M&&x.2.x.all (λy=>y.1 !=id||leO c.P (some y.2) M)then
    some (.block id x.1,⟨M,x.2.x.filter λy=>y.1 !=id,x.2.r⟩)else none
 | .loop a,S=>(Eo c.P (comp c a) 4 S).bind λH=>(comp c a H).bind λx=>
   if leSS c.P S H&&leO c.P x.2.n (some H)then some (.loop (H.map λy=>c.ix y.1) x.1,⟨none,x.2.x,x.2.r⟩)else none
 |.exit id,S=>some (.exit id,⟨none,[(id,S)],[]⟩)
 |.scope a,S=>comp c a S
 |.ret,S=>some (.ret,⟨none,[],[S]⟩)
 |_,_=>none
inductive RK where
 |v|ag (n:Nat)|one
 deriving Inhabited
structure Fn where
 n:Nat
 keep:List Nat
 body:Stm
 res:List (Nat×RK)
 deriving Inhabited
def FU(P:Program)(ix:Nat->Nat)(f:Func):List (Nat×RK):=
 f.results.toList.map λr=>match r with|.tmp t=>(ix t,.v)|.cell a t=>(ix a,if Zn P t then .ag (P.cellsOf t)else .one)
def yV(P:Program)(S:SS):ResultVar->Bool
 |.tmp t=>match S.at t with|some (.mem _)|some (.clo _ _)|none=>false|_=>true
 |.cell t ty=>match S.at t with|some (.mem l)=>okT P ty&&l.all (λk=>k !=.dead)&&(if Zn P ty then l.length==P.cellsOf ty else decide (0<l.length))|_=>false
def Vc(ks:List OT):SS:=ks.zipIdx.filterMap λx=>match x.1 with
 |.fz=>none
 |k=>some (x.2,k)
def VW:ResultVar->Nat
 |.tmp t=>t
 |.cell t _=>t
def yT(P:Program)(f:Func)(fin:SS)(S:SS):Bool:=f.results.toList.all (yV P S)&&leSS P S fin
def Bz(f:Func)(fin:SS):Bool:=f.results.toList.all λr=>(fin.at (VW r)).isNone
def Z00(P:Program)(f:Func)(fin:SS):Option SS->Bool
 |some R=>yT P f fin R
 |none=>true
def x9(P:Program)(ix:Nat->Nat)(f:Func)(ks:List OT)(fin:SS)(fl:Flow):Bool:=
 Z00 P f fin fl.n&&fl.r.all (yT P f fin)&&fl.x.isEmpty&&(List.range ks.length).all (λt=>ix t==t)
def jj(ks:List OT):List Nat:=(Vc ks).map (·.1)
def trOf(f:Func):List Nat:=f.results.toList.filterMap λr=>match r with
 |.tmp t=>some t
 |_=>none
def Zf(P:Program)(fresh:FuncId->Bool)(sig:FuncId->Option (List OT))(ks:List OT)(fin:SS)(f:Func):Option Fn:=
 f.body.bind λcode=>
  let keep:=DV [] ((List.range ks.length)++Yx (λops=>Bq ops++Af ops ops.toList []) code)
  let ix:=pos (keep++DV [] ((Yx Bf code).filter λt=> !keep.contains t))
  let S:SS:=ks.zipIdx.map λx=>(x.2,x.1)
  (comp {P,ix,fresh,sig,tr:=trOf f,fix:=jj ks,n:=f.ntmps,keep} code S).bind λx=>
   if x9 P ix f ks fin x.2 then
    some {n:=keep.length,keep,body:=x.1,res:=FU P ix f}
   else none
end Vm
namespace Vm
open Go
structure GH where
 F:Nat->Prop
 bl:Nat->Nat->Option Nat
 K:Nat->Prop
structure Ok (B:Nat) (G:Nat->Prop) (w:World) (h:GH):Prop where
 base:B<=w.heap.size
 f_lt:∀b,h.F b->b<w.heap.size
 f_or:∀b,h.F b->G b\/B<=b
 g_F:∀b,G b->h.F b
 b_lt:∀t i b,h.bl t i=some b->B<=b/\b<w.heap.size/\¬h.F b
 inj:∀t i u j b,h.bl t i=some b->h.bl u j=some b->t=u/\i=j
 k_lt:∀b,h.K b->b<w.heap.size
 k_bl:∀t i b,h.bl t i=some b->¬h.K b
 k_F:∀b,h.F b->G b\/¬h.K b
def GH.exb(h:GH)(big:Bool)(sh:List Nat)(b:Nat):Prop:=h.F b\/∃p∈sh,∃i,(big=true\/0<i)/\h.bl p i=some b
def GH.ext(h:GH)(sh:List Nat)(b:Nat):Prop:=h.F b\/∃p∈sh,∃i,h.bl p (i+1)=some b
def GH.ext_F{h:GH}{sh:List Nat}{b:Nat}(hb:h.F b):h.ext sh b:=.inl hb
def GH.ext_nil{h:GH}{b:Nat}(hb:h.ext [] b):h.F b:=by
 obtain hb|⟨p,hp,_⟩:=hb
 ·exact hb
 grind
def GH.ext_left{h:GH}{sh r:List Nat}{b:Nat}(hb:h.ext sh b):h.ext (sh++r) b:=by
 obtain hb|⟨p,hp,x⟩:=hb
 ·exact .inl hb
 ·exact .inr ⟨p,by simp[hp],x⟩
def GH.ext_right{h:GH}{sh r:List Nat}{b:Nat}(hb:h.ext r b):h.ext (sh++r) b:=by
 obtain hb|⟨p,hp,x⟩:=hb
 ·exact .inl hb
 ·exact .inr ⟨p,by simp[hp],x⟩
def OwnL(P:Program)(B:Nat)(w:World)(h:GH)(o:Option Nat)(ty:TypeId)(x:V)(v:Value):Prop:=
 ∃l xs,x=.sl l/\0<P.cellsOf ty/\(∀y∈l,y.fits (P.cellsOf ty))/\w.ownsRow B ty (P.cellsOf ty) v l.length xs/\v.ownBlock=o/\
  ∀(i:Nat) (c:V),(flat l)[i]?=some c->∃u,xs[i]?=some u/\Rd w h.F c u
def OwnM(B:Nat)(w:World)(h:GH)(o:Option Nat)(x:V)(v:Value):Prop:=
 ∃id ks xs b es clk,x=.mp id ks xs/\v=.map (some b)/\o=some b/\B<=b/\(id=0\/id=b+1)/\w.heap[b]?=some (.map es clk)/\ks.length=es.size/\xs.length=es.size/\
  (∀(i:Nat) (c:V),ks[i]?=some c->Rd w h.F c (es.getD i default).key)/\∀(i:Nat) (c:V),xs[i]?=some c->Rd w h.F c (es.getD i default).val
def OwnV(P:Program)(B:Nat)(w:World)(h:GH)(o:Option Nat)(ty:TypeId)(x:V)(v:Value):Prop:=OwnL P B w h o ty x v\/OwnM B w h o x v
def plI:Option Nat->Nat
 |none=>1
 |some i=>i+1
def RelC(P:Program)(B:Nat)(s:St)(w:World)(h:GH)(o:Option Nat)(k:CK)(e:E)(v:Value):Prop:=
 match k with
 |.fz=>∃x,eval s e=some x/\x.one=true/\Rd w h.F x v
 |.own ty=>∃x,eval s e=some x/\OwnV P B w h o ty x v
 |.nil=>v=.slice none 0 0/\eval s e=some (.sl [])
 |.dead=>v.oneCell'=true
def RelCs(P:Program)(B:Nat)(s:St)(w:World)(h:GH)(t:Nat)(cs:List (CK×E))(vs:Array Value):Prop:=
 vs.size=cs.length/\∀i c,cs[i]?=some c->RelC P B s w h (h.bl t (i+1)) c.1 c.2 (vs.getD i undef)
def RelK(P:Program)(B:Nat)(s:St)(w:World)(h:GH)(tm:Nat->Option Value)(t:Nat)(v:Value):TK->Prop
 |.no=>True
 |.val e sh=>∃x,eval s e=some x/\Rd w (h.ext sh) x v
 |.own ty e=>∃x,eval s e=some x/\OwnV P B w h (h.bl t 1) ty x v
 |.nil=>v=.slice none 0 0
 |.mem cs=>∃b vs T,h.bl t 0=some b/\v=.pointer (some ⟨b,0,none⟩)/\w.heap[b]?=some (.cells vs T (0,0))/\RelCs P B s w h t cs vs
 |.ags cs=>∃vs,v=.agg vs/\RelCs P B s w h t cs vs
 |.ref p=>tm p=some v
 |.refm p i=>∃b,h.bl p 0=some b/\w.cell? ⟨b,i,none⟩=some v
 |.pm p o=>∃b,h.bl p 0=some b/\v=.pointer (some ⟨b,o,none⟩)
 | .pc e o sh=>∃x b q,∃vs:Nat->Value,eval s e=some x/\v=.pointer (some ⟨b,q+o,none⟩)/\h.ext sh b/\(∀c∈x.pc,c.one=true)/\
   (∀i,i<x.pc.length->w.cell? ⟨b,q+i,none⟩=some (vs i))/\∀i c,x.pc[i]?=some c->Rd w (h.ext sh) c (vs i)
 |.pe p i j o k=>∃n q,h.bl p (plI i)=some n/\(∃ki,eval s j=some (.int ki (q:Nat)))/\v=.pointer (some ⟨n,q*k+o,none⟩)
 |.pa p o j n k=>∃b q,h.bl p 0=some b/\(∃ki,eval s j=some (.int ki (q:Nat)))/\q<n/\v=.pointer (some ⟨b,o+q*k,none⟩)
 |.big e sh=>∃x,eval s e=some x/\Rd w (h.exb true sh) x v
 |.clo f caps=>∃vs:Array Value,v=.func (.func f) #[] vs/\vs.size=caps.length/\∀(i p:Nat),caps[i]?=some p->∃b,h.bl p 0=some b/\vs[i]?=some (.pointer (some ⟨b,0,none⟩))
def holds(s:St)(C:Zg):Prop:=∀x∈C,get s x.1=.v (.bool x.2)
theorem Y5(s:St):holds s []:=λ_ h=>Z4q
def VH{s:St}{C D:Zg}:holds s (C++D)↔holds s C/\holds s D:=by
 unfold holds;constructor
 ·simp_all
 grind
def Hm{s:St}{c:Ctx}{C D:Zg}(h:UN C D=true)(hd:holds s (ixC c D)):holds s (ixC c C):=by
 intro x hx;simp only[ixC,Z4I]at hx;obtain⟨y,hy,rfl⟩:=hx;refine hd (c.ix y.1,y.2) ?_;simp only[UN,Z4D]at h;have:=h y hy;simp only[ixC,Z4I]
 grind
structure RelG (c:Ctx) (B:Nat) (G:Nat->Prop) (s:St) (a:Act) (w:World) (h:GH) (g:Gam):Prop where
 ok:Ok B G w h
 at_:∀t,holds s (ixC c (g.at t).1)->(g.at t).2.isNo=false->∃v,a.tmps[t]?=some v/\RelK c.P B s w h (λp=>a.tmps[p]?) t v (g.at t).2
 skip:∀t,¬holds s (ixC c (g.at t).1)->a.tmps.getD t undef=undef
theorem Act.eval_tmp(a:Act)(t:Nat)(v:Value)(h:a.tmps[t]?=some v):a.eval (.tmp t)=v:=by
 simp_all[Act.eval,Z4y,Z4W]
def yC{g:Gam}{C:Zg}{t:Nat}{k:TK}(h:look g C t=k)(hk:k.isNo=false):(g.at t).2=k/\UN (g.at t).1 C=true:=by
 grind [look,TK.isNo]
section
variable {c:Ctx}{B:Nat}{G:Nat->Prop}{s:St}{a:Act}{w:World}{h:GH}{g:Gam}{C:Zg}
theorem RelG.look(hr:RelG c B G s a w h g)(hC:holds s (ixC c C)){t:Nat}{k:TK}(hl:look g C t=k)(hk:k.isNo=false):
  ∃v,a.tmps[t]?=some v/\RelK c.P B s w h (λp=>a.tmps[p]?) t v k/\(g.at t).2=k:=by
 obtain⟨h1,h2⟩:=yC hl hk;obtain⟨v,hv,hrel⟩:=hr.at_ t (Hm h2 hC) Z3M;simp_all
theorem RJ{v:Value}{x:V}(hv:Uy v=some x)(w:World)(G:Nat->Prop):Rd w G x v:=by
 unfold Uy at hv
 split at hv<;>first
  |(simp only[Z4s]at hv;subst hv;first|exact .int _ _|exact .bool _|exact .str _|exact .nil _ _ (Z5H _)|exact .nomp|exact .nul0|exact .nul1)
  | (split at hv<;>first
    | (rename_i hs
       simp only[Z4s]at hv;subst hv;rw[Z5v hs.1,Z5v hs.2];exact .fn _)
    |simp at hv)
  |simp at hv
theorem Qq{v:Value}{x:V}(hv:Uy v=some x):x.one=true:=by
 unfold Uy at hv
 split at hv<;>first
  |(simp only[Z4s]at hv;subst hv;rfl)
  |(split at hv<;>first|(simp only[Z4s]at hv;subst hv;rfl)|simp at hv)
  |simp at hv
def OwnV.rd{P:Program}{o:Option Nat}{ty:TypeId}{x:V}{v:Value}(hv:OwnV P B w h o ty x v){G':Nat->Prop}(hF:∀b,h.F b->G' b)(ho:∀b,o=some b->G' b):Rd w G' x v:=by
 obtain⟨l,xs,rfl,h0,hfit,hown,hb,hrd⟩|⟨id,ks,xs,b,es,clk,rfl,rfl,rfl,_,hid,hh,hk1,hx1,hk2,hx2⟩:=hv
 case inr=>exact .mp id ks xs b clk es hid (ho b rfl) hh hk1 hx1 (λi c hi=>(hk2 i c hi).mono hF) λi c hi=>(hx2 i c hi).mono hF
 obtain⟨hlen,hc⟩:=hown;obtain⟨rfl,hn⟩|⟨b,cap,cur,rfl,_,hh,hle,hcap,hsz,htk⟩:=hc
 ·have:l=[]:=Z5s hn;subst this;exact .nil _ _ (Z5H _)
 ·simp only[Value.ownBlock]at hb;refine .sl l b 0 cap (P.cellsOf ty) (λi=>cur.getD i undef) hle hcap (ho b hb.symm) hfit (λi hi=> ?_) λi c hi=> ?_
  ·rw[Z5g,Z4Q w b i cur ty (0,0) hh];have:i<cur.size:=Z46;simp_all
  ·obtain⟨u,hu,hr⟩:=hrd i c hi
   have hu':cur.getD i undef=u:=by
    rw[<-htk,Z55]at hu;split at hu
    ·simp_all
    ·simp at hu
   rw[hu'];exact hr.mono hF
def RelC.cell{P:Program}{o:Option Nat}{k:CK}{e:E}{v:Value}(hr:RelC P B s w h o k e v):v.oneCell'=true:=by
 cases k with
 |fz=>obtain⟨x,_,h1,h2⟩:=hr;rw[h2.one_eq,h1]
 |own ty=>
  obtain⟨x,_,⟨l,xs,_,_,_,⟨_,hc⟩,_⟩|⟨_,_,_,_,_,_,_,rfl,_⟩⟩:=hr
  ·obtain⟨rfl,_⟩|⟨_,_,_,rfl,_⟩:=hc<;>rfl
  ·rfl
 |nil=>obtain⟨rfl,_⟩:=hr;rfl
 |dead=>exact hr
def RelC.rd{P:Program}{o:Option Nat}{k:CK}{e:E}{v:Value}(hr:RelC P B s w h o k e v)(hd:k≠.dead){G':Nat->Prop}(hF:∀b,h.F b->G' b)(ho:∀ty,k=.own ty->∀b,o=some b->G' b):
  ∃x,eval s e=some x/\x.one=true/\Rd w G' x v:=by
 cases k with
 |fz=>obtain⟨x,h0,h1,h2⟩:=hr;exact⟨x,h0,h1,h2.mono hF⟩
 |own ty=>
  obtain⟨x,h0,hv⟩:=hr;refine⟨x,h0,?_,hv.rd hF (ho ty rfl)⟩;obtain⟨l,xs,rfl,_⟩|⟨_,_,_,_,_,_,rfl,_⟩:=hv<;>rfl
 |nil=>obtain⟨rfl,h0⟩:=hr;exact⟨_,h0,rfl,.nil _ _ (Z5H _)⟩
 |dead=>simp_all
def Yz{l:List E}{xs:List V}(h:Yg s l=some xs):xs.length=l.length/\∀(i:Nat) (e:E),l[i]?=some e->∃x,xs[i]?=some x/\eval s e=some x:=by
 induction l generalizing xs with
 |nil=>simp only[Yg,Z4s]at h;subst h;exact⟨rfl,λi e hi=>Z43⟩
 |cons e l ih=>
  simp only[Yg,Z4t,Z4w]at h
  grind
def Kk{l:List E}(h:∀e∈l,∃x,eval s e=some x):∃xs,Yg s l=some xs:=by
 induction l with
 |nil=>exact⟨[],rfl⟩
 |cons e l ih=>
  obtain⟨x,hx⟩:=h e Z1
  grind [Yg]
def YG{l:List V}(h:∀x∈l,x.one=true):flat l=l:=by
 induction l with
 |nil=>rfl
 |cons x l ih=>
  rw[Xq,ih λy hy=>h y (by simp[hy])];have hx:=h x Z1;cases x<;>first|rfl|simp[V.one]at hx
def RelCs.rd{P:Program}{t:Nat}{cs:List (CK×E)}{vs:Array Value}(hr:RelCs P B s w h t cs vs)(hd:Ye cs=false){G':Nat->Prop}(hF:∀b,h.F b->G' b)(ho:Vu cs=true->∀i b,h.bl t (i+1)=some b->G' b):
  ∃x,eval s (.ag (cs.map (·.2)))=some (.agg x)/\x.length=cs.length/\Rd w G' (.agg x) (.agg vs):=by
 obtain⟨hsz,hc⟩:=hr
 have key:∀i k e,cs[i]?=some (k,e)->∃x,eval s e=some x/\x.one=true/\Rd w G' x (vs.getD i undef):=by
  intro i k e hi;have hmem:=Z4B hi;refine(hc i (k,e) hi).rd ?_ hF ?_
  ·grind [Ye,List.any_eq_true]
  ·grind [Vu,List.any_eq_true]
 obtain⟨xs,hxs⟩:=Kk (s:=s) (l:=cs.map (·.2)) (by
  intro e he;simp only[Z4I]at he;obtain⟨⟨k,e'⟩,hm,rfl⟩:=he
  grind [List.getElem?_of_mem])
 obtain⟨hl,hx⟩:=Yz hxs;have hl':xs.length=cs.length:=by simpa using hl
 have hall:∀i x,xs[i]?=some x->x.one=true/\Rd w G' x (vs.getD i undef):=by
  intro i x hi
  have hlt:i<cs.length:=by
   have:=(Z4v.1 hi).1;omega
  obtain⟨y,hy,h1,h2⟩:=key i cs[i].1 cs[i].2 (by simp[hlt]);obtain⟨z,hz,hz'⟩:=hx i (cs[i].2) (by simp[hlt]);rw[hi]at hz;cases hz;rw[hy]at hz';cases hz';exact⟨h1,h2⟩
 have hone:∀x∈xs,x.one=true:=λx hxm=>by
  grind [List.getElem?_of_mem]
 refine⟨xs,?_,hl',.agg xs vs Z0 hone λi x hi=>(hall i x hi).2⟩;simp_all[eval,agV,YG]
def QW{P:Program}{t b:Nat}{vs:Array Value}{T:TypeId}{cs:List (CK×E)}(hb0:h.bl t 0=some b)(hh:w.heap[b]?=some (.cells vs T (0,0)))(hcs:RelCs P B s w h t cs vs)(hd:Ye cs=false)
  {z:V} (hz:eval s (.pt none (cs.map (·.2)))=some z) {G':Nat->Prop} (hF:∀b,h.F b->G' b) (hb:∀i b,h.bl t i=some b->G' b):Rd w G' z (.pointer (some ⟨b,0,none⟩)):=by
 simp only[eval,Z4t]at hz;obtain⟨xs,hxs,hz⟩:=hz;simp only[ptV]at hz;split at hz
 ·rename_i hone;simp only[Z4s]at hz;subst hz;have hone':∀x∈xs,x.one=true:=λx hx=>Z4D.1 hone x hx;obtain⟨x,hx,hl,hrd⟩:=hcs.rd hd (G':=G') hF (λ_ i b hi=>hb _ b hi);simp only[eval,hxs,Z4K,agV,YG hone',Z4s,V.agg.injEq]at hx;subst hx;cases hrd with
  |agg _ _ h1 h2 h3=>
   refine .ptr xs b 0 (λi=>vs.getD i undef) (hb 0 b hb0) h2 (λi hi=> ?_) h3;rw[Z5g,Z4Q w b i vs T (0,0) hh];have:i<vs.size:=Z0;simp_all
 ·cases hz
def RelG.ownOf(hr:RelG c B G s a w h g){p:Nat}{ty:TypeId}{e:E}(hp:ownOf g p=some (ty,e)):
  ∃v,a.tmps[p]?=some v/\∃x,eval s e=some x/\OwnV c.P B w h (h.bl p 1) ty x v:=by
 unfold Vm.ownOf at hp;split at hp
 ·rename_i ty' e' hat;simp only[Z4s,Z4C]at hp;obtain⟨rfl,rfl⟩:=hp;obtain⟨v,hv,hrel⟩:=hr.at_ p (by rw[hat];exact Y5 s) (by rw[hat];rfl);rw[hat]at hrel;exact⟨v,hv,hrel⟩
 grind
def RelG.memOf(hr:RelG c B G s a w h g){p:Nat}{cs:List (CK×E)}(hp:memOf g p=some cs):
  ∃b vs T,h.bl p 0=some b/\a.tmps[p]?=some (.pointer (some ⟨b,0,none⟩))/\w.heap[b]?=some (.cells vs T (0,0))/\RelCs c.P B s w h p cs vs:=by
 unfold Vm.memOf at hp;split at hp
 ·rename_i cs' hat;simp only[Z4s]at hp;subst hp;obtain⟨v,hv,hrel⟩:=hr.at_ p (by rw[hat];exact Y5 s) (by rw[hat];rfl);rw[hat]at hrel;obtain⟨b,vs,T,h1,rfl,h2,h3⟩:=hrel;simp_all
 grind
def Mo:TK->Nat×Nat
 |.ref p=>(p,1)
 |.refm p i=>(p,i+1)
 |_=>(0,0)
def RelG.ownAt(hr:RelG c B G s a w h g){k:TK}{ty:TypeId}{e:E}(hp:ownAt g k=some (ty,e)){t:Nat}{v:Value}(hk:RelK c.P B s w h (λp=>a.tmps[p]?) t v k):
  ∃x,eval s e=some x/\OwnV c.P B w h (h.bl (Mo k).1 (Mo k).2) ty x v:=by
 cases k with
 |ref p=>
  obtain⟨u,hu,x,hx,ho⟩:=hr.ownOf hp
  have:u=v:=by
   have h1:a.tmps[p]?=some v:=hk;rw[hu]at h1;cases h1;rfl
  subst this;exact⟨x,hx,ho⟩
 |refm p i=>
  simp only[Vm.ownAt,Z4t]at hp;obtain⟨cs,hm,hp⟩:=hp;obtain⟨b,vs,T,hb,_,hh,hsz,hcs⟩:=hr.memOf hm;obtain⟨b',hb',hcell⟩:=hk;rw[hb]at hb';cases hb';rw[Z4Q w b i vs T (0,0) hh]at hcell;have hget:vs.getD i undef=v:=by simp[Z4y,hcell]
  split at hp
  ·rename_i ty' e' hci;simp only[Z4s,Z4C]at hp;obtain⟨rfl,rfl⟩:=hp;have:=hcs i _ hci;rw[hget]at this;exact this
  grind
 |_=>simp[Vm.ownAt]at hp
def RelG.place(hr:RelG c B G s a w h g){p:Nat}{i:Option Nat}{ty:TypeId}{e:E}(hp:Vm.ownAt g (Jd p i)=some (ty,e)):
  ∃v x,RelK c.P B s w h (λp=>a.tmps[p]?) 0 v (Jd p i)/\eval s e=some x/\OwnV c.P B w h (h.bl p (plI i)) ty x v:=by
 cases i with
 |none=>
  obtain⟨u,hu,x,hx,ho⟩:=hr.ownOf hp;exact⟨u,x,hu,hx,ho⟩
 |some i=>
  have hp0:=hp;simp only[Jd,Vm.ownAt,Z4t]at hp;obtain⟨cs,hm,hp⟩:=hp;obtain⟨b,vs,T,hb,_,hh,hsz,hcs⟩:=hr.memOf hm;split at hp
  ·rename_i ty' e' hci;have hlt:i<vs.size:=by rw[hsz];exact(Z4v.1 hci).1
   have hrel:RelK c.P B s w h (λp=>a.tmps[p]?) 0 (vs.getD i undef) (Jd p (some i)):=
    ⟨b,hb,by rw[Z4Q w b i vs T (0,0) hh];simp_all⟩
   obtain⟨x,hx,ho⟩:=hr.ownAt hp0 hrel;exact⟨_,x,hrel,hx,ho⟩
  grind
def IZ(hr:RelG c B G s a w h g){k:TK}{t:Nat}{v:Value}(hv:a.tmps[t]?=some v)(hk:RelK c.P B s w h (λp=>a.tmps[p]?) t v k){e:E}{sh:List Nat}(he:asE g k t=some (e,sh)):
  ∃x,eval s e=some x/\Rd w (h.ext sh) x v:=by
 cases k with
 |val e' sh'=>simp only[asE,Z4s,Z4C]at he;obtain⟨rfl,rfl⟩:=he;exact hk
 |own ty e'=>
  simp only[asE,Z4s,Z4C]at he;obtain⟨rfl,rfl⟩:=he;obtain⟨x,hx,ho⟩:=hk;exact⟨x,hx,ho.rd (λb hb=>GH.ext_F hb) λb hb=>.inr ⟨t,Z1,0,hb⟩⟩
 |nil=>
  simp only[asE,Z4s,Z4C]at he;obtain⟨rfl,rfl⟩:=he;have:v=.slice none 0 0:=hk;subst this;exact⟨.sl [],rfl,.nil _ _ (Z5H _)⟩
 |ags cs=>
  simp only[asE]at he;split at he
  grind
  ·rename_i hd;simp only[Z4s,Z4C]at he;obtain⟨rfl,rfl⟩:=he;obtain⟨vs,rfl,hcs⟩:=hk;obtain⟨x,hx,_,hrd⟩:=hcs.rd (G':=h.ext (if Vu cs=true then [t]else [])) Z3L (λb hb=>GH.ext_F hb) (λho i b hb=>by rw[if_pos ho];exact .inr ⟨t,Z1,i,hb⟩);simp_all
 |ref p=>
  simp only[asE,ownAt,Z4w]at he;obtain⟨⟨ty,e'⟩,hp,he⟩:=he;simp only[Z4C]at he;obtain⟨rfl,rfl⟩:=he;obtain⟨u,hu,x,hx,ho⟩:=hr.ownOf hp
  have:u=v:=by
   have h1:a.tmps[p]?=some v:=hk;rw[hu]at h1;cases h1;rfl
  subst this;exact⟨x,hx,ho.rd (λb hb=>GH.ext_F hb) λb hb=>.inr ⟨p,Z1,0,hb⟩⟩
 |refm p i=>
  simp only[asE,Z4w]at he;obtain⟨⟨ty,e'⟩,hp,he⟩:=he;simp only[Z4C]at he;obtain⟨rfl,rfl⟩:=he;obtain⟨x,hx,ho⟩:=hr.ownAt hp (show RelK c.P B s w h (λp=>a.tmps[p]?) t v (.refm p i)from hk);exact⟨x,hx,ho.rd (λb hb=>GH.ext_F hb) λb hb=>.inr ⟨p,Z1,i,hb⟩⟩
 |no=>simp[asE]at he
 |mem cs=>simp[asE]at he
 |pm p o=>simp[asE]at he
 |pc e' o sh'=>simp[asE]at he
 |pe p i j o k=>simp[asE]at he
 |pa p o j n k=>simp[asE]at he
 |clo f caps=>simp[asE]at he
 |big e' sh'=>simp[asE]at he
end
end Vm
namespace Vm
open Go
open Go.RowKit (Below)
def TK.owning:TK->Bool
 |.own .. |.mem _|.ags _=>true
 |_=>false
structure Step (B:Nat) (ps rb fz:List Nat) (w w':World) (h h':GH):Prop where
 below:Below B w w'
 same:∀b,b<w.heap.size->(∀p∈ps,∀i,h.bl p i≠some b)->w'.heap[b]?=w.heap[b]?
 F:∀b,h.F b->h'.F b
 bl:∀t,t∉ps->t∉fz->h'.bl t=h.bl t
 fz0:∀t,t∉rb->h'.bl t 0=h.bl t 0
 fzF:∀t i b,t∉ps->t∈fz->h.bl t (i+1)=some b->h'.F b
 K:h'.K=h.K
section
variable {P:Program}{B:Nat}{G:Nat->Prop}{s:St}{w w':World}{h h':GH}{ps rb fz:List Nat}
def Step.F_same(hs:Step B ps rb fz w w' h h')(hok:Ok B G w h){b:Nat}(hb:h.F b):w'.heap[b]?=w.heap[b]? :=
 hs.same b (hok.f_lt b hb) λp _ i hi=>(hok.b_lt p i b hi).2.2 hb
def Step.bl_same(hs:Step B ps rb fz w w' h h')(hok:Ok B G w h){t i b:Nat}(ht:t∉ps)(hb:h.bl t i=some b):w'.heap[b]?=w.heap[b]? :=
 hs.same b (hok.b_lt t i b hb).2.1 λp hp j hj=>ht (by have:=(hok.inj t i p j b hb hj).1;simp_all)
def Step.ext_same(hs:Step B ps rb fz w w' h h')(hok:Ok B G w h){sh:List Nat}(hsh:∀p∈ps,p∉sh):Same (h.ext sh) w w':=by
 intro b hb;obtain hb|⟨p,hp,i,hi⟩:=hb
 ·exact hs.F_same hok hb
 ·exact hs.bl_same hok (λhps=>hsh p hps hp) hi
def Step.ext_mono(hs:Step B ps rb fz w w' h h'){sh:List Nat}(hsh:∀p∈ps,p∉sh):∀b,h.ext sh b->h'.ext sh b:=by
 intro b hb;obtain hb|⟨p,hp,i,hi⟩:=hb
 ·exact .inl (hs.F b hb)
 ·have hps:p∉ps:=λhps=>hsh p hps hp;by_cases hfz:p∈fz
  ·exact .inl (hs.fzF p i b hps hfz hi)
  ·exact .inr ⟨p,hp,i,by rw[hs.bl p hps hfz];exact hi⟩
def Step.exb_same(hs:Step B ps rb fz w w' h h')(hok:Ok B G w h){big:Bool}{sh:List Nat}(hsh:∀p∈ps,p∉sh):Same (h.exb big sh) w w':=by
 intro b hb;obtain hb|⟨p,hp,i,_,hi⟩:=hb
 ·exact hs.F_same hok hb
 ·exact hs.bl_same hok (λhps=>hsh p hps hp) hi
def Step.exb_mono(hs:Step B ps rb fz w w' h h')(hrb:∀t∈rb,t∈ps){big:Bool}{sh:List Nat}(hsh:∀p∈ps,p∉sh):∀b,h.exb big sh b->h'.exb big sh b:=by
 intro b hb;obtain hb|⟨p,hp,i,hi0,hi⟩:=hb
 ·exact .inl (hs.F b hb)
 ·have hps:p∉ps:=λhps=>hsh p hps hp;by_cases hfz:p∈fz
  ·cases i with
   |zero=>exact .inr ⟨p,hp,0,hi0,by rw[hs.fz0 p λhr=>hps (hrb p hr)];exact hi⟩
   |succ i=>exact .inl (hs.fzF p i b hps hfz hi)
  ·exact .inr ⟨p,hp,i,hi0,by rw[hs.bl p hps hfz];exact hi⟩
def qb{e:TypeId}{k:Nat}{v:Value}{n:Nat}{xs:List Value}(hr:w.ownsRow B e k v n xs)(hb:∀b,v.ownBlock=some b->w'.heap[b]?=w.heap[b]?):w'.ownsRow B e k v n xs:=by
 refine⟨hr.1,?_⟩;obtain hn|⟨g,cap,cur,rfl,h1,h2,h3⟩:=hr.2
 ·grind
 ·exact .inr ⟨g,cap,cur,rfl,h1,by rw[hb g rfl];exact h2,h3⟩
def OwnV.keep{o:Option Nat}{ty:TypeId}{x:V}{v:Value}(hv:OwnV P B w h o ty x v)(hF:Same h.F w w')(hFF:∀b,h.F b->h'.F b)(ho:∀b,o=some b->w'.heap[b]?=w.heap[b]?):OwnV P B w' h' o ty x v:=by
 obtain⟨l,xs,rfl,h0,h1,h2,h3,h4⟩|⟨id,ks,xs,b,es,clk,rfl,rfl,rfl,h0,hid,h1,h2,h3,h4,h5⟩:=hv
 case inr=>exact .inr ⟨id,ks,xs,b,es,clk,rfl,rfl,rfl,h0,hid,by rw[ho b rfl];exact h1,h2,h3,λi c hi=>(h4 i c hi).keep hF hFF,λi c hi=>(h5 i c hi).keep hF hFF⟩
 refine .inl ⟨l,xs,rfl,h0,h1,qb h2 (λb hb=>ho b (by rw[<-h3];exact hb)),h3,λi c hi=> ?_⟩;obtain⟨u,hu,hr⟩:=h4 i c hi;exact⟨u,hu,hr.keep hF hFF⟩
def RelC.keep{o:Option Nat}{k:CK}{e:E}{v:Value}(hr:RelC P B s w h o k e v)(hF:Same h.F w w')(hFF:∀b,h.F b->h'.F b)(ho:∀b,o=some b->w'.heap[b]?=w.heap[b]?):RelC P B s w' h' o k e v:=by
 cases k with
 |fz=>obtain⟨x,h0,h1,h2⟩:=hr;exact⟨x,h0,h1,h2.keep hF hFF⟩
 |own ty=>obtain⟨x,h0,h1⟩:=hr;exact⟨x,h0,h1.keep hF hFF ho⟩
 |nil=>exact hr
 |dead=>exact hr
def RelCs.keep{t:Nat}{cs:List (CK×E)}{vs:Array Value}(hr:RelCs P B s w h t cs vs)(hF:Same h.F w w')(hFF:∀b,h.F b->h'.F b)(hbl:∀i,h'.bl t (i+1)=h.bl t (i+1))(ho:∀i b,h.bl t (i+1)=some b->w'.heap[b]?=w.heap[b]?):RelCs P B s w' h' t cs vs:=
 ⟨hr.1,λi ck hi=>by rw[hbl];exact(hr.2 i ck hi).keep hF hFF λb hb=>ho _ b hb⟩
def DQ{k:TK}(hc:calm ps rb fz k=true):(∀p∈ps,XB p k=false)/\(∀p∈rb,leads p k=false)/\Sw fz k=false:=by
 simp_all[calm,Z4x,Z5m,Z7m,Z6L]
def RelK.keep{tm tm':Nat->Option Value}{t:Nat}{v:Value}{k:TK}(hk:RelK P B s w h tm t v k)(hs:Step B ps rb fz w w' h h')(hok:Ok B G w h)(hrb:∀t∈rb,t∈ps)
  (ht:t∉ps) (htf:t∈fz->k.owning=false) (hcalm:calm ps rb fz k=true) (htm:∀p,p∉ps->tm' p=tm p):RelK P B s w' h' tm' t v k:=by
 obtain⟨hto,hle,hin⟩:=DQ hcalm;have hF:Same h.F w w':=λb hb=>hs.F_same hok hb;cases k with
 |no=>trivial
 |val e sh=>
  obtain⟨x,h0,h1⟩:=hk;have hsh:∀p∈ps,p∉sh:=λp hp hin=>by have:=hto p hp;simp[XB]at this;exact this hin
  exact⟨x,h0,h1.keep (hs.ext_same hok hsh) (hs.ext_mono hsh)⟩
 |big e sh=>
  obtain⟨x,h0,h1⟩:=hk;have hsh:∀p∈ps,p∉sh:=λp hp hin=>by have:=hto p hp;simp[XB]at this;exact this hin
  exact⟨x,h0,h1.keep (hs.exb_same hok hsh) (hs.exb_mono hrb hsh)⟩
 |own ty e=>
  obtain⟨x,h0,h1⟩:=hk;refine⟨x,h0,?_⟩;have htf:t∉fz:=λhf=>by cases htf hf
  rw[hs.bl t ht htf];exact h1.keep hF hs.F λb hb=>hs.bl_same hok ht hb
 |nil=>exact hk
 |mem cs=>
  obtain⟨b,vs,T,h1,h2,h3,h4⟩:=hk;have htf:t∉fz:=λhf=>by cases htf hf
  exact⟨b,vs,T,by rw[hs.bl t ht htf];exact h1,h2,by rw[hs.bl_same hok ht h1];exact h3,h4.keep hF hs.F (λi=>by rw[hs.bl t ht htf]) λi b hb=>hs.bl_same hok ht hb⟩
 |ags cs=>
  obtain⟨vs,h2,h4⟩:=hk;have htf:t∉fz:=λhf=>by cases htf hf
  exact⟨vs,h2,h4.keep hF hs.F (λi=>by rw[hs.bl t ht htf]) λi b hb=>hs.bl_same hok ht hb⟩
 |ref p=>
  have hp:p∉ps:=λhp=>by have:=hto p hp;simp[XB]at this
  exact(htm p hp).trans hk
 |refm p i=>
  have hp:p∉ps:=λhp=>by have:=hto p hp;simp[XB]at this
  obtain⟨b,h1,h2⟩:=hk;exact⟨b,by rw[hs.fz0 p (λhr=>hp (hrb p hr))];exact h1,by rw[Z5j (w:=w) (a:=⟨b,i,none⟩) (hs.bl_same hok hp h1)];exact h2⟩
 |pm p o=>
  obtain⟨b,h1,h2⟩:=hk;have hp:p∉rb:=λhp=>by have:=hle p hp;simp[leads]at this
  exact⟨b,by rw[hs.fz0 p hp];exact h1,h2⟩
 |pc e o sh=>
  obtain⟨x,b,q,vs,h0,h1,h2,h3,h4,h5⟩:=hk;have hsh:∀p∈ps,p∉sh:=λp hp hin=>by have:=hto p hp;simp[XB]at this;exact this hin
  exact⟨x,b,q,vs,h0,h1,hs.ext_mono hsh b h2,h3,λi hi=>by rw[(hs.ext_same hok hsh).cell h2];exact h4 i hi,λi ck hi=>(h5 i ck hi).keep (hs.ext_same hok hsh) (hs.ext_mono hsh)⟩
 |pe p i j o k=>
  have hp:p∉ps:=λhp=>by have:=hto p hp;simp[XB]at this
  have hpf:p∉fz:=λhp=>by simp[Sw]at hin;exact hin hp
  obtain⟨n,q,h1,h2,h3⟩:=hk;exact⟨n,q,by rw[hs.bl p hp hpf];exact h1,h2,h3⟩
 |pa p o j n k=>
  have hp:p∉rb:=λhp=>by have:=hle p hp;simp[leads]at this
  obtain⟨b,q,h1,h2,h3,h4⟩:=hk;exact⟨b,q,by rw[hs.fz0 p hp];exact h1,h2,h3,h4⟩
 |clo f caps=>
  obtain⟨vs,h1,h2,h3⟩:=hk;refine⟨vs,h1,h2,λi p hi=> ?_⟩;obtain⟨b,h4,h5⟩:=h3 i p hi;have hp:p∉rb:=λhp=>by have:=hle p hp;simp[leads]at this;exact this (Z4B hi)
  exact⟨b,by rw[hs.fz0 p hp];exact h4,h5⟩
end
def PRes(c:Ctx)(B:Nat)(G:Nat->Prop)(s:St)(w:World)(h:GH)(tm:Nat->Option Value)(d:Nat)(k:TK)(v:Value)(w':World):Prop:=
 ∃h',Step B [d] [d] [] w w' h h'/\Ok B G w' h'/\RelK c.P B s w' h' tm d v k
section
variable {c:Ctx}{B:Nat}{G:Nat->Prop}{s:St}{a:Act}{w:World}{h:GH}{g:Gam}{C:Zg}
def Step.refl(ps rb:List Nat)(w:World)(h:GH):Step B ps rb [] w w h h:=⟨Z5i _ _,λ_ _ _=>rfl,λ_ hb=>hb,λ_ _ _=>rfl,λ_ _=>rfl,λ_ _ _ _ hm=>Z4o,rfl⟩
theorem PRes.here{tm:Nat->Option Value}{d:Nat}{k:TK}{v:Value}(hok:Ok B G w h)(hk:RelK c.P B s w h tm d v k):PRes c B G s w h tm d k v w:=
 ⟨h,Step.refl _ _ _ _,hok,hk⟩
def Ft(hr:RelG c B G s a w h g)(hC:holds s (ixC c C)){x:Operand}{k:TK}(hx:opK g C x=k)(hk:k.isNo=false):
  (∃v,x=.const v)\/(∃t,x=.tmp t/\look g C t=k/\∃v,a.tmps[t]?=some v/\a.eval x=v/\RelK c.P B s w h (λp=>a.tmps[p]?) t v k)\/∃f,x=.func f/\ .val (.c (.fn f)) []=k:=by
 cases x with
 |const v=>simp
 |tmp t=>
  have hx':look g C t=k:=hx;obtain⟨v,hv,hrel,_⟩:=hr.look hC hx' hk;exact .inr (.inl ⟨t,rfl,hx',v,hv,Act.eval_tmp a t v hv,hrel⟩)
 |global q=>grind [opK,TK.isNo]
 |func f=>exact .inr (.inr ⟨f,rfl,hx⟩)
def Xf(hr:RelG c B G s a w h g)(hC:holds s (ixC c C)){x:Operand}{e:E}{sh:List Nat}(he:opE g C x=some (e,sh)):
  ∃y,eval s e=some y/\Rd w (h.ext sh) y (a.eval x):=by
 unfold opE at he;cases x with
 |tmp t=>
  simp only at he
  have hn:(opK g C (.tmp t)).isNo=false:=by
   cases hk:opK g C (.tmp t)<;>first|rfl|simp_all[asE]
  obtain⟨v,hv,hrel,_⟩:=hr.look hC (rfl:look g C t=opK g C (.tmp t)) hn;rw[Act.eval_tmp a t v hv];exact IZ hr hv hrel he
 |const v=>
  simp only[opK]at he;split at he
  ·rename_i heq;simp only[Z7G]at heq;subst heq;simp only[asE,Z4s,Z4C]at he;obtain⟨rfl,rfl⟩:=he;exact⟨_,rfl,.nil _ _ (Z5H _)⟩
  ·rename_i heq;simp only[Z7G]at heq;subst heq;split at he
   ·rename_i x hx;simp only[asE,Z4s,Z4C]at he;obtain⟨rfl,rfl⟩:=he;exact⟨x,rfl,RJ hx _ _⟩
   grind [asE]
  ·simp_all
  ·simp_all
  grind [asE]
 |global q=>grind [opK,asE]
 |func f=>
  simp only[opK,asE,Z4s,Z4C]at he;obtain⟨rfl,rfl⟩:=he;exact⟨.fn f,rfl,.fn f⟩
def Xk(hr:RelG c B G s a w h g)(hC:holds s (ixC c C)){x:Operand}{e:E}{sh:List Nat}(he:opK g C x=.val e sh):
  ∃y,eval s e=some y/\Rd w (h.ext sh) y (a.eval x):=Xf hr hC (by unfold opE;rw[he];rfl)
def SF(hr:RelG c B G s a w h g)(hC:holds s (ixC c C)){x:Operand}(he:opK g C x=.nil):a.eval x=.slice none 0 0:=by
 obtain⟨v,rfl⟩|⟨t,rfl,_,v,hv,hev,hrel⟩|⟨f,_,hf⟩:=Ft hr hC he rfl;rotate_left 2
 ·cases hf
 ·simp only[opK]at he;split at he
  ·rename_i heq;simp only[Z7G]at heq;subst heq;rfl
  ·grind
  ·simp_all
  ·simp_all
  grind
 ·rw[hev];exact hrel
def Rd.F{x:V}{v:Value}(hx:Rd w (h.ext []) x v):Rd w h.F x v:=hx.mono λ_ hb=>GH.ext_nil hb
theorem Rd.flat{G' G'':Nat->Prop}{x:V}{v:Value}(hx:Rd w G' x v)(hf:x.flatc=true):Rd w G'' x v:=by
 cases hx<;>first|exact .int _ _|exact .bool _|exact .str _|simp[V.flatc]at hf
def It{op:BinOp}{x y z:V}(hz:binV op x y=some z){G' G'':Nat->Prop}{v u:Value}(hv:Rd w G' x v)(hu:Rd w G'' y u)(T:TypeId)(xo yo:Operand):
  ∃r,(do eqGuard op T xo yo v u;binOp op T v u:Sem Value).run c.P w=.ok r w/\Rd w h.F z r:=by
 cases hv<;>cases hu<;>(try (cases op<;>simp[binV]at hz;done))
 rename_i k n k' n';cases op<;>simp only[binV]at hz<;>(try split at hz)<;>(try simp only[Z4s]at hz)<;>(try subst hz)<;>(try (simp at hz;done))
 all_goals
  first|refine⟨.int _ _,?_,.int _ _⟩|refine⟨.bool _,?_,.bool _⟩
  first
   |(rename_i hk;subst hk;simp[eqGuard,binOp,Op.intArith,Op.intBits,Op.intCmp];done)
   |(rename_i hk;obtain⟨rfl,hb⟩:=hk;simp[eqGuard,binOp,Op.intDiv,hb];done)
   | (rename_i hk;have:¬n'<0:=by omega
      simp[eqGuard,binOp,Op.shift,this];done)
def G7{neg:Bool}{x y z:V}(hz:eqV neg x y=some z){G' G'':Nat->Prop}{v u:Value}(hv:Rd w G' x v)(hu:Rd w G'' y u){T:TypeId}(hT:eqTy c.P T=true)(xo yo:Operand):
  ∃r,(do eqGuard (if neg then .neq else .eql) T xo yo v u;binOp (if neg then .neq else .eql) T v u:Sem Value).run c.P w=.ok r w/\Rd w h.F z r:=by
 have hT':c.P.underlying T=some .bool:=by
  unfold eqTy at hT;split at hT
  ·assumption
  ·simp at hT
 cases hv with
 |bool a=>
  cases hu with
  |bool b=>
   simp only[eqV,Z4s]at hz;subst hz;refine⟨.bool _,?_,.bool _⟩;cases neg
   ·simp_all[run_eql_bool,eqGuard]
   simp_all[run_neq_bool,eqGuard]
  |_=>simp[eqV]at hz
 |_=>simp[eqV]at hz
def O6{op:UnOp}{x z:V}(hz:unV op x=some z){G':Nat->Prop}{v:Value}(hv:Rd w G' x v):∃r,(Op.unary op v).run c.P w=.ok r w/\Rd w h.F z r:=by
 cases hv<;>(try (cases op<;>simp[unV]at hz;done))
 ·rename_i k n;cases op<;>simp only[unV,Z4s]at hz<;>first|(simp at hz;done)|skip
  subst hz;exact⟨.int _ _,Z4r,.int _ _⟩
 ·rename_i b;cases op<;>simp only[unV,Z4s]at hz<;>first|(simp at hz;done)|skip
  subst hz;exact⟨.bool _,Z4r,.bool _⟩
def G5{k:IntKind}{x z:V}(hz:Cf k x=some z){G':Nat->Prop}{v:Value}(hv:Rd w G' x v){S T:TypeId}(hS:(c.P.underlying S).isSome=true)(hT:c.P.underlying T=some (.int k)):
  ∃r,(convert S T v).run c.P w=.ok r w/\Rd w h.F z r:=by
 obtain⟨dS,hS⟩:=Z5y.1 hS;cases hv<;>(try (simp[Cf]at hz;done))
 simp only[Cf,Z4s]at hz;subst hz;exact⟨.int _ _,by simp_all[convert,Z5e,Conv.intToInt],.int _ _⟩
def Iv{x z:V}(hz:lenV x=some z){G':Nat->Prop}{v:Value}(hv:Rd w G' x v){T ty e:TypeId}(hT:c.P.underlying T=some (.slice e)):
  ∃r,(Builtin.len_ #[T] ty #[v]).run c.P w=.ok r w/\Rd w h.F z r:=by
 cases hv with
 |nil a' cap hc=>
  simp only[lenV,Z4s]at hz;subst hz;exact⟨.int .i64 0,by simp[Builtin.len_,Z5e hT,goInt],.int _ _⟩
 |sl l b o cap k vs h1 h2 h3 h4 h5 h6=>
  simp only[lenV,Z4s]at hz;subst hz;exact⟨.int .i64 l.length,by simp[Builtin.len_,Z5e hT,goInt],.int _ _⟩
 |_=>simp[lenV]at hz
def Ix{x y z:V}(hz:minV x y=some z){G' G'':Nat->Prop}{v u:Value}(hv:Rd w G' x v)(hu:Rd w G'' y u)(ts:Array TypeId)(ty:TypeId):
  ∃r,(Builtin.min_ ts ty #[v,u]).run c.P w=.ok r w/\Rd w h.F z r:=by
 cases hv<;>(try (simp[minV]at hz;done))
 cases hu<;>(try (simp[minV]at hz;done))
 rename_i k n k' n';simp only[minV,Z4s]at hz;subst hz;exact⟨.int k _,Z4r,.int _ _⟩
def Iw{x y z:V}(hz:maxV x y=some z){G' G'':Nat->Prop}{v u:Value}(hv:Rd w G' x v)(hu:Rd w G'' y u)(ts:Array TypeId)(ty:TypeId):
  ∃r,(Builtin.max_ ts ty #[v,u]).run c.P w=.ok r w/\Rd w h.F z r:=by
 cases hv<;>(try (simp[maxV]at hz;done))
 cases hu<;>(try (simp[maxV]at hz;done))
 rename_i k n k' n';simp only[maxV,Z4s]at hz;subst hz;exact⟨.int k _,Z4r,.int _ _⟩
def Iu{x z:V}{i:Nat}(hz:extV x i=some z){G':Nat->Prop}{v:Value}(hv:Rd w G' x v):∃r,(Instr.extract v i).run c.P w=.ok r w/\Rd w G' z r:=by
 cases hv<;>(try (simp[extV]at hz;done))
 rename_i l vs h1 h2;simp only[extV]at hz;have hlt:i<vs.size:=by rw[h1];exact(Z4v.1 hz).1
 refine⟨vs.getD i undef,?_,h2 i z hz⟩;simp[Instr.extract,hlt,Z4y]
theorem WI{P:Program}{T:TypeId}(hT:okT P T=true):∃d i,P.underlying T=some d/\P.info? T=some i/\P.cellsOf T=i.size/\∀w:World,(isAgg T).run P w=.ok (Zn P T) w:=by
 simp only[okT,Z4x]at hT;obtain⟨d,hd⟩:=Z5y.1 hT.1;obtain⟨i,hi⟩:=Z5y.1 hT.2;refine⟨d,i,hd,hi,by simp[Program.cellsOf,hi],λw=> ?_⟩;unfold isAgg Zn;rw[Z54,Z5e hd w,hd];cases d<;>rfl
theorem YI{P:Program}{T:TypeId}{i:TypeInfo}(hi:P.info? T=some i)(w:World):(Go.sizeOf T).run P w=.ok i.size w:=by
 simp[Go.sizeOf,typeInfo,hi]
def VY{P:Program}{T:TypeId}(hT:okT P T=true)(hag:Zn P T=false){b o:Nat}{v:Value}(hc:w.cell? ⟨b,o,none⟩=some v):
  (Instr.loadAt T (.pointer (some ⟨b,o,none⟩))).run P w=.ok v w:=by
 obtain⟨d,i,hd,hi,hs,hagg⟩:=WI hT;simp_all[Instr.loadAt,Instr.sureAddr,loadVar]
def TT{P:Program}{T:TypeId}(hT:okT P T=true)(hag:Zn P T=true){b o:Nat}(vs:List Value)(hn:vs.length=P.cellsOf T)(hc:∀i u,vs[i]?=some u->w.cell? ⟨b,o+i,none⟩=some u):
  (Instr.loadAt T (.pointer (some ⟨b,o,none⟩))).run P w=.ok (.agg vs.toArray) w:=by
 obtain⟨d,i,hd,hi,hs,hagg⟩:=WI hT;have hl:=run_loadCells_list (P:=P) w ⟨b,o,none⟩ vs (λj u hj=>by simp_all[Z6q]);simp_all[Instr.loadAt,Instr.sureAddr,loadVar,YI]
theorem X2{x z:V}(h:oneV x=some z):x=z/\z.one=true:=by
 unfold oneV at h
 grind
def z7{p:Nat}{cs:List (CK×E)}:∀ {i:Nat},X4 p i cs=true->∀(j:Nat) (x:CK×E),cs[j]?=some x->x.2=E.m p (i+j):=by
 induction cs with
 |nil=>simp
 |cons y r ih=>
  intro i hp j x hj;obtain⟨k,e⟩:=y;cases e<;>simp only[X4]at hp<;>first|(cases hp;done)|skip
  grind
theorem Lo{p i:Nat}{cs:List (CK×E)}{x:List V}(hp:X4 p i cs=true)(hne:0<cs.length)(hx:eval s (.ag (cs.map (·.2)))=some (.agg x))(hone:∀(j:Nat) (e:CK×E),cs[j]?=some e->∃y,eval s e.2=some y/\y.one=true):
  eval s (.mm p i cs.length)=some (.agg x):=by
 simp only[eval,Z4w]at hx;obtain⟨ys,hys,hag⟩:=hx;obtain⟨hl,hget⟩:=Yz hys;have hl':ys.length=cs.length:=by simpa using hl
 have hy:∀j,j<cs.length->∃l,get s p=.m l/\∃y,l[i+j]?=some y/\ys[j]?=some y:=by
  intro j hj;obtain⟨y,hy,he⟩:=hget j (cs[j].2) (by simp[hj]);rw[z7 hp j cs[j] (by simp[hj])]at he;simp only[eval]at he;split at he
  ·rename_i l hl;rw[Z4t]at he;obtain⟨y',he,h1⟩:=he;obtain⟨rfl,_⟩:=X2 h1;simp_all
  grind
 obtain⟨l,hl0,_⟩:=hy 0 hne
 have hyl:∀j,j<cs.length->l[i+j]?=ys[j]? :=by
  intro j hj;obtain⟨l',hl',y,h1,h2⟩:=hy j hj;rw[hl0]at hl';cases hl';rw[h1,h2]
 have hlen:i+cs.length<=l.length:=by
  have h1:=hyl (cs.length-1) Z0;have h2:ys[cs.length-1]?=some ys[cs.length-1]:=Z4u Z0;rw[h2]at h1;have:=(Z4v.1 h1).1;omega
 have hys':(l.drop i).take cs.length=ys:=by
  apply Z6Z;intro j;rw[Z55];split
  ·simp_all
  ·simp_all
 have hone':∀y∈ys,y.one=true:=by
  intro y hym;obtain⟨j,hj⟩:=Z4V hym;have hlt:j<cs.length:=by have:=(Z4v.1 hj).1;omega
  obtain⟨z,hz,hz1⟩:=hone j cs[j] (by simp[hlt]);obtain⟨z',hz',he'⟩:=hget j (cs[j].2) (by simp[hlt]);rw[hj]at hz';cases hz';rw[hz]at he';cases he';exact hz1
 simp_all[agV,V.agg.injEq,YG,eval,Z5b]
def RelCs.part{P:Program}{t:Nat}{cs:List (CK×E)}{vs:Array Value}(hr:RelCs P B s w h t cs vs){o n:Nat}(hn:((cs.drop o).take n).length=n):
  ∀(i:Nat) (ck:CK×E),((cs.drop o).take n)[i]?=some ck->RelC P B s w h (h.bl t (o+i+1)) ck.1 ck.2 (vs.getD (o+i) undef)/\vs[o+i]?=some (vs.getD (o+i) undef):=by
 intro i ck hi;rw[Z55]at hi;split at hi
 ·rw[Z5d]at hi;refine⟨hr.2 _ _ hi,?_⟩;have hlt:o+i<vs.size:=by rw[hr.1];exact(Z4v.1 hi).1
  simp_all
 grind
def RelCs.part_rd{P:Program}{t:Nat}{cs:List (CK×E)}{vs:Array Value}(hr:RelCs P B s w h t cs vs){o n:Nat}(hn:((cs.drop o).take n).length=n)(hd:Ye ((cs.drop o).take n)=false){G':Nat->Prop}(hF:∀b,h.F b->G' b)
  (ho:Vu ((cs.drop o).take n)=true->∀i b,h.bl t (i+1)=some b->G' b):
  ∃x,eval s (.ag (((cs.drop o).take n).map (·.2)))=some (.agg x)/\x.length=n/\(∀(j:Nat) (e:CK×E),((cs.drop o).take n)[j]?=some e->∃y,eval s e.2=some y/\y.one=true)/\
   Rd w G' (.agg x) (.agg ((vs.toList.drop o).take n).toArray)/\∀(i:Nat) (u:Value),((vs.toList.drop o).take n)[i]?=some u->vs[o+i]?=some u:=by
 have hp:=hr.part hn
 have hvl:((vs.toList.drop o).take n).length=n:=by
  have h1:=hr.1;simp only[Z5Q,Z6M,Z6I]at hn⊢;omega
 have hvg:∀i,i<n->((vs.toList.drop o).take n)[i]?=vs[o+i]? :=by
  intro i hi;rw[Z55,if_pos hi,Z5d,Z5O]
 have key:∀i k e,((cs.drop o).take n)[i]?=some (k,e)->∃x,eval s e=some x/\x.one=true/\Rd w G' x (vs.getD (o+i) undef):=by
  intro i k e hi;have hmem:=Z4B hi;refine(hp i (k,e) hi).1.rd ?_ hF ?_
  ·grind [Ye,List.any_eq_true]
  ·grind [Vu,List.any_eq_true]
 have hsome:∀e∈((cs.drop o).take n).map (·.2),∃x,eval s e=some x:=by
  intro e he;obtain⟨⟨k,e'⟩,hm,rfl⟩:=Z4I.1 he
  grind [List.getElem?_of_mem]
 obtain⟨xs,hxs⟩:=Kk hsome;obtain⟨hl,hx⟩:=Yz hxs;have hl':xs.length=n:=by rw[hl,Z56,hn]
 have hall:∀i x,xs[i]?=some x->x.one=true/\Rd w G' x (vs.getD (o+i) undef):=by
  intro i x hi
  have hlt:i< ((cs.drop o).take n).length:=by
   have:=(Z4v.1 hi).1;omega
  obtain⟨y,hy,h1,h2⟩:=key i ((cs.drop o).take n)[i].1 ((cs.drop o).take n)[i].2 Z3L;obtain⟨z,hz,hz'⟩:=hx i (((cs.drop o).take n)[i].2) Z3L;rw[hi]at hz;cases hz;rw[hy]at hz';cases hz';exact⟨h1,h2⟩
 have hone:∀x∈xs,x.one=true:=λx hxm=>by
  grind [List.getElem?_of_mem]
 refine⟨xs,?_,hl',λj e hj=> ?_,.agg xs _ Z3M hone λi x hi=> ?_,λi u hi=> ?_⟩
 ·simp_all[eval,Z4K,agV,YG]
 ·grind
 ·have hlt:i<n:=Z3Z
  have:((vs.toList.drop o).take n).toArray.getD i undef=vs.getD (o+i) undef:=by
   simp only[Z4y,Z6s,hvg i hlt]
  simp_all
 grind
end
end Vm
namespace Vm
open Go
open Go.RowKit (Below)
section
variable {c:Ctx}{B:Nat}{G:Nat->Prop}{s:St}{a:Act}{w:World}{h:GH}{g:Gam}{C:Zg}
def Has(c:Ctx)(B:Nat)(s:St)(w:World)(h:GH)(tm:Nat->Option Value)(d:Nat)(k:TK)(m:Sem Value):Prop:=
 ∃v,m.run c.P w=.ok v w/\RelK c.P B s w h tm d v k
theorem QB{x z:V}{o:Nat}(h:fldV x o=some z):x.pc[o]?=some z:=by
 unfold fldV at h;rw[Z4t]at h;obtain⟨y,h1,h2⟩:=h;rw[h1,(X2 h2).1]
def U8{x z:V}{o n:Nat}(h:Ry x o n=some z):o+n<=x.pc.length/\z=.agg ((x.pc.drop o).take n):=by
 simp_all[Ry,Z4s]
def jN{T:TypeId}(hT:okT c.P T=true){x:V}{b q o:Nat}{vs:Nat->Value}{sh:List Nat}(hone:∀y∈x.pc,y.one=true)
  (hcell:∀i,i<x.pc.length->w.cell? ⟨b,q+i,none⟩=some (vs i)) (hrd:∀i y,x.pc[i]?=some y->Rd w (h.ext sh) y (vs i)) {e:E} (he:eval s e=some x)
  (hev:∃z,eval s (if Zn c.P T then .flds e o (c.P.cellsOf T)else .fld e o)=some z) (tm:Nat->Option Value) (d:Nat):
  Has c B s w h tm d (.val (if Zn c.P T then .flds e o (c.P.cellsOf T)else .fld e o) sh) (Instr.loadAt T (.pointer (some ⟨b,q+o,none⟩))):=by
 obtain⟨z,hz⟩:=hev;cases hag:Zn c.P T with
 |false=>
  rw[hag]at hz;simp only[Z4G,Z5h,eval,he,Z4E]at hz⊢;have hz':=QB hz;have hlt:=(Z4v.1 hz').1;exact⟨vs o,VY hT hag (hcell o hlt),z,by simp only[eval,he,Z4E];exact hz,hrd o z hz'⟩
 |true=>
  rw[hag]at hz;simp only[Z5b,eval,he,Z4E]at hz⊢;obtain⟨hle,rfl⟩:=U8 hz;have hlen:((x.pc.drop o).take (c.P.cellsOf T)).length=c.P.cellsOf T:=Z3N;refine⟨.agg ((List.range (c.P.cellsOf T)).map λi=>vs (o+i)).toArray,TT hT hag _ Z1 (λi u hi=> ?_),_,by simp only[eval,he,Z4E];exact hz,?_⟩
  ·have hlt:i<c.P.cellsOf T:=by simpa using(Z4v.1 hi).1
   have:vs (o+i)=u:=by simpa[hlt]using hi
   rw[<-this,Z61];exact hcell (o+i) Z0
  ·refine .agg _ _ (by simp only[Z63,Z56,Z82,hlen]) (λy hy=>hone y (Z64 (Z5o hy))) λi y hi=> ?_;have hlt:i<c.P.cellsOf T:=Z3Z;rw[Z55,if_pos hlt,Z5d]at hi
   have:((List.range (c.P.cellsOf T)).map λi=>vs (o+i)).toArray.getD i undef=vs (o+i):=by
    simp[Z4y,hlt]
   rw[this];exact hrd (o+i) y hi
def Rd.flatAll{G' G'':Nat->Prop}{x:V}{v:Value}(hx:Rd w G' x v)(hf:∀y∈x.cells,y.flatc=true)(ht:∀l,x≠.tup l):Rd w G'' x v:=by
 cases hx with
 |agg cs vs h1 h2 h3=>exact .agg cs vs h1 h2 λi y hi=>(h3 i y hi).flat (hf y (Z4B hi))
 |tup l vs h1 h2=>simp_all
 |int k n=>exact .int _ _
 |bool b=>exact .bool _
 |str b=>exact .str _
 |nil a cap hc=>exact .nil _ _ hc
 |sl l b o cap k vs h1 h2 h3 h4 h5 h6=>simp_all[absurd,V.cells,V.flatc]
 |ptr cs b o vs h1 h2 h3 h4=>simp_all[absurd,V.cells,V.flatc]
 |fn f=>exact .fn f
 |clo f cs vs h1 h2=>simp_all[absurd,V.cells,V.flatc]
 |nul0=>exact .nul0
 |nul1=>exact .nul1
 |nomp=>exact .nomp
 |mp id ks xs b clk es h0 h1 h2 h3 h4 h5 h6=>exact absurd (hf (.mp id ks xs) (by simp[V.cells])) (by simp[V.flatc])
def Ue(hr:RelG c B G s a w h g)(hC:holds s (ixC c C)){x:Operand}{k:TK}(hx:opK g C x=k)(hk:k.isNo=false):
  ((∃e,k=.val e [])\/k=.nil)\/∃t,x=.tmp t/\(∃v,a.tmps[t]?=some v/\a.eval x=v/\RelK c.P B s w h (λp=>a.tmps[p]?) t v k)/\(g.at t).2=k/\UN (g.at t).1 C=true:=by
 obtain⟨v,rfl⟩|⟨t,rfl,hl,v,hv,hev,hrel⟩|⟨f,_,hf⟩:=Ft hr hC hx hk;rotate_left 2
 ·grind
 ·left;simp only[opK]at hx;split at hx
  ·exact .inr hx.symm
  ·split at hx
   ·exact .inl ⟨_,hx.symm⟩
   ·subst hx;simp[TK.isNo]at hk
  ·simp_all
  ·simp_all
  ·subst hx;simp[TK.isNo]at hk
 ·obtain⟨h1,h2⟩:=yC hl hk;simp_all
def RelK.moved{tm:Nat->Option Value}{t d:Nat}{v:Value}{k:TK}(hk:RelK c.P B s w h tm t v k)(hf:k.free=true):RelK c.P B s w h tm d v k:=by
 cases k<;>first|exact hk|simp[TK.free]at hf
def ZN(hr:RelG c B G s a w h g)(hC:holds s (ixC c C)){x:Operand}{k:TK}(hx:opK g C x=k)(hf:k.free=true)(d:Nat):
  RelK c.P B s w h (λp=>a.tmps[p]?) d (a.eval x) k:=by
 have hn:k.isNo=false:=by cases k<;>first|rfl|simp[TK.free]at hf
 obtain(⟨e,rfl⟩|rfl)|⟨t,rfl,⟨v,hv,hev,hrel⟩,_⟩:=Ue hr hC hx hn
 ·obtain⟨y,hy,hrd⟩:=Xk hr hC hx;exact⟨y,hy,hrd⟩
 ·exact SF hr hC hx
 ·rw[hev];exact hrel.moved hf
def CN(hr:RelG c B G s a w h g)(hC:holds s (ixC c C)){x:Operand}{k:TK}{es:List E}(hp:FJ g C x=some (k,es))(d:Nat):
  RelK c.P B s w h (λp=>a.tmps[p]?) d (a.eval x) k:=by
 unfold FJ at hp;split at hp
 ·rename_i hf;simp only[Z4s,Z4C]at hp;obtain⟨rfl,rfl⟩:=hp;exact ZN hr hC rfl hf d
 ·split at hp
  ·rename_i t ty e _ hk;simp only[Z4s,Z4C]at hp;obtain⟨rfl,rfl⟩:=hp;obtain⟨v,hv,_⟩:=hr.look hC (show look g C t=_ from hk) rfl;rw[Act.eval_tmp a t v hv];exact hv
  ·rename_i t cs _ hk;simp only[Z4s,Z4C]at hp;obtain⟨rfl,rfl⟩:=hp;obtain⟨v,hv,⟨b,vs,T,h1,h2,_⟩,_⟩:=hr.look hC (show look g C t=_ from hk) rfl;rw[Act.eval_tmp a t v hv];exact⟨b,h1,h2⟩
  ·rename_i t cs _ hk;simp only[Z4w]at hp;obtain⟨⟨e,sh⟩,he,hp⟩:=hp;simp only[Z4C]at hp;obtain⟨rfl,rfl⟩:=hp;obtain⟨v,hv,hrel,_⟩:=hr.look hC (show look g C t=_ from hk) rfl;rw[Act.eval_tmp a t v hv];exact IZ hr hv hrel he
  grind
def QA{fl:Bool}{b:E×List Nat}{v:Value}{y:V}(he:eval s b.1=some y)(hrd:Rd w (h.ext b.2) y v)(hs:∃z,eval s (flE fl b).1=some z):
  ∃z,eval s (flE fl b).1=some z/\Rd w (h.ext (flE fl b).2) z v:=by
 obtain⟨z,hz⟩:=hs;unfold flE at hz⊢;split
 ·simp_all
 ·split
  ·rename_i hb hfl;simp only[hb,hfl,Z4G,Z5h,Z5b,eval,he,Z4E]at hz;refine⟨z,by simp_all[eval,Z4E],?_⟩;unfold flV at hz;split at hz
   grind
   ·rename_i ht;split at hz
    ·rename_i hall;simp only[Z4s]at hz;subst hz;exact hrd.flatAll (λy hy=>Z3M) λl hl=>ht l hl
    grind
  simp_all
def qf(hr:RelG c B G s a w h g)(hC:holds s (ixC c C)){ty:TypeId}{x:Operand}{k:TK}{es:List E}(hp:LY c g C ty x=some (k,es))(hes:∀e∈es,∃z,eval s e=some z)(d:Nat):
  RelK c.P B s w h (λp=>a.tmps[p]?) d (a.eval x) k:=by
 unfold LY at hp;split at hp
 ·rename_i e hk;simp only[Z4s,Z4C]at hp;obtain⟨rfl,rfl⟩:=hp;exact ZN hr hC hk rfl d
 ·rename_i e p sh hk;split at hp
  ·simp only[Z4s,Z4C]at hp;obtain⟨rfl,rfl⟩:=hp;obtain⟨y,hy,hrd⟩:=Xk hr hC hk;have:=QA (s:=s) (w:=w) (h:=h) (fl:=true) (b:=(e,p::sh)) hy hrd (by simp_all[flE]);obtain⟨z,hz,hzr⟩:=this;exact⟨z,by simp_all[flE],by simp_all[flE]⟩
  grind
 ·rename_i hk;simp only[Z4s,Z4C]at hp;obtain⟨rfl,rfl⟩:=hp;exact ZN hr hC hk rfl d
 ·rename_i f caps hk;simp only[Z4s,Z4C]at hp;obtain⟨rfl,rfl⟩:=hp;exact ZN hr hC hk rfl d
 grind
def JZ(hr:RelG c B G s a w h g)(hC:holds s (ixC c C)){x:Operand}{k:TK}{es:List E}(hp:SJ g C x=some (k,es))(hes:∀e∈es,∃z,eval s e=some z)(o:Oper)(ho:o.op=.nilCheck x)(d:Nat):
  ∃v,(execOp a.eval o).run c.P w=.ok (.value v) w/\RelK c.P B s w h (λp=>a.tmps[p]?) d v k:=by
 unfold execOp;simp only[ho];unfold SJ at hp;split at hp
 ·rename_i cs hk;simp only[Z4s,Z4C]at hp;obtain⟨rfl,rfl⟩:=hp;obtain⟨t,rfl,⟨v,hv,hev,⟨b,vs,T,h1,rfl,_⟩⟩,_⟩:=(Ue hr hC hk rfl).resolve_left Z1;rw[hev];exact⟨_,rfl,b,h1,rfl⟩
 ·rename_i p q hk;simp only[Z4s,Z4C]at hp;obtain⟨rfl,rfl⟩:=hp;obtain⟨b,h1,h2⟩:=ZN hr hC hk rfl d;rw[h2];exact⟨_,rfl,b,h1,rfl⟩
 ·rename_i e sh hk;simp only[Z4s,Z4C]at hp;obtain⟨rfl,rfl⟩:=hp;obtain⟨y,hy,hrd⟩:=Xk hr hC hk;obtain⟨z,hz⟩:=hes _ (List.Mem.head _);generalize a.eval x=v at hrd;simp only[eval,hy,Z4E]at hz;unfold Jx at hz;split at hz
  ·cases hrd with
   |ptr _ b o vs h1 h2 h3 h4=>exact⟨_,rfl,_,hy,.ptr _ b o vs h1 h2 h3 h4⟩
  ·cases hz
 grind
theorem yx(hr:RelG c B G s a w h g){T:TypeId}(hT:okT c.P T=true){p o:Nat}{k:TK}(hl:Hv c g T p o=some k){b:Nat}(hb:h.bl p 0=some b)(d:Nat):
  Has c B s w h (λp=>a.tmps[p]?) d k (Instr.loadAt T (.pointer (some ⟨b,o,none⟩))):=by
 unfold Hv at hl;simp only[Z4t]at hl;obtain⟨cs,hm,hl⟩:=hl;obtain⟨b',vs,ty,h1,_,hh,hcs⟩:=hr.memOf hm;rw[hb]at h1;cases h1;split at hl
 ·rename_i hag;split at hl
  ·rename_i hcond;obtain⟨hn,hd,h0⟩:=hcond;simp only[Z4s]at hl;obtain⟨x,hx,hxl,hone,hrd,hvs⟩:=hcs.part_rd hn hd (G':=h.ext (if Vu ((cs.drop o).take (c.P.cellsOf T))=true then [p]else [])) (λb hb=>GH.ext_F hb) (λho i b hb=>by rw[if_pos ho];exact .inr ⟨p,Z1,i,hb⟩);refine⟨_,TT hT hag ((vs.toList.drop o).take (c.P.cellsOf T)) ?_ (λi u hi=> ?_),?_⟩
   ·have h2:=hcs.1;simp_all
   ·grind [cell_of_row]
   ·rw[<-hl];refine⟨.agg x,?_,hrd⟩
    grind [Lo]
  grind
 ·rename_i hag;have hag':Zn c.P T=false:=by simpa using hag
  split at hl
  ·rename_i e hc;simp only[Z4s]at hl;obtain⟨x,hx,h1,hrd⟩:=hcs.2 o _ hc;have hlt:o<vs.size:=by rw[hcs.1];exact(Z4v.1 hc).1
   refine⟨vs.getD o undef,VY hT hag' (by rw[Z4Q w b o vs ty (0,0) hh];simp_all),?_⟩;rw[<-hl];exact⟨x,hx,hrd.mono λb hb=>GH.ext_F hb⟩
  ·rename_i ty' e hc;simp only[Z4s]at hl;have hlt:o<vs.size:=by rw[hcs.1];exact(Z4v.1 hc).1
   have hcell:w.cell? ⟨b,o,none⟩=some (vs.getD o undef):=by rw[Z4Q w b o vs ty (0,0) hh];simp_all
   refine⟨vs.getD o undef,VY hT hag' hcell,?_⟩;rw[<-hl];exact⟨b,hb,hcell⟩
  ·rename_i e hc;simp only[Z4s]at hl;obtain⟨hnil,_⟩:=hcs.2 o _ hc;have hlt:o<vs.size:=by rw[hcs.1];exact(Z4v.1 hc).1
   have hcell:w.cell? ⟨b,o,none⟩=some (vs.getD o undef):=by rw[Z4Q w b o vs ty (0,0) hh];simp_all
   refine⟨vs.getD o undef,VY hT hag' hcell,?_⟩;rw[<-hl];exact hnil
  grind
def RI{x i z:V}{n k:Nat}{ag:Bool}(hz:aiV x i n k ag=some z):∃cs ki j,x=.agg cs/\i=.int ki (j:Nat)/\j<n/\cs.length=n*k/\
  (if ag then some (V.agg ((cs.drop (j*k)).take k))else cs[j*k]?)=some z:=by
 unfold aiV at hz;split at hz
 ·rename_i cs ki i;split at hz
  ·rename_i hc;obtain⟨h0,h1,h2⟩:=hc;obtain⟨j,rfl⟩:=Z4P h0;exact⟨cs,ki,j,rfl,rfl,Z0,h2,by simpa using hz⟩
  grind
 grind
theorem F0(hr:RelG c B G s a w h g){T:TypeId}(hT:okT c.P T=true){p o:Nat}{j:E}{m kk:Nat}{k:TK}(hl:Nu c g T p o j m kk=some k)(hes:∀e∈valE k,∃z,eval s e=some z)
  {b q:Nat} (hb:h.bl p 0=some b) {ki:IntKind} (hj:eval s j=some (.int ki (q:Nat))) (hq:q<m) (d:Nat):
  Has c B s w h (λp=>a.tmps[p]?) d k (Instr.loadAt T (.pointer (some ⟨b,o+q*kk,none⟩))):=by
 unfold Nu at hl;simp only[Z4t]at hl;obtain⟨cs,hm,hl⟩:=hl;obtain⟨b',vs,ty,h1,_,hh,hcs⟩:=hr.memOf hm;rw[hb]at h1;cases h1;split at hl
 ·rename_i hcond;obtain⟨hn,hk,h0,how,hd⟩:=hcond;simp only[Z4s]at hl;obtain⟨x,hx,hxl,hone,hrd,hvs⟩:=hcs.part_rd hn hd (G':=h.F) (λb hb=>hb) (λho=>by rw[how]at ho;cases ho)
  have hev:eval s (if X4 (c.ix p) o ((cs.drop o).take (m*kk))=true then E.mm (c.ix p) o ((cs.drop o).take (m*kk)).length else .ag (((cs.drop o).take (m*kk)).map (·.2)))=some (.agg x):=by
   split
   ·rename_i hp;exact Lo hp (by rw[hn];exact h0) hx hone
   ·exact hx
  generalize (if X4 (c.ix p) o ((cs.drop o).take (m*kk))=true then E.mm (c.ix p) o ((cs.drop o).take (m*kk)).length else .ag (((cs.drop o).take (m*kk)).map (·.2)))=ee at hev hl;subst hl;obtain⟨z,hz⟩:=hes _ (List.Mem.head _);simp only[eval,hev,hj,Z4E]at hz;obtain⟨cs',ki',j',hcs',hj',hlt,hlen,hzz⟩:=RI hz;cases hcs'
  have hjq:j'=q:=by
   simp only[V.int.injEq]at hj';omega
  subst hjq
  have hle:j'*kk+kk<=m*kk:=by
   rw[<-Z5P];exact Z5a _ hlt
  have hcell:∀i,i<m*kk->w.cell? ⟨b,o+i,none⟩=some (vs.getD (o+i) undef):=by
   intro i hi;have hi':i< ((cs.drop o).take (m*kk)).length:=by rw[hn];exact hi
   have:=(hcs.part hn i _ (Z4u hi')).2;rw[Z4Q w b (o+i) vs ty (0,0) hh,this]
  have hrdc:∀i y,x[i]?=some y->y.one=true/\Rd w h.F y (vs.getD (o+i) undef):=by
   intro i y hi;have hlt':i<m*kk:=by rw[<-hxl];exact(Z4v.1 hi).1
   cases hrd with
   |agg _ _ h1 h2 h3=>
    have:=h3 i y hi
    have hg:((vs.toList.drop o).take (m*kk)).toArray.getD i undef=vs.getD (o+i) undef:=by
     simp only[Z4y,Z6s,Z55,if_pos hlt',Z5d,Z5O]
    rw[hg]at this;exact⟨h2 y (Z4B hi),this⟩
  cases hag:Zn c.P T with
  |false=>
   rw[hag]at hzz hz;simp only[Z4G,Z5h]at hzz;have hlt2:j'*kk<m*kk:=by rw[<-hxl];exact(Z4v.1 hzz).1
   refine⟨_,VY hT hag (hcell _ hlt2),z,by simp only[eval,hev,hj,Z4E];exact hz,(hrdc _ z hzz).2.mono λb hb=>GH.ext_F hb⟩
  |true=>
   rw[hag]at hzz hz;simp only[Z5b,Z4s]at hzz;subst hzz;refine⟨.agg ((List.range kk).map λi=>vs.getD (o+(j'*kk+i)) undef).toArray,TT hT hag _ (by simp[hk]) (λi u hi=> ?_),_,by simp only[eval,hev,hj,Z4E];exact hz,?_⟩
   ·have hlt2:i<kk:=by simpa using(Z4v.1 hi).1
    have:vs.getD (o+(j'*kk+i)) undef=u:=by simpa[hlt2]using hi
    rw[<-this,show o+j'*kk+i=o+(j'*kk+i)from by omega];exact hcell _ Z0
   ·have hlen2:((x.drop (j'*kk)).take kk).length=kk:=Z3N;refine .agg _ _ (by simp only[Z63,Z56,Z82,hlen2]) (λy hy=> ?_) λi y hi=> ?_
    ·obtain⟨i,hi⟩:=Z4V (Z64 (Z5o hy));exact(hrdc i y hi).1
    ·have hlt2:i<kk:=Z3Z;rw[Z55,if_pos hlt2,Z5d]at hi
     have:((List.range kk).map λi=>vs.getD (o+(j'*kk+i)) undef).toArray.getD i undef=vs.getD (o+(j'*kk+i)) undef:=by
      simp[Z4y,hlt2]
     rw[this];exact(hrdc _ y hi).2.mono λb hb=>GH.ext_F hb
 ·simp at hl
def OwnV.elem{o:Option Nat}{ty:TypeId}{x:V}{v:Value}(hv:OwnV c.P B w h o ty x v){ki:IntKind}{q:Nat}{y:V}{kk:Nat}(hy:idxV x (.int ki (q:Nat)) kk=some y):
  ∃l n cap cur,∃xs:Nat->Value,x=.sl l/\l[q]?=some y/\o=some n/\v=.slice (some ⟨n,0,none⟩) l.length cap/\w.heap[n]?=some (.cells cur ty (0,0))/\y.fits (c.P.cellsOf ty)/\q*c.P.cellsOf ty+c.P.cellsOf ty<=cur.size/\
   (∀i,i<c.P.cellsOf ty->w.cell? ⟨n,q*c.P.cellsOf ty+i,none⟩=some (xs i))/\∀i z,y.cells[i]?=some z->Rd w h.F z (xs i):=by
 obtain⟨l,xs,rfl,h0,hfit,hown,hb,hrd⟩|⟨_,_,_,_,_,_,rfl,_⟩:=hv
 case inr=>simp[idxV]at hy
 simp only[idxV]at hy;split at hy
 ·rw[Z5f,Z4t]at hy;obtain⟨y',hy,hy'⟩:=hy;split at hy'<;>first|(simp only[Z4s]at hy';subst y')|simp_all
  have hlt:=(Z4v.1 hy).1;obtain⟨rfl,hn⟩|⟨n,cap,cur,rfl,_,hh,hle,_,hsz,htk⟩:=hown.2
  ·omega
  ·have hle':q*c.P.cellsOf ty+c.P.cellsOf ty<=l.length*c.P.cellsOf ty:=by
    rw[<-Z5P];exact Z5a _ hlt
   have hle2:l.length*c.P.cellsOf ty<=cur.size:=by rw[hsz];exact Z5a _ hle
   refine⟨l,n,cap,cur,λi=>cur.getD (q*c.P.cellsOf ty+i) undef,rfl,hy,by rw[<-hb];rfl,rfl,hh,hfit y (Z4B hy),Z0,λi hi=> ?_,λi z hz=> ?_⟩
   ·rw[Z4Q w n _ cur ty (0,0) hh];have:q*c.P.cellsOf ty+i<cur.size:=Z0;simp_all
   ·have hi:i<c.P.cellsOf ty:=by
     have:=(Z4v.1 hz).1;rw[(hfit y (Z4B hy)).1]at this;exact this
    obtain⟨u,hu,hru⟩:=hrd (q*c.P.cellsOf ty+i) z (by simp_all[YJ])
    have:cur.getD (q*c.P.cellsOf ty+i) undef=u:=by
     rw[<-htk,Z55,if_pos Z0]at hu;have hu':cur[q*c.P.cellsOf ty+i]?=some u:=by simpa using hu
     simp[Z4y,hu']
    simp_all
 omega
def Eb{x:V}{k:Nat}(h:x.fits k):x.pc=x.cells:=by
 rfl
theorem F1(hr:RelG c B G s a w h g){T:TypeId}(hT:okT c.P T=true){p:Nat}{i:Option Nat}{j:E}{o kk:Nat}{k:TK}(hl:Nv c g T p i j o kk=some k)(hes:∀e∈valE k,∃z,eval s e=some z)
  {n q:Nat} (hb:h.bl p (plI i)=some n) {ki:IntKind} (hj:eval s j=some (.int ki (q:Nat))) (d:Nat):
  Has c B s w h (λp=>a.tmps[p]?) d k (Instr.loadAt T (.pointer (some ⟨n,q*kk+o,none⟩))):=by
 unfold Nv at hl;simp only[Z4t]at hl;obtain⟨⟨ty,e⟩,ho,hl⟩:=hl;split at hl
 ·rename_i hk;simp only[Z4s]at hl;subst hl;obtain⟨v,x,_,hx,hown⟩:=hr.place ho;obtain⟨z,hz⟩:=hes _ (List.Mem.head _)
  have hidx:∃y,eval s (.idx e j kk)=some y:=by
   unfold zJ at hz;split at hz
   ·simp only[eval]at hz⊢;cases hy:((eval s e).bind λx=>(eval s j).bind λy=>idxV x y kk)with
    |none=>simp_all
    |some y=>simp
   ·simp only[eval]at hz⊢;cases hy:((eval s e).bind λx=>(eval s j).bind λy=>idxV x y kk)with
    |none=>simp_all
    |some y=>simp
  obtain⟨y,hy⟩:=hidx
  have hy':idxV x (.int ki (q:Nat)) kk=some y:=by
   simp only[eval,hx,hj,Z4E]at hy;exact hy
  obtain⟨l,n',cap,cur,xs,rfl,hly,hn,rfl,hh,hfit,_,hcell,hrd⟩:=hown.elem hy';rw[hb]at hn;simp only[Z4s]at hn;subst hn;rw[hk]at hcell hfit;have hpc:y.pc=y.cells:=Eb hfit;exact jN (c:=c) (B:=B) (sh:=[p]) hT (b:=n) (q:=q*kk) (o:=o) (vs:=xs) (by rw[hpc];exact hfit.2) (by rw[hpc,hfit.1];exact hcell) (λi z hz=>by rw[hpc]at hz;exact(hrd i z hz).mono λb hb=>GH.ext_F hb) hy ⟨z,hz⟩ _ d
 grind
def CL(hr:RelG c B G s a w h g)(hC:holds s (ixC c C)){T:TypeId}{x:Operand}{k:TK}{es:List E}(hp:FH c g C T x=some (k,es))(hes:∀e∈es,∃z,eval s e=some z)(d:Nat):
  Has c B s w h (λp=>a.tmps[p]?) d k (Instr.loadAt T (a.eval x)):=by
 unfold FH at hp;split at hp
 ·rename_i hT;simp only[Z4w,Z4C]at hp;obtain⟨k',hl,rfl,rfl⟩:=hp;unfold l9 at hl;split at hl
  ·rename_i cs hk;obtain⟨t,rfl,⟨v,hv,hev,⟨b,vs,ty,h1,rfl,_⟩⟩,_⟩:=(Ue hr hC hk rfl).resolve_left Z1;rw[hev];exact yx hr hT hl h1 d
  ·rename_i p o hk;obtain⟨b,h1,h2⟩:=ZN hr hC hk rfl d
   grind [yx]
  ·rename_i e o sh hk;simp only[Z4s]at hl;subst hl;obtain⟨y,b,q,vs,h0,h1,h2,h3,h4,h5⟩:=ZN hr hC hk rfl d;rw[h1];exact jN hT h3 h4 h5 h0 (hes _ (List.Mem.head _)) _ d
  ·rename_i e sh hk;simp only[Z4s]at hl;subst hl;obtain⟨y,hy,hrd⟩:=Xk hr hC hk;obtain⟨z,hz⟩:=hes _ (List.Mem.head _)
   have hst:∃u,Jx y=some u:=by
    unfold zJ at hz;cases hu:Jx y with
    |none=>grind [eval]
    |some u=>simp
   obtain⟨u,hu⟩:=hst;generalize a.eval x=v at hrd;cases hrd with
   |ptr cs b o vs h1 h2 h3 h4=>
    simp only[Jx,Z4s]at hu;subst hu;exact jN (c:=c) (B:=B) (sh:=sh) hT (x:=.agg cs) (b:=b) (q:=o) (o:=0) (vs:=vs) h2 h3 h4 (by simp[eval,hy,Jx]) ⟨z,hz⟩ _ d
   |_=>simp[Jx]at hu
  ·rename_i p i j o kk hk;obtain⟨n,q,h1,⟨ki,h2⟩,h3⟩:=ZN hr hC hk rfl d
   grind [F1]
  ·rename_i p o j m kk hk;obtain⟨b,q,h1,⟨ki,h2⟩,h3,h4⟩:=ZN hr hC hk rfl d
   grind [F0]
  grind
 grind
end
end Vm
namespace Vm
open Go
open Go.RowKit (Below)
section
variable {c:Ctx}{B:Nat}{G:Nat->Prop}{s:St}{a:Act}{w:World}{h:GH}{g:Gam}{C:Zg}
def V9{P:Program}{T:TypeId}(h:P.cellsOf T≠0):∃i,P.info? T=some i/\P.cellsOf T=i.size:=by
 unfold Program.cellsOf at h⊢;cases hi:P.info? T with
 |none=>grind
 |some i=>simp
def Z0J{P:Program}{T:TypeId}{fs:List (Nat×Nat×Bool×Bool)}(h:tdOf P T=.st fs):∃fds,P.underlying T=some (.struct fds)/\(∀fd∈fds,okT P fd.type=true)/\fs=fds.toList.map λf=>(f.offset,P.cellsOf f.type,Zn P f.type,Xu P f.type):=by
 unfold tdOf at h
 grind
def R2{P:Program}{T:TypeId}{f:Nat}{x:Nat×Nat×Bool×Bool}(hf:Qu P T f=some x):
  ∃fs fd,P.underlying T=some (.struct fs)/\fs[f]?=some fd/\okT P fd.type=true/\x=(fd.offset,P.cellsOf fd.type,Zn P fd.type,Xu P fd.type):=by
 unfold Qu at hf;split at hf
 ·rename_i fs htd;obtain⟨fds,hu,hall,rfl⟩:=Z0J htd
  grind
 ·cases hf
def W9{T:TypeId}{f b o:Nat}{x:Nat×Nat×Bool×Bool}(hf:Qu c.P T f=some x)(hn:x.2.1≠0):
  (Instr.fieldAt T (.pointer (some ⟨b,o,none⟩)) f).run c.P w=.ok (.pointer (some ⟨b,o+x.1,none⟩)) w:=by
 obtain⟨fs,fd,hu,hfd,_,rfl⟩:=R2 hf;obtain⟨i,hi,hs⟩:=V9 hn;simp_all[Instr.fieldAt,Z5e,Instr.sureAddr,fieldPlace,YI,Z6q]
def A5(hr:RelG c B G s a w h g)(hC:holds s (ixC c C)){T:TypeId}{x:Operand}{f:Nat}{k:TK}{es:List E}(hp:A4 c g C T x f=some (k,es))(hes:∀e∈es,∃z,eval s e=some z)(d:Nat):
  Has c B s w h (λp=>a.tmps[p]?) d k (Instr.fieldAt T (a.eval x) f):=by
 unfold A4 at hp;simp only[Z4t]at hp;obtain⟨y,hf,hp⟩:=hp;split at hp
 grind
 ·rename_i hn;split at hp
  ·rename_i cs hk;simp only[Z4s,Z4C]at hp;obtain⟨rfl,rfl⟩:=hp;obtain⟨t,rfl,⟨v,hv,hev,⟨b,vs,ty,h1,rfl,_⟩⟩,_⟩:=(Ue hr hC hk rfl).resolve_left Z1;rw[hev];exact⟨_,W9 hf hn,b,h1,Z1⟩
  ·rename_i p q hk;simp only[Z4s,Z4C]at hp;obtain⟨rfl,rfl⟩:=hp;obtain⟨b,h1,h2⟩:=ZN hr hC hk rfl d;rw[h2];exact⟨_,W9 hf hn,b,h1,rfl⟩
  ·rename_i e q sh hk;simp only[Z4s,Z4C]at hp;obtain⟨rfl,rfl⟩:=hp;obtain⟨z,b,r,vs,h0,h1,h2,h3,h4,h5⟩:=ZN hr hC hk rfl d;rw[h1];exact⟨_,W9 hf hn,z,b,r,vs,h0,Z1,h2,h3,h4,h5⟩
  ·rename_i e sh hk;simp only[Z4s,Z4C]at hp;obtain⟨rfl,rfl⟩:=hp;obtain⟨u,hu,hrd⟩:=Xk hr hC hk;obtain⟨z,hz⟩:=hes _ (List.Mem.head _);simp only[eval,hu,Z4E]at hz;generalize a.eval x=v at hrd;cases hrd with
   |ptr cs b o vs h1 h2 h3 h4=>
    exact⟨_,W9 hf hn,.agg cs,b,o,vs,by simp[eval,hu,Jx],rfl,h1,h2,h3,h4⟩
   |_=>simp[Jx]at hz
  ·rename_i p i j q kk hk;simp only[Z4s,Z4C]at hp;obtain⟨rfl,rfl⟩:=hp;obtain⟨n,r,h1,h2,h3⟩:=ZN hr hC hk rfl d;rw[h3];exact⟨_,W9 hf hn,n,r,h1,h2,Z1⟩
  grind
def Dh{P:Program}{T el:TypeId}(h:tdOf P T=.sl el):P.underlying T=some (.slice el):=by
 grind [tdOf]
def Oh{P:Program}{T el:TypeId}{n:Nat}(h:tdOf P T=.ar n el):P.underlying T=some (.array n el):=by
 grind [tdOf]
def y9{x j z:V}{k:Nat}(hz:idxV x j k=some z):∃l ki q,x=.sl l/\j=.int ki (q:Nat)/\l[q]?=some z/\z.cells.length=k:=by
 unfold idxV at hz;split at hz
 ·rename_i l ki i;split at hz
  ·rename_i h0;obtain⟨q,rfl⟩:=Z4P h0;rw[Z5f,Z4t]at hz;obtain⟨y',hy,hy'⟩:=hz;split at hy'<;>first|(simp only[Z4s]at hy';subst y')|simp_all
   exact⟨l,ki,q,rfl,rfl,hy,by assumption⟩
  grind
 grind
def Rd.int_eq{G':Nat->Prop}{ki:IntKind}{n:Int}{v:Value}(h:Rd w G' (.int ki n) v):v=.int ki n:=by cases h;rfl
def Jq{T el:TypeId}(hT:c.P.underlying T=some (.slice el))(hel:okT c.P el=true){b o len cap:Nat}{ki:IntKind}{q:Nat}(hq:q<len):
  (Instr.indexAt T (.slice (some ⟨b,o,none⟩) len cap) (.int ki (q:Nat))).run c.P w=.ok (.pointer (some ⟨b,o+q*c.P.cellsOf el,none⟩)) w:=by
 obtain⟨dd,i,hd,hi,hs,_⟩:=WI hel;have h1:(0:Int)<=(q:Nat)/\((q:Nat):Int)< (len:Nat):=Z0;simp[Instr.indexAt,asIntOf,Z5e hT,hq,YI hi,hs,Z6q]
def Jb(hr:RelG c B G s a w h g)(hC:holds s (ixC c C)){T:TypeId}{x i:Operand}{k:TK}{es:List E}(hp:UZ c g C T x i=some (k,es))(hes:∀e∈es,∃z,eval s e=some z)(d:Nat):
  Has c B s w h (λp=>a.tmps[p]?) d k (Instr.indexAt T (a.eval x) (a.eval i)):=by
 unfold UZ at hp;split at hp
 ·rename_i el hT;have hT':=Dh hT;simp only[Z4t]at hp;obtain⟨⟨j,sj⟩,hj,hp⟩:=hp;obtain⟨y,hy,hyr⟩:=Xf hr hC hj
  have own:∀ {p:Nat} {pi:Option Nat},opK g C x=Jd p pi->RR c g p pi el j=some (k,es)->Has c B s w h (λp=>a.tmps[p]?) d k (Instr.indexAt T (a.eval x) (a.eval i)):=by
   intro p pi hk hio;unfold RR at hio;simp only[Z4t]at hio;obtain⟨⟨ty,e⟩,ho,hio⟩:=hio;split at hio
   ·rename_i hcel;obtain⟨hcel,hokel⟩:=hcel;simp only[Z4s,Z4C]at hio;obtain⟨rfl,rfl⟩:=hio;have hrel:=ZN hr hC hk (by cases pi<;>rfl) 0;obtain⟨xv,hxv,hown⟩:=hr.ownAt ho hrel;obtain⟨z,hz⟩:=hes _ (List.Mem.head _);simp only[eval,hxv,hy,Z4E]at hz;have hz':=hz;obtain⟨l,ki,q,rfl,rfl,hlz,_⟩:=y9 hz;obtain⟨l',n,cap,cur,xs,hl',_,hbl,hv,_⟩:=hown.elem hz';cases hl';rw[hv,hyr.int_eq];refine⟨_,Jq hT' hokel (Z4v.1 hlz).1,n,q,?_,⟨ki,hy⟩,by rw[Z5g,Z6G]⟩;cases pi<;>exact hbl
   ·simp at hio
  split at hp
  ·rename_i p hk;exact own (pi:=none) hk hp
  ·rename_i p q hk;exact own (pi:=some q) hk hp
  ·rename_i e sh hk;split at hp
   ·rename_i hokel;simp only[Z4s,Z4C]at hp;obtain⟨rfl,rfl⟩:=hp;obtain⟨u,hu,hrd⟩:=Xk hr hC hk;obtain⟨z,hz⟩:=hes _ (List.Mem.head _);have hz0:=hz;simp only[eval,hu,hy,Z4E]at hz;obtain⟨l,ki,q,rfl,rfl,hlz,hzk⟩:=y9 hz;rw[hyr.int_eq];generalize a.eval x=v at hrd;cases hrd with
    |nil a' cap hc=>simp at hlz
    |sl _ b o cap kk vs h1 h2 h3 h4 h5 h6=>
     have hfit:=h4 z (Z4B hlz);have hkk:kk=c.P.cellsOf el:=by rw[<-hfit.1,hzk]
     subst hkk;have hlt:=(Z4v.1 hlz).1
     have hle:q*c.P.cellsOf el+c.P.cellsOf el<=l.length*c.P.cellsOf el:=by
      rw[<-Z5P];exact Z5a _ hlt
     have hpc:=Eb hfit;refine⟨_,Jq hT' hokel hlt,z,b,o+q*c.P.cellsOf el,λi=>vs (q*c.P.cellsOf el+i),hz0,by rw[Z6G],h3,by rw[hpc];exact hfit.2,λi hi=> ?_,λi u hi=> ?_⟩
     ·rw[hpc,hfit.1]at hi;rw[Z61];exact h5 _ Z0
     ·rw[hpc]at hi;have hi':i<c.P.cellsOf el:=by rw[<-hfit.1];exact(Z4v.1 hi).1
      exact h6 _ u (by rw[YJ h4 hlz i hi'];exact hi)
   ·simp at hp
  ·simp at hp
 ·rename_i n el hT;have hT':=Oh hT;split at hp
  ·simp at hp
  ·rename_i hokel;simp only[Z6L,Bool.not_eq_false']at hokel;simp only[Z4t]at hp;obtain⟨⟨j,sj⟩,hj,hp⟩:=hp;obtain⟨y,hy,hyr⟩:=Xf hr hC hj
   have fin:∀ {p o b:Nat},a.eval x=.pointer (some ⟨b,o,none⟩)->h.bl p 0=some b->some (TK.pa p o j n (c.P.cellsOf el),[E.ai (.c (.agg (List.replicate n (.bool true)))) j n 1 false])=some (k,es)->Has c B s w h (λp=>a.tmps[p]?) d k (Instr.indexAt T (a.eval x) (a.eval i)):=by
    intro p o b hev hb heq;simp only[Z4s,Z4C]at heq;obtain⟨rfl,rfl⟩:=heq;obtain⟨z,hz⟩:=hes _ (List.Mem.head _);simp only[eval,hy,Z4E]at hz;obtain⟨cs,ki,q,_,rfl,hq,_⟩:=RI hz;rw[hev,hyr.int_eq];obtain⟨dd,info,hd,hi,hs,_⟩:=WI hokel;refine⟨_,?_,b,q,hb,⟨ki,hy⟩,hq,rfl⟩;simp[Instr.indexAt,asIntOf,Z5e hT',hq,YI hi,hs,Z6q,Instr.sureAddr]
   split at hp
   ·rename_i cs hk;obtain⟨t,rfl,⟨v,hv,hev,⟨b,vs,ty,h1,rfl,_⟩⟩,_⟩:=(Ue hr hC hk rfl).resolve_left (by rintro(⟨e,h⟩|h)<;>cases h);exact fin hev h1 hp
   ·rename_i p o hk;obtain⟨b,h1,h2⟩:=ZN hr hC hk rfl d;exact fin h2 h1 hp
   ·rename_i e o sh hk;simp only[Z4s,Z4C]at hp;obtain⟨rfl,rfl⟩:=hp;obtain⟨u,b,q0,vs,he,hv,hext,hone,hcell,hrd⟩:=ZN hr hC hk rfl d;obtain⟨z,hz⟩:=hes _ (List.Mem.head _);have hz0:=hz;simp only[eval,he,hy,Z4E,Z4t]at hz;obtain⟨cs,hcs,hz⟩:=hz;obtain⟨hle,rfl⟩:=U8 hcs;obtain⟨cs',ki,q,hcc,rfl,hq,hlen,hzz⟩:=RI hz;cases hcc;simp only[Z5b,Z4s]at hzz;rw[hv,hyr.int_eq];obtain⟨dd,info,hd,hi,hs,_⟩:=WI hokel
    have hle2:q*c.P.cellsOf el+c.P.cellsOf el<=n*c.P.cellsOf el:=by
     rw[<-Z5P];exact Z5a _ hq
    have hat:∀(i:Nat) (x:V),z.pc[i]?=some x->i<c.P.cellsOf el/\u.pc[o+q*c.P.cellsOf el+i]?=some x:=by
     intro i x hx;rw[<-hzz]at hx;simp only[V.pc,Z55]at hx;split at hx
     ·rename_i hik;rw[Z5d,Z55,if_pos Z0,Z5d]at hx;exact⟨hik,by rw[<-hx];congr 1;omega⟩
     ·cases hx
    refine⟨_,?_,z,b,q0+(o+q*c.P.cellsOf el),λi=>vs (o+q*c.P.cellsOf el+i),hz0,rfl,hext,?_,?_,?_⟩
    ·simp[Instr.indexAt,asIntOf,Z5e hT',hq,YI hi,hs,Z6q,Instr.sureAddr,Z61]
    ·intro x hx;obtain⟨i,hi⟩:=Z4V hx;exact hone x (Z4B (hat i x hi).2)
    ·intro i hi;have:=hat i _ (Z4u hi);rw[Z61];exact hcell _ (Z4v.1 this.2).1
    ·intro i x hx;exact hrd _ x (hat i x hx).2
   ·simp at hp
 ·simp at hp
theorem jI{x z:V}(h:oneV x=some z):z.one=true:=(X2 h).2
def KN{kc:KC}{x k v z:V}(h:QY kc x k v=some z):∃id ks vs ks' vs',x=.mp id ks vs/\z=.mp id ks' vs':=by
 unfold QY at h
 grind
theorem Tn:∀(e:E) (x:V),e.sure=true->eval s e=some x->x.one=true
 |.c v,x,h,he=>by simp only[eval,Z4s]at he;subst he;exact h
 | .m t i,x,_,he=>by
   simp only[eval]at he;split at he
   ·rw[Z4t]at he;obtain⟨y,_,h1⟩:=he;exact jI h1
   grind
 | .bin op a b,x,_,he=>by
   simp only[eval,Z4t]at he;obtain⟨y,_,z,_,h1⟩:=he;cases y<;>cases z<;>cases op<;>simp only[binV]at h1<;>(try split at h1)<;>(try simp only[Z4s]at h1)<;>(try subst h1)<;>first|rfl|simp at h1
 | .eqv n a b,x,_,he=>by
   simp only[eval,Z4t]at he;obtain⟨y,_,z,_,h1⟩:=he;cases y<;>cases z<;>simp only[eqV]at h1<;>(try simp only[Z4s]at h1)<;>(try subst h1)<;>first|rfl|simp at h1
 | .un op a,x,_,he=>by
   simp only[eval,Z4t]at he;obtain⟨y,_,h1⟩:=he;cases y<;>cases op<;>simp only[unV]at h1<;>(try simp only[Z4s]at h1)<;>(try subst h1)<;>first|rfl|simp at h1
 | .conv k a,x,_,he=>by
   simp only[eval,Z4t]at he;obtain⟨y,_,h1⟩:=he;cases y<;>simp only[Cf]at h1<;>(try simp only[Z4s]at h1)<;>(try subst h1)<;>first|rfl|simp at h1
 | .len a,x,_,he=>by
   simp only[eval,Z4t]at he;obtain⟨y,_,h1⟩:=he;cases y<;>simp only[lenV]at h1<;>(try simp only[Z4s]at h1)<;>(try subst h1)<;>first|rfl|simp at h1
 | .mn a b,x,_,he=>by
   simp only[eval,Z4t]at he;obtain⟨y,_,z,_,h1⟩:=he;cases y<;>cases z<;>simp only[minV]at h1<;>(try simp only[Z4s]at h1)<;>(try subst h1)<;>first|rfl|simp at h1
 | .mx a b,x,_,he=>by
   simp only[eval,Z4t]at he;obtain⟨y,_,z,_,h1⟩:=he;cases y<;>cases z<;>simp only[maxV]at h1<;>(try simp only[Z4s]at h1)<;>(try subst h1)<;>first|rfl|simp at h1
 | .mput kc a k v,x,_,he=>by
   simp only[eval,Z4t]at he;obtain⟨y,_,z,_,u,_,h1⟩:=he;obtain⟨_,_,_,_,_,_,rfl⟩:=KN h1;rfl
 | .mlen a,x,_,he=>by
   simp only[eval,Z4t]at he;obtain⟨y,_,h1⟩:=he;cases y<;>simp only[yK]at h1<;>(try simp only[Z4s]at h1)<;>(try subst h1)<;>first|rfl|simp at h1
 | .mclr a,x,_,he=>by
   simp only[eval,Z4t]at he;obtain⟨y,_,h1⟩:=he;cases y<;>simp only[F9]at h1<;>(try simp only[Z4s]at h1)<;>(try subst h1)<;>first|rfl|simp at h1
 | .fld a o,x,_,he=>by
   simp only[eval,Z4t,fldV]at he
   grind [jI]
 | .slc a lo hi k,x,_,he=>by
   simp only[eval,Z4t]at he;obtain⟨y,_,z,_,u,_,h1⟩:=he;unfold slcV at h1;split at h1
   ·split at h1
    ·simp only[Z4s]at h1;subst h1;rfl
    grind
   grind
 | .slcl a lo k,x,_,he=>by
   simp only[eval,Z4t]at he;obtain⟨y,_,z,_,h1⟩:=he;unfold At at h1;split at h1
   ·split at h1
    ·simp only[Z4s]at h1;subst h1;rfl
    grind
   grind
 | .app a b k,x,_,he=>by
   simp only[eval,Z4t]at he;obtain⟨y,_,z,_,h1⟩:=he;unfold appV at h1;split at h1
   ·split at h1
    ·simp only[Z4s]at h1;subst h1;rfl
    grind
   grind
 | .upd a i o b,x,_,he=>by
   simp only[eval,Z4t]at he;obtain⟨y,_,z,_,u,_,h1⟩:=he;unfold updV at h1;split at h1
   ·split at h1
    ·rw[Z4t]at h1;obtain⟨q,_,h1⟩:=h1;split at h1
     ·simp only[Z4s]at h1;subst h1;rfl
     grind
    grind
   grind
 | .mk z n,x,_,he=>by
   simp only[eval,Z4t]at he;obtain⟨y,_,h1⟩:=he;unfold mkV at h1;split at h1
   ·split at h1
    ·simp only[Z4s]at h1;subst h1;rfl
    grind
   grind
 | .lit l,x,_,he=>by
   simp only[eval,Z4w]at he;obtain⟨y,_,h1⟩:=he;subst h1;rfl
 | .one a,x,_,he=>by
   grind [eval,Option.bind_eq_some_iff,jI]
 | .ite d a b,x,h,he=>by
   simp only[E.sure,Z4x]at h;simp only[eval,Z4t]at he;obtain⟨y,_,h1⟩:=he;unfold iteV at h1;split at h1
   ·exact Tn a x h.1 h1
   ·exact Tn b x h.2 h1
   grind
 |.s t,x,h,he=>Z44
 |.mm t i n,x,h,he=>Z44
 |.ext a i,x,h,he=>Z44
 |.idx a i k,x,h,he=>Z44
 |.flds a o n,x,h,he=>Z44
 |.ai a i n k ag,x,h,he=>Z44
 |.aput a i n k b,x,h,he=>Z44
 |.ag l,x,h,he=>Z44
 |.star a,x,h,he=>Z44
 |.isag a,x,h,he=>Z44
 |.sz a n,x,h,he=>Z44
 |.fl a,x,h,he=>Z44
 |.fls a,x,h,he=>Z44
end
end Vm
namespace Vm
open Go
open Go.RowKit (Below)
section
variable {c:Ctx}{B:Nat}{G:Nat->Prop}{s:St}{a:Act}{w:World}{h:GH}{g:Gam}{C:Zg}
theorem yW{e:E}{x:V}(hx:eval s (oneE e)=some x):eval s e=some x/\x.one=true:=by
 unfold oneE at hx;split at hx
 ·grind [Tn]
 ·simp only[eval,Z4t]at hx;obtain⟨y,hy,h1⟩:=hx;obtain⟨rfl,h2⟩:=X2 h1;simp_all
theorem BN{x z:V}{n:Nat}(hz:szV x n=some z):x=z/\z.cells.length=n/\∀l,z≠.tup l:=by
 unfold szV at hz;split at hz
 ·rename_i hn;cases x<;>simp only[Z4s]at hz<;>first|(subst hz;exact⟨rfl,hn,Z1⟩)|(simp at hz;done)
 grind
theorem J3{x:V}(h:x.one=true):∀l,x≠.tup l:=by
 grind [V.one]
theorem YN{x:V}(h:x.one=true):x.cells=[x]:=by
 cases x<;>first|rfl|simp[V.one]at h
theorem II{e:E}{n:Nat}{x:V}(hx:eval s (szE e n)=some x):eval s e=some x/\x.cells.length=n/\∀l,x≠.tup l:=by
 unfold szE at hx;split at hx
 ·rename_i hs;refine⟨hx,?_⟩;cases e<;>simp only[E.sized,Z59,Z4x]at hs<;>first|(cases hs;done)|skip
  ·grind [eval,Option.some.injEq,V.cells]
  ·subst hs;simp only[eval,Z4t]at hx;obtain⟨y,_,hy⟩:=hx;obtain⟨h1,rfl⟩:=U8 hy
   grind [V.cells]
  ·rename_i l;obtain⟨hl,hall⟩:=hs;simp only[eval,Z4w]at hx;obtain⟨xs,hxs,rfl⟩:=hx;obtain⟨h1,h2⟩:=Yz hxs
   have hone:∀y∈xs,y.one=true:=by
    intro y hy;obtain⟨i,hi⟩:=Z4V hy;have hlt:i<l.length:=Z3Z;obtain⟨z,hz,hz'⟩:=h2 i l[i] (Z4u hlt);rw[hi]at hz;cases hz;exact Tn _ _ (Z4D.1 hall _ (Z4J hlt)) hz'
   simp_all[agV,V.cells,YG]
  grind [eval,Option.bind_eq_some_iff,BN]
 ·simp only[eval,Z4t]at hx;obtain⟨y,hy,h1⟩:=hx;obtain⟨rfl,h2⟩:=BN h1;simp_all
theorem Q7{ag:Bool}{n:Nat}{e:E}{x:V}(hx:eval s (tyE ag n e)=some x):eval s e=some x/\(∀l,x≠.tup l)/\(ag=true->x.cells.length=n)/\(ag=false->x.one=true):=by
 grind [tyE,II,yW,J3]
def zd{P:Program}{T:TypeId}(hT:(P.underlying T).isSome=true)(hsz:P.cellsOf T≠0){vs:Array Value}{o:Nat}(hlt:o+P.cellsOf T<=vs.size):
  (part T vs o).run P w=.ok (if Zn P T then .agg (vs.extract o (o+P.cellsOf T))else vs.getD o undef) w:=by
 obtain⟨i,hi,hs⟩:=V9 hsz;have hok:okT P T=true:=by simp[okT,hT,hi]
 obtain⟨d,i',hd,hi',hs',hagg⟩:=WI hok;have hlt':o<vs.size:=Z0;cases hag:Zn P T with
 |true=>simp_all[part,YI]
 |false=>simp_all[part,Z4y]
def Rd.part{G':Nat->Prop}{cs:List V}{vs:Array Value}(h1:vs.size=cs.length)(h2:∀c∈cs,c.one=true)(h3:∀i c,cs[i]?=some c->Rd w G' c (vs.getD i undef)){o n:Nat}(hle:o+n<=cs.length):
  Rd w G' (.agg ((cs.drop o).take n)) (.agg (vs.extract o (o+n))):=by
 refine .agg _ _ Z3N (λy hy=>h2 y (Z64 (Z5o hy))) λi y hi=> ?_;rw[Z55]at hi;split at hi
 ·rename_i hin;rw[Z5d]at hi;have:=h3 (o+i) y hi
  have hg:(vs.extract o (o+n)).getD i undef=vs.getD (o+i) undef:=by
   have hb:i<o+n-o:=Z0;simp only[Z4y,Z8d];rw[if_pos Z0]
  simp_all
 grind
def Kz{x z:V}(hz:jH x=some z):∃cs,x=.agg cs/\z=.agg cs:=by
 unfold jH at hz;split at hz
 ·simp only[Z4s]at hz;exact⟨_,rfl,hz.symm⟩
 grind
def FG(hr:RelG c B G s a w h g)(hC:holds s (ixC c C)){T:TypeId}{x:Operand}{f:Nat}{k:TK}{es:List E}(hp:NU c g C T x f=some (k,es))(hes:∀e∈es,∃z,eval s e=some z)(d:Nat):
  Has c B s w h (λp=>a.tmps[p]?) d k (Instr.field T (a.eval x) f):=by
 unfold NU at hp;simp only[Z4t]at hp;obtain⟨y,hf,hp⟩:=hp;split at hp
 grind
 ·rename_i hn;simp only[Z4w,Z4C]at hp;obtain⟨⟨e,sh⟩,he,rfl,rfl⟩:=hp;obtain⟨fs,fd,hu,hfd,hok,rfl⟩:=R2 hf;simp only at hn;obtain⟨u,hu',hrd⟩:=Xf hr hC he;obtain⟨z,hz⟩:=hes _ (List.Mem.head _);simp only at hz;generalize a.eval x=v at hrd;obtain⟨i,hi,hs⟩:=V9 hn;have hsome:(c.P.underlying fd.type).isSome=true:=by simp only[okT,Z4x]at hok;exact hok.1
  cases hag:Zn c.P fd.type with
  |true=>
   rw[hag]at hz;simp only[Z5b,eval,hu',Z4E,Z4t]at hz;obtain⟨q,hq,hz⟩:=hz;obtain⟨cs,rfl,rfl⟩:=Kz hq;obtain⟨hle,rfl⟩:=U8 hz;cases hrd with
   |agg _ vs h1 h2 h3=>
    refine⟨.agg (vs.extract fd.offset (fd.offset+c.P.cellsOf fd.type)),?_,.agg ((cs.drop fd.offset).take (c.P.cellsOf fd.type)),?_,Rd.part h1 h2 h3 hle⟩
    ·have:=zd (w:=w) (P:=c.P) hsome hn (vs:=vs) (o:=fd.offset) (by rw[h1];exact hle);simp_all[Instr.field,Z5e,asAgg]
    ·simp only[hag,Z5b,eval,hu',Z4E,jH,Ry];rw[if_pos hle];rfl
  |false=>
   rw[hag]at hz;simp only[Z4G,Z5h,eval,hu',Z4E,Z4t]at hz;obtain⟨q,hq,hz⟩:=hz;obtain⟨cs,rfl,rfl⟩:=Kz hq;have hz':=QB hz;cases hrd with
   |agg _ vs h1 h2 h3=>
    have hlt:fd.offset<vs.size:=by rw[h1];exact(Z4v.1 hz').1
    refine⟨vs.getD fd.offset undef,?_,z,?_,h3 _ _ hz'⟩
    ·obtain⟨d',i',hd',hi',hs',hagg⟩:=WI (P:=c.P) (T:=fd.type) Z0;simp_all[Instr.field,Z5e,asAgg,part,Z4y]
    simp_all[Z4G,Z5h,eval,Z4E,jH]
def A7(hr:RelG c B G s a w h g)(hC:holds s (ixC c C)){T:TypeId}{x i:Operand}{k:TK}{es:List E}(hp:A6 c g C T x i=some (k,es))(hes:∀e∈es,∃z,eval s e=some z)(d:Nat):
  Has c B s w h (λp=>a.tmps[p]?) d k (Instr.index T (a.eval x) (a.eval i)):=by
 unfold A6 at hp;split at hp
 ·rename_i n el hT;have hT':=Oh hT;split at hp
  grind
  ·rename_i hokel;simp only[Z6L,Bool.not_eq_false']at hokel;simp only[Z4t,Z4w,Z4C]at hp;obtain⟨⟨e,sh⟩,he,⟨j,sj⟩,hj,rfl,rfl⟩:=hp;obtain⟨u,hu,hrd⟩:=Xf hr hC he;obtain⟨y,hy,hyr⟩:=Xf hr hC hj;obtain⟨z,hz⟩:=hes _ (List.Mem.head _);have hz0:=hz;simp only[eval,hu,hy,Z4E]at hz;obtain⟨cs,ki,q,rfl,rfl,hq,hlen,hzz⟩:=RI hz;rw[hyr.int_eq];generalize a.eval x=v at hrd;obtain⟨dd,info,hd,hi,hs,hagg⟩:=WI hokel
   have hle:q*c.P.cellsOf el+c.P.cellsOf el<=n*c.P.cellsOf el:=by
    rw[<-Z5P];exact Z5a _ hq
   cases hrd with
   |agg _ vs h1 h2 h3=>
    cases hag:Zn c.P el with
    |false=>
     rw[hag]at hzz hz0;simp only[Z4G,Z5h]at hzz;have hlt:q*c.P.cellsOf el<vs.size:=by rw[h1];exact(Z4v.1 hzz).1
     rw[hs]at hlt hzz;refine⟨vs.getD (q*info.size) undef,?_,z,Z0,h3 _ _ hzz⟩;simp[Instr.index,asIntOf,Z5e hT',hq,YI hi,part,hagg,hag,hlt,Z4y]
    |true=>
     rw[hag]at hzz hz0;simp only[Z5b,Z4s]at hzz;subst hzz;refine⟨.agg (vs.extract (q*c.P.cellsOf el) (q*c.P.cellsOf el+c.P.cellsOf el)),?_,_,Z0,Rd.part h1 h2 h3 Z0⟩;rw[hs];simp[Instr.index,asIntOf,Z5e hT',hq,YI hi,part,hagg,hag]
 grind
def Jv{k:Nat}{l:List V}(hk:Ya k l=true):∀x∈l,x.cells.length=k:=λx hx=>by
 have:=Z4D.1 hk x hx;simp_all
def N2{P:Program}{T el:TypeId}(h:P.underlying T=some (.slice el)):P.elem T=el:=by
 simp[Program.elem,h]
def Rd.sliced{G':Nat->Prop}{l:List V}{o:Option Addr}{len cap:Nat}(hx:Rd w G' (.sl l) (.slice o len cap)){k p q:Nat}(hk:Ya k l=true)(hpq:p<=q)(hq:q<=l.length):
  q<=cap/\len=l.length/\Rd w G' (.sl ((l.take q).drop p)) (sliced o p q cap k):=by
 cases hx with
 |nil _ _ hc=>
  simp only[Z6j,Nat.le_zero]at hq;subst hq;have hp0:p=0:=Z0;subst hp0;exact⟨Z5H _,rfl,by simp only[Go.sliced,List.take_nil,List.drop_nil,Nat.sub_zero];exact .nil _ _ hc⟩
 |sl _ b o _ kk vs h1 h2 h3 h4 h5 h6=>
  refine⟨Z0,rfl,?_⟩;unfold Go.sliced;by_cases hpq':p=q
  ·subst hpq'
   have:(l.take p).drop p=[]:=by
    rw[Z8e];simp;omega
   rw[this,Z6b];exact .nil _ _ Z0
  ·have hne:cap≠p:=Z0;have hl0:∃x,l[p]?=some x:=⟨_,Z4u Z0⟩;obtain⟨x,hx⟩:=hl0;have hkk:kk=k:=by rw[<-(h4 x (Z4B hx)).1,Jv hk x (Z4B hx)]
   subst hkk;have hlen:((l.take q).drop p).length=q-p:=Z3N;simp only[if_neg hne,Z4K,Z6q];rw[<-hlen]
   have hflat:Vm.flat ((l.take q).drop p)=((Vm.flat l).take (q*kk)).drop (p*kk):=by
    rw[Ec (k:=kk) (λx hx=>h4 x (Z5o hx)),Ee h4]
   refine .sl _ b (o+p*kk) (cap-p) kk (λi=>vs (p*kk+i)) Z0 Z0 h3 (λx hx=>h4 x (Z5o (Z64 hx))) (λi hi=> ?_) λi c hi=> ?_
   ·rw[Z61];refine h5 _ ?_;have:(q-p)*kk+p*kk<=l.length*kk:=by rw[<-Nat.add_mul];exact Z5a _ Z0
    rw[hlen]at hi;omega
   ·rw[hflat,Z5d,Z55]at hi;split at hi
    ·exact h6 _ _ hi
    ·simp at hi
def VZ{T:TypeId}(hT:c.P.underlying T=some (.slice (c.P.elem T))){v:Value}{lo hi:Option Value}{tm:Nat->Option Value}{d:Nat}{k:TK}:
  Has c B s w h tm d k (Instr.sliceAt T v lo hi none)=Has c B s w h tm d k (Instr.slice T v lo hi none):=by
 simp_all[Has,run_sliceAt_slice]
theorem Um{P:Program}{T:TypeId}(hT:okT P T=true)(w:World):(Go.sizeOf T).run P w=.ok (P.cellsOf T) w:=by
 grind [WI,YI]
def Gg{k:Nat}{x y z u:V}(hz:slcV k x y z=some u):∃l ka kb p q,x=.sl l/\y=.int ka (p:Nat)/\z=.int kb (q:Nat)/\p<=q/\q<=l.length/\Ya k l=true/\u=.sl ((l.take q).drop p):=by
 unfold slcV at hz;split at hz
 ·rename_i l ka p kb q;split at hz
  ·rename_i hc;obtain⟨h0,h1,h2,h3⟩:=hc;obtain⟨p,rfl⟩:=Z4P h0;obtain⟨q,rfl⟩:=Z4P (Int.le_trans h0 h1)
   grind
  grind
 grind
def D7{k:Nat}{x y u:V}(hz:At k x y=some u):∃l ka p,x=.sl l/\y=.int ka (p:Nat)/\p<=l.length/\Ya k l=true/\u=.sl (l.drop p):=by
 unfold At at hz;split at hz
 ·rename_i l ka p;split at hz
  ·rename_i hc;obtain⟨h0,h1,h3⟩:=hc;obtain⟨p,rfl⟩:=Z4P h0;simp only[Z4s,Z5f]at hz;exact⟨l,ka,p,rfl,rfl,Z0,h3,hz.symm⟩
  grind
 grind
def Rd.sl_eq{G':Nat->Prop}{l:List V}{v:Value}(hx:Rd w G' (.sl l) v):∃o len cap,v=.slice o len cap:=by
 cases hx<;>exact⟨_,_,_,rfl⟩
def A9(hr:RelG c B G s a w h g)(hC:holds s (ixC c C)){T:TypeId}{x:Operand}{lo hi:Option Operand}{k:TK}{es:List E}(hp:A8 c g C T x lo hi=some (k,es))(hes:∀e∈es,∃z,eval s e=some z)(d:Nat):
  Has c B s w h (λp=>a.tmps[p]?) d k (Instr.sliceAt T (a.eval x) (lo.map a.eval) (hi.map a.eval) none):=by
 unfold A8 at hp;split at hp
 ·rename_i el hT;have hT':=Dh hT;have hel:=N2 hT';have hT2:c.P.underlying T=some (.slice (c.P.elem T)):=by rw[hel];exact hT'
  split at hp
  ·rename_i hok;simp only[Z4t,Z4w,Z4C]at hp;obtain⟨⟨e,sh⟩,he,l,hl,e',he',rfl,rfl⟩:=hp;obtain⟨u,hu,hrd⟩:=Xf hr hC he;obtain⟨z,hz⟩:=hes _ (List.Mem.head _);rw[VZ hT2];generalize a.eval x=v at hrd;cases hi with
   |some hh=>
    simp only[opHi,Z4w]at he';obtain⟨⟨f,sf⟩,hf,rfl⟩:=he';obtain⟨y2,hy2,hr2⟩:=Xf hr hC hf;have hz0:=hz;simp only[eval,hu,hy2,Z4E,Z4t]at hz;obtain⟨y1,hy1,hz⟩:=hz;obtain⟨ll,ka,kb,p,q,rfl,rfl,rfl,hpq,hq,hsz,rfl⟩:=Gg hz;obtain⟨o,len,cap,rfl⟩:=hrd.sl_eq;obtain⟨hqc,hlen,hres⟩:=hrd.sliced hsz hpq hq;refine⟨_,?_,_,hz0,hres⟩;cases lo with
    |some ll'=>
     simp only[opLo,Z4w]at hl;obtain⟨⟨f1,sf1⟩,hf1,rfl⟩:=hl;obtain⟨y3,hy3,hr3⟩:=Xf hr hC hf1;rw[hy1]at hy3;cases hy3;simp only[Z4K];rw[hr2.int_eq,hr3.int_eq];simp_all[run_slice_lh,Um,Result.andThen]
    |none=>
     simp only[opLo,Z4s]at hl;subst hl;simp only[eval,Z4s,V.int.injEq]at hy1;have hp0:p=0:=Z0;subst hp0;simp only[Z4K,Z6W];rw[hr2.int_eq]
     grind [run_slice_h,Um,Result.andThen]
   |none=>
    simp only[opHi,Z4s]at he';subst he';have hz0:=hz;simp only[eval,hu,Z4E,Z4t]at hz;obtain⟨y1,hy1,hz⟩:=hz;obtain⟨ll,ka,p,rfl,rfl,hq,hsz,rfl⟩:=D7 hz;obtain⟨o,len,cap,rfl⟩:=hrd.sl_eq;obtain⟨hqc,hlen,hres⟩:=hrd.sliced hsz hq (Z4A _);rw[Z5D]at hres;refine⟨_,?_,_,hz0,hres⟩;cases lo with
    |some ll'=>
     simp only[opLo,Z4w]at hl;obtain⟨⟨f1,sf1⟩,hf1,rfl⟩:=hl;obtain⟨y3,hy3,hr3⟩:=Xf hr hC hf1;rw[hy1]at hy3;cases hy3;simp only[Z4K,Z6W];rw[hr3.int_eq];simp_all[run_slice_l,Um,Result.andThen]
    |none=>
     simp only[opLo,Z4s]at hl;subst hl;simp only[eval,Z4s,V.int.injEq]at hy1
     grind [run_slice_all,Um,Result.andThen]
  grind
 grind
end
end Vm
namespace Vm
open Go
open Go.RowKit (Below)
def GH.give(h:GH)(d i n:Nat):GH:= {F:=h.F,bl:=λt j=>if t=d then(if j=i then some n else none)else h.bl t j,K:=h.K}
def GH.froz(h:GH)(n:Nat):GH:= {F:=λb=>h.F b\/b=n,bl:=h.bl,K:=h.K}
section
variable {c:Ctx}{B:Nat}{G:Nat->Prop}{s:St}{a:Act}{w w':World}{h:GH}{g:Gam}{C:Zg}
def Xh(hok:Ok B G w h)(hg:w.grownBy w' none):Below B w w':=(Z5i B w).grown hg hok.base λk hk=>by cases hk
def S4(hok:Ok B G w h)(hg:w.grownBy w' none)(d i:Nat){n:Nat}(hn:w.heap.size<=n)(hn':n<w'.heap.size):
  Ok B G w' (h.give d i n)/\Step B [d] [d] [] w w' h (h.give d i n):=by
 have hsz:=hg.size
 refine⟨⟨Z4Z hok.base hsz,λb hb=>Z4F (hok.f_lt b hb) hsz,hok.f_or,hok.g_F,λt j b hb=> ?_,λt j u q b hb hb'=> ?_,λb hb=>Z4F (hok.k_lt b hb) hsz,λt j b hb hK=> ?_,hok.k_F⟩,
  Xh hok hg,λb hb _=>hg.block b hb Z1,λb hb=>hb,λt ht _=> ?_,λt ht=> ?_,λ_ _ _ _ hm=>Z4o,rfl⟩
 ·simp only[GH.give]at hb;split at hb
  ·split at hb
   ·simp only[Z4s]at hb;subst hb;exact⟨Z4Z hok.base hn,hn',λhF=>by have:=hok.f_lt _ hF;omega⟩
   ·cases hb
  ·obtain⟨h1,h2,h3⟩:=hok.b_lt t j b hb;exact⟨h1,Z4F h2 hsz,h3⟩
 ·simp only[GH.give]at hb hb';split at hb<;>split at hb'
  ·simp_all
  ·split at hb<;>first|(cases hb;done)|skip
   simp only[Z4s]at hb;have:=(hok.b_lt u q b hb').2.1;omega
  ·split at hb'<;>first|(cases hb';done)|skip
   simp only[Z4s]at hb';have:=(hok.b_lt t j b hb).2.1;omega
  ·exact hok.inj t j u q b hb hb'
 ·simp only[GH.give]at hb;split at hb
  ·split at hb
   ·simp only[Z4s]at hb;subst hb;have:=hok.k_lt _ hK;omega
   ·cases hb
  ·exact hok.k_bl t j b hb hK
 ·simp_all[GH.give]
 simp_all[GH.give]
def Gp(hok:Ok B G w h)(hg:w.grownBy w' none)(ps rb:List Nat){n:Nat}(hn:w.heap.size<=n)(hn':n<w'.heap.size):
  Ok B G w' (h.froz n)/\Step B ps rb [] w w' h (h.froz n):=by
 have hsz:=hg.size
 refine⟨⟨Z4Z hok.base hsz,λb hb=> ?_,λb hb=> ?_,λb hb=>.inl (hok.g_F b hb),λt j b hb=> ?_,hok.inj,λb hb=>Z4F (hok.k_lt b hb) hsz,hok.k_bl,λb hb=> ?_⟩,
  Xh hok hg,λb hb _=>hg.block b hb Z1,λb hb=>.inl hb,λt ht _=>rfl,λt ht=>rfl,λ_ _ _ _ hm=>Z4o,rfl⟩
 ·obtain hb|rfl:=hb
  ·exact Z4F (hok.f_lt b hb) hsz
  omega
 ·obtain hb|rfl:=hb
  ·exact hok.f_or b hb
  ·exact .inr (Z4Z hok.base hn)
 ·obtain⟨h1,h2,h3⟩:=hok.b_lt t j b hb;refine⟨h1,Z4F h2 hsz,λhF=> ?_⟩;obtain hF|rfl:=hF
  ·exact h3 hF
  ·omega
 ·obtain hb|rfl:=hb
  ·exact hok.k_F b hb
  ·exact .inr λhK=>by have:=hok.k_lt _ hK;omega
def SP(hok:Ok B G w h)(hg:w.grownBy w' none){G':Nat->Prop}(hlt:∀b,G' b->b<w.heap.size):Same G' w w':=λb hb=>hg.block b (hlt b hb) Z1
def Pd(hok:Ok B G w h)(sh:List Nat):∀b,h.ext sh b->b<w.heap.size:=by
 intro b hb;obtain hb|⟨p,_,i,hi⟩:=hb
 ·exact hok.f_lt b hb
 ·exact(hok.b_lt p (i+1) b hi).2.1
def QV{α β:Type}{f:α->Option β}:∀ {l:List α} {r:List β},l.mapM f=some r->r.length=l.length/\∀(i:Nat) (v:α),l[i]?=some v->∃x,r[i]?=some x/\f v=some x
 | [],r,hm=>by
   simp at hm;subst hm;exact⟨rfl,λi v hi=>Z43⟩
 |y::l,r,hm=>by
  rw[Z6N]at hm;simp only[Option.bind_eq_bind,Z4t,Option.pure_def,Z4s]at hm;obtain⟨x,hx,xs,hxs,rfl⟩:=hm;obtain⟨h1,h2⟩:=QV hxs;refine⟨by simp[h1],λi v hi=> ?_⟩;cases i with
  |zero=>simp at hi;subst hi;exact⟨x,Z1,hx⟩
  |succ i=>simpa using h2 i v (by simpa using hi)
def Wt{P:Program}{T:TypeId}{zs:List V}(hz:zeroCells P T=some zs):∃i z,P.info? T=some i/\i.zero=some z/\z.cells.size=zs.length/\∀(j:Nat) (v:Value),z.cells[j]?=some v->∃x,zs[j]?=some x/\Uy v=some x:=by
 unfold zeroCells at hz;simp only[Z4t]at hz;obtain⟨z,⟨i,hi,hz0⟩,hm⟩:=hz;obtain⟨h1,h2⟩:=QV hm;simp_all
def Vl{P:Program}{T:TypeId}{i:TypeInfo}{z:Value}(hi:P.info? T=some i)(hz:i.zero=some z)(w:World):(zeroValue T).run P w=.ok z w:=by
 simp[zeroValue,typeInfo,hi,hz]
def SO{P:Program}{T:TypeId}(v:Value)(w:World):(newVar T v).run P w=.ok ⟨w.heap.size,0,none⟩ (w.alloc (.cells v.cells T)):=by
 rfl
def Z0V(x:V):CK:=match x with|.sl _=>CK.nil|_=>.fz
def IU{P:Program}{o:Option Nat}{v:Value}{x:V}(hv:Uy v=some x):RelC P B s w h o (Z0V x) (.c x) v:=by
 unfold Uy at hv
 split at hv<;>first
  |(simp only[Z4s]at hv;subst hv;first|exact⟨_,rfl,rfl,.int _ _⟩|exact⟨_,rfl,rfl,.bool _⟩|exact⟨_,rfl,rfl,.str _⟩|exact⟨rfl,rfl⟩|exact⟨_,rfl,rfl,.nomp⟩|exact⟨_,rfl,rfl,.nul0⟩|exact⟨_,rfl,rfl,.nul1⟩)
  | (split at hv<;>first
    | (rename_i hs
       simp only[Z4s]at hv;subst hv;rw[Z5v hs.1,Z5v hs.2];exact⟨_,rfl,rfl,.fn _⟩)
    |simp at hv)
  |simp at hv
def A3(hok:Ok B G w h){T:TypeId}{k:TK}{es:List E}(hp:A2 c T=some (k,es))(tm:Nat->Option Value)(d:Nat):
  ∃v w',(Instr.alloc T true (.tuple #[])).run c.P w=.ok v w'/\PRes c B G s w h tm d k v w':=by
 unfold A2 at hp;simp only[Z4t]at hp;obtain⟨zs,hz,hp⟩:=hp;split at hp
 grind
 ·simp only[Z4s,Z4C]at hp;obtain⟨rfl,rfl⟩:=hp;obtain⟨i,z,hi,hz0,hsz,hcells⟩:=Wt hz;have hg:=Z5U w (.cells z.cells T) none;obtain⟨hok',hst⟩:=S4 hok hg d 0 (n:=w.heap.size) (Z4A _) Z1;refine⟨.pointer (some ⟨w.heap.size,0,none⟩),_,?_,_,hst,hok',?_⟩
  ·simp[Instr.alloc,Vl hi hz0,SO]
  ·refine⟨w.heap.size,z.cells,T,by simp[GH.give],rfl,Z5c w _,Z3M,λj ck hj=> ?_⟩;simp only[Z4M,Z4w]at hj;obtain⟨x,hx,rfl⟩:=hj;have hlt:j<z.cells.size:=by rw[hsz];exact(Z4v.1 hx).1
   obtain⟨x',hx',hc⟩:=hcells j z.cells[j] (Z4X hlt);rw[hx]at hx';cases hx';have:z.cells.getD j undef=z.cells[j]:=by simp[hlt]
   rw[this];exact IU hc
def FE(hr:RelG c B G s a w h g)(hC:holds s (ixC c C)){T:TypeId}{x:Operand}{k:TK}{es:List E}(hp:NT c g C T x=some (k,es))(hes:∀e∈es,∃z,eval s e=some z)(tm:Nat->Option Value)(d:Nat):
  ∃v w',(Instr.box T (a.eval x)).run c.P w=.ok v w'/\PRes c B G s w h tm d k v w':=by
 unfold NT at hp;split at hp
 ·rename_i e0 hk;split at hp
  ·rename_i hokT;obtain⟨y,hy,hrd⟩:=Xk hr hC hk;have hg:=Z5U w (.cells (a.eval x).cells T) none;obtain⟨hok',hst⟩:=S4 hr.ok hg d 0 (n:=w.heap.size) (Z4A _) Z1;have hF:Same h.F w (w.alloc (.cells (a.eval x).cells T)):=SP hr.ok hg hr.ok.f_lt;refine⟨.pointer (some ⟨w.heap.size,0,none⟩),_,Z4r,_,hst,hok',?_⟩;generalize a.eval x=v at*;split at hp
   ·rename_i hag;simp only[hag,Z4s,Z4C]at hp;obtain⟨rfl,rfl⟩:=hp;obtain⟨z,hz⟩:=hes _ (List.Mem.head _);obtain⟨h1,h2,h3,_⟩:=Q7 hz;rw[hy]at h1;cases h1;obtain⟨hs1,hs2,hs3⟩:=hrd.cells h2;refine⟨w.heap.size,v.cells,T,by simp[GH.give],rfl,Z5c w _,Z3M,λj ck hj=> ?_⟩;simp only[Z4M,Z4w]at hj;obtain⟨j',hj',rfl⟩:=hj;have hlt:j<c.P.cellsOf T:=by simpa using(Z4v.1 hj').1
    have hj2:j'=j:=by simpa[hlt]using hj'.symm
    subst hj2;have hlt2:j'<y.cells.length:=by rw[h3 rfl];exact hlt
    have hget:y.cells[j']?=some y.cells[j']:=Z4u hlt2;refine⟨y.cells[j'],?_,hs2 _ (Z4J _),(hs3 j' _ hget).F.keep hF λb hb=>hb⟩;have hpc:y.pc=y.cells:=by cases y<;>first|rfl|exact absurd rfl (h2 _)
    simp_all[eval,Z4E,fldV,oneV,if_pos,Z4J]
   ·rename_i hag;have hag':Zn c.P T=false:=by simpa using hag
    simp only[hag',Z4s,Z4C]at hp;obtain⟨rfl,rfl⟩:=hp;obtain⟨z,hz⟩:=hes _ (List.Mem.head _);obtain⟨h1,h2,_,h3⟩:=Q7 hz;rw[hy]at h1;cases h1;obtain⟨hs1,hs2,hs3⟩:=hrd.cells h2;have hyc:=YN (h3 rfl);rw[hyc]at hs1 hs3;refine⟨w.heap.size,v.cells,T,by simp[GH.give],rfl,Z5c w _,Z0,λj ck hj=> ?_⟩;cases j with
    |zero=>
     simp at hj;subst hj;exact⟨y,hz,h3 rfl,(hs3 0 y rfl).F.keep hF λb hb=>hb⟩
    |succ j=>simp at hj
  grind
 grind
def Js(off:Nat):∀(l:List (Value×Nat)) (cs:Array Value) (m:Nat),(∀(i:Nat) (q:Value×Nat),l[i]?=some q->q.2=m+i)->off+m+l.length<=cs.size->
  (l.foldl (λcs (c,j)=>cs.setIfInBounds (off+j) c) cs).size=cs.size/\
  (∀x,x<off+m\/off+m+l.length<=x->(l.foldl (λcs (c,j)=>cs.setIfInBounds (off+j) c) cs)[x]?=cs[x]?)/\
  ∀(i:Nat) (q:Value×Nat),l[i]?=some q->(l.foldl (λcs (c,j)=>cs.setIfInBounds (off+j) c) cs)[off+m+i]?=some q.1
 | [],cs,m,_,_=>⟨rfl,λ_ _=>rfl,λi q hi=>Z43⟩
 | (v,j)::l,cs,m,hidx,hle=>by
   have hj:j=m:=hidx 0 (v,j) rfl;subst hj
   have hl':∀(i:Nat) (q:Value×Nat),l[i]?=some q->q.2=(j+1)+i:=λi q hi=>by
    have:=hidx (i+1) q Z3L;omega
   simp only[Z5B]at hle;obtain⟨h1,h2,h3⟩:=Js off l (cs.setIfInBounds (off+j) v) (j+1) hl' Z3N;simp only[Z6i];refine⟨by rw[h1];simp,λx hx=> ?_,λi q hi=> ?_⟩
   ·rw[h2 x (by simp only[Z5B]at hx;omega),Z5q (by simp only[Z5B]at hx;omega)]
   ·cases i with
    |zero=>
     simp at hi;subst hi;rw[Z6G,h2 (off+j) Z0];have:off+j<cs.size:=Z0;simp[this]
    |succ i=>
     have:=h3 i q Z3L;rw[show off+j+(i+1)=off+(j+1)+i from by omega];exact this
def qC(off:Nat)(v:Value)(cs:Array Value)(hle:off+v.cells.size<=cs.size):
  (v.cells.zipIdx.foldl (λcs (c,j)=>cs.setIfInBounds (off+j) c) cs).size=cs.size/\
  (∀x,x<off\/off+v.cells.size<=x->(v.cells.zipIdx.foldl (λcs (c,j)=>cs.setIfInBounds (off+j) c) cs)[x]?=cs[x]?)/\
  ∀i,i<v.cells.size->(v.cells.zipIdx.foldl (λcs (c,j)=>cs.setIfInBounds (off+j) c) cs)[off+i]?=v.cells[i]? :=by
 have hz:∀(i:Nat) (q:Value×Nat),v.cells.zipIdx.toList[i]?=some q->v.cells[i]?=some q.1/\q.2=0+i:=by
  intro i q hi;rw[Z5O,Z8i,Z4w]at hi;obtain⟨u,hu,rfl⟩:=hi;exact⟨hu,Z0⟩
 have hlen:v.cells.zipIdx.toList.length=v.cells.size:=Z1;rw[<-Z6P];obtain⟨h1,h2,h3⟩:=Js off v.cells.zipIdx.toList cs 0 (λi q hi=>(hz i q hi).2) (by rw[hlen];omega);refine⟨h1,λx hx=>h2 x (by rw[hlen];omega),λi hi=> ?_⟩
 have hq:v.cells.zipIdx.toList[i]?=some (v.cells[i],0+i):=by
  rw[Z5O,Z8i];simp[hi]
 have:=h3 i _ hq;rw[Z6G]at this;rw[this];simp[hi]
def Qv(place:Nat->Option (Nat×Nat)):∀(parts:List (Nat×Value)) (cs:Array Value),(∀p∈parts,∃off,place p.1=some (off,p.2.cells.size)/\off+p.2.cells.size<=cs.size)->
  ∃R,Instr.fill place cs parts=some R/\R.size=cs.size/\
   (∀x,(∀p∈parts,∀off n,place p.1=some (off,n)->x<off\/off+n<=x)->R[x]?=cs[x]?)/\
   ∀pre p suf,parts=pre++p::suf->∀off,place p.1=some (off,p.2.cells.size)->(∀q∈suf,∀o n,place q.1=some (o,n)->off+p.2.cells.size<=o\/o+n<=off)->∀j,j<p.2.cells.size->R[off+j]?=p.2.cells[j]?
 | [],cs,_=>⟨cs,rfl,rfl,λ_ _=>rfl,λpre p suf hp=>by simp at hp⟩
 | (i,v)::parts,cs,hall=>by
   obtain⟨off,hpl,hle⟩:=hall (i,v) Z1;simp only at hpl hle;obtain⟨h1,h2,h3⟩:=qC off v cs hle;obtain⟨R,hR,hsz,hout,hin⟩:=Qv place parts (v.cells.zipIdx.foldl (λcs (c,j)=>cs.setIfInBounds (off+j) c) cs) (λp hp=>Z3M);refine⟨R,?_,Z0,λx hx=> ?_,λpre p suf hp off' hpl' hsuf j hj=> ?_⟩
   ·have:¬(off+v.cells.size>cs.size):=Z0;simp only[Instr.fill,hpl]
    grind
   ·rw[hout x λp hp=>hx p (by simp[hp])];exact h2 x (hx (i,v) Z1 off _ hpl)
   ·cases pre with
    |nil=>
     grind
    |cons y pre=>
     grind
end
end Vm
namespace Vm
open Go
open Go.RowKit (Below)
def ZS:List (CK×E)->List Nat->Nat->Option Nat
 | [],_,_=>none
 |(.own _,_)::_,t::_,0=>some t
 |(.own _,_)::r,_::ts,i+1=>ZS r ts i
 |(.own _,_)::_,[],_=>none
 |_::_,_,0=>none
 |_::r,ts,i+1=>ZS r ts i
def owns:List (CK×E)->Nat
 | []=>0
 |(.own _,_)::r=>owns r+1
 |_::r=>owns r
theorem Te:∀ {l:List (CK×E)} {ts us:List Nat} {r:List (CK×E)} {i:Nat},owns l=ts.length->i<l.length->ZS (l++r) (ts++us) i=ZS l ts i
 | [],_,_,_,_,_,hi=>Z43
 | (k,e)::l,ts,us,r,i,ho,hi=>by
   cases k with
   |own ty=>
    cases ts with
    |nil=>simp[owns]at ho
    |cons t ts=>
     simp only[owns,Z5B,Z83]at ho;cases i with
     |zero=>rfl
     |succ i=>simpa[ZS]using Te ho Z3L
   |_=>
    simp only[owns]at ho;cases i with
    |zero=>rfl
    |succ i=>simpa[ZS]using Te ho Z3L
theorem U2:∀ {l:List (CK×E)} {ts us:List Nat} {r:List (CK×E)} {i:Nat},owns l=ts.length->ZS (l++r) (ts++us) (l.length+i)=ZS r us i
 | [],ts,us,r,i,ho=>by
   grind [List.eq_nil_of_length_eq_zero,owns]
 | (k,e)::l,ts,us,r,i,ho=>by
   have e1:(l.length+1+i)=(l.length+i)+1:=Z0;cases k with
   |own ty=>
    cases ts with
    |nil=>simp[owns]at ho
    |cons t ts=>
     simp_all[owns,Z5B,Z83,Z5M,ZS,U2]
   |_=>
    simp only[owns]at ho;simp only[Z5B,Z5M,e1,ZS];exact U2 ho
theorem J8:∀(l r:List (CK×E)),owns (l++r)=owns l+owns r
 | [],r=>by simp[owns]
 | (k,e)::l,r=>by
   cases k<;>simp only[Z5M,owns,J8 l r]<;>omega
section
variable {c:Ctx}{B:Nat}{G:Nat->Prop}{s:St}{a:Act}{w w':World}{h:GH}{g:Gam}{C:Zg}
def BRel(c:Ctx)(B:Nat)(s:St)(a:Act)(w:World)(h:GH)(cs:List (CK×E))(ts sh:List Nat)(i:Nat)(ck:CK×E)(v:Value):Prop:=
 match ck.1 with
 |.own ty=>∃t,ZS cs ts i=some t/\t∈ts/\a.tmps[t]?=some v/\∃x,eval s ck.2=some x/\OwnV c.P B w h (h.bl t 1) ty x v
 |.nil=>v=.slice none 0 0/\eval s ck.2=some (.sl [])
 |.fz=>∃x,eval s ck.2=some x/\x.one=true/\Rd w (h.ext sh) x v
 |.dead=>False
def qW{zs:List V}{z:Array Value}(hz:∀(j:Nat) (v:Value),z[j]?=some v->∃x,zs[j]?=some x/\Uy v=some x)(hsz:z.size=zs.length)(o n:Nat):
  owns (S8 zs o n).1=0/\∀(cs:List (CK×E)) (ts sh:List Nat) (i:Nat) (j:Nat) (ck:CK×E),(S8 zs o n).1[j]?=some ck->BRel c B s a w h cs ts sh i ck (z.getD (o+j) undef):=by
 constructor
 ·unfold S8;simp only
  induction (List.take n (List.drop o zs))with
  |nil=>rfl
  |cons x r ih=>cases x<;>simp_all[owns]
 ·intro cs ts sh i j ck hj;simp only[S8,Z4M,Z4w]at hj;obtain⟨x,hx,rfl⟩:=hj;rw[Z55]at hx;split at hx
  ·rw[Z5d]at hx;have hlt:o+j<z.size:=by rw[hsz];exact(Z4v.1 hx).1
   obtain⟨x',hx',hc⟩:=hz (o+j) z[o+j] (Z4X hlt);rw[hx]at hx';cases hx';have hget:z.getD (o+j) undef=z[o+j]:=by simp[hlt]
   rw[hget];generalize z[o+j]=v at hc;unfold Uy at hc
   split at hc<;>first
    |(simp only[Z4s]at hc;subst hc;first|exact⟨_,rfl,rfl,.int _ _⟩|exact⟨_,rfl,rfl,.bool _⟩|exact⟨_,rfl,rfl,.str _⟩|exact⟨rfl,rfl⟩|exact⟨_,rfl,rfl,.nomp⟩|exact⟨_,rfl,rfl,.nul0⟩|exact⟨_,rfl,rfl,.nul1⟩)
    | (split at hc<;>first
      | (rename_i hs
         simp only[Z4s]at hc;subst hc;rw[Z5v hs.1,Z5v hs.2];exact⟨_,rfl,rfl,.fn _⟩)
      |simp at hc)
    |simp at hc
  grind
def d9{e:E}{n j:Nat}{z:V}(hz:eval s (.fld e j)=some z):∃y,eval s e=some y/\y.pc[j]?=some z/\z.one=true:=by
 grind [eval,Option.bind_eq_some_iff,QB,fldV,X2]
def Z0e{x:V}(h:∀l,x≠.tup l):x.pc=x.cells:=by
 rfl
def Sy(hr:RelG c B G s a w h g)(hC:holds s (ixC c C)){x:Operand}{b0:E×List Nat}(hx:opE g C x=some b0){ag fl:Bool}{n:Nat}(hn:n≠0){z:V}
  (hz:eval s (tyE ag n (flE fl b0).1)=some z):
  (∀l,z≠.tup l)/\(ag=true->z.cells.length=n)/\(ag=false->z.one=true)/\Rd w (h.ext (flE fl b0).2) z (a.eval x):=by
 obtain⟨y,hy,hyr⟩:=Xf hr hC (show opE g C x=some (b0.1,b0.2)from hx);obtain⟨h1,h2,h3,h4⟩:=Q7 hz;obtain⟨z',hz',hzr⟩:=QA (fl:=fl) (b:=b0) hy hyr ⟨z,h1⟩;simp_all
def LW(hr:RelG c B G s a w h g)(hC:holds s (ixC c C)){n:Nat}(hn:n≠0){ag fl:Bool}{x:Operand}{b:BC}(hp:Ja g C n ag fl x=some b)(hlen:b.1.length=n)
  (hev:∀ck∈b.1,∃z,eval s ck.2=some z):
  owns b.1=b.2.2.length/\(a.eval x).cells.size=n/\∀(sh:List Nat),(∀t∈b.2.1,t∈sh)->∀(j:Nat) (ck:CK×E),b.1[j]?=some ck->BRel c B s a w h b.1 b.2.2 sh j ck ((a.eval x).cells.getD j undef):=by
 have rest:∀ {b:BC},((opE g C x).map λa0=>let a:=flE fl a0;let e:=tyE ag n a.1;(if ag then(List.range n).map λj=>(CK.fz,E.fld e j)else [(.fz,e)],a.2,[]))=some b->b.1.length=n->(∀ck∈b.1,∃z,eval s ck.2=some z)->
   owns b.1=b.2.2.length/\(a.eval x).cells.size=n/\∀(sh:List Nat),(∀t∈b.2.1,t∈sh)->∀(j:Nat) (ck:CK×E),b.1[j]?=some ck->BRel c B s a w h b.1 b.2.2 sh j ck ((a.eval x).cells.getD j undef):=by
  intro b hb hlen hev;simp only[Z4w]at hb;obtain⟨b0,hx,rfl⟩:=hb
  have hmono:∀(sh:List Nat),(∀t∈(flE fl b0).2,t∈sh)->∀b,h.ext (flE fl b0).2 b->h.ext sh b:=by
   intro sh hsh b hb;obtain hb|⟨p,hp,i,hi⟩:=hb
   ·exact .inl hb
   ·exact .inr ⟨p,hsh p hp,i,hi⟩
  cases ag with
  |true=>
   simp only[Z5b]at hlen hev⊢;have h0:=hev (CK.fz,E.fld (tyE true n (flE fl b0).1) 0) (Z4I.2 ⟨0,Z6x.2 Z0,rfl⟩);obtain⟨z0,hz0⟩:=h0;obtain⟨y,hy,_,_⟩:=d9 (n:=n) hz0;obtain⟨h1,h2,_,h4⟩:=Sy hr hC hx hn hy;obtain⟨hs1,hs2,hs3⟩:=h4.cells h1;refine⟨?_,Z3M,λsh hsh j ck hj=> ?_⟩
   ·generalize List.range n=l
    induction l with
    |nil=>rfl
    |cons q r ih=>simp_all[owns]
   ·simp only[Z4M,Z4w]at hj;obtain⟨j',hj',rfl⟩:=hj;have hlt:j<n:=by simpa using(Z4v.1 hj').1
    have hjj:j'=j:=by simpa[hlt]using hj'.symm
    subst hjj;have hget:y.cells[j']?=some (y.cells[j']'Z3M):=Z4u _;refine⟨_,?_,hs2 _ (Z4B hget),(hs3 j' _ hget).mono (hmono sh hsh)⟩;simp_all[eval,Z4E,fldV,Z0e,oneV,if_pos,Z4B]
  |false=>
   simp only[Z4G,Z5h]at hlen hev⊢;obtain⟨y,hy⟩:=hev (CK.fz,tyE false n (flE fl b0).1) (Z5x.2 rfl);have hy:eval s (tyE false n (flE fl b0).1)=some y:=hy;obtain⟨h1,_,h3,h4⟩:=Sy hr hC hx hn hy;obtain⟨hs1,hs2,hs3⟩:=h4.cells h1;rw[YN (h3 rfl)]at hs1 hs3;refine⟨rfl,Z3M,λsh hsh j ck hj=> ?_⟩;cases j with
   |zero=>
    simp at hj;subst hj;exact⟨y,hy,h3 rfl,(hs3 0 y rfl).mono (hmono sh hsh)⟩
   |succ j=>simp at hj
 unfold Ja at hp;split at hp
 ·rename_i t ty e hk;simp only[Z4s]at hp;subst hp;obtain⟨v,hv,⟨x,hx,ho⟩,_⟩:=hr.look hC (show look g C t=_ from hk) rfl
  have hone:v.cells=#[v]:=by
   obtain⟨l,xs,_,_,_,⟨_,hc⟩,_⟩|⟨_,_,_,_,_,_,_,rfl,_⟩:=ho
   ·obtain⟨rfl,_⟩|⟨_,_,_,rfl,_⟩:=hc<;>rfl
   ·rfl
  rw[Act.eval_tmp a t v hv,hone];refine⟨rfl,Z0,λsh hsh j ck hj=> ?_⟩;cases j with
  |zero=>
   simp at hj;subst hj;exact⟨t,rfl,Z1,by simpa using hv,x,hx,by simpa using ho⟩
  |succ j=>simp at hj
 ·rename_i hk;simp only[Z4s]at hp;subst hp;rw[SF hr hC hk];refine⟨rfl,by grind [Value.cells],λsh hsh j ck hj=> ?_⟩;cases j with
  |zero=>simp at hj;subst hj;exact⟨rfl,rfl⟩
  |succ j=>simp at hj
 grind
def BRel.left{cs r:List (CK×E)}{ts us sh:List Nat}{i:Nat}{ck:CK×E}{v:Value}(hb:BRel c B s a w h cs ts sh i ck v)(ho:owns cs=ts.length)(hi:i<cs.length):BRel c B s a w h (cs++r) (ts++us) sh i ck v:=by
 grind [BRel,Te]
theorem BRel.right{cs r:List (CK×E)}{ts us sh:List Nat}{i:Nat}{ck:CK×E}{v:Value}(hb:BRel c B s a w h r us sh i ck v)(ho:owns cs=ts.length):BRel c B s a w h (cs++r) (ts++us) sh (cs.length+i) ck v:=by
 grind [BRel,U2]
def Tj(hr:RelG c B G s a w h g)(hC:holds s (ixC c C)){zs:List V}{parts:List (Nat×Operand)}{z:Array Value}(hz:∀(j:Nat) (v:Value),z[j]?=some v->∃x,zs[j]?=some x/\Uy v=some x)(hsz:z.size=zs.length)(sh:List Nat):
  ∀(fs:List (Nat×Nat×Bool×Bool)) (i o:Nat) (b:BC),Vx g C zs parts fs i o=some b->(∀ck∈b.1,∃z,eval s ck.2=some z)->(∀t∈b.2.1,t∈sh)->
   o+b.1.length=zs.length/\owns b.1=b.2.2.length/\
   (∀(q:Nat) (f:Nat×Nat×Bool×Bool),fs[q]?=some f->o<=f.1/\f.1+f.2.1<=zs.length/\(∀(q':Nat) (f':Nat×Nat×Bool×Bool),fs[q']?=some f'->q<q'->f.1+f.2.1<=f'.1))/\
   (∀(q:Nat) (f:Nat×Nat×Bool×Bool) (p:Nat×Operand),fs[q]?=some f->parts.find? (λp=>p.1==i+q)=some p->(a.eval p.2).cells.size=f.2.1)/\
   ∀R:Array Value,(∀(q:Nat) (f:Nat×Nat×Bool×Bool),fs[q]?=some f->∀j,j<f.2.1->R.getD (f.1+j) undef=match parts.find? (λp=>p.1==i+q)with|some p=>(a.eval p.2).cells.getD j undef|none=>z.getD (f.1+j) undef)->
    ∀(j:Nat) (ck:CK×E),b.1[j]?=some ck->BRel c B s a w h b.1 b.2.2 sh j ck (R.getD (o+j) undef)
 | [],i,o,b,hb,_,_=>by
   simp only[Vx]at hb;split at hb
   ·simp only[Z4s]at hb;subst hb;exact⟨by simpa,rfl,λq f hq=>by simp at hq,λq f p hq=>by simp at hq,λR _ j ck hj=>by simp at hj⟩
   grind
 |f::fs,i,o,b,hb,hev,hsh=>by
  simp only[Vx,Z4t]at hb;obtain⟨b1,hb1,hb⟩:=hb;split at hb
  ·rename_i hcond;obtain⟨ho,hl1,hn⟩:=hcond;simp only[Z4w]at hb;obtain⟨b2,hb2,rfl⟩:=hb;simp only[Z4R]at hev hsh;obtain⟨h1,h2,h3,h4,h5⟩:=Tj hr hC hz hsz sh fs (i+1) (o+f.2.1) b2 hb2 (λck hck=>hev ck (.inr hck)) (λt ht=>hsh t (.inr ht))
   have hfst:owns b1.1=b1.2.2.length/\(∀p,parts.find? (λp=>p.1==i)=some p->(a.eval p.2).cells.size=f.2.1)/\
     ∀(j:Nat) (ck:CK×E),b1.1[j]?=some ck->BRel c B s a w h b1.1 b1.2.2 sh j ck (match parts.find? (λp=>p.1==i)with|some p=>(a.eval p.2).cells.getD j undef|none=>z.getD (f.1+j) undef):=by
    unfold Mm at hb1;cases hfind:parts.find? (λp=>p.1==i)with
    |some p=>
     simp only[hfind]at hb1;obtain⟨k1,k2,k3⟩:=LW hr hC hn hb1 hl1 λck hck=>hev ck (.inl hck)
     grind
    |none=>
     simp only[hfind,Z4s]at hb1;subst hb1;obtain⟨k1,k2⟩:=qW (c:=c) (B:=B) (s:=s) (a:=a) (w:=w) (h:=h) hz hsz f.1 f.2.1;exact⟨k1,(λp' hp'=>by cases hp'),λj ck hj=>k2 _ _ sh j j ck hj⟩
   obtain⟨f1,f2,f3⟩:=hfst;refine⟨Z3L,by grind [J8,List.length_append],λq f' hq=> ?_,λq f' p hq hp=> ?_,λR hR j ck hj=> ?_⟩
   ·cases q with
    |zero=>
     simp at hq;subst hq;refine⟨Z0,Z0,λq' f' hq' hlt=> ?_⟩
     grind
    |succ q=>
     obtain⟨g1,g2,g3⟩:=h3 q f' Z3L;refine⟨Z0,g2,λq' f'' hq' hlt=> ?_⟩;cases q' with
     |zero=>omega
     |succ q'=>grind
   ·cases q with
    |zero=>simp at hq;subst hq;exact f2 p (by simpa using hp)
    |succ q=>exact h4 q f' p Z3L (by rw[show i+1+q=i+(q+1)from by omega];exact hp)
   ·by_cases hlt:j<b1.1.length
    ·rw[Z57 hlt]at hj;have hR0:=hR 0 f rfl j Z0;rw[ho]at hR0;rw[hR0];have:=f3 j ck hj;rw[ho]at this;exact(this).left f1 hlt
    ·rw[Z4S Z0]at hj
     have:=h5 R (λq f' hq j' hj'=>by
      have:=hR (q+1) f' Z3L j' hj'
      grind) (j-b1.1.length) ck hj
     have hres:=this.right (cs:=b1.1) (ts:=b1.2.2) f1;rw[show b1.1.length+(j-b1.1.length)=j from by omega]at hres;rw[show o+f.2.1+(j-b1.1.length)=o+j from by omega]at hres;exact hres
  grind
def UV:∀ {l:List Nat},TG l=true->l.Nodup
 | [],_=>List.nodup_nil
 |x::l,hl=>by
  simp only[TG,Z4x,Z5m,Z5W,Z7k]at hl;exact Z6k.2 ⟨hl.1,UV hl.2⟩
def To{β:Type}:∀ {l:List (Nat×β)} {p:Nat×β},(l.map (·.1)).Nodup->p∈l->l.find? (λq=>q.1==p.1)=some p
 | [],p,_,hp=>by simp at hp
 |q::l,p,hn,hp=>by
  simp only[Z4T,Z6k]at hn;obtain rfl|hp:=Z4H.1 hp
  ·simp
  ·have hne:q.1≠p.1:=λhe=>hn.1 (by rw[he];exact Z4I.2 ⟨p,hp,rfl⟩);rw[List.find?_cons_of_neg (by simpa using hne)];exact To hn.2 hp
def F8{α β:Type}{f:α->Option β}{g:α->β}:∀(l:List α),(∀x∈l,f x=some (g x))->l.mapM f=some (l.map g)
 | [],_=>rfl
 |x::l,hx=>by
  simp_all[Z6N,F8]
def Ts{β:Type}{n q:Nat}{f:Nat->β}{x:β}(h:((List.range n).map f)[q]?=some x):q<n/\x=f q:=by
 grind
def KX(hr:RelG c B G s a w h g)(hC:holds s (ixC c C)){T:TypeId}{fs:List (Nat×Nat×Bool×Bool)}(hT:Br c.P T=some fs){zs:List V}(hz:zeroCells c.P T=some zs){parts:Array (Nat×Operand)}{b:BC}
  (hb:U7 g C zs parts.toList fs=some b) (hev:∀ck∈b.1,∃z,eval s ck.2=some z):
  ∃vs,(Instr.build T (parts.map λ(i,x)=>(i,a.eval x))).run c.P w=.ok (.agg vs) w/\vs.size=b.1.length/\owns b.1=b.2.2.length/\
   ∀(j:Nat) (ck:CK×E),b.1[j]?=some ck->BRel c B s a w h b.1 b.2.2 b.2.1 j ck (vs.getD j undef):=by
 unfold U7 at hb;split at hb
 ·rename_i hcond;simp only[Z4x,Z4D,Z4N]at hcond;obtain⟨hnd,hlt⟩:=hcond;have hnd:=UV hnd;obtain⟨i,z,hi,hz0,hsz,hcells⟩:=Wt hz
  obtain⟨place,hplace,hbuilt0⟩:∃place:Nat->Option (Nat×Nat),(∀(q:Nat) (f:Nat×Nat×Bool×Bool),fs[q]?=some f->place q=some (f.1,f.2.1))/\
    ∀(ps:List (Nat×Value)) (R:Array Value),Instr.fill place z.cells ps=some R->c.P.built T ps=some R:=by
   unfold Br at hT;split at hT
   ·rename_i fs' htd;cases hT;obtain⟨fds,hu,hok,rfl⟩:=Z0J htd
    have hpl:fds.toList.mapM (λf=>(c.P.info? f.type).map λi=>(f.offset,i.size))=some (fds.toList.map λf=>(f.offset,c.P.cellsOf f.type)):=by
     apply F8;intro f hf;obtain⟨d,i,hd,hi,hs,_⟩:=WI (hok f (Array.mem_toList_iff.1 hf));simp[hi,hs]
    refine⟨λx=>(fds.toList.map λf=>(f.offset,c.P.cellsOf f.type)).toArray[x]?,λq f hq=> ?_,λps R hR=> ?_⟩
    ·simp only[Z4M,Z4w]at hq;obtain⟨f',hf',rfl⟩:=hq;simp[hf']
    ·simp only[Program.built,hi,hu,hz0,hpl];exact hR
   ·rename_i n el htd;split at hT
    ·rename_i hok;cases hT;have hu:=Oh htd;obtain⟨d,i',hd,hi',hs,_⟩:=WI hok;refine⟨λx=>some (x*c.P.cellsOf el,c.P.cellsOf el),λq f hq=> ?_,λps R hR=> ?_⟩
     ·obtain⟨_,rfl⟩:=Ts hq;rfl
     ·simp only[Program.built,hi,hu,hz0,hi',<-hs];exact hR
    ·cases hT
   ·cases hT
  obtain⟨h1,h2,h3,h4,h5⟩:=Tj hr hC hcells hsz b.2.1 _ 0 0 b hb hev (λt ht=>ht);simp only[Z5g]at h1 h4 h5
  have hmem:∀p∈parts.toList,∃f,fs[p.1]?=some f/\(a.eval p.2).cells.size=f.2.1:=by
   intro p hp;have hl:=hlt p hp;refine⟨_,Z4u hl,h4 p.1 _ p (Z4u hl) (To hnd hp)⟩
  obtain⟨R,hR,hRs,hRout,hRin⟩:=Qv place (parts.toList.map λp=>(p.1,a.eval p.2)) z.cells (by
   intro p hp;obtain⟨p',hp',rfl⟩:=Z4I.1 hp;obtain⟨f,hf,hsf⟩:=hmem p' hp';refine⟨f.1,by rw[hplace _ f hf,hsf],?_⟩;simp only;rw[hsf,hsz];exact(h3 _ f hf).2.1)
  have hbuilt:c.P.built T (parts.map λ(i,x)=>(i,a.eval x)).toList=some R:=hbuilt0 _ _ (by simpa only[Z5C]using hR);refine⟨R,run_build w T _ R hbuilt,by rw[hRs,hsz];omega,h2,λj ck hj=>h5 R (λq f hq j' hj'=> ?_) j ck hj⟩
  have hdisj:∀(q':Nat) (f':Nat×Nat×Bool×Bool),fs[q']?=some f'->q'≠q->f.1+f.2.1<=f'.1\/f'.1+f'.2.1<=f.1:=by
   intro q' f' hq' hne;obtain hl|hl:=Z7S hne
   ·exact .inr ((h3 q' f' hq').2.2 q f hq hl)
   ·exact .inl ((h3 q f hq).2.2 q' f' hq' hl)
  cases hfind:parts.toList.find? (λp=>p.1==q)with
  |some p=>
   have hpm:=Z75 hfind;have hpq:p.1=q:=by simpa using Z7J hfind
   obtain⟨pre,suf,hps⟩:=List.append_of_mem hpm;obtain⟨f',hf',hsf⟩:=hmem p hpm;rw[hpq,hq]at hf';cases hf'
   have hin:=hRin (pre.map λp=>(p.1,a.eval p.2)) (p.1,a.eval p.2) (suf.map λp=>(p.1,a.eval p.2)) (by rw[hps];simp) f.1 (by rw[hpq,hplace q f hq,hsf]) (by
    intro q' hq' o n ho;obtain⟨p',hp',rfl⟩:=Z4I.1 hq';obtain⟨f'',hf'',_⟩:=hmem p' (by rw[hps];simp[hp']);simp only at ho;rw[hplace _ f'' hf'']at ho;simp only[Z4s,Z4C]at ho;obtain⟨rfl,rfl⟩:=ho;simp only;rw[hsf];refine hdisj p'.1 f'' hf'' λhe=> ?_;rw[hps]at hnd;simp only[Z5F,Z4T,Z7n,Z6k]at hnd;exact hnd.2.1.1 (by rw[hpq,<-he];exact Z4I.2 ⟨p',hp',rfl⟩)) j' (by simp only;rw[hsf];exact hj')
   simp only[Z4y];rw[hin]
  |none=>
   have hout:=hRout (f.1+j') (by
    intro p hp off n ho;obtain⟨p',hp',rfl⟩:=Z4I.1 hp;obtain⟨f'',hf'',_⟩:=hmem p' hp';simp only at ho;rw[hplace _ f'' hf'']at ho;simp only[Z4s,Z4C]at ho;obtain⟨rfl,rfl⟩:=ho
    have hne:p'.1≠q:=λhe=>by
     have:=List.find?_eq_none.1 hfind p' hp';simp[he]at this
    have:=hdisj p'.1 f'' hf'' hne;omega)
   simp only[Z4y];rw[hout]
 ·simp at hb
end
end Vm
end
