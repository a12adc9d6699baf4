import Derived.Conc.Beside
import Derived.Conc.CompanyDraw
import Derived.WalkKit
import Derived.Test.YtffknkhabklijaaGreatSForwardKeeps1
set_option linter.unusedSimpArgs false
set_option linter.unusedVariables false
set_option linter.defProp false
theorem ZcL{p:Prop}(h:p:=by simpa using f):p:=h
theorem Zd1{p:Prop}(h:p:=by simp at h):p:=h
theorem Zde{p:Prop}(h:p:=by simp at d):p:=h
theorem Zd7{p:Prop}(h:p:=by have:=I p d;simp[Ui]at this;exact this A):p:=h
theorem Zdf{p:Prop}(h:p:=by rfl):p:=h
theorem Zd5{p:Prop}(h:p:=by simp[Builtin.len_,run_underlying f,goInt]):p:=h
theorem ZcZ{p:Prop}(h:p:=by rw[j.1];exact(List.getElem?_eq_some_iff.1 t).1):p:=h
theorem Zd2{p:Prop}(h:p:=by rw[cell_of_row w b o vs J (0,0) I];simp_all):p:=h
theorem ZcJ{p:Prop}(h:p:=by simp[E.sure]at h):p:=h
theorem Zdh{p:Prop}(h:p:=by simpa using j):p:=h
def Zhr:=@Nat.lt_or_ge
def ZdB:=@List.mem_map
def Zeh:=@Bool.not_eq_true'
def Ze7:=@Nat.zero_add
def Ze8:=@List.length_append
def ZeJ:=@Nat.succ_mul
def ZdT:=@List.getElem?_append_left
def ZdI:=@List.getElem?_append_right
def Ze4:=@List.mem_of_mem_take
def ZeD:=@List.length_take
def Zhs:=@Nat.min_eq_left
def Zek:=@List.take_of_length_le
def Ze0:=@Nat.mul_le_mul_right
def Zf0:=@List.drop_of_length_le
def Zdr:=@List.mem_of_getElem?
def Zel:=@Go.World.cell?_of_block
def Zdu:=@List.all_eq_true
def Zeo:=@Array.eq_empty_of_size_eq_zero
def Zeb:=@List.eq_nil_of_length_eq_zero
def ZdE:=@Go.cell_of_row
def ZdY:=@List.getElem?_take
def Zdi:=@Option.bind_eq_some_iff
def Zdl:=@List.getElem?_eq_some_iff
def Zge:=@List.any_eq_false
def Zgp:=@Bool.not_eq_true
def ZdZ:=@Go.RowKit.Below.refl
def Zet:=@Option.isSome_iff_exists
def Ze6:=@Go.run_underlying
def Zf4:=@Go.Addr.add_lit
def Zdk:=@List.getElem?_eq_getElem
def Zgf:=@List.ext_getElem?
def ZdM:=@List.getElem?_of_mem
def ZdW:=@List.getElem?_drop
def ZeE:=@Array.getElem?_toList
def Ze9:=@List.length_map
def Zfo:=@List.getElem?_toArray
def ZeF:=@Nat.add_assoc
def Zh2:=@List.length_range
def ZeA:=@List.mem_of_mem_drop
def Zdz:=@Int.eq_ofNat_of_zero_le
def ZdF:=@Int.toNat_natCast
def ZdA:=@List.getElem_mem
def Zhc:=@Array.getElem?_extract
def Zgd:=@List.drop_eq_nil_of_le
def Zf9:=@Nat.sub_self
def Zem:=@List.take_length
def ZeK:=@Go.World.grownBy_alloc
def ZdO:=@Go.heap_alloc_new
def Zhg:=@Array.getElem?_zipIdx
def ZeM:=@List.length_cons
def Zh3:=@Nat.add_right_cancel_iff
def ZdJ:=@List.getElem?_map
def Zft:=@List.mem_range
def ZeP:=@List.contains_eq_mem
def Zga:=@decide_eq_false_iff_not
def Zfd:=@List.nodup_cons
def ZdH:=@decide_eq_true_eq
def Zg9:=@Nat.lt_or_gt_of_ne
def ZfU:=@List.mem_of_find?_eq_some
def ZgG:=@List.find?_some
def ZeL:=@List.map_append
def Zgg:=@List.nodup_append
section
namespace Vm
open Go Go.Conc
instance calm_build (t a):Calm (Instr.build t a):=by
 unfold Instr.build;exact ZK
instance calm_buildSlice (t n a):Calm (Instr.buildSlice t n a):=by
 unfold Instr.buildSlice;exact ZK
instance calm_slice (t x l h m):Calm (Instr.slice t x l h m):=by
 unfold Instr.slice;exact ZK
instance calm_sliceAt (t x l h m):Calm (Instr.sliceAt t x l h m):=by
 unfold Instr.sliceAt;exact ZK
instance calm_makeSlice (t x y):Calm (Instr.makeSlice t x y):=by
 unfold Instr.makeSlice;exact ZK
instance calm_len (ts t aq_):Calm (Builtin.len_ ts t aq_):=by
 unfold Builtin.len_;exact ZK
instance calm_holds (a n):Calm (Builtin.holdsCells a n):=by
 unfold Builtin.holdsCells;exact ZK
instance calm_mayShare (a b n o x):Calm (Builtin.mayShare a b n o x):=by
 unfold Builtin.mayShare;exact ZK
instance calm_lenOf (x):Calm (Builtin.lenOf x):=by
 unfold Builtin.lenOf;exact ZK
instance calm_first (a n x):Calm (Builtin.firstCells a n x):=by
 unfold Builtin.firstCells;exact ZK
instance calm_append (ts t aq_):Calm (Builtin.append_ ts t aq_):=by
 unfold Builtin.append_;exact ZK
instance calm_intArith (op k x y):Calm (Op.intArith op k x y):=by
 unfold Op.intArith;exact ZK
instance calm_intDiv (op k x y):Calm (Op.intDiv op k x y):=by
 unfold Op.intDiv;exact ZK
instance calm_intBits (op k x y):Calm (Op.intBits op k x y):=by
 unfold Op.intBits;exact ZK
instance calm_intCmp (op x y):Calm (Op.intCmp op x y):=by
 unfold Op.intCmp;exact ZK
instance calm_shift (op k k' x y):Calm (Op.shift op k x k' y):=by
 unfold Op.shift;exact ZK
instance calm_fArith (op k x y):Calm (Op.floatArith op k x y):=by
 unfold Op.floatArith;exact ZK
instance calm_fCmp (op k x y):Calm (Op.floatCmp op k x y):=by
 unfold Op.floatCmp;exact ZK
instance calm_strOp (op x y):Calm (Op.stringOp op x y):=by
 unfold Op.stringOp;exact ZK
instance calm_unary (op x):Calm (Op.unary op x):=by
 unfold Op.unary;exact ZK
instance calm_cArith (op k x y):Calm (Op.Complex.arith op k x y):=by
 unfold Op.Complex.arith;exact ZK
instance calm_cCmp (op k x y):Calm (Op.Complex.cmp op k x y):=by
 unfold Op.Complex.cmp;exact ZK
instance calm_f2f (s x d):Calm (Conv.floatToFloat s x d):=by
 unfold Conv.floatToFloat;exact ZK
instance calm_cConv (s x d):Calm (Op.Complex.conv s x d):=by
 unfold Op.Complex.conv;exact ZK
instance calm_cadd (x y:Nat):Calm (Op.Complex.add x y):=calm_cArith ..
instance calm_csub (x y:Nat):Calm (Op.Complex.sub x y):=calm_cArith ..
instance calm_cmul (x y:Nat):Calm (Op.Complex.mul x y):=calm_cArith ..
instance calm_cquo (x y:Nat):Calm (Op.Complex.quo x y):=calm_cArith ..
instance calm_product (a b c d):Calm (Op.Complex.product a b c d):=by
 unfold Op.Complex.product;exact ZK
instance calm_corrected (s a b c d):Calm (Op.Complex.corrected s a b c d):=by
 unfold Op.Complex.corrected;exact ZK
instance calm_quotient (a b c d):Calm (Op.Complex.quotient a b c d):=by
 unfold Op.Complex.quotient;exact ZK
instance calm_complexOp (op k a b c d):Calm (Op.complexOp op k a b c d):=by
 unfold Op.complexOp;exact ZK
instance calm_unsafeAdd2 (ts:Zs) (t:Z8) (p:Zcm) (b:Z7):Calm (Builtin.unsafeAdd_ ts t #[.pointer p,b]):=by
 unfold Builtin.unsafeAdd_;refine .bind (calm_asInt b) λn=> ?_;dsimp only;exact ZK
instance calm_unsafeAdd (ts:Zs) (t:Z8) (aq_:Za):Calm (Builtin.unsafeAdd_ ts t aq_):=by
 obtain⟨l⟩:=aq_;obtain _|⟨a,_|⟨b,_|⟨c,r⟩⟩⟩:=l
 ·exact calm_stuck _
 ·exact calm_stuck _
 ·cases a<;>first|exact calm_stuck _|exact calm_unsafeAdd2 ..
 ·exact calm_stuck _
instance calm_movedN (t x y):Calm (movedNumber t x y):=by
 unfold movedNumber;exact ZK
instance calm_movedP (t x y):Calm (movedPointer t x y):=by
 unfold movedPointer;exact ZK
instance calm_twoPlaces (a b):Calm (Op.twoPlaces a b):=by
 unfold Op.twoPlaces;exact ZK
instance calm_addrSub (k a b):Calm (Op.addrSub k a b):=by
 unfold Op.addrSub;exact ZK
instance calm_addrCmp (op a b):Calm (Op.addrCmp op a b):=by
 unfold Op.addrCmp;exact ZK
instance calm_addrMod (k a n):Calm (Op.addrMod k a n):=by
 unfold Op.addrMod;exact ZK
instance calm_equalIn:∀(n:Nat) (t:Z8) (x y:Z7),Calm (Op.equalIn n t x y)
 |0,_,_,_=>.halt _
 |n+1,t,x,y=>by
  have a:=calm_equalIn n;unfold Op.equalIn;exact ZK
instance calm_guardIn:∀(n:Nat) (t:Z8) (x y:Z7),Calm (Op.eqGuardIn n t x y)
 |0,_,_,_=>.halt _
 |n+1,t,x,y=>by
  have a:=calm_guardIn n;unfold Op.eqGuardIn;exact ZK
instance calm_equal (t x y):Calm (Op.equal t x y):=by
 unfold Op.equal;exact ZK
instance calm_guard (op t x y a b):Calm (eqGuard op t x y a b):=by
 unfold eqGuard;exact ZK
instance calm_binOp (op t x y):Calm (binOp op t x y):=by
 unfold binOp;exact ZK
instance calm_min2 (x y):Calm (Builtin.min2 x y):=by
 unfold Builtin.min2;exact ZK
instance calm_min (ts:Zs) (t:Z8) (aq_:Za):Calm (Builtin.min_ ts t aq_):=by
 unfold Builtin.min_;split
 ·exact .halt _
 ·exact DD calm_min2 _ _
def EvB(n:Nat)(e:Event):Prop:=EvC (λ_=>False) (λb=>b<n) e
def EvB.mono{n d:Nat}{e:Event}(h:EvB n e)(a:n<=d):EvB d e:=by
 unfold EvB EvC at*;split<;>simp only[*]at h
 ·exact .inl (Zdw (h.resolve_right λx=>x.2) a)
 ·exact Zdw h a
 ·exact h
 ·trivial
def EvB.cell{n:Nat}{a:Addr}(h:a.block<n)(w s:Bool):EvB n ⟨.cell a,w,s⟩:=.inl h
def EvB.obj{n r:Nat}(h:r<n)(w s:Bool):EvB n ⟨.obj r,w,s⟩:=h
def qK{w:Z3}{a:Addr}{v:Z7}(h:w.cell? a=some v):a.block<w.heap.size:=by
 obtain⟨_,c,e,f,d,_⟩:=Jp h;exact(Zdq.1 d).1
def MK{p:Z4}{w:Z3}{at_:Addr}{u:Z8}{k:Addr}{b:Bool}{r:Array Value×TypeId×(Nat×Nat)×Nat×Value×List (Nat×Nat×List UInt8)}(h:w.seen p at_ u k b=.ok r):at_.block<w.heap.size:=by
 obtain a|a:=Zhr at_.block w.heap.size
 ·exact a
 ·exfalso;have d:w.heap[at_.block]?=none:=ZfE a;unfold World.seen at h;simp only[d,bind,Except.bind]at h
  repeat' split at h
  all_goals cases h
def Z0I{p:Z4}{w:Z3}{a:Addr}{b:Bool}{v:Z7}{l:List Addr}(h:w.farLoad p a b=.ok (v,l)):∀x∈l,x.block<w.heap.size:=by
 unfold World.farLoad at h;split at h
 ·split at h
  ·rename_i at_ u _ r e;cases h;unfold World.viewLoad at e;simp only[bind,Except.bind]at e;split at e
   ·cases e
   ·rename_i r f;have d:=MK f
    repeat' split at e
    all_goals first|(cases e;done)|skip
    all_goals
     cases e;intro x g;obtain⟨y,_,rfl⟩:=ZdB.1 g;exact d
  ·cases h
 ·cases h
def Z0J{p:Z4}{w w':Z3}{a:Addr}{v:Z7}{b:Bool}{l:List Addr}(h:w.farStore p a v b=.ok (w',l)):∀x∈l,x.block<w.heap.size:=by
 unfold World.farStore at h;split at h
 ·split at h
  ·rename_i at_ u _ r e;cases h;unfold World.viewStore at e;simp only[bind,Except.bind]at e;split at e
   ·cases e
   ·split at e
    ·cases e
    ·rename_i r f;have d:=MK f
     repeat' split at e
     all_goals first|(cases e;done)|skip
     all_goals
      cases e;intro x g;obtain⟨y,_,rfl⟩:=ZdB.1 g;exact d
  ·cases h
 ·cases h
def EvsB(n:Nat)(es:Zc):Prop:=∀e∈es,EvB n e
def EvsB.mono{n a:Nat}{es:Zc}(h:EvsB n es)(f:n<=a):EvsB a es:=λe d=>(h e d).mono f
def EvsB.push{n:Nat}{es:Zc}{e:Event}(h:EvsB n es)(d:EvB n e):EvsB n (es.push e):=λx a=>by
 obtain a|rfl:=ZgT.1 a
 ·exact h x a
 ·exact d
def EvsB.far{n:Nat}{es:Zc}(h:EvsB n es){l:List Addr}(g:∀x∈l,x.block<n)(b s:Bool):EvsB n (es++l.toArray.map (⟨.cell ·,b,s⟩)):=λx d=>by
 obtain d|d:=ZeT.1 d
 ·exact h x d
 ·obtain⟨a,f,rfl⟩:=Zg1.1 d;exact .cell (g a ZcL) _ _
theorem Calm.evs{α:Type}{p:Z4}{s:Sem α}(h:Calm s):∀(w:Z3) (f:Zc),EvsB w.heap.size f->EvsB (Ya (s.run p w)).heap.size (s.runT p w f).2:=by
 induction h with
 |pure a=>intro w f h;exact h
 |halt x=>intro w f h;exact h
 |load _ d=>
  intro w f h;unfold Sem.run Sem.runT;split
  ·rename_i e;exact d _ w _ (h.push (.cell (qK e) _ _))
  ·split
   ·rename_i e;exact d _ w _ (h.far (Z0I e) _ _)
   ·exact h
 | @store m a v k _ d=>
   intro w f h;cases v<;>simp only[Sem.run,Sem.runT]<;>first|exact h|skip
   all_goals
    split
    ·rename_i e;split
     ·exact h
     ·refine d _ _ (EvsB.push ?_ (.cell ?_ _ _))
      ·rw[S4];exact h
      ·rw[S4];exact qK e
    ·split
     ·rename_i e;have g:=(Ed e).1;refine d _ _ (EvsB.far ?_ ?_ _ _)
      ·rw[g];exact h
      ·rw[g];exact Z0J e
     ·exact h
 |new _ d=>intro w f h;exact d _ {w with heap:=w.heap.push _} f (h.mono Z1)
 |shape _ d=>intro w f h;exact d _ w f h
 |freeze _ d=>intro w f h;exact d (w.freeze _ _) f (by rw[(EG _ _ _).1];exact h)
 |frozen _ d=>intro w f h;exact d _ w f h
 |getObj _ d=>
  intro w f h;unfold Sem.run Sem.runT;split
  ·exact h
  ·rename_i e;exact d _ w _ (h.push (.obj (Zdq.1 e).1 _ _))
  ·exact h
 | @setObj r o k _ d=>
   intro w f h;unfold Sem.run Sem.runT;split
   ·exact h
   ·rename_i e;have g:({w with heap:=w.heap.setIfInBounds r o}:World).heap.size=w.heap.size:=Z1;refine d _ _ (EvsB.push ?_ (.obj ?_ _ _))
    ·rw[g];exact h
    ·rw[g];exact(Zdq.1 e).1
   ·exact h
 |choose _ d=>
  intro w f h;unfold Sem.run Sem.runT;split
  ·exact d _ w f h
  ·exact d _ {w with drawn:=w.drawn+1} f h
 | @sys c k _ d=>
   intro w f h;have g:=(Nh w c).1;exact d _ (w.sys c).2 _ (EvsB.push (by rw[g];exact h) (show EvB _ _ from True.intro))
 |prog _ d=>intro w f h;exact d _ w f h
 |room _ d=>intro w f h;exact d w _ (h.push (show EvB _ _ from(rfl:Mark.noRoom=Mark.noRoom)))
def Qf(P:Z4):Op->Bool
 |.move _|.assign _|.pick _ _ _|.alloc _|.box _ _|.build _ _|.buildSlice _ _ _|.load _ _|.store _ _ _|.binOp _ _ _ _ _|.unOp _ _ _|.makeInterface _ _|.makeFunc _ _ _|.makeMap _ _
 |.makeSlice _ _ _|.slice _ _ _ _ _|.fieldAddr _ _ _|.field _ _ _|.indexAddr _ _ _|.index _ _ _|.extract _ _=>true
 | .call c=>match c.callee with
   |.builtin .append|.builtin .len|.builtin .min=>true
   | .value (.func f)=>match P.funcs[f]? with
     |some fn=> !(fn.name== "runtime.NumGoroutine")&&fn.body.isSome
     |none=>false
   |_=>false
 |_=>false
def UQ(P:Z4):Code->Bool
 |.region _ a _=>a.all λo=>Qf P o.op
 |.seq x y=>UQ P x&&UQ P y
 |.cond _ x y=>UQ P x&&UQ P y
 |.block _ x|.loop x|.scope x=>UQ P x
 |.skip|.label _|.exit _|.ret=>true
 |_=>false
end Vm
end
section
namespace Vm
open Go Go.Conc Go.ConcN
section
theorem Wm{s:Sem Value}(h:Calm s):Calm (do pure (.value (<-s)):Sem Next):=h.bind λ_=>.pure _
theorem Z06{s:Sem Unit}(h:Calm s):Calm (do s;pure .skip:Sem Next):=h.bind λ_=>.pure _
theorem Qm{α:Type}{P:Z4}{s:Sem α}(h:Calm s)(w:Z3):EvsB (Ya (s.run P w)).heap.size (s.events P w #[]):=h.evs w #[] λe a=>by simp at a
def Ea{P:Z4}{o:Oper}(h:Qf P o.op=true)(a:Act)(w:Z3):EvsB (Ya ((execOp a.eval o).run P w)).heap.size ((execOp a.eval o).events P w #[]):=by
 cases d:o.op with
 |call c=>
  obtain⟨callee,args,g⟩:=c;rw[d]at h;simp only[Qf]at h;split at h
  ·refine Qm ?_ w;unfold execOp;simp only[d,resolve,builtin];exact Wm (calm_append ..)
  ·refine Qm ?_ w;unfold execOp;simp only[d,resolve,builtin];exact Wm (calm_len ..)
  ·refine Qm ?_ w;unfold execOp;simp only[d,resolve,builtin];exact Wm (calm_min ..)
  ·rename_i f;split at h
   ·rename_i fn k;simp only[Zdn,Zeh]at h;rw[events_call_body d k h.1 (by cases l:fn.body<;>simp_all)];exactλe j=>by simp at j
   ·cases h
  ·cases h
 |_=>
  rw[d]at h
  first
  |cases h;done
  | (refine Qm ?_ w
     unfold execOp;simp only[d]
     first
     |exact .pure _
     |exact Wm (calm_alloc ..)
     |exact Wm (calm_box ..)
     |exact Wm (calm_build ..)
     |exact Wm (calm_buildSlice ..)
     |exact Wm (calm_loadAt ..)
     |exact Z06 (calm_storeAt ..)
     |exact Wm (.bind (calm_guard ..) λ_=>calm_binOp ..)
     |exact Wm (calm_unary ..)
     |exact Wm (calm_makeInterface ..)
     |exact Wm (calm_makeFunc ..)
     |exact Wm (calm_makeMap ..)
     |exact Wm (calm_makeSlice ..)
     |exact Wm (calm_sliceAt ..)
     |exact Wm (calm_fieldAt ..)
     |exact Wm (calm_field ..)
     |exact Wm (calm_indexAt ..)
     |exact Wm (calm_index ..)
     |exact Wm (calm_extract ..)
     |exact .bind (calm_asBool _) λ_=>.pure _)
structure TBt (sz:Nat) (t:Trace):Prop where
 clean:∀said,¬Race said t
 hears:∀i,Deaf t i=0
 low:∀op∈t,A3 sz op
 known:KnownAll t
def TBt.main{sz f:Nat}{t:Trace}(h:TBt sz t)(q:sz<=f){fn:Zn}{pos:String}{es:Zc}(k:EvsB f es):TBt f (t++MemOp.ofEvents 0 fn pos es):=by
 have n:=AB (g:=0) (fn:=fn) (pos:=pos) (es:=es);refine⟨λsaid=>noRace_append (h.clean said) n λi a o op d b j p=> ?_,qU k h.hears,λop d=> ?_,h.known.app0 n⟩
 ·obtain⟨y,u,l⟩:=touch_of o;exact h.known i y a u l p.2.1
 ·obtain d|d:=ZeT.1 d
  ·exactλx b r j=>Zdw (h.low op d x b r j) q
  ·exact qV k (λb j=>j) (λb j=>j.elim) op d
def yB{P:Z4}:∀(N:Nat) {K:Nat} {m a:Machine} {r:Stepped×Trace} {t d:Trace},runNT P N m t=(.next a,d)->runNT P K a d=r->runNT P (N+K) m t=r
 |0,K,m,a,r,t,d,h,k=>by
  simp only[runNT,Zdx,Stepped.next.injEq]at h;obtain⟨rfl,rfl⟩:=h;rw[Ze7];exact k
 |N+1,K,m,a,r,t,d,h,k=>by
  rw[show N+1+K=(N+K)+1 by omega];simp only[runNT]at h⊢;rcases f:stepT P m with ⟨e,g⟩;rw[f]at h;cases e with
  |next j=>exact yB N h k
  |ended o w=>cases h
theorem Win.bind{P:Z4}{F j:Zo}{gs:Zg}{w:Z3}{sl:Option (Nat×Nat)}{t:Trace}(h:Win P F gs w sl t)(p:∀gs w sl t,F gs w t->Win P j gs w sl t):Win P j gs w sl t:=by
 obtain⟨N,a,w1,f,q,k,l⟩:=h;obtain⟨K,d,w2,g,r,n,o⟩:=p a w1 f q l;exact⟨N+K,d,w2,g,r,yB N k n,o⟩
def CJ(P:Z4)(Stop:Z9)(gs:Zg)(w:Z3)(t:Trace):Prop:=
 ∃fr cs q,gs[0]?=some (G fr cs)/\Stop fr cs w/\YI P gs.size gs q/\TBt w.heap.size t
def Walk(P:Z4)(Stop:Z9)(fr:Zf)(cs:Z5)(w:Z3):Prop:=
 ∀(d:Nat) (gs:Zg) (sl:Option (Nat×Nat)) (t:Trace) (q:Zb),YI P gs.size gs q->gs[0]?=some (G fr cs)->TBt w.heap.size t->Win P (CJ P Stop) gs (w.at d) sl t
section
variable {P:Z4}{Stop Stop':Z9}{fr:Zf}{cs:Z5}{w:Z3}
def Walk.stop(h:∀d,Stop fr cs (w.at d)):Walk P Stop fr cs w:=λd gs sl t q f a g=>Win.now ⟨fr,cs,q,a,h d,f,g⟩
theorem Walk.at(h:Walk P Stop fr cs w)(d:Nat):Walk P Stop fr cs (w.at d):=h
theorem Walk.one(h:∀d,∃f a w' es,stepG P true (G fr cs) (w.at d)=.go (G f a) w' es/\w.heap.size<=w'.heap.size/\EvsB w'.heap.size es/\Walk P Stop f a w'):Walk P Stop fr cs w:=by
 intro N gs sl t q K x L
 have k:∀(j:Zg) g,j[j.size]? ≠some g:=λj g e=>by
  have:=(Zdq.1 e).1;omega
 refine skip K (λi g A z=> ?_) ⟨0,_,.inl rfl,x,rfl⟩ λj d u M i g o l B A n D=> ?_
 ·obtain rfl|rfl:=A
  ·rw[x]at z;cases z;exact⟨awake_of (.inl rfl),λg1 g2 d=>woken_run rfl⟩
  ·exact absurd z (k gs g)
 ·obtain rfl|rfl:=A
  ·rw[l 0 (.inl rfl),x]at n;cases n;obtain⟨f,a,w',es,F,H,I,J⟩:=h d;have r:j[0]?=some (G fr cs):=by rw[l 0 (.inl rfl)];exact x
   have p:=runT_crowd_go (P:=P) (sl:=u) (i:=0) r (w':=w') (g':=G f a) (es:=es) F;refine⟨_,_,_,_,p,?_⟩;have C:((j.map (woken P (G fr cs) (G f a) w')).setIfInBounds 0 (G f a)).size=gs.size:=by simp[o]
   exact J w'.drawn _ u _ M (by rw[C];exact Sw B 0 (.inl rfl) _ _ _ _) (Uh (y:=woken P (G fr cs) (G f a) w' (G fr cs)) (by rw[ZdU,r];rfl)) (L.main H I)
  ·rw[<-o]at n;exact absurd n (k j g)
def Walk.go{fr':Zf}{a:Z5}(h:∀w,stepG P true (G fr cs) w=.go (G fr' a) w #[])(k:Walk P Stop fr' a w):Walk P Stop fr cs w:=
 .one λd=>⟨fr',a,w.at d, #[],h _,Zdp _,λe f=>by simp at f,k⟩
end
end
end Vm
end
section
namespace Vm
open Go
inductive V where
 |int (k:IntKind) (n:Int)
 |bool (b:Bool)
 |str (s:ByteArray)
 |sl (l:List V)
 |agg (cs:List V)
 |tup (l:List V)
 |ptr (cs:List V)
 |fn (f:FuncId)
 |mp (id:Nat) (ks vs:List V)
 |clo (f:FuncId) (cs:List V)
 |nul (k:Nat)
 deriving Inhabited
def V.cells:V->List V
 |.agg d=>d
 |x=>[x]
def V.one:V->Bool
 |.agg _|.tup _=>false
 |_=>true
def V.fits(k:Nat)(x:V):Prop:=x.cells.length=k/\∀c∈x.cells,c.one=true
def flat(l:List V):List V:=l.flatMap V.cells
def Z0W:flat []=[]:=rfl
def So x l:flat (x::l)=x.cells++flat l:=rfl
theorem je l r:flat (l++r)=flat l++flat r:=by simp[flat]
def Tt{k}:∀ {l},(∀x∈l,x.fits k)->(flat l).length=l.length*k
 | [],_=>by simp[flat]
 |x::l,h=>by
  rw[So,Ze8,(h x Z1).1,Tt (λy d=>h y (by simp[d]))];simp[ZeJ,Zgo]
def Vu{k}:∀ {l} {i:Nat} {x:V},(∀x∈l,x.fits k)->l[i]?=some x->∀j,j<k->(flat l)[i*k+j]?=x.cells[j]?
 | [],i,x,_,h,_,_=>Zd1
 |y::l,0,x,d,h,j,f=>by
  simp at h;subst h;rw[So,Nat.zero_mul,Ze7,ZdT (by rw[(d y Z1).1];exact f)]
 |y::l,i+1,x,d,h,j,f=>by
  rw[So,ZdI (by rw[(d y Z1).1];rw[ZeJ];omega),(d y Z1).1,
   show(i+1)*k+j-k=i*k+j from by rw[ZeJ];omega]
  exact Vu (λz n=>d z (by simp[n])) (by simpa using h) j f
def Z0X{k l}(h:∀x∈l,x.fits k)n:flat (l.take n)=(flat l).take (n*k):=by
 by_cases d:n<=l.length
 ·have j:(flat (l.take n)).length=n*k:=by
   rw[Tt (λx f=>h x (Ze4 f)),ZeD,Zhs d]
  grind [flat,je,List.take_append_drop,List.take_left]
 ·rw[Zek Z0,Zek];rw[Tt h];exact Ze0 _ Z0
def Z0T{k l}(h:∀x∈l,x.fits k)n:flat (l.drop n)=(flat l).drop (n*k):=by
 by_cases d:n<=l.length
 ·have j:(flat (l.take n)).length=n*k:=by
   rw[Tt (λx f=>h x (Ze4 f)),ZeD,Zhs d]
  grind [flat,je,List.take_append_drop,List.drop_left]
 ·rw[Zf0 Z0,Zf0,Z0W];rw[Tt h];exact Ze0 _ Z0
def Z0U{l}{i:Nat}{c}(h:(flat l)[i]?=some c):∃x∈l,c∈x.cells:=by
 have:=Zdr h;simp_all[flat]
inductive Rd (w:World) (G:Nat->Prop):V->Value->Prop where
 |int (k:IntKind) (n:Int):Rd w G (.int k n) (.int k n)
 |bool (b:Bool):Rd w G (.bool b) (.bool b)
 |str (s:ByteArray):Rd w G (.str s) (.string s)
 |nil (a:Option Addr) (cap:Nat):cap<=maxLen->Rd w G (.sl []) (.slice a 0 cap)
 |sl (l:List V) (b o cap k:Nat) (vs:Nat->Value):l.length<=cap->cap<=maxLen->G b->(∀x∈l,x.fits k)->
   (∀i,i<l.length*k->w.cell? ⟨b,o+i,none⟩=some (vs i))->(∀i c,(flat l)[i]?=some c->Rd w G c (vs i))->
   Rd w G (.sl l) (.slice (some ⟨b,o,none⟩) l.length cap)
 |agg (cs:List V) (vs:Array Value):vs.size=cs.length->(∀c∈cs,c.one=true)->(∀i c,cs[i]?=some c->Rd w G c (vs.getD i undef))->Rd w G (.agg cs) (.agg vs)
 |tup (l:List V) (vs:Array Value):vs.size=l.length->(∀i c,l[i]?=some c->Rd w G c (vs.getD i undef))->Rd w G (.tup l) (.tuple vs)
 |ptr (cs:List V) (b o:Nat) (vs:Nat->Value):G b->(∀c∈cs,c.one=true)->(∀i,i<cs.length->w.cell? ⟨b,o+i,none⟩=some (vs i))->
   (∀i c,cs[i]?=some c->Rd w G c (vs i))->Rd w G (.ptr cs) (.pointer (some ⟨b,o,none⟩))
 |fn (f:FuncId):Rd w G (.fn f) (.func (.func f) #[] #[])
 |clo (f:FuncId) (cs:List V) (vs:Array Value):vs.size=cs.length->(∀i c,cs[i]?=some c->Rd w G c (vs.getD i undef))->Rd w G (.clo f cs) (.func (.func f) #[] vs)
 |nul0:Rd w G (.nul 0) (.pointer none)
 |nul1:Rd w G (.nul 1) .nilFunc
 |nomp:Rd w G (.mp 0 [] []) (.map none)
 |mp (id:Nat) (ks xs:List V) (b clk:Nat) (es:Array MapEntry):(id=0\/id=b+1)->G b->w.heap[b]?=some (.map es clk)->ks.length=es.size->xs.length=es.size->
   (∀i c,ks[i]?=some c->Rd w G c (es.getD i default).key)->(∀i c,xs[i]?=some c->Rd w G c (es.getD i default).val)->Rd w G (.mp id ks xs) (.map (some b))
def Same(G:Nat->Prop)(w w':World):Prop:=∀b,G b->w'.heap[b]?=w.heap[b]?
def Same.refl G w:Same G w w:=λ_ _=>rfl
theorem Same.trans{G a b c}(h:Same G a b)(k:Same G b c):Same G a c:=λx d=>(k x d).trans (h x d)
def Same.cell{G w w'}(h:Same G w w'){b o}(d:G b):w'.cell? ⟨b,o,none⟩=w.cell? ⟨b,o,none⟩:=
 Zel (h b d)
def Rd.keep{w w' G G' x v}(h:Rd w G x v)(z:Same G w w')(y:∀b,G b->G' b):Rd w' G' x v:=by
 induction h with
 |int k n=>exact .int k n
 |bool b=>exact .bool b
 |str s=>exact .str s
 |nil a cap I=>exact .nil a cap I
 |sl l b o cap k vs d p r u M _ j=>exact .sl l b o cap k vs d p (y _ r) u (λi J=>by rw[z.cell r];grind) j
 |agg q vs d p _ j=>exact .agg q vs d p j
 |tup l vs d _ j=>exact .tup l vs d j
 |ptr q b o vs d p r _ j=>exact .ptr q b o vs (y _ d) p (λi J=>by rw[z.cell d];grind) j
 |fn f=>exact .fn f
 |clo f q vs d _ j=>exact .clo f q vs d j
 |nul0=>exact .nul0
 |nul1=>exact .nul1
 |nomp=>exact .nomp
 |mp id K L b t F H d p r u _ _ A D=>exact .mp id K L b t F H (y _ d) (by rw[z b d];exact p) r u A D
def Rd.mono{w G G' x v}(h:Rd w G x v)(d:∀b,G b->G' b):Rd w G' x v:=h.keep (.refl _ _) d
def Rd.one_eq{w G x v}(h:Rd w G x v):v.oneCell'=x.one:=by
 cases h<;>rfl
theorem Rd.cells{w G x v}(h:Rd w G x v)(M:∀l,x≠.tup l):v.cells.size=x.cells.length/\(∀c∈x.cells,c.one=true)/\∀i c,x.cells[i]?=some c->Rd w G c (v.cells.getD i undef):=by
 have d:∀ {x} {v:Value},Rd w G x v->x.one=true->v.cells=#[v]->x.cells=[x]->v.cells.size=x.cells.length/\(∀c∈x.cells,c.one=true)/\∀i c,x.cells[i]?=some c->Rd w G c (v.cells.getD i undef):=by
  intro x v h j I J;rw[I,J];refine⟨rfl,Zcp,λi c H=> ?_⟩;cases i with
  |zero=>simp_all
  |succ i=>simp at H
 cases h with
 |agg t vs j p q=>exact⟨j,p,q⟩
 |tup l vs _ _=>simp_all
 |int k n=>exact d (.int k n) rfl rfl rfl
 |bool b=>exact d (.bool b) rfl rfl rfl
 |str s=>exact d (.str s) rfl rfl rfl
 |nil a cap F=>exact d (.nil a cap F) rfl rfl rfl
 |sl l b o cap k vs j p q r y z=>exact d (.sl l b o cap k vs j p q r y z) rfl rfl rfl
 |ptr t b o vs j p q r=>exact d (.ptr t b o vs j p q r) rfl rfl rfl
 |fn f=>exact d (.fn f) rfl rfl rfl
 |clo f t vs j p=>exact d (.clo f t vs j p) rfl rfl rfl
 |nul0=>exact d .nul0 rfl rfl rfl
 |nul1=>exact d .nul1 rfl rfl rfl
 |nomp=>exact d .nomp rfl rfl rfl
 |mp id K L b u A D j p q r y z=>exact d (.mp id K L b u A D j p q r y z) rfl rfl rfl
end Vm
namespace Vm
open Go
inductive KC where
 |b|i (k:IntKind)|s
 deriving DecidableEq,Inhabited
inductive E where
 |c (v:V)
 |s (t:Nat)
 |m (t i:Nat)
 |mm (t i n:Nat)
 |bin (op:BinOp) (a b:E)
 |eqv (neg:Bool) (a b:E)
 |un (op:UnOp) (a:E)
 |conv (k:IntKind) (a:E)
 |len (a:E)
 |mn (a b:E)
 |mx (a b:E)
 |ext (a:E) (i:Nat)
 |idx (a i:E) (k:Nat)
 |fld (a:E) (o:Nat)
 |flds (a:E) (o n:Nat)
 |ai (a i:E) (n k:Nat) (ag:Bool)
 |slc (a lo hi:E) (k:Nat)
 |slcl (a lo:E) (k:Nat)
 |app (a b:E) (k:Nat)
 |upd (a i:E) (o:Nat) (b:E)
 |aput (a i:E) (n k:Nat) (b:E)
 |mk (z:V) (n:E)
 |lit (l:List E)
 |ag (l:List E)
 |ite (c a b:E)
 |star (a:E)
 |isag (a:E)
 |one (a:E)
 |sz (a:E) (n:Nat)
 |fl (a:E)
 |fls (a:E)
 |lk (kc:KC) (a k:E) (z:V) (ok:Bool)
 |mput (kc:KC) (a k v:E)
 |mlen (a:E)
 |mclr (a:E)
 |pt (f:Option FuncId) (l:List E)
 deriving Inhabited
inductive SV where
 |no
 |v (x:V)
 |m (cs:List V)
 deriving Inhabited
abbrev St:=List SV
def get(s:St)(t:Nat):SV:=(s[t]?).getD .no
def Y2:Nat:=4294967296
def Xk:BinOp->V->V->Option V
 |.add,.int k a,.int d b=>if k=d then some (.int k (k.wrap (a+b)))else none
 |.sub,.int k a,.int d b=>if k=d then some (.int k (k.wrap (a-b)))else none
 |.mul,.int k a,.int d b=>if k=d then some (.int k (k.wrap (a*b)))else none
 |.quo,.int k a,.int d b=>if k=d/\b≠0 then some (.int k (k.wrap (a.tdiv b)))else none
 |.rem,.int k a,.int d b=>if k=d/\b≠0 then some (.int k (a.tmod b))else none
 |.and,.int k a,.int d b=>if k=d then some (.int k (k.wrap (BitVec.ofInt k.bits a&&& BitVec.ofInt k.bits b).toNat))else none
 |.or,.int k a,.int d b=>if k=d then some (.int k (k.wrap (BitVec.ofInt k.bits a|||BitVec.ofInt k.bits b).toNat))else none
 |.xor,.int k a,.int d b=>if k=d then some (.int k (k.wrap (BitVec.ofInt k.bits a ^^^ BitVec.ofInt k.bits b).toNat))else none
 |.shl,.int k a,.int _ b=>if 0<=b then some (.int k (k.wrap (a*2 ^ (min b.toNat k.bits))))else none
 |.shr,.int k a,.int _ b=>if 0<=b then some (.int k (a.fdiv (2 ^ (min b.toNat k.bits))))else none
 |.eql,.int k a,.int d b=>if k=d then some (.bool (a==b))else none
 |.neq,.int k a,.int d b=>if k=d then some (.bool (a !=b))else none
 |.lss,.int k a,.int d b=>if k=d then some (.bool (decide (a<b)))else none
 |.leq,.int k a,.int d b=>if k=d then some (.bool (decide (a<=b)))else none
 |.gtr,.int k a,.int d b=>if k=d then some (.bool (decide (a>b)))else none
 |.geq,.int k a,.int d b=>if k=d then some (.bool (decide (a≥b)))else none
 |_,_,_=>none
def Sl(neg:Bool):V->V->Option V
 |.bool a,.bool b=>some (.bool (neg ^^ (a==b)))
 |_,_=>none
def S6:UnOp->V->Option V
 |.neg,.int k n=>some (.int k (k.wrap (0-n)))
 |.not,.bool b=>some (.bool !b)
 |_,_=>none
def Qj(k:IntKind):V->Option V
 |.int _ n=>some (.int k (k.wrap n))
 |_=>none
def Rr:V->Option V
 |.sl l=>some (.int .i64 l.length)
 |_=>none
def Rz:V->V->Option V
 |.int k x,.int _ y=>some (.int k (if y<x then y else x))
 |_,_=>none
def Ry:V->V->Option V
 |.int k x,.int _ y=>some (.int k (if y>x then y else x))
 |_,_=>none
def Ts:V->Nat->Option V
 |.tup l,i=>l[i]?
 |_,_=>none
def Y9(x i:V)(k:Nat):Option V:=
 match x,i with
 |.sl l,.int _ i=>if 0<=i then(l[i.toNat]?).bind λz=>if z.cells.length=k then some z else none else none
 |_,_=>none
def V.pc:V->List V
 |.agg d=>d
 |x=>[x]
def UH:V->Option V
 |.ptr d=>some (.agg d)
 |_=>none
def YR(x:V):Option V:=if x.one then some x else none
def Vk(x:V)(n:Nat):Option V:=if x.cells.length=n then match x with|.tup _=>none|x=>some x else none
def Rm:V->Option V
 |.agg d=>some (.agg d)
 |_=>none
def ZZ(x:V)(o:Nat):Option V:=(x.pc[o]?).bind YR
def Xj(k:Nat)(l:List V):Bool:=l.all λx=>x.cells.length==k
def VS(x:V)(o n:Nat):Option V:=if o+n<=x.pc.length then some (.agg ((x.pc.drop o).take n))else none
def Y6(x i:V)(n k:Nat)(ag:Bool):Option V:=
 match x,i with
 |.agg d,.int _ i=>if 0<=i/\i<n/\d.length=n*k then(if ag then some (.agg ((d.drop (i.toNat*k)).take k))else d[i.toNat*k]?)else none
 |_,_=>none
def SN(k:Nat):V->V->V->Option V
 |.sl l,.int _ a,.int _ b=>if 0<=a/\a<=b/\b<=l.length/\Xj k l=true then some (.sl ((l.take b.toNat).drop a.toNat))else none
 |_,_,_=>none
def RU(k:Nat):V->V->Option V
 |.sl l,.int _ a=>if 0<=a/\a<=l.length/\Xj k l=true then some (.sl (l.drop a.toNat))else none
 |_,_=>none
def R1(k:Nat):V->V->Option V
 |.sl a,.sl b=>if a.length+b.length<=Y2/\Xj k b=true then some (.sl (a++b))else none
 |_,_=>none
def setCells(cs:List V)(o:Nat)(b:List V):List V:=cs.take o++b++cs.drop (o+b.length)
def V.put(x:V)(o:Nat)(b:List V):V:=
 match x with
 |.agg d=>.agg (setCells d o b)
 |_=>b.headD x
def SQ(x i:V)(o:Nat)(b:V):Option V:=
 match x,i with
 |.sl l,.int _ i=>if 0<=i then(l[i.toNat]?).bind λy=>if o+b.cells.length<=y.cells.length/\b.cells≠[]then some (.sl (l.set i.toNat (y.put o b.cells)))else none else none
 |_,_=>none
def Up(x i:V)(n k:Nat)(b:V):Option V:=
 match x,i with
 |.agg d,.int _ i=>if 0<=i/\i<n/\d.length=n*k/\b.cells.length=k then some (.agg (setCells d (i.toNat*k) b.cells))else none
 |_,_=>none
def JW(z:V):V->Option V
 |.int _ n=>if 0<=n/\n<=Y2 then some (.sl (List.replicate n.toNat z))else none
 |_=>none
def Tn(l:List V):V:=.agg (flat l)
def V.flatc:V->Bool
 |.int .. |.bool _|.str _=>true
 |_=>false
def Wh(x:V):Option V:=
 match x with
 |.tup _=>none
 |x=>if x.cells.all V.flatc then some x else none
def jh(x:V):Option V:=
 match x with
 |.sl l=>if(Vm.flat l).all V.flatc then some x else none
 |_=>none
def JS:V->V->Option Bool
 |.int k a,.int d b=>if k=d then some (a==b)else none
 |.bool a,.bool b=>some (a==b)
 |.str a,.str b=>some (a==b)
 |_,_=>none
def UT(k:V):List V->Option (Option Nat)
 | []=>some none
 |y::l=>match JS k y with
  |some true=>some (some 0)
  |some false=>(UT k l).map λr=>r.map (· +1)
  |none=>none
def WX:KC->V->Bool
 |.b,.bool _=>true
 |.i k,.int d _=>decide (k=d)
 |.s,.str _=>true
 |_,_=>false
def Ub(d:KC)(x k z:V)(ok:Bool):Option V:=
 if WX d k=false then none else
 match x with
 | .mp _ f vs=>match UT k f with
   |some (some i)=>(vs[i]?).map λv=>if ok then .tup [v,.bool true]else v
   |some none=>some (if ok then .tup [z,.bool false]else z)
   |none=>none
 |_=>none
def Uy(f:KC)(x k v:V):Option V:=
 if WX f k=false then none else
 match x with
 | .mp id d vs=>match UT k d with
   |some (some i)=>some (.mp id d (vs.set i v))
   |some none=>some (.mp id (d++[k]) (vs++[v]))
   |none=>none
 |_=>none
def JU:V->Option V
 |.mp id _ _=>some (.mp id [] [])
 |_=>none
def Sx:V->Option V
 |.mp _ d _=>some (.int .i64 d.length)
 |_=>none
def QA(c:V)(a b:Option V):Option V:=
 match c with
 |.bool true=>a
 |.bool false=>b
 |_=>none
def Km(f:Option FuncId)(l:List V):Option V:=
 match f with
 |none=>if l.all V.one then some (.ptr l)else none
 |some f=>some (.clo f l)
mutual
def eval(s:St):E->Option V
 |.c v=>some v
 |.s t=>match get s t with|.v x=>some x|_=>none
 |.m t i=>match get s t with|.m d=>(d[i]?).bind YR|_=>none
 |.mm t i n=>match get s t with|.m d=>if i+n<=d.length then some (.agg ((d.drop i).take n))else none|_=>none
 |.bin op a b=>(eval s a).bind λx=>(eval s b).bind λy=>Xk op x y
 |.eqv n a b=>(eval s a).bind λx=>(eval s b).bind λy=>Sl n x y
 |.un op a=>(eval s a).bind (S6 op)
 |.conv k a=>(eval s a).bind (Qj k)
 |.len a=>(eval s a).bind Rr
 |.mn a b=>(eval s a).bind λx=>(eval s b).bind λy=>Rz x y
 |.mx a b=>(eval s a).bind λx=>(eval s b).bind λy=>Ry x y
 |.ext a i=>(eval s a).bind λx=>Ts x i
 |.idx a i k=>(eval s a).bind λx=>(eval s i).bind λy=>Y9 x y k
 |.fld a o=>(eval s a).bind λx=>ZZ x o
 |.flds a o n=>(eval s a).bind λx=>VS x o n
 |.ai a i n k ag=>(eval s a).bind λx=>(eval s i).bind λy=>Y6 x y n k ag
 |.slc a p q k=>(eval s a).bind λx=>(eval s p).bind λy=>(eval s q).bind λz=>SN k x y z
 |.slcl a p k=>(eval s a).bind λx=>(eval s p).bind λy=>RU k x y
 |.app a b k=>(eval s a).bind λx=>(eval s b).bind λy=>R1 k x y
 |.upd a i o b=>(eval s a).bind λx=>(eval s i).bind λy=>(eval s b).bind λz=>SQ x y o z
 |.aput a i n k b=>(eval s a).bind λx=>(eval s i).bind λy=>(eval s b).bind λz=>Up x y n k z
 |.mk z n=>(eval s n).bind (JW z)
 |.lit l=>(YB s l).map .sl
 |.ag l=>(YB s l).map Tn
 |.ite c a b=>(eval s c).bind λx=>QA x (eval s a) (eval s b)
 |.star a=>(eval s a).bind UH
 |.isag a=>(eval s a).bind Rm
 |.one a=>(eval s a).bind YR
 |.sz a n=>(eval s a).bind λx=>Vk x n
 |.fl a=>(eval s a).bind Wh
 |.fls a=>(eval s a).bind jh
 |.lk j a k z ok=>(eval s a).bind λx=>(eval s k).bind λy=>Ub j x y z ok
 |.mput j a k v=>(eval s a).bind λx=>(eval s k).bind λy=>(eval s v).bind λz=>Uy j x y z
 |.mlen a=>(eval s a).bind Sx
 |.mclr a=>(eval s a).bind JU
 |.pt f l=>(YB s l).bind (Km f)
def YB(s:St):List E->Option (List V)
 | []=>some []
 |e::l=>(eval s e).bind λx=>(YB s l).map (x:: ·)
end
mutual
def V.same:V->V->Bool
 |.int k n,.int l o=>decide (k=l)&&decide (n=o)
 |.bool a,.bool b=>a==b
 |.sl a,.sl b=>V.sames a b
 |.agg a,.agg b=>V.sames a b
 |.tup a,.tup b=>V.sames a b
 |.fn a,.fn b=>a==b
 |.mp i a b,.mp j d f=>i==j&&V.sames a d&&V.sames b f
 |_,_=>false
def V.sames:List V->List V->Bool
 | [],[]=>true
 |a::l,b::r=>V.same a b&&V.sames l r
 |_,_=>false
end
mutual
def E.same:E->E->Bool
 |.c a,.c b=>V.same a b
 |.s a,.s b=>a==b
 |.m a i,.m b j=>a==b&&i==j
 |.mm a i n,.mm b j y=>a==b&&i==j&&n==y
 |.bin o a b,.bin x p t=>decide (o=x)&&E.same a p&&E.same b t
 |.eqv o a b,.eqv x p t=>o==x&&E.same a p&&E.same b t
 |.un o a,.un x p=>decide (o=x)&&E.same a p
 |.conv k a,.conv u p=>decide (k=u)&&E.same a p
 |.len a,.len b=>E.same a b
 |.mn a b,.mn p t=>E.same a p&&E.same b t
 |.mx a b,.mx p t=>E.same a p&&E.same b t
 |.ext a i,.ext b j=>E.same a b&&i==j
 |.idx a b k,.idx p t u=>E.same a p&&E.same b t&&k==u
 |.fld a o,.fld b x=>E.same a b&&o==x
 |.flds a o n,.flds b x y=>E.same a b&&o==x&&n==y
 |.ai a i n k g,.ai p A y u I=>E.same a p&&E.same i A&&n==y&&k==u&&g==I
 |.slc a b d k,.slc p t D u=>E.same a p&&E.same b t&&E.same d D&&k==u
 |.slcl a b k,.slcl p t u=>E.same a p&&E.same b t&&k==u
 |.app a b k,.app p t u=>E.same a p&&E.same b t&&k==u
 |.upd a i o b,.upd p A x t=>E.same a p&&E.same i A&&o==x&&E.same b t
 |.aput a i n k b,.aput p A y u t=>E.same a p&&E.same i A&&n==y&&k==u&&E.same b t
 |.mk z n,.mk H y=>V.same z H&&E.same n y
 |.lit l,.lit r=>E.sames l r
 |.ag l,.ag r=>E.sames l r
 |.star a,.star b=>E.same a b
 |.isag a,.isag b=>E.same a b
 |.one a,.one b=>E.same a b
 |.sz a n,.sz b y=>E.same a b&&n==y
 |.fl a,.fl b=>E.same a b
 |.fls a,.fls b=>E.same a b
 |.lk q a k z o,.lk F p u H x=>decide (q=F)&&E.same a p&&E.same k u&&V.same z H&&o==x
 |.mput q a k v,.mput F p u J=>decide (q=F)&&E.same a p&&E.same k u&&E.same v J
 |.mlen a,.mlen b=>E.same a b
 |.mclr a,.mclr b=>E.same a b
 |.pt f l,.pt g r=>f==g&&E.sames l r
 |.ite a b d,.ite p t D=>E.same a p&&E.same b t&&E.same d D
 |_,_=>false
def E.sames:List E->List E->Bool
 | [],[]=>true
 |a::l,b::r=>E.same a b&&E.sames l r
 |_,_=>false
end
mutual
def E.has(x:E):E->Bool
 |.bin o a b=>E.same x (.bin o a b)||E.has x a||E.has x b
 |.eqv o a b=>E.same x (.eqv o a b)||E.has x a||E.has x b
 |.un o a=>E.same x (.un o a)||E.has x a
 |.conv k a=>E.same x (.conv k a)||E.has x a
 |.len a=>E.same x (.len a)||E.has x a
 |.mn a b=>E.same x (.mn a b)||E.has x a||E.has x b
 |.mx a b=>E.same x (.mx a b)||E.has x a||E.has x b
 |.ext a i=>E.same x (.ext a i)||E.has x a
 |.idx a b k=>E.same x (.idx a b k)||E.has x a||E.has x b
 |.fld a o=>E.same x (.fld a o)||E.has x a
 |.flds a o n=>E.same x (.flds a o n)||E.has x a
 |.ai a i n k g=>E.same x (.ai a i n k g)||E.has x a||E.has x i
 |.slc a b d k=>E.same x (.slc a b d k)||E.has x a||E.has x b||E.has x d
 |.slcl a b k=>E.same x (.slcl a b k)||E.has x a||E.has x b
 |.app a b k=>E.same x (.app a b k)||E.has x a||E.has x b
 |.upd a i o b=>E.same x (.upd a i o b)||E.has x a||E.has x i||E.has x b
 |.aput a i n k b=>E.same x (.aput a i n k b)||E.has x a||E.has x i||E.has x b
 |.mk z n=>E.same x (.mk z n)||E.has x n
 |.lit l=>E.same x (.lit l)||E.hasIn x l
 |.ag l=>E.same x (.ag l)||E.hasIn x l
 |.ite a b d=>E.same x (.ite a b d)||E.has x a
 |.star a=>E.same x (.star a)||E.has x a
 |.isag a=>E.same x (.isag a)||E.has x a
 |.one a=>E.same x (.one a)||E.has x a
 |.sz a n=>E.same x (.sz a n)||E.has x a
 |.fl a=>E.same x (.fl a)||E.has x a
 |.fls a=>E.same x (.fls a)||E.has x a
 |.lk q a k z o=>E.same x (.lk q a k z o)||E.has x a||E.has x k
 |.mput q a k v=>E.same x (.mput q a k v)||E.has x a||E.has x k||E.has x v
 |.mlen a=>E.same x (.mlen a)||E.has x a
 |.mclr a=>E.same x (.mclr a)||E.has x a
 |.pt f l=>E.same x (.pt f l)||E.hasIn x l
 |.c v=>E.same x (.c v)
 |.s t=>E.same x (.s t)
 |.m t i=>E.same x (.m t i)
 |.mm t i n=>E.same x (.mm t i n)
def E.hasIn(x:E):List E->Bool
 | []=>false
 |a::l=>E.has x a||E.hasIn x l
end
def E.sure:E->Bool
 |.c v=>v.one
 |.m .. |.bin .. |.eqv .. |.un .. |.conv .. |.len _|.mn .. |.mx .. |.fld .. |.slc .. |.slcl .. |.app .. |.upd .. |.mk .. |.lit _|.one _|.mput .. |.mlen _|.mclr _=>true
 |.ite _ a b=>E.sure a&&E.sure b
 |_=>false
def E.sized(n:Nat):E->Bool
 |.mm _ _ k=>k==n
 |.flds _ _ k=>k==n
 |.ag l=>l.length==n&&l.all E.sure
 |.sz _ k=>k==n
 |_=>false
def zM(e:E):E:=if e.sure then e else .one e
def Ce(e:E)(n:Nat):E:=if e.sized n then e else .sz e n
def WK(ag:Bool)(n:Nat)(e:E):E:=if ag then Ce e n else zM e
inductive TD where
 |sc|sl (e:TypeId)|st (fs:List (Nat×Nat×Bool×Bool))|ar (n:Nat) (e:TypeId)|pt (e:TypeId)|no
 deriving DecidableEq,Inhabited
def WU:Value->Option V
 |.int k n=>some (.int k n)
 |.bool b=>some (.bool b)
 |.string s=>some (.str s)
 |.slice none 0 0=>some (.sl [])
 |.func (.func f) first d=>if first.size=0/\d.size=0 then some (.fn f)else none
 |.map none=>some (.mp 0 [] [])
 |.pointer none=>some (.nul 0)
 |.nilFunc=>some (.nul 1)
 |_=>none
def Y5(P:Program)(t:TypeId):Bool:=
 match P.underlying t with
 |some (.struct _)|some (.array _ _)=>true
 |_=>false
def zeroCells(P:Program)(t:TypeId):Option (List V):=
 ((P.info? t).bind (·.zero)).bind λz=>z.cells.toList.mapM WU
def XF(P:Program)(t:TypeId):Bool:=
 match P.underlying t with
 |some .bool|some (.int _)|some .string=>true
 |some (.struct _)|some (.array _ _)=>match zeroCells P t with|some l=>l.all V.flatc|none=>false
 |some (.tuple d)=>d.all λu=>match P.underlying u with
  |some .bool|some (.int _)|some .string=>true
  |some (.struct _)|some (.array _ _)=>(match zeroCells P u with|some l=>l.all V.flatc|none=>false)
  |_=>false
 |_=>false
def X4(P:Program)(T:TypeId):Bool:=(P.underlying T).isSome&&(P.info? T).isSome
def Vn(P:Program)(t:TypeId):TD:=
 match P.underlying t with
 |some .bool|some (.int _)|some .string=>.sc
 |some (.slice e)=>.sl e
 |some (.struct d)=>if d.toList.all (λf=>X4 P f.type)then .st (d.toList.map λf=>(f.offset,P.cellsOf f.type,Y5 P f.type,XF P f.type))else .no
 |some (.array n e)=>.ar n e
 |some (.pointer e)=>.pt e
 |_=>.no
def Ur(P:Program)(d:TypeId):Bool:=
 match P.info? d with
 |some i=>match i.zero with
  |some z=>z.cells.size==i.size&&decide (0<i.size)&&decide (i.bytes<=32768)
  |none=>false
 |none=>false
inductive CK where
 |fz|own (ty:TypeId)|nil|dead
 deriving DecidableEq,Inhabited
inductive OT where
 |fz|own (ty:TypeId)|nil|mem (l:List CK)|clo (f:FuncId) (caps:List Nat)
 deriving DecidableEq,Inhabited
inductive TK where
 |no
 |val (e:E) (sh:List Nat)
 |own (ty:TypeId) (e:E)
 |nil
 |mem (cs:List (CK×E))
 |ags (cs:List (CK×E))
 |ref (p:Nat)
 |refm (p i:Nat)
 |pm (p o:Nat)
 |pc (e:E) (o:Nat) (sh:List Nat)
 |pe (p:Nat) (i:Option Nat) (j:E) (o k:Nat)
 |pa (p o:Nat) (j:E) (n k:Nat)
 |clo (f:FuncId) (caps:List Nat)
 |big (e:E) (sh:List Nat)
 deriving Inhabited
def TK.isNo:TK->Bool
 |.no=>true
 |_=>false
abbrev ZC:=List (Nat×Bool)
abbrev Gam:=List (Nat×ZC×TK)
def Gam.at(g:Gam)(t:Nat):ZC×TK:=
 match g with
 | []=>([],.no)
 |(u,x)::r=>if u=t then x else Gam.at r t
def memOf(g:Gam)(p:Nat):Option (List (CK×E)):=
 match g.at p with
 |([],.mem d)=>some d
 |_=>none
def ownOf(g:Gam)(p:Nat):Option (TypeId×E):=
 match g.at p with
 |([],.own d e)=>some (d,e)
 |_=>none
def R5(a b:ZC):Bool:=a.all λx=>b.contains x
def look(g:Gam)(C:ZC)(t:Nat):TK:=let x:=g.at t;if R5 x.1 C then x.2 else .no
def Uo(cs:List (CK×E)):Bool:=cs.any λc=>match c.1 with|.own _=>true|_=>false
def Wl(cs:List (CK×E)):Bool:=cs.any λc=>c.1==.dead
def ownAt(g:Gam):TK->Option (TypeId×E)
 |.ref p=>ownOf g p
 | .refm p i=>(memOf g p).bind λd=>match d[i]? with
   |some (.own f,e)=>some (f,e)
   |_=>none
 |_=>none
def W1(g:Gam)(k:TK)(t:Nat):Option (E×List Nat):=
 match k with
 |.val e f=>some (e,f)
 |.own _ e=>some (e,[t])
 |.nil=>some (.c (.sl []),[])
 |.ags d=>if Wl d then none else some (.ag (d.map (·.2)),if Uo d then [t]else [])
 |.ref p=>(ownAt g (.ref p)).map λx=>(x.2,[p])
 |.refm p i=>(ownAt g (.refm p i)).map λx=>(x.2,[p])
 |_=>none
def Yt(g:Gam)(C:ZC)(x:Operand):TK:=
 match x with
 |.const (.slice none 0 0)=>.nil
 |.const v=>match WU v with|some x=>.val (.c x) [] |none=>.no
 |.tmp t=>look g C t
 |.func f=>.val (.c (.fn f)) []
 |_=>.no
def SF:Operand->Nat
 |.tmp t=>t
 |_=>0
def YC(g:Gam)(C:ZC)(x:Operand):Option (E×List Nat):=
 W1 g (Yt g C x) (match x with|.tmp t=>t|_=>0)
def XE(fl:Bool)(b:E×List Nat):E×List Nat:=if b.2.isEmpty then b else if fl then(.fl b.1,[])else b
def K9(g:Gam)(C:ZC)(fl:Bool):List Operand->Option (List E×List Nat)
 | []=>some ([],[])
 |x::l=>(YC g C x).bind λd=>(K9 g C fl l).map λb=>let a:=XE fl d;(a.1::b.1,a.2++b.2)
def Jm(g:Gam):List Nat->Option (List E)
 | []=>some []
 |p::l=>(memOf g p).bind λd=>if Wl d then none else(Jm g l).map λf=>.pt none (d.map (·.2))::f
def U4(g:Gam)(k:TK)(t:Nat):Option (E×List Nat):=
 match k with
 |.mem j=>if Wl j then none else some (.pt none (j.map (·.2)),[t])
 |.pm p 0=>(memOf g p).bind λj=>if Wl j then none else some (.pt none (j.map (·.2)),[p])
 |.clo f d=>(Jm g d).map λl=>(.pt (some f) l,d)
 |.big e n=>some (e,n)
 |_=>none
def qw(g:Gam)(C:ZC)(fl:Bool)(x:Operand):Option (E×List Nat×Bool):=
 match YC g C x with
 |some a=>some ((XE fl a).1,(XE fl a).2,false)
 |none=>(U4 g (Yt g C x) (SF x)).map λa=>(a.1,a.2,true)
def Jj(P:Program)(g:Gam)(C:ZC):List Operand->List TypeId->Option (List E×List Nat×Bool)
 | [],_=>some ([],[],false)
 |x::l,d=>(qw g C (match d with|t::_=>XF P t| []=>false) x).bind λa=>(Jj P g C l d.tail).map λb=>(a.1::b.1,a.2.1++b.2.1,a.2.2||b.2.2)
def UC(p:Nat):Nat->List (CK×E)->Bool
 |_,[]=>true
 |i,(_,.m q j)::r=>p==q&&i==j&&UC p (i+1) r
 |_,_=>false
def Cr:TK->List E
 |.val e _=>[e]
 |_=>[]
structure Ctx where
 P:Program
 ix:Nat->Nat
 own:Nat->Bool
 fresh:FuncId->Bool
 sig:FuncId->Option (List OT)
 tr:List Nat
 n:Nat
def zh(c:Ctx)(g:Gam)(T:TypeId)(p o:Nat):Option TK:=
 (memOf g p).bind λd=>
  if Y5 c.P T then
   let part:=(d.drop o).take (c.P.cellsOf T)
   if part.length=c.P.cellsOf T/\Wl part=false/\0<c.P.cellsOf T then
    some (.val (if UC (c.ix p) o part then .mm (c.ix p) o part.length else .ag (part.map (·.2))) (if Uo part then [p]else []))
   else none
  else match d[o]? with
   |some (.fz,e)=>some (.val e [])
   |some (.own _,_)=>some (.refm p o)
   |some (.nil,_)=>some .nil
   |_=>none
def jX(c:Ctx)(g:Gam)(T:TypeId)(p o:Nat)(j:E)(m k:Nat):Option TK:=
 (memOf g p).bind λd=>
  let part:=(d.drop o).take (m*k)
  if part.length=m*k/\c.P.cellsOf T=k/\0<m*k/\Uo part=false/\Wl part=false then
   some (.val (.ai (if UC (c.ix p) o part then .mm (c.ix p) o part.length else .ag (part.map (·.2))) j m k (Y5 c.P T)) [])
  else none
def Jq(c:Ctx)(T:TypeId)(e:E)(o:Nat):E:=if Y5 c.P T then .flds e o (c.P.cellsOf T)else .fld e o
def RG(p:Nat):Option Nat->TK
 |none=>.ref p
 |some i=>.refm p i
def jY(c:Ctx)(g:Gam)(T:TypeId)(p:Nat)(i:Option Nat)(j:E)(o k:Nat):Option TK:=
 (ownAt g (RG p i)).bind λx=>if c.P.cellsOf x.1=k then some (.val (Jq c T (.idx x.2 j k) o) [p])else none
def FW(c:Ctx)(g:Gam)(T:TypeId)(k:TK)(t:Nat):Option TK:=
 match k with
 |.mem _=>zh c g T t 0
 |.pm p o=>zh c g T p o
 |.pc e o d=>some (.val (Jq c T e o) d)
 |.val e d=>some (.val (Jq c T (.star e) 0) d)
 |.pe p i j o k=>jY c g T p i j o k
 |.pa p o j m k=>jX c g T p o j m k
 |_=>none
def Jy(P:Program)(T:TypeId)(f:Nat):Option (Nat×Nat×Bool×Bool):=
 match Vn P T with
 |.st d=>d[f]?
 |_=>none
abbrev PK:=Option (TK×List E)
def TK.free:TK->Bool
 |.own .. |.mem _|.ags _|.no=>false
 |_=>true
def Be(g:Gam)(C:ZC)(x:Operand):PK:=
 if(Yt g C x).free then some (Yt g C x,[])else
 match x,Yt g C x with
 |.tmp t,.own _ _=>some (.ref t,[])
 |.tmp t,.mem _=>some (.pm t 0,[])
 |.tmp t,.ags d=>(W1 g (.ags d) t).map λy=>(.val y.1 y.2,[])
 |_,_=>none
def Bf(g:Gam)(C:ZC)(x:Operand):PK:=
 match Yt g C x with
 |.mem _=>some (.pm (SF x) 0,[])
 |.pm p o=>some (.pm p o,[])
 |.val e d=>some (.val e d,[.star e])
 |_=>none
def B1(c:Ctx)(g:Gam)(C:ZC)(ty:TypeId)(x:Operand):PK:=
 match Yt g C x with
 |.val e []=>some (.val e [],[])
 |.val e (p::j)=>if XF c.P ty then some (.val (.fl e) [],[.fl e])else none
 |.nil=>some (.nil,[])
 |.clo f d=>some (.clo f d,[])
 |_=>none
def AZ(c:Ctx)(T:TypeId):PK:=
 (zeroCells c.P T).bind λz=>if z.isEmpty then none else some (.mem (z.map λx=>((match x with|.sl _=>CK.nil|_=>.fz),E.c x)),[])
def B3(c:Ctx)(g:Gam)(C:ZC)(T:TypeId)(x:Operand):PK:=
 match Yt g C x with
 | .val d []=>
   if X4 c.P T then
    let e:=WK (Y5 c.P T) (c.P.cellsOf T) d
    if Y5 c.P T then some (.mem ((List.range (c.P.cellsOf T)).map λi=>(CK.fz,E.fld e i)),[e])else some (.mem [(.fz,e)],[e])
   else none
 |_=>none
def qT(P:Program)(T:TypeId):Bool:=
 match P.underlying T with
 |some .bool=>true
 |_=>false
def Qe(P:Program)(d:TypeId->Nat->Option E)(n o:Nat):List Field->Option E
 | []=>some (.c (.bool true))
 |f::l=>if f.name≠ "_" /\f.offset+P.cellsOf f.type<=n then(d f.type (o+f.offset)).bind λx=>(Qe P d n o l).map λy=>.ite x y (.c (.bool false))else none
def U5(P:Program)(a b:E):Nat->TypeId->Nat->Option E
 |0,_,_=>none
 |d+1,T,o=>
  match P.underlying T with
  |some .bool=>if P.cellsOf T=1 then some (.eqv false (.fld a o) (.fld b o))else none
  |some (.int _)=>if P.cellsOf T=1 then some (.bin .eql (.fld a o) (.fld b o))else none
  |some (.struct f)=>if f.toList≠[]/\P.cellsOf T≠0/\P.stoodInHeld T=false then Qe P (U5 P a b d) (P.cellsOf T) o f.toList else none
  |_=>none
def Ql(P:Program)(T:TypeId)(a b:E):Option E:=
 if Y5 P T/\P.eqGuardType P.depth T=false then U5 P (.sz (.isag a) (P.cellsOf T)) (.sz (.isag b) (P.cellsOf T)) 4 T 0 else none
def Lc(P:Program)(T:TypeId)(op:BinOp)(a b:E):E:=
 if qT P T then match op with
  |.eql=>.eqv false a b
  |.neq=>.eqv true a b
  |_=>.bin op a b
 else match op with
  |.eql=>(Ql P T a b).getD (.bin op a b)
  |.neq=>((Ql P T a b).map (.un .not)).getD (.bin op a b)
  |_=>.bin op a b
def B2(c:Ctx)(g:Gam)(C:ZC)(op:BinOp)(T:TypeId)(x y:Operand):PK:=
 (YC g C x).bind λa=>(YC g C y).map λb=>let e:=Lc c.P T op a.1 b.1;(.val e [],[e])
def IE(g:Gam)(C:ZC)(op:UnOp)(x:Operand):PK:=(YC g C x).map λa=>(.val (.un op a.1) [],[.un op a.1])
def IB(c:Ctx)(g:Gam)(C:ZC)(f d:TypeId)(x:Operand):PK:=
 if(c.P.underlying f).isNone then none else
 match c.P.underlying d with
 |some (.int k)=>(YC g C x).map λa=>(.val (.conv k a.1) [],[.conv k a.1])
 |_=>none
def IC(c:Ctx)(g:Gam)(C:ZC)(ty:TypeId)(x:Operand)(i:Nat):PK:=
 (YC g C x).map λa=>let y:=XE (XF c.P ty) (.ext a.1 i,a.2);(.val y.1 y.2,[y.1])
def B9(c:Ctx)(g:Gam)(C:ZC)(T:TypeId)(a:Operand):PK:=
 if X4 c.P T then(FW c g T (Yt g C a) (SF a)).map λk=>(k,Cr k)else none
def B5(c:Ctx)(g:Gam)(C:ZC)(T:TypeId)(a:Operand)(f:Nat):PK:=
 (Jy c.P T f).bind λx=>if x.2.1=0 then none else
  match Yt g C a with
  |.mem _=>some (.pm (SF a) x.1,[])
  |.pm p q=>some (.pm p (q+x.1),[])
  |.pc e q d=>some (.pc e (q+x.1) d,[])
  |.val e d=>some (.pc (.star e) x.1 d,[.star e])
  |.pe p i j q k=>some (.pe p i j (q+x.1) k,[])
  |_=>none
def LZ(c:Ctx)(g:Gam)(p:Nat)(i:Option Nat)(d:TypeId)(j:E):PK:=
 (ownAt g (RG p i)).bind λx=>if c.P.cellsOf x.1=c.P.cellsOf d/\X4 c.P d=true then some (.pe p i j 0 (c.P.cellsOf d),[.idx x.2 j (c.P.cellsOf d)])else none
def B8(c:Ctx)(g:Gam)(C:ZC)(T:TypeId)(x i:Operand):PK:=
 match Vn c.P T with
 | .sl d=>(YC g C i).bind λj=>
   match Yt g C x with
   |.ref p=>LZ c g p none d j.1
   |.refm p q=>LZ c g p (some q) d j.1
   |.val e f=>if X4 c.P d then some (.pc (.idx e j.1 (c.P.cellsOf d)) 0 f,[.idx e j.1 (c.P.cellsOf d)])else none
   |_=>none
 | .ar n d=>if !X4 c.P d then none else(YC g C i).bind λj=>
   match Yt g C x with
   |.mem _=>some (.pa (SF x) 0 j.1 n (c.P.cellsOf d),[.ai (.c (.agg (List.replicate n (.bool true)))) j.1 n 1 false])
   |.pm p o=>some (.pa p o j.1 n (c.P.cellsOf d),[.ai (.c (.agg (List.replicate n (.bool true)))) j.1 n 1 false])
   |.pc e q f=>let k:=E.ai (.flds e q (n*c.P.cellsOf d)) j.1 n (c.P.cellsOf d) true;some (.pc k 0 f,[k])
   |_=>none
 |_=>none
def B6(c:Ctx)(g:Gam)(C:ZC)(T:TypeId)(x:Operand)(f:Nat):PK:=
 (Jy c.P T f).bind λy=>if y.2.1=0 then none else(YC g C x).map λa=>
  let e:=if y.2.2.1 then E.flds (.isag a.1) y.1 y.2.1 else .fld (.isag a.1) y.1
  (.val e a.2,[e])
def B7(c:Ctx)(g:Gam)(C:ZC)(T:TypeId)(x i:Operand):PK:=
 match Vn c.P T with
 | .ar n d=>if !X4 c.P d then none else(YC g C x).bind λa=>(YC g C i).map λb=>
   let e:=E.ai a.1 b.1 n (c.P.cellsOf d) (Y5 c.P d)
   (.val e a.2,[e])
 |_=>none
def K8(g:Gam)(C:ZC):Option Operand->Option E
 |some l=>(YC g C l).map Prod.fst
 |none=>some (.c (.int .i64 0))
def AA(g:Gam)(C:ZC)(a l:E)(k:Nat):Option Operand->Option E
 |some h=>(YC g C h).map λy=>.slc a l y.1 k
 |none=>some (.slcl a l k)
def Bi(c:Ctx)(g:Gam)(C:ZC)(T:TypeId)(x:Operand)(j f:Option Operand):PK:=
 match Vn c.P T with
 | .sl d=>if X4 c.P d then(YC g C x).bind λa=>
   (K8 g C j).bind λl=>(AA g C a.1 l (c.P.cellsOf d) f).map λe=>(.val e a.2,[e])else none
 |_=>none
def AW(g:Gam)(C:ZC)(n:Nat)(ag fl:Bool)(x:Operand):Option (List (CK×E)×List Nat×List Nat):=
 match x,Yt g C x with
 |.tmp t,.own f e=>some ([(.own f,e)],[],[t])
 |_,.nil=>some ([(.nil,.c (.sl []))],[],[])
 |_,_=>(YC g C x).map λd=>let a:=XE fl d;let e:=WK ag n a.1;(if ag then(List.range n).map λj=>(.fz,.fld e j)else [(.fz,e)],a.2,[])
abbrev BC:=List (CK×E)×List Nat×List Nat
def KY(d:List V)(o n:Nat):BC:=(((d.drop o).take n).map λz=>((match z with|.sl _=>CK.nil|_=>CK.fz),E.c z),[],[])
def Is(g:Gam)(C:ZC)(d:List V)(parts:List (Nat×Operand))(f:Nat×Nat×Bool×Bool)(i:Nat):Option BC:=
 match parts.find? (λp=>p.1==i)with
 |some p=>AW g C f.2.1 f.2.2.1 f.2.2.2 p.2
 |none=>some (KY d f.1 f.2.1)
def TM:List Nat->Bool
 | []=>true
 |x::l=> !l.contains x&&TM l
def Jk(g:Gam)(C:ZC)(d:List V)(parts:List (Nat×Operand)):List (Nat×Nat×Bool×Bool)->Nat->Nat->Option BC
 | [],_,o=>if o=d.length then some ([],[],[])else none
 |f::r,i,o=>(Is g C d parts f i).bind λa=>if f.1=o/\a.1.length=f.2.1/\f.2.1≠0 then(Jk g C d parts r (i+1) (o+f.2.1)).map λb=>(a.1++b.1,a.2.1++b.2.1,a.2.2++b.2.2)else none
def Lh(g:Gam)(C:ZC)(d:List V)(parts:List (Nat×Operand))(fs:List (Nat×Nat×Bool×Bool)):Option BC:=
 if TM (parts.map (·.1))&&parts.all (λp=>decide (p.1<fs.length))then Jk g C d parts fs 0 0 else none
def OK(cs:List (CK×E)):Bool:=cs.all λc=>c.1==.fz
def y5(P:Program)(T:TypeId):Option (List (Nat×Nat×Bool×Bool)):=
 match Vn P T with
 |.st f=>some f
 |.ar n d=>if X4 P d then some ((List.range n).map λi=>(i*P.cellsOf d,P.cellsOf d,Y5 P d,XF P d))else none
 |_=>none
def IA(c:Ctx)(g:Gam)(C:ZC)(T:TypeId)(parts:List (Nat×Operand)):PK:=
 (y5 c.P T).bind λd=>(zeroCells c.P T).bind λf=>(Lh g C f parts d).bind λb=>
  if b.2.2.isEmpty then
   let e:=E.ag (b.1.map (·.2))
   if b.2.1.isEmpty&& !OK b.1 then some (.ags b.1,[e])else some (.val e b.2.1,[e])
  else none
def Tb(c:Ctx)(f:Option Nat)(j:TypeId)(e:E)(sh:List Nat):PK:=
 match f with
 |some d=>if c.own d&&sh.isEmpty then some (.own j e,[e])else some (.val e sh,[e])
 |none=>none
def B4(c:Ctx)(g:Gam)(C:ZC)(f:Option Nat)(T:TypeId)(n:Nat)(parts:List (Nat×Operand)):PK:=
 match Vn c.P T with
 | .sl d=>(K9 g C (XF c.P d) (parts.map (·.2))).bind λj=>
   if parts.map (·.1)=List.range n/\n<256/\c.P.cellsOf d<256/\Ur c.P d=true/\(Y5 c.P d=true\/c.P.cellsOf d=1)then Tb c f d (.lit (j.1.map (WK (Y5 c.P d) (c.P.cellsOf d)))) j.2 else none
 |_=>none
def BM:Operand->Operand->Bool
 |.tmp t,.tmp u=>t==u
 |.const (.int _ x),.const (.int _ y)=>x==y
 |_,_=>false
def Bb(c:Ctx)(g:Gam)(C:ZC)(f:Option Nat)(T:TypeId)(n m:Operand):PK:=
 match Vn c.P T with
 | .sl d=>(zeroCells c.P d).bind λz=>(YC g C n).bind λa=>
   if BM n m&&Ur c.P d&&(Y5 c.P d||z.length==1)then Tb c f d (.mk (if Y5 c.P d then .agg z else z.headD (.agg [])) a.1) []else none
 |_=>none
def ID(c:Ctx)(g:Gam)(C:ZC)(T:TypeId)(x:Operand):PK:=
 match c.P.underlying T with
 |some (.slice _)=>(YC g C x).map λa=>(.val (.len a.1) [],[.len a.1])
 |some (.array n _)=>some (.val (.c (.int .i64 n)) [],[])
 |some (.map _ _)=>(YC g C x).map λa=>(.val (.mlen a.1) [],[.mlen a.1])
 |_=>none
def Jn(g:Gam)(C:ZC):List Operand->Option (List Nat)
 | []=>some []
 |x::l=>match x,Yt g C x with
  |.tmp t,.mem _=>(Jn g C l).map (t:: ·)
  |_,_=>none
def Bc(g:Gam)(C:ZC)(f:Go.Fn)(first d:List Operand):PK:=
 match f,first,d with
 |.func f,[],[]=>some (.val (.c (.fn f)) [],[])
 |.func f,[],l=>(Jn g C l).map λj=>(.clo f j,[])
 |_,_,_=>none
def zc(P:Program)(t:TypeId):Option KC:=
 match P.underlying t with
 |some .bool=>some .b
 |some (.int k)=>some (.i k)
 |some .string=>some .s
 |_=>none
def CE(P:Program)(t:TypeId):Option V:=
 ((P.info? t).bind (·.zero)).bind λz=>match z with
   |.agg d=>(d.toList.mapM WU).map .agg
   |v=>WU v
def jL(P:Program)(t:TypeId):Bool:=
 match P.underlying t with
 |some (.map _ _)=>true
 |_=>false
def Bd(c:Ctx)(T:TypeId):PK:=if jL c.P T then some (.own T (.c (.mp 0 [] [])),[])else none
def Kj(c:Ctx)(g:Gam)(C:ZC)(T:TypeId)(x k:Operand)(ok:Bool):PK:=
 match c.P.underlying T with
 |some (.map j d)=>(zc c.P j).bind λf=>(CE c.P d).bind λz=>(YC g C x).bind λa=>(YC g C k).map λb=>
   let e:=E.lk f a.1 b.1 z ok
   (.val e a.2,[e])
 |_=>none
def DW(P:Program)(T:TypeId):Bool:=
 match P.underlying T with
 |some (.map _ d)=>XF P d
 |_=>false
def Ba(c:Ctx)(g:Gam)(C:ZC)(T:TypeId)(x k:Operand)(ok:Bool):PK:=
 (Kj c g C T x k ok).bind λr=>match r.1 with
 |.val e d=>let y:=XE (!ok&&DW c.P T) (e,d);some (.val y.1 y.2,[y.1])
 |_=>none
def yc(g:Gam)(C:ZC)(mx:Bool)(x y:Operand):PK:=
 (YC g C x).bind λa=>(YC g C y).map λb=>let e:=if mx then E.mx a.1 b.1 else .mn a.1 b.1;(.val e [],[e])
def Sk(fl:Bool)(b:E×List Nat):E×List Nat:=if b.2.isEmpty then b else if fl then(.fls b.1,[])else b
def B0(c:Ctx)(g:Gam)(C:ZC)(f:Option Nat)(T U:TypeId)(x y:Operand):PK:=
 match Vn c.P T with
 |.sl j=>if T=U/\Ur c.P j=true then
   match Yt g C x with
   | .nil=>(YC g C y).bind λb=>
     let y:=Sk (XF c.P j) b
     if(match f with|some d=>c.own d|none=>false)&& !y.2.isEmpty then none else Tb c f j (.app (.c (.sl [])) y.1 (c.P.cellsOf j)) y.2
   |_=>none
  else none
 |_=>none
def pk(c:Ctx)(g:Gam)(C:ZC)(o:Oper):PK:=
 match o.op with
 |.move x=>Be g C x
 |.nilCheck x=>Bf g C x
 |.assign x=>B1 c g C o.type x
 |.alloc T=>AZ c T
 |.box T x=>B3 c g C T x
 |.binOp op T x y _=>B2 c g C op T x y
 |.unOp op _ x=>IE g C op x
 |.convert l j x=>IB c g C l j x
 |.extract x i=>IC c g C o.type x i
 |.load T a=>B9 c g C T a
 |.fieldAddr T a f=>B5 c g C T a f
 |.indexAddr T x i=>B8 c g C T x i
 |.field T x f=>B6 c g C T x f
 |.index T x i=>B7 c g C T x i
 |.slice T x q p none=>Bi c g C T x q p
 |.build T parts=>IA c g C T parts.toList
 |.buildSlice T n parts=>B4 c g C o.dst T n parts.toList
 |.makeSlice T n m=>Bb c g C o.dst T n m
 |.makeFunc f first d=>Bc g C f first.toList d.toList
 |.makeMap T none=>Bd c T
 |.lookup T x k ok=>Ba c g C T x k ok
 | .call {callee:=.builtin .len,args,argTypes}=>match args.toList,argTypes.toList with
   | [x],[T]=>ID c g C T x
   |_,_=>none
 | .call {callee:=.builtin .min,args, .. }=>match args.toList with
   | [x,y]=>yc g C false x y
   |_=>none
 | .call {callee:=.builtin .max,args, .. }=>match args.toList with
   | [x,y]=>yc g C true x y
   |_=>none
 | .call {callee:=.builtin .append,args,argTypes}=>match args.toList,argTypes.toList with
   | [x,y],[T,U]=>B0 c g C o.dst T U x y
   |_,_=>none
 |_=>none
inductive FN where
 |id (f:FuncId)
 |e (x:E)
 deriving Inhabited
def FN.es:FN->List E
 |.id _=>[]
 |.e x=>[x]
inductive EF where
 |lt (i:Nat) (C:ZC) (e:E)
 |call (i:Nat) (C:ZC) (f:FN) (fr fl:Bool) (args:List E)
 |callm (i:Nat) (C:ZC) (f:FN) (ks:List OT) (args:List E)
 deriving Inhabited
inductive OV where
 |v (e:E)
 |m (l:List E)
 |no
 deriving Inhabited
structure Reg where
 efs:List EF
 chks:List (ZC×E)
 outs:List (Nat×OV)
 deriving Inhabited
structure OS where
 d:Gam
 ps:List Nat
 rb:List Nat
 fz:List Nat
 efs:List EF
 chks:List (ZC×E)
 deriving Inhabited
def EK:CK->CK
 |.own _=>.fz
 |k=>k
def Re:TK->TK
 |.own _ e=>.val e []
 |.ags d=>if Wl d then .no else .val (.ag (d.map (·.2))) []
 |.mem d=>.mem (d.map λc=>(EK c.1,c.2))
 |k=>k
def Qx(fz:List Nat):TK->Bool
 |.pe q _ _ _ _=>fz.contains q
 |_=>false
def Ui(p:Nat):TK->Bool
 |.val _ d=>d.contains p
 |.ref q=>p==q
 |.refm q _=>p==q
 |.pc _ _ d=>d.contains p
 |.pe q _ _ _ _=>p==q
 |.big _ d=>d.contains p
 |_=>false
def leads(p:Nat):TK->Bool
 |.pa q _ _ _ _=>p==q
 |.pm q _=>p==q
 |.clo _ d=>d.contains p
 |_=>false
def Vb(ps rb fz:List Nat)(k:TK):Bool:= !(ps.any λp=>Ui p k)&& !(rb.any λp=>leads p k)&& !Qx fz k
def W8(ps rb fz:List Nat)(g:Gam):Gam:=g.filterMap λx=>if Vb ps rb fz x.2.2 then none else some (x.1,[],.no)
def VT(fz:List Nat)(g:Gam):Gam:=fz.map λp=>(p,(g.at p).1,Re (g.at p).2)
def frz(fz:List Nat)(g:Gam):Gam:=W8 [] [] fz g++VT fz g++g
def ZS(g:Gam):List Nat:=g.map (·.1)
structure MS where
 d:Gam
 ps:List Nat
 rb:List Nat
 fz:List Nat
 es:List E
 deriving Inhabited
def Sv(g:Gam)(fl:Bool)(x:Operand):Option (E×List Nat):=(YC g [] x).map λd=>XE fl d
def J0(cs:List (CK×E))(o:Nat)(new:List (CK×E)):List (CK×E):=cs.take o++new++cs.drop (o+new.length)
def Ud(g:Gam)(p o:Nat)(new:List (CK×E)):Option TK:=
 (memOf g p).bind λd=>if o+new.length<=d.length then some (.mem (J0 d o new))else none
def EU(c:Ctx)(g:Gam)(d:Nat):TK->Option (Nat×TypeId×E)
 |.ref p=>if c.tr.contains d&&p !=d then(ownOf g p).map λy=>(p,y.1,y.2)else none
 |_=>none
def zn(c:Ctx)(g:Gam)(ty:TypeId)(d:Nat)(x:Operand):Option MS:=
 match x,Yt g [] x with
 |.tmp t,.own ty e=>if t=d\/(g.at t).1≠[]then none else some {d:=[(d,[],.own ty e),(t,[],.no)],ps:=[d,t],rb:=[d,t],fz:=[],es:=[]}
 |.tmp t,.mem f=>if t=d\/(g.at t).1≠[]then none else some {d:=[(d,[],.mem f),(t,[],.no)],ps:=[d,t],rb:=[d,t],fz:=[],es:=[]}
 | .tmp _,.pm p 0=>if c.tr.contains d&&p !=d then(memOf g p).bind λf=>if Wl f then none else
   some {d:=[(d,[],.val (.pt none (f.map (·.2))) []),(p,[],.no)],ps:=[d,p],rb:=[d,p],fz:=[],es:=[.pt none (f.map (·.2))]}else none
 |_,.nil=>some {d:=[(d,[],.nil)],ps:=[d],rb:=[d],fz:=[],es:=[]}
 |_,k=>match EU c g d k with
  |some (p,ty,e)=>some {d:=[(d,[],.own ty e),(p,[],.no)],ps:=[d,p],rb:=[d,p],fz:=[],es:=[]}
  |none=>(Sv g (XF c.P ty) x).map λa=> {d:=[(d,[],.val a.1 [])],ps:=[d],rb:=[d],fz:=a.2,es:=[a.1]}
def zt(c:Ctx)(g:Gam)(T:TypeId)(p o:Nat)(x:Operand):Option MS:=
 let n:=c.P.cellsOf T
 if Y5 c.P T then
  match x,Yt g [] x with
  |.tmp t,.ags f=>if f.length=n/\t≠p/\(g.at t).1=[]then(Ud g p o f).map λk=> {d:=[(p,[],k),(t,[],.no)],ps:=[p,t],rb:=[t],fz:=[],es:=[]}else none
  |_,_=>(Sv g (XF c.P T) x).bind λa=>let e:=WK true n a.1;(Ud (frz a.2 g) p o ((List.range n).map λj=>(CK.fz,E.fld e j))).map λk=> {d:=[(p,[],k)],ps:=[p],rb:=[],fz:=a.2,es:=[e]}
 else match x,Yt g [] x with
  |.tmp t,.own l e=>if t≠p/\(g.at t).1=[]then(Ud g p o [(.own l,e)]).map λk=> {d:=[(p,[],k),(t,[],.no)],ps:=[p,t],rb:=[t],fz:=[],es:=[]}else none
  |_,.nil=>(Ud g p o [(.nil,.c (.sl []))]).map λk=> {d:=[(p,[],k)],ps:=[p],rb:=[],fz:=[],es:=[]}
  |_,_=>(Sv g (XF c.P T) x).bind λa=>let e:=zM a.1;(Ud (frz a.2 g) p o [(.fz,e)]).map λk=> {d:=[(p,[],k)],ps:=[p],rb:=[],fz:=a.2,es:=[e]}
def Ag(c:Ctx)(g:Gam)(T:TypeId)(p:Nat)(i:Option Nat)(j:E)(o k:Nat)(x:Operand):Option MS:=
 (Sv g (XF c.P T) x).bind λa=>let e:=WK (Y5 c.P T) (c.P.cellsOf T) a.1;let g:=frz a.2 g
  if a.2.contains p then none else
  match i with
  |none=>(ownOf g p).bind λx=>let f:=E.upd x.2 j o e;if c.P.cellsOf x.1=k then some {d:=[(p,[],.own x.1 f)],ps:=[p],rb:=[],fz:=a.2,es:=[f]}else none
  |some q=>(memOf g p).bind λn=>match n[q]? with
   |some (.own l,r)=>let f:=E.upd r j o e;if c.P.cellsOf l=k then(Ud g p q [(.own l,f)]).map λk=> {d:=[(p,[],k)],ps:=[p],rb:=[],fz:=a.2,es:=[f]}else none
   |_=>none
def Af(c:Ctx)(g:Gam)(T:TypeId)(p o:Nat)(j:E)(n k:Nat)(x:Operand):Option MS:=
 (Sv g (XF c.P T) x).bind λf=>let a:=(WK (Y5 c.P T) (c.P.cellsOf T) f.1,f.2);if !a.2.isEmpty||c.P.cellsOf T≠k then none else
  (memOf g p).bind λq=>
   let part:=(q.drop o).take (n*k)
   if part.length=n*k/\part.all (λx=>x.1==.fz)then
    let l:=E.aput (if UC (c.ix p) o part then .mm (c.ix p) o (n*k)else .ag (part.map (·.2))) j n k a.1
    (Ud g p o ((List.range (n*k)).map λi=>(CK.fz,E.fld l i))).map λk=> {d:=[(p,[],k)],ps:=[p],rb:=[],fz:=[],es:=[l]}
   else none
def Ab(c:Ctx)(g:Gam)(d:Nat)(T:TypeId)(parts:List (Nat×Operand)):Option MS:=
 (y5 c.P T).bind λj=>(zeroCells c.P T).bind λk=>(Lh g [] k parts j).bind λb=>
  let f:=b.2.2
  if f.any (λt=>b.2.1.contains t||t==d|| !(g.at t).1.isEmpty)|| !TM f then none else
  some {d:=(d,[],.ags b.1)::f.map λt=>(t,[],.no),ps:=d::f,rb:=d::f,fz:=b.2.1,es:=[.ag (b.1.map (·.2))]}
def Gk(c:Ctx)(g:Gam)(T:TypeId)(a x:Operand):Option MS:=
 if !X4 c.P T|| !(Y5 c.P T||c.P.cellsOf T==1)then none else
 match Yt g [] a with
 |.mem _=>zt c g T (SF a) 0 x
 |.pm p o=>zt c g T p o x
 |.pe p i j o k=>Ag c g T p i j o k x
 |.pa p o j n k=>Af c g T p o j n k x
 |_=>none
def A9(c:Ctx)(g0:Gam)(d:Nat)(T U:TypeId)(x y:Operand):Option MS:=
 match Vn c.P T with
 |.sl j=>if T=U/\Ur c.P j=true then
   (YC g0 [] y).bind λn=>
    let b:=Sk (XF c.P j) n
    let g:=frz b.2 g0
    match x,Yt g [] x with
    |_,.nil=>let f:=E.app (.c (.sl [])) b.1 (c.P.cellsOf j);some {d:=[(d,[],.own j f)],ps:=[d],rb:=[d],fz:=b.2,es:=[f]}
    |.tmp t,.own l e=>if l=j/\t≠d/\(g.at t).1=[]then let f:=E.app e b.1 (c.P.cellsOf j);some {d:=[(d,[],.own l f),(t,[],.no)],ps:=[d,t],rb:=[d,t],fz:=b.2,es:=[f]}else none
    |_,.ref p=>(ownOf g p).bind λx=>if x.1=j/\p≠d then let f:=E.app x.2 b.1 (c.P.cellsOf j);some {d:=[(d,[],.own x.1 f),(p,[],.no)],ps:=[d,p],rb:=[d,p],fz:=b.2,es:=[f]}else none
    |_,.refm p i=>(memOf g p).bind λo=>match o[i]? with
     |some (.own l,e)=>if l=j/\p≠d then let f:=E.app e b.1 (c.P.cellsOf j);(Ud g p i [(.dead,.c (.sl []))]).map λk=> {d:=[(d,[],.own l f),(p,[],k)],ps:=[d,p],rb:=[d],fz:=b.2,es:=[f]}else none
     |_=>none
    |_,_=>none
  else none
 |_=>none
def Aa(c:Ctx)(g:Gam)(d:Nat)(T:TypeId)(x:Operand):Option MS:=
 match x,Yt g [] x with
 |.tmp t,.own j e=>if t≠d/\(g.at t).1=[]then some {d:=[(d,[],.mem [(.own j,e)]),(t,[],.no)],ps:=[d,t],rb:=[d,t],fz:=[],es:=[]}else none
 |.tmp t,.ags f=>if t≠d/\(g.at t).1=[]then some {d:=[(d,[],.mem f),(t,[],.no)],ps:=[d,t],rb:=[d,t],fz:=[],es:=[]}else none
 |_,_=>none
def A4(g:Gam)(x:Operand):Option (Nat×Option Nat×TypeId×E):=
 match x,Yt g [] x with
 |.tmp t,.own d e=>if(g.at t).1=[]then some (t,none,d,e)else none
 |_,.ref p=>(ownOf g p).map λy=>(p,none,y.1,y.2)
 |_,.refm p i=>(memOf g p).bind λf=>match f[i]? with
  |some (.own d,e)=>some (p,some i,d,e)
  |_=>none
 |_,_=>none
def IQ(g:Gam)(p:Nat)(i:Option Nat)(ty:TypeId)(e:E):Option TK:=
 match i with
 |none=>some (.own ty e)
 |some i=>Ud g p i [(.own ty,e)]
def zq(g:Gam)(T:TypeId)(m:Operand)(f:E->E):Option MS:=
 (A4 g m).bind λx=>if x.2.2.1=T then(IQ g x.1 x.2.1 T (f x.2.2.2)).map λk=> {d:=[(x.1,[],k)],ps:=[x.1],rb:=[],fz:=[],es:=[f x.2.2.2]}else none
def Ae(c:Ctx)(g:Gam)(T:TypeId)(m k v:Operand):Option MS:=
 match c.P.underlying T with
 |some (.map f _)=>(zc c.P f).bind λd=>(YC g [] k).bind λb=>(YC g [] v).bind λa=>if !a.2.isEmpty then none else zq g T m λe=>.mput d e b.1 a.1
 |_=>none
def Ac(c:Ctx)(g:Gam)(T:TypeId)(m:Operand):Option MS:=if jL c.P T then zq g T m .mclr else none
def mk(c:Ctx)(g:Gam)(o:Oper):Option MS:=
 match o.op,o.dst with
 |.assign x,some d=>zn c g o.type d x
 |.move x,some d=>zn c g o.type d x
 |.store T a x,none=>Gk c g T a x
 |.build T parts,some d=>Ab c g d T parts.toList
 |.box T x,some d=>Aa c g d T x
 |.mapUpdate T m k v,none=>Ae c g T m k v
 | .call {callee:=.builtin .clear,args,argTypes},none=>match args.toList,argTypes.toList with
   | [x],[T]=>Ac c g T x
   |_,_=>none
 | .call {callee:=.builtin .append,args,argTypes},some d=>match args.toList,argTypes.toList with
   | [x,y],[T,U]=>A9 c g d T U x y
   |_,_=>none
 |_,_=>none
def Lo(c:Ctx)(ops:Array Oper)(g:Gam)(o:Oper):Option ZC:=
 match o.guard with
 |none=>some []
 |some (j,d)=>((ops[j]?).bind (·.dst)).bind λt=>match g.at t with
  |(C,.val (.s u) [])=>if u=c.ix t then some (C++[(t,d)])else none
  |_=>none
def ZI(c:Ctx)(C:ZC):ZC:=C.map λx=>(c.ix x.1,x.2)
def Bh(c:Ctx)(g:Gam)(C:ZC)(x a b:Operand):PK:=
 match x,Yt g C x with
 | .tmp t,.val (.s u) []=>if u≠c.ix t then none else(YC g (C++[(t,true)]) a).bind λy=>(YC g (C++[(t,false)]) b).map λz=>
   let e:=E.ite (.s (c.ix t)) y.1 z.1
   (.val e (y.2++z.2),[e])
 |_,_=>none
def qF(g:Gam)(C:ZC)(o:Oper):Option (FN×List Nat×List Operand×List TypeId):=
 match o.op with
 |.call {callee:=.value (.func f),args,argTypes}=>some (.id f,[],args.toList,argTypes.toList)
 | .call {callee:=.value (.tmp t),args,argTypes}=>match Yt g C (.tmp t)with
   |.val e d=>some (.e e,d,args.toList,argTypes.toList)
   |_=>none
 |_=>none
def Z4s(g:Gam)(t:Nat):Bool:=
 match(g.at t).2 with
 |.own .. |.mem _=>true
 |_=>false
def FM:TK->List Nat
 |.ref p|.refm p _|.pm p _|.pe p _ _ _ _|.pa p _ _ _ _=>[p]
 |.val _ f|.pc _ _ f|.big _ f=>f
 |.clo _ d=>d
 |_=>[]
def Z1h(ops:Array Oper)(o:Oper):List Nat:=
 match o.guard with
 |none=>[]
 |some (j,_)=>((ops[j]?).bind (·.dst)).toList
def Uw(ops:Array Oper)(g:Gam)(o:Oper):List Nat:=
 let d:=(o.op.operands.toList.filterMap λx=>match x with|.tmp t=>some t|_=>none)++Z1h ops o++o.dst.toList
 let f:=d++d.flatMap λt=>FM (g.at t).2
 f++f.flatMap λt=>FM (g.at t).2
def only(g:Gam)(R:List Nat):Gam:=R.map λt=>(t,g.at t)
def Qt(c:Ctx):FN->Bool
 |.id f=>c.fresh f
 |.e _=>false
def C6(c:Ctx)(g:Gam)(C:ZC)(ty:TypeId)(d:Nat)(f:FN)(sh:List Nat)(args:List Operand)(ts:List TypeId):Option OS:=
 if !(g.at d).2.isNo then none else(Jj c.P g C args ts).map λaq_=>
  let fl:=(!(aq_.2.1++sh).isEmpty||aq_.2.2)&& !Qt c f&&XF c.P ty
  {d:=[(d,C,if aq_.2.2&& !(fl||Qt c f)then .big (.s (c.ix d)) (aq_.2.1++sh)else .val (.s (c.ix d)) (if fl||Qt c f then []else aq_.2.1++sh))],ps:=[d],rb:=[d],fz:=[],efs:=[.call (c.ix d) (ZI c C) f (Qt c f) fl aq_.1],chks:=[]}
inductive AP where
 |op (x:Operand) (ty:TypeId)
 |cap (p:Nat)
 deriving Inhabited
def TF(P:Program):CK->CK->Bool
 |.own a,.own b=>a==b
 |.nil,.own a=>decide (0<P.cellsOf a)
 |.nil,.nil|.nil,.fz|.fz,.fz|.own _,.fz=>true
 |_,.dead=>true
 |_,_=>false
def QB(P:Program):List CK->List CK->Bool
 | [],[]=>true
 |a::l,b::r=>TF P a b&&QB P l r
 |_,_=>false
def QN(P:Program):List CK->List CK->Bool
 | [],[]=>true
 |a::l,b::r=>(a==b||(match a,b with|.nil,.own d=>decide (0<P.cellsOf d)|.nil,.fz=>true|_,_=>false))&&QN P l r
 |_,_=>false
def C3(g:Gam)(C:ZC):AP->Option Nat
 |.cap p=>some p
 | .op (.tmp t) _=>match Yt g C (.tmp t)with
   |.mem _=>some t
   |.pm p 0=>some p
   |_=>none
 |_=>none
def MY(g:Gam)(C:ZC):AP->Option Nat
 | .op (.tmp t) _=>match Yt g C (.tmp t)with
   |.own _ _=>some t
   |.ref p=>some p
   |_=>none
 |_=>none
def SI(c:Ctx)(g:Gam)(C:ZC)(k:OT)(x:AP):Option (E×Option Nat):=
 match k with
 | .fz=>match x with
   |.op x f=>(YC g C x).bind λj=>let a:=XE (XF c.P f) j;if a.2.isEmpty then some (a.1,none)else none
   |.cap _=>none
 | .mem l=>(C3 g C x).bind λp=>(memOf g p).bind λd=>
   if !Wl d&&QN c.P (d.map (·.1)) l then some (.ag (d.map (·.2)),some p)else none
 |.own f=>(MY g C x).bind λp=>(ownOf g p).bind λy=>if y.1=f then some (y.2,some p)else none
 |_=>none
def UB(c:Ctx)(g:Gam)(C:ZC):List OT->List AP->Option (List (E×Option Nat))
 | [],[]=>some []
 |k::d,x::l=>(SI c g C k x).bind λa=>(UB c g C d l).map (a:: ·)
 |_,_=>none
def JY(i q:Nat):OT->TK
 |.mem l=>.mem (l.zipIdx.map λx=>(x.1,.fld (.ext (.s i) q) x.2))
 |.own d=>.own d (.ext (.s i) q)
 |_=>.no
def XH(i:Nat):Nat->List OT->List (E×Option Nat)->Gam
 |q,k::d,(_,some p)::l=>(p,[],JY i q k)::XH i (q+1) d l
 |q,_::d,(_,none)::l=>XH i q d l
 |_,_,_=>[]
def C7(c:Ctx)(g all:Gam)(C:ZC)(d:Nat)(fn:FN)(ks:List OT)(f:List AP):Option OS:=
 if !(g.at d).2.isNo then none else(UB c g C ks f).bind λaq_=>
  let ps:=aq_.filterMap (·.2)
  if !TM ps||ps.contains d then none else
  some {d:=(d,C,.val (if ps.isEmpty then .s (c.ix d)else .ext (.s (c.ix d)) 0) [])::XH (c.ix d) 1 ks aq_++W8 (d::ps) [d] [] all,ps:=d::ps,rb:=[d],fz:=[],
        efs:=[.callm (c.ix d) (ZI c C) fn ks (aq_.map (·.1))],chks:=[]}
def V8(args:List Operand)(ts:List TypeId):List AP:=
 match args,ts with
 |x::l,t::r=>.op x t::V8 l r
 |x::l,[]=>.op x 0::V8 l []
 | [],_=>[]
def qE(c:Ctx)(g:Gam)(C:ZC)(o:Oper):Option (FN×List OT×List AP):=
 match o.op with
 |.call {callee:=.value (.func f),args,argTypes}=>(c.sig f).map λj=>(.id f,j,V8 args.toList argTypes.toList)
 | .call {callee:=.value (.tmp t),args,argTypes}=>match Yt g C (.tmp t)with
   |.clo f d=>(c.sig f).map λj=>(.id f,j,V8 args.toList argTypes.toList++d.map .cap)
   |.val e _=>(c.sig (1000000+argTypes.toList.headD 0)).map λj=>(.e e,j,V8 args.toList argTypes.toList)
   |_=>none
 |_=>none
def Z0w(g:Gam)(o:Oper):Bool:=match o.dst with|some d=>Z4s g d|none=>true
def Z0v(g:Gam)(o:Oper):Bool:=match o.dst with|some d=> !(g.at d).2.isNo|none=>true
def DU(o:Oper)(ps:List Nat):Bool:=match o.dst with|some d=>ps.contains d|none=>true
def DT(c:Ctx)(o:Oper):Bool:=match o.dst with|some d=> !decide (d<c.n)|none=>false
def Bg(c:Ctx)(g:Gam)(C:ZC)(o:Oper):PK:=
 match o.op with
 |.pick x a b=>Bh c g C x a b
 |.assign _=>if Z0w g o then none else pk c g C o
 |.move _=>if Z0v g o then none else pk c g C o
 |_=>pk c g C o
def Ca(c:Ctx)(f:List Nat)(g:Gam)(C:ZC)(d:Nat)(k:TK)(es:List E):Option OS:=
 if f.contains d then
  match k with
  |.val e []=>if !(g.at d).2.isNo then none else some {d:=[(d,C,.val (.s (c.ix d)) [])],ps:=[d],rb:=[d],fz:=[],efs:=[.lt (c.ix d) (ZI c C) e],chks:=es.map λe=>(ZI c C,e)}
  |_=>none
 else if Ui d k||leads d k then none else some {d:=[(d,C,k)],ps:=[d],rb:=[d],fz:=[],efs:=[],chks:=es.map λe=>(ZI c C,e)}
def C9(g all:Gam)(m:MS):OS:= {d:=m.d++W8 m.ps m.rb m.fz all++VT m.fz g,ps:=m.ps,rb:=m.rb,fz:=m.fz,efs:=[],chks:=m.es.map λe=>([],e)}
def RW(c:Ctx)(j:List Nat)(ops:Array Oper)(all:Gam)(o:Oper):Option OS:=
 let g:=only all (Uw ops all o)
 if DT c o then none else
 (Lo c ops g o).bind λC=>
 match qE c g C o,o.dst with
 |some (fn,q,l),some d=>C7 c g all C d fn q l
 |some _,none=>none
 |none,_=>
 match qF g C o,o.dst with
 |some (f,r,args,t),some d=>C6 c g C o.type d f r args t
 |some _,none=>none
 |none,_=>match Bg c g C o,o.dst with
  |some (k,n),some d=>Ca c j g C d k n
  |_,_=>if o.guard.isSome then none else(mk c g o).bind λm=>if m.ps.all (λp=>(ZS m.d).contains p)&&m.rb.all (λp=>m.ps.contains p)&&DU o m.ps then some (C9 g all m)else none
def Z4q(ops:Array Oper):List Nat:=
 ops.toList.filterMap λo=>match o.op,o.dst with
  |.assign (.tmp t),some _=>some t
  |.store _ _ (.tmp t),_=>some t
  |.call {callee:=.builtin .append,args, .. },_=>match args.toList with|.tmp t::_=>some t|_=>none
  |_,_=>none
def H6(ops:Array Oper):List Nat:=
 let l:=Z4q ops
 l++ops.toList.flatMap λo=>match o.op,o.dst with
  |.build _ parts,some d=>if l.contains d then parts.toList.filterMap λx=>match x.2 with|.tmp t=>some t|_=>none else []
  |_,_=>[]
def ze(ops:Array Oper):List Nat:=
 ops.toList.filterMap λo=>match o.guard with
  |some (j,_)=>(ops[j]?).bind (·.dst)
  |none=>none
structure XS where
 os:OS
 R:List Nat
 T:List Nat
 deriving Inhabited
def D1(xs:List XS)(e:Nat):List Nat:=match xs[e]? with|some x=>x.T|none=>[]
def Sj(o:Oper):List Nat:=(o.after.toList.filter λe=>Region.binds .any e).map (·.on)
def J9(d:Bool)(xs:List XS)(o:Oper):List Nat:=
 if d then(List.range xs.length).filter λj=>(Sj o).any λe=>e==j||(D1 xs e).contains j
 else List.range xs.length
def J3(c:Ctx)(f:Bool)(j:List Nat)(ops:Array Oper):List Oper->Gam->List XS->Option (Gam×List XS)
 | [],g,k=>some (g,k)
 |o::l,g,k=>if f&& !(Sj o).all (λe=>decide (e<k.length))then none else(RW c j ops g o).bind λos=>J3 c f j ops l (os.d++g) (k++[{os,R:=Uw ops g o,T:=J9 f k o}])
def Kq(f:OS)(g:Gam):Bool:=g.all λx=>(ZS f.d).contains x.1||Vb f.ps f.rb f.fz x.2.2
def qs(a b:List Nat):Bool:=a.all λt=> !b.contains t
def zJ(x:XS)(i:Nat)(y:XS)(j:Nat):Bool:=
 j==i||((y.T.contains i||Kq x.os y.os.d)&&(x.T.contains j||y.T.contains i||(qs (ZS y.os.d) (ZS x.os.d)&&qs (ZS y.os.d) x.R)))
def Av(g0:Gam)(xs:List XS):Bool:=
 xs.zipIdx.all λx=>(x.1.os.ps.all λp=>(ZS x.1.os.d).contains p)&&(x.1.os.fz.all λp=>(ZS x.1.os.d).contains p)&&Kq x.1.os g0&&
  (x.1.T.all λj=>j<x.2)&&xs.zipIdx.all λy=>zJ x.1 x.2 y.1 y.2
abbrev SS:=List (Nat×OT)
def Qk(c:Ctx)(t:Nat):OT->TK
 |.fz=>.val (.s (c.ix t)) []
 |.own j=>.own j (.s (c.ix t))
 |.nil=>.nil
 |.mem l=>.mem (l.zipIdx.map λx=>(x.1,.m (c.ix t) x.2))
 |.clo f d=>.clo f d
def Yq(c:Ctx)(S:SS):Gam:=S.map λx=>(x.1,[],Qk c x.1 x.2)
def WE:TK->Option OT
 |.val _ _=>some .fz
 |.own k _=>some (.own k)
 |.nil=>some .nil
 |.mem j=>some (.mem (j.map (·.1)))
 |.clo f d=>some (.clo f d)
 |_=>none
def Ve(keep:List Nat)(g:Gam):List Nat:=keep.flatMap λt=>match g.at t with
 |([],.val _ d)=>d
 |_=>[]
def Vj:TK->OV
 |.val e _=>.v e
 |.own _ e=>.v e
 |.nil=>.v (.c (.sl []))
 |.mem d=>.m (d.map (·.2))
 |_=>.no
def S3(i:Nat):OV->Bool
 |.v (.s j)=>i==j
 |.m l=>(l.zipIdx.all λx=>match x.1 with|.m j k=>i==j&&k==x.2|_=>false)
 |_=>false
def SG(keep:List Nat)(g:Gam):SS:=keep.filterMap λt=>if(g.at t).1.isEmpty then(WE (g.at t).2).map λk=>(t,k)else none
def SS.at(S:SS)(t:Nat):Option OT:=
 match S with
 | []=>none
 |(u,x)::r=>if u=t then some x else SS.at r t
def Ta(c:Ctx)(S:SS)(g:Gam)(t:Nat):Option (Nat×OV):=
 let o:=if(g.at t).1.isEmpty then Vj (g.at t).2 else .no
 if S3 (c.ix t) o then none
 else match S.at t,(g.at t).2 with
  |some .nil,.nil=>none
  |none,.no=>none
  |_,_=>some (c.ix t,o)
def H2(c:Ctx)(S:SS)(keep:List Nat)(g:Gam):List (Nat×OV):=keep.filterMap (Ta c S g)
def DV:EF->List (ZC×E)
 |.lt _ C e=>[(C,e)]
 |.call _ C f _ _ aq_=>(f.es++aq_).map λe=>(C,e)
 |.callm _ C f _ aq_=>(f.es++aq_).map λe=>(C,e)
def zP:OV->List E
 |.v e=>[e]
 |.m l=>l
 |.no=>[]
def DR(l:List (ZC×E))(x:ZC×E):Bool:=l.any λy=>R5 y.1 x.1&&E.has x.2 y.2
def ye:List (ZC×E)->List (ZC×E)->List (ZC×E)
 |_,[]=>[]
 |l,x::r=>let q:=ye l r;if DR (l++q) x then q else x::q
def UR:EF->Nat
 |.lt i _ _=>i
 |.call i _ _ _ _ _=>i
 |.callm i _ _ _ _=>i
mutual
def E.asks(t:Nat):E->Bool
 |.s u=>t==u
 |.m u _=>t==u
 |.mm u _ _=>t==u
 |.bin _ a b|.eqv _ a b|.mn a b|.mx a b=>E.asks t a||E.asks t b
 |.idx a b _|.ai a b _ _ _|.slcl a b _|.app a b _=>E.asks t a||E.asks t b
 |.lk _ a b _ _=>E.asks t a||E.asks t b
 |.mput _ a b d=>E.asks t a||E.asks t b||E.asks t d
 |.mlen a|.mclr a=>E.asks t a
 |.un _ a|.conv _ a|.len a|.ext a _|.fld a _|.flds a _ _|.mk _ a|.star a|.isag a|.one a|.sz a _|.fl a|.fls a=>E.asks t a
 |.slc a b d _|.upd a b _ d|.aput a b _ _ d|.ite a b d=>E.asks t a||E.asks t b||E.asks t d
 |.lit l|.ag l|.pt _ l=>E.asksIn t l
 |.c _=>false
def E.asksIn(t:Nat):List E->Bool
 | []=>false
 |a::l=>E.asks t a||E.asksIn t l
end
def XD(t:Nat):EF->Bool
 |.lt _ C e=>C.any (λx=>x.1==t)||E.asks t e
 |.call _ C f _ _ aq_=>C.any (λx=>x.1==t)||E.asksIn t (f.es++aq_)
 |.callm _ C f _ aq_=>C.any (λx=>x.1==t)||E.asksIn t (f.es++aq_)
def zH:List EF->Bool
 | []=>true
 |x::l=> !XD (UR x) x&&l.all (λy=>UR y !=UR x&& !XD (UR y) x)&&zH l
def Z0Q(fix:List Nat)(ops:Array Oper):Bool:=ops.toList.all λo=>match o.dst with
 |some d=> !fix.contains d
 |none=>true
def qN(P:Program)(ix:Nat->Nat)(fresh:FuncId->Bool)(sig:FuncId->Option (List OT))(tr fix:List Nat)(n:Nat)(keep:List Nat)(f:Bool)(ops:Array Oper)(S:SS):Option (Reg×SS):=
 let j:=H6 ops
 let c:= {P,ix,own:=λt=>j.contains t,fresh,sig,tr,n}
 let g0:=Yq c S
 (J3 c f (ze ops) ops ops.toList g0 []).bind λr=>
  let k:=Ve keep r.1
  let g:=frz k r.1
  let outs:=H2 c S keep g
  let efs:=r.2.flatMap λx=>x.os.efs
  let chks:=r.2.flatMap λx=>x.os.chks
  let d:=(efs.flatMap DV)++(outs.flatMap λx=>(zP x.2).map λe=>(([]:ZC),e))
  if Z0Q fix ops&&Av g0 r.2&&zH efs&&(efs.all λx=>S.all λy=>c.ix y.1 !=UR x)then
   some ({efs,chks:=ye d chks,outs},SG keep g)
  else none
end Vm
namespace Vm
open Go
inductive Stm where
 |reg (r:Reg)
 |skip
 |seq (a b:Stm)
 |cond (c:E) (a b:Stm)
 |block (id:Nat) (a:Stm)
 |loop (keep:List Nat) (a:Stm)
 |exit (id:Nat)
 |ret
 deriving Inhabited
def Bu(ops:Array Oper):List Oper->List Nat->List Nat
 | [],_=>[]
 |o::l,seen=>
  (o.op.operands.toList.filterMap λx=>match x with|.tmp t=>if seen.contains t then none else some t|_=>none)++
  Bu ops l (match o.dst with|some d=>d::seen|none=>seen)
def H5(ops:Array Oper):List Nat:=
 ops.toList.filterMap λo=>match o.dst,o.op with
  |some d,.assign _|some d,.alloc _|some d,.box _ _=>some d
  |_,_=>none
def FQ(ops:Array Oper):List Nat:=
 ops.toList.filterMap λo=>match o.dst,o.op with
  |some d,.call {callee:=.value _, .. }=>some d
  |some d,_=>if(ze ops).contains d then some d else none
  |none,_=>none
def Uq(f:Array Oper->List Nat):Code->List Nat
 |.region _ d _=>f d
 |.seq a b=>Uq f a++Uq f b
 |.cond (.tmp t) a b=>t::Uq f a++Uq f b
 |.cond _ a b=>Uq f a++Uq f b
 |.block _ a|.loop a|.scope a=>Uq f a
 |_=>[]
def Jt:List Nat->List Nat->List Nat
 |d,[]=>d.reverse
 |d,t::l=>Jt (if d.contains t then d else t::d) l
def pos:List Nat->Nat->Nat
 | [],_=>0
 |u::l,t=>if u=t then 0 else pos l t+1
def T4(P:Program):OT->OT->Bool
 |.own a,.own b=>a==b
 |.nil,.own a=>decide (0<P.cellsOf a)
 |.nil,.nil|.nil,.fz|.fz,.fz|.own _,.fz=>true
 |.mem a,.mem b=>QB P a b
 |.clo f a,.clo g b=>f==g&&a==b
 |_,_=>false
def TG(P:Program)(S R:SS):Bool:=R.all λx=>match S.at x.1 with|some k=>T4 P k x.2|none=>false
def Ro(P:Program)(S:Option SS)(R:Option SS):Bool:=match S,R with|none,_=>true|some S,some R=>TG P S R|some _,none=>false
def Z3c(P:Program):CK->CK->CK
 |a,b=>if TF P a b then b else if TF P b a then a else match a,b with|.dead,_|_,.dead=>.dead|_,_=>.fz
def Z3d(P:Program):OT->OT->Option OT
 |.mem a,.mem b=>if a.length=b.length then some (.mem ((a.zip b).map λx=>Z3c P x.1 x.2))else none
 |.mem _,_|_,.mem _=>none
 |a,b=>if T4 P a b then some b else if T4 P b a then some a else some .fz
def Gf(P:Program)(S R:SS):SS:=S.filterMap λx=>(R.at x.1).bind λk=>(Z3d P x.2 k).map λk=>(x.1,k)
def zl(P:Program):Option SS->Option SS->Option SS
 |none,b=>b
 |a,none=>a
 |some a,some b=>some (Gf P a b)
def A8(P:Program):List SS->Option SS
 | []=>none
 |S::l=>zl P (some S) (A8 P l)
structure Flow where
 n:Option SS
 x:List (Nat×SS)
 r:List SS
structure FC where
 P:Program
 ix:Nat->Nat
 fresh:FuncId->Bool
 sig:FuncId->Option (List OT)
 tr:List Nat
 fix:List Nat
 n:Nat
 keep:List Nat
def Z12(S:SS):SS:=S.map λx=>(x.1,match x.2 with|.mem l=>.mem (l.map λk=>match k with|.own _=>.fz|k=>k)|k=>k)
def jr(P:Program)(f:SS->Option (Stm×Flow)):Nat->SS->Option SS
 |0,S=>some S
 |k+1,S=>match f S with
  |none=>jr P f k (Z12 S)
  |some x=>match x.2.n with
  |none=>some S
  |some R=>if TG P R S then some S else jr P f k (Gf P S R)
def comp(c:FC):Code->SS->Option (Stm×Flow)
 |.skip,S|.label _,S=>some (.skip,⟨some S,[],[]⟩)
 |.region _ f d,S=>(qN c.P c.ix c.fresh c.sig c.tr c.fix c.n c.keep d f S).map λx=>(.reg x.1,⟨some x.2,[],[]⟩)
 | .seq a b,S=>(comp c a S).bind λx=>match x.2.n with
   |none=>some x
   |some R=>(comp c b R).map λy=>(.seq x.1 y.1,⟨y.2.n,x.2.x++y.2.x,x.2.r++y.2.r⟩)
 | .cond (.tmp t) a b,S=>if S.at t=some .fz then(comp c a S).bind λx=>(comp c b S).bind λy=>
   let M:=zl c.P x.2.n y.2.n
   if Ro c.P x.2.n M&&Ro c.P y.2.n M then some (.cond (.s (c.ix t)) x.1 y.1,⟨M,x.2.x++y.2.x,x.2.r++y.2.r⟩)else none else none
 | .block id a,S=>(comp c a S).bind λx=>
   let M:=zl c.P x.2.n (A8 c.P ((x.2.x.filter λy=>y.1==id).map (·.2)))
   if Ro c.P x.2.n M&&x.2.x.all (λy=>y.1 !=id||Ro c.P (some y.2) M)then
    some (.block id x.1,⟨M,x.2.x.filter λy=>y.1 !=id,x.2.r⟩)else none
 | .loop a,S=>(jr c.P (comp c a) 4 S).bind λH=>(comp c a H).bind λx=>
   if TG c.P S H&&Ro c.P x.2.n (some H)then some (.loop (H.map λy=>c.ix y.1) x.1,⟨none,x.2.x,x.2.r⟩)else none
 |.exit id,S=>some (.exit id,⟨none,[(id,S)],[]⟩)
 |.scope a,S=>comp c a S
 |.ret,S=>some (.ret,⟨none,[],[S]⟩)
 |_,_=>none
inductive RK where
 |v|ag (n:Nat)|one
 deriving Inhabited
structure Fn where
 n:Nat
 keep:List Nat
 body:Stm
 res:List (Nat×RK)
 deriving Inhabited
def Kx(P:Program)(d:Nat->Nat)(f:Func):List (Nat×RK):=
 f.results.toList.map λr=>match r with|.tmp t=>(d t,.v)|.cell a t=>(d a,if Y5 P t then .ag (P.cellsOf t)else .one)
def SD(P:Program)(S:SS):ResultVar->Bool
 |.tmp t=>match S.at t with|some (.mem _)|some (.clo _ _)|none=>false|_=>true
 |.cell t d=>match S.at t with|some (.mem l)=>X4 P d&&l.all (λk=>k !=.dead)&&(if Y5 P d then l.length==P.cellsOf d else decide (0<l.length))|_=>false
def TQ(ks:List OT):SS:=ks.zipIdx.filterMap λx=>match x.1 with
 |.fz=>none
 |k=>some (x.2,k)
def SL:ResultVar->Nat
 |.tmp t=>t
 |.cell t _=>t
def SB(P:Program)(f:Func)(fin:SS)(S:SS):Bool:=f.results.toList.all (SD P S)&&TG P S fin
def Mh(f:Func)(fin:SS):Bool:=f.results.toList.all λr=>(fin.at (SL r)).isNone
def Z45(P:Program)(f:Func)(fin:SS):Option SS->Bool
 |some R=>SB P f fin R
 |none=>true
def GO(P:Program)(d:Nat->Nat)(f:Func)(ks:List OT)(fin:SS)(fl:Flow):Bool:=
 Z45 P f fin fl.n&&fl.r.all (SB P f fin)&&fl.x.isEmpty&&(List.range ks.length).all (λt=>d t==t)
def Rb(ks:List OT):List Nat:=(TQ ks).map (·.1)
def KU(f:Func):List Nat:=f.results.toList.filterMap λr=>match r with
 |.tmp t=>some t
 |_=>none
def ZH(P:Program)(fresh:FuncId->Bool)(sig:FuncId->Option (List OT))(ks:List OT)(fin:SS)(f:Func):Option Fn:=
 f.body.bind λcode=>
  let keep:=Jt [] ((List.range ks.length)++Uq (λd=>H5 d++Bu d d.toList []) code)
  let ix:=pos (keep++Jt [] ((Uq FQ code).filter λt=> !keep.contains t))
  let S:=ks.zipIdx.map λx=>(x.2,x.1)
  (comp {P,ix,fresh,sig,tr:=KU f,fix:=Rb ks,n:=f.ntmps,keep} code S).bind λx=>
   if GO P ix f ks fin x.2 then
    some {n:=keep.length,keep,body:=x.1,res:=Kx P ix f}
   else none
end Vm
namespace Vm
open Go
structure GH where
 F:Nat->Prop
 bl:Nat->Nat->Option Nat
 K:Nat->Prop
structure Ok (B:Nat) (G:Nat->Prop) (w:World) (h:GH):Prop where
 base:B<=w.heap.size
 f_lt:∀b,h.F b->b<w.heap.size
 f_or:∀b,h.F b->G b\/B<=b
 g_F:∀b,G b->h.F b
 b_lt:∀t i b,h.bl t i=some b->B<=b/\b<w.heap.size/\¬h.F b
 inj:∀t i u j b,h.bl t i=some b->h.bl u j=some b->t=u/\i=j
 k_lt:∀b,h.K b->b<w.heap.size
 k_bl:∀t i b,h.bl t i=some b->¬h.K b
 k_F:∀b,h.F b->G b\/¬h.K b
def GH.exb(h:GH)(big:Bool)(sh:List Nat)(b:Nat):Prop:=h.F b\/∃p∈sh,∃i,(big=true\/0<i)/\h.bl p i=some b
def GH.ext(h:GH)(sh:List Nat)(b:Nat):Prop:=h.F b\/∃p∈sh,∃i,h.bl p (i+1)=some b
def GH.ext_F{h:GH}{sh b}(d:h.F b):h.ext sh b:=.inl d
def GH.ext_nil{h:GH}{b}(d:h.ext [] b):h.F b:=by
 obtain d|⟨p,f,_⟩:=d
 ·exact d
 grind
def GH.ext_left{h:GH}{sh r b}(d:h.ext sh b):h.ext (sh++r) b:=by
 obtain d|⟨p,f,x⟩:=d
 ·exact .inl d
 ·exact .inr ⟨p,by simp[f],x⟩
def GH.ext_right{h:GH}{sh r b}(d:h.ext r b):h.ext (sh++r) b:=by
 obtain d|⟨p,f,x⟩:=d
 ·exact .inl d
 ·exact .inr ⟨p,by simp[f],x⟩
def Ow(P:Program)(B:Nat)(w:World)(h:GH)(o:Option Nat)(ty:TypeId)(x:V)(v:Value):Prop:=
 ∃l d,x=.sl l/\0<P.cellsOf ty/\(∀y∈l,y.fits (P.cellsOf ty))/\w.ownsRow B ty (P.cellsOf ty) v l.length d/\v.ownBlock=o/\
  ∀(i:Nat) c,(flat l)[i]?=some c->∃u,d[i]?=some u/\Rd w h.F c u
def Ox(B:Nat)(w:World)(h:GH)(o:Option Nat)(x:V)(v:Value):Prop:=
 ∃id j k b d f,x=.mp id j k/\v=.map (some b)/\o=some b/\B<=b/\(id=0\/id=b+1)/\w.heap[b]?=some (.map d f)/\j.length=d.size/\k.length=d.size/\
  (∀i c,j[i]?=some c->Rd w h.F c (d.getD i default).key)/\∀i c,k[i]?=some c->Rd w h.F c (d.getD i default).val
def OwnV(P:Program)(B:Nat)(w:World)(h:GH)(o:Option Nat)(ty:TypeId)(x:V)(v:Value):Prop:=Ow P B w h o ty x v\/Ox B w h o x v
def SJ:Option Nat->Nat
 |none=>1
 |some i=>i+1
def RelC(P:Program)(B:Nat)(s:St)(w:World)(h:GH)(o:Option Nat)(k:CK)(e:E)(v:Value):Prop:=
 match k with
 |.fz=>∃x,eval s e=some x/\x.one=true/\Rd w h.F x v
 |.own d=>∃x,eval s e=some x/\OwnV P B w h o d x v
 |.nil=>v=.slice none 0 0/\eval s e=some (.sl [])
 |.dead=>v.oneCell'=true
def RelCs(P:Program)(B:Nat)(s:St)(w:World)(h:GH)(t:Nat)(cs:List (CK×E))(vs:Array Value):Prop:=
 vs.size=cs.length/\∀i c,cs[i]?=some c->RelC P B s w h (h.bl t (i+1)) c.1 c.2 (vs.getD i undef)
def RelK(P:Program)(B:Nat)(s:St)(w:World)(h:GH)(y:Nat->Option Value)(t:Nat)(v:Value):TK->Prop
 |.no=>True
 |.val e l=>∃x,eval s e=some x/\Rd w (h.ext l) x v
 |.own z e=>∃x,eval s e=some x/\OwnV P B w h (h.bl t 1) z x v
 |.nil=>v=.slice none 0 0
 |.mem r=>∃b vs T,h.bl t 0=some b/\v=.pointer (some ⟨b,0,none⟩)/\w.heap[b]?=some (.cells vs T (0,0))/\RelCs P B s w h t r vs
 |.ags r=>∃vs,v=.agg vs/\RelCs P B s w h t r vs
 |.ref p=>y p=some v
 |.refm p i=>∃b,h.bl p 0=some b/\w.cell? ⟨b,i,none⟩=some v
 |.pm p o=>∃b,h.bl p 0=some b/\v=.pointer (some ⟨b,o,none⟩)
 | .pc e o l=>∃x b q,∃vs:Nat->Value,eval s e=some x/\v=.pointer (some ⟨b,q+o,none⟩)/\h.ext l b/\(∀c∈x.pc,c.one=true)/\
   (∀i,i<x.pc.length->w.cell? ⟨b,q+i,none⟩=some (vs i))/\∀i c,x.pc[i]?=some c->Rd w (h.ext l) c (vs i)
 |.pe p i j o k=>∃n q,h.bl p (SJ i)=some n/\(∃u,eval s j=some (.int u (q:Nat)))/\v=.pointer (some ⟨n,q*k+o,none⟩)
 |.pa p o j n k=>∃b q,h.bl p 0=some b/\(∃u,eval s j=some (.int u (q:Nat)))/\q<n/\v=.pointer (some ⟨b,o+q*k,none⟩)
 |.big e l=>∃x,eval s e=some x/\Rd w (h.exb true l) x v
 |.clo f d=>∃vs,v=.func (.func f) #[] vs/\vs.size=d.length/\∀(i p:Nat),d[i]?=some p->∃b,h.bl p 0=some b/\vs[i]?=some (.pointer (some ⟨b,0,none⟩))
def holds(s:St)(C:ZC):Prop:=∀x∈C,get s x.1=.v (.bool x.2)
theorem Vy s:holds s []:=λ_ h=>Zd1
def js{s C D}:holds s (C++D)↔holds s C/\holds s D:=by
 unfold holds;constructor
 ·simp_all
 grind
def Z1o{s c C D}(h:R5 C D=true)(f:holds s (ZI c D)):holds s (ZI c C):=by
 intro x d;simp only[ZI,ZdB]at d;obtain⟨y,j,rfl⟩:=d;refine f (c.ix y.1,y.2) ?_;simp only[R5,Zdu]at h;simp only[ZI,ZdB]
 grind
structure RelG (c:Ctx) (B:Nat) (G:Nat->Prop) (s:St) (a:Act) (w:World) (h:GH) (g:Gam):Prop where
 ok:Ok B G w h
 at_:∀t,holds s (ZI c (g.at t).1)->(g.at t).2.isNo=false->∃v,a.tmps[t]?=some v/\RelK c.P B s w h (λp=>a.tmps[p]?) t v (g.at t).2
 skip:∀t,¬holds s (ZI c (g.at t).1)->a.tmps.getD t undef=undef
theorem Act.eval_tmp(a:Act)(t:Nat)v(h:a.tmps[t]?=some v):a.eval (.tmp t)=v:=by
 simp_all[Act.eval,Zdo,ZdN]
def G8{g C t k}(h:look g C t=k)(d:k.isNo=false):(g.at t).2=k/\R5 (g.at t).1 C=true:=by
 grind [look,TK.isNo]
section
variable {c:Ctx}{B:Nat}{G:Nat->Prop}{s:St}{a:Act}{w:World}{h:GH}{g:Gam}{C:ZC}
theorem RelG.look(o:RelG c B G s a w h g)(j:holds s (ZI c C)){t k}(n:look g C t=k)(l:k.isNo=false):
  ∃v,a.tmps[t]?=some v/\RelK c.P B s w h (λp=>a.tmps[p]?) t v k/\(g.at t).2=k:=by
 have⟨q,f⟩:=G8 n l;have⟨v,r,d⟩:=o.at_ t (Z1o f j) Zcq;simp_all
theorem Ll{v x}(d:WU v=some x)w G:Rd w G x v:=by
 unfold WU at d
 split at d<;>first
  |(simp at d;subst d;first|exact .int _ _|exact .bool _|exact .str _|exact .nil _ _ (Zex _)|exact .nomp|exact .nul0|exact .nul1)
  | (split at d<;>first
    | (rename_i f
       simp at d;subst d;rw[Zeo f.1,Zeo f.2];exact .fn _)
    |simp at d)
  |simp at d
theorem qJ{v x}(d:WU v=some x):x.one=true:=by
 unfold WU at d
 split at d<;>first
  |(simp at d;subst d;rfl)
  |(split at d<;>first|(simp at d;subst d;rfl)|simp at d)
  |simp at d
def OwnV.rd{P o ty x v}(W:OwnV P B w h o ty x v){G'}(r:∀b,h.F b->G' b)(O:∀b,o=some b->G' b):Rd w G' x v:=by
 obtain⟨l,Q,rfl,Y,k,p,M,A⟩|⟨id,X,Q,b,R,q,rfl,rfl,rfl,_,hid,t,y,K,z,L⟩:=W
 case inr=>exact .mp id X Q b q R hid (O b rfl) t y K (λi c f=>(z i c f).mono r) λi c f=>(L i c f).mono r
 have⟨N,S⟩:=p;obtain⟨rfl,T⟩|⟨b,cap,d,rfl,_,t,n,j,D,H⟩:=S
 ·have:=Zeb T;subst this;exact .nil _ _ (Zex _)
 ·simp only[Value.ownBlock]at M;refine .sl l b 0 cap (P.cellsOf ty) (λi=>d.getD i undef) n j (O b M.symm) k (λi f=> ?_) λi c f=> ?_
  ·rw[Ze7,ZdE w b i d ty (0,0) t];have:i<d.size:=by rw[D];exact Zdw f (Ze0 _ n)
   simp_all
  ·have⟨u,I,U⟩:=A i c f
   have J:d.getD i undef=u:=by
    rw[<-H,ZdY]at I;split at I
    ·simp_all
    ·simp at I
   rw[J];exact U.mono r
def RelC.cell{P o k e v}(d:RelC P B s w h o k e v):v.oneCell'=true:=by
 cases k with
 |fz=>have⟨x,_,f,j⟩:=d;rw[j.one_eq,f]
 |own p=>
  obtain⟨x,_,⟨l,q,_,_,_,⟨_,n⟩,_⟩|⟨_,_,_,_,_,_,_,rfl,_⟩⟩:=d
  ·obtain⟨rfl,_⟩|⟨_,_,_,rfl,_⟩:=n<;>rfl
  ·rfl
 |nil=>obtain⟨rfl,_⟩:=d;rfl
 |dead=>exact d
def RelC.rd{P o k e v}(f:RelC P B s w h o k e v)(u:k≠.dead){G'}(n:∀b,h.F b->G' b)(t:∀j,k=.own j->∀b,o=some b->G' b):
  ∃x,eval s e=some x/\x.one=true/\Rd w G' x v:=by
 cases k with
 |fz=>have⟨x,d,q,r⟩:=f;exact⟨x,d,q,r.mono n⟩
 |own j=>
  have⟨x,d,p⟩:=f;refine⟨x,d,?_,p.rd n (t j rfl)⟩;obtain⟨l,y,rfl,_⟩|⟨_,_,_,_,_,_,rfl,_⟩:=p<;>rfl
 |nil=>obtain⟨rfl,d⟩:=f;exact⟨_,d,rfl,.nil _ _ (Zex _)⟩
 |dead=>simp_all
def Us{l xs}(h:YB s l=some xs):xs.length=l.length/\∀(i:Nat) e,l[i]?=some e->∃x,xs[i]?=some x/\eval s e=some x:=by
 induction l generalizing xs with
 |nil=>simp only[YB,Zdj]at h;subst h;exact⟨rfl,λi e d=>Zde⟩
 |cons e l f=>
  simp only[YB,Zdi,Zdm]at h
  grind
def E9{l}(h:∀e∈l,∃x,eval s e=some x):∃d,YB s l=some d:=by
 induction l with
 |nil=>exact⟨[],rfl⟩
 |cons e l j=>
  have⟨x,f⟩:=h e Z1
  grind [YB]
def VR{l}(h:∀x∈l,x.one=true):flat l=l:=by
 induction l with
 |nil=>rfl
 |cons x l j=>
  rw[So,j λy f=>h y (by simp[f])];have d:=h x Z1;cases x<;>first|rfl|simp[V.one]at d
def RelCs.rd{P t cs vs}(L:RelCs P B s w h t cs vs)(S:Wl cs=false){G'}(I:∀b,h.F b->G' b)(U:Uo cs=true->∀i b,h.bl t (i+1)=some b->G' b):
  ∃x,eval s (.ag (cs.map (·.2)))=some (.agg x)/\x.length=cs.length/\Rd w G' (.agg x) (.agg vs):=by
 have⟨M,J⟩:=L
 have key:∀i k e,cs[i]?=some (k,e)->∃x,eval s e=some x/\x.one=true/\Rd w G' x (vs.getD i undef):=by
  intro i k e d;refine(J i (k,e) d).rd ?_ I ?_
  ·grind [Wl,List.any_eq_true]
  ·grind [Uo,List.any_eq_true]
 have⟨p,r⟩:=E9 (s:=s) (l:=cs.map (·.2)) (by
  intro e u;simp only[ZdB]at u;obtain⟨⟨k,R⟩,T,rfl⟩:=u
  grind [List.getElem?_of_mem])
 have⟨K,N⟩:=Us r;have q:p.length=cs.length:=by simpa using K
 have f:∀i x,p[i]?=some x->x.one=true/\Rd w G' x (vs.getD i undef):=by
  intro i x d
  have j:i<cs.length:=by
   have:=(Zdl.1 d).1;omega
  have⟨y,Q,D,H⟩:=key i cs[i].1 cs[i].2 (by simp[j]);have⟨z,A,o⟩:=N i (cs[i].2) (by simp[j]);rw[d]at A;cases A;rw[Q]at o;cases o;exact⟨D,H⟩
 have n:∀x∈p,x.one=true:=λx O=>by
  grind [List.getElem?_of_mem]
 refine⟨p,?_,q,.agg p vs Z0 n λi x d=>(f i x d).2⟩;simp_all[eval,Tn,VR]
def JV{P t b vs T cs}(l:h.bl t 0=some b)(H:w.heap[b]?=some (.cells vs T (0,0)))(n:RelCs P B s w h t cs vs)(D:Wl cs=false)
  {z} (d:eval s (.pt none (cs.map (·.2)))=some z) {G'} (A:∀b,h.F b->G' b) (q:∀i b,h.bl t i=some b->G' b):Rd w G' z (.pointer (some ⟨b,0,none⟩)):=by
 simp only[eval,Zdi]at d;have⟨I,p,d⟩:=d;simp only[Km]at d;split at d
 ·rename_i j;simp at d;subst d;have f:=λx k=>Zdu.1 j x k;have⟨x,k,K,o⟩:=n.rd D (G':=G') A (λ_ i b r=>q _ b r);simp only[eval,p,ZdD,Tn,VR f,Zdj,V.agg.injEq]at k;subst k;cases o with
  |agg _ _ J u y=>
   refine .ptr I b 0 (λi=>vs.getD i undef) (q 0 b l) u (λi r=> ?_) y;rw[Ze7,ZdE w b i vs T (0,0) H];simp_all
 ·cases d
def RelG.ownOf(k:RelG c B G s a w h g){p ty e}(j:ownOf g p=some (ty,e)):
  ∃v,a.tmps[p]?=some v/\∃x,eval s e=some x/\OwnV c.P B w h (h.bl p 1) ty x v:=by
 unfold Vm.ownOf at j;split at j
 ·rename_i n o f;simp at j;obtain⟨rfl,rfl⟩:=j;have⟨v,l,d⟩:=k.at_ p (by rw[f];exact Vy s) (by rw[f];rfl);rw[f]at d;exact⟨v,l,d⟩
 grind
def RelG.memOf(l:RelG c B G s a w h g){p cs}(j:memOf g p=some cs):
  ∃b vs T,h.bl p 0=some b/\a.tmps[p]?=some (.pointer (some ⟨b,0,none⟩))/\w.heap[b]?=some (.cells vs T (0,0))/\RelCs c.P B s w h p cs vs:=by
 unfold Vm.memOf at j;split at j
 ·rename_i k f;simp at j;subst j;have⟨v,r,d⟩:=l.at_ p (by rw[f];exact Vy s) (by rw[f];rfl);rw[f]at d;obtain⟨b,vs,T,n,rfl,o,q⟩:=d;simp_all
 grind
def IF:TK->Nat×Nat
 |.ref p=>(p,1)
 |.refm p i=>(p,i+1)
 |_=>(0,0)
def RelG.ownAt(y:RelG c B G s a w h g){k ty e}(f:ownAt g k=some (ty,e)){t v}(r:RelK c.P B s w h (λp=>a.tmps[p]?) t v k):
  ∃x,eval s e=some x/\OwnV c.P B w h (h.bl (IF k).1 (IF k).2) ty x v:=by
 cases k with
 |ref p=>
  have⟨u,I,x,J,F⟩:=y.ownOf f
  have:u=v:=by
   have q:a.tmps[p]?=some v:=r;rw[I]at q;cases q;rfl
  subst this;exact⟨x,J,F⟩
 |refm p i=>
  simp only[Vm.ownAt,Zdi]at f;have⟨M,D,f⟩:=f;have⟨b,vs,T,z,_,A,H,o⟩:=y.memOf D;have⟨L,j,d⟩:=r;rw[z]at j;cases j;rw[ZdE w b i vs T (0,0) A]at d;have l:vs.getD i undef=v:=by simp[Zdo,d]
  split at f
  ·rename_i K N n;simp at f;obtain⟨rfl,rfl⟩:=f;have:=o i _ n;rw[l]at this;exact this
  grind
 |_=>simp[Vm.ownAt]at f
def RelG.place(n:RelG c B G s a w h g){p i ty e}(f:Vm.ownAt g (RG p i)=some (ty,e)):
  ∃v x,RelK c.P B s w h (λp=>a.tmps[p]?) 0 v (RG p i)/\eval s e=some x/\OwnV c.P B w h (h.bl p (SJ i)) ty x v:=by
 cases i with
 |none=>
  have⟨u,D,x,q,k⟩:=n.ownOf f;exact⟨u,x,D,q,k⟩
 |some i=>
  have l:=f;simp only[RG,Vm.ownAt,Zdi]at f;have⟨H,A,f⟩:=f;have⟨b,vs,T,r,_,y,o,t⟩:=n.memOf A;split at f
  ·rename_i F I j;have z:i<vs.size:=by rw[o];exact(Zdl.1 j).1
   have d:RelK c.P B s w h (λp=>a.tmps[p]?) 0 (vs.getD i undef) (RG p (some i)):=
    ⟨b,r,by rw[ZdE w b i vs T (0,0) y];simp_all⟩
   have⟨x,q,k⟩:=n.ownAt l d;exact⟨_,x,d,q,k⟩
  grind
def Dq(K:RelG c B G s a w h g){k t v}(Q:a.tmps[t]?=some v)(r:RelK c.P B s w h (λp=>a.tmps[p]?) t v k){e sh}(d:W1 g k t=some (e,sh)):
  ∃x,eval s e=some x/\Rd w (h.ext sh) x v:=by
 cases k with
 |val z A=>simp only[W1,Zdj,Zdx]at d;obtain⟨rfl,rfl⟩:=d;exact r
 |own L z=>
  simp only[W1,Zdj,Zdx]at d;obtain⟨rfl,rfl⟩:=d;have⟨x,y,q⟩:=r;exact⟨x,y,q.rd (λb l=>GH.ext_F l) λb l=>.inr ⟨t,Z1,0,l⟩⟩
 |nil=>
  simp only[W1,Zdj,Zdx]at d;obtain⟨rfl,rfl⟩:=d;have:=r;subst this;exact⟨.sl [],rfl,.nil _ _ (Zex _)⟩
 |ags I=>
  simp only[W1]at d;split at d
  grind
  ·rename_i O;simp at d;obtain⟨rfl,rfl⟩:=d;obtain⟨vs,rfl,D⟩:=r;have⟨x,y,_,M⟩:=D.rd (G':=h.ext (if Uo I=true then [t]else [])) Zcp (λb l=>GH.ext_F l) (λq i b l=>by rw[if_pos q];exact .inr ⟨t,Z1,i,l⟩);simp_all
 |ref p=>
  simp only[W1,ownAt,Zdm]at d;have⟨⟨L,z⟩,F,d⟩:=d;simp at d;obtain⟨rfl,rfl⟩:=d;have⟨u,N,x,y,q⟩:=K.ownOf F
  have:u=v:=by
   have J:a.tmps[p]?=some v:=r;rw[N]at J;cases J;rfl
  subst this;exact⟨x,y,q.rd (λb l=>GH.ext_F l) λb l=>.inr ⟨p,Z1,0,l⟩⟩
 |refm p i=>
  simp only[W1,Zdm]at d;have⟨⟨L,z⟩,F,d⟩:=d;simp at d;obtain⟨rfl,rfl⟩:=d;have⟨x,y,q⟩:=K.ownAt F (show RelK c.P B s w h (λp=>a.tmps[p]?) t v (.refm p i)from r);exact⟨x,y,q.rd (λb l=>GH.ext_F l) λb l=>.inr ⟨p,Z1,i,l⟩⟩
 |no=>simp[W1]at d
 |mem I=>simp[W1]at d
 |pm p o=>simp[W1]at d
 |pc z o A=>simp[W1]at d
 |pe p i j o k=>simp[W1]at d
 |pa p o j n k=>simp[W1]at d
 |clo f H=>simp[W1]at d
 |big z A=>simp[W1]at d
end
end Vm
namespace Vm
open Go
open Go.RowKit (Below)
def TK.owning:TK->Bool
 |.own .. |.mem _|.ags _=>true
 |_=>false
structure Step (B:Nat) (ps rb fz:List Nat) (w w':World) (h h':GH):Prop where
 below:Below B w w'
 same:∀b,b<w.heap.size->(∀p∈ps,∀i,h.bl p i≠some b)->w'.heap[b]?=w.heap[b]?
 F:∀b,h.F b->h'.F b
 bl:∀t,t∉ps->t∉fz->h'.bl t=h.bl t
 fz0:∀t,t∉rb->h'.bl t 0=h.bl t 0
 fzF:∀t i b,t∉ps->t∈fz->h.bl t (i+1)=some b->h'.F b
 K:h'.K=h.K
section
variable {P:Program}{B:Nat}{G:Nat->Prop}{s:St}{w w':World}{h h':GH}{ps rb fz:List Nat}
def Step.F_same(k:Step B ps rb fz w w' h h')(d:Ok B G w h){b}(f:h.F b):w'.heap[b]?=w.heap[b]? :=
 k.same b (d.f_lt b f) λp _ i j=>(d.b_lt p i b j).2.2 f
def Step.bl_same(l:Step B ps rb fz w w' h h')(d:Ok B G w h){t i b}(n:t∉ps)(f:h.bl t i=some b):w'.heap[b]?=w.heap[b]? :=
 l.same b (d.b_lt t i b f).2.1 λp o j k=>n (by have:=(d.inj t i p j b f k).1;simp_all)
def Step.ext_same(l:Step B ps rb fz w w' h h')(d:Ok B G w h){sh}(k:∀p∈ps,p∉sh):Same (h.ext sh) w w':=by
 intro b f;obtain f|⟨p,o,i,n⟩:=f
 ·exact l.F_same d f
 ·exact l.bl_same d (λj=>k p j o) n
def Step.ext_mono(k:Step B ps rb fz w w' h h'){sh}(l:∀p∈ps,p∉sh):∀b,h.ext sh b->h'.ext sh b:=by
 intro b j;obtain j|⟨p,o,i,n⟩:=j
 ·exact .inl (k.F b j)
 ·have d:=λd=>l p d o;by_cases f:p∈fz
  ·exact .inl (k.fzF p i b d f n)
  ·exact .inr ⟨p,o,i,by rw[k.bl p d f];exact n⟩
def Step.exb_same(l:Step B ps rb fz w w' h h')(d:Ok B G w h){big sh}(k:∀p∈ps,p∉sh):Same (h.exb big sh) w w':=by
 intro b f;obtain f|⟨p,o,i,_,n⟩:=f
 ·exact l.F_same d f
 ·exact l.bl_same d (λj=>k p j o) n
def Step.exb_mono(k:Step B ps rb fz w w' h h')(q:∀t∈rb,t∈ps){big sh}(r:∀p∈ps,p∉sh):∀b,h.exb big sh b->h'.exb big sh b:=by
 intro b l;obtain l|⟨p,o,i,j,n⟩:=l
 ·exact .inl (k.F b l)
 ·have d:=λd=>r p d o;by_cases f:p∈fz
  ·cases i with
   |zero=>exact .inr ⟨p,o,0,j,by rw[k.fz0 p λu=>d (q p u)];exact n⟩
   |succ i=>exact .inl (k.fzF p i b d f n)
  ·exact .inr ⟨p,o,i,j,by rw[k.bl p d f];exact n⟩
def Z4t{e k v n xs}(f:w.ownsRow B e k v n xs)(p:∀b,v.ownBlock=some b->w'.heap[b]?=w.heap[b]?):w'.ownsRow B e k v n xs:=by
 refine⟨f.1,?_⟩;obtain q|⟨g,cap,d,rfl,j,l,o⟩:=f.2
 ·grind
 ·exact .inr ⟨g,cap,d,rfl,j,by rw[p g rfl];exact l,o⟩
def OwnV.keep{o ty x v}(K:OwnV P B w h o ty x v)(t:Same h.F w w')(d:∀b,h.F b->h'.F b)(z:∀b,o=some b->w'.heap[b]?=w.heap[b]?):OwnV P B w' h' o ty x v:=by
 obtain⟨l,y,rfl,n,p,q,j,r⟩|⟨id,L,y,b,A,k,rfl,rfl,rfl,n,hid,p,q,j,r,D⟩:=K
 case inr=>exact .inr ⟨id,L,y,b,A,k,rfl,rfl,rfl,n,hid,by rw[z b rfl];exact p,q,j,λi c f=>(r i c f).keep t d,λi c f=>(D i c f).keep t d⟩
 refine .inl ⟨l,y,rfl,n,p,Z4t q (λb H=>z b (by rw[<-j];exact H)),j,λi c f=> ?_⟩;have⟨u,J,I⟩:=r i c f;exact⟨u,J,I.keep t d⟩
def RelC.keep{o k e v}(f:RelC P B s w h o k e v)(n:Same h.F w w')(d:∀b,h.F b->h'.F b)(q:∀b,o=some b->w'.heap[b]?=w.heap[b]?):RelC P B s w' h' o k e v:=by
 cases k with
 |fz=>have⟨x,j,l,p⟩:=f;exact⟨x,j,l,p.keep n d⟩
 |own r=>have⟨x,j,l⟩:=f;exact⟨x,j,l.keep n d q⟩
 |nil=>exact f
 |dead=>exact f
def RelCs.keep{t cs vs}(j:RelCs P B s w h t cs vs)(l:Same h.F w w')(d:∀b,h.F b->h'.F b)(f:∀i,h'.bl t (i+1)=h.bl t (i+1))(p:∀i b,h.bl t (i+1)=some b->w'.heap[b]?=w.heap[b]?):RelCs P B s w' h' t cs vs:=
 ⟨j.1,λi k o=>by rw[f];exact(j.2 i k o).keep l d λb n=>p _ b n⟩
def Z05{k}(hc:Vb ps rb fz k=true):(∀p∈ps,Ui p k=false)/\(∀p∈rb,leads p k=false)/\Qx fz k=false:=by
 simp_all[Vb,Zdn,Zeh,Zge,Zgp]
def RelK.keep{tm W t v k}(H:RelK P B s w h tm t v k)(l:Step B ps rb fz w w' h h')(u:Ok B G w h)(U:∀t∈rb,t∈ps)
  (L:t∉ps) (z:t∈fz->k.owning=false) (O:Vb ps rb fz k=true) (a0:∀p,p∉ps->W p=tm p):RelK P B s w' h' W t v k:=by
 have⟨I,Q,A⟩:=Z05 O;have Y:Same h.F w w':=λb N=>l.F_same u N;cases k with
 |no=>trivial
 |val e sh=>
  have⟨x,M,r⟩:=H;have y:=λp d A=>Zd7;exact⟨x,M,r.keep (l.ext_same u y) (l.ext_mono y)⟩
 |big e sh=>
  have⟨x,M,r⟩:=H;have y:=λp d A=>Zd7;exact⟨x,M,r.keep (l.exb_same u y) (l.exb_mono U y)⟩
 |own ty e=>
  have⟨x,M,r⟩:=H;refine⟨x,M,?_⟩;have z:t∉fz:=λS=>by cases z S
  rw[l.bl t L z];exact r.keep Y l.F λb N=>l.bl_same u L N
 |nil=>exact H
 |mem cs=>
  have⟨b,vs,T,r,D,J,K⟩:=H;have z:t∉fz:=λS=>by cases z S
  exact⟨b,vs,T,by rw[l.bl t L z];exact r,D,by rw[l.bl_same u L r];exact J,K.keep Y l.F (λi=>by rw[l.bl t L z]) λi b N=>l.bl_same u L N⟩
 |ags cs=>
  have⟨vs,D,K⟩:=H;have z:t∉fz:=λS=>by cases z S
  exact⟨vs,D,K.keep Y l.F (λi=>by rw[l.bl t L z]) λi b N=>l.bl_same u L N⟩
 |ref p=>
  have d:p∉ps:=λd=>by have:=I p d;simp[Ui]at this
  exact(a0 p d).trans H
 |refm p i=>
  have d:p∉ps:=λd=>by have:=I p d;simp[Ui]at this
  have⟨b,r,D⟩:=H;exact⟨b,by rw[l.fz0 p (λhr=>d (U p hr))];exact r,by rw[Zel (w:=w) (a:=⟨b,i,none⟩) (l.bl_same u d r)];exact D⟩
 |pm p o=>
  have⟨b,r,D⟩:=H;have d:p∉rb:=λd=>by have:=Q p d;simp[leads]at this
  exact⟨b,by rw[l.fz0 p d];exact r,D⟩
 |pc e o sh=>
  have⟨x,b,q,vs,M,r,D,J,K,X⟩:=H;have y:=λp d A=>Zd7;exact⟨x,b,q,vs,M,r,l.ext_mono y b D,J,λi R=>by rw[(l.ext_same u y).cell D];exact K i R,λi ck R=>(X i ck R).keep (l.ext_same u y) (l.ext_mono y)⟩
 |pe p i j o k=>
  have d:p∉ps:=λd=>by have:=I p d;simp[Ui]at this
  have Z:=λd=>by simp[Qx]at A;exact A d
  have⟨n,q,r,D,J⟩:=H;exact⟨n,q,by rw[l.bl p d Z];exact r,D,J⟩
 |pa p o j n k=>
  have d:p∉rb:=λd=>by have:=Q p d;simp[leads]at this
  have⟨b,q,r,D,J,K⟩:=H;exact⟨b,q,by rw[l.fz0 p d];exact r,D,J,K⟩
 |clo f a1=>
  have⟨vs,r,D,J⟩:=H;refine⟨vs,r,D,λi p R=> ?_⟩;have⟨b,K,X⟩:=J i p R;have d:=λd=>by have:=Q p d;simp[leads]at this;exact this (Zdr R)
  exact⟨b,by rw[l.fz0 p d];exact K,X⟩
end
def PRes(c:Ctx)(B:Nat)(G:Nat->Prop)(s:St)(w:World)(h:GH)(f:Nat->Option Value)(d:Nat)(k:TK)(v:Value)(w':World):Prop:=
 ∃h',Step B [d] [d] [] w w' h h'/\Ok B G w' h'/\RelK c.P B s w' h' f d v k
section
variable {c:Ctx}{B:Nat}{G:Nat->Prop}{s:St}{a:Act}{w:World}{h:GH}{g:Gam}{C:ZC}
def Step.refl ps rb w h:Step B ps rb [] w w h h:=⟨ZdZ _ _,λ_ _ _=>rfl,λ_ d=>d,λ_ _ _=>rfl,λ_ _=>rfl,λ_ _ _ _ f=>(by simp at f),rfl⟩
theorem PRes.here{j d k v}(f:Ok B G w h)(l:RelK c.P B s w h j d v k):PRes c B G s w h j d k v w:=
 ⟨h,Step.refl _ _ _ _,f,l⟩
def GU(r:RelG c B G s a w h g)(n:holds s (ZI c C)){x k}(hx:Yt g C x=k)(o:k.isNo=false):
  (∃v,x=.const v)\/(∃t,x=.tmp t/\look g C t=k/\∃v,a.tmps[t]?=some v/\a.eval x=v/\RelK c.P B s w h (λp=>a.tmps[p]?) t v k)\/∃f,x=.func f/\ .val (.c (.fn f)) []=k:=by
 cases x with
 |const v=>simp
 |tmp t=>
  have j:=hx;have⟨v,l,d,_⟩:=r.look n j o;exact .inr (.inl ⟨t,rfl,j,v,l,Act.eval_tmp a t v l,d⟩)
 |global q=>grind [Yt,TK.isNo]
 |func f=>exact .inr (.inr ⟨f,rfl,hx⟩)
def WD(k:RelG c B G s a w h g)(n:holds s (ZI c C)){x e sh}(d:YC g C x=some (e,sh)):
  ∃y,eval s e=some y/\Rd w (h.ext sh) y (a.eval x):=by
 unfold YC at d;cases x with
 |tmp t=>
  simp only at d
  have o:(Yt g C (.tmp t)).isNo=false:=by
   cases r:Yt g C (.tmp t)<;>first|rfl|simp_all[W1]
  have⟨v,l,j,_⟩:=k.look n rfl o;rw[Act.eval_tmp a t v l];exact Dq k l j d
 |const v=>
  simp only[Yt]at d;split at d
  ·rename_i heq;simp at heq;subst heq;simp only[W1,Zdj,Zdx]at d;obtain⟨rfl,rfl⟩:=d;exact⟨_,rfl,.nil _ _ (Zex _)⟩
  ·rename_i heq;simp at heq;subst heq;split at d
   ·rename_i x p;simp only[W1,Zdj,Zdx]at d;obtain⟨rfl,rfl⟩:=d;exact⟨x,rfl,Ll p _ _⟩
   grind [W1]
  ·simp_all
  ·simp_all
  grind
 |global q=>grind [Yt,W1]
 |func f=>
  simp at d;obtain⟨rfl,rfl⟩:=d;exact⟨.fn f,rfl,.fn f⟩
def RE(j:RelG c B G s a w h g)(d:holds s (ZI c C)){x e sh}(f:Yt g C x=.val e sh):
  ∃y,eval s e=some y/\Rd w (h.ext sh) y (a.eval x):=WD j d (by unfold YC;rw[f];rfl)
def QQ(o:RelG c B G s a w h g)(l:holds s (ZI c C)){x}(j:Yt g C x=.nil):a.eval x=.slice none 0 0:=by
 obtain⟨v,rfl⟩|⟨t,rfl,_,v,p,k,d⟩|⟨f,_,n⟩:=GU o l j rfl;rotate_left 2
 ·cases n
 ·simp only[Yt]at j;split at j
  ·rename_i heq;simp at heq;subst heq;rfl
  ·grind
  ·simp_all
  ·simp_all
  grind
 ·rw[k];exact d
def Rd.F{x v}(hx:Rd w (h.ext []) x v):Rd w h.F x v:=hx.mono λ_ d=>GH.ext_nil d
theorem Rd.flat{G' G'' x v}(hx:Rd w G' x v)(d:x.flatc=true):Rd w G'' x v:=by
 cases hx<;>first|exact .int _ _|exact .bool _|exact .str _|simp[V.flatc]at d
def Z6g{op x y z}(d:Xk op x y=some z){G' G'' v u}(o:Rd w G' x v)(l:Rd w G'' y u)T q t:
  ∃r,(do eqGuard op T q t v u;binOp op T v u:Sem Value).run c.P w=.ok r w/\Rd w h.F z r:=by
 cases o<;>cases l<;>(try (cases op<;>simp[Xk]at d;done))
 rename_i k n A p;cases op<;>simp only[Xk]at d<;>(try split at d)<;>(try simp only[Zdj]at d)<;>(try subst d)<;>(try (simp at d;done))
 all_goals
  first|refine⟨.int _ _,?_,.int _ _⟩|refine⟨.bool _,?_,.bool _⟩
  first
   |(rename_i f;subst f;simp[eqGuard,binOp,Op.intArith,Op.intBits,Op.intCmp];done)
   |(rename_i f;obtain⟨rfl,j⟩:=f;simp[eqGuard,binOp,Op.intDiv,j];done)
   | (rename_i f;have:¬p<0:=by omega
      simp[eqGuard,binOp,Op.shift,this];done)
def MA{neg x y z}(d:Sl neg x y=some z){G' G'' v u}(l:Rd w G' x v)(k:Rd w G'' y u){T}(f:qT c.P T=true)n o:
  ∃r,(do eqGuard (if neg then .neq else .eql) T n o v u;binOp (if neg then .neq else .eql) T v u:Sem Value).run c.P w=.ok r w/\Rd w h.F z r:=by
 have j:c.P.underlying T=some .bool:=by
  unfold qT at f;split at f
  ·assumption
  ·simp at f
 cases l with
 |bool a=>
  cases k with
  |bool b=>
   simp only[Sl,Zdj]at d;subst d;refine⟨.bool _,?_,.bool _⟩;cases neg
   ·simp_all[run_eql_bool,eqGuard]
   simp_all[run_neq_bool,eqGuard]
  |_=>simp[Sl]at d
 |_=>simp[Sl]at d
def Z6r{op x z}(d:S6 op x=some z){G' v}(f:Rd w G' x v):∃r,(Op.unary op v).run c.P w=.ok r w/\Rd w h.F z r:=by
 cases f<;>(try (cases op<;>simp[S6]at d;done))
 ·rename_i k n;cases op<;>simp only[S6,Zdj]at d<;>first|(simp at d;done)|skip
  subst d;exact⟨.int _ _,Zdf,.int _ _⟩
 ·rename_i b;cases op<;>simp only[S6,Zdj]at d<;>first|(simp at d;done)|skip
  subst d;exact⟨.bool _,Zdf,.bool _⟩
def Z6h{k x z}(d:Qj k x=some z){G' v}(j:Rd w G' x v){S T}(f:(c.P.underlying S).isSome=true)(n:c.P.underlying T=some (.int k)):
  ∃r,(convert S T v).run c.P w=.ok r w/\Rd w h.F z r:=by
 have⟨l,f⟩:=Zet.1 f;cases j<;>(try (simp[Qj]at d;done))
 simp only[Qj,Zdj]at d;subst d;exact⟨.int _ _,by simp_all[convert,Ze6,Conv.intToInt],.int _ _⟩
def Z6j{x z}(d:Rr x=some z){G' v}(j:Rd w G' x v){T ty e}(f:c.P.underlying T=some (.slice e)):
  ∃r,(Builtin.len_ #[T] ty #[v]).run c.P w=.ok r w/\Rd w h.F z r:=by
 cases j with
 |nil n cap D=>
  simp only[Rr,Zdj]at d;subst d;exact⟨.int .i64 0,Zd5,.int _ _⟩
 |sl l b o cap k vs p q t u y A=>
  simp only[Rr,Zdj]at d;subst d;exact⟨.int .i64 l.length,Zd5,.int _ _⟩
 |_=>simp[Rr]at d
def Z6m{x y z}(d:Rz x y=some z){G' G'' v u}(j:Rd w G' x v)(f:Rd w G'' y u)ts ty:
  ∃r,(Builtin.min_ ts ty #[v,u]).run c.P w=.ok r w/\Rd w h.F z r:=by
 cases j<;>(try (simp[Rz]at d;done))
 cases f<;>(try (simp[Rz]at d;done))
 rename_i k n l o;simp only[Rz,Zdj]at d;subst d;exact⟨.int k _,Zdf,.int _ _⟩
def Z6k{x y z}(d:Ry x y=some z){G' G'' v u}(j:Rd w G' x v)(f:Rd w G'' y u)ts ty:
  ∃r,(Builtin.max_ ts ty #[v,u]).run c.P w=.ok r w/\Rd w h.F z r:=by
 cases j<;>(try (simp[Ry]at d;done))
 cases f<;>(try (simp[Ry]at d;done))
 rename_i k n l o;simp only[Ry,Zdj]at d;subst d;exact⟨.int k _,Zdf,.int _ _⟩
def Z6i{x z i}(d:Ts x i=some z){G' v}(n:Rd w G' x v):∃r,(Instr.extract v i).run c.P w=.ok r w/\Rd w G' z r:=by
 cases n<;>(try (simp[Ts]at d;done))
 rename_i l vs j k;simp only[Ts]at d;have f:i<vs.size:=by rw[j];exact(Zdl.1 d).1
 refine⟨vs.getD i undef,?_,k i z d⟩;simp[Instr.extract,f,Zdo]
theorem VW{P T}(f:X4 P T=true):∃d i,P.underlying T=some d/\P.info? T=some i/\P.cellsOf T=i.size/\∀w,(isAgg T).run P w=.ok (Y5 P T) w:=by
 simp only[X4,Zdn]at f;have⟨d,j⟩:=Zet.1 f.1;have⟨i,k⟩:=Zet.1 f.2;refine⟨d,i,j,k,by simp[Program.cellsOf,k],λw=> ?_⟩;unfold isAgg Y5;rw[ZdX,Ze6 j w,j];cases d<;>rfl
theorem U1{P T i}(d:P.info? T=some i)w:(Go.sizeOf T).run P w=.ok i.size w:=by
 simp[Go.sizeOf,typeInfo,d]
def KF{P T}(j:X4 P T=true)(k:Y5 P T=false){b o v}(hc:w.cell? ⟨b,o,none⟩=some v):
  (Instr.loadAt T (.pointer (some ⟨b,o,none⟩))).run P w=.ok v w:=by
 have⟨d,i,l,n,p,f⟩:=VW j;simp_all[Instr.loadAt,Instr.sureAddr,loadVar]
def yD{P T}(k:X4 P T=true)(l:Y5 P T=true){b o}(vs:List Value)(t:vs.length=P.cellsOf T)(hc:∀i u,vs[i]?=some u->w.cell? ⟨b,o+i,none⟩=some u):
  (Instr.loadAt T (.pointer (some ⟨b,o,none⟩))).run P w=.ok (.agg vs.toArray) w:=by
 have⟨d,i,n,p,x,f⟩:=VW k;have r:=run_loadCells_list (P:=P) w ⟨b,o,none⟩ vs (λj u q=>by simp_all[Zf4]);simp_all[Instr.loadAt,Instr.sureAddr,loadVar,U1]
theorem TO{x z}(h:YR x=some z):x=z/\z.one=true:=by
 unfold YR at h
 grind
def Z51{p cs}:∀ {i},UC p i cs=true->∀j x,cs[j]?=some x->x.2=E.m p (i+j):=by
 induction cs with
 |nil=>simp
 |cons y r l=>
  intro i d j x f;have⟨k,e⟩:=y;cases e<;>simp only[UC]at d<;>first|(cases d;done)|skip
  grind
theorem qW{p i cs x}(T:UC p i cs=true)(H:0<cs.length)(hx:eval s (.ag (cs.map (·.2)))=some (.agg x))(t:∀(j:Nat) e,cs[j]?=some e->∃y,eval s e.2=some y/\y.one=true):
  eval s (.mm p i cs.length)=some (.agg x):=by
 simp only[eval,Zdm]at hx;have⟨k,M,S⟩:=hx;have⟨O,d⟩:=Us M;have f:k.length=cs.length:=by simpa using O
 have J:∀j,j<cs.length->∃l,get s p=.m l/\∃y,l[i+j]?=some y/\k[j]?=some y:=by
  intro j q;have⟨y,J,o⟩:=d j (cs[j].2) (by simp[q]);rw[Z51 T j cs[j] Z1]at o;simp only[eval]at o;split at o
  ·rename_i l O;rw[Zdi]at o;have⟨X,o,n⟩:=o;obtain⟨rfl,_⟩:=TO n;simp_all
  grind
 have⟨l,D,_⟩:=J 0 H
 have K:∀j,j<cs.length->l[i+j]?=k[j]? :=by
  intro j q;have⟨W,f,y,n,A⟩:=J j q;rw[D]at f;cases f;rw[n,A]
 have Q:i+cs.length<=l.length:=by
  have n:=K (cs.length-1) Z0;have A:k[cs.length-1]?=some k[cs.length-1]:=Zdk Z0;rw[A]at n;have:=(Zdl.1 n).1;omega
 have R:(l.drop i).take cs.length=k:=by
  apply Zgf;intro j;rw[ZdY];split
  ·simp_all
  ·simp_all
 have I:∀y∈k,y.one=true:=by
  intro y L;have⟨j,q⟩:=ZdM L;have F:j<cs.length:=by have:=(Zdl.1 q).1;omega
  have⟨z,U,N⟩:=t j cs[j] Z1;have⟨Y,u,r⟩:=d j (cs[j].2) (by simp[F]);rw[q]at u;cases u;rw[U]at r;cases r;exact N
 simp_all[Tn,V.agg.injEq,VR,eval,Ze3]
def RelCs.part{P t cs vs}(j:RelCs P B s w h t cs vs){o n}(l:((cs.drop o).take n).length=n):
  ∀i f,((cs.drop o).take n)[i]?=some f->RelC P B s w h (h.bl t (o+i+1)) f.1 f.2 (vs.getD (o+i) undef)/\vs[o+i]?=some (vs.getD (o+i) undef):=by
 intro i f d;rw[ZdY]at d;split at d
 ·rw[ZdW]at d;refine⟨j.2 _ _ d,?_⟩;have k:o+i<vs.size:=by rw[j.1];exact(Zdl.1 d).1
  simp_all
 grind
def RelCs.part_rd{P t cs vs}(L:RelCs P B s w h t cs vs){o n}(D:((cs.drop o).take n).length=n)(Z:Wl ((cs.drop o).take n)=false){G'}(O:∀b,h.F b->G' b)
  (ho:Uo ((cs.drop o).take n)=true->∀i b,h.bl t (i+1)=some b->G' b):
  ∃x,eval s (.ag (((cs.drop o).take n).map (·.2)))=some (.agg x)/\x.length=n/\(∀(j:Nat) e,((cs.drop o).take n)[j]?=some e->∃y,eval s e.2=some y/\y.one=true)/\
   Rd w G' (.agg x) (.agg ((vs.toList.drop o).take n).toArray)/\∀i u,((vs.toList.drop o).take n)[i]?=some u->vs[o+i]?=some u:=by
 have S:=L.part D
 have T:((vs.toList.drop o).take n).length=n:=by
  have J:=L.1;simp at D⊢;omega
 have H:∀i,i<n->((vs.toList.drop o).take n)[i]?=vs[o+i]? :=by
  intro i d;rw[ZdY,if_pos d,ZdW,ZeE]
 have key:∀i k e,((cs.drop o).take n)[i]?=some (k,e)->∃x,eval s e=some x/\x.one=true/\Rd w G' x (vs.getD (o+i) undef):=by
  intro i k e d;refine(S i (k,e) d).1.rd ?_ O ?_
  ·grind [Wl,List.any_eq_true]
  ·grind [Uo,List.any_eq_true]
 have f:∀e∈((cs.drop o).take n).map (·.2),∃x,eval s e=some x:=by
  intro e Q;obtain⟨⟨k,Y⟩,hm,rfl⟩:=ZdB.1 Q
  grind [List.getElem?_of_mem]
 have⟨r,I⟩:=E9 f;have⟨R,U⟩:=Us I;have A:r.length=n:=by rw[R,Ze9,D]
 have K:∀i x,r[i]?=some x->x.one=true/\Rd w G' x (vs.getD (o+i) undef):=by
  intro i x d
  have l:i< ((cs.drop o).take n).length:=by
   have:=(Zdl.1 d).1;omega
  have⟨y,X,J,N⟩:=key i ((cs.drop o).take n)[i].1 ((cs.drop o).take n)[i].2 Zcp;have⟨z,M,q⟩:=U i (((cs.drop o).take n)[i].2) Zcp;rw[d]at M;cases M;rw[X]at q;cases q;exact⟨J,N⟩
 have p:∀x∈r,x.one=true:=λx W=>by
  grind [List.getElem?_of_mem]
 refine⟨r,?_,A,λj e hj=> ?_,.agg r _ Zcq p λi x d=> ?_,λi u d=> ?_⟩
 ·simp_all[eval,ZdD,Tn,VR]
 ·grind
 ·have l:i<n:=by have:=(Zdl.1 d).1;omega
  have:((vs.toList.drop o).take n).toArray.getD i undef=vs.getD (o+i) undef:=by
   simp only[Zdo,Zfo,H i l]
  simp_all
 grind
end
end Vm
namespace Vm
open Go
open Go.RowKit (Below)
section
variable {c:Ctx}{B:Nat}{G:Nat->Prop}{s:St}{a:Act}{w:World}{h:GH}{g:Gam}{C:ZC}
def Has(c:Ctx)(B:Nat)(s:St)(w:World)(h:GH)(f:Nat->Option Value)(d:Nat)(k:TK)(m:Sem Value):Prop:=
 ∃v,m.run c.P w=.ok v w/\RelK c.P B s w h f d v k
theorem jg{x z o}(h:ZZ x o=some z):x.pc[o]?=some z:=by
 unfold ZZ at h;rw[Zdi]at h;have⟨y,d,f⟩:=h;rw[d,(TO f).1]
def LC{x z o n}(h:VS x o n=some z):o+n<=x.pc.length/\z=.agg ((x.pc.drop o).take n):=by
 simp_all[VS,Zdj]
def jZ{T}(H:X4 c.P T=true){x b q o}{vs:Nat->Value}{sh}(r:∀y∈x.pc,y.one=true)
  (j:∀i,i<x.pc.length->w.cell? ⟨b,q+i,none⟩=some (vs i)) (t:∀i y,x.pc[i]?=some y->Rd w (h.ext sh) y (vs i)) {e} (D:eval s e=some x)
  (F:∃z,eval s (if Y5 c.P T then .flds e o (c.P.cellsOf T)else .fld e o)=some z) K d:
  Has c B s w h K d (.val (if Y5 c.P T then .flds e o (c.P.cellsOf T)else .fld e o) sh) (Instr.loadAt T (.pointer (some ⟨b,q+o,none⟩))):=by
 have⟨z,l⟩:=F;cases k:Y5 c.P T with
 |false=>
  rw[k]at l;simp only[Zdy,Ze1,eval,D,Zdt]at l⊢;have A:=jg l;have f:=(Zdl.1 A).1;exact⟨vs o,KF H k (j o f),z,by simp only[eval,D,Zdt];exact l,t o z A⟩
 |true=>
  rw[k]at l;simp only[Ze3,eval,D,Zdt]at l⊢;obtain⟨I,rfl⟩:=LC l;have p:((x.pc.drop o).take (c.P.cellsOf T)).length=c.P.cellsOf T:=Zcr;refine⟨.agg ((List.range (c.P.cellsOf T)).map λi=>vs (o+i)).toArray,yD H k _ Z1 (λi u n=> ?_),_,by simp only[eval,D,Zdt];exact l,?_⟩
  ·have f:i<c.P.cellsOf T:=by simpa using(Zdl.1 n).1
   have:vs (o+i)=u:=by simpa[f]using n
   rw[<-this,ZeF];exact j (o+i) Z0
  ·refine .agg _ _ (by simp only[ZeH,Ze9,Zh2,p]) (λy J=>r y (ZeA (Ze4 J))) λi y n=> ?_;have f:i<c.P.cellsOf T:=by have:=(Zdl.1 n).1;omega
   rw[ZdY,if_pos f,ZdW]at n
   have:((List.range (c.P.cellsOf T)).map λi=>vs (o+i)).toArray.getD i undef=vs (o+i):=by
    simp[Zdo,f]
   rw[this];exact t (o+i) y n
def Rd.flatAll{G' G'' x v}(hx:Rd w G' x v)(t:∀y∈x.cells,y.flatc=true)(L:∀l,x≠.tup l):Rd w G'' x v:=by
 cases hx with
 |agg q vs d j p=>exact .agg q vs d j λi y u=>(p i y u).flat (t y (Zdr u))
 |tup l vs d j=>simp_all
 |int k n=>exact .int _ _
 |bool b=>exact .bool _
 |str b=>exact .str _
 |nil a cap F=>exact .nil _ _ F
 |sl l b o cap k vs d j p r A D=>simp_all[absurd,V.cells,V.flatc]
 |ptr q b o vs d j p r=>simp_all[absurd,V.cells,V.flatc]
 |fn f=>exact .fn f
 |clo f q vs d j=>simp_all[absurd,V.cells,V.flatc]
 |nul0=>exact .nul0
 |nul1=>exact .nul1
 |nomp=>exact .nomp
 |mp id H I b z J K d j p r A D=>exact absurd (t (.mp id H I) (by simp[V.cells])) (by simp[V.flatc])
def QP(q:RelG c B G s a w h g)(l:holds s (ZI c C)){x k}(hx:Yt g C x=k)(d:k.isNo=false):
  ((∃e,k=.val e [])\/k=.nil)\/∃t,x=.tmp t/\(∃v,a.tmps[t]?=some v/\a.eval x=v/\RelK c.P B s w h (λp=>a.tmps[p]?) t v k)/\(g.at t).2=k/\R5 (g.at t).1 C=true:=by
 obtain⟨v,rfl⟩|⟨t,rfl,o,v,z,n,j⟩|⟨f,_,y⟩:=GU q l hx d;rotate_left 2
 ·grind
 ·left;simp only[Yt]at hx;split at hx
  ·exact .inr hx.symm
  ·split at hx
   ·exact .inl ⟨_,hx.symm⟩
   ·subst hx;simp[TK.isNo]at d
  ·simp_all
  ·simp_all
  ·subst hx;simp[TK.isNo]at d
 ·have⟨r,u⟩:=G8 o d;simp_all
def RelK.moved{f t d v k}(l:RelK c.P B s w h f t v k)(j:k.free=true):RelK c.P B s w h f d v k:=by
 cases k<;>first|exact l|simp[TK.free]at j
def XG(n:RelG c B G s a w h g)(j:holds s (ZI c C)){x k}(hx:Yt g C x=k)(q:k.free=true)d:
  RelK c.P B s w h (λp=>a.tmps[p]?) d (a.eval x) k:=by
 have r:k.isNo=false:=by cases k<;>first|rfl|simp[TK.free]at q
 obtain(⟨e,rfl⟩|rfl)|⟨t,rfl,⟨v,z,l,f⟩,_⟩:=QP n j hx r
 ·have⟨y,u,o⟩:=RE n j hx;exact⟨y,u,o⟩
 ·exact QQ n j hx
 ·rw[l];exact f.moved q
def Z4U(n:RelG c B G s a w h g)(q:holds s (ZI c C)){x k es}(f:Be g C x=some (k,es))d:
  RelK c.P B s w h (λp=>a.tmps[p]?) d (a.eval x) k:=by
 unfold Be at f;split at f
 ·rename_i A;simp at f;obtain⟨rfl,rfl⟩:=f;exact XG n q rfl A d
 ·split at f
  ·rename_i t F e _ l;simp at f;obtain⟨rfl,rfl⟩:=f;have⟨v,j,_⟩:=n.look q (show look g C t=_ from l) rfl;rw[Act.eval_tmp a t v j];exact j
  ·rename_i t r _ l;simp at f;obtain⟨rfl,rfl⟩:=f;have⟨v,j,⟨b,vs,T,u,y,_⟩,_⟩:=n.look q (show look g C t=_ from l) rfl;rw[Act.eval_tmp a t v j];exact⟨b,u,y⟩
  ·rename_i t r _ l;simp only[Zdm]at f;have⟨⟨e,D⟩,z,f⟩:=f;simp at f;obtain⟨rfl,rfl⟩:=f;have⟨v,j,o,_⟩:=n.look q (show look g C t=_ from l) rfl;rw[Act.eval_tmp a t v j];exact Dq n j o z
  grind
def Rc{fl b v y}(o:eval s b.1=some y)(j:Rd w (h.ext b.2) y v)(q:∃z,eval s (XE fl b).1=some z):
  ∃z,eval s (XE fl b).1=some z/\Rd w (h.ext (XE fl b).2) z v:=by
 have⟨z,d⟩:=q;unfold XE at d⊢;split
 ·simp_all
 ·split
  ·rename_i n f;simp only[n,f,Zdy,Ze1,Ze3,eval,o,Zdt]at d;refine⟨z,by simp_all[eval,Zdt],?_⟩;unfold Wh at d;split at d
   grind
   ·rename_i r;split at d
    ·rename_i k;simp at d;subst d;exact j.flatAll (λy t=>Zcq) λl p=>r l p
    grind
  simp_all
def Z4F(o:RelG c B G s a w h g)(n:holds s (ZI c C)){ty x k es}(j:B1 c g C ty x=some (k,es))(t:∀e∈es,∃z,eval s e=some z)d:
  RelK c.P B s w h (λp=>a.tmps[p]?) d (a.eval x) k:=by
 unfold B1 at j;split at j
 ·rename_i e l;simp at j;obtain⟨rfl,rfl⟩:=j;exact XG o n l rfl d
 ·rename_i e p D l;split at j
  ·simp at j;obtain⟨rfl,rfl⟩:=j;have⟨y,u,q⟩:=RE o n l;have:=Rc (s:=s) (w:=w) (h:=h) (fl:=true) (b:=(e,p::D)) u q (by simp_all[XE]);have⟨z,F,A⟩:=this;exact⟨z,by simp_all[XE],by simp_all[XE]⟩
  grind
 ·rename_i l;simp at j;obtain⟨rfl,rfl⟩:=j;exact XG o n l rfl d
 ·rename_i f r l;simp at j;obtain⟨rfl,rfl⟩:=j;exact XG o n l rfl d
 grind
def Z4V(H:RelG c B G s a w h g)(A:holds s (ZI c C)){x k es}(f:Bf g C x=some (k,es))(D:∀e∈es,∃z,eval s e=some z)o(L:o.op=.nilCheck x)d:
  ∃v,(execOp a.eval o).run c.P w=.ok (.value v) w/\RelK c.P B s w h (λp=>a.tmps[p]?) d v k:=by
 unfold execOp;simp only[L];unfold Bf at f;split at f
 ·rename_i M l;simp at f;obtain⟨rfl,rfl⟩:=f;obtain⟨t,rfl,⟨v,N,F,⟨b,vs,T,j,rfl,_⟩⟩,_⟩:=(QP H A l rfl).resolve_left Z1;rw[F];exact⟨_,rfl,b,j,rfl⟩
 ·rename_i p q l;simp at f;obtain⟨rfl,rfl⟩:=f;have⟨b,j,u⟩:=XG H A l rfl d;rw[u];exact⟨_,rfl,b,j,rfl⟩
 ·rename_i e O l;simp at f;obtain⟨rfl,rfl⟩:=f;have⟨y,I,n⟩:=RE H A l;have⟨z,r⟩:=D _ (List.Mem.head _);generalize a.eval x=v at n;simp only[eval,I,Zdt]at r;unfold UH at r;split at r
  ·cases n with
   |ptr _ b o vs j u J K=>exact⟨_,rfl,_,I,.ptr _ b o vs j u J K⟩
  ·cases r
 grind
theorem FX(S:RelG c B G s a w h g){T}(F:X4 c.P T=true){p o k}(l:zh c g T p o=some k){b}(q:h.bl p 0=some b)d:
  Has c B s w h (λp=>a.tmps[p]?) d k (Instr.loadAt T (.pointer (some ⟨b,o,none⟩))):=by
 unfold zh at l;simp only[Zdi]at l;have⟨M,O,l⟩:=l;have⟨Y,vs,J,H,_,I,j⟩:=S.memOf O;rw[q]at H;cases H;split at l
 ·rename_i r;split at l
  ·rename_i y;have⟨Q,N,Z⟩:=y;simp at l;have⟨x,L,W,K,z,U⟩:=j.part_rd Q N (G':=h.ext (if Uo ((M.drop o).take (c.P.cellsOf T))=true then [p]else [])) (λb q=>GH.ext_F q) (λR i b q=>by rw[if_pos R];exact .inr ⟨p,Z1,i,q⟩);refine⟨_,yD F r ((vs.toList.drop o).take (c.P.cellsOf T)) ?_ (λi u hi=> ?_),?_⟩
   ·have h2:=j.1;simp_all
   ·grind [cell_of_row]
   ·rw[<-l];refine⟨.agg x,?_,z⟩
    grind [qW]
  grind
 ·rename_i r;have n:Y5 c.P T=false:=by simpa using r
  split at l
  ·rename_i e t;simp at l;have⟨x,L,H,z⟩:=j.2 o _ t;have A:o<vs.size:=ZcZ;refine⟨vs.getD o undef,KF F n Zd2,?_⟩;rw[<-l];exact⟨x,L,z.mono λb q=>GH.ext_F q⟩
  ·rename_i X e t;simp at l;have A:o<vs.size:=ZcZ;have f:w.cell? ⟨b,o,none⟩=some (vs.getD o undef):=Zd2;refine⟨vs.getD o undef,KF F n f,?_⟩;rw[<-l];exact⟨b,q,f⟩
  ·rename_i e t;simp at l;have⟨D,_⟩:=j.2 o _ t;have A:o<vs.size:=ZcZ;have f:w.cell? ⟨b,o,none⟩=some (vs.getD o undef):=Zd2;refine⟨vs.getD o undef,KF F n f,?_⟩;rw[<-l];exact D
  grind
def L9{x i z n k ag}(f:Y6 x i n k ag=some z):∃d l j,x=.agg d/\i=.int l (j:Nat)/\j<n/\d.length=n*k/\
  (if ag then some (V.agg ((d.drop (j*k)).take k))else d[j*k]?)=some z:=by
 unfold Y6 at f;split at f
 ·rename_i d l i;split at f
  ·rename_i q;have⟨o,r,p⟩:=q;obtain⟨j,rfl⟩:=Zdz o;exact⟨d,l,j,rfl,rfl,Z0,p,ZcL⟩
  grind
 grind
theorem Z2S(hr:RelG c B G s a w h g){T}(hT:X4 c.P T=true){p o j m f k}(J:jX c g T p o j m f=some k)(Z:∀e∈Cr k,∃z,eval s e=some z)
  {b q} (L:h.bl p 0=some b) {ki} (hj:eval s j=some (.int ki (q:Nat))) (hq:q<m) d:
  Has c B s w h (λp=>a.tmps[p]?) d k (Instr.loadAt T (.pointer (some ⟨b,o+q*f,none⟩))):=by
 unfold jX at J;simp only[Zdi]at J;have⟨K,hm,J⟩:=J;have⟨b',vs,ty,Y,_,hh,Q⟩:=hr.memOf hm;rw[L]at Y;cases Y;split at J
 ·rename_i M;have⟨X,hk,h0,a4,hd⟩:=M;simp only[Zdj]at J;have⟨x,hx,W,U,a5,a9⟩:=Q.part_rd X hd (G':=h.F) (λb L=>L) (λho=>by rw[a4]at ho;cases ho)
  have I:eval s (if UC (c.ix p) o ((K.drop o).take (m*f))=true then E.mm (c.ix p) o ((K.drop o).take (m*f)).length else .ag (((K.drop o).take (m*f)).map (·.2)))=some (.agg x):=by
   split
   ·rename_i hp;exact qW hp (by rw[X];exact h0) hx U
   ·exact hx
  generalize (if UC (c.ix p) o ((K.drop o).take (m*f))=true then E.mm (c.ix p) o ((K.drop o).take (m*f)).length else .ag (((K.drop o).take (m*f)).map (·.2)))=ee at I J;subst J;have⟨z,O⟩:=Z _ (List.Mem.head _);simp only[eval,I,hj,Zdt]at O;have⟨a7,b0,D,R,a1,a3,a6,n⟩:=L9 O;cases R
  have a2:D=q:=by
   simp at a1;omega
  subst a2
  have a8:D*f+f<=m*f:=by
   rw[<-ZeJ];exact Ze0 _ a3
  have t:∀i,i<m*f->w.cell? ⟨b,o+i,none⟩=some (vs.getD (o+i) undef):=by
   intro i r;have a0:i< ((K.drop o).take (m*f)).length:=by rw[X];exact r
   have:=(Q.part X i _ (Zdk a0)).2;rw[ZdE w b (o+i) vs ty (0,0) hh,this]
  have A:∀i y,x[i]?=some y->y.one=true/\Rd w h.F y (vs.getD (o+i) undef):=by
   intro i y r;have S:i<m*f:=by rw[<-W];exact(Zdl.1 r).1
   cases a5 with
   |agg _ _ Y h2 h3=>
    have:=h3 i y r
    have hg:((vs.toList.drop o).take (m*f)).toArray.getD i undef=vs.getD (o+i) undef:=by
     simp only[Zdo,Zfo,ZdY,if_pos S,ZdW,ZeE]
    rw[hg]at this;exact⟨h2 y (Zdr r),this⟩
  cases H:Y5 c.P T with
  |false=>
   rw[H]at n O;simp at n;have l:D*f<m*f:=by rw[<-W];exact(Zdl.1 n).1
   refine⟨_,KF hT H (t _ l),z,by simp only[eval,I,hj,Zdt];exact O,(A _ z n).2.mono λb L=>GH.ext_F L⟩
  |true=>
   rw[H]at n O;simp at n;subst n;refine⟨.agg ((List.range f).map λi=>vs.getD (o+(D*f+i)) undef).toArray,yD hT H _ (by simp[hk]) (λi u r=> ?_),_,by simp only[eval,I,hj,Zdt];exact O,?_⟩
   ·have l:i<f:=by simpa using(Zdl.1 r).1
    have:vs.getD (o+(D*f+i)) undef=u:=by simpa[l]using r
    rw[<-this,show o+D*f+i=o+(D*f+i)from by omega];exact t _ Z0
   ·have N:((x.drop (D*f)).take f).length=f:=Zcr;refine .agg _ _ (by simp only[ZeH,Ze9,Zh2,N]) (λy hy=> ?_) λi y r=> ?_
    ·have⟨i,r⟩:=ZdM (ZeA (Ze4 hy));exact(A i y r).1
    ·have l:i<f:=by have:=(Zdl.1 r).1;omega
     rw[ZdY,if_pos l,ZdW]at r
     have:((List.range f).map λi=>vs.getD (o+(D*f+i)) undef).toArray.getD i undef=vs.getD (o+(D*f+i)) undef:=by
      simp[Zdo,l]
     rw[this];exact(A _ y r).2.mono λb L=>GH.ext_F L
 ·simp at J
def OwnV.elem{o ty x v}(S:OwnV c.P B w h o ty x v){U q y W}(f:Y9 x (.int U (q:Nat)) W=some y):
  ∃l n cap d,∃J:Nat->Value,x=.sl l/\l[q]?=some y/\o=some n/\v=.slice (some ⟨n,0,none⟩) l.length cap/\w.heap[n]?=some (.cells d ty (0,0))/\y.fits (c.P.cellsOf ty)/\q*c.P.cellsOf ty+c.P.cellsOf ty<=d.size/\
   (∀i,i<c.P.cellsOf ty->w.cell? ⟨n,q*c.P.cellsOf ty+i,none⟩=some (J i))/\∀i z,y.cells[i]?=some z->Rd w h.F z (J i):=by
 obtain⟨l,J,rfl,Y,j,k,O,A⟩|⟨_,_,_,_,_,_,rfl,_⟩:=S
 case inr=>simp[Y9]at f
 simp only[Y9]at f;split at f
 ·rw[ZdF,Zdi]at f;have⟨X,f,p⟩:=f;split at p<;>first|(simp at p;subst X)|simp_all
  have t:=(Zdl.1 f).1;obtain⟨rfl,Z⟩|⟨n,cap,d,rfl,_,K,r,_,D,H⟩:=k.2
  ·omega
  ·have L:q*c.P.cellsOf ty+c.P.cellsOf ty<=l.length*c.P.cellsOf ty:=by
    rw[<-ZeJ];exact Ze0 _ t
   have M:l.length*c.P.cellsOf ty<=d.size:=by rw[D];exact Ze0 _ r
   refine⟨l,n,cap,d,λi=>d.getD (q*c.P.cellsOf ty+i) undef,rfl,f,by rw[<-O];rfl,rfl,K,j y (Zdr f),Z0,λi Q=> ?_,λi z T=> ?_⟩
   ·rw[ZdE w n _ d ty (0,0) K];have:q*c.P.cellsOf ty+i<d.size:=Z0;simp_all
   ·have Q:i<c.P.cellsOf ty:=by
     have:=(Zdl.1 T).1;rw[(j y (Zdr f)).1]at this;exact this
    have⟨u,N,R⟩:=A (q*c.P.cellsOf ty+i) z (by simp_all[Vu])
    have:d.getD (q*c.P.cellsOf ty+i) undef=u:=by
     rw[<-H,ZdY,if_pos Z0]at N;have I:d[q*c.P.cellsOf ty+i]?=some u:=by simpa using N
     simp[Zdo,I]
    simp_all
 omega
def Er{x:V}{k}(h:x.fits k):x.pc=x.cells:=by
 rfl
theorem Z2T(Y:RelG c B G s a w h g){T}(R:X4 c.P T=true){p i j o D k}(u:jY c g T p i j o D=some k)(K:∀e∈Cr k,∃z,eval s e=some z)
  {n q} (J:h.bl p (SJ i)=some n) {O} (S:eval s j=some (.int O (q:Nat))) d:
  Has c B s w h (λp=>a.tmps[p]?) d k (Instr.loadAt T (.pointer (some ⟨n,q*D+o,none⟩))):=by
 unfold jY at u;simp only[Zdi]at u;have⟨⟨ty,e⟩,X,u⟩:=u;split at u
 ·rename_i U;simp at u;subst u;have⟨v,x,_,Z,H⟩:=Y.place X;have⟨z,t⟩:=K _ (List.Mem.head _)
  have F:∃y,eval s (.idx e j D)=some y:=by
   unfold Jq at t;split at t
   ·simp only[eval]at t⊢;cases I:((eval s e).bind λx=>(eval s j).bind λy=>Y9 x y D)with
    |none=>simp_all
    |some y=>simp
   ·simp only[eval]at t⊢;cases I:((eval s e).bind λx=>(eval s j).bind λy=>Y9 x y D)with
    |none=>simp_all
    |some y=>simp
  have⟨y,I⟩:=F
  have N:Y9 x (.int O q) D=some y:=by
   simp only[eval,Z,S,Zdt]at I;exact I
  obtain⟨l,n',cap,Q,xs,rfl,W,L,rfl,hh,f,_,r,M⟩:=H.elem N;rw[J]at L;simp at L;subst L;rw[U]at r f;have A:=Er f;exact jZ (c:=c) (B:=B) (sh:=[p]) R (b:=n) (q:=q*D) (o:=o) (vs:=xs) (by rw[A];exact f.2) (by rw[A,f.1];exact r) (λi z t=>by rw[A]at t;exact(M i z t).mono λb J=>GH.ext_F J) I ⟨z,t⟩ _ d
 grind
def Z4N(A:RelG c B G s a w h g)(D:holds s (ZI c C)){T x k es}(L:B9 c g C T x=some (k,es))(I:∀e∈es,∃z,eval s e=some z)d:
  Has c B s w h (λp=>a.tmps[p]?) d k (Instr.loadAt T (a.eval x)):=by
 unfold B9 at L;split at L
 ·rename_i N;simp at L;obtain⟨k',r,rfl,rfl⟩:=L;unfold FW at r;split at r
  ·rename_i R f;obtain⟨t,rfl,⟨v,hv,O,⟨b,vs,ty,l,rfl,_⟩⟩,_⟩:=(QP A D f rfl).resolve_left Z1;rw[O];exact FX A N r l d
  ·rename_i p o f;have⟨b,l,F⟩:=XG A D f rfl d
   grind [FX]
  ·rename_i e o sh f;simp at r;subst r;have⟨y,b,q,vs,U,l,F,H,K,W⟩:=XG A D f rfl d;rw[l];exact jZ N H K W U (I _ (List.Mem.head _)) _ d
  ·rename_i e sh f;simp at r;subst r;have⟨y,X,J⟩:=RE A D f;have⟨z,S⟩:=I _ (List.Mem.head _)
   have Q:∃u,UH y=some u:=by
    unfold Jq at S;cases M:UH y with
    |none=>grind [eval]
    |some u=>simp
   have⟨u,M⟩:=Q;generalize a.eval x=v at J;cases J with
   |ptr R b o vs l F H K=>
    simp only[UH,Zdj]at M;subst M;exact jZ (c:=c) (B:=B) (sh:=sh) N (x:=.agg R) (b:=b) (q:=o) (o:=0) (vs:=vs) F H K (by simp[eval,X,UH]) ⟨z,S⟩ _ d
   |_=>simp[UH]at M
  ·rename_i p i j o Z f;have⟨n,q,l,⟨Y,F⟩,H⟩:=XG A D f rfl d
   grind [Z2T]
  ·rename_i p o j m Z f;have⟨b,q,l,⟨Y,F⟩,H,K⟩:=XG A D f rfl d
   grind [Z2S]
  grind
 grind
end
end Vm
namespace Vm
open Go
open Go.RowKit (Below)
section
variable {c:Ctx}{B:Nat}{G:Nat->Prop}{s:St}{a:Act}{w:World}{h:GH}{g:Gam}{C:ZC}
def jI{P:Program}{T}(h:P.cellsOf T≠0):∃i,P.info? T=some i/\P.cellsOf T=i.size:=by
 unfold Program.cellsOf at h⊢;cases d:P.info? T with
 |none=>grind
 |some i=>simp
def Nj{P T fs}(h:Vn P T=.st fs):∃d,P.underlying T=some (.struct d)/\(∀j∈d,X4 P j.type=true)/\fs=d.toList.map λf=>(f.offset,P.cellsOf f.type,Y5 P f.type,XF P f.type):=by
 unfold Vn at h
 grind
def Ee{P T f x}(k:Jy P T f=some x):
  ∃j d,P.underlying T=some (.struct j)/\j[f]?=some d/\X4 P d.type=true/\x=(d.offset,P.cellsOf d.type,Y5 P d.type,XF P d.type):=by
 unfold Jy at k;split at k
 ·rename_i j l;obtain⟨o,p,n,rfl⟩:=Nj l
  grind
 ·cases k
def KE{T f b o x}(d:Jy c.P T f=some x)(k:x.2.1≠0):
  (Instr.fieldAt T (.pointer (some ⟨b,o,none⟩)) f).run c.P w=.ok (.pointer (some ⟨b,o+x.1,none⟩)) w:=by
 obtain⟨n,l,r,j,_,rfl⟩:=Ee d;have⟨i,p,q⟩:=jI k;simp_all[Instr.fieldAt,Ze6,Instr.sureAddr,fieldPlace,U1,Zf4]
def Z4J(L:RelG c B G s a w h g)(I:holds s (ZI c C)){T x f k es}(l:B5 c g C T x f=some (k,es))(O:∀e∈es,∃z,eval s e=some z)d:
  Has c B s w h (λp=>a.tmps[p]?) d k (Instr.fieldAt T (a.eval x) f):=by
 unfold B5 at l;simp only[Zdi]at l;have⟨y,J,l⟩:=l;split at l
 grind
 ·rename_i K;split at l
  ·rename_i R D;simp at l;obtain⟨rfl,rfl⟩:=l;obtain⟨t,rfl,⟨v,Z,Q,⟨b,vs,ty,A,rfl,_⟩⟩,_⟩:=(QP L I D rfl).resolve_left Z1;rw[Q];exact⟨_,KE J K,b,A,Z1⟩
  ·rename_i p q D;simp at l;obtain⟨rfl,rfl⟩:=l;have⟨b,A,F⟩:=XG L I D rfl d;rw[F];exact⟨_,KE J K,b,A,rfl⟩
  ·rename_i e q Y D;simp at l;obtain⟨rfl,rfl⟩:=l;have⟨z,b,r,vs,W,A,F,H,N,X⟩:=XG L I D rfl d;rw[A];exact⟨_,KE J K,z,b,r,vs,W,Z1,F,H,N,X⟩
  ·rename_i e Y D;simp at l;obtain⟨rfl,rfl⟩:=l;have⟨u,S,M⟩:=RE L I D;have⟨z,U⟩:=O _ (List.Mem.head _);simp only[eval,S,Zdt]at U;generalize a.eval x=v at M;cases M with
   |ptr R b o vs A F H N=>
    exact⟨_,KE J K,.agg R,b,o,vs,by simp[eval,S,UH],rfl,A,F,H,N⟩
   |_=>simp[UH]at U
  ·rename_i p i j q kk D;simp at l;obtain⟨rfl,rfl⟩:=l;have⟨n,r,A,F,H⟩:=XG L I D rfl d;rw[H];exact⟨_,KE J K,n,r,A,F,Z1⟩
  grind
def J4{P T d}(h:Vn P T=.sl d):P.underlying T=some (.slice d):=by
 grind [Vn]
def Cg{P T d n}(h:Vn P T=.ar n d):P.underlying T=some (.array n d):=by
 grind [Vn]
def EZ{x j z k}(f:Y9 x j k=some z):∃l n q,x=.sl l/\j=.int n (q:Nat)/\l[q]?=some z/\z.cells.length=k:=by
 unfold Y9 at f;split at f
 ·rename_i l n i;split at f
  ·rename_i o;obtain⟨q,rfl⟩:=Zdz o;rw[ZdF,Zdi]at f;have⟨r,p,d⟩:=f;split at d<;>first|(simp at d;subst r)|simp_all
   exact⟨l,n,q,rfl,rfl,p,by assumption⟩
  grind
 grind
def Rd.int_eq{G' d n v}(h:Rd w G' (.int d n) v):v=.int d n:=by cases h;rfl
def MC{T d}(j:c.P.underlying T=some (.slice d))(f:X4 c.P d=true){b o len cap p q}(l:q<len):
  (Instr.indexAt T (.slice (some ⟨b,o,none⟩) len cap) (.int p q)).run c.P w=.ok (.pointer (some ⟨b,o+q*c.P.cellsOf d,none⟩)) w:=by
 have⟨r,i,u,k,n,_⟩:=VW f;have t:(0:Int)<=q/\(q:Int)<len:=Z0;simp[Instr.indexAt,asIntOf,Ze6 j,l,U1 k,n,Zf4]
def Z4L(S:RelG c B G s a w h g)(U:holds s (ZI c C)){T x i k es}(r:B8 c g C T x i=some (k,es))(O:∀e∈es,∃z,eval s e=some z)d:
  Has c B s w h (λp=>a.tmps[p]?) d k (Instr.indexAt T (a.eval x) (a.eval i)):=by
 unfold B8 at r;split at r
 ·rename_i A hT;have L:=J4 hT;simp only[Zdi]at r;have⟨⟨j,sj⟩,hj,r⟩:=r;have⟨y,hy,M⟩:=WD S U hj
  have own:∀ {p} {pi:Option Nat},Yt g C x=RG p pi->LZ c g p pi A j=some (k,es)->Has c B s w h (λp=>a.tmps[p]?) d k (Instr.indexAt T (a.eval x) (a.eval i)):=by
   intro p pi J F;unfold LZ at F;simp only[Zdi]at F;have⟨⟨ty,e⟩,ho,F⟩:=F;split at F
   ·rename_i R;have⟨R,f⟩:=R;simp at F;obtain⟨rfl,rfl⟩:=F;have a5:=XG S U J (by cases pi<;>rfl) 0;have⟨xv,b5,a4⟩:=S.ownAt ho a5;have⟨z,H⟩:=O _ (List.Mem.head _);simp only[eval,b5,hy,Zdt]at H;have b6:=H;obtain⟨l,ki,q,rfl,rfl,K,_⟩:=EZ H;have⟨l',n,cap,c1,xs,b3,_,a7,hv,_⟩:=a4.elem b6;cases b3;rw[hv,M.int_eq];refine⟨_,MC L f (Zdl.1 K).1,n,q,?_,⟨ki,hy⟩,by rw[Ze7,Zfq]⟩;cases pi<;>exact a7
   ·simp at F
  split at r
  ·rename_i p J;exact own (pi:=none) J r
  ·rename_i p q J;exact own (pi:=some q) J r
  ·rename_i e sh J;split at r
   ·rename_i f;simp at r;obtain⟨rfl,rfl⟩:=r;have⟨u,hu,Q⟩:=RE S U J;have⟨z,H⟩:=O _ (List.Mem.head _);have a0:=H;simp only[eval,hu,hy,Zdt]at H;obtain⟨l,ki,q,rfl,rfl,K,b7⟩:=EZ H;rw[M.int_eq];generalize a.eval x=v at Q;cases Q with
    |nil a' cap hc=>simp at K
    |sl _ b o cap kk vs h1 h2 h3 h4 h5 h6=>
     have D:=h4 z (Zdr K);have b2:kk=c.P.cellsOf A:=by rw[<-D.1,b7]
     subst b2;have a2:=(Zdl.1 K).1
     have b4:q*c.P.cellsOf A+c.P.cellsOf A<=l.length*c.P.cellsOf A:=by
      rw[<-ZeJ];exact Ze0 _ a2
     have Z:=Er D;refine⟨_,MC L f a2,z,b,o+q*c.P.cellsOf A,λi=>vs (q*c.P.cellsOf A+i),a0,by rw[Zfq],h3,by rw[Z];exact D.2,λi I=> ?_,λi u I=> ?_⟩
     ·rw[Z,D.1]at I;rw[ZeF];exact h5 _ Z0
     ·rw[Z]at I;have b0:i<c.P.cellsOf A:=by rw[<-D.1];exact(Zdl.1 I).1
      exact h6 _ u (by rw[Vu h4 K i b0];exact I)
   ·simp at r
  ·simp at r
 ·rename_i n A hT;have L:=Cg hT;split at r
  ·simp at r
  ·rename_i f;simp at f;simp only[Zdi]at r;have⟨⟨j,sj⟩,hj,r⟩:=r;have⟨y,hy,M⟩:=WD S U hj
   have fin:∀ {p o b},a.eval x=.pointer (some ⟨b,o,none⟩)->h.bl p 0=some b->some (TK.pa p o j n (c.P.cellsOf A),[E.ai (.c (.agg (List.replicate n (.bool true)))) j n 1 false])=some (k,es)->Has c B s w h (λp=>a.tmps[p]?) d k (Instr.indexAt T (a.eval x) (a.eval i)):=by
    intro p o b Y hb heq;simp at heq;obtain⟨rfl,rfl⟩:=heq;have⟨z,H⟩:=O _ (List.Mem.head _);simp only[eval,hy,Zdt]at H;obtain⟨cs,ki,q,_,rfl,hq,_⟩:=L9 H;rw[Y,M.int_eq];have⟨dd,info,hd,I,hs,_⟩:=VW f;refine⟨_,?_,b,q,hb,⟨ki,hy⟩,hq,rfl⟩;simp[Instr.indexAt,asIntOf,Ze6 L,hq,U1 I,hs,Zf4,Instr.sureAddr]
   split at r
   ·rename_i cs J;obtain⟨t,rfl,⟨v,hv,Y,⟨b,vs,ty,h1,rfl,_⟩⟩,_⟩:=(QP S U J rfl).resolve_left (by rintro(⟨e,h⟩|h)<;>cases h);exact fin Y h1 r
   ·rename_i p o J;have⟨b,h1,h2⟩:=XG S U J rfl d;exact fin h2 h1 r
   ·rename_i e o sh J;simp at r;obtain⟨rfl,rfl⟩:=r;have⟨u,b,q0,vs,he,hv,a1,a3,X,Q⟩:=XG S U J rfl d;have⟨z,H⟩:=O _ (List.Mem.head _);have a0:=H;simp only[eval,he,hy,Zdt,Zdi]at H;have⟨cs,a9,H⟩:=H;obtain⟨b4,rfl⟩:=LC a9;obtain⟨c0,ki,q,a8,rfl,hq,b9,a6⟩:=L9 H;cases a8;simp at a6;rw[hv,M.int_eq];have⟨dd,info,hd,I,hs,_⟩:=VW f
    have b8:q*c.P.cellsOf A+c.P.cellsOf A<=n*c.P.cellsOf A:=by
     rw[<-ZeJ];exact Ze0 _ hq
    have W:∀i x,z.pc[i]?=some x->i<c.P.cellsOf A/\u.pc[o+q*c.P.cellsOf A+i]?=some x:=by
     intro i x N;rw[<-a6]at N;simp only[V.pc,ZdY]at N;split at N
     ·rename_i b1;rw[ZdW,ZdY,if_pos Z0,ZdW]at N;exact⟨b1,by rw[<-N];congr 1;omega⟩
     ·cases N
    refine⟨_,?_,z,b,q0+(o+q*c.P.cellsOf A),λi=>vs (o+q*c.P.cellsOf A+i),a0,rfl,a1,?_,?_,?_⟩
    ·simp[Instr.indexAt,asIntOf,Ze6 L,hq,U1 I,hs,Zf4,Instr.sureAddr,ZeF]
    ·intro x N;have⟨i,I⟩:=ZdM N;exact a3 x (Zdr (W i x I).2)
    ·intro i I;have:=W i _ (Zdk I);rw[ZeF];exact X _ (Zdl.1 this.2).1
    ·intro i x N;exact Q _ x (W i x N).2
   ·simp at r
 ·simp at r
theorem jN{x z}(h:YR x=some z):z.one=true:=(TO h).2
def Gs{j x k v z}(h:Uy j x k v=some z):∃id l vs d f,x=.mp id l vs/\z=.mp id d f:=by
 unfold Uy at h
 grind
theorem Lv:∀e x,e.sure=true->eval s e=some x->x.one=true
 |.c v,x,h,j=>by simp only[eval,Zdj]at j;subst j;exact h
 | .m t i,x,_,j=>by
   simp only[eval]at j;split at j
   ·rw[Zdi]at j;have⟨y,_,f⟩:=j;exact jN f
   grind
 | .bin op a b,x,_,j=>by
   simp only[eval,Zdi]at j;have⟨y,_,z,_,f⟩:=j;cases y<;>cases z<;>cases op<;>simp only[Xk]at f<;>(try split at f)<;>(try simp only[Zdj]at f)<;>(try subst f)<;>first|rfl|simp at f
 | .eqv n a b,x,_,j=>by
   simp only[eval,Zdi]at j;have⟨y,_,z,_,f⟩:=j;cases y<;>cases z<;>simp only[Sl]at f<;>(try simp only[Zdj]at f)<;>(try subst f)<;>first|rfl|simp at f
 | .un op a,x,_,j=>by
   simp only[eval,Zdi]at j;have⟨y,_,f⟩:=j;cases y<;>cases op<;>simp only[S6]at f<;>(try simp only[Zdj]at f)<;>(try subst f)<;>first|rfl|simp at f
 | .conv k a,x,_,j=>by
   simp only[eval,Zdi]at j;have⟨y,_,f⟩:=j;cases y<;>simp only[Qj]at f<;>(try simp only[Zdj]at f)<;>(try subst f)<;>first|rfl|simp at f
 | .len a,x,_,j=>by
   simp only[eval,Zdi]at j;have⟨y,_,f⟩:=j;cases y<;>simp only[Rr]at f<;>(try simp only[Zdj]at f)<;>(try subst f)<;>first|rfl|simp at f
 | .mn a b,x,_,j=>by
   simp only[eval,Zdi]at j;have⟨y,_,z,_,f⟩:=j;cases y<;>cases z<;>simp only[Rz]at f<;>(try simp only[Zdj]at f)<;>(try subst f)<;>first|rfl|simp at f
 | .mx a b,x,_,j=>by
   simp only[eval,Zdi]at j;have⟨y,_,z,_,f⟩:=j;cases y<;>cases z<;>simp only[Ry]at f<;>(try simp only[Zdj]at f)<;>(try subst f)<;>first|rfl|simp at f
 | .mput A a k v,x,_,j=>by
   simp only[eval,Zdi]at j;have⟨y,_,z,_,u,_,f⟩:=j;obtain⟨_,_,_,_,_,_,rfl⟩:=Gs f;rfl
 | .mlen a,x,_,j=>by
   simp only[eval,Zdi]at j;have⟨y,_,f⟩:=j;cases y<;>simp only[Sx]at f<;>(try simp only[Zdj]at f)<;>(try subst f)<;>first|rfl|simp at f
 | .mclr a,x,_,j=>by
   simp only[eval,Zdi]at j;have⟨y,_,f⟩:=j;cases y<;>simp only[JU]at f<;>(try simp only[Zdj]at f)<;>(try subst f)<;>first|rfl|simp at f
 | .fld a o,x,_,j=>by
   simp only[eval,Zdi,ZZ]at j
   grind [jN]
 | .slc a p r k,x,_,j=>by
   simp only[eval,Zdi]at j;have⟨y,_,z,_,u,_,f⟩:=j;unfold SN at f;split at f
   ·split at f
    ·simp only[Zdj]at f;subst f;rfl
    grind
   grind
 | .slcl a p k,x,_,j=>by
   simp only[eval,Zdi]at j;have⟨y,_,z,_,f⟩:=j;unfold RU at f;split at f
   ·split at f
    ·simp only[Zdj]at f;subst f;rfl
    grind
   grind
 | .app a b k,x,_,j=>by
   simp only[eval,Zdi]at j;have⟨y,_,z,_,f⟩:=j;unfold R1 at f;split at f
   ·split at f
    ·simp only[Zdj]at f;subst f;rfl
    grind
   grind
 | .upd a i o b,x,_,j=>by
   simp only[eval,Zdi]at j;have⟨y,_,z,_,u,_,f⟩:=j;unfold SQ at f;split at f
   ·split at f
    ·rw[Zdi]at f;have⟨q,_,f⟩:=f;split at f
     ·simp only[Zdj]at f;subst f;rfl
     grind
    grind
   grind
 | .mk z n,x,_,j=>by
   simp only[eval,Zdi]at j;have⟨y,_,f⟩:=j;unfold JW at f;split at f
   ·split at f
    ·simp only[Zdj]at f;subst f;rfl
    grind
   grind
 | .lit l,x,_,j=>by
   simp only[eval,Zdm]at j;have⟨y,_,f⟩:=j;subst f;rfl
 | .one a,x,_,j=>by
   grind [eval,Option.bind_eq_some_iff,jN]
 | .ite d a b,x,h,j=>by
   simp only[E.sure,Zdn]at h;simp only[eval,Zdi]at j;have⟨y,_,f⟩:=j;unfold QA at f;split at f
   ·exact Lv a x h.1 f
   ·exact Lv b x h.2 f
   grind
 |.s t,x,h,j=>ZcJ
 |.mm t i n,x,h,j=>ZcJ
 |.ext a i,x,h,j=>ZcJ
 |.idx a i k,x,h,j=>ZcJ
 |.flds a o n,x,h,j=>ZcJ
 |.ai a i n k ag,x,h,j=>ZcJ
 |.aput a i n k b,x,h,j=>ZcJ
 |.ag l,x,h,j=>ZcJ
 |.star a,x,h,j=>ZcJ
 |.isag a,x,h,j=>ZcJ
 |.sz a n,x,h,j=>ZcJ
 |.fl a,x,h,j=>ZcJ
 |.fls a,x,h,j=>ZcJ
end
end Vm
namespace Vm
open Go
open Go.RowKit (Below)
section
variable {c:Ctx}{B:Nat}{G:Nat->Prop}{s:St}{a:Act}{w:World}{h:GH}{g:Gam}{C:ZC}
theorem GR{e x}(hx:eval s (zM e)=some x):eval s e=some x/\x.one=true:=by
 unfold zM at hx;split at hx
 ·grind [Lv]
 ·simp only[eval,Zdi]at hx;have⟨y,j,d⟩:=hx;obtain⟨rfl,f⟩:=TO d;simp_all
theorem Ni{x z n}(d:Vk x n=some z):x=z/\z.cells.length=n/\∀l,z≠.tup l:=by
 unfold Vk at d;split at d
 ·rename_i f;cases x<;>simp at d<;>first|(subst d;exact⟨rfl,f,Z1⟩)|(simp at d;done)
 grind
theorem GS{x:V}(h:x.one=true):∀l,x≠.tup l:=by
 grind [V.one]
theorem T9{x:V}(h:x.one=true):x.cells=[x]:=by
 cases x<;>first|rfl|simp[V.one]at h
theorem Z7l{e n x}(hx:eval s (Ce e n)=some x):eval s e=some x/\x.cells.length=n/\∀l,x≠.tup l:=by
 unfold Ce at hx;split at hx
 ·rename_i j;refine⟨hx,?_⟩;cases e<;>simp only[E.sized,Ze5,Zdn]at j<;>first|(cases j;done)|skip
  ·grind [eval,Option.some.injEq,V.cells]
  ·subst j;simp only[eval,Zdi]at hx;have⟨y,_,k⟩:=hx;obtain⟨o,rfl⟩:=LC k
   grind [V.cells]
  ·rename_i l;have⟨F,d⟩:=j;simp only[eval,Zdm]at hx;obtain⟨D,p,rfl⟩:=hx;have⟨o,r⟩:=Us p
   have u:∀y∈D,y.one=true:=by
    intro y k;have⟨i,t⟩:=ZdM k;have f:i<l.length:=by have:=(Zdl.1 t).1;omega
    have⟨z,A,q⟩:=r i l[i] (Zdk f);rw[t]at A;cases A;exact Lv _ _ (Zdu.1 d _ (ZdA f)) q
   simp_all[Tn,V.cells,VR]
  grind [eval,Option.bind_eq_some_iff,Ni]
 ·simp only[eval,Zdi]at hx;have⟨y,k,o⟩:=hx;obtain⟨rfl,r⟩:=Ni o;simp_all
theorem q9{ag n e x}(hx:eval s (WK ag n e)=some x):eval s e=some x/\(∀l,x≠.tup l)/\(ag=true->x.cells.length=n)/\(ag=false->x.one=true):=by
 grind [WK,Z7l,GR,GS]
def BJ{P T}(n:(P.underlying T).isSome=true)(j:P.cellsOf T≠0){vs o}(t:o+P.cellsOf T<=vs.size):
  (part T vs o).run P w=.ok (if Y5 P T then .agg (vs.extract o (o+P.cellsOf T))else vs.getD o undef) w:=by
 have⟨i,q,y⟩:=jI j;have f:X4 P T=true:=by simp[X4,n,q]
 have⟨d,z,x,r,u,k⟩:=VW f;have l:o<vs.size:=Z0;cases p:Y5 P T with
 |true=>simp_all[part,U1]
 |false=>simp_all[part,Zdo]
def Rd.part{G'}{cs:List V}{vs:Array Value}(l:vs.size=cs.length)(h2:∀c∈cs,c.one=true)(p:∀i c,cs[i]?=some c->Rd w G' c (vs.getD i undef)){o n}(j:o+n<=cs.length):
  Rd w G' (.agg ((cs.drop o).take n)) (.agg (vs.extract o (o+n))):=by
 refine .agg _ _ Zcr (λy k=>h2 y (ZeA (Ze4 k))) λi y d=> ?_;rw[ZdY]at d;split at d
 ·rename_i f;rw[ZdW]at d
  have q:(vs.extract o (o+n)).getD i undef=vs.getD (o+i) undef:=by
   simp only[Zdo,Zhc];rw[if_pos Z0]
  simp_all
 grind
def FB{x z}(d:Rm x=some z):∃f,x=.agg f/\z=.agg f:=by
 unfold Rm at d;split at d
 ·simp at d;exact⟨_,rfl,d.symm⟩
 grind
def Z4K(hr:RelG c B G s a w h g)(S:holds s (ZI c C)){T x f k es}(t:B6 c g C T x f=some (k,es))(L:∀e∈es,∃z,eval s e=some z)d:
  Has c B s w h (λp=>a.tmps[p]?) d k (Instr.field T (a.eval x) f):=by
 unfold B6 at t;simp only[Zdi]at t;have⟨y,X,t⟩:=t;split at t
 grind
 ·rename_i M;simp only[Zdm,Zdx]at t;obtain⟨⟨e,sh⟩,W,rfl,rfl⟩:=t;obtain⟨fs,j,hu,Y,H,rfl⟩:=Ee X;simp only at M;have⟨u,F,A⟩:=WD hr S W;have⟨z,l⟩:=L _ (List.Mem.head _);simp only at l;generalize a.eval x=v at A;have⟨i,hi,hs⟩:=jI M;have D:(c.P.underlying j.type).isSome=true:=by simp only[X4,Zdn]at H;exact H.1
  cases n:Y5 c.P j.type with
  |true=>
   rw[n]at l;simp only[Ze3,eval,F,Zdt,Zdi]at l;have⟨q,N,l⟩:=l;obtain⟨O,rfl,rfl⟩:=FB N;obtain⟨r,rfl⟩:=LC l;cases A with
   |agg _ vs J Q K=>
    refine⟨.agg (vs.extract j.offset (j.offset+c.P.cellsOf j.type)),?_,.agg ((O.drop j.offset).take (c.P.cellsOf j.type)),?_,Rd.part J Q K r⟩
    ·have:=BJ (w:=w) (P:=c.P) D M (vs:=vs) (o:=j.offset) (by rw[J];exact r);simp_all[Instr.field,Ze6,asAgg]
    ·simp only[n,Ze3,eval,F,Zdt,Rm,VS];rw[if_pos r];rfl
  |false=>
   rw[n]at l;simp only[Zdy,Ze1,eval,F,Zdt,Zdi]at l;have⟨q,N,l⟩:=l;obtain⟨O,rfl,rfl⟩:=FB N;have I:=jg l;cases A with
   |agg _ vs J Q K=>
    have a0:j.offset<vs.size:=by rw[J];exact(Zdl.1 I).1
    refine⟨vs.getD j.offset undef,?_,z,?_,K _ _ I⟩
    ·have⟨d',i',U,Z,a1,R⟩:=VW (P:=c.P) (T:=j.type) Z0;simp_all[Instr.field,Ze6,asAgg,part,Zdo]
    simp_all[Zdy,Ze1,eval,Zdt,Rm]
def Z4M(U:RelG c B G s a w h g)(Q:holds s (ZI c C)){T x i k es}(F:B7 c g C T x i=some (k,es))(J:∀e∈es,∃z,eval s e=some z)d:
  Has c B s w h (λp=>a.tmps[p]?) d k (Instr.index T (a.eval x) (a.eval i)):=by
 unfold B7 at F;split at F
 ·rename_i n r Y;have A:=Cg Y;split at F
  grind
  ·rename_i l;simp at l;simp only[Zdi,Zdm,Zdx]at F;obtain⟨⟨e,sh⟩,Z,⟨j,sj⟩,hj,rfl,rfl⟩:=F;have⟨u,hu,H⟩:=WD U Q Z;have⟨y,hy,L⟩:=WD U Q hj;have⟨z,M⟩:=J _ (List.Mem.head _);have I:=M;simp only[eval,hu,hy,Zdt]at M;obtain⟨cs,ki,q,rfl,rfl,K,S,f⟩:=L9 M;rw[L.int_eq];generalize a.eval x=v at H;have⟨dd,info,hd,R,W,t⟩:=VW l
   have a0:q*c.P.cellsOf r+c.P.cellsOf r<=n*c.P.cellsOf r:=by
    rw[<-ZeJ];exact Ze0 _ K
   cases H with
   |agg _ vs N X O=>
    cases o:Y5 c.P r with
    |false=>
     rw[o]at f I;simp at f;have D:q*c.P.cellsOf r<vs.size:=by rw[N];exact(Zdl.1 f).1
     rw[W]at D f;refine⟨vs.getD (q*info.size) undef,?_,z,Z0,O _ _ f⟩;simp[Instr.index,asIntOf,Ze6 A,K,U1 R,part,t,o,D,Zdo]
    |true=>
     rw[o]at f I;simp at f;subst f;refine⟨.agg (vs.extract (q*c.P.cellsOf r) (q*c.P.cellsOf r+c.P.cellsOf r)),?_,_,Z0,Rd.part N X O Z0⟩;rw[W];simp[Instr.index,asIntOf,Ze6 A,K,U1 R,part,t,o]
 grind
def MW{k l}(d:Xj k l=true):∀x∈l,x.cells.length=k:=λx f=>by
 have:=Zdu.1 d x f;simp_all
def Z0A{P:Program}{T d}(h:P.underlying T=some (.slice d)):P.elem T=d:=by
 simp[Program.elem,h]
def Rd.sliced{G' l o len cap}(hx:Rd w G' (.sl l) (.slice o len cap)){k p q}(K:Xj k l=true)(L:p<=q)(D:q<=l.length):
  q<=cap/\len=l.length/\Rd w G' (.sl ((l.take q).drop p)) (sliced o p q cap k):=by
 cases hx with
 |nil _ _ J=>
  simp at D;subst D;have A:p=0:=Z0;subst A;exact⟨Zex _,rfl,by simp;exact .nil _ _ J⟩
 |sl _ b o _ d vs M N F t H I=>
  refine⟨Z0,rfl,?_⟩;unfold Go.sliced;by_cases r:p=q
  ·subst r
   have:(l.take p).drop p=[]:=by
    rw[Zgd];simp;omega
   rw[this,Zf9];exact .nil _ _ Z0
  ·have z:cap≠p:=Z0;have y:∃x,l[p]?=some x:=⟨_,Zdk Z0⟩;have⟨x,hx⟩:=y;have u:d=k:=by rw[<-(t x (Zdr hx)).1,MW K x (Zdr hx)]
   subst u;have f:((l.take q).drop p).length=q-p:=Zcr;simp only[if_neg z,ZdD,Zf4];rw[<-f]
   have j:Vm.flat ((l.take q).drop p)=((Vm.flat l).take (q*d)).drop (p*d):=by
    rw[Z0T (k:=d) (λx hx=>t x (Ze4 hx)),Z0X t]
   refine .sl _ b (o+p*d) (cap-p) d (λi=>vs (p*d+i)) Z0 Z0 F (λx hx=>t x (Ze4 (ZeA hx))) (λi n=> ?_) λi c n=> ?_
   ·rw[ZeF];refine H _ ?_;have:(q-p)*d+p*d<=l.length*d:=by rw[<-Nat.add_mul];exact Ze0 _ Z0
    rw[f]at n;omega
   ·rw[j,ZdW,ZdY]at n;split at n
    ·exact I _ _ n
    ·simp at n
def Z6q{T}(n:c.P.underlying T=some (.slice (c.P.elem T))){v j f l d k}:
  Has c B s w h l d k (Instr.sliceAt T v j f none)=Has c B s w h l d k (Instr.slice T v j f none):=by
 simp_all[Has,run_sliceAt_slice]
theorem yE{P T}(d:X4 P T=true)w:(Go.sizeOf T).run P w=.ok (P.cellsOf T) w:=by
 grind [VW,U1]
def Z6U{k x y z u}(d:SN k x y z=some u):∃l j n p q,x=.sl l/\y=.int j (p:Nat)/\z=.int n (q:Nat)/\p<=q/\q<=l.length/\Xj k l=true/\u=.sl ((l.take q).drop p):=by
 unfold SN at d;split at d
 ·rename_i l j p n q;split at d
  ·rename_i r;have⟨f,o,t,A⟩:=r;obtain⟨p,rfl⟩:=Zdz f;obtain⟨q,rfl⟩:=Zdz (Int.le_trans f o)
   grind
  grind
 grind
def Z6V{k x y u}(d:RU k x y=some u):∃l f p,x=.sl l/\y=.int f (p:Nat)/\p<=l.length/\Xj k l=true/\u=.sl (l.drop p):=by
 unfold RU at d;split at d
 ·rename_i l f p;split at d
  ·rename_i o;have⟨j,q,n⟩:=o;obtain⟨p,rfl⟩:=Zdz j;simp at d;exact⟨l,f,p,rfl,rfl,Z0,n,d.symm⟩
  grind
 grind
def Rd.sl_eq{G' l v}(hx:Rd w G' (.sl l) v):∃o len cap,v=.slice o len cap:=by
 cases hx<;>exact⟨_,_,_,rfl⟩
def Z4Y(Q:RelG c B G s a w h g)(O:holds s (ZI c C)){T x R X k es}(M:Bi c g C T x R X=some (k,es))(W:∀e∈es,∃z,eval s e=some z)d:
  Has c B s w h (λp=>a.tmps[p]?) d k (Instr.sliceAt T (a.eval x) (R.map a.eval) (X.map a.eval) none):=by
 unfold Bi at M;split at M
 ·rename_i el hT;have K:=J4 hT;have U:=Z0A K;have S:c.P.underlying T=some (.slice (c.P.elem T)):=by rw[U];exact K
  split at M
  ·rename_i a4;simp only[Zdi,Zdm,Zdx]at M;obtain⟨⟨e,sh⟩,he,l,D,e',A,rfl,rfl⟩:=M;have⟨u,hu,n⟩:=WD Q O he;have⟨z,y⟩:=W _ (List.Mem.head _);rw[Z6q S];generalize a.eval x=v at n;cases X with
   |some hh=>
    simp only[AA,Zdm]at A;obtain⟨⟨f,sf⟩,hf,rfl⟩:=A;have⟨y2,a1,N⟩:=WD Q O hf;have J:=y;simp only[eval,hu,a1,Zdt,Zdi]at y;have⟨y1,r,y⟩:=y;obtain⟨ll,ka,kb,p,q,rfl,rfl,rfl,Z,hq,I,rfl⟩:=Z6U y;obtain⟨o,len,cap,rfl⟩:=n.sl_eq;have⟨a0,L,j⟩:=n.sliced I Z hq;refine⟨_,?_,_,J,j⟩;cases R with
    |some a2=>
     simp only[K8,Zdm]at D;obtain⟨⟨f1,a3⟩,F,rfl⟩:=D;have⟨y3,t,H⟩:=WD Q O F;rw[r]at t;cases t;simp;rw[N.int_eq,H.int_eq];simp_all[run_slice_lh,yE,Result.andThen]
    |none=>
     simp only[K8,Zdj]at D;subst D;simp only[eval,Zdj,V.int.injEq]at r;have Y:p=0:=Z0;subst Y;simp;rw[N.int_eq]
     grind [run_slice_h,yE,Result.andThen]
   |none=>
    simp only[AA,Zdj]at A;subst A;have J:=y;simp only[eval,hu,Zdt,Zdi]at y;have⟨y1,r,y⟩:=y;obtain⟨ll,ka,p,rfl,rfl,hq,I,rfl⟩:=Z6V y;obtain⟨o,len,cap,rfl⟩:=n.sl_eq;have⟨a0,L,j⟩:=n.sliced I hq (Zdp _);rw[Zem]at j;refine⟨_,?_,_,J,j⟩;cases R with
    |some a2=>
     simp only[K8,Zdm]at D;obtain⟨⟨f1,a3⟩,F,rfl⟩:=D;have⟨y3,t,H⟩:=WD Q O F;rw[r]at t;cases t;simp;rw[H.int_eq];simp_all[run_slice_l,yE,Result.andThen]
    |none=>
     simp only[K8,Zdj]at D;subst D;simp only[eval,Zdj,V.int.injEq]at r
     grind [run_slice_all,yE,Result.andThen]
  grind
 grind
end
end Vm
namespace Vm
open Go
open Go.RowKit (Below)
def GH.give(h:GH)(d i n:Nat):GH:= {F:=h.F,bl:=λt j=>if t=d then(if j=i then some n else none)else h.bl t j,K:=h.K}
def GH.froz(h:GH)(n:Nat):GH:= {F:=λb=>h.F b\/b=n,bl:=h.bl,K:=h.K}
section
variable {c:Ctx}{B:Nat}{G:Nat->Prop}{s:St}{a:Act}{w w':World}{h:GH}{g:Gam}{C:ZC}
def Qd(d:Ok B G w h)(f:w.grownBy w' none):Below B w w':=(ZdZ B w).grown f d.base λk j=>by cases j
def yY(k:Ok B G w h)(p:w.grownBy w' none)d i{n}(H:w.heap.size<=n)(r:n<w'.heap.size):
  Ok B G w' (h.give d i n)/\Step B [d] [d] [] w w' h (h.give d i n):=by
 have o:=p.size
 refine⟨⟨ZdP k.base o,λb f=>Zdw (k.f_lt b f) o,k.f_or,k.g_F,λt j b f=> ?_,λt j u q b f l=> ?_,λb f=>Zdw (k.k_lt b f) o,λt j b f x=> ?_,k.k_F⟩,
  Qd k p,λb f _=>p.block b f Z1,λb f=>f,λt I _=> ?_,λt I=> ?_,λ_ _ _ _ F=>(by simp at F),rfl⟩
 ·simp only[GH.give]at f;split at f
  ·split at f
   ·simp at f;subst f;exact⟨ZdP k.base H,r,λD=>by have:=k.f_lt _ D;omega⟩
   ·cases f
  ·have⟨y,z,A⟩:=k.b_lt t j b f;exact⟨y,Zdw z o,A⟩
 ·simp only[GH.give]at f l;split at f<;>split at l
  ·simp_all
  ·split at f<;>first|(cases f;done)|skip
   simp at f;have:=(k.b_lt u q b l).2.1;omega
  ·split at l<;>first|(cases l;done)|skip
   simp at l;have:=(k.b_lt t j b f).2.1;omega
  ·exact k.inj t j u q b f l
 ·simp only[GH.give]at f;split at f
  ·split at f
   ·simp at f;subst f;have:=k.k_lt _ x;omega
   ·cases f
  ·exact k.k_bl t j b f x
 ·simp_all[GH.give]
 simp_all[GH.give]
def Z7k(d:Ok B G w h)(o:w.grownBy w' none)ps rb{n}(y:w.heap.size<=n)(z:n<w'.heap.size):
  Ok B G w' (h.froz n)/\Step B ps rb [] w w' h (h.froz n):=by
 have k:=o.size
 refine⟨⟨ZdP d.base k,λb f=> ?_,λb f=> ?_,λb f=>.inl (d.g_F b f),λt j b f=> ?_,d.inj,λb f=>Zdw (d.k_lt b f) k,d.k_bl,λb f=> ?_⟩,
  Qd d o,λb f _=>o.block b f Z1,λb f=>.inl f,λt A _=>rfl,λt A=>rfl,λ_ _ _ _ x=>(by simp at x),rfl⟩
 ·obtain f|rfl:=f
  ·exact Zdw (d.f_lt b f) k
  omega
 ·obtain f|rfl:=f
  ·exact d.f_or b f
  ·exact .inr (ZdP d.base y)
 ·have⟨p,q,r⟩:=d.b_lt t j b f;refine⟨p,Zdw q k,λl=> ?_⟩;obtain l|rfl:=l
  ·exact r l
  ·omega
 ·obtain f|rfl:=f
  ·exact d.k_F b f
  ·exact .inr λu=>by have:=d.k_lt _ u;omega
def BN(k:Ok B G w h)(j:w.grownBy w' none){G'}(d:∀b,G' b->b<w.heap.size):Same G' w w':=λb f=>j.block b (d b f) Z1
def Z0G(d:Ok B G w h)sh:∀b,h.ext sh b->b<w.heap.size:=by
 intro b f;obtain f|⟨p,_,i,j⟩:=f
 ·exact d.f_lt b f
 ·exact(d.b_lt p (i+1) b j).2.1
def A5{α β:Type}{f}:∀ {l:List α} {r:List β},l.mapM f=some r->r.length=l.length/\∀(i:Nat) v,l[i]?=some v->∃x,r[i]?=some x/\f v=some x
 | [],r,d=>by
   simp at d;subst d;exact⟨rfl,λi v j=>by simp at j⟩
 |y::l,r,d=>by
  rw[ZfD]at d;simp only[Option.bind_eq_bind,Zdi,Option.pure_def,Zdj]at d;obtain⟨x,p,q,k,rfl⟩:=d;have⟨n,o⟩:=A5 k;refine⟨by simp[n],λi v j=> ?_⟩;cases i with
  |zero=>simp at j;subst j;exact⟨x,Z1,p⟩
  |succ i=>simpa using o i v Zdh
def CD{P T f}(d:zeroCells P T=some f):∃i z,P.info? T=some i/\i.zero=some z/\z.cells.size=f.length/\∀(j:Nat) v,z.cells[j]?=some v->∃x,f[j]?=some x/\WU v=some x:=by
 unfold zeroCells at d;simp only[Zdi]at d;have⟨z,⟨i,p,l⟩,k⟩:=d;have⟨n,o⟩:=A5 k;simp_all
def yF{P T i z}(d:P.info? T=some i)(f:i.zero=some z)w:(zeroValue T).run P w=.ok z w:=by
 simp[zeroValue,typeInfo,d,f]
def BI{P T}v w:(newVar T v).run P w=.ok ⟨w.heap.size,0,none⟩ (w.alloc (.cells v.cells T)):=by
 rfl
def Z85(x:V):CK:=match x with|.sl _=>CK.nil|_=>.fz
def Z89{P o v x}(d:WU v=some x):RelC P B s w h o (Z85 x) (.c x) v:=by
 unfold WU at d
 split at d<;>first
  |(simp at d;subst d;first|exact⟨_,rfl,rfl,.int _ _⟩|exact⟨_,rfl,rfl,.bool _⟩|exact⟨_,rfl,rfl,.str _⟩|exact⟨rfl,rfl⟩|exact⟨_,rfl,rfl,.nomp⟩|exact⟨_,rfl,rfl,.nul0⟩|exact⟨_,rfl,rfl,.nul1⟩)
  | (split at d<;>first
    | (rename_i f
       simp at d;subst d;rw[Zeo f.1,Zeo f.2];exact⟨_,rfl,rfl,.fn _⟩)
    |simp at d)
  |simp at d
def Z4D(r:Ok B G w h){T k es}(l:AZ c T=some (k,es))K d:
  ∃v w',(Instr.alloc T true (.tuple #[])).run c.P w=.ok v w'/\PRes c B G s w h K d k v w':=by
 unfold AZ at l;simp only[Zdi]at l;have⟨N,J,l⟩:=l;split at l
 grind
 ·simp at l;obtain⟨rfl,rfl⟩:=l;have⟨i,z,I,y,u,f⟩:=CD J;have H:=ZeK w (.cells z.cells T) none;have⟨p,t⟩:=yY r H d 0 (n:=w.heap.size) (Zdp _) Z1;refine⟨.pointer (some ⟨w.heap.size,0,none⟩),_,?_,_,t,p,?_⟩
  ·simp[Instr.alloc,yF I y,BI]
  ·refine⟨w.heap.size,z.cells,T,by simp[GH.give],rfl,ZdO w _,Zcq,λj L A=> ?_⟩;simp at A;obtain⟨x,D,rfl⟩:=A;have o:j<z.cells.size:=by rw[u];exact(Zdl.1 D).1
   have⟨M,q,F⟩:=f j z.cells[j] (ZdQ o);rw[D]at q;cases q;have:z.cells.getD j undef=z.cells[j]:=by simp[o]
   rw[this];exact Z89 F
def Z4H(O:RelG c B G s a w h g)(hC:holds s (ZI c C)){T x k es}(l:B3 c g C T x=some (k,es))(t:∀e∈es,∃z,eval s e=some z)tm d:
  ∃v w',(Instr.box T (a.eval x)).run c.P w=.ok v w'/\PRes c B G s w h tm d k v w':=by
 unfold B3 at l;split at l
 ·rename_i e0 hk;split at l
  ·rename_i a0;have⟨y,hy,J⟩:=RE O hC hk;have Z:=ZeK w (.cells (a.eval x).cells T) none;have⟨I,W⟩:=yY O.ok Z d 0 (n:=w.heap.size) (Zdp _) Z1;have Y:=BN O.ok Z O.ok.f_lt;refine⟨.pointer (some ⟨w.heap.size,0,none⟩),_,Zdf,_,W,I,?_⟩;generalize a.eval x=v at*;split at l
   ·rename_i o;simp only[o,Zdj,Zdx]at l;obtain⟨rfl,rfl⟩:=l;have⟨z,Q⟩:=t _ (List.Mem.head _);have⟨q,M,N,_⟩:=q9 Q;rw[hy]at q;cases q;have⟨K,L,f⟩:=J.cells M;refine⟨w.heap.size,v.cells,T,by simp[GH.give],rfl,ZdO w _,Zcq,λj ck p=> ?_⟩;simp at p;obtain⟨R,A,rfl⟩:=p;have D:j<c.P.cellsOf T:=by simpa using(Zdl.1 A).1
    have U:R=j:=by simpa[D]using A.symm
    subst U;have H:R<y.cells.length:=by rw[N rfl];exact D
    have u:=Zdk H;refine⟨y.cells[R],?_,L _ (ZdA _),(f R _ u).F.keep Y λb S=>S⟩;have a1:y.pc=y.cells:=by cases y<;>first|rfl|exact absurd rfl (M _)
    simp_all[eval,Zdt,ZZ,YR,if_pos,ZdA]
   ·rename_i o;have r:Y5 c.P T=false:=by simpa using o
    simp only[r,Zdj,Zdx]at l;obtain⟨rfl,rfl⟩:=l;have⟨z,Q⟩:=t _ (List.Mem.head _);have⟨q,M,_,N⟩:=q9 Q;rw[hy]at q;cases q;have⟨K,L,f⟩:=J.cells M;have X:=T9 (N rfl);rw[X]at K f;refine⟨w.heap.size,v.cells,T,by simp[GH.give],rfl,ZdO w _,Z0,λj ck p=> ?_⟩;cases j with
    |zero=>
     simp at p;subst p;exact⟨y,Q,N rfl,(f 0 y rfl).F.keep Y λb S=>S⟩
    |succ j=>simp at p
  grind
 grind
def MM off:∀(l:List (Value×Nat)) (d:Array Value) m,(∀i q,l[i]?=some q->q.2=m+i)->off+m+l.length<=d.size->
  (l.foldl (λd (c,j)=>d.setIfInBounds (off+j) c) d).size=d.size/\
  (∀x,x<off+m\/off+m+l.length<=x->(l.foldl (λd (c,j)=>d.setIfInBounds (off+j) c) d)[x]?=d[x]?)/\
  ∀i q,l[i]?=some q->(l.foldl (λd (c,j)=>d.setIfInBounds (off+j) c) d)[off+m+i]?=some q.1
 | [],d,m,_,_=>⟨rfl,λ_ _=>rfl,λi q k=>by simp at k⟩
 | (v,j)::l,d,m,f,o=>by
   have y:=f 0 (v,j) rfl;subst y
   have n:∀i q,l[i]?=some q->q.2=(j+1)+i:=λi q k=>by
    have:=f (i+1) q Zcp;omega
   simp at o;have⟨t,p,u⟩:=MM off l (d.setIfInBounds (off+j) v) (j+1) n Zcr;simp only[ZfL];refine⟨by rw[t];simp,λx r=> ?_,λi q k=> ?_⟩
   ·rw[p x (by simp at r;omega),Zed (by simp at r;omega)]
   ·cases i with
    |zero=>
     simp at k;subst k;rw[Zfq,p (off+j) Z0];have:off+j<d.size:=Z0;simp[this]
    |succ i=>
     have:=u i q Zcp;rw[show off+j+(i+1)=off+(j+1)+i from by omega];exact this
def Z6A off(v:Value)(cs:Array Value)(o:off+v.cells.size<=cs.size):
  (v.cells.zipIdx.foldl (λcs (c,j)=>cs.setIfInBounds (off+j) c) cs).size=cs.size/\
  (∀x,x<off\/off+v.cells.size<=x->(v.cells.zipIdx.foldl (λcs (c,j)=>cs.setIfInBounds (off+j) c) cs)[x]?=cs[x]?)/\
  ∀i,i<v.cells.size->(v.cells.zipIdx.foldl (λcs (c,j)=>cs.setIfInBounds (off+j) c) cs)[off+i]?=v.cells[i]? :=by
 have t:∀i q,v.cells.zipIdx.toList[i]?=some q->v.cells[i]?=some q.1/\q.2=0+i:=by
  intro i q f;rw[ZeE,Zhg,Zdm]at f;obtain⟨u,r,rfl⟩:=f;exact⟨r,Z0⟩
 have d:v.cells.zipIdx.toList.length=v.cells.size:=Z1;rw[<-ZfG];have⟨k,l,n⟩:=MM off v.cells.zipIdx.toList cs 0 (λi q f=>(t i q f).2) (by rw[d];omega);refine⟨k,λx y=>l x (by rw[d];omega),λi f=> ?_⟩
 have p:v.cells.zipIdx.toList[i]?=some (v.cells[i],0+i):=by
  rw[ZeE,Zhg];simp
 have:=n i _ p;rw[Zfq]at this;rw[this];simp
def ja place:∀parts d,(∀p∈parts,∃off,place p.1=some (off,p.2.cells.size)/\off+p.2.cells.size<=d.size)->
  ∃R,Instr.fill place d parts=some R/\R.size=d.size/\
   (∀x,(∀p∈parts,∀off n,place p.1=some (off,n)->x<off\/off+n<=x)->R[x]?=d[x]?)/\
   ∀pre p f,parts=pre++p::f->∀off,place p.1=some (off,p.2.cells.size)->(∀q∈f,∀o n,place q.1=some (o,n)->off+p.2.cells.size<=o\/o+n<=off)->∀j,j<p.2.cells.size->R[off+j]?=p.2.cells[j]?
 | [],d,_=>⟨d,rfl,rfl,λ_ _=>rfl,λpre p f u=>by simp at u⟩
 | (i,v)::parts,d,l=>by
   have⟨off,k,r⟩:=l (i,v) Z1;simp only at k r;have⟨K,H,L⟩:=Z6A off v d r;have⟨R,M,J,t,I⟩:=ja place parts (v.cells.zipIdx.foldl (λd (c,j)=>d.setIfInBounds (off+j) c) d) (λp u=>Zcq);refine⟨R,?_,Z0,λx D=> ?_,λpre p f u F z A j N=> ?_⟩
   ·have:¬(off+v.cells.size>d.size):=Z0;simp only[Instr.fill,k]
    grind
   ·rw[t x λp u=>D p (by simp[u])];exact H x (D (i,v) Z1 off _ k)
   ·cases pre with
    |nil=>
     grind
    |cons y pre=>
     grind
end
end Vm
namespace Vm
open Go
open Go.RowKit (Below)
def X0:List (CK×E)->List Nat->Nat->Option Nat
 | [],_,_=>none
 |(.own _,_)::_,t::_,0=>some t
 |(.own _,_)::r,_::d,i+1=>X0 r d i
 |(.own _,_)::_,[],_=>none
 |_::_,_,0=>none
 |_::r,d,i+1=>X0 r d i
def XA:List (CK×E)->Nat
 | []=>0
 |(.own _,_)::r=>XA r+1
 |_::r=>XA r
theorem C1:∀ {l} {d n:List Nat} {r:List (CK×E)} {i:Nat},XA l=d.length->i<l.length->X0 (l++r) (d++n) i=X0 l d i
 | [],_,_,_,_,_,j=>by simp at j
 | (k,e)::l,d,n,r,i,f,j=>by
   cases k with
   |own o=>
    cases d with
    |nil=>simp[XA]at f
    |cons t d=>
     simp only[XA,ZeM,Zh3]at f;cases i with
     |zero=>rfl
     |succ i=>simpa[X0]using C1 f Zcp
   |_=>
    simp only[XA]at f;cases i with
    |zero=>rfl
    |succ i=>simpa[X0]using C1 f Zcp
theorem C2:∀ {l} {d j:List Nat} {r:List (CK×E)} {i:Nat},XA l=d.length->X0 (l++r) (d++j) (l.length+i)=X0 r j i
 | [],d,j,r,i,f=>by
   grind [List.eq_nil_of_length_eq_zero,XA]
 | (k,e)::l,d,j,r,i,f=>by
   have n:(l.length+1+i)=(l.length+i)+1:=Z0;cases k with
   |own o=>
    cases d with
    |nil=>simp[XA]at f
    |cons t d=>
     simp_all[XA,ZeM,Zh3,ZeC,X0,C2]
   |_=>
    simp only[XA]at f;simp only[ZeM,ZeC,n,X0];exact C2 f
theorem Ha:∀l r,XA (l++r)=XA l+XA r
 | [],r=>by simp[XA]
 | (k,e)::l,r=>by
   cases k<;>simp only[ZeC,XA,Ha l r]<;>omega
section
variable {c:Ctx}{B:Nat}{G:Nat->Prop}{s:St}{a:Act}{w w':World}{h:GH}{g:Gam}{C:ZC}
def BRel(c:Ctx)(B:Nat)(s:St)(a:Act)(w:World)(h:GH)(cs:List (CK×E))(ts sh:List Nat)(i:Nat)(d:CK×E)(v:Value):Prop:=
 match d.1 with
 |.own f=>∃t,X0 cs ts i=some t/\t∈ts/\a.tmps[t]?=some v/\∃x,eval s d.2=some x/\OwnV c.P B w h (h.bl t 1) f x v
 |.nil=>v=.slice none 0 0/\eval s d.2=some (.sl [])
 |.fz=>∃x,eval s d.2=some x/\x.one=true/\Rd w (h.ext sh) x v
 |.dead=>False
def Z87{q}{z:Array Value}(I:∀(j:Nat) v,z[j]?=some v->∃x,q[j]?=some x/\WU v=some x)(u:z.size=q.length)o n:
  XA (KY q o n).1=0/\∀y H F i j t,(KY q o n).1[j]?=some t->BRel c B s a w h y H F i t (z.getD (o+j) undef):=by
 constructor
 ·unfold KY;simp only
  induction (List.take n (List.drop o q))with
  |nil=>rfl
  |cons x r J=>cases x<;>simp_all[XA]
 ·intro y H F i j t A;simp only[KY,ZdJ,Zdm]at A;obtain⟨x,l,rfl⟩:=A;rw[ZdY]at l;split at l
  ·rw[ZdW]at l;have k:o+j<z.size:=by rw[u];exact(Zdl.1 l).1
   have⟨K,p,d⟩:=I (o+j) z[o+j] (ZdQ k);rw[l]at p;cases p;have f:z.getD (o+j) undef=z[o+j]:=by simp[k]
   rw[f];generalize z[o+j]=v at d;unfold WU at d
   split at d<;>first
    |(simp at d;subst d;first|exact⟨_,rfl,rfl,.int _ _⟩|exact⟨_,rfl,rfl,.bool _⟩|exact⟨_,rfl,rfl,.str _⟩|exact⟨rfl,rfl⟩|exact⟨_,rfl,rfl,.nomp⟩|exact⟨_,rfl,rfl,.nul0⟩|exact⟨_,rfl,rfl,.nul1⟩)
    | (split at d<;>first
      | (rename_i D
         simp at d;subst d;rw[Zeo D.1,Zeo D.2];exact⟨_,rfl,rfl,.fn _⟩)
      |simp at d)
    |simp at d
  grind
def Z0Z{e}{n j:Nat}{z}(d:eval s (.fld e j)=some z):∃y,eval s e=some y/\y.pc[j]?=some z/\z.one=true:=by
 grind [eval,Option.bind_eq_some_iff,jg,ZZ,TO]
def Iw{x:V}(h:∀l,x≠.tup l):x.pc=x.cells:=by
 rfl
def jS(o:RelG c B G s a w h g)(k:holds s (ZI c C)){x d}(hx:YC g C x=some d){ag fl n}(F:n≠0){z}
  (q:eval s (WK ag n (XE fl d).1)=some z):
  (∀l,z≠.tup l)/\(ag=true->z.cells.length=n)/\(ag=false->z.one=true)/\Rd w (h.ext (XE fl d).2) z (a.eval x):=by
 have⟨y,p,f⟩:=WD o k (show YC g C x=some (d.1,d.2)from hx);have⟨j,u,A,D⟩:=q9 q;have⟨H,r,t⟩:=Rc (fl:=fl) (b:=d) p f ⟨z,j⟩;simp_all
def Z4w(S:RelG c B G s a w h g)(R:holds s (ZI c C)){n}(hn:n≠0){ag fl x}{b:BC}(I:AW g C n ag fl x=some b)(A:b.1.length=n)
  (u:∀o∈b.1,∃z,eval s o.2=some z):
  XA b.1=b.2.2.length/\(a.eval x).cells.size=n/\∀f,(∀t∈b.2.1,t∈f)->∀j o,b.1[j]?=some o->BRel c B s a w h b.1 b.2.2 f j o ((a.eval x).cells.getD j undef):=by
 have a3:∀ {b},((YC g C x).map λa0=>let a:=XE fl a0;let e:=WK ag n a.1;(if ag then(List.range n).map λj=>(CK.fz,E.fld e j)else [(.fz,e)],a.2,[]))=some b->b.1.length=n->(∀o∈b.1,∃z,eval s o.2=some z)->
   XA b.1=b.2.2.length/\(a.eval x).cells.size=n/\∀f,(∀t∈b.2.1,t∈f)->∀j o,b.1[j]?=some o->BRel c B s a w h b.1 b.2.2 f j o ((a.eval x).cells.getD j undef):=by
  intro b J A u;simp only[Zdm]at J;obtain⟨L,T,rfl⟩:=J
  have D:∀f,(∀t∈(XE fl L).2,t∈f)->∀b,h.ext (XE fl L).2 b->h.ext f b:=by
   intro f d b J;obtain J|⟨p,I,i,hi⟩:=J
   ·exact .inl J
   ·exact .inr ⟨p,d p I,i,hi⟩
  cases ag with
  |true=>
   simp only[Ze3]at A u⊢;have h0:=u (CK.fz,E.fld (WK true n (XE fl L).1) 0) (ZdB.2 ⟨0,Zft.2 Z0,rfl⟩);have⟨z0,a2⟩:=h0;have⟨y,K,_,_⟩:=Z0Z (n:=n) a2;have⟨W,h2,_,X⟩:=jS S R T hn K;have⟨O,Q,F⟩:=X.cells W;refine⟨?_,Zcq,λf d j o k=> ?_⟩
   ·generalize List.range n=l
    induction l with
    |nil=>rfl
    |cons q r ih=>simp_all[XA]
   ·simp at k;obtain⟨U,M,rfl⟩:=k;have a1:j<n:=by simpa using(Zdl.1 M).1
    have Y:U=j:=by simpa[a1]using M.symm
    subst Y;have H:y.cells[U]?=some (y.cells[U]'Zcq):=Zdk _;refine⟨_,?_,Q _ (Zdr H),(F U _ H).mono (D f d)⟩;simp_all[eval,Zdt,ZZ,Iw,YR,if_pos,Zdr]
  |false=>
   simp only[Zdy,Ze1]at A u⊢;have⟨y,K⟩:=u (CK.fz,WK false n (XE fl L).1) (Zes.2 rfl);have K:eval s (WK false n (XE fl L).1)=some y:=K;have⟨W,_,h3,X⟩:=jS S R T hn K;have⟨O,Q,F⟩:=X.cells W;rw[T9 (h3 rfl)]at O F;refine⟨rfl,Zcq,λf d j o k=> ?_⟩;cases j with
   |zero=>
    simp at k;subst k;exact⟨y,K,h3 rfl,(F 0 y rfl).mono (D f d)⟩
   |succ j=>simp at k
 unfold AW at I;split at I
 ·rename_i t ty e Z;simp at I;subst I;have⟨v,hv,⟨x,T,ho⟩,_⟩:=S.look R (show look g C t=_ from Z) rfl
  have N:v.cells=#[v]:=by
   obtain⟨l,xs,_,_,_,⟨_,hc⟩,_⟩|⟨_,_,_,_,_,_,_,rfl,_⟩:=ho
   ·obtain⟨rfl,_⟩|⟨_,_,_,rfl,_⟩:=hc<;>rfl
   ·rfl
  rw[Act.eval_tmp a t v hv,N];refine⟨rfl,Z0,λf d j o k=> ?_⟩;cases j with
  |zero=>
   simp at k;subst k;exact⟨t,rfl,Z1,by simpa using hv,x,T,by simpa using ho⟩
  |succ j=>simp at k
 ·rename_i Z;simp at I;subst I;rw[QQ S R Z];refine⟨rfl,by grind [Value.cells],λf d j o k=> ?_⟩;cases j with
  |zero=>simp at k;subst k;exact⟨rfl,rfl⟩
  |succ j=>simp at k
 grind
def BRel.left{cs r ts f sh i d v}(j:BRel c B s a w h cs ts sh i d v)(l:XA cs=ts.length)(k:i<cs.length):BRel c B s a w h (cs++r) (ts++f) sh i d v:=by
 grind [BRel,C1]
theorem BRel.right{cs r ts f sh i d v}(j:BRel c B s a w h r f sh i d v)(k:XA cs=ts.length):BRel c B s a w h (cs++r) (ts++f) sh (cs.length+i) d v:=by
 grind [BRel,C2]
def Dy(hr:RelG c B G s a w h g)(hC:holds s (ZI c C)){S parts}{z:Array Value}(hz:∀(j:Nat) v,z[j]?=some v->∃x,S[j]?=some x/\WU v=some x)(Q:z.size=S.length)sh:
  ∀H i o b,Jk g C S parts H i o=some b->(∀d∈b.1,∃z,eval s d.2=some z)->(∀t∈b.2.1,t∈sh)->
   o+b.1.length=S.length/\XA b.1=b.2.2.length/\
   (∀q f,H[q]?=some f->o<=f.1/\f.1+f.2.1<=S.length/\(∀(L:Nat) A,H[L]?=some A->q<L->f.1+f.2.1<=A.1))/\
   (∀q f p,H[q]?=some f->parts.find? (λp=>p.1==i+q)=some p->(a.eval p.2).cells.size=f.2.1)/\
   ∀R:Array Value,(∀q f,H[q]?=some f->∀j,j<f.2.1->R.getD (f.1+j) undef=match parts.find? (λp=>p.1==i+q)with|some p=>(a.eval p.2).cells.getD j undef|none=>z.getD (f.1+j) undef)->
    ∀j d,b.1[j]?=some d->BRel c B s a w h b.1 b.2.2 sh j d (R.getD (o+j) undef)
 | [],i,o,b,l,_,_=>by
   simp only[Jk]at l;split at l
   ·simp at l;subst l;exact⟨by simpa,rfl,λq f y=>by simp at y,λq f p y=>by simp at y,λR _ j d F=>by simp at F⟩
   grind
 |f::H,i,o,b,l,K,O=>by
  simp only[Jk,Zdi]at l;have⟨k,n,l⟩:=l;split at l
  ·rename_i J;have⟨ho,W,hn⟩:=J;simp only[Zdm]at l;obtain⟨b2,T,rfl⟩:=l;simp only[ZdL]at K O;have⟨h1,h2,h3,h4,h5⟩:=Dy hr hC hz Q sh H (i+1) (o+f.2.1) b2 T (λd I=>K d (.inr I)) (λt ht=>O t (.inr ht))
   have N:XA k.1=k.2.2.length/\(∀p,parts.find? (λp=>p.1==i)=some p->(a.eval p.2).cells.size=f.2.1)/\
     ∀j d,k.1[j]?=some d->BRel c B s a w h k.1 k.2.2 sh j d (match parts.find? (λp=>p.1==i)with|some p=>(a.eval p.2).cells.getD j undef|none=>z.getD (f.1+j) undef):=by
    unfold Is at n;cases r:parts.find? (λp=>p.1==i)with
    |some p=>
     simp only[r]at n;have⟨k1,k2,k3⟩:=Z4w hr hC hn n W λd I=>K d (.inl I)
     grind
    |none=>
     simp only[r,Zdj]at n;subst n;have⟨k1,k2⟩:=Z87 (c:=c) (B:=B) (s:=s) (a:=a) (w:=w) (h:=h) hz Q f.1 f.2.1;exact⟨k1,(λp' X=>by cases X),λj d F=>k2 _ _ sh j j d F⟩
   have⟨Z,f2,f3⟩:=N;refine⟨Zcp,by grind [Ha,List.length_append],λq A y=> ?_,λq A p y hp=> ?_,λR hR j d F=> ?_⟩
   ·cases q with
    |zero=>
     simp at y;subst y;refine⟨Z0,Z0,λL A Y D=> ?_⟩
     grind
    |succ q=>
     have⟨g1,g2,g3⟩:=h3 q A Zcp;refine⟨Z0,g2,λL a0 Y D=> ?_⟩;cases L with
     |zero=>omega
     |succ L=>grind
   ·cases q with
    |zero=>simp at y;subst y;exact f2 p (by simpa using hp)
    |succ q=>exact h4 q A p Zcp (by rw[show i+1+q=i+(q+1)from by omega];exact hp)
   ·by_cases D:j<k.1.length
    ·rw[ZdT D]at F;have M:=hR 0 f rfl j Z0;rw[ho]at M;rw[M];have:=f3 j d F;rw[ho]at this;exact(this).left Z D
    ·rw[ZdI Z0]at F
     have:=h5 R (λq A y j' U=>by
      have:=hR (q+1) A Zcp j' U
      grind) (j-k.1.length) d F
     have u:=this.right (cs:=k.1) (ts:=k.2.2) Z;rw[show k.1.length+(j-k.1.length)=j from by omega]at u;rw[show o+f.2.1+(j-k.1.length)=o+j from by omega]at u;exact u
  grind
def Ao:∀ {l},TM l=true->l.Nodup
 | [],_=>List.nodup_nil
 |x::l,d=>by
  simp only[TM,Zdn,Zeh,ZeP,Zga]at d;exact Zfd.2 ⟨d.1,Ao d.2⟩
def Eo{β:Type}:∀ {l:List (Nat×β)} {p:Nat×β},(l.map (·.1)).Nodup->p∈l->l.find? (λq=>q.1==p.1)=some p
 | [],p,_,d=>Zde
 |q::l,p,f,d=>by
  simp only[ZdK,Zfd]at f;obtain rfl|d:=ZdG.1 d
  ·simp
  ·have j:q.1≠p.1:=λk=>f.1 (by rw[k];exact ZdB.2 ⟨p,d,rfl⟩);rw[List.find?_cons_of_neg Zdh];exact Eo f.2 d
def Gd{α β:Type}{f}{g:α->β}:∀(l:List α),(∀x∈l,f x=some (g x))->l.mapM f=some (l.map g)
 | [],_=>rfl
 |x::l,d=>by
  simp_all[ZfD,Gd]
def Z18{β:Type}{n q f}{x:β}(h:((List.range n).map f)[q]?=some x):q<n/\x=f q:=by
 grind
def Mx(hr:RelG c B G s a w h g)(hC:holds s (ZI c C)){T fs}(Y:y5 c.P T=some fs){zs}(hz:zeroCells c.P T=some zs){parts:Array (Nat×Operand)}{b}
  (hb:Lh g C zs parts.toList fs=some b) (b0:∀ck∈b.1,∃z,eval s ck.2=some z):
  ∃vs,(Instr.build T (parts.map λ(i,x)=>(i,a.eval x))).run c.P w=.ok (.agg vs) w/\vs.size=b.1.length/\XA b.1=b.2.2.length/\
   ∀j ck,b.1[j]?=some ck->BRel c B s a w h b.1 b.2.2 b.2.1 j ck (vs.getD j undef):=by
 unfold Lh at hb;split at hb
 ·rename_i I;simp only[Zdn,Zdu,ZdH]at I;have⟨A,b4⟩:=I;have A:=Ao A;have⟨i,z,hi,a8,a3,N⟩:=CD hz
  obtain⟨place,k,H⟩:∃place,(∀q f,fs[q]?=some f->place q=some (f.1,f.2.1))/\
    ∀ps R,Instr.fill place z.cells ps=some R->c.P.built T ps=some R:=by
   unfold y5 at Y;split at Y
   ·rename_i b7 a4;cases Y;obtain⟨W,hu,a0,rfl⟩:=Nj a4
    have b5:W.toList.mapM (λf=>(c.P.info? f.type).map λi=>(f.offset,i.size))=some (W.toList.map λf=>(f.offset,c.P.cellsOf f.type)):=by
     apply Gd;intro f hf;have⟨d,i,hd,hi,hs,_⟩:=VW (a0 f (Array.mem_toList_iff.1 hf));simp[hi,hs]
    refine⟨λx=>(W.toList.map λf=>(f.offset,c.P.cellsOf f.type)).toArray[x]?,λq f S=> ?_,λps R hR=> ?_⟩
    ·simp at S;obtain⟨L,O,rfl⟩:=S;simp[O]
    ·simp only[Program.built,hi,hu,a8,b5];exact hR
   ·rename_i n el a4;split at Y
    ·rename_i a0;cases Y;have hu:=Cg a4;have⟨d,i',hd,b1,hs,_⟩:=VW a0;refine⟨λx=>some (x*c.P.cellsOf el,c.P.cellsOf el),λq f S=> ?_,λps R hR=> ?_⟩
     ·obtain⟨_,rfl⟩:=Z18 S;rfl
     ·simp only[Program.built,hi,hu,a8,b1,<-hs];exact hR
    ·cases Y
   ·cases Y
  have⟨h1,h2,h3,h4,h5⟩:=Dy hr hC N a3 b.2.1 _ 0 0 b hb b0 (λt ht=>ht);simp only[Ze7]at h1 h4 h5
  have y:∀p∈parts.toList,∃f,fs[p.1]?=some f/\(a.eval p.2).cells.size=f.2.1:=by
   intro p hp;have hl:=b4 p hp;refine⟨_,Zdk hl,h4 p.1 _ p (Zdk hl) (Eo A hp)⟩
  have⟨R,hR,a9,X,a5⟩:=ja place (parts.toList.map λp=>(p.1,a.eval p.2)) z.cells (by
   intro p hp;obtain⟨K,u,rfl⟩:=ZdB.1 hp;have⟨f,hf,D⟩:=y K u;refine⟨f.1,by rw[k _ f hf,D],?_⟩;simp only;rw[D,a3];exact(h3 _ f hf).2.1)
  have M:c.P.built T (parts.map λ(i,x)=>(i,a.eval x)).toList=some R:=H _ _ (by simpa only[Zev]using hR);refine⟨R,run_build w T _ R M,by rw[a9,a3];omega,h2,λj ck hj=>h5 R (λq f S j' b3=> ?_) j ck hj⟩
  have J:∀q' L,fs[q']?=some L->q'≠q->f.1+f.2.1<=L.1\/L.1+L.2.1<=f.1:=by
   intro q' L U Z;obtain hl|hl:=Zg9 Z
   ·exact .inr ((h3 q' L U).2.2 q f S hl)
   ·exact .inl ((h3 q f S).2.2 q' L U hl)
  cases r:parts.toList.find? (λp=>p.1==q)with
  |some p=>
   have a7:=ZfU r;have a1:p.1=q:=by simpa using ZgG r
   have⟨pre,b6,a2⟩:=List.append_of_mem a7;have⟨L,O,D⟩:=y p a7;rw[a1,S]at O;cases O
   have b2:=a5 (pre.map λp=>(p.1,a.eval p.2)) (p.1,a.eval p.2) (b6.map λp=>(p.1,a.eval p.2)) (by rw[a2];simp) f.1 (by rw[a1,k q f S,D]) (by
    intro q' U o n Q;obtain⟨K,u,rfl⟩:=ZdB.1 U;have⟨F,l,_⟩:=y K (by rw[a2];simp[u]);simp only at Q;rw[k _ F l]at Q;simp at Q;obtain⟨rfl,rfl⟩:=Q;simp only;rw[D];refine J K.1 F l λhe=> ?_;rw[a2]at A;simp only[ZeL,ZdK,Zgg,Zfd]at A;exact A.2.1.1 (by rw[a1,<-he];exact ZdB.2 ⟨K,u,rfl⟩)) j' (by simp only;rw[D];exact b3)
   simp;rw[b2]
  |none=>
   have a6:=X (f.1+j') (by
    intro p hp off n Q;obtain⟨K,u,rfl⟩:=ZdB.1 hp;have⟨F,l,_⟩:=y K u;simp only at Q;rw[k _ F l]at Q;simp at Q;obtain⟨rfl,rfl⟩:=Q
    have Z:K.1≠q:=λhe=>by
     have:=List.find?_eq_none.1 r K u;simp[he]at this
    have:=J K.1 F l Z;omega)
   simp;rw[a6]
 ·simp at hb
end
end Vm
end
