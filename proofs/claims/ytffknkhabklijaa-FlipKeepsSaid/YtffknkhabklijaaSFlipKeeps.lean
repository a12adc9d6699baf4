/-
  The law FlipKeeps holds of the given program, for every input.
-/
import Derived.Deep.DeepCutAuto
import Derived.Test.YtffknkhabklijaaRows
import Derived.Conc.LeavingOf
import Derived.Test.YtffknkhabklijaaSFlipKeeps7
set_option linter.unusedSimpArgs false
set_option linter.unusedVariables false
set_option linter.defProp false
open Option renaming some→xk,none→xw
open Bool renaming true→xy,false→xh
open List renaming length→P
open Array renaming size→U
open Go.World renaming heap→R
open List renaming length→xq
open Array renaming size→xz
open Go.World renaming heap→xj
set_option maxHeartbeats 40000000
set_option maxRecDepth 100000
theorem Zd6{p:Prop}(h:p:=by simp only[US,Qa,List.map_cons,List.map_nil,List.foldl_cons,List.foldl_nil,List.setIfInBounds_toArray,List.set_cons_succ,List.set_cons_zero]):p:=h
theorem ZdF{p:Prop}(h:p:=by show U (R w)≤c;omega):p:=h
theorem Zd1{p:Prop}(h:p:=by unfold YV;omega):p:=h
theorem ZcZ{p:Prop}(h:p:=by rw[Xb M.out];exact F.out.pure (by unfold YV;omega) rfl rfl):p:=h
theorem Zda{p:Prop}(h:p:=by rw[Xb M.out];exact F.out.call (by unfold Xs;omega) rfl U.out.1 U.out.2):p:=h
theorem Zdd{p:Prop}(h:p:=by unfold Xs;omega):p:=h
def Zi9:=@Go.wp_scope_jumps
def ZfR:=@List.setIfInBounds_toArray
def ZgI:=@List.set_cons_succ
section
namespace Vm
open Go Go.Proofs Go.RowKit
def Lt(w:Z3)(r:Hp×Int)(e:Ending)(w':Z3):Prop:=
 ∃x,e=.returned (.tuple #[ZN r.1 x,.int .i64 r.2])/\Below (U (R w)) w w'/\∀j,j<5->Rd w' (λc=>U (R w)<=c/\c<U (R w')) (.sl ((Zu r.1 j).map vu)) (x j)
def Cm{w:Z3}{G:Z5}{h:Hp}{x:Z8}(k:h.ok)(f:∀b,G b->b<U (R w))(l:∀j,j<5->Rd w G (.sl ((Zu h j).map vu)) (x j)):
  Calls Sol.prog 25 #[ZN h x] w λe d=>e=.returned (.bool (YS h))/\Below (U (R w)) w d:=by
 refine ZgN ((Lr k).2 w G _ f rfl ?_) ?_;intro i y a
 match i,a with
 |0,a=>cases a;exact FX l
 rintro e d ⟨v,rfl,g,n⟩;exact⟨by rw[MH n],g⟩
def P5(w:Z3)(G:Z5)(r:∀b,G b->b<U (R w))(h:Hp)(A:h.ok)(a:Z8)(y:∀j,j<5->Rd w G (.sl ((Zu h j).map vu)) (a j))(u:YS h=xh):
  Calls Sol.prog 36 #[ZN h a] w (Lt w (Hp.zero,1)):=by
 have p:∀W,Below (U (R w)) w W->Calls Sol.prog 25 #[ZN h a] W λe D=>e=.returned (.bool (YS h))/\Below (U (R W)) W D:=λW t=>
  Cm (w:=W) (G:=G) (x:=a) A (λb f=>Ze1 (r b f) t.size) (λj B=>(y j B).keep (λb f=>t.block b (r b f)) λ_ q=>q)
 rw[u]at p;have z:=ZdX p;clear p;clear y u;unfold ZN;go_enter Sol.func36,Try.ntmps36;go_wp2;refine Zi9 0 (λ_ _=>False) (λ_ _=>0) rfl ?_ (λ_ _ h=>h.elim);go_upto_region 2 with (first
  | (go_at_call 25;refine(z.out _ ?_).mono ?_;rotate_left;rintro e g ⟨rfl,d⟩
     have o:g.heap[U (R w)]?=xk (.cells #[.int .u64 h.base,.int .i64 h.cap,.int .i64 h.to,.bool h.cycle,.int .i64 h.scan,a 0,a 1,a 2,a 3,a 4] 37 (0,0)):=(d.block _ ZcP).trans ((ZdY _ _ _ Z1).trans (Zej w _));have k:g.heap[U (R w)+1]?=xk (.cells ZW 37 (0,0)):=(d.block _ Z1).trans (TJ w _);have H:∀j,g.cell? ⟨U (R w),j,xw⟩=(#[.int .u64 h.base,.int .i64 h.cap,.int .i64 h.to,.bool h.cycle,.int .i64 h.scan,a 0,a 1,a 2,a 3,a 4]:Array Value)[j]? :=λj=>Ze6 _ _ _ _ _ _ o;have F:∀j,g.cell? ⟨U (R w)+1,j,xw⟩=ZW[j]? :=λj=>Ze6 _ _ _ _ _ _ k;unfold ZW at F;have fz:∀j,g.frozen? ⟨U (R w)+1,j,xw⟩=xh:=λj=>Yi k;have l:=ZdX d;have n:=ZdX (And.intro o k);clear d o k))
 case refine_1=>exact((Zeh _ w).alloc (ZdU _) _).alloc Z1 _
 go_wp2;simp only[Exit.jump];have C:=VP n.out.2 (.int .u64 0) (.int .i64 0) (.int .i64 0) (.bool xh) (.int .i64 0) (.slice xw 0 0) (.slice xw 0 0) (.slice xw 0 0) (.slice xw 0 0) (.slice xw 0 0);refine ZeP (v:=.tuple #[.agg ZW,.int .i64 1]) ?_ rfl ?_
 .simp[results,Try.results36,go_sem,C,ZW]
 exact⟨λ_=>.slice xw 0 0,rfl,V2 (Below.trans (((Zeh _ w).alloc (ZdU _) _).alloc Z1 _) (l.out.mono ZcP)) Z0 _ _ _ _ _ _ _ _ _ _,OJ _ _⟩
def P6(w:Z3)(G:Z5)(r:∀b,G b->b<U (R w))(h:Hp)(A:h.ok)(a:Z8)(y:∀j,j<5->Rd w G (.sl ((Zu h j).map vu)) (a j))(u:YS h=xy)(hc:h.cycle=xy):
  Calls Sol.prog 36 #[ZN h a] w (Lt w (Hp.zero,10)):=by
 have g:∀W,Below (U (R w)) w W->Calls Sol.prog 25 #[ZN h a] W λe D=>e=.returned (.bool (YS h))/\Below (U (R W)) W D:=λW t=>
  Cm (w:=W) (G:=G) (x:=a) A (λb f=>Ze1 (r b f) t.size) (λj B=>(y j B).keep (λb f=>t.block b (r b f)) λ_ q=>q)
 rw[u]at g;unfold ZN at g;rw[hc]at g;have z:=ZdX g;clear g;clear y u;unfold ZN;rw[hc];clear hc;go_enter Sol.func36,Try.ntmps36;go_wp2;refine Zi9 0 (λ_ _=>False) (λ_ _=>0) rfl ?_ (λ_ _ h=>h.elim);go_upto_region 4 with (first
  | (go_at_call 25;refine(z.out _ ?_).mono ?_;rotate_left;rintro e k ⟨rfl,d⟩
     have p:k.heap[U (R w)]?=xk (.cells #[.int .u64 h.base,.int .i64 h.cap,.int .i64 h.to,.bool xy,.int .i64 h.scan,a 0,a 1,a 2,a 3,a 4] 37 (0,0)):=(d.block _ ZcP).trans ((ZdY _ _ _ Z1).trans (Zej w _));have l:k.heap[U (R w)+1]?=xk (.cells ZW 37 (0,0)):=(d.block _ Z1).trans (TJ w _);have H:∀j,k.cell? ⟨U (R w),j,xw⟩=(#[.int .u64 h.base,.int .i64 h.cap,.int .i64 h.to,.bool xy,.int .i64 h.scan,a 0,a 1,a 2,a 3,a 4]:Array Value)[j]? :=λj=>Ze6 _ _ _ _ _ _ p;have F:∀j,k.cell? ⟨U (R w)+1,j,xw⟩=ZW[j]? :=λj=>Ze6 _ _ _ _ _ _ l;unfold ZW at F;have fz:∀j,k.frozen? ⟨U (R w)+1,j,xw⟩=xh:=λj=>Yi l;have n:=ZdX d;have o:=ZdX (And.intro p l);clear d p l))
 case refine_1=>exact((Zeh _ w).alloc (ZdU _) _).alloc Z1 _
 go_wp2;simp only[Exit.jump];have C:=VP o.out.2 (.int .u64 0) (.int .i64 0) (.int .i64 0) (.bool xh) (.int .i64 0) (.slice xw 0 0) (.slice xw 0 0) (.slice xw 0 0) (.slice xw 0 0) (.slice xw 0 0);refine ZeP (v:=.tuple #[.agg ZW,.int .i64 10]) ?_ rfl ?_
 .simp[results,Try.results36,go_sem,C,ZW]
 exact⟨λ_=>.slice xw 0 0,rfl,V2 (Below.trans (((Zeh _ w).alloc (ZdU _) _).alloc Z1 _) (n.out.mono ZcP)) Z0 _ _ _ _ _ _ _ _ _ _,OJ _ _⟩
section
def Z6T{P:Z4}{a:Act}{w:Z3}{Q:Zi}{c rest:Code}(l:Nat)(J:ZcJ)(μ:Act->World->Nat)(j:findLabel c l=xk (.seq .skip rest))
  (pass:∀a w,J a w->rest.wp P (Exit.jump l (λd g=>J d g/\μ d g<μ a w) Q) a w)
  (first:(∀a w,J a w->rest.wp P (Exit.jump l J Q) a w)->c.wp P (Exit.jump l J Q) a w):(Code.scope c).wp P Q a w:=
 Zi9 l J μ j (first λa w f=>Code.wp_mono (λe d g h=>by
  cases e<;>first
   |exact h
   |exact⟨h.1,h.2.1⟩) (pass a w f)) λa w f=>wp_seq (wp_skip (pass a w f))
def Ps{t:Za}{n:Nat}(h:t.size=n):t=((List.range n).map λi=>t.getD i undef).toArray:=by
 apply ZgB;simp[h];intro i a d;simp[Array.getD,a]
def Z5A{w2:Z3}{b:Nat}{T:Z9}{k l n o p q r t u w:Z7}(x:w2.heap[b]?=xk (.cells #[k,l,n,o,p,q,r,t,u,w] T (0,0)))(v0 v1 a d v4 f v6 g h j:Z7):((((((((((w2.setCell ⟨b,0,xw⟩ v0).setCell ⟨b,1,xw⟩ v1).setCell ⟨b,2,xw⟩ a).setCell ⟨b,3,xw⟩ d).setCell ⟨b,4,xw⟩ v4).setCell ⟨b,5,xw⟩ f).setCell ⟨b,6,xw⟩ v6).setCell ⟨b,7,xw⟩ g).setCell ⟨b,8,xw⟩ h).setCell ⟨b,9,xw⟩ j).heap[b]?=xk (.cells #[v0,v1,a,d,v4,f,v6,g,h,j] T (0,0)):=by
 simp[World.setCell,ZeF,x]
def W4(h:Hp)(x:Z8):Array Value:=#[.int .u64 h.base,.int .i64 h.cap,.int .i64 h.to,.bool h.cycle,.int .i64 h.scan,x 0,x 1,x 2,x 3,x 4]
structure FlI (w W:World) (c:Nat) (g:Hp) (x:Nat->Value):Prop where
 below:Below (U (R w)) w W
 rb:W.heap[U (R w)+1]?=xk (.cells ZW 37 (0,0))
 le:U (R w)+2<=c
 nb:W.heap[c]?=xk (.cells (W4 g x) 37 (0,0))
 rd:∀j,j<5->Rd W (λb=>U (R w)+2<=b/\b<U (R W)/\b≠c) (.sl ((Zu g j).map vu)) (x j)
def Z16{n:Int}(h:n=0\/n=1):Yt (1-n):=by unfold Yt;omega
def Z1g{h:Hp}(p:h.ok)(q:h.to=0\/h.to=1):(YI h).ok:=by
 obtain⟨d,f,r,t,g,j,u,x,k,l,n,y,z,o⟩:=p;exact⟨d,f,Z16 q,⟨by show _<=(0:Int);omega,by show(0:Int)<=_;omega⟩,ZeJ _,ZeJ _,g,j,k,λw a=>(by cases a),λw a=>(by cases a),l,n,o⟩
def Z6n{h:Hp}(z:h.ok){k:Nat}{v:Int}(A:ZC v):({h with roots:=h.roots.set k v}:Hp).ok:=by
 obtain⟨d,f,g,j,l,n,o,p,q,r,t,u,x,y⟩:=z;refine⟨d,f,g,j,l,n,o,p,by simp only[ZgG];exact q,r,t,u,x,λw a=> ?_⟩;obtain a|rfl:=Zfr a;exact y w a;exact A
def Z1t{l:Zc}(h:∀w∈l,ZC w)(i:Nat):ZC ((l[i]?).getD 0):=by
 cases e:l[i]? with
 |none=>exact⟨Zd7,Zd7⟩
 |some x=>exact h x (ZdW e)
def jT{h:Hp}(a:h.ok)(d:h.to=0\/h.to=1):∀k,(Xn (YI h) k).ok
 |0=>Z1g a d
 |k+1=>by
  have g:=jT a d k;have f:=FJ g (Z1t g.rootsW k);exact Z6n f.1 f.2
def WU(i:Nat):Nat:=if i<7 then 39+i else if i=7 then 38 else if i=8 then 46 else if i=9 then 47 else if i=10 then 48 else if i=11 then 7 else if i=12 then 6 else if i=14 then 8 else 0
def D3:∀i,i<15->∀j,j<15->i≠j->WU i≠WU j:=Zd7
def frE(c:Nat)(g:Hp)(x:Z8)(k:Nat)(a:Z7)(u:Int):Nat->Value
 |0=>.agg (W4 g x)
 |1=>.pointer (xk ⟨c,9,xw⟩)
 |2=>x 4
 |3=>.int .i64 k
 |4=>a
 |_=>.int .u64 u
def SP(fv:Int)(g':Hp)(a:Z8):Value:=.tuple #[.int .u64 fv,.agg (W4 g' a),.int .i64 0]
def FrV(E:Z8)(fv:Int)(g':Hp)(O:(Nat->Value)->Prop)(i:Nat)(val:Z7):Prop:=
 if i<6 then val=E i else if i=6\/i=7 then ∃a,val=SP fv g' a/\O a else if i=9 then ∃a,val=.agg (W4 g' a)/\O a else if i=8\/i=12 then val=.int .u64 fv else val=.int .i64 0
def FrV.mono{E:Z8}{fv:Int}{g':Hp}{O a:(Nat->Value)->Prop}{i:Nat}{val:Z7}(h:FrV E fv g' O i val)(d:∀x,O x->a x):FrV E fv g' a i val:=by
 unfold FrV at*;split;rename_i c;rw[if_pos c]at h;exact h;rename_i c;rw[if_neg c]at h;split;rename_i c;rw[if_pos c]at h;obtain⟨x,e,o⟩:=h;exact⟨x,e,d x o⟩;rename_i c;rw[if_neg c]at h;split;rename_i c;rw[if_pos c]at h;obtain⟨x,e,o⟩:=h;exact⟨x,e,d x o⟩;rename_i c;rw[if_neg c]at h;exact h
structure FrO (W0 W:World) (L:Nat->Bool) (v:Nat->Value) (g':Hp) (x':Nat->Value):Prop where
 own:HOwn (U (R W0)) W g' x'
 far:∀j,j<5->∀b,(x' j).ownBlock=xk b->L 11=xy->v 7≠.pointer (xk ⟨b,0,xw⟩)
structure FrC (W0:World) (E:Nat->Value) (fv:Int) (g':Hp) (L:Nat->Bool) (v:Nat->Value) (W:World):Prop where
 b:Below (U (R W0)) W0 W
 val:∀i,i<15->i≠11->i≠13->L i=xy->FrV E fv g' (FrO W0 W L v g') i (v (WU i))
 new:L 11=xy->∃c,v 7=.pointer (xk ⟨c,0,xw⟩)/\U (R W0)<=c/\c<U (R W)/\(L 13=xh->W.heap[c]?=xk (.cells ZW 37 (0,0)))
 put:L 13=xy->∃c x',v 7=.pointer (xk ⟨c,0,xw⟩)/\W.heap[c]?=xk (.cells (W4 g' x') 37 (0,0))/\FrO W0 W L v g' x'
 c13:L 13=xy->L 11=xy
section
variable {W0 W W':Z3}{E:Z8}{fv:Int}{g':Hp}{L:ZcK}{v:Z8}
def FrO.keep{d:ZcK}{v':Z8}{a:Z8}(o:FrO W0 W L v g' a)(k:∀j,j<5->∀b,(a j).ownBlock=xk b->W'.heap[b]?=W.heap[b]?)(l:U (R W)<=U (R W'))
  (h:∀j,j<5->∀b,(a j).ownBlock=xk b->d 11=xy->v' 7≠.pointer (xk ⟨b,0,xw⟩)):FrO W0 W' d v' g' a:=
 ⟨⟨λj f=>WJ (o.own.own j f) λb g=>k j f b g,o.own.apart⟩,h⟩
def FrC.step(C:FrC W0 E fv g' L v W){i s:Nat}(A:i<15)(t:i≠11)(F:i≠13)(G:s=WU i){x:Z7}(l:Below (U (R W)) W W')
  (H:FrV E fv g' (FrO W0 W' L v g') i x):FrC W0 E fv g' (add L i) (ZG v s x) W':=by
 subst G;have g:add L i 11=L 11:=WD Z0;have k:add L i 13=L 13:=WD Z0;have q:ZG v (WU i) x 7=v 7:=TB v x (show WU 11≠WU i from D3 11 Z0 i A (ZfF t));have B:∀f,FrO W0 W L v g' f->FrO W0 W' (add L i) (ZG v (WU i) x) g' f:=λf o=>o.keep (λj h b d=>l.block b ((o.own.own j h).lt b d).2) l.size (λj h b d=>by rw[g,q];exact o.far j h b d);have y:∀f,FrO W0 W' L v g' f->FrO W0 W' (add L i) (ZG v (WU i) x) g' f:=λf o=>o.keep (λ_ _ _ _=>rfl) (ZdU _) (λj h b d=>by rw[g,q];exact o.far j h b d);refine⟨C.b.trans (l.mono C.b.size),λj h u w a=> ?_,λa=> ?_,λa=> ?_,λa=> ?_⟩;by_cases e:j=i;subst e;rw[R8];exact H.mono y;rw[WD e]at a;rw[TB v x (D3 j h i A e)];exact(C.val j h u w a).mono B;rw[g]at a;obtain⟨c,r,n,p,D⟩:=C.new a;refine⟨c,by rw[q];exact r,n,Ze1 p l.size,λz=> ?_⟩;rw[k]at z;exact(l.block c p).trans (D z);rw[k]at a;obtain⟨c,f,r,n,p⟩:=C.put a;exact⟨c,f,by rw[q];exact r,(l.block c (YC n)).trans n,B f p⟩;rw[k]at a;rw[g];exact C.c13 a
def FrC.call(C:FrC W0 E fv g' L v W){g:Z8}(o:Below (U (R W)) W W')(f:HOwn (U (R W)) W' g' g):FrC W0 E fv g' (add L 6) (ZG v 45 (SP fv g' g)) W':=by
 refine C.step Z0 Z0 Z0 rfl o ?_;unfold FrV;rw[if_neg Z0,if_pos (.inl rfl)];refine⟨g,rfl,⟨λj d=>KF (f.own j d) λb k l=>⟨Zes C.b.size k,l⟩,f.apart⟩,λj d b a n e=> ?_⟩;obtain⟨c,h,_,p,_⟩:=C.new n;rw[h]at e;cases e;have:=((f.own j d).lt b a).1;omega
def FrC.alloc(C:FrC W0 E fv g' L v W)(h:L 11=xh):FrC W0 E fv g' (add L 11) (ZG v 7 (.pointer (xk ⟨U (R W),0,xw⟩))) (W.alloc (.cells ZW 37)):=by
 have k:L 13=xh:=by
  cases e:L 13 with
  |false=>rfl
  |true=>have:=C.c13 e;rw[h]at this;cases this
 have l:Below (U (R W)) W (W.alloc (.cells ZW 37)):=(Zeh _ _).alloc (ZdU _) _;have r:U (R (W.alloc (.cells ZW 37)))=U (R W)+1:=Z1;have q:∀p,FrO W0 W L v g' p->FrO W0 (W.alloc (.cells ZW 37)) (add L 11) (ZG v 7 (.pointer (xk ⟨U (R W),0,xw⟩))) g' p:=λp o=>o.keep (λj g b d=>l.block b ((o.own.own j g).lt b d).2) l.size (λj g b d _=>by
  rw[R8];intro e;cases e;have:=((o.own.own j g).lt _ d).2;omega)
 refine⟨C.b.trans (l.mono C.b.size),λj g f n a=> ?_,λa=> ?_,λa=> ?_,λa=> ?_⟩;rw[WD f]at a;rw[TB v _ (s:=7) (t:=WU j) (show WU j≠7 from D3 j g 11 Z0 f)];exact(C.val j g f n a).mono q;exact⟨U (R W),R8 _ _ _,C.b.size,Z0,λ_=>Zej W _⟩;rw[WD Z0,k]at a;cases a;exact LB _ _
def FrC.store(C:FrC W0 E fv g' L v W){c:Nat}(hc:v 7=.pointer (xk ⟨c,0,xw⟩)){y:Z8}(z:FrO W0 W L v g' y)(a:L 11=xy)(D:L 13=xh)(G:W.heap[c]?=xk (.cells ZW 37 (0,0)))
  (u:∀b,b≠c->W'.heap[b]?=W.heap[b]?) (F:U (R W')=U (R W)) (x:W'.heap[c]?=xk (.cells (W4 g' y) 37 (0,0))) (w:Below (U (R W0)) W W'):FrC W0 E fv g' (add L 13) v W':=by
 have k:add L 13 11=L 11:=WD Z0;have r:∀n,FrO W0 W L v g' n->FrO W0 W' (add L 13) v g' n:=λn o=>o.keep (λj g b d=>u b (λe=>by subst e;exact o.far j g b d a hc)) Z0 (λj g b d _=>o.far j g b d a);obtain⟨A,p,t,B,_⟩:=C.new a;rw[hc]at p;cases p;refine⟨C.b.trans w,λj g l h f=> ?_,λf=> ?_,λf=> ?_,λf=>by rw[k];exact a⟩;rw[WD h]at f;exact(C.val j g l h f).mono r;refine⟨c,hc,t,Z0,λq=> ?_⟩;rw[LB]at q;cases q;exact⟨c,y,hc,x,r y z⟩
def FrC.e(C:FrC W0 E fv g' L v W)(i:Nat)(d:i<6)(a:L i=xy):v (WU i)=E i:=by
 have:=C.val i Z0 Z0 Z0 a;unfold FrV at this;rwa[if_pos d]at this
def FrC.t(C:FrC W0 E fv g' L v W)(i:Nat)(f:i=6\/i=7)(d:L i=xy):∃a,v (WU i)=SP fv g' a/\FrO W0 W L v g' a:=by
 have:=C.val i Z0 Z0 Z0 d;unfold FrV at this;rwa[if_neg Z0,if_pos f]at this
def FrC.a(C:FrC W0 E fv g' L v W)(f:L 9=xy):∃d,v 47=.agg (W4 g' d)/\FrO W0 W L v g' d:=by
 have:=C.val 9 Z0 Z0 Z0 f;unfold FrV at this;rwa[if_neg Z0,if_neg Z0,if_pos rfl]at this
def FrC.f(C:FrC W0 E fv g' L v W)(i:Nat)(d:i=8\/i=12)(a:L i=xy):v (WU i)=.int .u64 fv:=by
 have:=C.val i Z0 Z0 Z0 a;unfold FrV at this;rwa[if_neg Z0,if_neg Z0,if_neg Z0,if_pos d]at this
def FrC.z(C:FrC W0 E fv g' L v W)(i:Nat)(d:i=10\/i=14)(a:L i=xy):v (WU i)=.int .i64 0:=by
 have:=C.val i Z0 Z0 Z0 a;unfold FrV at this;rwa[if_neg Z0,if_neg Z0,if_neg Z0,if_neg Z0]at this
def FrC.pe(C:FrC W0 E fv g' L v W)(i:Nat)(a:i<6){s:Nat}(d:s=WU i):FrC W0 E fv g' (add L i) (ZG v s (E i)) W:=
 C.step Z0 Z0 Z0 d (Zeh _ _) (by unfold FrV;rw[if_pos a])
def FrC.pt(C:FrC W0 E fv g' L v W){a:Z8}(o:FrO W0 W L v g' a):FrC W0 E fv g' (add L 7) (ZG v 38 (SP fv g' a)) W:=
 C.step Z0 Z0 Z0 rfl (Zeh _ _) (by unfold FrV;rw[if_neg Z0,if_pos (.inr rfl)];exact⟨a,rfl,o⟩)
def FrC.pa(C:FrC W0 E fv g' L v W){a:Z8}(o:FrO W0 W L v g' a):FrC W0 E fv g' (add L 9) (ZG v 47 (.agg (W4 g' a))) W:=
 C.step Z0 Z0 Z0 rfl (Zeh _ _) (by unfold FrV;rw[if_neg Z0,if_neg Z0,if_pos rfl];exact⟨a,rfl,o⟩)
def FrC.pf(C:FrC W0 E fv g' L v W)(i:Nat)(a:i=8\/i=12){s:Nat}(d:s=WU i):FrC W0 E fv g' (add L i) (ZG v s (.int .u64 fv)) W:=
 C.step Z0 Z0 Z0 d (Zeh _ _) (by unfold FrV;rw[if_neg Z0,if_neg Z0,if_neg Z0,if_pos a])
def FrC.pz(C:FrC W0 E fv g' L v W)(i:Nat)(d:i=10\/i=14){s:Nat}(a:s=WU i):FrC W0 E fv g' (add L i) (ZG v s (.int .i64 0)) W:=
 C.step Z0 Z0 Z0 a (Zeh _ _) (by unfold FrV;rw[if_neg Z0,if_neg Z0,if_neg Z0,if_neg Z0])
end
def Z5K{W:Z3}{G:Z5}{l:Zc}{y:Z7}(h:Rd W G (.sl (l.map vu)) y){k:Nat}{u:Int}(j:l[k]?=xk u):∃b o cap,y=.slice (xk ⟨b,o,xw⟩) (P l) cap/\W.cell? ⟨b,o+k,xw⟩=xk (.int .u64 u)/\G b:=by
 have g:=(ZdQ.1 j).1;generalize a:l.map vu=L at h;cases h with
 |nil=>simp at a;subst a;simp at g
 |sl _ b o cap w vs x z n p q r=>
  have d:P L=P l:=by rw[<-a,Zem]
  have f:w=1:=by
   have:=(p (vu u) (by rw[<-a];exact ZfO (ZdW j))).1;simpa using this.symm
  subst f;refine⟨b,o,cap,by rw[d],?_,n⟩;rw[q k Z0];have t:(flat L)[k]?=xk (vu u):=by rw[<-a,Fl,Zed,j];rfl
  rw[KW (r k _ t)]
end
def P7(w:Z3)(G:Z5)(hG:∀b,G b->b<xz (xj w))(h:Hp)(hh:h.ok)(A:Z8)(hs:∀j,j<5->Rd w G (.sl ((Zu h j).map vu)) (A j)){p:Pts}(r:Rt h p)(hc:h.cycle=xh):
  Calls Sol.prog 36 #[ZN h A] w (Lt w (Th h,0)):=by
 have hR:∀W,Below (xz (xj w)) w W->Calls Sol.prog 25 #[ZN h A] W λe w'=>e=.returned (.bool (YS h))/\Below (xz (xj W)) W w':=λW J=>
  Cm (w:=W) (G:=G) (x:=A) hh (λb a5=>Ze1 (hG b a5) J.size) (λj D=>(hs j D).keep (λb a5=>J.block b (hG b a5)) λ_ q=>q)
 rw[r.right]at hR;unfold ZN at hR;rw[hc]at hR;have HR:=ZdX hR;have HS:=ZdX hs;have HH:=ZdX hh;have f5:=ZdX r;have F:=ZdX hc;have i5:h.to=0\/h.to=1:=by have:=WB.1 r.lay;exact this.2.2.2.2.1
 have m0:=Zy (1-h.to) Z0 Z0;clear hR hs hh r i5;unfold ZN;rw[hc];clear hc;go_enter Sol.func36,Try.ntmps36;go_wp2;refine Z6T 0 (λa W=>∃(c k:Nat) (x:Z8),a.defers=[]/\a.tmps.size=72/\a.tmps.getD 2 undef=.pointer (xk ⟨xz (xj w)+1,0,xw⟩)/\a.tmps.getD 4 undef=.pointer (xk ⟨c,0,xw⟩)/\a.tmps.getD 5 undef=.int .i64 k/\k<=xq h.roots/\FlI w W c (Xn (YI h) k) x) (λa _=>xq h.roots- (intOf (a.tmps.getD 5 undef)).toNat) rfl ?_ ?_
 .rintro a W ⟨c,k,x,hd,e9,h2,h4,h5,hk,HI⟩;obtain⟨t,d⟩:=a;simp only at hd e9 h2 h4 h5;subst hd;obtain⟨u,hu⟩:∃u:Z8,∀i,t.getD i undef=u i:=⟨λi=>t.getD i undef,λ_=>rfl⟩;have et:t=#[u 0,u 1,u 2,u 3,u 4,u 5,u 6,u 7,u 8,u 9,u 10,u 11,u 12,u 13,u 14,u 15,u 16,u 17,u 18,u 19,u 20,u 21,u 22,u 23,u 24,u 25,u 26,u 27,u 28,u 29,u 30,u 31,u 32,u 33,u 34,u 35,u 36,u 37,u 38,u 39,u 40,u 41,u 42,u 43,u 44,u 45,u 46,u 47,u 48,u 49,u 50,u 51,u 52,u 53,u 54,u 55,u 56,u 57,u 58,u 59,u 60,u 61,u 62,u 63,u 64,u 65,u 66,u 67,u 68,u 69,u 70,u 71]:=(Ps e9).trans (by
   have B:(λi=>t.getD i undef)=u:=funext hu;rw[B];rfl)
  rw[hu]at h2 h4 h5;rw[h2,h4,h5]at et;clear hu e9 h2 h4 h5;subst et;have H:=ZdX HI;clear HI;by_cases d6:k<xq h.roots
  .have i5:h.to=0\/h.to=1:=by have:=WB.1 f5.out.lay;exact this.2.2.2.2.1
   obtain⟨q,I⟩:=jY f5.out F.out k Z0;obtain⟨⟨N,n,q',f⟩,_⟩:=Fr f5.out d6 I;have h8:=jT HH.out i5 k;have b4:(Xn (YI h) k).roots[k]?=xk h.roots[k]:=by rw[I.rest k (ZdU _)];exact ZdO d6
   have d9:Xn (YI h) (k+1)= {n with roots:=n.roots.set k N}:=by
    show TT (Xn (YI h) k) k=_;unfold TT;rw[b4,Zei,f.fwd]
   have c6:(Xn (YI h) k).roots.length=xq h.roots:=I.len;have er:n.roots=(Xn (YI h) k).roots:=f.ext.roots;have g5:n.ok/\ZC N:=by have:=FJ h8 (HH.out.rootsW _ (Ze5 d6));rw[f.fwd]at this;exact this
   have g6:=f.fwd;have l1:=HH.out.rootsW _ (Ze5 d6);clear I f;generalize Xn (YI h) k=g at*;generalize h.roots[k]=u0 at*;obtain⟨gb,go,cap,f8,i0,j3⟩:=Z5K (H.out.rd 4 Z0) b4;rw[show xq (Zu g 4)=(xq g.roots) from rfl,c6]at f8;have hF:∀W',Below (xz (xj W)) W W'->Calls Sol.prog 33 #[.agg #[.int .u64 g.base,.int .i64 g.cap,.int .i64 g.to,.bool g.cycle,.int .i64 g.scan,x 0,x 1,x 2,x 3,.slice (xk ⟨gb,go,xw⟩) (xq h.roots) cap],.int .u64 u0] W' (Qq W' (N,n,0)):=λW' J=>by
    have:=Pc W' (λb=>xz (xj w)+2<=b/\b<xz (xj W)/\b≠c) (λb a5=>Ze1 a5.2.1 J.size) g h8 x (λj D=>(H.out.rd j D).keep (λb a5=>J.block b a5.2.1) λ_ q=>q) u0 l1;rw[g6]at this;unfold ZN at this;rw[f8]at this;exact this
   have HF:=ZdX hF;have S:=H.out.nb;unfold W4 at S;rw[f8]at S;have yc:∀j,W.cell? ⟨c,j,xw⟩=(#[.int .u64 g.base,.int .i64 g.cap,.int .i64 g.to,.bool g.cycle,.int .i64 g.scan,x 0,x 1,x 2,x 3,.slice (xk ⟨gb,go,xw⟩) (xq h.roots) cap]:Array Value)[j]? :=λj=>Ze6 _ _ _ _ _ _ S;have i1:=YC S;have l3:((k:Int)< (xq h.roots:Int))=True:=eq_true Z0;have HM:=ZdX (And.intro d9 (And.intro er (And.intro g5 (And.intro j3 (And.intro S c6)))));clear hF S c6 f8 d9 er g5 b4 g6 h8 j3;go_upto_region 8 with fail;refine MO [39,40,41,42,43,44,45,38,46,47,48,7,6,8] (FrC W (frE c g (λj=>if j=4 then .slice (xk ⟨gb,go,xw⟩) (xq h.roots) cap else x j) k (.pointer (xk ⟨gb,go+k,xw⟩)) u0) N n) follows Z2 ⟨u,Zd6,?_⟩ ?_ ?_;exact⟨(Zeh _ _).drew,λi _ _ _ h=>ZcY,λh=>ZcY,λh=>ZcY,λh=>ZcY⟩
   .intro L i o v W1 K hi D C;have O:=ZdX C;have hz:xz (xj W)<=xz (xj W1):=C.b.size;have yd:∀j,W1.cell? ⟨c,j,xw⟩=(#[.int .u64 g.base,.int .i64 g.cap,.int .i64 g.to,.bool g.cycle,.int .i64 g.scan,x 0,x 1,x 2,x 3,.slice (xk ⟨gb,go,xw⟩) (xq h.roots) cap]:Array Value)[j]? :=λj=>(C.b.cell (p:=⟨c,j,xw⟩) i1).trans (yc j);have k0:W1.cell? ⟨gb,go+k,xw⟩=xk (.int .u64 u0):=(C.b.cell (p:=⟨gb,go+k,xw⟩) HM.out.2.2.2.1.2.1).trans i0;clear C;have l5:i<15:=(ZdV.1 K).1;simp only[US,Qa,Zeb,Zf9,Zfj,ZgS,ZfR,ZgI,Zg0];have:i=0\/i=1\/i=2\/i=3\/i=4\/i=5\/i=6\/i=7\/i=8\/i=9\/i=10\/i=11\/i=12\/i=13\/i=14:=Z0;obtain rfl|rfl|rfl|rfl|rfl|rfl|rfl|rfl|rfl|rfl|rfl|rfl|rfl|rfl|rfl:=this
    .cases K;go_wp2;try simp only[QN]
     refine⟨ZG v 39 (.agg #[.int .u64 g.base,.int .i64 g.cap,.int .i64 g.to,.bool g.cycle,.int .i64 g.scan,x 0,x 1,x 2,x 3,.slice (xk ⟨gb,go,xw⟩) (xq h.roots) cap]),rfl,?_⟩;exact O.out.pe 0 Z0 rfl
    .cases K;go_wp2;try simp only[QN]
     refine⟨ZG v 40 (.pointer (xk ⟨c,9,xw⟩)),rfl,?_⟩;exact O.out.pe 1 Z0 rfl
    .cases K;have e1:v 40=.pointer (xk ⟨c,9,xw⟩):=O.out.e 1 Z0 (D 1 Zd7);have E1:=ZdX e1;go_wp2;try simp only[QN]
     refine⟨ZG (ZG v 40 (.pointer (xk ⟨c,9,xw⟩))) 41 (.slice (xk ⟨gb,go,xw⟩) (xq h.roots) cap),rfl,?_⟩;rw[Xb (v:=v) E1.out];exact O.out.pe 2 Z0 rfl
    .cases K;go_wp2;try simp only[QN]
     refine⟨ZG v 42 (.int .i64 k),rfl,?_⟩;exact O.out.pe 3 Z0 rfl
    .cases K;have e2:v 41=.slice (xk ⟨gb,go,xw⟩) (xq h.roots) cap:=O.out.e 2 Z0 (D 2 Zd7);have E2:=ZdX e2;have e3:v 42=.int .i64 k:=O.out.e 3 Z0 (D 3 Zd7);have E3:=ZdX e3;go_wp2;try simp only[QN]
     refine⟨ZG (ZG (ZG v 41 (.slice (xk ⟨gb,go,xw⟩) (xq h.roots) cap)) 42 (.int .i64 k)) 43 (.pointer (xk ⟨gb,go+k,xw⟩)),rfl,?_⟩;rw[Xb (v:=v) E2.out,Xb (v:=v) E3.out];exact O.out.pe 4 Z0 rfl
    .cases K;have e4:v 43=.pointer (xk ⟨gb,go+k,xw⟩):=O.out.e 4 Z0 (D 4 Zd7);have E4:=ZdX e4;go_wp2;try simp only[QN]
     refine⟨ZG (ZG v 43 (.pointer (xk ⟨gb,go+k,xw⟩))) 44 (.int .u64 u0),rfl,?_⟩;rw[Xb (v:=v) E4.out];exact O.out.pe 5 Z0 rfl
    .cases K;have B:v 39=.agg #[.int .u64 g.base,.int .i64 g.cap,.int .i64 g.to,.bool g.cycle,.int .i64 g.scan,x 0,x 1,x 2,x 3,.slice (xk ⟨gb,go,xw⟩) (xq h.roots) cap]:=O.out.e 0 Z0 (D 0 Zd7);have M:=ZdX B;have e5:v 44=.int .u64 u0:=O.out.e 5 Z0 (D 5 Zd7);have E5:=ZdX e5;go_wp2_with (go_at_call 33;refine(HF.out _ O.out.b).mono ?_;rintro e w9 ⟨Z,rfl,Y,j7⟩;have U:=ZdX (And.intro Y j7);clear Y j7)
     try simp only[QN]
     refine⟨ZG (ZG (ZG v 39 (.agg #[.int .u64 g.base,.int .i64 g.cap,.int .i64 g.to,.bool g.cycle,.int .i64 g.scan,x 0,x 1,x 2,x 3,.slice (xk ⟨gb,go,xw⟩) (xq h.roots) cap])) 44 (.int .u64 u0)) 45 (SP N n Z),rfl,?_⟩;rw[Xb (v:=v) M.out,Xb (v:=v) E5.out];exact O.out.call U.out.1 U.out.2
    .cases K;obtain⟨Z,B,Q⟩:=O.out.t 6 (.inl rfl) (D 6 Zd7);have B:v 45=SP N n Z:=B;have M:=ZdX B;have O9:=ZdX Q;clear Q;go_wp2;try simp only[QN]
     refine⟨ZG (ZG v 45 (SP N n Z)) 38 (SP N n Z),rfl,?_⟩;rw[Xb (v:=v) M.out];exact O.out.pt O9.out
    .cases K;obtain⟨Z,B,Q⟩:=O.out.t 7 (.inr rfl) (D 7 Zd7);have B:v 38=.tuple #[.int .u64 N,.agg (W4 n Z),.int .i64 0]:=B;have M:=ZdX B;have O9:=ZdX Q;clear Q;go_wp2;try simp only[QN]
     refine⟨ZG (ZG v 38 (.tuple #[.int .u64 N,.agg (W4 n Z),.int .i64 0])) 46 (.int .u64 N),rfl,?_⟩;rw[Xb (v:=v) M.out];exact O.out.pf 8 (.inl rfl) rfl
    .cases K;obtain⟨Z,B,Q⟩:=O.out.t 7 (.inr rfl) (D 7 Zd7);have B:v 38=.tuple #[.int .u64 N,.agg (W4 n Z),.int .i64 0]:=B;have M:=ZdX B;have O9:=ZdX Q;clear Q;go_wp2;try simp only[QN]
     refine⟨ZG (ZG v 38 (.tuple #[.int .u64 N,.agg (W4 n Z),.int .i64 0])) 47 (.agg (W4 n Z)),rfl,?_⟩;rw[Xb (v:=v) M.out];exact O.out.pa O9.out
    .cases K;obtain⟨Z,B,Q⟩:=O.out.t 7 (.inr rfl) (D 7 Zd7);have B:v 38=.tuple #[.int .u64 N,.agg (W4 n Z),.int .i64 0]:=B;have M:=ZdX B;have O9:=ZdX Q;clear Q;go_wp2;try simp only[QN]
     refine⟨ZG (ZG v 38 (.tuple #[.int .u64 N,.agg (W4 n Z),.int .i64 0])) 48 (.int .i64 0),rfl,?_⟩;rw[Xb (v:=v) M.out];exact O.out.pz 10 (.inl rfl) rfl
    .cases K;go_wp2;try simp only[QN]
     exact⟨ZG v 7 (.pointer (xk ⟨xz (xj W1),0,xw⟩)),rfl,O.out.alloc hi⟩
    .cases K;have B:v 46=.int .u64 N:=O.out.f 8 (.inl rfl) (D 8 Zd7);have M:=ZdX B;go_wp2;try simp only[QN]
     refine⟨ZG (ZG v 46 (.int .u64 N)) 6 (.int .u64 N),rfl,?_⟩;rw[Xb (v:=v) M.out];exact O.out.pf 12 (.inr rfl) rfl
    .cases K;obtain⟨c7,e7,f7,k6,R⟩:=O.out.new (D 11 Zd7);obtain⟨Z,j0,Q⟩:=O.out.a (D 9 Zd7);have R:=R hi;have y4:∀j,W1.cell? ⟨c7,j,xw⟩=ZW[j]? :=λj=>Ze6 _ _ _ _ _ _ R;unfold ZW at y4;have y5:∀j,W1.frozen? ⟨c7,j,xw⟩=xh:=λj=>Yi R;have H3:=ZdX R;have E7:=ZdX e7;obtain⟨a0,q0,f0⟩:=Yn (Q.own.own 0 Z0);obtain⟨a1,q1,f1⟩:=Yn (Q.own.own 1 Z0);obtain⟨a2,q2,f2⟩:=Yn (Q.own.own 2 Z0);obtain⟨a3,q3,f3⟩:=Yn (Q.own.own 3 Z0);obtain⟨a4,q4,f4⟩:=Yn (Q.own.own 4 Z0);have P:W4 n Z=#[.int .u64 n.base,.int .i64 n.cap,.int .i64 n.to,.bool n.cycle,.int .i64 n.scan,.slice a0 (xq (Zu n 0)) q0,.slice a1 (xq (Zu n 1)) q1,.slice a2 (xq (Zu n 2)) q2,.slice a3 (xq (Zu n 3)) q3,.slice a4 (xq (Zu n 4)) q4]:=by
      unfold W4;rw[f0,f1,f2,f3,f4]
     rw[P]at j0;have b7:=ZdX (And.intro P (And.intro j0 Q));clear R Q f0 f1 f2 f3 f4 P;go_wp2;try simp only[QN]
     refine⟨ZG (ZG v 7 (.pointer (xk ⟨c7,0,xw⟩))) 47 (.agg #[.int .u64 n.base,.int .i64 n.cap,.int .i64 n.to,.bool n.cycle,.int .i64 n.scan,.slice a0 (xq (Zu n 0)) q0,.slice a1 (xq (Zu n 1)) q1,.slice a2 (xq (Zu n 2)) q2,.slice a3 (xq (Zu n 3)) q3,.slice a4 (xq (Zu n 4)) q4]),rfl,?_⟩;rw[Xb (v:=v) E7.out,Xb (v:=v) b7.out.2.1];refine O.out.store E7.out b7.out.2.2 (D 11 Zd7) hi H3.out (λb J=> ?_) ?_ ?_ ?_;exact Q9 J _ _ _ _ _ _ _ _ _ _;simp[World.setCell];rw[b7.out.1];exact C7 H3.out _ _ _ _ _ _ _ _ _ _;exact V2 (Zeh _ _) f7 _ _ _ _ _ _ _ _ _ _
    .cases K;have B:v 48=.int .i64 0:=O.out.z 10 (.inl rfl) (D 10 Zd7);have M:=ZdX B;go_wp2;try simp only[QN]
     refine⟨ZG (ZG v 48 (.int .i64 0)) 8 (.int .i64 0),rfl,?_⟩;rw[Xb (v:=v) M.out];exact O.out.pz 14 (.inr rfl) rfl
   .intro L v W1 hL C;have e6:v 6=.int .u64 N:=C.f 12 (.inr rfl) (hL 12 Zd7);have e8:v 8=.int .i64 0:=C.z 14 (.inr rfl) (hL 14 Zd7);obtain⟨c7,Z,e7,h9,Q⟩:=C.put (hL 13 Zd7);have b5:=C.b;have e9:=b5.size;have d5:xq n.roots=xq h.roots:=by rw[HM.out.2.1,HM.out.2.2.2.2.2]
    obtain⟨a0,q0,f0⟩:=Yn (Q.own.own 0 Z0);obtain⟨a1,q1,f1⟩:=Yn (Q.own.own 1 Z0);obtain⟨a2,q2,f2⟩:=Yn (Q.own.own 2 Z0);obtain⟨a3,q3,f3⟩:=Yn (Q.own.own 3 Z0);obtain⟨a4,q4,f4⟩:=Yn (Q.own.own 4 Z0);obtain⟨g4,rfl⟩:=Bq (Q.own.own 4 Z0) f4 (by show 0<xq n.roots;omega);rw[show xq (Zu n 4)=(xq n.roots) from rfl,d5]at f4;have P:W4 n Z=#[.int .u64 n.base,.int .i64 n.cap,.int .i64 n.to,.bool n.cycle,.int .i64 n.scan,.slice a0 (xq (Zu n 0)) q0,.slice a1 (xq (Zu n 1)) q1,.slice a2 (xq (Zu n 2)) q2,.slice a3 (xq (Zu n 3)) q3,.slice (xk ⟨g4,0,xw⟩) (xq h.roots) q4]:=by
     unfold W4;rw[f0,f1,f2,f3,f4]
    rw[P]at h9;have f6:=(b5.block c i1).trans HM.out.2.2.2.2.1;have y7:∀j,W1.cell? ⟨c7,j,xw⟩=(#[.int .u64 n.base,.int .i64 n.cap,.int .i64 n.to,.bool n.cycle,.int .i64 n.scan,.slice a0 (xq (Zu n 0)) q0,.slice a1 (xq (Zu n 1)) q1,.slice a2 (xq (Zu n 2)) q2,.slice a3 (xq (Zu n 3)) q3,.slice (xk ⟨g4,0,xw⟩) (xq h.roots) q4]:Array Value)[j]? :=λj=>Ze6 _ _ _ _ _ _ h9;have yd:∀j,W1.cell? ⟨c,j,xw⟩=(#[.int .u64 g.base,.int .i64 g.cap,.int .i64 g.to,.bool g.cycle,.int .i64 g.scan,x 0,x 1,x 2,x 3,.slice (xk ⟨gb,go,xw⟩) (xq h.roots) cap]:Array Value)[j]? :=λj=>Ze6 _ _ _ _ _ _ f6;have fd:∀j,W1.frozen? ⟨c,j,xw⟩=xh:=λj=>Yi f6;have HO:=ZdX (And.intro Q.own (And.intro b5 (And.intro P (And.intro f4 (And.intro d5 f6)))));have l7:xz (xj W)<=g4/\g4<xz (xj W1):=(Q.own.own 4 Z0).lt g4 (by rw[f4];rfl);clear C Q b5 P f0 f1 f2 f3 f4 d5 h9 f6 hL;simp only[US,Qa,Zeb,Zf9,Zfj,ZgS,ZfR,ZgI,Zg0];go_upto_region 12 with fail;obtain⟨W2,c5⟩:∃W2,W2=((((((((((W1.setCell ⟨c,0,xw⟩ (.int .u64 n.base)).setCell ⟨c,1,xw⟩ (.int .i64 n.cap)).setCell ⟨c,2,xw⟩ (.int .i64 n.to)).setCell ⟨c,3,xw⟩ (.bool n.cycle)).setCell ⟨c,4,xw⟩ (.int .i64 n.scan)).setCell ⟨c,5,xw⟩ (.slice a0 (xq (Zu n 0)) q0)).setCell ⟨c,6,xw⟩ (.slice a1 (xq (Zu n 1)) q1)).setCell ⟨c,7,xw⟩ (.slice a2 (xq (Zu n 2)) q2)).setCell ⟨c,8,xw⟩ (.slice a3 (xq (Zu n 3)) q3)).setCell ⟨c,9,xw⟩ (.slice (xk ⟨g4,0,xw⟩) (xq h.roots) q4)):=⟨_,rfl⟩;rw[<-c5];have d0:W2.heap[c]?=xk (.cells #[.int .u64 n.base,.int .i64 n.cap,.int .i64 n.to,.bool n.cycle,.int .i64 n.scan,.slice a0 (xq (Zu n 0)) q0,.slice a1 (xq (Zu n 1)) q1,.slice a2 (xq (Zu n 2)) q2,.slice a3 (xq (Zu n 3)) q3,.slice (xk ⟨g4,0,xw⟩) (xq h.roots) q4] 37 (0,0)):=by rw[c5];exact Z5A HO.out.2.2.2.2.2 _ _ _ _ _ _ _ _ _ _
    have d7:∀b,b≠c->W2.heap[b]?=W1.heap[b]? :=λb J=>by rw[c5];exact Q9 J _ _ _ _ _ _ _ _ _ _
    have i6:xz (xj W2)=xz (xj W1):=by rw[c5];simp[World.setCell]
    have b6:Below (xz (xj w)) W1 W2:=by rw[c5];exact V2 (Zeh _ _) (by have:=H.out.le;omega) _ _ _ _ _ _ _ _ _ _
    clear c5;have T:HOwn (xz (xj W)) W2 n Z:=⟨λj D=>WJ (HO.out.1.own j D) λb J=>d7 b (by have:=((HO.out.1.own j D).lt b J).1;omega),HO.out.1.apart⟩;have b2:=T.own 4 Z0;rw[HO.out.2.2.2.1,show xq (Zu n 4)=(xq h.roots) from HO.out.2.2.2.2.1]at b2;have y2:∀j,W2.cell? ⟨c,j,xw⟩=(#[.int .u64 n.base,.int .i64 n.cap,.int .i64 n.to,.bool n.cycle,.int .i64 n.scan,.slice a0 (xq (Zu n 0)) q0,.slice a1 (xq (Zu n 1)) q1,.slice a2 (xq (Zu n 2)) q2,.slice a3 (xq (Zu n 3)) q3,.slice (xk ⟨g4,0,xw⟩) (xq h.roots) q4]:Array Value)[j]? :=λj=>Ze6 _ _ _ _ _ _ d0;obtain⟨z0,j9⟩:∃z0,n.roots[k]?=xk z0:=⟨_,ZdO (by rw[HO.out.2.2.2.2.1];exact d6)⟩;have ec:W2.cell? ⟨g4,k,xw⟩=xk (.int .u64 z0):=by
     rw[b2.cellAt k Z0];simp[YQ,Zu,j9]
    have ef:W2.frozen? ⟨g4,k,xw⟩=xh:=b2.frozenAt k;have wk:=Zy ((k:Int)+1) (by have:=HH.out.roots;omega) (by have:=HH.out.roots;omega);have HQ:=ZdX (And.intro d0 (And.intro d7 (And.intro i6 (And.intro b6 (And.intro T b2)))));clear d0 d7 i6 b6 T b2 y7 yd fd j9;go_wp2;go_step3
    simp only[Exit.then,Exit.inBlock];refine⟨rfl,⟨c,k+1,Z,rfl,rfl,rfl,rfl,?_,Z0,?_⟩,?_⟩;show Value.int .i64 ((k:Int)+1)=_;congr 1;rw[HM.out.1];obtain⟨d0,d7,i6,b6,T,b2⟩:=HQ.out;obtain⟨j8,l8⟩:=b2.stored k (.int .u64 N);have l2:g4≠c:=Z0;have a6:∀b,b≠g4->(W2.setCell ⟨g4,k,xw⟩ (.int .u64 N)).heap[b]?=W2.heap[b]? :=λb J=>Zen _ _ _ _ J;have g3:xz (xj (W2.setCell ⟨g4,k,xw⟩ (.int .u64 N)))=xz (xj W2):=by simp[World.setCell]
    have j5:=H.out.le;have b3:=H.out.rb;refine⟨(H.out.below.trans ((HO.out.2.1.mono H.out.below.size).trans b6)).setCell (by show xz (xj w)<=g4;have:=H.out.below.size;omega) _,?_,j5,?_,λj D=> ?_⟩;have:=YC b3;rw[a6 _ Z0,d7 _ Z0,HO.out.2.1.block _ this];exact b3;rw[a6 c Z0,d0,<-HO.out.2.2.1];rfl;have j4:∀b,xz (xj W)<=b->b< xz (xj (W2.setCell ⟨g4,k,xw⟩ (.int .u64 N)))->xz (xj w)+2<=b/\b< xz (xj (W2.setCell ⟨g4,k,xw⟩ (.int .u64 N)))/\b≠c:=λb h1 h2=>⟨Z0,h2,Z0⟩;by_cases e:j=4;subst e;have hn:YQ .u64 (n.roots.set k N)=(YQ .u64 (Zu n 4)).set k (.int .u64 N):=Bg _ _ _ _;rw[<-hn]at j8;show Rd _ _ (.sl ((n.roots.set k N).map vu)) (Z 4);rw[HO.out.2.2.2.1];have k9:xq h.roots=xq (n.roots.set k N):=by rw[ZgG,HO.out.2.2.2.2.1]
    have l0:(W2.setCell ⟨g4,k,xw⟩ (.int .u64 N)).ownsRow (xz (xj W)) 24 1 (.slice (xk ⟨g4,0,xw⟩) (xq h.roots) q4) (xq (n.roots.set k N)) (YQ .u64 (n.roots.set k N)):=by rw[<-k9];exact j8
    exact yE l0 j4;have k7:Zu {n with roots:=n.roots.set k N} j=Zu n j:=by
     have:j=0\/j=1\/j=2\/j=3:=Z0;obtain rfl|rfl|rfl|rfl:=this<;>rfl
    rw[k7];refine yE (WJ (T.own j D) λb J=>a6 b λe2=> ?_) j4;exact T.apart j 4 Z0 Z0 b J (by rw[e2,HO.out.2.2.2.1];rfl);simp[intOf];omega
  .have k8:k=xq h.roots:=Z0;subst k8;obtain⟨q,I⟩:=jY f5.out F.out (xq h.roots) (ZdU _);have c6:(Xn (YI h) (xq h.roots)).roots.length=xq h.roots:=I.len;clear I;have P:Th h=YW (Xn (YI h) (xq h.roots)):=rfl;rw[P];clear P;generalize Xn (YI h) (xq h.roots)=g at*;obtain⟨a0,q0,f0⟩:=Rd.slfT (H.out.rd 0 Z0);obtain⟨a1,q1,f1⟩:=Rd.slfT (H.out.rd 1 Z0);obtain⟨a2,q2,f2⟩:=Rd.slfT (H.out.rd 2 Z0);obtain⟨a3,q3,f3⟩:=Rd.slfT (H.out.rd 3 Z0);obtain⟨a4,q4,f4⟩:=Rd.slfT (H.out.rd 4 Z0);rw[Zem,show xq (Zu g 0)=(xq g.low) from rfl]at f0;rw[Zem,show xq (Zu g 1)=(xq g.high) from rfl]at f1;rw[Zem,show xq (Zu g 2)=(xq g.old) from rfl]at f2;rw[Zem,show xq (Zu g 3)=(xq g.far) from rfl]at f3;rw[Zem,show xq (Zu g 4)=(xq g.roots) from rfl,c6]at f4;have S:=H.out.nb;have i4:W4 g x=#[.int .u64 g.base,.int .i64 g.cap,.int .i64 g.to,.bool g.cycle,.int .i64 g.scan,.slice a0 (xq g.low) q0,.slice a1 (xq g.high) q1,.slice a2 (xq g.old) q2,.slice a3 (xq g.far) q3,.slice a4 (xq h.roots) q4]:=by
    unfold W4;rw[f0,f1,f2,f3,f4]
   rw[i4]at S;have b3:=H.out.rb;have j5:=H.out.le;have i1:=YC S;have yc:∀j,W.cell? ⟨c,j,xw⟩=(#[.int .u64 g.base,.int .i64 g.cap,.int .i64 g.to,.bool g.cycle,.int .i64 g.scan,.slice a0 (xq g.low) q0,.slice a1 (xq g.high) q1,.slice a2 (xq g.old) q2,.slice a3 (xq g.far) q3,.slice a4 (xq h.roots) q4]:Array Value)[j]? :=λj=>Ze6 _ _ _ _ _ _ S;have fc:∀j,W.frozen? ⟨c,j,xw⟩=xh:=λj=>Yi S;have yz:∀j,W.cell? ⟨xz (xj w)+1,j,xw⟩=ZW[j]? :=λj=>Ze6 _ _ _ _ _ _ b3;unfold ZW at yz;have fz:∀j,W.frozen? ⟨xz (xj w)+1,j,xw⟩=xh:=λj=>Yi b3;have j6:¬xz (xj w)+1=c:=Z0;have l4:¬c=xz (xj w)+1:=Z0;have HP:=ZdX (And.intro i4 (And.intro S (And.intro b3 (And.intro f0 (And.intro f1 (And.intro f2 (And.intro f3 f4)))))));clear i4 S b3 f0 f1 f2 f3 f4 c6;by_cases g7:0<xq g.low
   .have i3:((0:Int)< (xq g.low:Int))=True:=eq_true Z0;go_wp2;simp only[Exit.jump];obtain⟨W3,X⟩:∃W3,W3=W.setCell ⟨c,3,xw⟩ (.bool xy):=⟨_,rfl⟩;rw[<-X];have a6:∀b,b≠c->W3.heap[b]?=W.heap[b]? :=λb J=>by
     rw[X];simp[World.setCell,ZeF,ZfF J]
    have g3:xz (xj W3)=xz (xj W):=by rw[X];simp[World.setCell]
    have c8:Below (xz (xj w)) W W3:=by
     rw[X];exact(Zeh _ _).setCell ZdF _
    have y:=VP ((a6 _ j6).trans HP.out.2.2.1) (.int .u64 g.base) (.int .i64 g.cap) (.int .i64 g.to) (.bool xy) (.int .i64 g.scan) (.slice a0 (xq g.low) q0) (.slice a1 (xq g.high) q1) (.slice a2 (xq g.old) q2) (.slice a3 (xq g.far) q3) (.slice a4 (xq h.roots) q4);have i2:YW g= {g with cycle:=xy}:=if_pos g7;rw[i2];clear X;refine ZeP (v:=.tuple #[.agg #[.int .u64 g.base,.int .i64 g.cap,.int .i64 g.to,.bool xy,.int .i64 g.scan,.slice a0 (xq g.low) q0,.slice a1 (xq g.high) q1,.slice a2 (xq g.old) q2,.slice a3 (xq g.far) q3,.slice a4 (xq h.roots) q4],.int .i64 0]) ?_ rfl ?_
    .simp[results,Try.results36,go_sem,y]
    refine⟨x,?_,V2 (H.out.below.trans c8) Z0 _ _ _ _ _ _ _ _ _ _,λj D=> ?_⟩;have B:=HP.out.2.2.2.1;have e1:=HP.out.2.2.2.2.1;have e2:=HP.out.2.2.2.2.2.1;have e3:=HP.out.2.2.2.2.2.2.1;have e4:=HP.out.2.2.2.2.2.2.2;rw[<-B,<-e1,<-e4,<-e2,<-e3];rfl;have hl:Zu {g with cycle:=xy} j=Zu g j:=rfl;rw[hl];exact(H.out.rd j D).keep (λb J=>(Q9 (by have:=J.1;omega) _ _ _ _ _ _ _ _ _ _).trans (a6 b J.2.2)) λb J=>⟨by have:=J.1;omega,by simp[World.setCell,g3];exact J.2.1⟩
   .have i3:((0:Int)< (xq g.low:Int))=False:=Zhp Z0;go_wp2;simp only[Exit.jump];obtain⟨W3,X⟩:∃W3,W3=((W.setCell ⟨c,3,xw⟩ (.bool xh)).setCell ⟨c,7,xw⟩ (.slice xw 0 0)).setCell ⟨c,8,xw⟩ (.slice xw 0 0):=⟨_,rfl⟩;rw[<-X];have a6:∀b,b≠c->W3.heap[b]?=W.heap[b]? :=λb J=>by
     rw[X];simp[World.setCell,ZeF,ZfF J]
    have g3:xz (xj W3)=xz (xj W):=by rw[X];simp[World.setCell]
    have c8:Below (xz (xj w)) W W3:=by
     rw[X];exact(((Zeh _ _).setCell ZdF _).setCell ZdF _).setCell ZdF _
    have y:=VP ((a6 _ j6).trans HP.out.2.2.1) (.int .u64 g.base) (.int .i64 g.cap) (.int .i64 g.to) (.bool xh) (.int .i64 g.scan) (.slice a0 (xq g.low) q0) (.slice a1 (xq g.high) q1) (.slice xw 0 0) (.slice xw 0 0) (.slice a4 (xq h.roots) q4);have i2:YW g= {g with cycle:=xh,old:=[],far:=[]}:=if_neg g7;rw[i2];clear X;refine ZeP (v:=.tuple #[.agg #[.int .u64 g.base,.int .i64 g.cap,.int .i64 g.to,.bool xh,.int .i64 g.scan,.slice a0 (xq g.low) q0,.slice a1 (xq g.high) q1,.slice xw 0 0,.slice xw 0 0,.slice a4 (xq h.roots) q4],.int .i64 0]) ?_ rfl ?_
    .simp[results,Try.results36,go_sem,y]
    refine⟨(λj=>if j=2\/j=3 then .slice xw 0 0 else x j),?_,V2 (H.out.below.trans c8) Z0 _ _ _ _ _ _ _ _ _ _,λj D=> ?_⟩;have B:=HP.out.2.2.2.1;have e1:=HP.out.2.2.2.2.1;have e2:=HP.out.2.2.2.2.2.1;have e3:=HP.out.2.2.2.2.2.2.1;have e4:=HP.out.2.2.2.2.2.2.2;rw[<-B,<-e1,<-e4];rfl;have:j=2\/j=3\/(j≠2/\j≠3):=Z0;obtain rfl|rfl|⟨h2,h3⟩:=this;exact .nil _ _ Zdu;exact .nil _ _ Zdu;have hl:Zu {g with cycle:=xh,old:=[],far:=[]} j=Zu g j:=by
     have:j=0\/j=1\/j=4:=Z0;obtain rfl|rfl|rfl:=this<;>rfl
    rw[hl];simp only[h2,h3,or_self,Zex];exact(H.out.rd j D).keep (λb J=>(Q9 (by have:=J.1;omega) _ _ _ _ _ _ _ _ _ _).trans (a6 b J.2.2)) λb J=>⟨by have:=J.1;omega,by simp[World.setCell,g3];exact J.2.1⟩
 intro d8;go_upto_region 5 with (first
  | (go_at_call 25;refine(HR.out _ ?_).mono ?_;rotate_left;rintro e wa ⟨rfl,b1⟩
     have bA:wa.heap[xz (xj w)]?=xk (.cells #[.int .u64 h.base,.int .i64 h.cap,.int .i64 h.to,.bool xh,.int .i64 h.scan,A 0,A 1,A 2,A 3,A 4] 37 (0,0)):=(b1.block _ ZcP).trans ((ZdY _ _ _ Z1).trans (Zej w _));have bZ:wa.heap[xz (xj w)+1]?=xk (.cells ZW 37 (0,0)):=(b1.block _ Z1).trans (TJ w _);have ya:∀j,wa.cell? ⟨xz (xj w),j,xw⟩=(#[.int .u64 h.base,.int .i64 h.cap,.int .i64 h.to,.bool xh,.int .i64 h.scan,A 0,A 1,A 2,A 3,A 4]:Array Value)[j]? :=λj=>Ze6 _ _ _ _ _ _ bA;have g9:=ZdX b1;have k3:=ZdX (And.intro bA bZ);clear b1 bA bZ))
 case refine_1=>exact((Zeh _ w).alloc (ZdU _) _).alloc Z1 _
 have b1:Below (xz (xj w)) w wa:=Below.trans (((Zeh _ w).alloc (ZdU _) _).alloc Z1 _) (g9.out.mono ZcP);have l9:xz (xj w)+2<=xz (xj wa):=by have:=g9.out.size;simp at this;omega
 have i9:=ZdX b1;clear b1 g9;have h6:=ZdX (λ(W:Z3) (hW:Below (xz (xj wa)) wa W) (j:Nat) (D:j<5)=>(HS.out j D).keep (λb a5=>(hW.block b (by have:=hG b a5;omega)).trans (i9.out.block b (hG b a5))) λ_ q=>q);refine MO [16,17,18,19,20,21,22,23,24,25,26,27,28,29,30,31,32,4] (FlC wa (xz (xj w)) h A) follows Z2 ⟨λ_=>undef,Zd6,?_⟩ ?_ ?_;exact⟨(Zeh _ _).drew,λi _ h=>ZcY,λi _ h=>ZcY,λh=>ZcY,λh=>ZcY,λh=>ZcY,λh=>ZcY⟩
 .intro L i o v W K hi D C;have F:=ZdX C;have hz:xz (xj wa)<=xz (xj W):=C.b.size;have ya:∀j,W.cell? ⟨xz (xj w),j,xw⟩=(#[.int .u64 h.base,.int .i64 h.cap,.int .i64 h.to,.bool xh,.int .i64 h.scan,A 0,A 1,A 2,A 3,A 4]:Array Value)[j]? :=λj=>(C.b.cell (p:=⟨xz (xj w),j,xw⟩) (by show xz (xj w)<xz (xj wa);omega)).trans (ya j);clear C;have l6:i<19:=(ZdV.1 K).1;simp only[US,Qa,Zeb,Zf9,Zfj,ZgS,ZfR,ZgI,Zg0];have:i=0\/i=1\/i=2\/i=3\/i=4\/i=5\/i=6\/i=7\/i=8\/i=9\/i=10\/i=11\/i=12\/i=13\/i=14\/i=15\/i=16\/i=17\/i=18:=Z0;obtain rfl|rfl|rfl|rfl|rfl|rfl|rfl|rfl|rfl|rfl|rfl|rfl|rfl|rfl|rfl|rfl|rfl|rfl|rfl:=this
  .cases K;go_wp2;try simp only[QN]
   exact⟨ZG v 16 (Yv (xz (xj w)) h A 0),rfl,F.out.pure Zd1 rfl rfl⟩
  .cases K;have B:=F.out.eq 0 Zd1 (D 0 Zd7);have M:=ZdX B;simp only[Yv]at B;go_wp2;try simp only[QN]
   exact⟨ZG (ZG v 16 (Yv (xz (xj w)) h A 0)) 17 (Yv (xz (xj w)) h A 1),rfl,ZcZ⟩
  .cases K;go_wp2;try simp only[QN]
   exact⟨ZG v 18 (Yv (xz (xj w)) h A 2),rfl,F.out.pure Zd1 rfl rfl⟩
  .cases K;have B:=F.out.eq 2 Zd1 (D 2 Zd7);have M:=ZdX B;simp only[Yv]at B;go_wp2;try simp only[QN]
   exact⟨ZG (ZG v 18 (Yv (xz (xj w)) h A 2)) 19 (Yv (xz (xj w)) h A 3),rfl,ZcZ⟩
  .cases K;go_wp2;try simp only[QN]
   exact⟨ZG v 20 (Yv (xz (xj w)) h A 4),rfl,F.out.pure Zd1 rfl rfl⟩
  .cases K;have B:=F.out.eq 4 Zd1 (D 4 Zd7);have M:=ZdX B;simp only[Yv]at B;go_wp2;try simp only[QN]
   exact⟨ZG (ZG v 20 (Yv (xz (xj w)) h A 4)) 21 (Yv (xz (xj w)) h A 5),rfl,ZcZ⟩
  .cases K;have B:=F.out.eq 5 Zd1 (D 5 Zd7);have M:=ZdX B;simp only[Yv]at B;go_wp2;try simp only[QN]
   exact⟨ZG (ZG v 21 (Yv (xz (xj w)) h A 5)) 22 (Yv (xz (xj w)) h A 6),rfl,ZcZ⟩
  .cases K;go_wp2;try simp only[QN]
   exact⟨ZG v 23 (Yv (xz (xj w)) h A 7),rfl,F.out.pure Zd1 rfl rfl⟩
  .cases K;have B:=F.out.eq 7 Zd1 (D 7 Zd7);have M:=ZdX B;simp only[Yv]at B;go_wp2;try simp only[QN]
   exact⟨ZG (ZG v 23 (Yv (xz (xj w)) h A 7)) 24 (Yv (xz (xj w)) h A 8),rfl,ZcZ⟩
  .cases K;have B:=F.out.eq 8 Zd1 (D 8 Zd7);have M:=ZdX B;simp only[Yv]at B;go_wp2_with (go_at_call 73;refine(zp _ (l:=h.low) (G:=G) HH.out.low (h6.out _ F.out.b 0 Z0)).mono ?_;rintro e w9 ⟨y,rfl,Y,a7⟩;have U:=ZdX (And.intro Y a7);clear Y a7)
   try simp only[QN]
   exact⟨ZG (ZG v 24 (Yv (xz (xj w)) h A 8)) 25 y,rfl,Zda⟩
  .cases K;go_wp2;try simp only[QN]
   exact⟨ZG v 26 (Yv (xz (xj w)) h A 10),rfl,F.out.pure Zd1 rfl rfl⟩
  .cases K;have B:=F.out.eq 10 Zd1 (D 10 Zd7);have M:=ZdX B;simp only[Yv]at B;go_wp2;try simp only[QN]
   exact⟨ZG (ZG v 26 (Yv (xz (xj w)) h A 10)) 27 (Yv (xz (xj w)) h A 11),rfl,ZcZ⟩
  .cases K;have B:=F.out.eq 11 Zd1 (D 11 Zd7);have M:=ZdX B;simp only[Yv]at B;go_wp2_with (go_at_call 73;refine(zp _ (l:=h.high) (G:=G) HH.out.high (h6.out _ F.out.b 1 Z0)).mono ?_;rintro e w9 ⟨y,rfl,Y,a7⟩;have U:=ZdX (And.intro Y a7);clear Y a7)
   try simp only[QN]
   exact⟨ZG (ZG v 27 (Yv (xz (xj w)) h A 11)) 28 y,rfl,Zda⟩
  .cases K;go_wp2;try simp only[QN]
   exact⟨ZG v 29 (Yv (xz (xj w)) h A 13),rfl,F.out.pure Zd1 rfl rfl⟩
  .cases K;have B:=F.out.eq 13 Zd1 (D 13 Zd7);have M:=ZdX B;simp only[Yv]at B;go_wp2;try simp only[QN]
   exact⟨ZG (ZG v 29 (Yv (xz (xj w)) h A 13)) 30 (Yv (xz (xj w)) h A 14),rfl,ZcZ⟩
  .cases K;have B:=F.out.eq 14 Zd1 (D 14 Zd7);have M:=ZdX B;simp only[Yv]at B;go_wp2_with (go_at_call 73;refine(zp _ (l:=h.roots) (G:=G) HH.out.roots (h6.out _ F.out.b 4 Z0)).mono ?_;rintro e w9 ⟨y,rfl,Y,a7⟩;have U:=ZdX (And.intro Y a7);clear Y a7)
   try simp only[QN]
   exact⟨ZG (ZG v 30 (Yv (xz (xj w)) h A 14)) 31 y,rfl,Zda⟩
  .cases K;have B:=F.out.eq 1 Zd1 (D 1 Zd7);have M:=ZdX B;simp only[Yv]at B;have e1:=F.out.eq 3 Zd1 (D 3 Zd7);have E1:=ZdX e1;simp only[Yv]at e1;have e2:=F.out.eq 6 Zd1 (D 6 Zd7);have E2:=ZdX e2;simp only[Yv]at e2;obtain⟨a9,c9,f9⟩:=Rd.slfT (F.out.rd 9 Zdd (D 9 Zd7));rw[show xq (List.map vu (Ul h 9))=(xq h.low) from Zem _]at f9;simp only[Nat.reduceAdd]at f9;have F9:=ZdX f9;obtain⟨b8,c0,a8⟩:=Rd.slfT (F.out.rd 12 Zdd (D 12 Zd7));rw[show xq (List.map vu (Ul h 12))=(xq h.high) from Zem _]at a8;simp only[Nat.reduceAdd]at a8;have i7:=ZdX a8;obtain⟨b9,c1,b0⟩:=Rd.slfT (F.out.rd 15 Zdd (D 15 Zd7));rw[show xq (List.map vu (Ul h 15))=(xq h.roots) from Zem _]at b0;simp only[Nat.reduceAdd]at b0;have i8:=ZdX b0;go_wp2;try simp only[QN]
   refine⟨ZG (ZG (ZG (ZG (ZG (ZG (ZG v 17 (Yv (xz (xj w)) h A 1)) 19 (Yv (xz (xj w)) h A 3)) 22 (Yv (xz (xj w)) h A 6)) 25 (.slice a9 (xq h.low) c9)) 28 (.slice b8 (xq h.high) c0)) 31 (.slice b9 (xq h.roots) c1)) 32 (.agg #[.int .u64 h.base,.int .i64 h.cap,.int .i64 (1-h.to),.bool xh,.int .i64 0,.slice xw 0 0,.slice xw 0 0,.slice a9 (xq h.low) c9,.slice b8 (xq h.high) c0,.slice b9 (xq h.roots) c1]),rfl,?_⟩;rw[Xb (v:=v) M.out,Xb (v:=v) E1.out,Xb (v:=v) E2.out,Xb (v:=v) F9.out,Xb (v:=v) i7.out,Xb (v:=v) i8.out];have hx:((.agg #[.int .u64 h.base,.int .i64 h.cap,.int .i64 (1-h.to),.bool xh,.int .i64 0,.slice xw 0 0,.slice xw 0 0,.slice a9 (xq h.low) c9,.slice b8 (xq h.high) c0,.slice b9 (xq h.roots) c1]):Value)=.agg (U5 h λi=>v (16+i)):=by
    unfold U5;simp only[Nat.reduceAdd];rw[F9.out,i7.out,i8.out]
   rw[hx];exact F.out.built (D 9 Zd7) (D 12 Zd7) (D 15 Zd7)
  .cases K;go_wp2;try simp only[QN]
   exact⟨ZG v 4 (.pointer (xk ⟨xz (xj W),0,xw⟩)),rfl,F.out.alloc hi⟩
  .cases K;obtain⟨c,e4,f7,k6,R⟩:=F.out.new (D 17 Zd7);obtain⟨y,h7,hy⟩:=F.out.agg (D 16 Zd7);have R:=R hi;have y4:∀j,W.cell? ⟨c,j,xw⟩=ZW[j]? :=λj=>Ze6 _ _ _ _ _ _ R;unfold ZW at y4;have y5:∀j,W.frozen? ⟨c,j,xw⟩=xh:=λj=>Yi R;have H3:=ZdX R;have E4:=ZdX e4;have k2:=ZdX h7;obtain⟨a9,c9,f9⟩:=Rd.slfT (hy 9 Zdd);obtain⟨b8,c0,a8⟩:=Rd.slfT (hy 12 Zdd);obtain⟨b9,c1,b0⟩:=Rd.slfT (hy 15 Zdd);rw[show xq (List.map vu (Ul h 9))=(xq h.low) from Zem _]at f9;rw[show xq (List.map vu (Ul h 12))=(xq h.high) from Zem _]at a8;rw[show xq (List.map vu (Ul h 15))=(xq h.roots) from Zem _]at b0;have P:U5 h y=#[.int .u64 h.base,.int .i64 h.cap,.int .i64 (1-h.to),.bool xh,.int .i64 0,.slice xw 0 0,.slice xw 0 0,.slice a9 (xq h.low) c9,.slice b8 (xq h.high) c0,.slice b9 (xq h.roots) c1]:=by
    unfold U5;rw[f9,a8,b0]
   rw[P]at h7;have b7:=ZdX (And.intro P h7);clear R hy f9 a8 b0 P;go_wp2;try simp only[QN]
   refine⟨ZG (ZG v 4 (.pointer (xk ⟨c,0,xw⟩))) 32 (.agg #[.int .u64 h.base,.int .i64 h.cap,.int .i64 (1-h.to),.bool xh,.int .i64 0,.slice xw 0 0,.slice xw 0 0,.slice a9 (xq h.low) c9,.slice b8 (xq h.high) c0,.slice b9 (xq h.roots) c1]),rfl,?_⟩;rw[Xb (v:=v) E4.out,Xb b7.out.2];refine F.out.store E4.out k2.out (D 17 Zd7) (D 16 Zd7) hi H3.out (λb J=> ?_) ?_ ?_ ?_;exact Q9 J _ _ _ _ _ _ _ _ _ _;simp[World.setCell];rw[b7.out.1];exact C7 H3.out _ _ _ _ _ _ _ _ _ _;exact V2 (Zeh _ _) f7 _ _ _ _ _ _ _ _ _ _
 .intro L v W hL C;obtain⟨c,y,e4,f7,j2,hy⟩:=C.put (hL 18 Zd7);have h0:=ZdX C.b;have HY:=ZdX (And.intro j2 hy);have k4:=ZdX d8;have g8:=ZdX (And.intro (hL 17 Zd7) e4);clear C j2 hy hL d8;simp only[US,Qa,Zeb,Zf9,Zfj,ZgS,ZfR,ZgI,Zg0];go_wp2;go_step3
  simp only[Exit.then];rename_i k5;refine k5 _ _ (k4.out _ _ ?_);refine⟨c,0,λj=>if j=2 then y 9 else if j=3 then y 12 else if j=4 then y 15 else .slice xw 0 0,rfl,rfl,rfl,g8.out.2,rfl,ZeJ _,?_⟩;have e9:=h0.out.size;have hG:∀b,V0 wa W L v b->xz (xj w)+2<=b/\b<xz (xj W)/\b≠c:=λb J=>⟨by have:=J.1;omega,J.2.1,λe=>J.2.2 g8.out.1 (by rw[e];exact g8.out.2)⟩;refine⟨i9.out.trans (h0.out.mono Z0),(h0.out.block _ Z0).trans k3.out.2,Z0,HY.out.1,λj D=> ?_⟩;have:j=0\/j=1\/j=2\/j=3\/j=4:=Z0;obtain rfl|rfl|rfl|rfl|rfl:=this;exact .nil _ _ Zdu;exact .nil _ _ Zdu;exact(HY.out.2 9 Zdd).mono hG;exact(HY.out.2 12 Zdd).mono hG;exact(HY.out.2 15 Zdd).mono hG
end Vm
end
section
namespace Vm
open Go
open Go.Proofs
def IO:Fn:=⟨11,[0,1,2,3,4,5,6,7,8,9,10],
pQ [pR [pV 0 pF],.reg ⟨[],[([],.ag [pU 10,pI 5,pI 0,pF,pI 2,.lit [pU 2,pU 6],pN,pN,pN,.lit [pU 21]])],[(1,.m [pU 10,pI 5,pI 0,pF,pI 2,.lit [pU 2,pU 6],pN,pN,pN,.lit [pU 21]])]⟩,pC [pK 11 36 [.mm 1 0 10]] [(2,pM (.sz (.ext (.s 11) 0) 10) 10),pV 3 (.fl (.ext (.s 11) 1))],pC [pK 12 36 [.mm 2 0 10]] [(4,pM (.sz (.ext (.s 12) 0) 10) 10),pV 5 (.ext (.s 12) 1)],pC [pK 13 36 [pY]] [(6,pM (.sz (.ext (.s 13) 0) 10) 10),pV 7 (.ext (.s 13) 1)],pR [(8,pM (.mm 1 0 10) 10)],pR [(8,.m [.m 8 0,.m 8 1,.m 8 2,.m 8 3,.m 8 4,.m 8 5,.m 8 6,.m 8 7,.m 8 8,.lit [pU 0]])],pC [pK 14 36 [.mm 8 0 10]] [(9,pM (.sz (.ext (.s 14) 0) 10) 10),pV 10 (.fl (.ext (.s 14) 1))],.reg ⟨[.lt 15 [] (.bin .eql (.s 3) (pI 0)),.call 16 [(15,xy)] (.id 40) xh xh [.mm 2 0 10,.ag [pU 10,pI 5,pI 1,pT,pI 0,.lit [pU 2,pU 6],pN,.lit [pU 31,pU 0],pN,.lit [pU 31]]],.lt 17 [] (.ite (.s 15) (.s 16) pF),.lt 18 [] (.ite (.s 17) (.bin .eql (.s 5) (pI 10)) pF),.lt 19 [] (.ite (.s 18) (.bin .eql (.s 7) (pI 1)) pF),.lt 20 [] (.ite (.s 19) (.bin .eql (.s 10) (pI 0)) pF),.call 21 [(20,xy)] (.id 40) xh xh [.mm 9 0 10,.ag [pU 10,pI 5,pI 1,pF,pI 0,pN,pN,pN,pN,.lit [pU 0]]],.lt 22 [] (.ite (.s 20) (.s 21) pF),.call 23 [(22,xy)] (.id 72) xh xh [.mm 1 0 10],.call 24 [(22,xy)] (.id 40) xh xh [.s 23,.mm 1 0 10],.lt 25 [] (.ite (.s 22) (.s 24) pF),.call 26 [(25,xy)] (.id 72) xh xh [.mm 2 0 10],.call 27 [(25,xy)] (.id 40) xh xh [.s 26,pY]],[([(17,xy)],.bin .eql (.s 5) (pI 10)),([(18,xy)],.bin .eql (.s 7) (pI 1)),([(19,xy)],.bin .eql (.s 10) (pI 0))],[pV 0 (.ite (.s 25) (.s 27) pF)]⟩] .ret,[(0,.v)]⟩
def c34:ZM Sol.prog fresh sig [] [] Try.f34=xk IO:=Z2
def M3:Fn:=⟨4,[0,1,2,9],
pQ [pR [(1,pS 0 10),(2,pZ)],pQ [.reg ⟨[.lt 4 [] (.m 1 3),.call 5 [(4,xh)] (.id 25) xh xh [.mm 1 0 10]],[([(4,xh)],.un .not (.s 5))],[pV 3 (.ite (.s 4) pT (.un .not (.s 5)))]⟩] (.cond (.s 3) (pQ [.reg ⟨[],[([],pY)],[(2,pZ)]⟩] .ret) .skip),.reg ⟨[pK 6 73 [.m 1 5],pK 7 73 [.m 1 6],pK 8 73 [.m 1 9]],[([],.ag [.m 1 0,.m 1 1,.m 1 2,pF,.m 1 4,.one (.s 6),.one (.s 7),pN,pN,.one (.s 8)])],[(2,.m [.m 1 0,.m 1 1,.m 1 2,pF,.m 1 4,.one (.s 6),.one (.s 7),pN,pN,.one (.s 8)])]⟩] .ret,[(2,(.ag 10))]⟩
def c72:ZM Sol.prog fresh sig [.fz] [] Try.f72=xk M3:=Z2
end Vm
end
section
namespace Vm
open Go Go.Proofs Go.RowKit
def P8(w:Z3)(G:Z5)(g:∀b,G b->b<U (R w))(h:Hp)(k:h.ok)(a:Z8)(l:∀j,j<5->Rd w G (.sl ((Zu h j).map vu)) (a j)):
  Calls Sol.prog 36 #[ZN h a] w (Lt w (Vp h)):=by
 cases d:YS h with
 |false=>
  rw[show Vp h=(Hp.zero,1)by unfold Vp;rw[if_pos d]];exact P5 w G g h k a l d
 |true=>
  cases f:h.cycle with
  |true=>
   rw[show Vp h=(Hp.zero,10)by unfold Vp;rw[if_neg (by rw[d];simp),if_pos f]];exact P6 w G g h k a l d f
  |false=>
   obtain⟨p,r⟩:=qe.1 d;rw[show Vp h=(Th h,0)by unfold Vp;rw[if_neg (by rw[d];simp),if_neg (by rw[f];simp)]];exact P7 w G g h k a l r f
def Jx{h:Hp}(r:h.ok):VC Sol.prog 36 xh [ZQ h] (.tup [ZQ (Vp h).1,vi (Vp h).2]):=by
 refine⟨Z2,λw G vs o g k=> ?_⟩;have r0:=k 0 _ rfl;have q:vs=#[vs.getD 0 undef]:=by
  have a:vs.size=1:=g;apply ZgB;simp[a];intro i B C;have t:i<1:=Z0
  match i,t with
  |0,_=>simp[Array.getD,a]
 obtain⟨l,n,A⟩:=Z1I r0;rw[q,n];refine(P8 w G o h r l A).mono ?_;rintro e D ⟨x,rfl,f,z⟩;refine⟨_,rfl,f,?_⟩;refine .tup _ _ rfl ?_;intro i y d
 match i,d with
 |0,d=>cases d;exact FX λj u=>(z j u).mono λb p=>.inr p
 |1,d=>cases d;exact .int _ _
def A2{l:Zc}(k:P l<=1000000):VC Sol.prog 73 xh [.sl (l.map vu)] (.sl (l.map vu)):=by
 refine⟨Z2,λw G vs q f g=> ?_⟩;have r0:=g 0 _ rfl;have h:vs=#[vs.getD 0 undef]:=by
  have a:vs.size=1:=f;apply ZgB;simp[a];intro i o p;have j:i<1:=Z0
  match i,j with
  |0,_=>simp[Array.getD,a]
 rw[h];refine(zp w k r0).mono ?_;rintro e r ⟨v,rfl,d,n⟩;exact⟨v,rfl,d,n.mono λb d=>.inr d⟩
def DE{h:Hp}(d:h.ok):VC Sol.prog 72 xh [ZQ h] (ZQ (qc h)):=by
 refine Y2 Sol.func72 follows Z2 c72 rfl ?_;have k1:=Lr d;have j:=A2 d.low;have k:=A2 d.high;have l:=A2 d.roots;simp only[ZQ]at k1;unfold qc;simp[M3];cases a:h.cycle;simp[a]at k1;simp[a];refine Zz k1 Z1 ?_;cases n:YS h;simp[ZQ,Hp.zero];simp;refine Zz j Z1 ?_;simp;refine Zz k Z1 ?_;simp;refine Zz l Z1 ?_;obtain⟨p,r⟩:=qe.1 n;obtain⟨_,f,g⟩:=r.rest a;simp[ZQ,f,g,a];simp[a,ZQ,Hp.zero]
def RD:Hp:=⟨10,5,0,xh,2,[2,6],[],[],[],[21]⟩
def RE:Hp:=⟨10,5,1,xy,0,[2,6],[],[31,0],[],[31]⟩
def zc:Hp:=⟨10,5,0,xh,2,[2,6],[],[],[],[0]⟩
def JP:Hp:=⟨10,5,1,xh,0,[],[],[],[],[0]⟩
def jI:RD.ok:=by refine⟨?_,?_,?_,?_,?_,?_,?_,?_,?_,?_,?_,?_,?_,?_⟩<;>simp[RD,ZC,Yt]
def jK:RE.ok:=by refine⟨?_,?_,?_,?_,?_,?_,?_,?_,?_,?_,?_,?_,?_,?_⟩<;>simp[RE,ZC,Yt]
def Z0X:zc.ok:=by refine⟨?_,?_,?_,?_,?_,?_,?_,?_,?_,?_,?_,?_,?_,?_⟩<;>simp[zc,ZC,Yt]
def Z0V:JP.ok:=by refine⟨?_,?_,?_,?_,?_,?_,?_,?_,?_,?_,?_,?_,?_,?_⟩<;>simp[JP,ZC,Yt]
def OI:Hp.zero.ok:=by refine⟨?_,?_,?_,?_,?_,?_,?_,?_,?_,?_,?_,?_,?_,?_⟩<;>simp[Hp.zero,ZC,Yt]
def PM:VC Sol.prog 34 xh [] (.bool xy):=by
 refine Y2 Sol.func34 follows Z2 c34 rfl ?_;have p:Vp RD=(RE,0):=ZcQ;have q:Vp RE=(Hp.zero,10):=ZcQ;have r:Vp Hp.zero=(Hp.zero,1):=ZcQ;have t:Vp zc=(JP,0):=ZcQ;have r5:qc RD=RD:=ZcQ;have r6:qc RE=Hp.zero:=ZcQ;have a:=Jx jI;have d:=Jx jK;have f:=Jx OI;have g:=Jx Z0X;have h:=DE jI;have j:=DE jK;have k:=qs (b:=RE) jK;have l:=qs (b:=JP) Z0V;have n:=qs (b:=RD) jI;have o:=qs (b:=Hp.zero) OI;rw[p]at a;rw[q]at d;rw[r]at f;rw[t]at g;rw[r5]at h;rw[r6]at j;simp only[ZQ,RD,RE,zc,JP,Hp.zero,Zeb,Zf9]at a d f g h j k l n o;simp[IO];refine Zz a Z1 ?_;simp;refine Zz d Z1 ?_;simp;refine Zz f Z1 ?_;simp;refine Zz g Z1 ?_;simp;refine Zz k Z1 ?_;simp;refine Zz l Z1 ?_;simp;refine Zz h Z1 ?_;simp;refine Zz n Z1 ?_;simp;refine Zz j Z1 ?_;simp;refine Zz o Z1 ?_;simp
end Vm
end
section
namespace Vm
open Go Go.Proofs
def Z1k{h:Hp}{p:Pts}(r:Rt h p):((Wp (Un p):Nat):Int)=P h.low+P h.high:=by
 have a:=r.tiles 1 Z0;have d:=r.tiles 2 Z0;simp only[Tw,Ja,Pts.at1,Pts.at2]at a d;have f:=a.sum (ZeJ _);have g:=d.sum (ZeJ _);have w1:=qT a.no_gone;have w2:=qT d.no_gone;simp only[Wp,Un];omega
def Z1h{h:Hp}(y:h.ok)(z:h.to=0\/h.to=1):(Th h).ok:=by
 have:=jT y z (P h.roots);unfold Th YW;obtain⟨d,f,g,j,k,l,r,t,n,o,p,u,x,q⟩:=this;split;exact⟨d,f,g,j,k,l,r,t,n,o,p,u,x,q⟩;exact⟨d,f,g,j,k,l,ZeJ _,ZeJ _,n,o,p,λw a=>(by cases a),λw a=>(by cases a),q⟩
end Vm
end
section
namespace Vm
open Go
open Go.Proofs
def p9:Fn:=⟨18,[0,1,2,3,4,5,6,7,8,9,10,94,11,12,13,99,14,119],
pQ [pR [(1,pS 0 7),pV 2 pF],pC [pK 18 34 []] [pV 3 (.s 18)],pC [pK 19 35 [.mm 1 0 7]] [(4,pS 19 10)],pC [pK 20 36 [.mm 4 0 10]] [(5,pM (.sz (.ext (.s 20) 0) 10) 10),pV 6 (.ext (.s 20) 1)],pC [pK 21 15 [.mm 4 0 10]] [(7,pM (.sz (.ext (.s 21) 0) 2) 2),pV 8 (.ext (.s 21) 1)],pC [pK 22 15 [.mm 5 0 10]] [(9,pM (.sz (.ext (.s 22) 0) 2) 2),pV 10 (.ext (.s 22) 1)],pQ [.reg ⟨[.lt 23 [] (.bin .neq (.s 6) (pI 0)),.lt 24 [] (.ite (.s 23) pT (.bin .neq (.s 8) (pI 0))),.lt 25 [] (.ite (.s 24) pT (.bin .neq (.s 10) (pI 0))),.call 26 [(25,xh)] (.id 25) xh xh [.mm 5 0 10],.lt 27 [] (.ite (.s 25) pT (.un .not (.s 26))),.call 28 [(27,xh)] (.id 18) xh xh [.mm 7 0 2,.mm 9 0 2],.lt 29 [] (.ite (.s 27) pT (.un .not (.s 28))),.lt 30 [] (.ite (.s 29) pT (.bin .eql (.m 5 2) (.m 4 2))),.lt 31 [] (.ite (.s 30) pT (.bin .neq (.m 5 0) (.m 4 0))),.lt 32 [] (.ite (.s 31) pT (.bin .neq (.m 5 1) (.m 4 1))),.lt 33 [] (.ite (.s 32) pT (.bin .gtr (.len (.m 5 6)) (pI 0))),.lt 34 [] (.ite (.s 33) pT (.bin .neq (.m 5 4) (pI 0)))],[([(23,xh)],.bin .neq (.s 8) (pI 0)),([(24,xh)],.bin .neq (.s 10) (pI 0)),([(25,xh)],.un .not (.s 26)),([(27,xh)],.un .not (.s 28)),([(29,xh)],.bin .eql (.m 5 2) (.m 4 2)),([(30,xh)],.bin .neq (.m 5 0) (.m 4 0)),([(31,xh)],.bin .neq (.m 5 1) (.m 4 1)),([(32,xh)],.bin .gtr (.len (.m 5 6)) (pI 0)),([(33,xh)],.bin .neq (.m 5 4) (pI 0)),([(34,xh)],.bin .neq (.len (.m 5 9)) (.len (.m 4 9)))],[pV 11 (.ite (.s 34) pT (.bin .neq (.len (.m 5 9)) (.len (.m 4 9))))]⟩] (.cond (.s 11) (pQ [pR [pV 2 pF]] .ret) .skip),pR [pV 12 (pI 0)],pR [pV 13 (pI 0)],pQ [pR [pV 14 (pI 0)]] (.block 0 (.loop [0,1,2,3,4,5,6,7,8,9,10,11,12,13,14] (pQ [pQ [pR [pV 15 (.bin .lss (.s 14) (.len (.m 7 1)))]] (.cond (.s 15) .skip (.exit 0)),.block 1 (pR [pV 13 (.mx (.s 13) (.bin .add (.fld (.idx (.m 7 1) (.s 14) 1) 0) (pI 1)))])] (pR [pV 14 (.bin .add (.s 14) (pI 1))])))),pQ [pR [pV 16 (pI 0)]] (.block 2 (.loop [0,1,2,3,4,5,6,7,8,9,10,11,12,13,14,15,16] (pQ [pQ [.reg ⟨[.lt 35 [] (.bin .lss (.s 16) (.s 13))],[([(35,xy)],.bin .lss (.s 16) (.len (.m 7 0)))],[pV 17 (.ite (.s 35) (.bin .lss (.s 16) (.len (.m 7 0))) pF)]⟩] (.cond (.s 17) .skip (.exit 2)),.block 3 (pR [pV 12 (.bin .add (.bin .add (.bin .add (.s 12) (pI 1)) (.len (.fld (.idx (.m 7 0) (.s 16) 2) 0))) (.len (.fld (.idx (.m 7 0) (.s 16) 2) 1)))])] (pR [pV 16 (.bin .add (.s 16) (pI 1))])))),.reg ⟨[.lt 36 [] (.s 3),.lt 37 [] (.ite (.s 36) (.bin .eql (.len (.m 5 5)) (.s 12)) pF),.lt 38 [] (.ite (.s 37) (.eqv xh (.m 5 3) (.bin .gtr (.s 12) (pI 0))) pF),.lt 39 [(38,xy)] (.un .not (.m 5 3)),.call 40 [(38,xy),(39,xh)] (.id 22) xh xh [.mm 5 0 10]],[([(36,xy)],.bin .eql (.len (.m 5 5)) (.s 12)),([(37,xy)],.eqv xh (.m 5 3) (.bin .gtr (.s 12) (pI 0))),([(38,xy),(39,xh)],.bin .eql (.s 40) (.bin .sub (.bin .add (.len (.m 4 5)) (.len (.m 4 6))) (.s 12))),([(38,xy)],.ite (.s 39) pT (.bin .eql (.s 40) (.bin .sub (.bin .add (.len (.m 4 5)) (.len (.m 4 6))) (.s 12))))],[pV 2 (.ite (.s 38) (.ite (.s 39) pT (.bin .eql (.s 40) (.bin .sub (.bin .add (.len (.m 4 5)) (.len (.m 4 6))) (.s 12)))) pF)]⟩] .ret,[(2,.v)]⟩
def c9:ZM (YK Try.prog) fresh sig [.fz] [] Try.f9=xk p9:=Z2
end Vm
end
section
namespace Vm
open Go Go.Proofs
def PL:VC (YK Try.prog) 34 xh [] (.bool xy):=up PM (λx a=>by cases a) (.bool _)
def P4{h:Hp}{p:Pts}(a:h.ok)(r:Rt h p)(hc:h.cycle=xh):VC (YK Try.prog) 36 xh [ZQ h] (.tup [ZQ (Th h),vi 0]):=by
 have:=up (Jx a) (yh (J0 h)) (Z40 _ _);rwa[show Vp h=(Th h,0)by unfold Vp;rw[if_neg (by rw[r.right];simp),if_neg (by rw[hc];simp)]]at this
def Pq{x:Rw}(hx:x.ok):VC (YK Try.prog) 35 xh [WC x] (ZQ (Rf x)):=up (Pr hx) (yh (Z43 x)) (J0 _)
instance fitFlipK:FitF (YK Try.prog) 9:=zh (P:=Try.prog) Try.func9 rfl Z2
def Z2Z{x:Rw}(hx:x.ok):VC (YK Try.prog) 9 xh [WC x] (.bool xy):=by
 refine Y2 (P:=YK Try.prog) Try.func9 Fy Z2 c9 rfl ?_;simp[p9];refine Zz PL Z1 ?_;simp;have kh:=Pq hx;unfold WC at kh;refine Zz kh Z1 ?_;obtain⟨w,J,a4⟩:=Z7K hx;obtain⟨p,r⟩:=qe.1 (Z7L hx);generalize Rf x=h at*;have X:h.to=0\/h.to=1:=(WB.1 r.lay).2.2.2.2.1;have k1:=P4 w r J;have l:=Z1h w X;obtain⟨g,q,I,hE,R,Y⟩:=Z1j r J;obtain⟨s,hz⟩:=jU r J I;have k:=Z1i r J I R;obtain⟨m1,m2⟩:=Z1n s.vg_right;have B:(YL (vg h)).sm:=Z0o (ofOk w r.right).sm.gr r.vg_right;have Q:=Z6i r.vg_right;have G:=Dz w;rw[hE]at k1 l;have H:=Dz l;rw[r.ofG]at G;rw[s.ofG,Y]at H;unfold JY at k;rw[Y]at m1 m2 k;have L:=OU l s;have o:=OX l;rw[s.wait]at o;have W:=I.ext.room;have a5:=Z1k r;have S:(YI h).low=[]:=rfl;have g1:g.high=[]:=I.ext.high;have g2:g.base=h.base:=I.ext.base;have g3:g.cap=h.cap:=I.ext.cap;have g4:g.to=1-h.to:=I.ext.tos;have g5:g.scan=0:=I.ext.scan;have g6:=I.len;have a1:=w.low;have a2:=w.high;have a6:=Zy (1-h.to) Z0 Z0;have F:=Zy ((xq h.low:Int)+xq h.high) Z0 Z0;have Z:(xq g.low:Int)+Wp q=xq h.low+xq h.high:=by
  simp only[S,Zfq]at W;omega
 have T:(1-h.to=h.to)=False:=Zhp Z0;have M:=Pn (a:=YL (vg h)) (b:=YL (vg h)) B;have N:(0:Int)<=(xq (Wu (vg (YW g))):Int):=Z0;have a0:xq (Wu (vg (YW g)))<=(YL (vg h)).nodes.length:=by
  obtain⟨t,e⟩:=zq (vg (YW g));rw[<-Y,Z0n,e,ZeK];omega
 generalize (xq (Wu (vg (YW g))))=D at*;obtain⟨x1,x2,x3⟩:=Z3u N m1;have A:To (YL (vg h)).roots=D:=by
  obtain y|⟨x,hx,e⟩:=m2;omega;have:=x3 x hx;omega
 have U:=Sn Q;generalize YL (vg h)=C at*;obtain⟨c1,c2,c3⟩:=B;have z:(YW g).low=g.low:=by unfold YW;split<;>rfl
 simp only[ZQ,Yl]at k1 G H L M o;have O:(YW g).high=[]/\(YW g).base=h.base/\(YW g).cap=h.cap/\(YW g).to=1-h.to/\(YW g).scan=0/\(YW g).roots.length=xq h.roots/\(YW g).cycle=decide (0<xq g.low):=by
  unfold YW;split<;>simp_all
 obtain⟨q1,q2,q3,q4,q5,q6,q7⟩:=O;simp only[q1,q2,q3,q4,q5,q7,z]at k1 G H L M o;simp;refine Zz k1 Z1 ?_;simp;refine Zz G Z1 ?_;simp;refine Zz H Z1 ?_;simp;refine Zz L Z1 ?_;simp;refine Zz M Z1 ?_;simp[T,q6];refine Vh 14 (xq C.roots) (λi=>[(13,.v (vi (To (C.roots.take i)))),(14,.v (vi i))]) (λ_=>True) (by simp[To]) Z1 trivial ?_;intro i hi _;by_cases f:i<xq C.roots;have d:C.roots[i]?=xk C.roots[i]:=ZdO f;have hb:=U _ (Ze5 f);have K:=Z3v d;have w1:=Zy ((i:Int)+1) Z0 Z0;have w2:=Zy (C.roots[i]+1) Z0 Z0;generalize C.roots[i]=u at*;simp[f,d,Yh d,w1,w2,K];omega;have:i=xq C.roots:=Z0;subst this;simp[A];refine Vh 16 D (λi=>[(12,.v (vi (V6 (C.nodes.take i):Nat))),(16,.v (vi i))]) (λ_=>True) (by simp[V6]) Z1 trivial ?_;intro i hi _;by_cases f:i<D;have j:i<xq C.nodes:=Z0;have d:C.nodes[i]?=xk C.nodes[i]:=ZdO j;have hb:=c3 _ (Ze5 j);have K:=Z8w d;have a3:=Z8v c3 (i+1);have w1:=Zy ((i:Int)+1) Z0 Z0;generalize C.nodes[i]=u at*;simp only[S8]at K;have w2:=Zy ((V6 (C.nodes.take i):Int)+1) Z0 Z0;have w3:=Zy ((V6 (C.nodes.take i):Int)+1+xq u.ptrs) Z0 Z0;have w4:=Zy ((V6 (C.nodes.take i):Int)+1+xq u.ptrs+xq u.data) Z0 Z0;simp[f,j,d,Yh d,w1,w2,w3,w4,K];omega;have:i=D:=Z0;subst this;have wd:=Zy ((xq h.low:Int)+xq h.high-xq g.low) Z0 Z0;by_cases y:0<xq g.low;rw[if_pos y]at o;have n:(0:Int)<xq g.low:=Z0;simp only[y,ZgQ]at o;simp[k,y,n,F,wd];refine Zz o Z1 ?_;simp[F,wd];omega;have n:¬(0:Int)<xq g.low:=Z0;simp[k,y,n]
end Vm
end
section
namespace Go.Proofs.Ytffknkhabklijaa
open Vm Go.ChangeShapes Go.WideShapes Go.ChangeAt Go.RowKit
def flipKeeps_law(xs:List V)(a:P xs=Try.f9.params.toList.length)(d:∀(i:Nat) (t:TypeId) (x:V),Try.f9.params.toList[i]?=xk t->xs[i]?=xk x->Xq Try.prog 8 t x):
  VC (YK Try.prog) 9 xh xs (.bool xy):=by
 rw[Try.params9]at a d
 match xs,a with
 | [g],_=>
   obtain⟨x,rfl,f⟩:=Z7X (d 0 _ g rfl rfl);exact Z2Z f
def flipKeeps_lifted(j:Os)(a:j.Started)(H:Type)(enc:TypeId×Value->H):
  ReturnsInLeavingWide {} Try.checked j 9 .any (Rows.flipKeepsSpec.pre6 enc Try.prog Try.f9 Rows.flipKeepsRow.domain xh) (Rows.flipKeepsSpec.post enc Try.prog Try.f9 xh xy xh xh):=by
 refine returnsInLeavingWide_of_change_sized (C:=Try.checked) own a Try.func9
  (ChangeSpec.witness6 (enc:=enc) (C:=Try.checked) xh ⟨#[], #[.agg #[.slice xw 0 0,.slice xw 0 0,.slice xw 0 0,.int .u64 0,.int .i64 0,.int .i64 0,.int .i64 0]],[]⟩ 8 Z2 Z2 Z2 Z2) ?_
 intro W base args g gs d f k _ _ _;exact Z1A (P:=Try.prog) Z2 (Z30 (P:=YK Try.prog) (tb:=4) 8 laidOut Z2 Z2 rfl Z2 Try.underlying4 (λH g h=>by
  rw[Try.params9]at h
  match g,h with
  | [_],_=>rfl) flipKeeps_law H enc W base args g gs d f k)
theorem flipKeeps_holds:Rows.FlipKeepsSaid:=
 OpenClaim.holds_of_wide_leaving 9 Try.f9 rfl rfl rfl rfl rfl rfl rfl ⟨rfl,rfl,rfl,rfl,rfl⟩ rfl rfl rfl rfl rfl Z2 Try.func9 Z2
  (Zgq Z2) (by unfold Func.isWrapper;first|(rw[if_pos ZcQ];kernel_rfl)|(rw[if_neg ZcQ];exact⟨rfl,rfl⟩))
  (λf a H d _=>flipKeeps_lifted f a H d)
#print axioms flipKeeps_holds
end Go.Proofs.Ytffknkhabklijaa
end
