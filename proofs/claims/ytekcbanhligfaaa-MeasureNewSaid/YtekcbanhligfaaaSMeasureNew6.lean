import Derived.Deep.DeepCutAuto
import Derived.Laws.EntriesVeiled
import Derived.Conc.SmallLaws
import Derived.Test.YtekcbanhligfaaaSMeasureNew5
set_option linter.unusedSimpArgs false
set_option linter.unusedVariables false
set_option linter.defProp false
open Option renaming some→J,none→U
open Bool renaming true→xk,false→xw
open Go renaming undef→xy
open List renaming length→I
open Array renaming size→xz
open Go.World renaming heap→xj
open List renaming length→xq
open Array renaming size→xz
open Go.World renaming heap→xj
set_option maxHeartbeats 40000000
set_option maxRecDepth 100000
theorem ZeE{p:Prop}(h:p:=by simp[World.setCell]):p:=h
theorem ZeC{p:Prop}(h:p:=by simp[results,Try.results33,go_sem]):p:=h
theorem Zef{p:Prop}(h:p:=by simp only[UN,Q7,List.map_cons,List.map_nil,List.foldl_cons,List.foldl_nil,List.setIfInBounds_toArray,List.set_cons_succ,List.set_cons_zero]):p:=h
theorem ZeP{p:Prop}(h:p:=by show xz (xj w)≤c;omega):p:=h
theorem Zey{p:Prop}(h:p:=by unfold Xi;omega):p:=h
theorem Zeo{p:Prop}(h:p:=by have:=f.c2;rw[A.out.1,A.out.2.1,A.out.2.2.1,A.out.2.2.2]at this;grind [cell_of_row]):p:=h
theorem Ze5{p:Prop}(h:p:=by decide+kernel):p:=h
theorem Zex{p:Prop}(h:p:=by obtain⟨y,_,rfl⟩:=List.mem_map.1 d;rfl):p:=h
def Zj2:=@Go.wp_scope_jumps
def ZiA:=@Go.grownBy_keeps
def Zi8:=@List.take_append_of_le_length
def Zj8:=@Bool.and_true
def ZiP:=@Int.natCast_add
def Zit:=@List.foldl_nil
def ZgW:=@List.setIfInBounds_toArray
def ZhO:=@List.set_cons_succ
def ZhP:=@List.set_cons_zero
def Zj0:=@Go.KeepsFrom.refl
def Zhx:=@List.all_eq_false
def ZiE:=@List.sum_cons
def Zj3:=@List.drop_drop
section
namespace Vm
open Go Go.Proofs Go.RowKit
def TA(w:Z3)(r:Hp×Int)(e:Ending)(w':Z3):Prop:=
 ∃x,e=.returned (.tuple #[Zx r.1 x,.int .i64 r.2])/\Below (xz<|xj w) w w'/\∀j,j<5->Rd w' (λc=>xz (xj w)<=c/\c<xz (xj w')) (.sl<|(Zu r.1 j).map vu) (x j)
def Jk{w:Z3}{G:Z4}{h:Hp}{x:Z5}(k:h.ok)(f:∀b,G b->b<xz (xj w))(l:∀j,j<5->Rd w G (.sl<|(Zu h j).map vu) (x j)):
  Calls xP 10 #[Zx h x] w λe d=>e=.returned (.bool<|Yg h)/\Below (xz<|xj w) w d:=by
 refine Zhc ((Qn k).2 w G _ f rfl ?_) ?_;intro i y a
 match i,a with
 |0,a=>cases a;exact RJ l
 rintro e d ⟨v,rfl,g,n⟩;exact⟨by rw[Cj n],g⟩
def PE(w:Z3)(G:Z4)(r:∀b,G b->b<xz (xj w))(h:Hp)(A:h.ok)(a:Z5)(y:∀j,j<5->Rd w G (.sl<|(Zu h j).map vu) (a j))(u:Yg h=xw):
  Calls xP 26 #[Zx h a] w (TA w (Hp.zero,1)):=by
 have p:∀W,Below (xz<|xj w) w W->Calls xP 10 #[Zx h a] W λe D=>e=.returned (.bool<|Yg h)/\Below (xz<|xj W) W D:=λW t=>
  Jk (w:=W) (G:=G) (x:=a) A (λb f=>Zf4 (r b f) t.size) (λj B=>(y j B).keep (λb f=>t.block b<|r b f) λ_ q=>q)
 rw[u]at p;have z:=Zf0 p;clear p;clear y u;unfold Zx;go_enter LK,Try.ntmps26;go_wp2;refine Zj2 0 (λ_ _=>False) (λ_ _=>0) rfl ?_ (λ_ _ h=>h.elim)
 go_upto_region 2 with (first
  | (go_at_call 10;refine(z.out _ ?_).mono ?_;rotate_left;rintro e g ⟨rfl,d⟩
     have o:g.heap[xz<|xj w]?=J (.cells #[.int .u64 h.base,.int .i64 h.cap,.int .i64 h.to,.bool h.M,.int .i64 h.Y,a 0,a 1,a 2,a 3,a 4] 27 (0,0)):=(d.block _ Ze4).trans<|(Zfa _ _ _ Z1).trans<|Zfq w _;have k:g.heap[xz (xj w)+1]?=J (.cells ZI 27 (0,0)):=(d.block _ Z1).trans<|Dp w _;have H:∀j,g.cell? ⟨xz<|xj w,j,U⟩=(#[.int .u64 h.base,.int .i64 h.cap,.int .i64 h.to,.bool h.M,.int .i64 h.Y,a 0,a 1,a 2,a 3,a 4]:Array Value)[j]? :=λj=>Zf6 _ _ _ _ _ _ o;have F:∀j,g.cell? ⟨xz (xj w)+1,j,U⟩=ZI[j]? :=λj=>Zf6 _ _ _ _ _ _ k;unfold ZI at F;have fz:∀j,g.frozen? ⟨xz (xj w)+1,j,U⟩=xw:=λj=>Y9 k;have l:=Zf0 d;have n:=Zf0<|And.intro o k;clear d o k))
 case refine_1=>exact((Zfg _ w).alloc (Zf3 _) _).alloc Z1 _
 go_wp2;simp only[Exit.jump];have C:=Ul n.out.2 (.int .u64 0) (.int .i64 0) (.int .i64 0) (.bool xw) (.int .i64 0) (.slice U 0 0) (.slice U 0 0) (.slice U 0 0) (.slice U 0 0)<|.slice U 0 0;refine ZfA (v:=.tuple #[.agg ZI,.int .i64 1]) ?_ rfl ?_
 .simp[results,Try.results26,go_sem,C,ZI]
 exact⟨λ_=>.slice U 0 0,rfl,Wq (Below.trans (((Zfg _ w).alloc (Zf3 _) _).alloc Z1 _)<|l.out.mono Ze4) Z0,JA _ _⟩
def PF(w:Z3)(G:Z4)(r:∀b,G b->b<xz (xj w))(h:Hp)(A:h.ok)(a:Z5)(y:∀j,j<5->Rd w G (.sl<|(Zu h j).map vu) (a j))(u:Yg h=xk)(hc:h.M=xk):
  Calls xP 26 #[Zx h a] w (TA w (Hp.zero,10)):=by
 have g:∀W,Below (xz<|xj w) w W->Calls xP 10 #[Zx h a] W λe D=>e=.returned (.bool<|Yg h)/\Below (xz<|xj W) W D:=λW t=>
  Jk (w:=W) (G:=G) (x:=a) A (λb f=>Zf4 (r b f) t.size) (λj B=>(y j B).keep (λb f=>t.block b<|r b f) λ_ q=>q)
 rw[u]at g;unfold Zx at g;rw[hc]at g;have z:=Zf0 g;clear g;clear y u;unfold Zx;rw[hc];clear hc;go_enter LK,Try.ntmps26;go_wp2;refine Zj2 0 (λ_ _=>False) (λ_ _=>0) rfl ?_ (λ_ _ h=>h.elim)
 go_upto_region 4 with (first
  | (go_at_call 10;refine(z.out _ ?_).mono ?_;rotate_left;rintro e k ⟨rfl,d⟩
     have p:k.heap[xz<|xj w]?=J (.cells #[.int .u64 h.base,.int .i64 h.cap,.int .i64 h.to,.bool xk,.int .i64 h.Y,a 0,a 1,a 2,a 3,a 4] 27 (0,0)):=(d.block _ Ze4).trans<|(Zfa _ _ _ Z1).trans<|Zfq w _;have l:k.heap[xz (xj w)+1]?=J (.cells ZI 27 (0,0)):=(d.block _ Z1).trans<|Dp w _;have H:∀j,k.cell? ⟨xz<|xj w,j,U⟩=(#[.int .u64 h.base,.int .i64 h.cap,.int .i64 h.to,.bool xk,.int .i64 h.Y,a 0,a 1,a 2,a 3,a 4]:Array Value)[j]? :=λj=>Zf6 _ _ _ _ _ _ p;have F:∀j,k.cell? ⟨xz (xj w)+1,j,U⟩=ZI[j]? :=λj=>Zf6 _ _ _ _ _ _ l;unfold ZI at F;have fz:∀j,k.frozen? ⟨xz (xj w)+1,j,U⟩=xw:=λj=>Y9 l;have n:=Zf0 d;have o:=Zf0<|And.intro p l;clear d p l))
 case refine_1=>exact((Zfg _ w).alloc (Zf3 _) _).alloc Z1 _
 go_wp2;simp only[Exit.jump];have C:=Ul o.out.2 (.int .u64 0) (.int .i64 0) (.int .i64 0) (.bool xw) (.int .i64 0) (.slice U 0 0) (.slice U 0 0) (.slice U 0 0) (.slice U 0 0)<|.slice U 0 0;refine ZfA (v:=.tuple #[.agg ZI,.int .i64 10]) ?_ rfl ?_
 .simp[results,Try.results26,go_sem,C,ZI]
 exact⟨λ_=>.slice U 0 0,rfl,Wq (Below.trans (((Zfg _ w).alloc (Zf3 _) _).alloc Z1 _)<|n.out.mono Ze4) Z0,JA _ _⟩
section
def Z8e{P a w Q c rest}l k(μ:Act->World->Nat)(j:findLabel c l=J (.seq .skip rest))
  (pass:∀a w,k a w->rest.wp P (Exit.jump l (λd g=>k d g/\μ d g<μ a w) Q) a w)
  (first:(∀a w,k a w->rest.wp P (Exit.jump l k Q) a w)->c.wp P (Exit.jump l k Q) a w):=
 Zj2 l k μ j (first λa w f=>Code.wp_mono (λe d g h=>by
  cases e<;>first
   |exact h
   |exact⟨h.1,h.2.1⟩) (pass a w f)) λa w f=>wp_seq<|wp_skip<|pass a w f
def Z0G{t n}(h:t.size=n):t=((List.range n).map λi=>t.getD i xy).toArray:=by
 apply Zhq;simp[h];intro i a d;simp[a]
def MZ{w2:Z3}{b T a d f g h j k l n o}(p:w2.heap[b]?=J (.cells #[a,d,f,g,h,j,k,l,n,o] T (0,0))){v0 v1 v2 v3 v4 v5 v6 v7 v8 v9}:((((((((((w2.setCell ⟨b,0,U⟩ v0).setCell ⟨b,1,U⟩ v1).setCell ⟨b,2,U⟩ v2).setCell ⟨b,3,U⟩ v3).setCell ⟨b,4,U⟩ v4).setCell ⟨b,5,U⟩ v5).setCell ⟨b,6,U⟩ v6).setCell ⟨b,7,U⟩ v7).setCell ⟨b,8,U⟩ v8).setCell ⟨b,9,U⟩ v9).heap[b]?=J (.cells #[v0,v1,v2,v3,v4,v5,v6,v7,v8,v9] T (0,0)):=by
 simp[World.setCell,Zfy,p]
def Ye(h:Hp)(x:Z5):Array Value:=#[.int .u64 h.base,.int .i64 h.cap,.int .i64 h.to,.bool h.M,.int .i64 h.Y,x 0,x 1,x 2,x 3,x 4]
structure FlI (w W:World) (c:Nat) (g:Hp) (x:Nat->Value):Prop where
 below:Below (xz<|xj w) w W
 rb:W.heap[xz (xj w)+1]?=J (.cells ZI 27 (0,0))
 le:xz (xj w)+2<=c
 nb:W.heap[c]?=J (.cells (Ye g x) 27 (0,0))
 rd:∀j,j<5->Rd W (λb=>xz (xj w)+2<=b/\b<xz (xj W)/\b≠c) (.sl<|(Zu g j).map vu) (x j)
def Z2e{n}(h:n=0\/n=1):YI<|1-n:=by unfold YI;omega
def Z2o{h}(p:h.ok)(q:h.to=0\/h.to=1):(YA h).ok:=by
 let⟨d,f,r,t,g,j,u,x,k,l,n,y,z,o⟩:=p;exact⟨d,f,Z2e q,⟨by show _<=(0:Int);omega,by show(0:Int)<=_;omega⟩,Zg5 _,Zg5 _,g,j,k,λw a=>(by cases a),λw a=>(by cases a),l,n,o⟩
def Z7D{h:Hp}(z:h.ok){k v}(A:ZA v):({h with E:=h.E.set k v}:Hp).ok:=by
 let⟨d,f,g,j,l,n,o,p,q,r,t,u,x,y⟩:=z;refine⟨d,f,g,j,l,n,o,p,by simp[Zgx];exact q,r,t,u,x,λw a=> ?_⟩;obtain a|rfl:=Zgm a;exact y w a;exact A
def Z2B{l:Z9}(h:∀w∈l,ZA w)(i:Nat):ZA<|(l[i]?).getD 0:=by
 cases e:l[i]? with
 |none=>exact⟨Zeh,Zeh⟩
 |some x=>exact h x Ze2
def Aa{h}(a:h.ok)(d:h.to=0\/h.to=1):∀k,(X3 (YA h) k).ok
 |0=>Z2o a d
 |k+1=>by
  have g:=Aa a d k;have f:=zB g<|Z2B g.db k;exact Z7D f.1 f.2
def Vq(i:Nat):Nat:=if i<7 then 39+i else if i=7 then 38 else if i=8 then 46 else if i=9 then 47 else if i=10 then 48 else if i=11 then 7 else if i=12 then 6 else if i=14 then 8 else 0
def D2:∀i,i<15->∀j,j<15->i≠j->Vq i≠Vq j:=Zeh
def frE(c:Nat)(g:Hp)(x:Z5)(k:Nat)(a:Zc)(u:Int):Nat->Value
 |0=>.agg<|Ye g x
 |1=>.pointer<|J ⟨c,9,U⟩
 |2=>x 4
 |3=>.int .i64 k
 |4=>a
 |_=>.int .u64 u
def Ke(fv:Int)(g':Hp)(a:Z5):Value:=.tuple #[.int .u64 fv,.agg<|Ye g' a,.int .i64 0]
def FrV(E:Z5)(fv:Int)(g':Hp)(O:(Nat->Value)->Prop)(i:Nat)(val:Zc):Prop:=
 if i<6 then val=E i else if i=6\/i=7 then ∃a,val=Ke fv g' a/\O a else if i=9 then ∃a,val=.agg (Ye g' a)/\O a else if i=8\/i=12 then val=.int .u64 fv else val=.int .i64 0
def FrV.mono{E fv g' O a i val}(h:FrV E fv g' O i val)(d:∀x,O x->a x):FrV E fv g' a i val:=by
 unfold FrV at*;split;rename_i c;rw[Zfc c]at h;exact h;rename_i c;rw[Zf7 c]at h;split;rename_i c;rw[Zfc c]at h;let⟨x,e,o⟩:=h;exact⟨x,e,d x o⟩
 rename_i c;rw[Zf7 c]at h;split;rename_i c;rw[Zfc c]at h;let⟨x,e,o⟩:=h;exact⟨x,e,d x o⟩
 rename_i c;rw[Zf7 c]at h;exact h
structure FrO (W0 W:World) (L:Nat->Bool) (v:Nat->Value) (g':Hp) (x':Nat->Value):Prop where
 own:HOwn (xz<|xj W0) W g' x'
 am:∀j,j<5->∀b,(x' j).ownBlock=J b->L 11=xk->v 7≠.pointer (J ⟨b,0,U⟩)
structure FrC (W0:World) (E:Nat->Value) (fv:Int) (g':Hp) (L:Nat->Bool) (v:Nat->Value) (W:World):Prop where
 b:Below (xz<|xj W0) W0 W
 val:∀i,i<15->i≠11->i≠13->L i=xk->FrV E fv g' (FrO W0 W L v g') i (v<|Vq i)
 new:L 11=xk->∃c,v 7=.pointer (J ⟨c,0,U⟩)/\xz (xj W0)<=c/\c<xz (xj W)/\(L 13=xw->W.heap[c]?=J (.cells ZI 27 (0,0)))
 put:L 13=xk->∃c x',v 7=.pointer (J ⟨c,0,U⟩)/\W.heap[c]?=J (.cells (Ye g' x') 27 (0,0))/\FrO W0 W L v g' x'
 c13:L 13=xk->L 11=xk
section
variable {W0 W W':Z3}{E:Z5}{fv:Int}{g':Hp}{L:Zs}{v:Z5}
def FrO.keep{d v' a}(o:FrO W0 W L v g' a)(k:∀j,j<5->∀b,(a j).ownBlock=J b->W'.heap[b]?=W.heap[b]?)(l:xz (xj W)<=xz (xj W'))
  (f:∀j,j<5->∀b,(a j).ownBlock=J b->d 11=xk->v' 7≠.pointer (J ⟨b,0,U⟩)):FrO W0 W' d v' g' a:=
 ⟨⟨λj g=>Xe (o.own.own j g) λb h=>Ze2,o.own.apart⟩,f⟩
def FrC.step(C:FrC W0 E fv g' L v W){i s}(z:i<15)(D:i≠11)(F:i≠13)(G:s=Vq i){x}(l:Below (xz<|xj W) W W')
  (H:FrV E fv g' (FrO W0 W' L v g') i x):FrC W0 E fv g' (add L i) (X2 v s x) W':=by
 subst G;have g:add L i 11=L 11:=Wt Z0;have k:add L i 13=L 13:=Wt Z0;have p:X2 v _ x 7=v 7:=Tw v x (show Vq 11≠Vq i from D2 11 Z0 i z Z0);have A:∀f,FrO W0 W L v g' f->FrO W0 W' (add L i) (X2 v _ x) g' f:=λf o=>o.keep (λj h b d=>l.block b ((o.own.own j h).lt b d).2) l.size (λj h b d=>by rw[g,p];exact o.am j h b d);have w:∀f,FrO W0 W' L v g' f->FrO W0 W' (add L i) (X2 v _ x) g' f:=λf o=>o.keep Z1 Z0 (λj h b d=>by rw[g,p];exact o.am j h b d);refine⟨C.b.trans<|l.mono C.b.size,λj h t u a=> ?_,λa=> ?_,λa=> ?_,λa=> ?_⟩;by_cases e:j=i;subst e;rw[R6];exact H.mono w;rw[Wt e]at a;rw[Tw v x<|D2 j h i z e];exact(C.val j h t u a).mono A;rw[g]at a;let⟨c,q,r,n,B⟩:=C.new a;refine⟨c,by rw[p];exact q,r,Zf4 n l.size,λy=> ?_⟩;rw[k]at y;exact(l.block c n).trans (B y);rw[k]at a;let⟨c,f,q,r,n⟩:=C.put a;exact⟨c,f,by rw[p];exact q,(l.block c Ze2).trans r,A f n⟩;rw[k]at a;rw[g];exact C.c13 a
def FrC.call(C:FrC W0 E fv g' L v W){g}(o:Below (xz<|xj W) W W')(f:HOwn (xz<|xj W) W' g' g):FrC W0 E fv g' (add L 6) (X2 v 45<|Ke fv g' g) W':=by
 refine C.step Z0 Z0 Z0 rfl o ?_;unfold FrV;rw[Zf7 Z0,Zfc Z0];refine⟨g,rfl,⟨λj d=>KQ (f.own j d) λb k l=>⟨Zfw C.b.size k,l⟩,f.apart⟩,λj d b a n e=> ?_⟩;let⟨c,h,_,p,_⟩:=C.new n;rw[h]at e;cases e;have:=((f.own j d).lt b a).1;omega
def FrC.alloc(C:FrC W0 E fv g' L v W)(h:L 11=xw):FrC W0 E fv g' (add L 11) (X2 v 7<|.pointer<|J ⟨xz<|xj W,0,U⟩)<|W.alloc<|.cells ZI 27:=by
 have k:L 13=xw:=by
  cases e:L 13 with
  |false=>rfl
  |true=>have:=C.c13 e;rw[h]at this;cases this
 have l:Below (xz<|xj W) W<|W.alloc<|.cells ZI 27:=(Zfg _ _).alloc (Zf3 _) _;have r:xz (xj<|W.alloc<|.cells ZI 27)=xz (xj W)+1:=Z1
 have q:∀p,FrO W0 W L v g' p->FrO W0 (W.alloc<|.cells ZI 27) (add L 11) (X2 v 7<|.pointer<|J ⟨xz<|xj W,0,U⟩) g' p:=λp o=>o.keep (λj g b d=>l.block b ((o.own.own j g).lt b d).2) l.size (λj g b d _=>by
  rw[R6];intro e;cases e;have:=((o.own.own j g).lt _ d).2;omega)
 refine⟨C.b.trans<|l.mono C.b.size,λj g f n a=> ?_,λa=> ?_,λa=> ?_,λa=> ?_⟩;rw[Wt f]at a;rw[Tw v _ (s:=7) (t:=Vq j) (show Vq j≠7 from D2 j g 11 Z0 f)];exact(C.val j g f n a).mono q;exact⟨xz<|xj W,R6 _ _ _,C.b.size,Z0,λ_=>Zfq W _⟩;rw[Wt Z0,k]at a;cases a;exact LN _ _
def FrC.store(C:FrC W0 E fv g' L v W){c:Nat}(hc:v 7=.pointer (J ⟨c,0,U⟩)){y:Z5}(z:FrO W0 W L v g' y)(a:L 11=xk)(D:L 13=xw)(G:W.heap[c]?=J (.cells ZI 27 (0,0)))
  (u:∀b,b≠c->W'.heap[b]?=W.heap[b]?) (F:xz (xj W')=xz (xj W)) (x:W'.heap[c]?=J (.cells (Ye g' y) 27 (0,0))) (w:Below (xz<|xj W0) W W'):FrC W0 E fv g' (add L 13) v W':=by
 have k:add L 13 11=L 11:=Wt Z0;have r:∀n,FrO W0 W L v g' n->FrO W0 W' (add L 13) v g' n:=λn o=>o.keep (λj g b d=>u b (λe=>by subst e;exact o.am j g b d a hc)) Z0 (λj g b d _=>o.am j g b d a);obtain⟨A,p,t,B,_⟩:=C.new a;rw[hc]at p;cases p;refine⟨C.b.trans w,λj g l h f=> ?_,λf=> ?_,λf=> ?_,λf=>by rw[k];exact a⟩;rw[Wt h]at f;exact(C.val j g l h f).mono r;refine⟨c,hc,t,Z0,λq=> ?_⟩;rw[LN]at q;cases q;exact⟨c,y,hc,x,r y z⟩
def FrC.e(C:FrC W0 E fv g' L v W)i(d:i<6)(a:L i=xk):v (Vq i)=E i:=by
 have:=C.val i Z0 Z0 Z0 a;unfold FrV at this;rwa[Zfc d]at this
def FrC.t(C:FrC W0 E fv g' L v W)i(f:i=6\/i=7)(d:L i=xk):∃a,v (Vq i)=Ke fv g' a/\FrO W0 W L v g' a:=by
 have:=C.val i Z0 Z0 Z0 d;unfold FrV at this;rwa[Zf7 Z0,Zfc f]at this
def FrC.a(C:FrC W0 E fv g' L v W)(f:L 9=xk):∃d,v 47=.agg (Ye g' d)/\FrO W0 W L v g' d:=by
 have:=C.val 9 Z0 Z0 Z0 f;unfold FrV at this;rwa[Zf7 Z0,Zf7 Z0,Zfc rfl]at this
def FrC.f(C:FrC W0 E fv g' L v W)i(d:i=8\/i=12)(a:L i=xk):v (Vq i)=.int .u64 fv:=by
 have:=C.val i Z0 Z0 Z0 a;unfold FrV at this;rwa[Zf7 Z0,Zf7 Z0,Zf7 Z0,Zfc d]at this
def FrC.z(C:FrC W0 E fv g' L v W)i(d:i=10\/i=14)(a:L i=xk):v (Vq i)=.int .i64 0:=by
 have:=C.val i Z0 Z0 Z0 a;unfold FrV at this;rwa[Zf7 Z0,Zf7 Z0,Zf7 Z0,Zf7 Z0]at this
def FrC.pe(C:FrC W0 E fv g' L v W)i(a:i<6){s}(d:s=Vq i):=
 C.step Z0 Z0 Z0 d (Zfg _ _) (by unfold FrV;rw[Zfc a])
def FrC.pt(C:FrC W0 E fv g' L v W){a}(o:FrO W0 W L v g' a):FrC W0 E fv g' (add L 7) (X2 v 38<|Ke fv g' a) W:=
 C.step Z0 Z0 Z0 rfl (Zfg _ _) (by unfold FrV;rw[Zf7 Z0,Zfc Z0];exact⟨a,rfl,o⟩)
def FrC.pa(C:FrC W0 E fv g' L v W){a}(o:FrO W0 W L v g' a):FrC W0 E fv g' (add L 9) (X2 v 47<|.agg<|Ye g' a) W:=
 C.step Z0 Z0 Z0 rfl (Zfg _ _) (by unfold FrV;rw[Zfc rfl];exact⟨a,rfl,o⟩)
def FrC.pf(C:FrC W0 E fv g' L v W)i(a:i=8\/i=12){s}(d:s=Vq i):=
 C.step Z0 Z0 Z0 d (Zfg _ _) (by unfold FrV;rw[Zf7 Z0,Zf7 Z0,Zf7 Z0,Zfc a])
def FrC.pz(C:FrC W0 E fv g' L v W)i(d:i=10\/i=14){s}(a:s=Vq i):=
 C.step Z0 Z0 Z0 a (Zfg _ _) (by unfold FrV;rw[Zf7 Z0,Zf7 Z0,Zf7 Z0,Zf7 Z0])
end
def Jg{W G}{l:Z9}{y}(h:Rd W G (.sl<|l.map vu) y){k u}(j:l[k]?=J u):∃b o cap,y=.slice (J ⟨b,o,U⟩) (I l) cap/\W.cell? ⟨b,o+k,U⟩=J (.int .u64 u)/\G b:=by
 have g:=(ZeW.1 j).1;generalize a:l.map vu=L at h;cases h with
 |nil=>simp at a;subst a;simp at g
 |sl _ b o cap w vs x z n p q r=>
  have d:I L=I l:=by rw[<-a,Zfu]
  have f:w=1:=by
   have:=(p _ (by rw[<-a];exact Zgz<|Zf5 j)).1;simpa using this.symm
  subst f;refine⟨b,o,cap,by rw[d],?_,n⟩;rw[q k Z0];have t:(flat L)[k]?=J (vu u):=by rw[<-a,zp,Zfo,j];rfl
  rw[Tt<|r k _ t]
end
end Vm
end
section
namespace Vm
open Go Go.Proofs
section
def WD(l:Zk)(i:Int):Bool:=l.any λo=>decide (o.Z<i)&&decide (i<=o.Z+o.ac)
def YP(g:Hp):Hp:=if g.Y=(I g.H) then {g with M:=xw,an:=[],am:=[]}else g
def Ws(h:Hp):Hp:=
 YP (if WD (ZM h.H [] xw).1 h.Y=xk then
  {(fwd h<|(h.H[h.Y.toNat]?).getD 0).2.1 with H:=(fwd h<|(h.H[h.Y.toNat]?).getD 0).2.1.H.set h.Y.toNat (fwd h<|(h.H[h.Y.toNat]?).getD 0).1,Y:=h.Y+1}
 else {h with Y:=h.Y+1})
def ZU(h:Hp):Nat->Hp
 |0=>h
 |k+1=>if h.M then ZU (Ws h) k else h
section
variable {h g:Hp}{p q:Pts}
def RM{l i}:WD l i=xk↔ ∃o∈l,o.Z<i/\i<=o.Z+o.ac:=by
 unfold WD;simp
def Rt.mg(r:Rt h p):ZM h.H [] xw=(p.H,0):=by
 have t:=r.al 1 Z0;simp[Pts.mi]at t;refine Lx t ?_;unfold Vz;have:p.H.filter (λo=>o.gone)=[]:=by
  rw[ZhV];intro o a;rw[t.cr o a];simp
 rw[this];rfl
def Z45(t:Tld h p){w}(f:Gos h p w 1 2):UH w=xk:=by
 unfold UH;obtain a|⟨k,_,_,_,o,_,d,_⟩:=f.uj t Z0 Z0;simp[a];simp[d]
def Body.oz(b:Body g q){i:Nat}(hs:g.Y=i)(K:i<I g.H){v}(M:Gos g q v 1 2)(G:WD q.H i=xk):Body {g with H:=g.H.set i v,Y:=i+1} q:=by
 let⟨o,L,Z,h2⟩:=RM.1 G;let⟨a,n,m,X,Y,em,D,_,W⟩:=b.toTld.ob (k:=1) Z0 L;simp[VG]at D;have F:Zv {g with H:=g.H.set i v,Y:=i+1}=Zv g:=by
  unfold Zv;simp
 have f:∀ {w N O},Gos {g with H:=g.H.set i v,Y:=i+1} q w N O↔Gos g q w N O:=DD F;have z:=b.al 1 Z0;simp[VG,Pts.mi]at z;have u:∀x∈q.H,∀j:Nat,j<=x.size->x.Z.toNat+j=i->x=o/\0<j/\j<=x.ac:=by
  intro x p j r e;let⟨c,d,P,Q,R,C,_⟩:=b.toTld.ob (k:=1) Z0 p;obtain B|B|B:=z.apart x p o L;subst B;exact⟨rfl,Z0,Z0⟩;omega;omega
 refine⟨⟨by rw[F];exact b.bj,λk A=> ?_⟩,by rw[F];exact b.gone,λk A x p H j r w t=> ?_,?_⟩;by_cases k1:k=1;subst k1;show Tiles (g.H.set i v) _ 0 q.H;refine z.congr Z1 λx p=> ?_;have l:=(z.az x p).1;let⟨c,d,P,Q,R,C,T,_⟩:=b.toTld.ob (k:=1) Z0 p;have S:(g.H.set i v)[x.Z.toNat]?=g.H[x.Z.toNat]? :=by
  refine ZfX λe=> ?_;have:=(u x p 0 Z0 Z0).2.1;omega
 refine⟨l.ie,l.shape,by simpa using l.ay,Qf λj w r=>⟨λh=>(by rw[z.cr x p]at h;cases h),λG=> ?_⟩,by rw[S];exact l.word⟩;have y:j<x.size.toNat:=by
  omega
 rw[ZfC y,Zfn]at r;by_cases e:x.Z.toNat+1+j=i;rw[e,Zg7 K]at r;cases r;exact Z45 b.toTld M;rw[ZfX Z0]at r;refine(Lq l.fk j w ?_).2 G;rw[ZfC y,Zfn];exact r;have:=b.al k A;have e:Zy {g with H:=g.H.set i v,Y:=i+1} k=Zy g k:=by unfold Zy;rw[Zf7 k1,Zf7 k1]
 rw[e];exact this;unfold Xg;by_cases k1:k=1;subst k1;simp[VG]at t;rw[Zf7 Z0];by_cases e:x.Z.toNat+1+j=i;rw[e,Zg7 K]at t;cases t;rw[Zf7 (by rw[e];simp only;omega)];exact f.2 M;rw[ZfX Z0]at t;have:=b.ptr 1 A x p H j r w t;unfold Xg at this;rw[Zf7 Z0]at this;by_cases c:g.Y<=((x.Z.toNat+1+j:Nat):Int);rw[Zfc ⟨rfl,c⟩]at this;rw[Zfc ⟨rfl,by simp only;omega⟩];exact this.imp f.2 f.2;rw[Zf7 Z0]at this;rw[Zf7 (by simp only;omega)];exact f.2 this;have e:Zy {g with H:=g.H.set i v,Y:=i+1} k=Zy g k:=by unfold Zy;rw[Zf7 k1,Zf7 k1]
 rw[e]at t;have:=b.ptr k A x p H j r w t;unfold Xg at this;by_cases c:2<k;rw[Zfc c]at this⊢;exact f.2 this;rw[Zf7 c,Zf7 Z0]at this;rw[Zf7 c,Zf7 Z0];exact f.2 this;have:=b.room;simpa using this
def Body.tz(b:Body g q){i:Nat}(y:g.Y=i)(p:¬WD q.H i=xk):Body {g with Y:=i+1} q:=by
 refine⟨⟨b.bj,b.al⟩,b.gone,λk l x d f j h w r=> ?_,b.room⟩;have:=b.ptr k l x d f j h w r;unfold Xg at this⊢;by_cases c:2<k;rw[Zfc c]at this⊢;exact this;rw[Zf7 c]at this⊢;by_cases k1:k=1;subst k1;by_cases c:g.Y<=((x.Z.toNat+1+j:Nat):Int);rw[Zfc ⟨rfl,c⟩]at this
 have o:x.Z.toNat+1+j≠i:=λe=>p (RM.2 ⟨x,d,by
  let⟨a,n,m,t,u,em,_⟩:=b.toTld.ob (k:=1) Z0 d;omega⟩)
 rw[Zfc ⟨rfl,by simp only;omega⟩];exact this;rw[Zf7 Z0]at this;rw[Zf7 (by simp only;omega)];exact this;rw[Zf7 Z0]at this⊢;exact this
def Body.stop(b:Body g q)(F:g.Y=I g.H):Body {g with M:=xw,an:=[],am:=[]} ⟨q.H,q.aa,[],[]⟩:=by
 have z:=XL.1 b.bj;have D:∀k a,(k=1\/k=2)->ZJ (Zv {g with M:=xw,an:=[],am:=[]}) k a=ZJ (Zv g) k a:=λk a d=>by
  obtain rfl|rfl:=d<;>rfl
 have f:∀ {w},Gos g q w 1 2->Gos {g with M:=xw,an:=[],am:=[]} ⟨q.H,q.aa,[],[]⟩ w 1 2:=λ{w} p=>by
  obtain rfl|⟨k,o,d,t,rfl⟩:=p;exact .inl rfl;refine .inr ⟨k,o,d,?_,Ze3⟩;obtain rfl|rfl:=d<;>exact t
 refine⟨⟨XL.2 ?_,λk d=> ?_⟩,λk d o t=> ?_,λk d x l p j u w y=> ?_,?_⟩;simp[Zv,Zg2]at z⊢;omega;have h:k=1\/k=2\/k=3\/k=4:=Z0;obtain rfl|rfl|rfl|rfl:=h;exact b.al 1 Z0;exact b.al 2 Z0;exact Zf3 0;exact Zf3 0;have h:k=3\/k=4:=Z0;obtain rfl|rfl:=h<;>cases t
 have h:k=1\/k=2\/k=3\/k=4:=Z0;obtain rfl|rfl|rfl|rfl:=h;have:=b.ptr 1 Z0 x l p j u w y;let⟨a,n,m,B,C,em,r,_,A⟩:=b.toTld.ob (k:=1) Z0 l;simp[VG]at r;unfold Xg at this⊢;rw[Zf7 Z0,Zf7 Z0]at this;rw[Zf7 Z0,Zf7 (by simp only;omega)];exact f this;have:=b.ptr 2 Z0 x l p j u w y;exact f this;cases l;cases l;have:=b.room;simp[Yh,Y6];omega
structure ScanTo (h:Hp) (p:Pts) (g:Hp) (q:Pts):Prop where
 eq:Ws h=g
 rt:Rt g q
 H:∃ws,I g.H=I h.H+ws/\∀j:Nat,(j:Int)<h.Y->g.H[j]?=h.H[j]?
 aa:g.aa=h.aa
 E:g.E=h.E
 num:g.base=h.base/\g.cap=h.cap/\g.to=h.to/\g.Y=h.Y+1
 ib:∃r,q.H=p.H++r
 ia:q.aa=p.aa
 room:g.M=xk->(I g.H:Int)+Yh q=I h.H+Yh p
 oy:(I g.H:Int)<=I h.H+Yh p
 via:∃(i:Nat) (w v:Int) (f:Hp) (s:Pts),h.Y=i/\h.H[i]?=J w/\g=YP {f with H:=f.H.set i v,Y:=(i:Int)+1}/\(q.H=s.H/\q.aa=s.aa)/\(g.M=xk->q=s)/\((v=w/\f=h/\s=p)\/(WD s.H i=xk/\(Gos h p w 1 2\/Gos h p w 3 4)/\FwdTo h p w v f s))
def Rt.Y(r:Rt h p)(hc:h.M=xk):∃g q,ScanTo h p g q:=by
 let⟨i,u⟩:=Zfd r.ei;have a1:i<I h.H:=by have:=r.kz hc;omega
 have C:=r.mg;have fin:∀(f:Hp) (s:Pts),Body f s->UY f s->f.Y=(i:Int)+1->f.M=xk->(i:Int)+1<=I f.H->(∀w∈f.E,Gos f s w 1 2)->I f.E<=16->∃q,Rt (YP f) q/\(q.H=s.H/\q.aa=s.aa)/\((YP f).M=xk->q=s):=by
  intro f s b o Z A R Y X;unfold YP;by_cases e:f.Y=I f.H;rw[Zfc e];have b':=b.stop e;refine⟨_,⟨b',X,by show 0<=f.Y;omega,by show f.Y<=I f.H;omega,Z1,Ze3,Z1,λw l=> ?_⟩,Z1,Z1⟩;obtain rfl|⟨k,o,Q,z,rfl⟩:=Y w l;exact .inl rfl;refine .inr ⟨k,o,Q,?_,?_⟩;obtain rfl|rfl:=Q<;>exact z;obtain rfl|rfl:=Q<;>rfl;rw[Zf7 e];exact⟨s,⟨b,X,Z0,Z0,Z0,Ze3,λ_=>o,Y⟩,Z1,Z1⟩
 have t:∀f:Hp,(YP f).H=f.H/\(YP f).aa=f.aa/\(YP f).E=f.E/\(YP f).base=f.base/\(YP f).cap=f.cap/\(YP f).to=f.to/\(YP f).Y=f.Y:=λf=>by
  unfold YP;split<;>exact⟨rfl,rfl,rfl,rfl,rfl,rfl,rfl⟩
 have l:h.H[i]?=J h.H[i]:=Z1;generalize h.H[i]=w at l;by_cases K:WD p.H i=xk;let⟨o,z,h1,h2⟩:=RM.1 K;let⟨a,n,m,ea,en,em,a0,_⟩:=r.toTld.ob (k:=1) Z0 z;have P:Gos h p w 1 2\/Gos h p w 3 4:=by
  have t1:=r.al 1 Z0;have:=r.ptr 1 Z0 o z (t1.cr o z) (i-a-1) Z0 w (by simp only[VG];rw[ea,show(a:Int).toNat+1+(i-a-1)=i by omega];exact l);unfold Xg at this;rw[Zf7 Z0,Zfc ⟨rfl,Z0⟩]at this;exact this
 let⟨v,g,q,f⟩:=r.toBody.fi r.dn P;have Z:=f.ext.Y.trans u;let⟨ws,x⟩:=f.ext.H;let⟨rs,T⟩:=f.ext.ib;have B:i<I g.H:=by rw[x,ZfK];omega
 have S:WD q.H i=xk:=RM.2 ⟨o,by rw[T];exact Zg9 _ z,h1,h2⟩;have b:=f.body.oz Z B f.uq S;have eq:Ws h=YP {g with H:=g.H.set i v,Y:=(i:Int)+1}:=by
  unfold Ws;rw[C,u,Zfc K];simp only[Zfl,l,Zfv,f.fwd]
 have A:=f.ext.M.trans hc;have R:Zv {g with H:=g.H.set i v,Y:=(i:Int)+1}=Zv g:=by unfold Zv;simp
 have on:UY {g with H:=g.H.set i v,Y:=(i:Int)+1} q:=by
  have:=f.fa<|r.fa hc;unfold UY at this⊢;rw[R];exact this
 let⟨s,G,⟨W,H⟩,y⟩:=fin _ q b on rfl A Ze4 (λw l=>(DD R).2<|f.ext.lc Z0 Z0<|r.E w (by rw[<-f.ext.E];exact l)) (by show I g.E<=16;rw[f.ext.E];exact r.du);let⟨k1,D,F,L,M,N,O⟩:=t {g with H:=g.H.set i v,Y:=(i:Int)+1};rw[<-eq]at G k1 D F L M N O y;have d:(Ws h).H.length=I g.H:=by rw[k1];simp
 refine⟨_,s,rfl,G,⟨I ws,by rw[d,x,ZfK],λj hj=> ?_⟩,D.trans f.ext.aa,F.trans f.ext.E,⟨L.trans f.ext.base,M.trans f.ext.cap,N.trans f.ext.rn,by rw[O,u]⟩,Ze3,H.trans f.ext.ia,λh=> ?_,?_,i,w,v,g,q,u,l,eq,⟨W,H⟩,y,Ze3⟩;rw[k1];simp only;rw[ZfX Z0,x,ZfI Z0];rw[y h,d];exact f.ext.room;rw[d];have:=f.ext.room;omega;have b:=r.toBody.tz u K;have eq:Ws h=YP {h with Y:=(i:Int)+1}:=by
  unfold Ws;rw[C,u,Zf7 K]
 let⟨s,G,⟨W,H⟩,y⟩:=fin _ p b (r.fa hc) rfl hc (by simp only;omega) r.E r.du;let⟨k1,D,F,L,M,N,O⟩:=t {h with Y:=(i:Int)+1};rw[<-eq]at G k1 D F L M N O y;refine⟨_,s,rfl,G,Ze3,D,F,Ze3,Ze3,H,λh=> ?_,?_,i,w,w,h,p,u,l,?_,⟨W,H⟩,y,Z1⟩;rw[y h,k1];rw[k1];simp only;omega;let⟨_,e⟩:=ZeW.1 l;rw[eq,<-e,List.set_getElem_self]
end
end
end Vm
end
section
namespace Vm
open Go Go.Proofs Go.RowKit
structure NowI (B:Nat->Prop) (W:World) (b:Nat) (g:Hp) (x:Nat->Value):Prop where
 le:B b
 nb:W.heap[b]?=J (.cells (Ye g x) 27 (0,0))
 rd:∀j,j<5->Rd W (λc=>B c/\c<xz (xj W)/\c≠b) (.sl<|(Zu g j).map vu) (x j)
def JG(B:Z4)(W:Z3)(b:Nat)(g':Hp)(e:Ending)(W':Z3):Prop:=e=.returned (.int .i64 0)/\W.grownBy W' (J b)/\∃a,NowI B W' b g' a
def DH(W:Z3)(B:Z4)(b:Nat)(g:Hp)(x:Z5)(S:NowI B W b g x)(A:g.ok)(i:Nat)(F:g.Y=i)(G:i<I g.H)(pt:Bool)(K:pt=xw\/g.H[i]?=J 0):
  Calls xP 33 #[.bool pt,.pointer<|J ⟨b,0,U⟩] W (JG B W b<|YP {g with Y:=(i:Int)+1}):=by
 obtain⟨u,M⟩:∃u,g.H[i]?=J u:=⟨_,ZeX G⟩;obtain⟨N,go,cap,n,C,r⟩:=Jg (S.rd 0 Z0) M;rw[show I (Zu g 0)=(I g.H) from rfl]at n;have f:=S.nb;unfold Ye at f;rw[n,F]at f;have Y:∀j,W.cell? ⟨b,j,U⟩=(#[.int .u64 g.base,.int .i64 g.cap,.int .i64 g.to,.bool g.M,.int .i64 i,.slice (J ⟨N,go,U⟩) (I g.H) cap,x 1,x 2,x 3,x 4]:Array Value)[j]? :=λj=>Zf6 _ _ _ _ _ _ f;have T:∀j,W.frozen? ⟨b,j,U⟩=xw:=λj=>Y9 f;have R:=A.H;have X:=ZB ((i:Int)+1) Z0 Z0;have L:((i:Int)< (I g.H:Int))=True:=Zhn Z0;have y:=Zf0 S;have w:=Zf0<|And.intro f<|And.intro n<|And.intro r F;have q:pt=xw\/pt=xk/\u=0:=by
  obtain h|h:=K;exact .inl h;rw[M]at h;cases pt;exact .inl rfl;exact .inr ⟨rfl,ZgC h⟩
 clear S f n r K F;go_enter jj,Try.ntmps33;have p:∀c v,xz (xj<|W.setCell c v)=xz (xj W):=λc v=>ZeE;by_cases d:i+1=I g.H
 .have o:((i:Int)+1==(I g.H:Int))=xk:=Ze4;have k:=Zf0 d;clear d;have fin:JG B W b (YP {g with Y:=(i:Int)+1}) (.returned<|.int .i64 0)<|(((W.setCell ⟨b,4,U⟩<|.int .i64<|(i:Int)+1).setCell ⟨b,3,U⟩<|.bool xw).setCell ⟨b,7,U⟩<|.slice U 0 0).setCell ⟨b,8,U⟩<|.slice U 0 0:=by
   have D:YP {g with Y:=(i:Int)+1}= {g with Y:=(i:Int)+1,M:=xw,an:=[],am:=[]}:=by
    unfold YP;rw[Zfc (by show(i:Int)+1=(I g.H:Int);have:=k.out;omega)]
   rw[D];have l:∀c,c≠b->((((W.setCell ⟨b,4,U⟩<|.int .i64<|(i:Int)+1).setCell ⟨b,3,U⟩<|.bool xw).setCell ⟨b,7,U⟩<|.slice U 0 0).setCell ⟨b,8,U⟩<|.slice U 0 0).heap[c]?=W.heap[c]? :=λc a=>by
    simp[World.setCell,Zfy,ZgL a]
   have t:xz (xj<|(((W.setCell ⟨b,4,U⟩<|.int .i64<|(i:Int)+1).setCell ⟨b,3,U⟩<|.bool xw).setCell ⟨b,7,U⟩<|.slice U 0 0).setCell ⟨b,8,U⟩<|.slice U 0 0)=xz (xj W):=ZeE;refine⟨rfl,⟨rfl,rfl,rfl,Nat.le_of_eq t.symm,λc _ a=>l c<|λe=>a (by rw[e])⟩,λj=>if j=2\/j=3 then .slice U 0 0 else x j,y.out.le,?_,λj H=> ?_⟩;have:=w.out.1;have z:=w.out.2.1;simp[World.setCell,Zfy,this,Ye,z];have:j=2\/j=3\/(j≠2/\j≠3):=Z0;obtain rfl|rfl|⟨O,P⟩:=this;exact .nil _ _ Zej;exact .nil _ _ Zej;have Q:Zu {g with Y:=(i:Int)+1,M:=xw,an:=[],am:=[]} j=Zu g j:=by
    have:j=0\/j=1\/j=4:=Z0;obtain rfl|rfl|rfl:=this<;>rfl
   rw[Q];simp only[O,P,or_self,ZfV];exact(y.out.rd j H).keep (λc a=>l c a.2.2) λc a=>⟨a.1,by rw[t];exact a.2.1,a.2.2⟩
  obtain rfl|⟨rfl,rfl⟩:=q;all_goals
   go_wp2;exact ZfA (v:=.int .i64 0) ZeC rfl fin
 .have o:((i:Int)+1==(I g.H:Int))=xw:=Ze4;have k:=Zf0 d;clear d;have fin:JG B W b (YP {g with Y:=(i:Int)+1}) (.returned<|.int .i64 0)<|W.setCell ⟨b,4,U⟩<|.int .i64<|(i:Int)+1:=by
   have D:YP {g with Y:=(i:Int)+1}= {g with Y:=(i:Int)+1}:=by
    unfold YP;rw[Zf7 (by show ¬(i:Int)+1=(I g.H:Int);have:=k.out;omega)]
   rw[D];have l:∀c,c≠b->(W.setCell ⟨b,4,U⟩<|.int .i64<|(i:Int)+1).heap[c]?=W.heap[c]? :=λc a=>Zff _ _ _ _ a;have t:=p ⟨b,4,U⟩<|.int .i64<|(i:Int)+1;refine⟨rfl,⟨rfl,rfl,rfl,Nat.le_of_eq t.symm,λc _ a=>l c<|λe=>a (by rw[e])⟩,x,y.out.le,?_,λj H=> ?_⟩;have:=w.out.1;have z:=w.out.2.1;simp[World.setCell,Zfy,this,Ye,z];exact(y.out.rd j H).keep (λc a=>l c a.2.2) λc a=>⟨a.1,by rw[t];exact a.2.1,a.2.2⟩
  obtain rfl|⟨rfl,rfl⟩:=q;all_goals
   go_wp2;exact ZfA (v:=.int .i64 0) ZeC rfl fin
def Io{B W b g x}(S:NowI B W b g x)n:W.grownBy (W.setCell ⟨b,4,U⟩<|.int .i64 n) (J b)/\NowI B (W.setCell ⟨b,4,U⟩<|.int .i64 n) b {g with Y:=n} x:=by
 have d:∀c,c≠b->(W.setCell ⟨b,4,U⟩<|.int .i64 n).heap[c]?=W.heap[c]? :=λc a=>Zff _ _ _ _ a;have h:xz (xj<|W.setCell ⟨b,4,U⟩<|.int .i64 n)=xz (xj W):=Z1;refine⟨⟨rfl,rfl,rfl,Z0,Ze2⟩,S.le,?_,λj f=> ?_⟩;have:=S.nb;simp[World.setCell,Zfy,this,Ye];exact(S.rd j f).keep (λc a=>d c a.2.2) λc a=>Ze3
def Z5l{B W b g x}(S:NowI B W b g x):W.grownBy (((W.setCell ⟨b,3,U⟩<|.bool xw).setCell ⟨b,7,U⟩<|.slice U 0 0).setCell ⟨b,8,U⟩<|.slice U 0 0) (J b)/\
  NowI B (((W.setCell ⟨b,3,U⟩<|.bool xw).setCell ⟨b,7,U⟩<|.slice U 0 0).setCell ⟨b,8,U⟩<|.slice U 0 0) b {g with M:=xw,an:=[],am:=[]} (λj=>if j=2\/j=3 then .slice U 0 0 else x j):=by
 have d:∀c,c≠b->(((W.setCell ⟨b,3,U⟩<|.bool xw).setCell ⟨b,7,U⟩<|.slice U 0 0).setCell ⟨b,8,U⟩<|.slice U 0 0).heap[c]?=W.heap[c]? :=λc a=>by
  simp[World.setCell,Zfy,ZgL a]
 have n:xz (xj<|((W.setCell ⟨b,3,U⟩<|.bool xw).setCell ⟨b,7,U⟩<|.slice U 0 0).setCell ⟨b,8,U⟩<|.slice U 0 0)=xz (xj W):=Z1;refine⟨⟨rfl,rfl,rfl,Z0,Ze2⟩,S.le,?_,λj k=> ?_⟩;have:=S.nb;simp[World.setCell,Zfy,this,Ye];have:j=2\/j=3\/(j≠2/\j≠3):=Z0;obtain rfl|rfl|⟨f,h⟩:=this;exact .nil _ _ Zej;exact .nil _ _ Zej;have l:Zu {g with M:=xw,an:=[],am:=[]} j=Zu g j:=by
  have:j=0\/j=1\/j=4:=Z0;obtain rfl|rfl|rfl:=this<;>rfl
 rw[l];simp[f,h,or_self,ZfV];exact(S.rd j k).keep (λc a=>d c a.2.2) λc a=>Ze3
def PR(W:Z3)(B:Z4)(b:Nat)(b4:∀c,xz (xj W)<=c->B c)(g:Hp)(x:Z5)(S:NowI B W b g x)(Z:g.ok)(i:Nat)(hi:g.Y=i)(f8:i<I g.H){u:Int}(hu:g.H[i]?=J u)(g5:¬u=0){v:Int}{g1:Hp}(hf:fwd g u=(v,g1,0))(d7:i<I g1.H)(d8:g1.Y=i):
  Calls xP 33 #[.bool xk,.pointer<|J ⟨b,0,U⟩] W (JG B W b<|YP {g1 with H:=g1.H.set i v,Y:=(i:Int)+1}):=by
 obtain⟨gb,go,cap,G,e0,b9⟩:=Jg (S.rd 0 Z0) hu;rw[show I (Zu g 0)=(I g.H) from rfl]at G;have w:=S.nb;unfold Ye at w;rw[G,hi]at w;have yb:∀j,W.cell? ⟨b,j,U⟩=(#[.int .u64 g.base,.int .i64 g.cap,.int .i64 g.to,.bool g.M,.int .i64 i,.slice (J ⟨gb,go,U⟩) (I g.H) cap,x 1,x 2,x 3,x 4]:Array Value)[j]? :=λj=>Zf6 _ _ _ _ _ _ w;have f9:=Z.H;have uu:=Z.ft u<|Zf5 hu;have wi:=ZB ((i:Int)+1) Z0 Z0;have e8:((i:Int)< (I g.H:Int))=True:=Zhn Z0;have hF:∀W',Below (xz<|xj W) W W'->Calls xP 34 #[.agg #[.int .u64 g.base,.int .i64 g.cap,.int .i64 g.to,.bool g.M,.int .i64 i,.slice (J ⟨gb,go,U⟩) (I g.H) cap,x 1,x 2,x 3,x 4],.int .u64 u] W' (FwdPost W' (v,g1,0)):=λW' hb=>by
  have:=DC W' (λc=>B c/\c<xz (xj W)/\c≠b) (λc f=>Zf4 f.2.1 hb.size) g Z x (λj P=>(S.rd j P).keep (λc f=>hb.block c f.2.1) λ_ q=>q) u uu;rw[hf]at this;unfold Zx at this;rw[G,hi]at this;exact this
 have HF:=Zf0 hF;have d5:=Zf0 b4;have HS:=Zf0 S;have HN:=Zf0<|And.intro w<|And.intro G<|And.intro b9 hi;have C:=(zB Z uu);rw[hf]at C;have e9:=Zf0 C;have d9:=ZV w;clear S w G b9 hi hF hf C b4;go_enter jj,Try.ntmps33;go_upto_region 6 with (go_at_call 34;refine(HF.out _<|Zfg _ _).mono ?_;rintro e w9 ⟨x9,rfl,b7,h⟩;obtain⟨a0,H,f0⟩:=XK<|h.own 0 Z0;obtain⟨L,Q,f1⟩:=XK<|h.own 1 Z0;obtain⟨M,R,f2⟩:=XK<|h.own 2 Z0;obtain⟨N,T,f3⟩:=XK<|h.own 3 Z0;obtain⟨O,X,f4⟩:=XK<|h.own 4 Z0;obtain⟨a,rfl⟩:=KP (h.own 0 Z0) f0 (by show 0<I g1.H;omega);rw[show I (Zu g1 0)=(I g1.H) from rfl]at f0;unfold Zx;rw[f0,f1,f2,f3,f4];have k:=Zf0<|And.intro b7<|And.intro h<|And.intro f0<|And.intro f1<|And.intro f2<|And.intro f3 f4;clear b7 h f0 f1 f2 f3 f4);have e6:=k.out.1.size;have a7:Below (xz<|xj W) W<|w9.alloc<|.cells #[.int .u64 g1.base,.int .i64 g1.cap,.int .i64 g1.to,.bool g1.M,.int .i64 i,.slice (J ⟨a,0,U⟩) (I g1.H) H,.slice L (I<|Zu g1 1) Q,.slice M (I<|Zu g1 2) R,.slice N (I<|Zu g1 3) T,.slice O (I<|Zu g1 4) X] 27:=k.out.1.alloc e6 _;have a9:=Zfq w9<|.cells #[.int .u64 g1.base,.int .i64 g1.cap,.int .i64 g1.to,.bool g1.M,.int .i64 i,.slice (J ⟨a,0,U⟩) (I g1.H) H,.slice L (I<|Zu g1 1) Q,.slice M (I<|Zu g1 2) R,.slice N (I<|Zu g1 3) T,.slice O (I<|Zu g1 4) X] 27;have b3:xz (xj<|w9.alloc<|.cells #[.int .u64 g1.base,.int .i64 g1.cap,.int .i64 g1.to,.bool g1.M,.int .i64 i,.slice (J ⟨a,0,U⟩) (I g1.H) H,.slice L (I<|Zu g1 1) Q,.slice M (I<|Zu g1 2) R,.slice N (I<|Zu g1 3) T,.slice O (I<|Zu g1 4) X] 27)=xz (xj w9)+1:=Z1;have l:HOwn (xz<|xj W) (w9.alloc<|.cells #[.int .u64 g1.base,.int .i64 g1.cap,.int .i64 g1.to,.bool g1.M,.int .i64 i,.slice (J ⟨a,0,U⟩) (I g1.H) H,.slice L (I<|Zu g1 1) Q,.slice M (I<|Zu g1 2) R,.slice N (I<|Zu g1 3) T,.slice O (I<|Zu g1 4) X] 27) g1 x9:=⟨λj P=>Xe (k.out.2.1.own j P) λc f=>Zfa w9 _ c ((k.out.2.1.own j P).lt c f).2,k.out.2.1.apart⟩;have f6:xz (xj W)<=a/\a<xz (xj w9):=(k.out.2.1.own 0 Z0).lt a (by rw[k.out.2.2.1];rfl);obtain⟨K,b5⟩:∃K,K=w9.alloc (.cells #[.int .u64 g1.base,.int .i64 g1.cap,.int .i64 g1.to,.bool g1.M,.int .i64 i,.slice (J ⟨a,0,U⟩) (I g1.H) H,.slice L (I<|Zu g1 1) Q,.slice M (I<|Zu g1 2) R,.slice N (I<|Zu g1 3) T,.slice O (I<|Zu g1 4) X] 27):=⟨_,rfl⟩;rw[<-b5]at a7 a9 b3 l⊢;clear b5;have a5:=(a7.block b d9).trans HN.out.1;have y7:∀j,K.cell? ⟨xz<|xj w9,j,U⟩=(#[.int .u64 g1.base,.int .i64 g1.cap,.int .i64 g1.to,.bool g1.M,.int .i64 i,.slice (J ⟨a,0,U⟩) (I g1.H) H,.slice L (I<|Zu g1 1) Q,.slice M (I<|Zu g1 2) R,.slice N (I<|Zu g1 3) T,.slice O (I<|Zu g1 4) X]:Array Value)[j]? :=λj=>Zf6 _ _ _ _ _ _ a9;have e7:∀j,K.cell? ⟨b,j,U⟩=(#[.int .u64 g.base,.int .i64 g.cap,.int .i64 g.to,.bool g.M,.int .i64 i,.slice (J ⟨gb,go,U⟩) (I g.H) cap,x 1,x 2,x 3,x 4]:Array Value)[j]? :=λj=>Zf6 _ _ _ _ _ _ a5;have d6:∀j,K.frozen? ⟨b,j,U⟩=xw:=λj=>Y9 a5;have z:=Zf0<|And.intro a7<|And.intro l<|And.intro b3 a5;clear a7 l b3 a5 a9;go_upto_region 7 with fail;obtain⟨d,t⟩:∃d,d=((((((((((K.setCell ⟨b,0,U⟩<|.int .u64 g1.base).setCell ⟨b,1,U⟩<|.int .i64 g1.cap).setCell ⟨b,2,U⟩<|.int .i64 g1.to).setCell ⟨b,3,U⟩<|.bool g1.M).setCell ⟨b,4,U⟩<|.int .i64 i).setCell ⟨b,5,U⟩<|.slice (J ⟨a,0,U⟩) (I g1.H) H).setCell ⟨b,6,U⟩<|.slice L (I<|Zu g1 1) Q).setCell ⟨b,7,U⟩<|.slice M (I<|Zu g1 2) R).setCell ⟨b,8,U⟩<|.slice N (I<|Zu g1 3) T).setCell ⟨b,9,U⟩<|.slice O (I<|Zu g1 4) X):=⟨_,rfl⟩;rw[<-t];have b0:d.heap[b]?=J (.cells #[.int .u64 g1.base,.int .i64 g1.cap,.int .i64 g1.to,.bool g1.M,.int .i64 i,.slice (J ⟨a,0,U⟩) (I g1.H) H,.slice L (I<|Zu g1 1) Q,.slice M (I<|Zu g1 2) R,.slice N (I<|Zu g1 3) T,.slice O (I<|Zu g1 4) X] 27 (0,0)):=by rw[t];exact MZ z.out.2.2.2
 have p:∀c,c≠b->d.heap[c]?=K.heap[c]? :=λc f=>by rw[t];exact Va f
 have c8:xz (xj d)=xz (xj K):=by rw[t];simp[World.setCell]
 have a6:Below 0 K d:=by rw[t];exact Wq (Zfg _ _)<|Zg5 _
 have a8:K.grownBy d<|J b:=⟨a6.os,a6.tape,a6.output,a6.size,λc _ f=>p c<|λe=>f (by rw[e])⟩;clear t;have n:HOwn (xz<|xj W) d g1 x9:=⟨λj P=>Xe (z.out.2.1.own j P) λc f=>p c (by have:=((z.out.2.1.own j P).lt c f).1;omega),z.out.2.1.apart⟩;have F:=n.own 0 Z0;rw[k.out.2.2.1,show I (Zu g1 0)=(I g1.H) from rfl]at F;obtain⟨z0,c1⟩:∃z0,g1.H[i]?=J z0:=⟨_,ZeX d7⟩;have ec:d.cell? ⟨a,i,U⟩=J (.int .u64 z0):=by
  rw[F.cellAt i Z0];simp[Y3,Zu,c1]
 have ef:d.frozen? ⟨a,i,U⟩=xw:=F.frozenAt i;have y3:∀j,d.cell? ⟨b,j,U⟩=(#[.int .u64 g1.base,.int .i64 g1.cap,.int .i64 g1.to,.bool g1.M,.int .i64 i,.slice (J ⟨a,0,U⟩) (I g1.H) H,.slice L (I<|Zu g1 1) Q,.slice M (I<|Zu g1 2) R,.slice N (I<|Zu g1 3) T,.slice O (I<|Zu g1 4) X]:Array Value)[j]? :=λj=>Zf6 _ _ _ _ _ _ b0;have f7:((i:Int)< (I g1.H:Int))=True:=Zhn Z0;have A:=Zf0<|And.intro b0<|And.intro p<|And.intro c8<|And.intro a8<|And.intro n F;clear b0 p c8 a8 n F y7 e7 d6 c1;go_upto_region 8 with fail;have b8:a≠b:=Z0;obtain⟨b2,e4⟩:=A.out.2.2.2.2.2.stored i<|.int .u64 v;have r:∀c,c≠a->(d.setCell ⟨a,i,U⟩<|.int .u64 v).heap[c]?=d.heap[c]? :=λc f=>Zff _ _ _ _ f;have d0:xz (xj<|d.setCell ⟨a,i,U⟩<|.int .u64 v)=xz (xj d):=ZeE;have D:=(r b<|ZgL b8).trans A.out.1;have S4:NowI B (d.setCell ⟨a,i,U⟩<|.int .u64 v) b {g1 with H:=g1.H.set i v} x9:=by
  refine⟨HS.out.le,?_,λj P=> ?_⟩;rw[D];unfold Ye;rw[k.out.2.2.1,k.out.2.2.2.1,k.out.2.2.2.2.1,k.out.2.2.2.2.2.1,k.out.2.2.2.2.2.2];simp only[d8];have c0:∀c,xz (xj W)<=c->c< xz (xj<|d.setCell ⟨a,i,U⟩<|.int .u64 v)->B c/\c< xz (xj<|d.setCell ⟨a,i,U⟩<|.int .u64 v)/\c≠b:=λc h1 h2=>⟨d5.out c h1,h2,Z0⟩;by_cases e:j=0;subst e;have hn:Y3 .u64 (g1.H.set i v)=(Y3 .u64<|Zu g1 0).set i (.int .u64 v):=J5 _ _ _ _;rw[<-hn]at b2;show Rd _ _ (.sl<|(g1.H.set i v).map vu)<|x9 0;rw[k.out.2.2.1];have e3:I g1.H=I (g1.H.set i v):=by rw[Zgx]
  have e5:(d.setCell ⟨a,i,U⟩<|.int .u64 v).ownsRow (xz<|xj W) 22 1 (.slice (J ⟨a,0,U⟩) (I g1.H) H) (I<|g1.H.set i v)<|Y3 .u64<|g1.H.set i v:=by rw[<-e3];exact b2
  exact S5 e5 c0;have e1:Zu {g1 with H:=g1.H.set i v} j=Zu g1 j:=by
   have:j=1\/j=2\/j=3\/j=4:=Z0;obtain rfl|rfl|rfl|rfl:=this<;>rfl
  rw[e1];refine S5 (Xe (A.out.2.2.2.2.1.own j P) λc f=>r c λe2=> ?_) c0;exact A.out.2.2.2.2.1.apart 0 j Z0 P c (by rw[e2,k.out.2.2.1];rfl) f
 have G4:W.grownBy (d.setCell ⟨a,i,U⟩<|.int .u64 v)<|J b:=by
  have g2:=UF z.out.1<|J b;have g3:=TN g2 A.out.2.2.2.1;refine⟨g3.os,g3.tape,g3.output,by rw[d0];exact g3.size,λc f hn=> ?_⟩;rw[r c Z0];exact g3.block c f hn
 obtain⟨W4,b6⟩:∃W4,W4=d.setCell ⟨a,i,U⟩ (.int .u64 v):=⟨_,rfl⟩;rw[<-b6]at S4 G4 D⊢;clear b6 r d0 b2 e4;have y4:∀j,W4.cell? ⟨b,j,U⟩=(#[.int .u64 g1.base,.int .i64 g1.cap,.int .i64 g1.to,.bool g1.M,.int .i64 i,.slice (J ⟨a,0,U⟩) (I g1.H) H,.slice L (I<|Zu g1 1) Q,.slice M (I<|Zu g1 2) R,.slice N (I<|Zu g1 3) T,.slice O (I<|Zu g1 4) X]:Array Value)[j]? :=λj=>Zf6 _ _ _ _ _ _ D;have f5:∀j,W4.frozen? ⟨b,j,U⟩=xw:=λj=>Y9 D;have Y:=Zf0<|And.intro S4 G4;clear S4 G4 D ec ef y3;by_cases o:i+1=I g1.H
 .have b1:((i:Int)+1==(I g1.H:Int))=xk:=Ze4;have y:=Zf0 o;clear o;go_wp2;refine ZfA (v:=.int .i64 0) ZeC rfl ?_;have he:YP {g1 with H:=g1.H.set i v,Y:=(i:Int)+1}= {g1 with H:=g1.H.set i v,Y:=(i:Int)+1,M:=xw,an:=[],am:=[]}:=by
   unfold YP;rw[Zfc (by show(i:Int)+1=(I (g1.H.set i v):Int);rw[Zgx];have:=y.out;omega)]
  rw[he];obtain⟨p1,p2⟩:=Io Y.out.1<|(i:Int)+1;obtain⟨p3,p4⟩:=Z5l p2;exact⟨rfl,TN (TN Y.out.2 p1) p3,_,p4⟩
 .have b1:((i:Int)+1==(I g1.H:Int))=xw:=Ze4;have y:=Zf0 o;clear o;go_wp2;refine ZfA (v:=.int .i64 0) ZeC rfl ?_;have he:YP {g1 with H:=g1.H.set i v,Y:=(i:Int)+1}= {g1 with H:=g1.H.set i v,Y:=(i:Int)+1}:=by
   unfold YP;rw[Zf7 (by show ¬(i:Int)+1=(I (g1.H.set i v):Int);rw[Zgx];have:=y.out;omega)]
  rw[he];obtain⟨p1,p2⟩:=Io Y.out.1<|(i:Int)+1;exact⟨rfl,TN Y.out.2 p1,_,p2⟩
def Z8b{g:Hp}{p:Pts}(r:Rt g p){i:Nat}(B:g.Y=i)(w:WD p.H i=xk){u:Int}(x:g.H[i]?=J u):Gos g p u 1 2\/Gos g p u 3 4:=by
 obtain⟨o,d,z,A⟩:=RM.1 w;obtain⟨a,n,m,f,y,em,l,_,t⟩:=r.toTld.ob (k:=1) Z0 d;have q:o.gone=xw:=(r.al 1 Z0).cr o d;obtain⟨j,h⟩:∃j,i=a+1+j:=⟨i-a-1,Z0⟩;have:=r.ptr 1 Z0 o d q j Z0 u (by rw[f,Zfl,<-h];exact x);unfold Xg at this;rw[Zf7 Z0,Zfc ⟨rfl,by rw[f,Zfl,<-h];omega⟩]at this;exact this
def Z8k{l:Z9}{i:Nat}{u:Int}(h:l[i]?=J u):l.set i u=l:=by
 apply Zgr;intro j;rw[List.getElem?_set];by_cases e:i=j;subst e;rw[Zfc rfl,h,Zfc (ZeW.1 h).1];rw[Zf7 e]
def PQ(W:Z3)(B:Z4)(b:Nat)(n:∀c,xz (xj W)<=c->B c)(g:Hp)(x:Z5)(S:NowI B W b g x)(h:g.ok){p:Pts}(r:Rt g p)(hc:g.M=xk):
  Calls xP 33 #[.bool<|WD p.H g.Y,.pointer<|J ⟨b,0,U⟩] W (JG B W b<|Ws g):=by
 obtain⟨i,a⟩:=Zfd r.ei;have d:i<I g.H:=by have:=r.kz hc;omega
 have w:=r.mg;obtain⟨u,j⟩:∃u,g.H[i]?=J u:=⟨_,ZeX d⟩;have o:(g.H[g.Y.toNat]?).getD 0=u:=by rw[a,Zfl,j];rfl
 cases q:WD p.H g.Y with
 |false=>
  have l:Ws g=YP {g with Y:=(i:Int)+1}:=by
   unfold Ws;rw[w,Zf7 (by rw[q];simp),a]
  rw[l];exact DH W B b g x S h i a d xw<|.inl rfl
 |true=>
  have l:Ws g=YP {(fwd g u).2.1 with H:=(fwd g u).2.1.H.set i (fwd g u).1,Y:=(i:Int)+1}:=by
   unfold Ws;rw[w,Zfc q,o,a,Zfl]
  by_cases k:u=0;subst k;have:Ws g=YP {g with Y:=(i:Int)+1}:=by
   rw[l,Gg r.bj];simp only;rw[Z8k j]
  rw[this];exact DH W B b g x S h i a d xk<|.inr j;obtain⟨v,g1,y,f⟩:=r.toBody.fi r.dn<|Z8b r a (by rw[<-a];exact q) j;rw[l,f.fwd];obtain⟨z,t⟩:=f.ext.H;exact PR W B b n g x S h i a d j k f.fwd (by rw[t,ZfK];omega) (by rw[f.ext.Y];exact a)
section
def DT{α:Type}(F:Fence)(n:Nat)(P:Z6)(g:Nat)(lb:Za)(d:α->Array Value)(Kp:World->World->Prop)(o:List α->α->World->Prop)(S:List α->World->Prop)(N:Nat)(k:List α->World->Prop)(w:Z3):Prop:=
 ∀(l:Nat) (p h:List α->World->Prop) (W:Z3),Below (xz<|xj w) w W->(∀pre W,p pre W->k pre W)->AbidesFrom (xz<|xj W) p->AbidesFrom (xz<|xj W) h->
  (∀pre x f,p pre f->o pre x f->I pre<N->YieldAt F (n-1) P l (d x) f λe a=>
   (e=.returned (.bool xk)/\p (pre++[x]) a/\Kp f a)\/(e=.returned (.bool xw)/\h (pre++[x]) a))->
  p [] W->
  CallsIn F n P g (#[.func (.yield l) #[] #[]]++lb) W λe a=>(∃v,e=.returned v)/\((∃j,S j a/\p j a)\/(∃pre,h pre a))
variable {F:Fence}{n:Nat}{P:Z6}
def Z9B{α:Type}{g:Operand}{ps:Array Tmp}{assign body:Code}{Q:Zh}{a:Act}{w:Z3}
  (d7:F.round=U) (h1:1<=n) {gf:Nat} {lb:Za} (hg:a.eval g=.func (.func gf) #[] lb) (b3:F.fn gf) (eg:∀args w,(callFunc gf args).run P w=.ok (.enter gf args) w)
  {M:α->Array Value} {Kp:World->World->Prop} {Px:List α->α->World->Prop} {S:List α->World->Prop} {N:Nat} {Ex:List α->World->Prop} {w0:Z3} (b1:DT F (n-1) P gf lb M Kp Px S N Ex w0)
  (a5:∀ {A B C:Z3},Kp A B->Kp B C->Kp A C) (a4:∀(W:Z3) (l:Nat) (o o':Obj),xz (xj w)<=l->W.heap[l]?=J o->o.isCells=xw->o.isWalk=xw->Kp W (W.putObj l o')) (a6:Below (xz<|xj w0) w0 w) (d5:∀x,(M x).size=ps.size)
  (I:List α->World->Prop) (Ix:Code->List α->World->Prop) (hI:OwnFrom (xz<|xj w) I) (b2:∀pre W,I pre W->Ex pre W) (X:∀c,OwnFrom (xz<|xj w)<|Ix c) (b7:∀pre x,OwnFrom (xz<|xj w)<|λ(_:Unit) W=>Px pre x W) (hS:OwnFrom (xz<|xj w) S) (h0:I [] w) (a₁:α->Act)
  (Y:∀(l:Nat) (x:α) (W:Z3) (K:Zq),K (a₁ x) W->
   assign.wpIn (F.inRound l) (n-1-1) P (Exit.then K<|λ_ _ _=>False) {tmps:=(ps.zip<|M x).foldl (λt (p,v)=>t.setIfInBounds p v) a.tmps,defers:=[]} W)
  (a0:∀(l:Nat) (pre:List α) (x:α) (W:Z3),I pre W->Px pre x W->xq pre<N->body.wpIn (F.inRound l) (n-1-1) P (ownPostG (xz<|xj w) Kp I Ix (pre++[x]) W) (a₁ x) W)
  (a1:∀(D:Nat) (xs:List α) (W:Z3),xz (xj w)<=D->S xs W->I xs W->W.heap[D]?=J (.deferred<|J [])->Q .normal {a with defers:= {target:=.collected D,args:=#[]}::a.defers} W)
  (a2:∀(D:Nat) (c:Code) (pre:List α) (W:Z3),xz (xj w)<=D->Ix c pre W->W.heap[D]?=J (.deferred<|J [])->c.wpIn F n P Q {a with defers:= {target:=.collected D,args:=#[]}::a.defers} W):
  (Code.rangeFunc g ps assign body).wpIn F n P Q a w:=by
 refine wpIn_rangeFunc λfn c0=> ?_;rw[d7];obtain⟨f,j⟩:∃f:LoopState->Option Code->Loop,f=λst pe=> {state:=st,pending:=pe,fn,tmps:=a.tmps,params:=ps,assign,body,defers:=xz (xj w)}:=⟨_,rfl⟩;obtain⟨T,O⟩:∃T,(w.alloc<|.deferred<|J []).alloc (.loop<|f .ready U)=T:=⟨_,rfl⟩;have b6:T.heap[xz (xj w)+1]?=J (.loop<|f .ready U):=by
  have:=Zg8 (w.alloc<|.deferred<|J [])<|.loop<|f .ready U;rw[ZgY]at this;rw[<-O];exact this
 have b5:T.heap[xz<|xj w]?=J (.deferred<|J []):=by
  rw[<-O];exact(Zfa _ _ _ Z1).trans (Zg8 w _)
 have b4:I [] T:=by rw[<-O];exact hI.alloc _<|hI.alloc _ h0
 have b9:Below (xz<|xj w0) w0 T:=by
  rw[<-O];exact a6.trans<|(((Zfg _ w).alloc (Zf3 _) _).alloc Z1 _).mono a6.size
 refine⟨xz (xj w)+1,[{target:=.collected<|xz<|xj w,args:=#[]}],T,{target:=.fn (.func gf) lb,args:=#[.func (.yield<|xz (xj w)+1) #[] #[]]},T,gf,
  #[.func (.yield<|xz (xj w)+1) #[] #[]]++lb,T,?_,?_,?_,?_,λ_=>h1,?_⟩
 rw[<-O,j];exact run_enterLoop_outer _ _ _ _ _
 .simp only[resolve,hg];simp[go_sem]
 intro f' a7;simp[Target.leads]at a7;subst a7;exact b3
 .simp[invoke,go_sem,eg]
 have b0:∀ {A B:Z3} {row:Option Nat},(∀r,row=J r->xz (xj T)<=r/\∃o:Obj,A.heap[r]?=J o/\o.isWalk=xk)->(∀r,row=J r->xz (xj w)<=r/\∃o:Obj,A.heap[r]?=J o/\o.isCells=xw):=
  λu r e=>by obtain⟨hB,o,ho,hw⟩:=u r e;exact⟨by rw[<-O]at hB;simp at hB;omega,o,ho,Obj.not_cells_of_walk hw⟩
 refine(b1 (xz (xj w)+1)
  (λpre W=>I pre W/\W.heap[xz (xj w)+1]?=J (.loop<|f .ready U)/\W.heap[xz<|xj w]?=J (.deferred<|J []))
  (λpre W=>∃c,Ix c pre W/\W.heap[xz (xj w)+1]?=J (.loop<|f .done<|J c)/\W.heap[xz<|xj w]?=J (.deferred<|J []))
  T b9 (λpre W h=>b2 pre W h.1)
  (λs A B row hs z u=>⟨hI s A B row hs.1 z<|b0 (B:=B) u,(ZiA z (λr e=>(u r e).2) hs.2.1 rfl).trans hs.2.1,(ZiA z (λr e=>(u r e).2) hs.2.2 rfl).trans hs.2.2⟩)
  (λs A B row hs z u=>by
   obtain⟨c,hc,y,Z⟩:=hs;exact⟨c,X c s A B row hc z<|b0 (B:=B) u,(ZiA z (λr e=>(u r e).2) y rfl).trans y,(ZiA z (λr e=>(u r e).2) Z rfl).trans Z⟩)
  ?_ ⟨b4,b6,b5⟩).mono ?_
 rintro pre x W ⟨hi,y,Z⟩ d6 a9;have d0:xz (xj w)+1<xz (xj W):=(Zf2.1 y).1;have hy:=run_yield (P:=P) (args:=M x) y (by rw[j];exact d5 x);rw[j]at hy;refine⟨fn,_,assign,body,hy,roundIn_of_wpIn c0<|Y _ x W _ ⟨_,run_beginRound y (by rw[j]),?_⟩⟩;have c8:(W.putObj (xz (xj w)+1)<|.loop {f .ready U with state:=.busy}).heap[xz (xj w)+1]?=J (.loop {f .ready U with state:=.busy}):=Zhm d0;have c1:(W.putObj (xz (xj w)+1)<|.loop {f .ready U with state:=.busy}).heap[xz<|xj w]?=J (.deferred<|J []):=(ZfE Z0).trans Z;have d8:Kp W<|W.putObj (xz (xj w)+1)<|.loop {f .ready U with state:=.busy}:=a4 _ _ _ _ Z0 y rfl rfl;refine wpIn_mono (a0 _ pre x _ (hI.putObj _ hi Z0 y rfl) ((b7 pre x).putObj (s:=()) _ d6 Z0 y rfl) a9) ?_
 have fin:∀(d:Option Code) (R:Z3),KeepsFrom (xz<|xj w) (W.putObj (xz (xj w)+1)<|.loop {f .ready U with state:=.busy}) R->
   (Instr.endRound (xz (xj w)+1) d).run P R=.ok (.bool d.isNone) (R.putObj (xz (xj w)+1)<|.loop<|f (if d.isNone then .ready else .done) d)/\
   R.heap[xz (xj w)+1]?=J (.loop {f .ready U with state:=.busy})/\
   (R.putObj (xz (xj w)+1)<|.loop<|f (if d.isNone then .ready else .done) d).heap[xz (xj w)+1]?=J (.loop<|f (if d.isNone then .ready else .done) d)/\
   (R.putObj (xz (xj w)+1)<|.loop<|f (if d.isNone then .ready else .done) d).heap[xz<|xj w]?=J (.deferred<|J []):=λd R q=>by
  have k:=q.same _ _ Z0 c8 rfl;have:=run_endRound (P:=P) d k;rw[j]at this⊢;exact⟨this,by rw[j]at k;exact k,Zhm (Zf2.1 k).1,(ZfE Z0).trans<|q.same _ _ (Zf3 _) c1 rfl⟩
 rintro e a3 R hp;cases e with
 |normal=>
  obtain⟨q,a8,G⟩:=hp;obtain⟨u,k,L,H⟩:=fin U R q;exact⟨_,_,u,.inl ⟨rfl,⟨hI.putObj _ G Z0 k rfl,L,H⟩,a5 (a5 d8 a8)<|a4 _ _ _ _ Z0 k rfl rfl⟩⟩
 |ret=>
  obtain⟨q,G⟩:=hp;obtain⟨u,k,L,H⟩:=fin (J .ret) R q;exact⟨_,_,u,.inr ⟨rfl,.ret,(X _).putObj _ G Z0 k rfl,L,H⟩⟩
 |exit id=>
  obtain⟨q,G⟩:=hp;obtain⟨u,k,L,H⟩:=fin (J<|.exit id) R q;exact⟨_,_,u,.inr ⟨rfl,.exit id,(X _).putObj _ G Z0 k rfl,L,H⟩⟩
 |goto t=>
  obtain⟨q,G⟩:=hp;obtain⟨u,k,L,H⟩:=fin (J<|.goto t) R q;exact⟨_,_,u,.inr ⟨rfl,.goto t,(X _).putObj _ G Z0 k rfl,L,H⟩⟩
 |panic ch=>exact hp.elim
 |outgrown=>exact hp.elim
 rintro e W2 ⟨⟨v,rfl⟩,(⟨xs,b8,hi,y,Z⟩|⟨pre,c,hi,y,Z⟩)⟩;exact⟨U,_,by have:=run_endLoop (P:=P) y (by rw[j];simp);rw[j]at this;exact this,a1 _ xs _ (Zf3 _) (hS.putObj _ b8 Z0 y rfl) (hI.putObj _ hi Z0 y rfl)<|(ZfE Z0).trans Z⟩;exact⟨J c,_,by have:=run_endLoop (P:=P) y (by rw[j];simp);rw[j]at this;exact this,a2 _ c pre _ (Zf3 _) ((X c).putObj _ hi Z0 y rfl)<|(ZfE Z0).trans Z⟩
end
def Z77{W:Z3}{G G':Z4}{l j:Z9}{y:Zc}(h:Rd W G (.sl<|l.map vu) y)(h':Rd W G' (.sl<|j.map vu) y):l=j:=by
 obtain⟨a,c,e⟩:=Rd.bo h;obtain⟨x,A,n⟩:=Rd.bo h';have C:I l=I j:=by rw[e]at n;simp at n;exact n.2.1
 apply Zgr;intro k;cases p:l[k]? with
 |none=>rw[Zh8]at p;rw[ZfP Z0]
 |some u=>
  have B:=(ZeW.1 p).1;obtain⟨r,g⟩:∃r,j[k]?=J r:=⟨_,ZeX Z0⟩;obtain⟨b,o,cap,w,t,_⟩:=Jg h p;obtain⟨z,D,q,d,f,_⟩:=Jg h' g;rw[w]at d;simp at d;obtain⟨⟨rfl,rfl⟩,_,_⟩:=d;rw[t]at f;cases f;exact g.symm
def Z72{W W':Z3}{B:Z4}{b:Nat}{row:Option Nat}{l:Z9}{y:Zc}(h:Rd W (λc=>B c/\c<xz (xj W)/\c≠b) (.sl<|l.map vu) y)(j:W.grownBy W' row)(F:∀r,row=J r->∃o:Obj,W.heap[r]?=J o/\o.isCells=xw):
  Rd W' (λc=>B c/\c<xz (xj W')/\c≠b) (.sl<|l.map vu) y:=by
 generalize A:l.map vu=L at h⊢;cases h with
 |nil a cap f=>exact .nil a cap f
 |sl _ d o cap k vs p q g t w x=>
  refine .sl _ d o cap k vs p q ⟨g.1,Zf4 g.2.1 j.size,g.2.2⟩ t (λi C=> ?_) (λi c f=> ?_);have f:=w i C;rw[<-f];refine ZfR (a:=⟨d,o+i,U⟩) (j.block d g.2.1 λe=> ?_);obtain⟨G,D,H⟩:=F d e.symm;unfold World.cell? at f;rw[D]at f;cases G<;>simp_all [Obj.isCells];have z:=x i c f;rw[<-A,zp,Zfo]at f;cases n:l[i]? with
  |none=>rw[n]at f;cases f
  |some u=>
   rw[n]at f;cases f;rw[Tt z];exact .int _ _
def NowI.dv{B:Z4}{W W':Z3}{b:Nat}{g:Hp}{x:Z5}{row:Option Nat}(S:NowI B W b g x)(a:W.grownBy W' row)(f:∀r,row=J r->∃o:Obj,W.heap[r]?=J o/\o.isCells=xw):NowI B W' b g x:=
 ⟨S.le,(a.block b (ZV S.nb) λe=>by obtain⟨o,d,k⟩:=f b e.symm;rw[S.nb]at d;cases d;cases k).trans S.nb,λj h=>Z72 (S.rd j h) a f⟩
def NowI.fu{B B':Z4}{W:Z3}{b:Nat}{g g':Hp}{x h:Z5}(S:NowI B W b g x)(a:NowI B' W b g' h):g'=g:=by
 have e:=S.nb.symm.trans a.nb;unfold Ye at e;simp at e;obtain⟨n,o,p,r,t,u,w,y,z,A⟩:=e;have q:∀j,j<5->Zu g' j=Zu g j:=λj f=>by
  have d:=S.rd j f;have l:=a.rd j f;have k:x j=h j:=by
   have:j=0\/j=1\/j=2\/j=3\/j=4:=Z0;obtain rfl|rfl|rfl|rfl|rfl:=this<;>assumption
  rw[k]at d;exact Z77 l d
 have C:=q 0 Z0;have D:=q 1 Z0;have F:=q 2 Z0;have G:=q 3 Z0;have H:=q 4 Z0;cases g;cases g';simp[Zu]at*;simp_all
def InBox(B:Z4)(b:Nat)(p:Pts)(W:Z3):Prop:=∃g x,NowI B W b g x/\g.ok/\Rt g p
def InBox.dv{B:Z4}{W W':Z3}{b:Nat}{p:Pts}{row:Option Nat}(S:InBox B b p W)(h:W.grownBy W' row)(j:∀r,row=J r->∃o:Obj,W.heap[r]?=J o/\o.isCells=xw):InBox B b p W':=by
 obtain⟨g,x,a,d,f⟩:=S;exact⟨g,x,a.dv h j,d,f⟩
def InBox.H{B B':Z4}{W:Z3}{b:Nat}{p f:Pts}(S:InBox B b p W)(h:InBox B' b f W):f.H=p.H:=by
 obtain⟨g,x,j,o,l⟩:=S;obtain⟨n,q,a,k,d⟩:=h;have:=j.fu a;subst this;exact Tiles.td (l.al 1 Z0)<|d.al 1 Z0
structure KpN (B:Nat->Prop) (b kb:Nat) (A C:World):Prop where
 size:xz (xj A)<=xz (xj C)
 same:∀(c:Nat) (o:Obj),A.heap[c]?=J o->o.isCells=xk->c≠b->c≠kb->C.heap[c]?=J o
 H:∀p,InBox B b p A->∃q r,InBox B b q C/\q.H=p.H++r
theorem KpN.trans{B:Z4}{b kb:Nat}{X Y Z:Z3}(h:KpN B b kb X Y)(k:KpN B b kb Y Z):KpN B b kb X Z:=
 ⟨Zfw h.size k.size,λc o d a f g=>k.same c o (h.same c o d a f g) a f g,λp j=>by
  obtain⟨q,r,d,a⟩:=h.H p j;obtain⟨s,t,k1,l⟩:=k.H q d;exact⟨s,r++t,k1,by rw[l,a,Zg1]⟩⟩
theorem KpN.put{B:Z4}{b kb:Nat}{W:Z3}{l:Nat}{o:Obj}(j:Obj)(g:W.heap[l]?=J o)(h:o.isCells=xw):KpN B b kb W<|W.putObj l j:=by
 have f:=ZhJ W l j;have n:∀r,J l=J r->∃o:Obj,W.heap[r]?=J o/\o.isCells=xw:=λr e=>by cases e;exact⟨o,g,h⟩
 refine⟨f.size,λc q a d _ _=>(ZfE<|λe=> ?_).trans a,λp k=>⟨p,[],k.dv f n,Z1⟩⟩;subst e;rw[g]at a;cases a;rw[h]at d;cases d
def Z44{ws:Z9}{l:Zk}(t:Tiles ws xw 0 l){o:Ob}(a:o∈l){i:Int}(g:o.Z<=i)(h2:i<=o.Z+o.size):WD l i=(decide (o.Z<i)&&decide (i<=o.Z+o.ac)):=by
 rw[ZhH,RM];simp only[ZeZ,Zfp];constructor;rintro⟨x,d,k1,f⟩;have j:=YH.1 (t.az x d).1.shape;obtain e|e|e:=t.apart x d o a;subst e;exact⟨k1,f⟩;omega;omega;exactλh=>⟨o,a,h⟩
def AU(x:Nat×Bool):Array Value:=#[.int .i64 (x.1:Nat),.bool x.2]
def DO(B:Z4)(b:Nat)(pre:List<|Nat×Bool)(x:Nat×Bool)(W:Z3):Prop:=∃p,InBox B b p W/\x=(I pre,WD p.H<|I pre)
def SN(B:Z4)(b:Nat)(xs:List<|Nat×Bool)(W:Z3):Prop:=∃g x,NowI B W b g x/\I g.H<=I xs
structure KnI (B:Nat->Prop) (b bk:Nat) (q:Pts) (W:World):Prop where
 bx:W.heap[bk]?=J (.cells #[.pointer<|J ⟨b,0,U⟩] 103 (0,0))
 np:InBox B b q W
def KnI.grown{B:Z4}{b bk:Nat}{q:Pts}{W W':Z3}(h:KnI B b bk q W)(a:W.grownBy W' U):KnI B b bk q W':=
 ⟨(a.block _ (ZV h.bx) Z1).trans h.bx,h.np.dv a<|λr e=>by cases e⟩
end Vm
end
section
namespace Vm
open Go Go.Proofs Go.RowKit Go.Shelf
def Z49(n:Nat){w:Z3}{B:Z4}{b bk kb:Nat}{p0:Pts}(hI:KnI B b bk p0 w)(a7:bk≠b)(K:bk≠kb)(hb:b<xz (xj w))(f4:kb<xz (xj w)):
  DT Fence.wide n xP 60 #[.pointer<|J ⟨bk,0,U⟩] AU (KpN B b kb) (DO B b) (SN B b) 1000001 (λ_ _=>True) w:=by
 intro l h Jx W hW _ hJ f2 hY h0;refine callsIn_of_wp Ek rfl trivial ?_ rfl;simp only[Try.ntmps60,Zgs,Zgd,Zg2,Nat.reduceAdd,Nat.reduceSub,ZgM,ZgN,Zhe,ZgR,ZfW,Zgc];have d8:=Zf0<|hI.grown<|UF hW U;have f1:=hW.size;have d9:=Zf0 h0;have e6:∀ {A:Z3},xz (xj w)<=xz (xj A)->xz (xj A)≠b/\xz (xj A)≠kb:=λh=>⟨Z0,Z0⟩;clear h0;gi_wp2
 gi_loopw [3] (λp wr=>∃(a:Nat),p=.int .i64 a/\Hid (∃(pre:List<|Nat×Bool) (q:Pts) (n:Nat),h pre wr/\KnI B b bk q wr/\xz (xj W)<=xz (xj wr)/\n<=I q.H/\a=WA (q.H.take n)/\I pre=a))
  (λp _=>1000001- (intOf p).toNat)
 case atStart=>exact⟨0,rfl,Zf0 ⟨[],p0,0,d9.out,d8.out,Zf3 _,Z0,rfl,rfl⟩⟩
 case round=>
  obtain⟨a,rfl,HI⟩:=hrel;obtain⟨pre,q,n1,X,Y,b8,e7,a6,b7⟩:=HI.out;obtain⟨g,x,S,b2,r⟩:=Y.np;obtain⟨sa,sc,a4⟩:=Rd.bo<|S.rd 0 Z0;rw[Zfu,show I (Zu g 0)=(I g.H) from rfl]at a4;have N:=S.nb;unfold Ye at N;rw[a4]at N;have y0:wr.cell? ⟨bk,0,U⟩=J (.pointer<|J ⟨b,0,U⟩):=by rw[Zf6 _ _ _ _ _ _ Y.bx];rfl
  have yb:∀j,wr.cell? ⟨b,j,U⟩=(#[.int .u64 g.base,.int .i64 g.cap,.int .i64 g.to,.bool g.M,.int .i64 g.Y,.slice sa (I g.H) sc,x 1,x 2,x 3,x 4]:Array Value)[j]? :=λj=>Zf6 _ _ _ _ _ _ N;have t1:=r.al 1 Z0;simp only[VG,Pts.mi]at t1;have b5:=b2.H;have c8:=t1.sum<|Zg5 _;by_cases f5:a<I g.H
  .have b6:((a:Int)< (I g.H:Int))=True:=Zhn Z0;obtain⟨o,ho⟩:∃o,q.H[n1]?=J o:=by
    refine⟨_,ZeX<|Nat.lt_of_le_of_ne e7 λe=> ?_⟩;rw[e,ZgZ]at a6;omega
   have a0:=t1.place ho;rw[ZfL,<-a6]at a0;have a1:=Zf5 ho;have a3:=(t1.az o a1).1;have c0:=YH.1 a3.shape;have M:=t1.cr o a1;have L:=a3.ay;obtain⟨u,hu,P⟩:=a3.word;rw[M,Zf7 Z1]at P;replace P:=P.2.1;rw[a0,Zfl]at hu;have d5:=b2.ft u<|Zf5 hu;obtain⟨gb,go,cap,a5,e1,e2⟩:=Jg (S.rd 0 Z0) hu;rw[a4]at a5;rw[show I (Zu g 0)=(I g.H) from rfl]at a5;simp only[Value.slice.injEq,true_and]at a5;obtain⟨rfl,rfl⟩:=a5;have O:=Jt d5;rw[P]at O;obtain⟨m,hm⟩:∃m:Nat,o.size=m:=⟨o.size.toNat,Z0⟩;obtain⟨pt,a8⟩:∃pt:Nat,o.ac=pt:=⟨o.ac.toNat,Z0⟩;rw[hm]at O L c0;rw[a8]at O c0;have e0:=Zf0 O;have HO:=Zf0<|And.intro a1<|And.intro a0<|And.intro hm<|And.intro a8<|And.intro t1<|And.intro ho<|And.intro b7 b8;have b0:=Zf0 L;have b1:=Zf0<|And.intro X Y;have d7:=Zf0 b5;have q1:IntKind.i64.wrap ((m:Int)+1)=((m+1:Nat):Int):=Zee;clear O N t1 a1 a0 P hu d5 a4 e2 hm a8 L ho a3 M a6 c8 S r X Y b7 b8 b5;gi_wp2
   refine⟨trivial,λh=>Zei,(Zh2.2<|e0.out _).mono ?_⟩;rintro e w1 ⟨rfl,b3⟩;have a9:=Zf0 b3;clear b3;gi_wp2
   have f7:=a9.out.size;have Z:wr.grownBy (w1.alloc<|.cells #[.int .i64 m,.int .i64 pt] 36) U:=TN (UF a9.out U)<|Zgi _ _ _;have HA:=Zf0<|And.intro (hJ _ _ _ _ b1.out.1 Z<|λr e=>by cases e)<|And.intro (b1.out.2.grown Z)<|And.intro (Zfq w1<|.cells #[.int .i64 m,.int .i64 pt] 36) Z.size;have hT:xz (xj W)<=xz (xj w1):=by have:=HO.out.2.2.2.2.2.2.2;omega
   have C:=e6 (A:=w1) Z0;have f3:xz (xj W)<=xz (xj<|w1.alloc<|.cells #[.int .i64 m,.int .i64 pt] 36):=Ze4;clear Z;generalize f6:w1.alloc (.cells #[.int .i64 m,.int .i64 pt] 36)=w2 at*;have d6:=b0.out;have f0:=d7.out;gi_loopw [30] (λiv wi=>∃i:Nat,iv=.int .i64 i/\Hid (∃(f:List<|Nat×Bool) (Q:Pts) (r':Zk),h f wi/\KnI B b bk Q wi/\xz (xj w2)<=xz (xj wi)/\Q.H=q.H++r'/\I f=a+i/\i<=m+1/\wi.heap[xz<|xj w1]?=J (.cells #[.int .i64 m,.int .i64 pt] 36 (0,0)))) (λiv _=>m+1- (intOf iv).toNat)
   case atStart=>exact⟨0,rfl,Zf0 ⟨pre,q,[],HA.out.1,HA.out.2.1,Zf3 _,Z1,by have:=HO.out.2.2.2.2.2.2.1;omega,Z0,HA.out.2.2.1⟩⟩
   case round=>
    obtain⟨i,rfl,HJ⟩:=hrel;obtain⟨f,Q,r',H,z,b9,F,a2,e3,D⟩:=HJ.out;have d0:wr.cell? ⟨xz<|xj w1,0,U⟩=J (.int .i64 m):=by rw[Zf6 _ _ _ _ _ _ D];rfl
    have d1:wr.cell? ⟨xz<|xj w1,1,U⟩=J (.int .i64 pt):=by rw[Zf6 _ _ _ _ _ _ D];rfl
    by_cases e5:i=m+1
    .subst e5;have e4:(((m+1:Nat):Int)< (m:Int)+1)=False:=ZgU Z0;have q2:IntKind.i64.wrap ((a:Int)+((m:Int)+1))=((a+(m+1):Nat):Int):=Zee;clear z D H;gi_wp2
     obtain⟨k1,k2,k3,k4,k5,k6,k7⟩:=HO.out;obtain⟨f,Q,r',H,z,b9,F,a2,e3,D⟩:=HJ.out;have b4:n1+1<=I q.H:=by have:=(ZeW.1 k6).1;omega
     refine⟨⟨a+(m+1),Z1,Zf0 ⟨f,Q,n1+1,H,z,Z0,by rw[F,ZfK];omega,?_,Z0⟩⟩,by simp[intOf];omega⟩;rw[F,Zi8 b4,Z93 k6,k3];have:=k5.place k6;omega
    .have e4:((i:Int)< (m:Int)+1)=True:=Zhn Z0;obtain⟨k1,k2,k3,k4,k5,k6,k7,k8⟩:=HO.out;have hx:DO B b f (a+i,WD Q.H ((a+i:Nat):Int)) wr:=⟨Q,z.np,by rw[a2]⟩;obtain⟨fn,e9,assign,e8,hy,hR⟩:=hY f _ wr H hx Z0;have hq:WD Q.H ((a+i:Nat):Int)=(decide (0<i)&&decide (i<=pt)):=by
      obtain⟨g',x',_,_,r2⟩:=z.np;have t2:=r2.al 1 Z0;simp only[VG,Pts.mi]at t2;rw[Z44 t2 (o:=o) (by rw[F];exact Zg9 _ k1) Z0 Z0,k2,k4];congr 1;exact decide_eq_decide.2 Z0;exact decide_eq_decide.2 Z0
     unfold AU at hy;simp only[hq]at hy;have HQ:=Zf0<|And.intro hq<|And.intro hR<|And.intro b9<|And.intro F<|And.intro a2<|And.intro D z;have q2:IntKind.i64.wrap ((a:Int)+(i:Int))=((a+i:Nat):Int):=Zee;have q3:IntKind.i64.wrap ((i:Int)+1)=((i+1:Nat):Int):=Zee;clear hx H z hq hR D k1 k2 k3 k4 k5 k6 k7 k8 F a2;have h3:(i=0/\(0<i)=False)\/(((0:Int)< (i:Int))=True/\(0<i)=True/\((i:Int)<=(pt:Int))=True/\(i<=pt)=True)\/(((0:Int)< (i:Int))=True/\(0<i)=True/\((i:Int)<=(pt:Int))=False/\(i<=pt)=False):=by
      by_cases h0:i=0;exact .inl ⟨h0,ZgU Z0⟩;by_cases h1:i<=pt;exact .inr<|.inl ⟨Zhn Z0,Zhn Z0,Zhn Z0,Zhn h1⟩;exact .inr<|.inr ⟨Zhn Z0,Zhn Z0,ZgU Z0,ZgU h1⟩
     obtain⟨h0,h1⟩|⟨h0,h1,h2,h3⟩|⟨h0,h1,h2,h3⟩:=h3
     .subst h0;simp only[h1,Zj7,Zip,Zj8,ZhI,ZhZ,Zi0,ZgF,ZiP]at hy;gi_wp2
      refine⟨λh=>Zei,HQ.out.2.1.mono ?_⟩;rintro e W3 (⟨rfl,t,y⟩|⟨rfl,k⟩)
      .have d:=Zf0<|And.intro t y;clear t y;gi_wp2
       obtain⟨c1,c2,c3,c4,c5,c6,c7⟩:=HQ.out;obtain⟨R,T,i1,i2⟩:=d.out.2.H Q c7.np;refine⟨⟨1,Z1,Zf0 ⟨f++[_],R,r'++T,d.out.1,⟨d.out.2.same _ _ c7.bx rfl a7 K,i1⟩,Zfw c3 d.out.2.size,by rw[i2,c4,Zg1],by simp<;>omega,Z0,d.out.2.same _ _ c6 rfl C.1 C.2⟩⟩,by simp[intOf]<;>omega⟩
      .have G:=Zf0 k;clear k;gi_wp2
       refine ZfA (results_none rfl _ _ _) rfl ?_;exact⟨⟨_,rfl⟩,.inr ⟨_,G.out⟩⟩
     .simp only[h1,h3,Zj7,Zip,Zj8,ZhI,ZhZ,Zi0,ZgF,ZiP]at hy;gi_wp2
      refine⟨λh=>Zei,HQ.out.2.1.mono ?_⟩;rintro e W3 (⟨rfl,t,y⟩|⟨rfl,k⟩)
      .have d:=Zf0<|And.intro t y;clear t y;gi_wp2
       obtain⟨c1,c2,c3,c4,c5,c6,c7⟩:=HQ.out;obtain⟨R,T,i1,i2⟩:=d.out.2.H Q c7.np;refine⟨⟨i+1,Z1,Zf0 ⟨f++[_],R,r'++T,d.out.1,⟨d.out.2.same _ _ c7.bx rfl a7 K,i1⟩,Zfw c3 d.out.2.size,by rw[i2,c4,Zg1],by simp<;>omega,Z0,d.out.2.same _ _ c6 rfl C.1 C.2⟩⟩,by simp[intOf];omega⟩
      .have G:=Zf0 k;clear k;gi_wp2
       refine ZfA (results_none rfl _ _ _) rfl ?_;exact⟨⟨_,rfl⟩,.inr ⟨_,G.out⟩⟩
     .simp only[h1,h3,Zj7,Zip,Zj8,ZhI,ZhZ,Zi0,ZgF,ZiP]at hy;gi_wp2
      refine⟨λh=>Zei,HQ.out.2.1.mono ?_⟩;rintro e W3 (⟨rfl,t,y⟩|⟨rfl,k⟩)
      .have d:=Zf0<|And.intro t y;clear t y;gi_wp2
       obtain⟨c1,c2,c3,c4,c5,c6,c7⟩:=HQ.out;obtain⟨R,T,i1,i2⟩:=d.out.2.H Q c7.np;refine⟨⟨i+1,Z1,Zf0 ⟨f++[_],R,r'++T,d.out.1,⟨d.out.2.same _ _ c7.bx rfl a7 K,i1⟩,Zfw c3 d.out.2.size,by rw[i2,c4,Zg1],by simp<;>omega,Z0,d.out.2.same _ _ c6 rfl C.1 C.2⟩⟩,by simp[intOf];omega⟩
      .have G:=Zf0 k;clear k;gi_wp2
       refine ZfA (results_none rfl _ _ _) rfl ?_;exact⟨⟨_,rfl⟩,.inr ⟨_,G.out⟩⟩
  .have b6:((a:Int)< (I g.H:Int))=False:=ZgU Z0;have HE:Hid<|h pre wr/\SN B b pre wr:=Zf0 ⟨X,g,x,S,Z0⟩;clear N X S;gi_wp2
   go_end0
   exact⟨⟨_,rfl⟩,.inl ⟨pre,HE.out.2,HE.out.1⟩⟩
end Vm
end
section
namespace Vm
open Go Go.Proofs Go.RowKit
def Aq{g:Hp}{x:Z5}(h:∀j,j<5->∃a q,x j=.slice a (I<|Zu g j) q):∃(a:Nat->Option Addr) (q:Zj),Ye g x=#[.int .u64 g.base,.int .i64 g.cap,.int .i64 g.to,.bool g.M,.int .i64 g.Y,.slice (a 0) (I<|Zu g 0)<|q 0,.slice (a 1) (I<|Zu g 1)<|q 1,.slice (a 2) (I<|Zu g 2)<|q 2,.slice (a 3) (I<|Zu g 3)<|q 3,.slice (a 4) (I<|Zu g 4)<|q 4]/\∀j,j<5->x j=.slice (a j) (I<|Zu g j) (q j):=by
 have:∀j,∃p:Option Addr×Nat,j<5->x j=.slice p.1 (I<|Zu g j) p.2:=λj=>by
  by_cases d:j<5;obtain⟨a,q,e⟩:=h j d;exact⟨(a,q),λ_=>e⟩;exact⟨(U,0),λh=>absurd h d⟩
 obtain⟨f,e⟩:=Zhh this;exact⟨λj=>(f j).1,λj=>(f j).2,by simp[Ye,e],e⟩
def PG(w:Z3)(G:Z4)(hG:∀b,G b->b<xz (xj w))(h:Hp)(hh:h.ok)(Q:Z5)(hs:∀j,j<5->Rd w G (.sl<|(Zu h j).map vu) (Q j)){p:Pts}(r:Rt h p)(hc:h.M=xw):
  Calls xP 26 #[Zx h Q] w (TA w (YF h,0)):=by
 have hR:∀W,Below (xz<|xj w) w W->Calls xP 10 #[Zx h Q] W λe w'=>e=.returned (.bool<|Yg h)/\Below (xz<|xj W) W w':=λW B=>
  Jk (w:=W) (G:=G) (x:=Q) hh (λb X=>Zf4 (hG b X) B.size) (λj n=>(hs j n).keep (λb X=>B.block b<|hG b X) λ_ q=>q)
 rw[r.right]at hR;unfold Zx at hR;rw[hc]at hR;have HR:=Zf0 hR;have HS:=Zf0 hs;have HH:=Zf0 hh;have d6:=Zf0 r;have M:=Zf0 hc;have h6:h.to=0\/h.to=1:=by have:=XL.1 r.bj;exact this.2.2.2.2.1
 have l2:=ZB (1-h.to) Z0 Z0;clear hR hs hh r h6;unfold Zx;rw[hc];clear hc;go_enter LK,Try.ntmps26;go_wp2;refine Z8e 0 (λa W=>∃(c k:Nat) (x:Z5),a.defers=[]/\a.tmps.size=72/\a.tmps.getD 2 xy=.pointer (J ⟨xz (xj w)+1,0,U⟩)/\a.tmps.getD 4 xy=.pointer (J ⟨c,0,U⟩)/\a.tmps.getD 5 xy=.int .i64 k/\k<=xq h.E/\FlI w W c (X3 (YA h) k) x) (λa _=>xq h.E- (intOf<|a.tmps.getD 5 xy).toNat) rfl ?_ ?_
 .rintro a W ⟨c,k,x,hd,d0,h2,h4,h5,hk,HI⟩;obtain⟨t,d⟩:=a;simp only at hd d0 h2 h4 h5;subst hd;obtain⟨u,hu⟩:∃u:Z5,∀i,t.getD i xy=u i:=⟨λi=>t.getD i xy,λ_=>rfl⟩
  have et:t=#[u 0,u 1,u 2,u 3,u 4,u 5,u 6,u 7,u 8,u 9,u 10,u 11,u 12,u 13,u 14,u 15,u 16,u 17,u 18,u 19,u 20,u 21,u 22,u 23,u 24,u 25,u 26,u 27,u 28,u 29,u 30,u 31,u 32,u 33,u 34,u 35,u 36,u 37,u 38,u 39,u 40,u 41,u 42,u 43,u 44,u 45,u 46,u 47,u 48,u 49,u 50,u 51,u 52,u 53,u 54,u 55,u 56,u 57,u 58,u 59,u 60,u 61,u 62,u 63,u 64,u 65,u 66,u 67,u 68,u 69,u 70,u 71]:=(Z0G d0).trans (by
   have A:(λi=>t.getD i xy)=u:=funext hu;rw[A];rfl)
  rw[hu]at h2 h4 h5;rw[h2,h4,h5]at et;clear hu d0 h2 h4 h5;subst et;have D:=Zf0 HI;clear HI;by_cases b9:k<xq h.E
  .have h6:h.to=0\/h.to=1:=by have:=XL.1 d6.out.bj;exact this.2.2.2.2.1
   obtain⟨q,I⟩:=zt d6.out M.out k Z0;obtain⟨⟨T,H,q',f⟩,_⟩:=G1 d6.out b9 I;have g3:=Aa HH.out h6 k;have a6:(X3 (YA h) k).E[k]?=J h.E[k]:=by rw[I.rest k<|Zf3 _];exact ZeX b9
   have c8:X3 (YA h) (k+1)= {H with E:=H.E.set k T}:=by
    show TM (X3 (YA h) k) k=_;unfold TM;rw[a6,Zfv,f.fwd]
   have Y:(X3 (YA h) k).E.length=xq h.E:=I.len;have er:H.E=(X3 (YA h) k).E:=f.ext.E;have f1:H.ok/\ZA T:=by have:=zB g3<|HH.out.db _<|Zfr b9;rw[f.fwd]at this;exact this
   have f2:=f.fwd;have k4:=HH.out.db _<|Zfr b9;clear I f;generalize X3 (YA h) k=g at*;generalize h.E[k]=u0 at*;obtain⟨gb,go,cap,d9,g6,i5⟩:=Jg (D.out.rd 4 Z0) a6;rw[show xq (Zu g 4)=(xq g.E) from rfl,Y]at d9;have hF:∀W',Below (xz<|xj W) W W'->Calls xP 34 #[.agg #[.int .u64 g.base,.int .i64 g.cap,.int .i64 g.to,.bool g.M,.int .i64 g.Y,x 0,x 1,x 2,x 3,.slice (J ⟨gb,go,U⟩) (xq h.E) cap],.int .u64 u0] W' (FwdPost W' (T,H,0)):=λW' B=>by
    have:=DC W' (λb=>xz (xj w)+2<=b/\b<xz (xj W)/\b≠c) (λb X=>Zf4 X.2.1 B.size) g g3 x (λj n=>(D.out.rd j n).keep (λb X=>B.block b X.2.1) λ_ q=>q) u0 k4;rw[f2]at this;unfold Zx at this;rw[d9]at this;exact this
   have HF:=Zf0 hF;have R:=D.out.nb;unfold Ye at R;rw[d9]at R;have yc:∀j,W.cell? ⟨c,j,U⟩=(#[.int .u64 g.base,.int .i64 g.cap,.int .i64 g.to,.bool g.M,.int .i64 g.Y,x 0,x 1,x 2,x 3,.slice (J ⟨gb,go,U⟩) (xq h.E) cap]:Array Value)[j]? :=λj=>Zf6 _ _ _ _ _ _ R;have g7:=ZV R;have k6:((k:Int)< (xq h.E:Int))=True:=Zhn Z0;have HM:=Zf0<|And.intro c8<|And.intro er<|And.intro f1<|And.intro i5<|And.intro R Y;clear hF R Y d9 c8 er f1 a6 f2 g3 i5;go_upto_region 8 with fail;refine Nm [39,40,41,42,43,44,45,38,46,47,48,7,6,8] (FrC W (frE c g (λj=>if j=4 then .slice (J ⟨gb,go,U⟩) (xq h.E) cap else x j) k (.pointer<|J ⟨gb,go+k,U⟩) u0) T H) follows Z2 ⟨u,Zef,?_⟩ ?_ ?_;exact⟨(Zfg _ _).drew,λi _ _ _ h=>Zei,λh=>Zei,λh=>Zei,λh=>Zei⟩
   .intro L i o v W1 ho hi n C;have N:=Zf0 C;have hz:xz (xj W)<=xz (xj W1):=C.b.size;have yd:∀j,W1.cell? ⟨c,j,U⟩=(#[.int .u64 g.base,.int .i64 g.cap,.int .i64 g.to,.bool g.M,.int .i64 g.Y,x 0,x 1,x 2,x 3,.slice (J ⟨gb,go,U⟩) (xq h.E) cap]:Array Value)[j]? :=λj=>(C.b.cell (p:=⟨c,j,U⟩) g7).trans<|yc j;have j3:W1.cell? ⟨gb,go+k,U⟩=J (.int .u64 u0):=(C.b.cell (p:=⟨gb,go+k,U⟩) HM.out.2.2.2.1.2.1).trans g6;clear C;have k8:i<15:=(Zf2.1 ho).1;simp only[UN,Q7,Zft,Zgq,ZgS,Zit,ZgW,ZhO,ZhP];have:i=0\/i=1\/i=2\/i=3\/i=4\/i=5\/i=6\/i=7\/i=8\/i=9\/i=10\/i=11\/i=12\/i=13\/i=14:=Z0;obtain rfl|rfl|rfl|rfl|rfl|rfl|rfl|rfl|rfl|rfl|rfl|rfl|rfl|rfl|rfl:=this<;>cases ho
    .go_wp2;try simp only[QN]
     exact⟨_,rfl,N.out.pe 0 Z0 rfl⟩
    .go_wp2;try simp only[QN]
     exact⟨_,rfl,N.out.pe 1 Z0 rfl⟩
    .have e1:v 40=.pointer (J ⟨c,9,U⟩):=N.out.e 1 Z0<|n 1 Zeh;go_wp2;try simp only[QN]
     exact⟨_,by rw[<-e1];rfl,N.out.pe 2 Z0 rfl⟩
    .go_wp2;try simp only[QN]
     exact⟨_,rfl,N.out.pe 3 Z0 rfl⟩
    .have e2:v 41=.slice (J ⟨gb,go,U⟩) (xq h.E) cap:=N.out.e 2 Z0<|n 2 Zeh;have e3:v 42=.int .i64 k:=N.out.e 3 Z0<|n 3 Zeh;go_wp2;try simp only[QN]
     exact⟨_,by rw[<-e2,<-e3];rfl,N.out.pe 4 Z0 rfl⟩
    .have e4:v 43=.pointer (J ⟨gb,go+k,U⟩):=N.out.e 4 Z0<|n 4 Zeh;go_wp2;try simp only[QN]
     exact⟨_,by rw[<-e4];rfl,N.out.pe 5 Z0 rfl⟩
    .have A:v 39=.agg #[.int .u64 g.base,.int .i64 g.cap,.int .i64 g.to,.bool g.M,.int .i64 g.Y,x 0,x 1,x 2,x 3,.slice (J ⟨gb,go,U⟩) (xq h.E) cap]:=N.out.e 0 Z0<|n 0 Zeh;have e5:v 44=.int .u64 u0:=N.out.e 5 Z0<|n 5 Zeh;go_wp2_with (go_at_call 34;refine(HF.out _ N.out.b).mono ?_;rintro e w9 ⟨x9,rfl,b7,i9⟩;have b1:=Zf0<|And.intro b7 i9;clear b7 i9)
     try simp only[QN]
     exact⟨_,by rw[<-A,<-e5];rfl,N.out.call b1.out.1 b1.out.2⟩
    .obtain⟨x9,A,o9⟩:=N.out.t 6 (.inl rfl)<|n 6 Zeh;have A:v 45=Ke T H x9:=A;have O9:=Zf0 o9;clear o9;go_wp2;try simp only[QN]
     exact⟨_,by rw[<-A];rfl,N.out.pt O9.out⟩
    iterate 3
     focus
      obtain⟨x9,A,o9⟩:=N.out.t 7 (.inr rfl)<|n 7 Zeh;have A:v 38=.tuple #[.int .u64 T,.agg<|Ye H x9,.int .i64 0]:=A;have O9:=Zf0 o9;clear o9;go_wp2;try simp only[QN]
      first
      |exact⟨_,by rw[<-A];rfl,N.out.pf 8 (.inl rfl) rfl⟩
      |exact⟨_,by rw[<-A];rfl,N.out.pa O9.out⟩
      |exact⟨_,by rw[<-A];rfl,N.out.pz 10 (.inl rfl) rfl⟩
    .go_wp2;try simp only[QN]
     exact⟨_,rfl,N.out.alloc hi⟩
    .have A:v 46=.int .u64 T:=N.out.f 8 (.inl rfl)<|n 8 Zeh;go_wp2;try simp only[QN]
     exact⟨_,by rw[<-A];rfl,N.out.pf 12 (.inr rfl) rfl⟩
    .obtain⟨c7,e7,d8,j8,O⟩:=N.out.new<|n 11 Zeh;obtain⟨x9,i1,o9⟩:=N.out.a<|n 9 Zeh;have O:=O hi;have y4:∀j,W1.cell? ⟨c7,j,U⟩=ZI[j]? :=λj=>Zf6 _ _ _ _ _ _ O;unfold ZI at y4;have y5:∀j,W1.frozen? ⟨c7,j,U⟩=xw:=λj=>Y9 O;have H3:=Zf0 O;obtain⟨a,q,K,_⟩:=Aq λj n=>XK<|o9.own.own j n;rw[K]at i1;have d5:=Zf0<|And.intro K o9;clear O o9 K;go_wp2;try simp only[QN]
     exact⟨_,by rw[<-e7,<-i1],N.out.store e7 d5.out.2 (n 11 Zeh) hi H3.out (λb B=>Va B) ZeE (by rw[d5.out.1];exact L5 H3.out)<|Wq (Zfg _ _) d8⟩
    .have A:v 48=.int .i64 0:=N.out.z 10 (.inl rfl)<|n 10 Zeh;go_wp2;try simp only[QN]
     exact⟨_,by rw[<-A];rfl,N.out.pz 14 (.inr rfl) rfl⟩
   .intro L v W1 hL C;have e6:v 6=.int .u64 T:=C.f 12 (.inr rfl)<|hL 12 Zeh;have e8:v 8=.int .i64 0:=C.z 14 (.inr rfl)<|hL 14 Zeh;obtain⟨c7,x9,e7,g5,o9⟩:=C.put<|hL 13 Zeh;have a7:=C.b;have d0:=a7.size;have b8:xq H.E=xq h.E:=by rw[HM.out.2.1,HM.out.2.2.2.2.2]
    obtain⟨a,q,K,f4⟩:=Aq λj n=>XK<|o9.own.own j n;have f4:=f4 4 Z0;have i4:xq (Zu H 4)=xq h.E:=b8;obtain⟨g4,i3⟩:=KP (o9.own.own 4 Z0) f4 Z0;rw[i3,i4]at f4 K;rw[K]at g5;have d7:=(a7.block c g7).trans HM.out.2.2.2.2.1;have y7:=λj=>Zf6 _ _ j _ _ _ g5;have yd:=λj=>Zf6 _ _ j _ _ _ d7;have fd:∀j,W1.frozen? ⟨c,j,U⟩=xw:=λj=>Y9 d7;have HO:=Zf0<|And.intro o9.own<|And.intro a7<|And.intro K<|And.intro f4<|And.intro b8 d7;have i3:xz (xj W)<=g4/\g4<xz (xj W1):=(o9.own.own 4 Z0).lt g4 (by rw[f4];rfl);clear C o9 a7 K f4 b8 g5 d7 hL;simp only[UN,Q7,Zft,Zgq,ZgS,Zit,ZgW,ZhO,ZhP];go_upto_region 12 with fail;obtain⟨W2,a2⟩:∃W2,W2=UO W1 c (.int .u64 H.base) (.int .i64 H.cap) (.int .i64 H.to) (.bool H.M) (.int .i64 H.Y) (.slice (a 0) (xq<|Zu H 0)<|q 0) (.slice (a 1) (xq<|Zu H 1)<|q 1) (.slice (a 2) (xq<|Zu H 2)<|q 2) (.slice (a 3) (xq<|Zu H 3)<|q 3) (.slice (J ⟨g4,0,U⟩) (xq h.E)<|q 4):=⟨_,rfl⟩;unfold UO at a2;rw[<-a2];have b6:W2.heap[c]?=J (.cells (Ye H x9) 27 (0,0)):=by rw[HO.out.2.2.1,a2];exact MZ HO.out.2.2.2.2.2
    have c0:∀b,b≠c->W2.heap[b]?=W1.heap[b]? :=λb B=>by rw[a2];exact Va B
    have h7:xz (xj W2)=xz (xj W1):=by rw[a2];simp[World.setCell]
    have a8:Below (xz<|xj w) W1 W2:=by rw[a2];exact Wq (Zfg _ _) (by have:=D.out.le;omega)
    clear a2;have P:HOwn (xz<|xj W) W2 H x9:=⟨λj n=>Xe (HO.out.1.own j n) λb B=>c0 b (by have:=((HO.out.1.own j n).lt b B).1;omega),HO.out.1.apart⟩;have a4:=P.own 4 Z0;rw[HO.out.2.2.2.1,show xq (Zu H 4)=(xq h.E) from HO.out.2.2.2.2.1]at a4;have y2:=λj=>Zf6 _ _ j _ _ _ b6;rw[HO.out.2.2.1]at y2;obtain⟨z0,j2⟩:∃z0,H.E[k]?=J z0:=⟨_,ZeX (by rw[HO.out.2.2.2.2.1];exact b9)⟩;have ec:W2.cell? ⟨g4,k,U⟩=J (.int .u64 z0):=by
     rw[a4.cellAt k Z0];simp[Y3,Zu,j2]
    have ef:W2.frozen? ⟨g4,k,U⟩=xw:=a4.frozenAt k;have wk:=ZB ((k:Int)+1) (by have:=HH.out.E;omega) (by have:=HH.out.E;omega);have HQ:=Zf0<|And.intro b6<|And.intro c0<|And.intro h7<|And.intro a8<|And.intro P a4;clear b6 c0 h7 a8 P a4 y7 yd fd j2;go_wp2;go_step3
    simp only[Exit.then,Exit.inBlock];refine⟨rfl,⟨c,k+1,x9,rfl,rfl,rfl,rfl,?_,Z0,?_⟩,?_⟩;show Value.int .i64 ((k:Int)+1)=_;congr 1;rw[HM.out.1];obtain⟨b6,c0,h7,a8,P,a4⟩:=HQ.out;obtain⟨j1,l0⟩:=a4.stored k<|.int .u64 T;have k5:g4≠c:=Z0;have Z:∀b,b≠g4->(W2.setCell ⟨g4,k,U⟩<|.int .u64 T).heap[b]?=W2.heap[b]? :=λb B=>Zff _ _ _ _ B;have e9:xz (xj<|W2.setCell ⟨g4,k,U⟩<|.int .u64 T)=xz (xj W2):=ZeE;have i7:=D.out.le;have a5:=D.out.rb;refine⟨(D.out.below.trans<|(HO.out.2.1.mono D.out.below.size).trans a8).setCell (by show xz (xj w)<=g4;have:=D.out.below.size;omega) _,?_,i7,?_,λj n=> ?_⟩;have:=ZV a5;rw[Z _ Z0,c0 _ Z0,HO.out.2.1.block _ this];exact a5;rw[Z c Z0,b6];rfl;have i6:∀b,xz (xj W)<=b->b< xz (xj<|W2.setCell ⟨g4,k,U⟩<|.int .u64 T)->xz (xj w)+2<=b/\b< xz (xj<|W2.setCell ⟨g4,k,U⟩<|.int .u64 T)/\b≠c:=λb h1 h2=>⟨Z0,h2,Z0⟩;by_cases e:j=4;subst e;have hn:Y3 .u64 (H.E.set k T)=(Y3 .u64<|Zu H 4).set k (.int .u64 T):=J5 _ _ _ _;rw[<-hn]at j1;show Rd _ _ (.sl<|(H.E.set k T).map vu)<|x9 4;rw[HO.out.2.2.2.1];have k2:xq h.E=xq (H.E.set k T):=by rw[Zgx,HO.out.2.2.2.2.1]
    have k3:(W2.setCell ⟨g4,k,U⟩<|.int .u64 T).ownsRow (xz<|xj W) 22 1 (.slice (J ⟨g4,0,U⟩) (xq h.E)<|q 4) (xq<|H.E.set k T)<|Y3 .u64<|H.E.set k T:=by rw[<-k2];exact j1
    exact S5 k3 i6;have j9:Zu {H with E:=H.E.set k T} j=Zu H j:=by
     have:j=0\/j=1\/j=2\/j=3:=Z0;obtain rfl|rfl|rfl|rfl:=this<;>rfl
    rw[j9];refine S5 (Xe (P.own j n) λb B=>Z b λe2=> ?_) i6;exact P.apart j 4 Z0 Z0 b B (by rw[e2,HO.out.2.2.2.1];rfl);simp[intOf];omega
  .have k0:k=xq h.E:=Z0;subst k0;obtain⟨q,I⟩:=zt d6.out M.out (xq h.E)<|Zf3 _;have Y:(X3 (YA h)<|xq h.E).E.length=xq h.E:=I.len;clear I;have K:YF h=Wb (X3 (YA h)<|xq h.E):=rfl;rw[K];clear K;generalize X3 (YA h) (xq h.E)=g at*;obtain⟨a,q,h0,f0⟩:=Aq (g:=g) (x:=x) λj n=>by simpa using Rd.bo (D.out.rd j n)
   have Y:xq (Zu g 4)=xq h.E:=Y;rw[Y]at h0;have R:=D.out.nb;rw[h0]at R;have a5:=D.out.rb;have i7:=D.out.le;have g7:=ZV R;have yc:=λj=>Zf6 _ _ j _ _ _ R;have fc:∀j,W.frozen? ⟨c,j,U⟩=xw:=λj=>Y9 R;have yz:∀j,W.cell? ⟨xz (xj w)+1,j,U⟩=ZI[j]? :=λj=>Zf6 _ _ _ _ _ _ a5;unfold ZI at yz;have fz:∀j,W.frozen? ⟨xz (xj w)+1,j,U⟩=xw:=λj=>Y9 a5;have i8:¬xz (xj w)+1=c:=Z0;have k7:¬c=xz (xj w)+1:=Z0;have HP:=Zf0<|And.intro a5<|And.intro f0 Y;clear h0 R a5 f0 Y;by_cases b0:0<xq g.H
   .have g9:(0< xq (Zu g 0))=True:=Zhn b0;go_wp2;simp only[Exit.jump];obtain⟨W3,S⟩:∃W3,W3=W.setCell ⟨c,3,U⟩ (.bool xk):=⟨_,rfl⟩;rw[<-S];have Z:∀b,b≠c->W3.heap[b]?=W.heap[b]? :=λb B=>by
     rw[S];simp[World.setCell,Zfy,ZgL B]
    have e9:xz (xj W3)=xz (xj W):=by rw[S];simp[World.setCell]
    have b4:Below (xz<|xj w) W W3:=by
     rw[S];exact(Zfg _ _).setCell ZeP _
    have y:=Ul<|(Z _ i8).trans HP.out.1;have A:=HP.out.2.1 0 Z0;have e1:=HP.out.2.1 1 Z0;have e2:=HP.out.2.1 2 Z0;have e3:=HP.out.2.1 3 Z0;have e4:=HP.out.2.1 4 Z0;rw[HP.out.2.2]at e4;have g8:Wb g= {g with M:=xk}:=Zfc b0;rw[g8];clear S;refine ZfA (v:=.tuple #[Zx {g with M:=xk} x,.int .i64 0]) ?_ rfl ⟨x,rfl,Wq (D.out.below.trans b4) Z0,λj n=> ?_⟩
    .simp[results,Try.results26,go_sem,y,Zx,A,e1,e2,e3,e4]
    have hl:Zu {g with M:=xk} j=Zu g j:=rfl;rw[hl];exact(D.out.rd j n).keep (λb B=>(Va (by have:=B.1;omega)).trans<|Z b B.2.2) λb B=>⟨by have:=B.1;omega,by simp[World.setCell,e9];exact B.2.1⟩
   .have g9:(0< xq (Zu g 0))=False:=ZgU b0;go_wp2;simp only[Exit.jump];obtain⟨W3,S⟩:∃W3,W3=((W.setCell ⟨c,3,U⟩<|.bool xw).setCell ⟨c,7,U⟩<|.slice U 0 0).setCell ⟨c,8,U⟩ (.slice U 0 0):=⟨_,rfl⟩;rw[<-S];have Z:∀b,b≠c->W3.heap[b]?=W.heap[b]? :=λb B=>by
     rw[S];simp[World.setCell,Zfy,ZgL B]
    have e9:xz (xj W3)=xz (xj W):=by rw[S];simp[World.setCell]
    have b4:Below (xz<|xj w) W W3:=by
     rw[S];exact(((Zfg _ _).setCell ZeP _).setCell ZeP _).setCell ZeP _
    have y:=Ul<|(Z _ i8).trans HP.out.1;have A:=HP.out.2.1 0 Z0;have e1:=HP.out.2.1 1 Z0;have e4:=HP.out.2.1 4 Z0;rw[HP.out.2.2]at e4;have g8:Wb g= {g with M:=xw,an:=[],am:=[]}:=Zf7 b0;rw[g8];clear S;refine ZfA (v:=.tuple #[Zx {g with M:=xw,an:=[],am:=[]} (λj=>if j=2\/j=3 then .slice U 0 0 else x j),.int .i64 0]) ?_ rfl ⟨_,rfl,Wq (D.out.below.trans b4) Z0,λj n=> ?_⟩
    .simp[results,Try.results26,go_sem,y,Zx,A,e1,e4]
    have:j=2\/j=3\/(j≠2/\j≠3):=Z0;obtain rfl|rfl|⟨h2,h3⟩:=this;exact .nil _ _ Zej;exact .nil _ _ Zej;have hl:Zu {g with M:=xw,an:=[],am:=[]} j=Zu g j:=by
     have:j=0\/j=1\/j=4:=Z0;obtain rfl|rfl|rfl:=this<;>rfl
    rw[hl];simp only[h2,h3,or_self,ZfV];exact(D.out.rd j n).keep (λb B=>(Va (by have:=B.1;omega)).trans<|Z b B.2.2) λb B=>⟨by have:=B.1;omega,by simp[World.setCell,e9];exact B.2.1⟩
 intro c1
 go_upto_region 5 with (first
  | (go_at_call 10;refine(HR.out _ ?_).mono ?_;rotate_left;rintro e wa ⟨rfl,a3⟩
     have bA:wa.heap[xz<|xj w]?=J (.cells #[.int .u64 h.base,.int .i64 h.cap,.int .i64 h.to,.bool xw,.int .i64 h.Y,Q 0,Q 1,Q 2,Q 3,Q 4] 27 (0,0)):=(a3.block _ Ze4).trans<|(Zfa _ _ _ Z1).trans<|Zfq w _;have bZ:wa.heap[xz (xj w)+1]?=J (.cells ZI 27 (0,0)):=(a3.block _ Z1).trans<|Dp w _;have ya:=λj=>Zf6 _ _ j _ _ _ bA;have f5:=Zf0 a3;have j5:=Zf0<|And.intro bA bZ;clear a3 bA bZ))
 case refine_1=>exact((Zfg _ w).alloc (Zf3 _) _).alloc Z1 _
 have a3:Below (xz<|xj w) w wa:=Below.trans (((Zfg _ w).alloc (Zf3 _) _).alloc Z1 _)<|f5.out.mono Ze4;have l1:xz (xj w)+2<=xz (xj wa):=by have:=f5.out.size;simp at this;omega
 have i0:=Zf0 a3;clear a3 f5;have f7:=Zf0 (λ(W:Z3) (hW:Below (xz<|xj wa) wa W) (j:Nat) (n:j<5)=>(HS.out j n).keep (λb X=>(hW.block b (by have:=hG b X;omega)).trans<|i0.out.block b<|hG b X) λ_ q=>q);refine Nm [16,17,18,19,20,21,22,23,24,25,26,27,28,29,30,31,32,4] (FlC wa (xz<|xj w) h Q) follows Z2 ⟨λ_=>xy,Zef,?_⟩ ?_ ?_;exact⟨(Zfg _ _).drew,λi _ h=>Zei,λi _ h=>Zei,λh=>Zei,λh=>Zei,λh=>Zei,λh=>Zei⟩
 .intro L i o v W ho hi n C;have M:=Zf0 C;have hz:xz (xj wa)<=xz (xj W):=C.b.size;have ya:=λj=>(C.b.cell (p:=⟨xz<|xj w,j,U⟩) (by show xz (xj w)<xz (xj wa);omega)).trans<|ya j;clear C;have k9:i<19:=(Zf2.1 ho).1;simp only[UN,Q7,Zft,Zgq,ZgS,Zit,ZgW,ZhO,ZhP];have:i=0\/i=2\/i=4\/i=7\/i=10\/i=13\/i=1\/i=3\/i=5\/i=6\/i=8\/i=11\/i=14\/i=9\/i=12\/i=15\/i=16\/i=17\/i=18:=Z0;obtain rfl|rfl|rfl|rfl|rfl|rfl|rfl|rfl|rfl|rfl|rfl|rfl|rfl|rfl|rfl|rfl|rfl|rfl|rfl:=this<;>cases ho
  iterate 6
   focus
    go_wp2;try simp only[QN]
    exact⟨_,rfl,M.out.pure (by unfold XH;omega) rfl rfl⟩
  iterate 7
   focus
    first
    |have A:=M.out.eq 0 (by unfold XH;omega)<|n 0 (by decide)
    |have A:=M.out.eq 2 (by unfold XH;omega)<|n 2 (by decide)
    |have A:=M.out.eq 4 (by unfold XH;omega)<|n 4 (by decide)
    |have A:=M.out.eq 5 (by unfold XH;omega)<|n 5 (by decide)
    |have A:=M.out.eq 7 (by unfold XH;omega)<|n 7 (by decide)
    |have A:=M.out.eq 10 (by unfold XH;omega)<|n 10 (by decide)
    |have A:=M.out.eq 13 (by unfold XH;omega)<|n 13 (by decide)
    simp only[UA]at A;go_wp2;try simp only[QN]
    exact⟨_,by rw[<-A];rfl,M.out.pure (by unfold XH;omega) rfl rfl⟩
  iterate 3
   focus
    first
    |(have A:=M.out.eq 8 (by unfold XH;omega)<|n 8 (by decide);have F:=Ah W (l:=h.H) (G:=G) HH.out.H<|f7.out _ M.out.b 0 (by omega))
    |(have A:=M.out.eq 11 (by unfold XH;omega)<|n 11 (by decide);have F:=Ah W (l:=h.aa) (G:=G) HH.out.aa<|f7.out _ M.out.b 1 (by omega))
    |(have A:=M.out.eq 14 (by unfold XH;omega)<|n 14 (by decide);have F:=Ah W (l:=h.E) (G:=G) HH.out.E<|f7.out _ M.out.b 4 (by omega))
    have HF:=Zf0 F;clear F;simp only[UA]at A;go_wp2_with (go_at_call 43;refine HF.out.mono ?_;rintro e w9 ⟨y,rfl,b7,j0⟩;have b1:=Zf0<|And.intro b7 j0;clear b7 j0)
    try simp only[QN]
    exact⟨_,by rw[<-A];rfl,M.out.call Zey rfl b1.out.1 b1.out.2⟩
  .have A:=M.out.eq 1 (by unfold XH;omega)<|n 1 Zeh;have E0:=Zf0 A;simp only[UA]at A;have e1:=M.out.eq 3 (by unfold XH;omega)<|n 3 Zeh;have E1:=Zf0 e1;simp only[UA]at e1;have e2:=M.out.eq 6 (by unfold XH;omega)<|n 6 Zeh;have E2:=Zf0 e2;simp only[UA]at e2;obtain⟨a9,c9,f9⟩:=Rd.bo<|M.out.rd 9 Zey<|n 9 Zeh;rw[show xq (List.map vu<|Ua h 9)=(xq h.H) from Zfu _]at f9;simp only[Nat.reduceAdd]at f9;have F9:=Zf0 f9;obtain⟨b2,Rr,a0⟩:=Rd.bo<|M.out.rd 12 Zey<|n 12 Zeh;rw[show xq (List.map vu<|Ua h 12)=(xq h.aa) from Zfu _]at a0;simp only[Nat.reduceAdd]at a0;have h8:=Zf0 a0;obtain⟨b3,b5,a1⟩:=Rd.bo<|M.out.rd 15 Zey<|n 15 Zeh;rw[show xq (List.map vu<|Ua h 15)=(xq h.E) from Zfu _]at a1;simp only[Nat.reduceAdd]at a1;have h9:=Zf0 a1;go_wp2;try simp only[QN]
   refine⟨X2 (X2 (X2 (X2 (X2 (X2 (X2 v 17<|UA (xz<|xj w) h Q 1) 19<|UA (xz<|xj w) h Q 3) 22<|UA (xz<|xj w) h Q 6) 25<|.slice a9 (xq h.H) c9) 28<|.slice b2 (xq h.aa) Rr) 31<|.slice b3 (xq h.E) b5) 32<|.agg #[.int .u64 h.base,.int .i64 h.cap,.int .i64<|1-h.to,.bool xw,.int .i64 0,.slice U 0 0,.slice U 0 0,.slice a9 (xq h.H) c9,.slice b2 (xq h.aa) Rr,.slice b3 (xq h.E) b5],rfl,?_⟩;rw[Jq (v:=v) E0.out,Jq (v:=v) E1.out,Jq (v:=v) E2.out,Jq (v:=v) F9.out,Jq (v:=v) h8.out,Jq (v:=v) h9.out];have hx:((.agg #[.int .u64 h.base,.int .i64 h.cap,.int .i64<|1-h.to,.bool xw,.int .i64 0,.slice U 0 0,.slice U 0 0,.slice a9 (xq h.H) c9,.slice b2 (xq h.aa) Rr,.slice b3 (xq h.E) b5]):Value)=.agg (VT h λi=>v<|16+i):=by
    unfold VT;simp only[Nat.reduceAdd];rw[F9.out,h8.out,h9.out]
   rw[hx];exact M.out.built (n 9 Zeh) (n 12 Zeh)<|n 15 Zeh
  .go_wp2;try simp only[QN]
   exact⟨_,rfl,M.out.alloc hi⟩
  .obtain⟨c,e4,d8,j8,O⟩:=M.out.new<|n 17 Zeh;obtain⟨y,f8,hy⟩:=M.out.agg<|n 16 Zeh;have O:=O hi;have y4:∀j,W.cell? ⟨c,j,U⟩=ZI[j]? :=λj=>Zf6 _ _ _ _ _ _ O;unfold ZI at y4;have y5:∀j,W.frozen? ⟨c,j,U⟩=xw:=λj=>Y9 O;have H3:=Zf0 O;have j4:=Zf0 f8;obtain⟨a9,c9,f9⟩:=Rd.bo<|hy 9 Zey;obtain⟨b2,Rr,a0⟩:=Rd.bo<|hy 12 Zey;obtain⟨b3,b5,a1⟩:=Rd.bo<|hy 15 Zey;rw[show xq (List.map vu<|Ua h 9)=(xq h.H) from Zfu _]at f9;rw[show xq (List.map vu<|Ua h 12)=(xq h.aa) from Zfu _]at a0;rw[show xq (List.map vu<|Ua h 15)=(xq h.E) from Zfu _]at a1;have K:VT h y=#[.int .u64 h.base,.int .i64 h.cap,.int .i64<|1-h.to,.bool xw,.int .i64 0,.slice U 0 0,.slice U 0 0,.slice a9 (xq h.H) c9,.slice b2 (xq h.aa) Rr,.slice b3 (xq h.E) b5]:=by
    unfold VT;rw[f9,a0,a1]
   rw[K]at f8;have d5:=Zf0 K;clear O hy f9 a0 a1 K;go_wp2;try simp only[QN]
   exact⟨_,by rw[<-e4,<-f8],M.out.store e4 j4.out (n 17 Zeh) (n 16 Zeh) hi H3.out (λb B=>Va B) ZeE (by rw[d5.out];exact L5 H3.out)<|Wq (Zfg _ _) d8⟩
 .intro L v W hL C;obtain⟨c,y,e4,d8,i2,hy⟩:=C.put<|hL 18 Zeh;have f6:=Zf0 C.b;have HY:=Zf0<|And.intro i2 hy;have j6:=Zf0 c1;have f3:=Zf0<|And.intro (hL 17 Zeh) e4;clear C i2 hy hL c1;simp only[UN,Q7,Zft,Zgq,ZgS,Zit,ZgW,ZhO,ZhP];go_wp2;go_step3
  simp only[Exit.then];rename_i j7;refine j7 _ _<|j6.out _ _ ?_;refine⟨c,0,λj=>if j=2 then y 9 else if j=3 then y 12 else if j=4 then y 15 else .slice U 0 0,rfl,rfl,rfl,f3.out.2,rfl,Zg5 _,?_⟩;have d0:=f6.out.size;have hG:∀b,WS wa W L v b->xz (xj w)+2<=b/\b<xz (xj W)/\b≠c:=λb B=>⟨by have:=B.1;omega,B.2.1,λe=>B.2.2 f3.out.1 (by rw[e];exact f3.out.2)⟩;refine⟨i0.out.trans<|f6.out.mono Z0,(f6.out.block _ Z0).trans j5.out.2,Z0,HY.out.1,λj n=> ?_⟩;have:j=0\/j=1\/j=2\/j=3\/j=4:=Z0;obtain rfl|rfl|rfl|rfl|rfl:=this;exact .nil _ _ Zej;exact .nil _ _ Zej;exact(HY.out.2 9 Zey).mono hG;exact(HY.out.2 12 Zey).mono hG;exact(HY.out.2 15 Zey).mono hG
end Vm
end
section

end
section
namespace Vm
open Go Go.Proofs Go.RowKit
def PH(w:Z3)(G:Z4)(g:∀b,G b->b<xz (xj w))(h:Hp)(k:h.ok)(a:Z5)(l:∀j,j<5->Rd w G (.sl<|(Zu h j).map vu) (a j)):
  Calls xP 26 #[Zx h a] w (TA w<|TL h):=by
 cases d:Yg h with
 |false=>
  rw[show TL h=(Hp.zero,1)by unfold TL;rw[Zfc d]];exact PE w G g h k a l d
 |true=>
  cases f:h.M with
  |true=>
   rw[show TL h=(Hp.zero,10)by unfold TL;rw[Zf7 (by rw[d];simp),Zfc f]];exact PF w G g h k a l d f
  |false=>
   obtain⟨p,r⟩:=Jl.1 d;rw[show TL h=(YF h,0)by unfold TL;rw[Zf7 (by rw[d];simp),Zf7 (by rw[f];simp)]];exact PG w G g h k a l r f
end Vm
end
section
namespace Vm
open Go Go.Proofs
def yK:Fn:=⟨5,[0,1,2,3,6],pQ [pR [(1,pS 0 10),(2,pZ),pV 3<|pI 0],pQ [pC [pK 5 10 [.mm 1 0 10]] [pV 4<|.un .not<|.s 5]]<|pw (.s 4)<|pQ [.ax ⟨[],[([],pY)],[(2,pZ),pV 3<|pI 1]⟩] .ret,pC [pK 6 19 [.mm 1 0 10,pI 9223372036854775807]] [(2,pM (.sz (.ext (.s 6) 0) 10) 10),pV 3<|.ext (.s 6) 1]] .ret,[(2,(.ag 10)),(3,.v)]⟩
def jB:xQ [.fz] Try.f11=J yK:=Z2
def M3:Fn:=⟨6,[0,1,2,4,5,12],pQ [pR [(2,pS 0 10),(3,pZ),pV 4<|pI 0],pQ [.ax ⟨[.lt 6 []<|pl (.s 1)<|pI 0,.call 7 [(6,xw)] (.id 10) xw xw [.mm 2 0 10]],[([(6,xw)],.un .not<|.s 7)],[pV 5<|.ite (.s 6) pT<|.un .not<|.s 7]⟩]<|pw (.s 5)<|pQ [.ax ⟨[],[([],pY)],[(3,pZ),pV 4<|pI 1]⟩] .ret,pC [pK 8 19 [.mm 2 0 10,.s 1]] [(3,pM (.sz (.ext (.s 8) 0) 10) 10),pV 4<|.ext (.s 8) 1]] .ret,[(3,(.ag 10)),(4,.v)]⟩
def c27:xQ [.fz,.fz] Try.f27=J M3:=Z2
def M7:Fn:=⟨3,[0,1,2],pQ [pR [(1,pS 0 10),(2,pZ)],pC [pK 3 54 [.m 1 5],pK 4 54 [.m 1 6]] [(1,.m [.m 1 0,.m 1 1,.m 1 2,.m 1 3,.m 1 4,.one<|.s 3,.one<|.s 4,.m 1 7,.m 1 8,.m 1 9])],pC [pK 5 54 [.m 1 7],pK 6 54 [.m 1 8]] [(1,.m [.m 1 0,.m 1 1,.m 1 2,.m 1 3,.m 1 4,.m 1 5,.m 1 6,.one<|.s 5,.one<|.s 6,.m 1 9])],pC [pK 7 54 [.m 1 9]] [(1,.m [.m 1 0,.m 1 1,.m 1 2,.m 1 3,.m 1 4,.m 1 5,.m 1 6,.m 1 7,.m 1 8,.one<|.s 7])]]<|px [(2,pM (.mm 1 0 10) 10)],[(2,(.ag 10))]⟩
def c32:xQ [.fz] Try.f32=J M7:=Z2
end Vm
end
section
namespace Vm
open Go Go.Proofs Go.RowKit
def JC{l:Z9}(n:I l<=1000000):VC xP 54 xw [.sl<|l.map vu]<|.sl<|l.map vu:=by
 refine⟨Z2,λw G vs h f g=> ?_⟩;have r0:=g 0 _ rfl;have j:vs=#[vs.getD 0 xy]:=by
  have a:vs.size=1:=f;apply Zhq;simp[a];intro i p q;have k:i<1:=Z0
  match i,k with
  |0,_=>simp[Array.getD,a]
 rw[j];refine(Py w h n r0).mono ?_;rintro e r ⟨v,rfl,d,o⟩;exact⟨v,rfl,d,o.mono λb d=>.inr d⟩
def Z5Z{h:Hp}(a:h.ok):VC xP 32 xw [ZD h]<|ZD h:=by
 refine Y4 E7 follows Z2 c32 rfl ?_;have d:=JC a.H;have f:=JC a.aa;have g:=JC a.an;have j:=JC a.am;have k:=JC a.E;simp[M7,ZD];refine ZC d Z1 ?_;simp;refine ZC f Z1 ?_;simp;refine ZC g Z1 ?_;simp;refine ZC j Z1 ?_;simp;refine ZC k Z1 ?_;simp
def Z5X(w:Z3)(G:Z4)(k:∀b,G b->b<xz (xj w))(h:Hp)(l:h.ok)(a:Z5)(p:∀j,j<5->Rd w G (.sl<|(Zu h j).map vu) (a j)):
  Calls xP 32 #[Zx h a] w λe f=>∃x,e=.returned (Zx h x)/\Below (xz<|xj w) w f/\∀j,j<5->Rd f (λc=>G c\/(xz (xj w)<=c/\c<xz (xj f))) (.sl<|(Zu h j).map vu) (x j):=by
 refine((Z5Z l).2 w G #[Zx h a] k rfl λi x d=> ?_).mono ?_
 match i,d with
 |0,d=>cases d;exact RJ p
 rintro e f ⟨v,rfl,g,o⟩;obtain⟨x,rfl,d⟩:=zI o;exact⟨x,rfl,g,λj n=>(d j n).mono λb g=>g.imp (λq=>q.2) id⟩
end Vm
end
section
namespace Vm
open Go Go.Proofs
def Tv{h:Hp}(hc:h.M=xw):∀k,ZU h k=h
 |0=>rfl
 |k+1=>by unfold ZU;rw[hc];simp
def R4(h:Hp):∀k,ZU h (k+1)=if(ZU h k).M then Ws (ZU h k)else ZU h k
 |0=>by unfold ZU;cases a:h.M<;>simp[ZU,a]
 |k+1=>by
  cases a:h.M with
  |false=>rw[Tv a,Tv a,a];simp
  |true=>
   have e:∀j,ZU h (j+1)=ZU (Ws h) j:=λj=>by rw[ZU.eq_2,a];simp
   rw[e<|k+1,e k];exact R4 (Ws h) k
def qu(h:Hp)(a:Nat):∀b,ZU h (a+b)=ZU (ZU h a) b
 |0=>rfl
 |b+1=>by rw[<-Zg3,R4,R4,qu h a b]
structure ScansTo (h:Hp) (p:Pts) (k:Nat) (g:Hp) (q:Pts):Prop where
 rt:Rt g q
 len:I h.H<=I g.H
 keep:∀j:Nat,(j:Int)<h.Y->g.H[j]?=h.H[j]?
 aa:g.aa=h.aa
 E:g.E=h.E
 num:g.base=h.base/\g.cap=h.cap/\g.to=h.to
 Y:h.Y<=g.Y/\g.Y<=h.Y+k
 ib:∃r,q.H=p.H++r
 ia:q.aa=p.aa
 kz:g.M=xk->h.M=xk/\g.Y=h.Y+k/\(I g.H:Int)+Yh q=I h.H+Yh p
 oy:(I g.H:Int)<=I h.H+Yh p
 whole:g.M=xw->h.M=xk->g.Y=I g.H
def Rt.da{h:Hp}{p:Pts}(r:Rt h p):∀k,∃q,ScansTo h p k (ZU h k) q
 |0=>⟨p,r,Zf3 _,λ_ _=>rfl,rfl,rfl,⟨rfl,rfl,rfl⟩,⟨by show h.Y<=h.Y;omega,by show h.Y<=h.Y+((0:Nat):Int);omega⟩,⟨[],Z1⟩,rfl,λa=>⟨a,by show h.Y=h.Y+((0:Nat):Int);omega,rfl⟩,by show(I h.H:Int)<=_;omega,λa l=>(by rw[show ZU h 0=h from rfl,l]at a;cases a)⟩
 |k+1=>by
  obtain⟨q,s⟩:=r.da k;rw[R4];generalize ZU h k=g at*;have o:=s.Y.1;have y:=s.Y.2;cases a:g.M with
  |false=>
   simp only[Zfk,ZfV];exact⟨q,s.rt,s.len,s.keep,s.aa,s.E,s.num,⟨o,Z0⟩,s.ib,s.ia,λh=>(by rw[a]at h;cases h),s.oy,λ_ h=>s.whole a h⟩
  |true=>
   simp only[ZfT];obtain⟨H,D,f⟩:=s.rt.Y a;obtain⟨t,c2,c3⟩:=s.kz a;rw[f.eq];obtain⟨L,z,n⟩:=f.H;obtain⟨F,u⟩:=s.ib;obtain⟨G,w⟩:=f.ib;obtain⟨A,B,C,K⟩:=f.num;refine⟨D,f.rt,by have:=s.len;omega,λj x=>(n j Z0).trans<|s.keep j x,f.aa.trans s.aa,f.E.trans s.E,⟨A.trans s.num.1,B.trans s.num.2.1,C.trans s.num.2.2⟩,⟨Z0,Z0⟩,⟨F++G,by rw[w,u,Zg1]⟩,f.ia.trans s.ia,λd=>⟨t,Z0,by have:=f.room d;omega⟩,by have:=f.oy;omega,λd _=>(f.rt.rest d).1⟩
def Z88{h:Hp}{p:Pts}(a:h.ok)(r:Rt h p)(hc:h.M=xk):(Ws h).ok:=by
 have t:=r.mg;obtain⟨i,o⟩:=Zfd r.ei;have l:i<I h.H:=by have:=r.kz hc;omega
 obtain⟨u,q⟩:∃u,h.H[i]?=J u:=⟨_,ZeX l⟩;have y:=a.H;have n:∀g:Hp,g.ok->(YP g).ok:=λg d=>by
  unfold YP;split;exact⟨d.base,d.cap,d.to,d.Y,d.H,d.aa,Z1,Z1,d.E,d.ft,d.gc,Z1,Z1,d.db⟩;exact d
 have k:YI<|h.Y+1:=⟨Z0,Z0⟩;unfold Ws;rw[o,Zfl,q,Zfv];rw[o]at k;have f:=zB a<|a.ft u<|Zf5 q;split;refine n _ ?_;obtain⟨f,x⟩:=f
 exact⟨f.base,f.cap,f.to,k,by simp;exact f.H,f.aa,f.an,f.am,f.E,λw t=>by
  obtain j|j:=Zgm t;exact f.ft w j;rw[j];exact x,f.gc,f.ko,f.kf,f.db⟩
 exact n _ ⟨a.base,a.cap,a.to,k,a.H,a.aa,a.an,a.am,a.E,a.ft,a.gc,a.ko,a.kf,a.db⟩
def R3{h:Hp}{p:Pts}(a:h.ok)(r:Rt h p):∀k,(ZU h k).ok
 |0=>a
 |k+1=>by
  obtain⟨q,s⟩:=r.da k;have:=R3 a r k;rw[R4];generalize ZU h k=g at*;cases d:g.M with
  |false=>simpa using this
  |true=>simpa using Z88 this s.rt d
end Vm
end
section
namespace Vm
open Go Go.Proofs Go.RowKit Go.Shelf
section
attribute [local go_sem] Oper.semAt_some
def Z9C{n P c Q a w}(h:c.wpIn Fence.wide n P (Exit.noGoto Q) a w):(Code.scope c).wpIn Fence.wide n P Q a w:=
 wpIn_wide.2 (wp_scope_straight<|wpIn_wide.1 h)
def Z75{W W'}{B:Z4}{b r}{l:Z9}{y}(h:Rd W (λc=>B c/\c<xz (xj W)/\c≠b) (.sl<|l.map vu) y)(d:W.grownBy W'<|J r)(f:¬B r):
  Rd W' (λc=>B c/\c<xz (xj W')/\c≠b) (.sl<|l.map vu) y:=
 (h.keep (λc a=>d.block c a.2.1 λe=>Ze3) λc a=>a).mono λc a=>⟨a.1,Zf4 a.2.1 d.size,a.2.2⟩
theorem NowI.kept{B W W' b r g x}(S:NowI B W b g x)(a:W.grownBy W'<|J r)(d:¬B r):NowI B W' b g x:=
 ⟨S.le,(a.block b (ZV S.nb) λe=>by cases e;exact d S.le).trans S.nb,λj f=>Z75 (S.rd j f) a d⟩
def Jz:Array Value:=#[.int .u64 0,.int .i64 0,.int .i64 0,.bool xw,.int .i64 0,.slice U 0 0,.slice U 0 0,.slice U 0 0,.slice U 0 0,.slice U 0 0]
structure ScI (B:Nat->Prop) (w:World) (b:Nat) (h:Hp) (k done:Nat) (W:World):Prop where
 df:∃x,NowI B W b (ZU h done) x
 le:done<=k
 kb:W.heap[xz (xj w)+1]?=J (.cells #[.int .i64<|(k:Int) - (done:Nat)] 3 (0,0))
 r0:W.heap[xz (xj w)+2]?=J (.cells Jz 27 (0,0))
 r1:W.heap[xz (xj w)+3]?=J (.cells #[.int .i64 0] 28 (0,0))
 fn:W.heap[b+1]?=J (.cells #[.func (.func 33) #[] #[.pointer<|J ⟨b,0,U⟩]] 99 (0,0))
 gr:w.grownBy W U
def ScI.dv{B w b h k done W W' row}(S:ScI B w b h k done W)(a:W.grownBy W' row)(j:∀r,row=J r->xz (xj w)<=r/\∃o,W.heap[r]?=J o/\o.isCells=xw):ScI B w b h k done W':=by
 let⟨x,n⟩:=S.df
 have q:∀c (o:Obj),W.heap[c]?=J o->o.isCells=xk->W'.heap[c]?=J o:=λc o d l=>(a.block c Ze2 λe=>by
  let⟨_,p,f,g⟩:=j c e.symm;rw[d]at f;cases f;rw[l]at g;cases g).trans d
 exact⟨⟨x,n.dv a λr e=>(j r e).2⟩,S.le,q _ _ S.kb rfl,q _ _ S.r0 rfl,q _ _ S.r1 rfl,q _ _ S.fn rfl,UG S.gr a λr e=>Ze3⟩
def Z4a(W:Z3)(b:Nat):Calls xP 35 #[.pointer<|J ⟨b,0,U⟩] W λe d=>e=.returned (.func (.func 60) #[] #[.pointer<|J ⟨xz<|xj W,0,U⟩])/\d=W.alloc (.cells #[.pointer<|J ⟨b,0,U⟩] 103):=by
 have a:∀(fn:Go.Fn) (first cap:Za) (w:Z3),(Instr.makeFunc fn first cap).run xP w=.ok (.func fn first cap) w:=λ_ _ _ _=>rfl;go_enter E9,Try.ntmps35;go_wp2;exact ZfA (v:=.func (.func 60) #[] #[.pointer<|J ⟨xz<|xj W,0,U⟩]) (by simp[results,Try.results35,go_sem]) rfl ⟨rfl,rfl⟩
def Z2r(w:Z3)d a f g:∃W,(((w.alloc d).alloc a).alloc f).alloc g=W/\xz (xj W)=xz (xj w)+4/\w.grownBy W U/\W.heap[xz (xj w)+1]?=J a/\W.heap[xz (xj w)+2]?=J f/\W.heap[xz (xj w)+3]?=J g:=by
 refine⟨_,rfl,Z1,⟨rfl,rfl,rfl,Ze4,λk h _=> ?_⟩,?_,?_,?_⟩;rw[Zfa _ _ _ Ze4,Zfa _ _ _ Ze4,Zfa _ _ _ Ze4,Zfa _ _ _ h];rw[Zfa _ _ _ Z1,Zfa _ _ _ Z1];have:=Zg8 (w.alloc d) a;rwa[ZgY]at this;rw[Zfa _ _ _ Z1];have:=Zg8 ((w.alloc d).alloc a) f;simpa using this;have:=Zg8 (((w.alloc d).alloc a).alloc f) g;simpa using this
def Z8c{w w0 w1:Z3}{G:Z4}(u:∀b,G b->b<xz (xj w)){h:Hp}(A:h.ok){p:Pts}(r:Rt h p){k:Nat}{d:Z5}(H:xz (xj w0)=xz (xj w)+4)(n:w.grownBy w0 U)
  (k1:w0.heap[xz (xj w)+1]?=J (.cells #[.int .i64 k] 3 (0,0))) (K:w0.heap[xz (xj w)+2]?=J (.cells Jz 27 (0,0))) (L:w0.heap[xz (xj w)+3]?=J (.cells #[.int .i64 0] 28 (0,0)))
  (l:Below (xz<|xj w0) w0 w1) (hx:∀j,j<5->Rd w1 (λc=>G c\/(xz (xj w0)<=c/\c<xz (xj w1))) (.sl<|(Zu h j).map vu) (d j)):
  ∃w3,((w1.alloc<|.cells (Ye h d) 27).alloc<|.cells #[.func (.func 33) #[] #[.pointer<|J ⟨xz<|xj w1,0,U⟩]] 99).alloc (.cells #[.pointer<|J ⟨xz<|xj w1,0,U⟩] 103)=w3/\
   xz (xj w3)=xz (xj w1)+3/\xz (xj w0)<=xz (xj w1)/\ScI (λc=>G c\/xz (xj w)+4<=c) w (xz<|xj w1) h k 0 w3/\KnI (λc=>G c\/xz (xj w)+4<=c) (xz<|xj w1) (xz (xj w1)+2) p w3:=by
 refine⟨_,rfl,Z1,l.size,?_⟩;have g:∀c,c<xz (xj w1)->(((w1.alloc<|.cells (Ye h d) 27).alloc<|.cells #[.func (.func 33) #[] #[.pointer<|J ⟨xz<|xj w1,0,U⟩]] 99).alloc<|.cells #[.pointer<|J ⟨xz<|xj w1,0,U⟩] 103).heap[c]?=w1.heap[c]? :=λc a=>by
  rw[Zfa _ _ _ Ze4,Zfa _ _ _ Ze4,Zfa _ _ _ a]
 have F:xz (xj<|((w1.alloc<|.cells (Ye h d) 27).alloc<|.cells #[.func (.func 33) #[] #[.pointer<|J ⟨xz<|xj w1,0,U⟩]] 99).alloc<|.cells #[.pointer<|J ⟨xz<|xj w1,0,U⟩] 103)=xz (xj w1)+3:=Z1;have x:(((w1.alloc<|.cells (Ye h d) 27).alloc<|.cells #[.func (.func 33) #[] #[.pointer<|J ⟨xz<|xj w1,0,U⟩]] 99).alloc<|.cells #[.pointer<|J ⟨xz<|xj w1,0,U⟩] 103).heap[xz<|xj w1]?=J (.cells (Ye h d) 27 (0,0)):=by
  rw[Zfa _ _ _ Ze4,Zfa _ _ _ Z1];exact Zg8 _ _
 have y:(((w1.alloc<|.cells (Ye h d) 27).alloc<|.cells #[.func (.func 33) #[] #[.pointer<|J ⟨xz<|xj w1,0,U⟩]] 99).alloc<|.cells #[.pointer<|J ⟨xz<|xj w1,0,U⟩] 103).heap[xz (xj w1)+1]?=J (.cells #[.func (.func 33) #[] #[.pointer<|J ⟨xz<|xj w1,0,U⟩]] 99 (0,0)):=by
  rw[Zfa _ _ _ Z1];have:=Zg8 (w1.alloc<|.cells (Ye h d) 27)<|.cells #[.func (.func 33) #[] #[.pointer<|J ⟨xz<|xj w1,0,U⟩]] 99;rwa[ZgY]at this
 have z:(((w1.alloc<|.cells (Ye h d) 27).alloc<|.cells #[.func (.func 33) #[] #[.pointer<|J ⟨xz<|xj w1,0,U⟩]] 99).alloc<|.cells #[.pointer<|J ⟨xz<|xj w1,0,U⟩] 103).heap[xz (xj w1)+2]?=J (.cells #[.pointer<|J ⟨xz<|xj w1,0,U⟩] 103 (0,0)):=by
  have:=Zg8 ((w1.alloc<|.cells (Ye h d) 27).alloc<|.cells #[.func (.func 33) #[] #[.pointer<|J ⟨xz<|xj w1,0,U⟩]] 99)<|.cells #[.pointer<|J ⟨xz<|xj w1,0,U⟩] 103;simpa using this
 have D:=l.size;have t:w1.grownBy (((w1.alloc<|.cells (Ye h d) 27).alloc<|.cells #[.func (.func 33) #[] #[.pointer<|J ⟨xz<|xj w1,0,U⟩]] 99).alloc<|.cells #[.pointer<|J ⟨xz<|xj w1,0,U⟩] 103) U:=⟨rfl,rfl,rfl,Z0,λc a _=>g c a⟩;generalize ((w1.alloc<|.cells (Ye h d) 27).alloc<|.cells #[.func (.func 33) #[] #[.pointer<|J ⟨xz<|xj w1,0,U⟩]] 99).alloc (.cells #[.pointer<|J ⟨xz<|xj w1,0,U⟩] 103)=w3 at*;have f:NowI (λc=>G c\/xz (xj w)+4<=c) w3 (xz<|xj w1) h d:=by
  refine⟨.inr Z0,x,λj B=>((hx j B).keep (λc a=>g c ?_) λc a=>a).mono λc a=> ?_⟩;obtain a|a:=a;have:=u c a;omega;exact a.2;obtain a|a:=a;have:=u c a;exact⟨.inl a,Z0,Z0⟩;exact⟨.inr Z0,Z0,Z0⟩
 have q:∀c o,w0.heap[c]?=J o->w3.heap[c]?=J o:=λc o a=>by
  have C:=ZV a;rw[g c Z0,l.block c C];exact a
 exact⟨⟨⟨d,f⟩,Zg5 _,by rw[q _ _ k1];simp,q _ _ K,q _ _ L,y,TN n<|TN (UF l U) t⟩,z,h,d,f,A,r⟩
def ScI.step{B w b h p q k done W W'}(z:h.ok)(r:Rt h p)(S:ScI B w b h k done W)(A:Rt (ZU h done) q)(hc:(ZU h done).M=xk)(G:¬B (xz (xj w)+1))(Q:xz (xj w)+4<=b)(R:done<k)(a:W.grownBy W'<|J b)(H:∃x,NowI B W' b (Ws<|ZU h done) x):
  ScI B w b h k (done+1) (W'.setCell ⟨xz (xj w)+1,0,U⟩<|.int .i64<|k-done-1)/\KpN B b (xz (xj w)+1) W (W'.setCell ⟨xz (xj w)+1,0,U⟩<|.int .i64<|k-done-1)/\
   W.grownBy W' (J b)/\W'.grownBy (W'.setCell ⟨xz (xj w)+1,0,U⟩<|.int .i64<|k-done-1) (J<|xz (xj w)+1):=by
 have d:=Zhj W' (xz (xj w)+1)<|.int .i64<|k-done-1;let⟨x,K⟩:=H;have u:=K.kept d G;have C:ZU h (done+1)=Ws (ZU h done):=by rw[R4,hc];simp
 have l:∀c o,W.heap[c]?=J o->c≠b->c≠xz (xj w)+1->(W'.setCell ⟨xz (xj w)+1,0,U⟩<|.int .i64<|k-done-1).heap[c]?=J o:=λc o D P F=>
  (Zff _ _ _ _ F).trans ((a.block c Ze2 Ze3).trans D)
 have j:=(a.block _ (ZV S.kb) Ze2).trans S.kb;refine⟨⟨Ze2,Z0,?_,l _ _ S.r0 Z0 Z0,l _ _ S.r1 Z0 Z0,l _ _ S.fn Z0 Z0,?_⟩,⟨Zfw a.size d.size,Ze3,λT n=> ?_⟩,a,d⟩
 .have:k- ((done+1:Nat):Int)=k-done-1:=Z0;rw[this];simp[World.setCell,Zfy,j]
 exact UG (UG S.gr a λr e=>.inr (by cases e;omega)) d λr e=>.inr (by cases e;omega)
 .let⟨y,L⟩:=S.df;have g:InBox B b q W:=⟨_,y,L,R3 z r done,A⟩;let⟨O,M,f⟩:=A.Y hc;let⟨N,t⟩:=f.ib;refine⟨M,N,⟨_,x,u,?_,?_⟩,?_⟩
  .have:=R3 z r<|done+1;rwa[C]at this
  rw[f.eq];exact f.rt;rw[t,g.H n]
def jg(w:Z3)(G:Z4)(g:Hp)(e:Ending)(w':Z3):Prop:=∃x,e=.returned (.tuple #[Zx g x,.int .i64 0])/\Below (xz<|xj w) w w'/\∀j,j<5->Rd w' (λc=>G c\/(xz (xj w)<=c/\c<xz (xj w'))) (.sl<|(Zu g j).map vu) (x j)
def Z8a{B G:Z4}{w:Z3}{b:Nat}{h g:Hp}{k done:Nat}{W W8:Z3}{y:Z5}{D:Nat}(S:ScI B w b h k done W)(O:ZU h done=g)(M:done=k\/(ZU h done).M=xw)(hn:NowI B W b g y)(hB:B=λc=>G c\/xz (xj w)+4<=c)(hG:∀c,G c->c<xz (xj w))
  (hD:xz (xj w)+4<=D) (A:W.heap[D]?=J (.deferred<|J [])) (X:Below (xz<|xj w) W W8) (Y:xz (xj W8)=xz (xj W)) (F:∀c,c≠xz (xj w)+1+1->W8.heap[c]?=W.heap[c]?) (h8:W8.heap[xz (xj w)+1+1]?=J (.cells (Ye g y) 27 (0,0))):
  (W8.setCell ⟨xz (xj w)+1+1+1,0,U⟩<|.int .i64 0).heap[D]?=J (.deferred<|J [])/\(∀j,((W8.setCell ⟨xz (xj w)+1+1+1,0,U⟩<|.int .i64 0).putObj D<|.deferred U).cell? ⟨xz (xj w)+1+1,j,U⟩=(Ye g y)[j]?)/\((W8.setCell ⟨xz (xj w)+1+1+1,0,U⟩<|.int .i64 0).putObj D<|.deferred U).cell? ⟨xz (xj w)+1+1+1,0,U⟩=J (.int .i64 0)/\
   jg w G (ZU h k) (.returned<|.tuple #[Zx g y,.int .i64 0]) ((W8.setCell ⟨xz (xj w)+1+1+1,0,U⟩<|.int .i64 0).putObj D<|.deferred U):=by
 have p:=Zhj W8 (xz (xj w)+1+1+1)<|.int .i64 0;have C:=S.r1;have e1:(W8.setCell ⟨xz (xj w)+1+1+1,0,U⟩<|.int .i64 0).heap[xz (xj w)+1+1+1]?=J (.cells #[.int .i64 0] 28 (0,0)):=
  Boxed.set _ (show Boxed W8 (xz (xj w)+1+1+1) 28 (.int .i64 0)from(F _ Z0).trans C)
 have e0:(W8.setCell ⟨xz (xj w)+1+1+1,0,U⟩<|.int .i64 0).heap[xz (xj w)+1+1]?=J (.cells (Ye g y) 27 (0,0)):=(Zff _ _ _ _ (by show xz (xj w)+1+1≠xz (xj w)+1+1+1;omega)).trans h8;have x:∀c,c≠xz (xj w)+1+1->c≠xz (xj w)+1+1+1->(W8.setCell ⟨xz (xj w)+1+1+1,0,U⟩<|.int .i64 0).heap[c]?=W.heap[c]? :=λc z T=>(Zff _ _ _ _ T).trans<|F c z;have a3:xz (xj<|W8.setCell ⟨xz (xj w)+1+1+1,0,U⟩<|.int .i64 0)=xz (xj W):=by rw[<-Y];simp[World.setCell]
 have R:Below (xz<|xj w) W<|W8.setCell ⟨xz (xj w)+1+1+1,0,U⟩<|.int .i64 0:=X.trans ⟨p.os,p.tape,p.output,p.size,λc f=>p.block c (by have:=ZV C;omega) (λe=>by cases e;omega)⟩;generalize W8.setCell ⟨xz (xj w)+1+1+1,0,U⟩ (.int .i64 0)=t at*;have Z:t.heap[D]?=J (.deferred<|J []):=(x D Z0 Z0).trans A;have a4:=S.gr.size;have a2:=ZV C;have f0:(t.putObj D<|.deferred U).heap[xz (xj w)+1+1]?=J (.cells (Ye g y) 27 (0,0)):=(ZfE Z0).trans e0;have f1:(t.putObj D<|.deferred U).heap[xz (xj w)+1+1+1]?=J (.cells #[.int .i64 0] 28 (0,0)):=(ZfE Z0).trans e1;have N:=ZhJ t D<|.deferred U;have heq:ZU h k=g:=by
  obtain e|e:=M;rw[<-e,O]
  .obtain⟨d,hd⟩:∃d,k=done+d:=⟨k-done,by have:=S.le;omega⟩;rw[hd,qu,Tv e,O]
 have P:∀c,c≠xz (xj w)+1+1->c≠xz (xj w)+1+1+1->c≠D->(t.putObj D<|.deferred U).heap[c]?=W.heap[c]? :=λc z T h3=>(ZfE Z0).trans<|x c z T;refine⟨Z,λj=>Zf6 _ _ j _ _ _ f0,by rw[Zf6 _ _ _ _ _ _ f1];rfl,y,by rw[heq],⟨?_,?_,?_,?_,λc f=> ?_⟩,λj hj=> ?_⟩;rw[N.os,R.os];exact S.gr.os;rw[N.tape,R.tape];exact S.gr.tape;rw[N.output,R.output];exact S.gr.output;have:=N.size;omega;rw[P c Z0 Z0 Z0];exact S.gr.block c f Z1;rw[heq];have z:=hn.rd j hj;have hW:xz (xj W)<=xz (xj<|t.putObj D<|.deferred U):=by have:=N.size;omega
 generalize hL:(Zu g j).map vu=L at z⊢;generalize y j=yj at z⊢;cases z with
 |nil a cap f=>exact .nil a cap f
 |sl _ d o cap Q vs q1 q2 q3 q4 q5 q6=>
  have r:G d\/xz (xj w)+4<=d:=by have:=q3.1;rw[hB]at this;exact this
  have H:G d->d<xz (xj w):=hG d;have l:∀i c,(flat L)[i]?=J c->Rd (t.putObj D<|.deferred U) (λc=>G c\/(xz (xj w)<=c/\c< xz (xj<|t.putObj D<|.deferred U))) c (vs i):=λi c f=>by
   have h7:=q6 i c f;rw[<-hL,zp,Zfo]at f;cases hu:(Zu g j)[i]? with
   |none=>rw[hu]at f;cases f
   |some u=>
    rw[hu]at f;cases f;rw[Tt h7];exact .int _ _
  by_cases K:d=D;subst K;have a0:I L*Q=0:=by
   cases a1:I L*Q with
   |zero=>rfl
   |succ n=>
    have:=q5 0 Z0;unfold World.cell? at this;rw[A]at this;cases this
  refine .sl _ d o cap Q vs q1 q2 ?_ q4 (λi hi=>Z0) l;obtain q|q:=r;exact .inl q;exact .inr ⟨Z0,by have:=ZV A;omega⟩;refine .sl _ d o cap Q vs q1 q2 ?_ q4 (λi hi=> ?_) l;obtain q|q:=r;exact .inl q;exact .inr ⟨Z0,by have:=q3.2.1;omega⟩;rw[<-q5 i hi];refine ZfR (a:=⟨d,o+i,U⟩)<|P d ?_ ?_ K;obtain q|q:=r;have:=H q;omega;omega;obtain q|q:=r;have:=H q;omega;omega
def NO{B G:Z4}{w:Z3}{b:Nat}{h g:Hp}{k done:Nat}{W:Z3}{y:Z5}{D:Nat}(S:ScI B w b h k done W)(f:ZU h done=g)(a:done=k\/(ZU h done).M=xw)(q:NowI B W b g y)(l:B=λc=>G c\/xz (xj w)+4<=c)(o:∀c,G c->c<xz (xj w))
  (n:xz (xj w)+4<=D) (d:W.heap[D]?=J (.deferred<|J [])):
  ((Rh W (xz (xj w)+1+1) g y).setCell ⟨xz (xj w)+1+1+1,0,U⟩<|.int .i64 0).heap[D]?=J (.deferred<|J [])/\(∀j,(((Rh W (xz (xj w)+1+1) g y).setCell ⟨xz (xj w)+1+1+1,0,U⟩<|.int .i64 0).putObj D<|.deferred U).cell? ⟨xz (xj w)+1+1,j,U⟩=(Ye g y)[j]?)/\(((Rh W (xz (xj w)+1+1) g y).setCell ⟨xz (xj w)+1+1+1,0,U⟩<|.int .i64 0).putObj D<|.deferred U).cell? ⟨xz (xj w)+1+1+1,0,U⟩=J (.int .i64 0)/\
    jg w G (ZU h k) (.returned<|.tuple #[Zx g y,.int .i64 0]) (((Rh W (xz (xj w)+1+1) g y).setCell ⟨xz (xj w)+1+1+1,0,U⟩<|.int .i64 0).putObj D<|.deferred U):=by
 exact Z8a (W8:=Rh W (xz (xj w)+1+1) g y) S f a q l o n d (Wq (Zfg (xz<|xj w) W) Z0) ZeE (λc p=>Va p)<|L5 S.r0
def Z8d(w:Z3)(G:Z4)(hG:∀b,G b->b<xz (xj w))(h:Hp)(hh:h.ok)(a:Z5)(hs:∀j,j<5->Rd w G (.sl<|(Zu h j).map vu) (a j)){p:Pts}(r:Rt h p){k:Nat}(hk:(k:Int)<9223372036854775808):
  Calls xP 19 #[Zx h a,.int .i64 k] w (jg w G<|ZU h k):=by
 refine(Zh2 (n:=5)).1 ?_;have i7:∀(fn:Go.Fn) (first cap:Za) (w:Z3),(Instr.makeFunc fn first cap).run xP w=.ok (.func fn first cap) w:=λ_ _ _ _=>rfl;refine callsIn_of_wp_marks Z00 rfl trivial ?_ rfl;simp only[Try.ntmps19,Zgs,Zgd,Zg2,Nat.reduceAdd,Nat.reduceSub,ZgM,ZgN,Zhe,ZgR,ZfW,Zgc];have HO:=λW (hb:Below (xz<|xj w) w W)=>Z5X W G (λb q=>Zf4 (hG b q) hb.size) h hh a λj hj=>(hs j hj).keep (λb g6=>hb.block b<|hG b g6) λ_ q=>q;have b3:=Zf0 HO;clear HO;unfold Zx;gi_wp2
 refine Z9C ?_;gi_wp2
 refine⟨trivial,(Zh2.2<|b3.out _<|((((Zfg _ _).alloc (Zf3 _) _).alloc Z1 _).alloc Ze4 _).alloc Ze4 _).mono ?_⟩;rintro e w1 ⟨x1,rfl,b9,F⟩;obtain⟨a0,c0,e0⟩:=Rd.bo<|F 0 Z0;obtain⟨a1,c1,e1⟩:=Rd.bo<|F 1 Z0;obtain⟨a2,c2,e2⟩:=Rd.bo<|F 2 Z0;obtain⟨a3,c3,e3⟩:=Rd.bo<|F 3 Z0;obtain⟨a4,c4,e4⟩:=Rd.bo<|F 4 Z0;have b1:=Zf0<|And.intro b9 F;clear b9 F;unfold Zx;gi_wp2
 refine wpIn_label ?_;gi_wp2
 refine⟨trivial,(Zh2.2<|Z4a _ _).mono ?_⟩;rintro e w3 ⟨rfl,e6⟩;obtain⟨w0,a9,h7,g8,k1,R,T⟩:=Z2r w (.cells #[.int .u64 h.base,.int .i64 h.cap,.int .i64 h.to,.bool h.M,.int .i64 h.Y,a 0,a 1,a 2,a 3,a 4] 27) (.cells #[.int .i64 k] 3) (.cells Jz 27)<|.cells #[.int .i64 0] 28;have hC:Ye h x1=#[.int .u64 h.base,.int .i64 h.cap,.int .i64 h.to,.bool h.M,.int .i64 h.Y,.slice a0 (I<|Zu h 0) c0,.slice a1 (I<|Zu h 1) c1,.slice a2 (I<|Zu h 2) c2,.slice a3 (I<|Zu h 3) c3,.slice a4 (I<|Zu h 4) c4]:=by
  simp only[Ye,e0,e1,e2,e3,e4,Zfu]
 have N:=b1.out;unfold Jz at a9;rw[a9]at N;obtain⟨j0,L,h8,i8,b8,b7⟩:=Z8c hG hh r h7 g8 k1 R T N.1 N.2;rw[hC]at L;rw[L]at e6;subst e6;clear b1 N L hC e0 e1 e2 e3 e4 a9 k1 R T b3;simp only[ZgY];gi_wp2
 have g7:xz (xj w)+4<=xz (xj w1):=Z0;have b5:¬(G (xz (xj w)+1)\/xz (xj w)+4<=xz (xj w)+1):=λh=>by
  obtain h|h:=h;have:=hG _ h;omega;omega
 generalize i5:xz (xj w1)=b at*;obtain⟨B,hB⟩:∃B:Z4,B=λc=>G c\/xz (xj w)+4<=c:=⟨_,rfl⟩;rw[<-hB]at b8 b7;have b6:¬B (xz (xj w)+1):=by rw[hB];exact b5
 have f9:∀c,xz (xj w)+4<=c->B c:=λc hc=>by rw[hB];exact .inr hc
 have b2:=Zf0 hB;clear hB b5;have d9:=Z49 4 (B:=B) (b:=b) (bk:=b+2) (kb:=xz (xj w)+1) b7 Z0 Z0 Z0 Z0
 refine Z9B rfl Z0 (gf:=60) (lb:=#[.pointer<|J ⟨b+2,0,U⟩]) ?hg trivial (enters_of Ek Z2 rfl)
  d9 KpN.trans (λW l o o' _ h2 h3 _=>KpN.put o' h2 h3) (Zfg _ _) (λ_=>rfl)
  (λpre W=>∃done,ScI B w b h k done W/\(I pre:Int)<=(ZU h done).Y)
  (λc pre W=>c=.exit 0/\∃done,ScI B w b h k done W/\(done=k\/(ZU h done).M=xw))
  ?hI (λ_ _ _=>trivial) ?hIx ?hPx ?hS ⟨0,b8,by have:=r.ei;show((0:Nat):Int)<=h.Y;omega⟩
  (fun x=> {tmps:=#[.agg #[.int .u64 h.base,.int .i64 h.cap,.int .i64 h.to,.bool h.M,.int .i64 h.Y,a 0,a 1,a 2,a 3,a 4],.int .i64 k,.pointer<|J ⟨xz<|xj w,0,U⟩,.pointer<|J ⟨xz (xj w)+1,0,U⟩,.pointer<|J ⟨xz (xj w)+1+1,0,U⟩,.pointer<|J ⟨xz (xj w)+1+1+1,0,U⟩,.pointer<|J ⟨b,0,U⟩,.pointer<|J ⟨b+1,0,U⟩,.int .i64 (x.1:Nat),.bool x.2,xy,
    .agg #[.int .u64 h.base,.int .i64 h.cap,.int .i64 h.to,.bool h.M,.int .i64 h.Y,a 0,a 1,a 2,a 3,a 4],.agg #[.int .u64 h.base,.int .i64 h.cap,.int .i64 h.to,.bool h.M,.int .i64 h.Y,.slice a0 (I<|Zu h 0) c0,.slice a1 (I<|Zu h 1) c1,.slice a2 (I<|Zu h 2) c2,.slice a3 (I<|Zu h 3) c3,.slice a4 (I<|Zu h 4) c4],
    .func (.func 33) #[] #[.pointer<|J ⟨b,0,U⟩],.func (.func 60) #[] #[.pointer<|J ⟨b+2,0,U⟩],.int .i64 (x.1:Nat),.bool x.2,xy,xy,xy,xy,xy,xy,xy,xy,xy,xy,xy,xy,xy,xy,xy,xy,xy,xy,xy,xy,xy,xy,xy],defers:=[]})
  ?assign ?body ?done ?stop
 case hg=>rfl
 case hI=>
  rintro pre X Y row ⟨done,S,hl⟩ hg Q;exact⟨done,S.dv hg λr e=>⟨by have:=(Q r e).1;omega,(Q r e).2⟩,hl⟩
 case hIx=>
  rintro c pre X Y row ⟨hc,done,S,hl⟩ hg Q;exact⟨hc,done,S.dv hg λr e=>⟨by have:=(Q r e).1;omega,(Q r e).2⟩,hl⟩
 case hPx=>
  rintro pre x _ X Y row ⟨p',h4,hx⟩ hg Q;exact⟨p',h4.dv hg λr e=>(Q r e).2,hx⟩
 case hS=>
  rintro xs X Y row ⟨g,x,hx,hl⟩ hg Q;exact⟨g,x,hx.dv hg λr e=>(Q r e).2,hl⟩
 case assign=>
  rintro l x W K2 g5;simp only[List.zip_cons_cons,Array.zip,AU];gi_wp2
  exact g5
 case body=>
  rintro l pre x W ⟨done,S,a7⟩ ⟨p',P,hx⟩ i3;obtain⟨q,sc⟩:=r.da done;have b4:=R3 hh r done;obtain⟨y,t⟩:=S.df;have rq:Rt (ZU h done) p'/\x=(I pre,WD p'.H<|I pre):=by
   obtain⟨g',x',h1,h2,h3⟩:=P;have:=t.fu h1;subst this;exact⟨h3,hx⟩
  obtain⟨rg,h6⟩:=rq;subst h6;obtain⟨g,H⟩:∃g,ZU h done=g:=⟨_,rfl⟩;have d:=t.nb;have z:=PQ W B b (λc hc=>f9 c (by have:=ZV d;omega)) _ y t b4 rg;rw[H]at a7 b4 rg d z;unfold Ye at d;have yb:∀j,W.cell? ⟨b,j,U⟩=(#[.int .u64 g.base,.int .i64 g.cap,.int .i64 g.to,.bool g.M,.int .i64 g.Y,y 0,y 1,y 2,y 3,y 4]:Array Value)[j]? :=λj=>Zf6 _ _ _ _ _ _ d;have i0:=Zf6 _ _ 0 _ _ _ S.kb;have h9:=Zf6 _ _ 0 _ _ _ S.fn;simp only[ZgA,ZhL]at i0 h9;have i4:W.frozen? ⟨xz (xj w)+1,0,U⟩=xw:=Y9 S.kb;by_cases A:done=k\/g.M=xw
  .have HE:=Zf0<|And.intro S<|And.intro A H;have h0:((k:Int) - (done:Nat)==0)=xk\/(((k:Int) - (done:Nat)==0)=xw/\g.M=xw):=by
    obtain e|e:=A;exact .inl Ze4
    .by_cases e2:done=k;exact .inl Ze4;exact .inr ⟨Ze4,e⟩
   clear t S d A H P z;obtain hq|⟨hq,i6⟩:=h0
   .gi_wp2
    exact⟨Zj0 _ _,rfl,done,HE.out.1,by rw[HE.out.2.2];exact HE.out.2.1⟩
   .gi_wp2
    exact⟨Zj0 _ _,rfl,done,HE.out.1,by rw[HE.out.2.2];exact HE.out.2.1⟩
  .have hd:done<k:=by have:=S.le;omega
   have O:g.M=xk:=by cases c8:g.M<;>simp_all
   have hq:((k:Int) - (done:Nat)==0)=xw:=Ze4;have h5:=rg.dn;have HH:=Zf0<|And.intro S<|And.intro t<|And.intro H<|And.intro rg hd;have e8:=Zf0<|z O;have Z:=t.rd 0 Z0;by_cases d5:I pre<g.Y
   .have d6:((I pre:Int)<g.Y)=True:=Zhn d5;clear t S d A H P z rg Z;gi_wp2
    exact⟨Zj0 _ _,⟨Zf3 _,λ_ _ h _ _ _=>h,λp hp=>⟨p,[],hp,Z1⟩⟩,done,HH.out.1,by rw[HH.out.2.2.1];simp;omega⟩
   .have d6:((I pre:Int)<g.Y)=False:=ZgU d5;have d8:(I pre:Int)=g.Y:=Z0;clear t S d A H P z rg Z;gi_wp2
    refine⟨trivial,(CallsIn.inRound l<|Zh2.2 e8.out).mono ?_⟩;rintro e W2 ⟨rfl,a6,a8⟩;have i9:=ZB ((k:Int) - (done:Nat) -1) Z0 Z0;obtain⟨s1,s2,s3,s4,s5⟩:=HH.out;rw[<-s3]at a8;have e5:=s1.step hh r (by rw[s3];exact s4) (by rw[s3];exact O) b6 g7 s5 a6 a8;have K:W2.heap[xz (xj w)+1]?=J (.cells #[.int .i64<|(k:Int) - (done:Nat)] 3 (0,0)):=(a6.block _ (ZV s1.kb) (λe=>by cases e;omega)).trans s1.kb;have e7:=Zf6 _ _ 0 _ _ _ K;simp only[ZgA,ZhL]at e7;have i2:W2.frozen? ⟨xz (xj w)+1,0,U⟩=xw:=Y9 K;have f5:=Zf0 e5;have e9:=Zf0 d8;clear s1 s2 s3 s4 s5 a6 a8 e5 K d8;gi_wp2
    obtain⟨t1,t2,t3,t4⟩:=f5.out;obtain⟨s1,s2,s3,s4,s5⟩:=HH.out;have h8:=s1.gr.size;refine⟨(KeepsFrom.of_grownBy t3 λj e=>by cases e;omega).trans (KeepsFrom.of_grownBy t4 λj e=>by cases e;omega),t2,done+1,t1,?_⟩;obtain⟨g',q',f⟩:=s4.Y O;rw[R4,s3,O];simp only[ZfT];rw[f.eq,f.num.2.2.2];have:=e9.out;simp;omega
 case done=>
  rintro D xs W hD ⟨g0,x0,d7,g9⟩ ⟨done,S,a7⟩ a5;have u:done=k\/(ZU h done).M=xw:=by
   obtain⟨q,sc⟩:=r.da done;obtain⟨y,t⟩:=S.df;have:=t.fu d7;subst this;cases c8:(ZU h done).M with
   |false=>exact .inr rfl
   |true=>have:=sc.rt.kz c8;omega
  obtain⟨y,t⟩:=S.df;have HF:=Zf0<|And.intro S<|And.intro u t;have d:=t.nb;obtain⟨d0,f0,C⟩:=Rd.bo<|t.rd 0 Z0;obtain⟨d1,f1,g1⟩:=Rd.bo<|t.rd 1 Z0;obtain⟨d2,f2,g2⟩:=Rd.bo<|t.rd 2 Z0;obtain⟨d3,f3,g3⟩:=Rd.bo<|t.rd 3 Z0;obtain⟨d4,f4,g4⟩:=Rd.bo<|t.rd 4 Z0;unfold Ye at d;rw[C,g1,g2,g3,g4]at d;have yb:∀j,W.cell? ⟨b,j,U⟩=_:=λj=>Zf6 _ _ _ _ _ _ d;have b0:∀j,W.cell? ⟨xz (xj w)+1+1,j,U⟩=_:=λj=>Zf6 _ _ _ _ _ _ S.r0;have i1:∀j,W.cell? ⟨xz (xj w)+1+1+1,j,U⟩=_:=λj=>Zf6 _ _ _ _ _ _ S.r1;have f7:∀j,W.frozen? ⟨xz (xj w)+1+1,j,U⟩=xw:=λj=>Y9 S.r0;have f8:∀j,W.frozen? ⟨xz (xj w)+1+1+1,j,U⟩=xw:=λj=>Y9 S.r1;unfold Jz at b0;have M:=NO (G:=G) S rfl u t b2.out hG Z0 a5;unfold Rh UO at M;unfold Ye Zx at M;rw[C,g1,g2,g3,g4]at M;simp only[Zfu]at M;obtain⟨k1,R,k4,T⟩:=M;have HK:=Zf0 T;clear d7 g9 a7 u t d S C g1 g2 g3 g4 T;gi_wp2
  refine⟨Z1,.inl ⟨D,_,rfl,Zi7 k1,?_⟩⟩;refine⟨_,?_,HK.out⟩;clear HK HF k1;generalize World.putObj _ D (.deferred U)=f6 at R k4⊢;simp[results,Try.results19,go_sem,R,k4]
 case stop=>
  rintro D c pre W hD ⟨rfl,done,S,u⟩ a5;obtain⟨y,t⟩:=S.df;have HF:=Zf0<|And.intro S<|And.intro u t;have d:=t.nb;obtain⟨d0,f0,C⟩:=Rd.bo<|t.rd 0 Z0;obtain⟨d1,f1,g1⟩:=Rd.bo<|t.rd 1 Z0;obtain⟨d2,f2,g2⟩:=Rd.bo<|t.rd 2 Z0;obtain⟨d3,f3,g3⟩:=Rd.bo<|t.rd 3 Z0;obtain⟨d4,f4,g4⟩:=Rd.bo<|t.rd 4 Z0;unfold Ye at d;rw[C,g1,g2,g3,g4]at d;have yb:∀j,W.cell? ⟨b,j,U⟩=_:=λj=>Zf6 _ _ _ _ _ _ d;have b0:∀j,W.cell? ⟨xz (xj w)+1+1,j,U⟩=_:=λj=>Zf6 _ _ _ _ _ _ S.r0;have i1:∀j,W.cell? ⟨xz (xj w)+1+1+1,j,U⟩=_:=λj=>Zf6 _ _ _ _ _ _ S.r1;have f7:∀j,W.frozen? ⟨xz (xj w)+1+1,j,U⟩=xw:=λj=>Y9 S.r0;have f8:∀j,W.frozen? ⟨xz (xj w)+1+1+1,j,U⟩=xw:=λj=>Y9 S.r1;unfold Jz at b0;have M:=NO (G:=G) S rfl u t b2.out hG Z0 a5;unfold Rh UO at M;unfold Ye Zx at M;rw[C,g1,g2,g3,g4]at M;simp only[Zfu]at M;obtain⟨k1,R,k4,T⟩:=M;have HK:=Zf0 T;clear u t d S C g1 g2 g3 g4 T;gi_wp2
  refine⟨Z1,.inl ⟨D,_,rfl,Zi7 k1,?_⟩⟩;refine⟨_,?_,HK.out⟩;clear HK HF k1;generalize World.putObj _ D (.deferred U)=f6 at R k4⊢;simp[results,Try.results19,go_sem,R,k4]
end
end Vm
end
section
namespace Vm
open Go Go.Proofs
def Rj:Prop:=∀(h:Hp) (p:Pts) (k:Int),h.ok->Rt h p->0<=k->YI k->VC xP 19 xw [ZD h,vi k] (.ak [ZD<|ZU h k.toNat,vi 0])
def L8(h:Hp)(k:Int):Hp×Int:=if k<0\/Yg h=xw then(Hp.zero,1)else(ZU h k.toNat,0)
def zj(h:Hp):Hp×Int:=if Yg h=xw then(Hp.zero,1)else(ZU h 9223372036854775807,0)
def PY(j:Rj){h:Hp}(f:h.ok){k:Int}(l:YI k):VC xP 27 xw [ZD h,vi k]<|.ak [ZD (L8 h k).1,vi (L8 h k).2]:=by
 refine Y4 DZ follows Z2 c27 rfl ?_;have k1:=Qn f;simp only[ZD]at k1;unfold L8;simp[M3];by_cases a:0<=k;case neg=>simp[a,show k<0 by omega,ZD,Hp.zero]
 have d:¬k<0:=Z0;simp only[a,d,ZfT,false_or];refine ZC k1 Z1 ?_;cases n:Yg h;simp[ZD,Hp.zero];obtain⟨p,r⟩:=Jl.1 n;have g:=j h p k f r Z0 l;simp only[ZD]at g⊢;simp;refine ZC g Z1 ?_;simp
def PD(f:Rj){h:Hp}(a:h.ok):VC xP 11 xw [ZD h]<|.ak [ZD (zj h).1,vi (zj h).2]:=by
 refine Y4 t5 follows Z2 jB rfl ?_;have k1:=Qn a;simp only[ZD]at k1;unfold zj;simp[yK];refine ZC k1 Z1 ?_;cases g:Yg h;simp[ZD,Hp.zero];obtain⟨p,r⟩:=Jl.1 g;have d:=f h p 9223372036854775807 a r Z0 ⟨Z0,Z0⟩;simp only[ZD]at d⊢;simp;refine ZC d Z1 ?_;simp
def Tc:Hp:=⟨10,5,1,xk,0,[2,6],[],[31,0],[],[31]⟩
def QE:Hp:=⟨10,5,1,xw,2,[2,6],[],[],[],[31]⟩
def A0:Tc.ok:=by refine⟨?_,?_,?_,?_,?_,?_,?_,?_,?_,?_,?_,?_,?_,?_⟩<;>simp[Tc,ZA,YI]
def Pg:Hp.zero.ok:=by refine⟨?_,?_,?_,?_,?_,?_,?_,?_,?_,?_,?_,?_,?_,?_⟩<;>simp[Hp.zero,ZA,YI]
def Z6U{h:Hp}{p:Pts}(r:Rt h p)(k:Nat):L8 h k=(ZU h k,0):=by
 unfold L8;rw[Zf7 (by rw[r.right];simp),Zfl]
end Vm
end
section
namespace Vm
open Go Go.Proofs Go.RowKit
def NP:Rj:=by
 intro h p k D r K C;obtain⟨n,rfl⟩:=Zfd K;rw[Zfl];refine⟨Z2,λw G vs z l d=> ?_⟩;have r0:=d 0 _ rfl;have N:=d 1 _ rfl;have B:vs=#[vs.getD 0 xy,vs.getD 1 xy]:=by
  have a:vs.size=2:=l;apply Zhq;simp[a];intro i O P;have F:i<2:=Z0
  match i,F with
  |0,_=>simp[Array.getD,a]
  |1,_=>simp[Array.getD,a]
 obtain⟨o,t,M⟩:=zI r0;have u:=Tt N;rw[B,t,u];refine(Z8d w G z h D o M r (by have:=C.2;omega)).mono ?_;rintro e Q ⟨x,rfl,g,L⟩;refine⟨_,rfl,g,?_⟩;refine .ak _ _ rfl ?_;intro i y f
 match i,f with
 |0,f=>cases f;exact RJ λj H=>(L j H).mono λb A=>A.imp (λq=>⟨rfl,q⟩) id
 |1,f=>cases f;exact .int _ _
end Vm
end
section
namespace Vm
open Go Go.Conc Go.ConcN
section
section
variable {P:Z6}{Stop:Z8}{b:Zg}{k:Zn}{cs:Z7}{a:Act}{w:Z3}
def Walk.cw{x y:Code}(h:Walk P Stop (b.at a<|.code x:: .code y::k) cs w):Walk P Stop (b.at a<|.code (.seq x y)::k) cs w:=.go (λw=>stepG_seq) h
def Walk.region{id:Nat}{ops:Zl}(h:Walk P Stop (b.at a<|.inRegion ops (List.range ops.size)::k) cs w):Walk P Stop (b.at a<|.code (.region id ops xw)::k) cs w:=.go (λw=>stepG_region) h
def Walk.gi{ops:Zl}(h:Walk P Stop (b.at a k) cs w):Walk P Stop (b.at a<|.inRegion ops []::k) cs w:=.go (λw=>stepG_region_end) h
def Walk.val{ops:Zl}{i:Nat}{rest:Zb}{o:Oper}{v:Zc}(q:ops[i]?=J o)(r:Region.wanted o (yielded ops a.tmps)=xk)(p:b.kind≠.early)(n:Qx P o.op=xk)(j:∀g:Z3,g.heap=w.heap->(execOp a.eval o).run P g=.ok (.value v) g)
  (h:Walk P Stop (b.at (a.put o.dst v)<|.inRegion ops rest::k) cs w):Walk P Stop (b.at a<|.inRegion ops (i::rest)::k) cs w:=by
 refine .one λd=> ?_;have f:EvsB (xz<|xj<|Y2<|(execOp a.eval o).run P<|w.at d)<|listed P b.fn a o<|w.at d:=λe l=>FE n a (w.at d) e<|mem_listed l;rw[j (w.at d) rfl]at f;exact⟨_,_,_,_,stepG_value q r p<|j (w.at d) rfl,Zf3 _,f,h.at d⟩
def Walk.chan{ops:Zl}{i:Nat}{rest:Zb}{o:Oper}{t p:Zf}{dir:ChanDir}{inf:TypeInfo}{f:IntKind}(z:ops[i]?=J o)(B:Region.wanted o (yielded ops a.tmps)=xk)(y:b.kind≠.early)(j:o.op=.makeChan t (.const<|.int f 0))(l:P.underlying t=J (.chan dir p))(g:P.info? p=J inf)
  (h:Walk P Stop (b.at (a.put o.dst<|.chan<|J<|xz<|xj w)<|.inRegion ops rest::k) cs<|w.alloc<|.chan 0 #[] xw 0 0 xw):Walk P Stop (b.at a<|.inRegion ops (i::rest)::k) cs w:=by
 refine .one λd=> ?_;have n:execOp a.eval o=(do pure (.value<|<-Instr.makeChan t (.int f (0:Nat))):Sem Next):=by unfold execOp;simp only[j];rfl
 have A:(execOp a.eval o).run P (w.at d)=.ok (.value<|.chan<|J<|xz<|xj w) ((w.alloc<|.chan 0 #[] xw 0 0 xw).at d):=by
  rw[n];simp only[ZfJ,run_makeChan (w:=w.at d) l g f 0 Z0 Z0,ZfH];rfl
 have x:(execOp a.eval o).events P (w.at d) #[]=#[]:=by
  rw[n];have q:=events_makeChan (P:=P) (w:=w.at d) l g f 0 Z0 Z0 #[];have r:(Instr.makeChan t<|.int f (0:Nat)).runT P (w.at d) #[]=(.ok (.chan<|J<|xz<|xj w)<|(w.alloc<|.chan 0 #[] xw 0 0 xw).at d, #[]):=by
   refine Zhy ?_ q;rw[Zh1];exact run_makeChan (w:=w.at d) l g f 0 Z0 Z0
  show((Sem.bind _ _).runT P (w.at d) #[]).2=_;rw[Zh6,r];rfl
 refine⟨_,_,_,_,stepG_value z B y A,by show xz (xj w)<=xz (xj<|w.alloc _);simp,λe u=> ?_,h.at d⟩;have:=mem_listed u;simp_all
def Walk.tn{fr B:Zg}{f:Zi}(T:∀w:Z3,stepG P xk (G fr cs) w=.spawn (G B cs) f w #[])
  (H:∀(n d:Nat) (gs:Ze) (sl:Option<|Nat×Nat) (t:Trace) (q:Zj),0<n->gs.size=n+1->gs[0]?=J (G B cs)->gs[n]?=J f->Yz P n gs q->(∀Z OB M,TI n Z OB M (xz<|xj w) t)->Win P (Dv P Stop) gs (w.at d) sl t):Walk P Stop fr cs w:=by
 intro d0 gs sl t q hl N o;have R:∀(a:Ze) g,a[a.size]? ≠J g:=λa g e=>by
  simp_all
 refine skip hl (λi g O r=> ?_) ⟨0,_,.inl rfl,N,rfl⟩ λa d L q' i g a1 z Q O a2 a0=> ?_;obtain rfl|rfl:=O;rw[N]at r;cases r;exact⟨awake_of<|.inl rfl,λg1 g2 d=>woken_run rfl⟩;simp_all;obtain rfl|rfl:=O;have C:a[0]?=J (G fr cs):=by rw[z 0<|.inl rfl];exact N
 have F:0<a.size:=(Zf2.1 C).1;have u:=runT_crowd_spawn (P:=P) (sl:=L) (i:=0) (w:=w.at d) C<|T<|w.at d;refine⟨_,_,_,_,u,?_⟩;generalize hx:({g:=0,fn:=(G fr cs).frame.fn,pos:=(G fr cs).frame.place,act:=.go a.size}:MemOp)=x;generalize hy:({g:=a.size,fn:=f.frame.fn,pos:=(G fr cs).frame.place,act:=.start}:MemOp)=y;have D:((MemOp.ofEvents 0 (G fr cs).frame.fn (G fr cs).frame.place #[]).push x).push y=#[x,y]:=by simp[MemOp.ofEvents]
 rw[D];have W:x.g=0/\x.act=.go a.size:=by rw[<-hx];exact⟨rfl,rfl⟩
 have X:y.g=a.size/\y.act=.start:=by rw[<-hy];exact⟨rfl,rfl⟩
 refine H a.size d _ L _ q' F Z1 ?_ Ze2 (λj g hj a3 r=> ?_) λZ OB M=> ?_;grind;rw[Zhf]at r;simp only[Zhb]at r;rw[Zf7 Z0,ZfS Z0]at r;exact Q j g hj Z0 r;have t0:TI a.size (λ_=>True) (λ_=>False) M (xz<|xj w) t:=⟨o.fw,o.dk,o.H,λi op x l k A=>.inl<|o.iq i op x l k A,λi op x l k A=>.inr<|.inr ⟨λ_=>by simp_all[I4,trivial],λb _ h=>h⟩⟩
 have Y:=t0.comm (Zf3 _) #[x,y] (λop S=>by
  have:op=x\/op=y:=by simpa using S
  obtain rfl|rfl:=this;simp_all[MemAct.touch?];simp_all[MemAct.touch?])
 have K:∀(i:Nat) (op:MemOp) (p:Touch),(t++ #[x,y])[i]?=J op->op.act.touch?=J p->t[i]?=J op:=λi op p l k=>by
  obtain⟨_,h⟩|⟨_,h⟩:=getElem?_append_cases l;exact h;have:op=x\/op=y:=ZeO;obtain rfl|rfl:=this;simp_all[MemAct.touch?];simp_all[MemAct.touch?]
 refine⟨Y.fw,Y.dk,Y.H,λi op p l k A=>.inl<|(o.iq i op p (K i op p l k) k A).app _,λi op p l k A=>.inr<|.inl ?_⟩;exact fork_knows W X (o.dk 0) (o.dk _)<|o.iq i op p (K i op p l k) k A;simp_all
def Walk.tq{fr o:Zg}{f:Zi}{c:Nat}{KA KB OA0:Z4}{StopA:(Nat->Prop)->Goroutine->World->Prop}{vs:Zp}{z:Zc}(C:∀w:Z3,stepG P xk (G fr cs) w=.spawn (G o cs) f w #[])
  (Q:Play P xk c KA StopA (vs.map .recv++[.closed z]) OA0 (G o cs) w) (R:Play P xw c KB (Ur P c) (vs.map .send) (λ_=>False) f w) (p:w.heap[c]?=J (.chan 0 #[] xw 0 0 xw))
  (la:∀b,OA0 b->b<xz (xj w)) (ka:∀b,KA b->b<xz (xj w)) (kb:∀b,KB b->b<xz (xj w)) (H:∀b,OA0 b->¬KB b) (N:¬OA0 c) (x:¬KA c) (y:¬KB c)
  (r:∀u a j,StopA u a j->xz (xj w)<=xz (xj j)->j.tape=w.tape->(j.os,j.output)=(w.os,w.output)->(∀b,u b->(OA0 b\/xz (xj w)<=b)/\b<xz (xj j))->(∀b,b<xz (xj w)->¬OA0 b->b≠c->j.heap[b]?=w.heap[b]?)->∃l k,a=G l k/\Walk P Stop l k j):Walk P Stop fr cs w:=by
 refine .tn C λn d gs sl t q X D O B W F=> ?_;have S:Cfg P n c KA KB OA0 (w.at d) OA0 (λ_=>False) gs (w.at d) t q:=
  ⟨X,W,F _ _ _,la,λ_ h=>h.elim,ka,kb,λ_ _ h=>h,H,N,x,y,(Zf2.1 p).1,Zf3 _,rfl,rfl,λ_ h=>.inl h,λ_ h=>h.elim,λ_ _ _ _=>rfl⟩
 have Y:=(Z6b (P:=P) (n:=n) (KB:=KB) (OA0:=OA0) (w0:=w.at d) Q).so vs z (λ_=>False) f gs (w.at d) sl t q 0 0 xw rfl S D O B (Rely.at _ _ _ d) (.run<|R.gj<|Rely.at _ _ _ d) p;refine Y.bind λA w1 K t1 ⟨M,u,OB,q1,Z,k1,k2,g,k4,k5⟩=> ?_;obtain⟨l,k,rfl,T⟩:=r u M w1 k2 g.b0 g.tape g.os (λb L=>⟨g.oa b L,g.la b L⟩) g.fr;exact T w1.drawn A K t1 q1 k4 Z ⟨g.ti.fw,g.ti.dk,g.ti.H,k5⟩
end
end
end Vm
end
section
namespace Vm
open Go Go.Conc
section
section
variable {Q:Z6}{c:Nat}{Post:Z8}{es:List Ev}{fr fr':Zg}{cs cs':Z7}{w w':Z3}
def LS.bn:∀ {es:List Ev} {fr fr':Zg} {cs cs':Z7} {w w':Z3},Steps Q (lone fr (cs++[YE Q]) w) (lone fr' (cs'++[YE Q]) w')->LS Q c Post es fr' cs' w'->LS Q c Post es fr cs w
 | [],_,_,_,_,_,_,h,⟨n,a,c2,w2,d,f⟩=>let⟨m,g⟩:=Steps.trans h ⟨n,d⟩;⟨m,a,c2,w2,g,f⟩
 |e::es,_,_,_,_,_,_,h,⟨n,a,c2,w2,d,f⟩=>let⟨m,g⟩:=Steps.trans h ⟨n,d⟩;⟨m,a,c2,w2,g,f⟩
def LS.ev{e:Ev}(h:Vs Q c e fr)(k:LS Q c Post es (Xh e fr) cs w):LS Q c Post (e::es) fr cs w:=⟨0,fr,cs,w,rfl,h,k⟩
def LS.df(h:Post fr cs w):LS Q c Post [] fr cs w:=⟨0,fr,cs,w,rfl,h⟩
end
def Di{P:Z6}{ops:Zl}{w:Z3}{Q Q':Act->Prop}(h:∀a,Q a->Q' a):∀(l:List Oper) (a:Act),wpStill P ops w Q l a->wpStill P ops w Q' l a
 | [],a,d=>h a d
 |o::l,a,d=>by
  simp only[wpStill]at d⊢;split;rename_i f;rw[Zfc f]at d;exact Oper.still_mono (λa=>Di h l a) d;rename_i f;rw[Zf7 f]at d;exact Di h l _ d
def Yi:Code->List Nat->Code
 |c,[]=>c
 |.seq a _,0::l=>Yi a l
 |.seq _ b,_::l=>Yi b l
 |.cond _ a _,0::l=>Yi a l
 |.cond _ _ b,_::l=>Yi b l
 |.block _ a,_::l=>Yi a l
 |.loop a,_::l=>Yi a l
 |.scope a,_::l=>Yi a l
 |c,_=>c
def KO:Code->Array Oper
 |.region _ ops _=>ops
 |_=> #[]
def jc(Q:Z6)(c:Nat)(Post:Z8)(es:List Ev)(b:Zg)(k:Zn)(cs:Z7):Exit->Act->World->Prop
 |.normal,a,w=>LS Q c Post es (b.at a k) cs w
 |.exit id,a,w=>∃k',exitTo id k=J k'/\LS Q c Post es (b.at a k') cs w
 |.ret,a,w=>∀d,LS Q c Post es {b.at a d with mode:=.returning} cs w
 |_,_,_=>False
def SC(Q:Z6)(c:Nat)(x:Code)(R:List Ev->Exit->Act->World->Prop)(es:List Ev)(a:Act)(w:Z3):Prop:=
 ∀(Post:Z8) (b:Zg) (k:Zn) (cs:Z7),(∀d e f w',R d e f w'->jc Q c Post d b k cs e f w')->LS Q c Post es (b.at a<|.code x::k) cs w
def ST(Q:Z6)(c:Nat)(ops:Zl)(R:List Ev->Exit->Act->World->Prop)(l:Zb)(es:List Ev)(a:Act)(w:Z3):Prop:=
 ∀(Post:Z8) (b:Zg) (k:Zn) (cs:Z7),(∀d e f w',R d e f w'->jc Q c Post d b k cs e f w')->LS Q c Post es (b.at a<|.inRegion ops l::k) cs w
section
variable {Q:Z6}{c:Nat}{R R':List Ev->Exit->Act->World->Prop}{es:List Ev}{a:Act}{w:Z3}{x y:Code}
variable {ops:Zl}{l:Zb}
def SC.tj{id:Nat}(h:∀t,ST Q c ops R (Region.schedule (Q.follows .mixedOrders) ops t) es a {w with drawn:=w.drawn+1}):SC Q c (.region id ops xk) R es a w:=λPost b k cs d=>LS.bn (.one step_region_draw)<|h _ Post b k cs d
def ST.nil(h:R es .normal a w):ST Q c ops R [] es a w:=λPost b k cs d=>LS.bn (.one step_region_end)<|d _ _ _ _ h
def ST.sb{i:Nat}(g:((ops[i]?).map (Region.wanted · (yielded ops a.tmps))).getD xw=xw)(f:ST Q c ops R l es (a.put ((ops[i]?).bind (·.dst)) xy) w):ST Q c ops R (i::l) es a w:=λPost b k cs d=>
 LS.bn (.one<|step_op_skip g) (f Post b k cs d)
def ST.still{i:Nat}{K:Act->Prop}(h:stOp Q ops w i K a)(t:∀a,K a->ST Q c ops R l es a w):ST Q c ops R (i::l) es a w:=by
 unfold stOp at h;cases q:ops[i]? with
 |none=>
  rw[q]at h;refine .sb (by simp[q]) ?_;simp_all[Option.bind_none,Act.put]
 |some o=>
  rw[q]at h;dsimp only at h;by_cases u:Region.wanted o (yielded ops a.tmps)=xk;rw[Zfc u]at h;unfold Oper.still at h;intro Post b k cs r;have A:=stepG_op (P:=Q) (b:=b) (k:=k) (cs:=cs++[YE Q]) (w:=w) (rest:=l) q u;have y:∀v,(b.at a<|.inRegion ops (i::l)::k).finish v=b.at (a.put o.dst v) (.inRegion ops l::k):=λv=>by grind [Frame.finish_at]
  revert h
  cases B:(execOp a.eval o).run Q w with
  |halt x w'=>exact False.elim
  |ok n w'=>
   cases n<;>first|exact False.elim|skip
   rename_i v;rintro⟨rfl,h⟩;refine LS.bn (.one<|Zin ?_)<|t _ h Post b k cs r;simp_all[stepG.apply];rintro⟨rfl,h⟩;refine LS.bn (.one<|Zin ?_)<|t _ h Post b k cs r;simp_all[stepG.apply];rename_i f args;rintro⟨rfl,v,z,h⟩;obtain⟨e,j,fr,⟨rfl,rfl⟩,g,_,p⟩:=z<|b.at a (.inRegion ops (i::l)::k)::(cs++[YE Q]);have d:step Q (lone (b.at a<|.inRegion ops (i::l)::k) (cs++[YE Q]) j)=.next (lone (Frame.enter Q f args .normal) (b.at a (.inRegion ops (i::l)::k)::(cs++[YE Q])) j):=
    Zin (by simp_all[stepG.apply,Frame.at])
   refine LS.bn (.head d<|g.trans<|.one ?_)<|t _ h Post b k cs r;grind [step_leave_returned]
  rw[Zf7 u]at h;refine .sb Ze3 ?_;simp_all
def ST.ev{i:Nat}{o:Oper}{e:Ev}(A:ops[i]?=J o)(G:Region.wanted o (yielded ops a.tmps)=xk)(y:match e with
   |.recv _|.closed _=>∃t f d h inf z,o.op=.recv t f xk/\ZS f=xk/\a.eval f=.chan (J c)/\Q.underlying t=J (.chan d h)/\Q.info? h=J inf/\inf.zero=J z/\∀B,e=.closed B->B=z
   |.send v=>∃f x,o.op=.send f x/\ZS f=xk/\ZS x=xk/\a.eval f=.chan (J c)/\a.eval x=v)
  (F:ST Q c ops R l es (a.put o.dst e.val) w):ST Q c ops R (i::l) (e::es) a w:=λPost b k cs D=>by
 refine LS.ev ⟨ops,i,l,k,o,rfl,rfl,A,G,?_⟩ ?_;have g:∀x,(b.at a<|.inRegion ops (i::l)::k).eval x=a.eval x:=Frame.eval_at b a _;cases e with
 |recv v=>obtain⟨t,f,d,h,inf,z,j,n,p,q,r,u,_⟩:=y;exact⟨t,f,d,h,inf,z,j,n,by rw[g];exact p,q,r,u⟩
 |closed v=>obtain⟨t,f,d,h,inf,z,j,n,p,q,r,u,C⟩:=y;exact⟨t,f,d,h,inf,j,n,by rw[g];exact p,q,r,by rw[C v rfl];exact u⟩
 |send v=>obtain⟨f,x,j,n,p,q,r⟩:=y;exact⟨f,x,j,n,p,by rw[g];exact q,by rw[g];exact r⟩
 have:Xh e (b.at a<|.inRegion ops (i::l)::k)=b.at (a.put o.dst e.val) (.inRegion ops l::k):=by
  unfold Xh;rw[Zht,A];rfl
 rw[this];exact F Post b k cs D
def ST.head{md:Region.Mode}{n g:Nat}{L:Array Bool->Act->Prop}:∀(f t:Nat) (listed:Array Bool) (a:Act),wpAnyL Q md ops w n L f listed a->(∀listed a t,L listed a->ST Q c ops R (Region.linearise.go md ops g t listed []) es a w)->
  ST Q c ops R (Region.linearise.go md ops (f+g) t listed []) es a w
 |0,t,listed,a,h,j=>by rw[ZfL];exact j _ _ _ h
 |f+1,t,listed,a,h,j=>by
  obtain⟨p,q⟩:=h;rw[show f+1+g=(f+g)+1 by omega];simp only[Region.linearise.go]
  change ST Q c ops R (match(Region.ready md ops listed)[t% I (Region.ready md ops listed)]? with
   |some i=>Region.linearise.go md ops (f+g) (t / I (Region.ready md ops listed)) (listed.setIfInBounds i xk) [i]
   |none=>[].reverse) es a w
  cases k:(Region.ready md ops listed)[t% I (Region.ready md ops listed)]? with
  |none=>
   exfalso;have d:0< I (Region.ready md ops listed):=ZgT.2 p;have:=Zh8.1 k;have:=ZiX t d;omega
  |some i=>
   simp only[];rw[linearise_go_acc,ZiJ,ZiS];exact ST.still (q i<|Zf5 k).2 λl o=>ST.head f _ _ l o j
def ST.km{n:Nat}{listed:Array Bool}{t:Nat}(h:Region.seqB .any ops 1 n listed=xk)(d:ST Q c ops R [n] es a w):ST Q c ops R (Region.linearise.go .any ops 1 t listed []) es a w:=by
 simp only[Region.seqB,ZeZ,Zfp]at h;simp only[Region.linearise.go]
 change ST Q c ops R (match(Region.ready .any ops listed)[t% I (Region.ready .any ops listed)]? with
   |some i=>[i]
   |none=>[]) es a w
 grind
def SC.km{id n:Nat}{l:List Oper}(B:Q.follows .mixedOrders=xk)(u:Region.lexTailB .any l.toArray n=xk)(q:I l=n+1)(h:wpStill Q l.toArray {w with drawn:=w.drawn+1} (λp=>ST Q c l.toArray R [n] es p {w with drawn:=w.drawn+1}) (l.take n) a):SC Q c (.region id l.toArray xk) R es a w:=by
 refine SC.tj λt=> ?_;simp only[Region.lexTailB,ZeZ,Zfp]at u;obtain⟨⟨⟨⟨k,y⟩,D⟩,z⟩,f⟩:=u;have C:n<I l:=by simpa using y
 have r:I (l.take n)=n:=Ze4;have A:l.toArray.size-n=1:=Ze4;rw[A]at f;have o:HeadInv .any l.toArray n<|Array.replicate l.toArray.size xw:=
  ⟨Z1,λj M _ G=>(by grind [getD_replicate_false]),λt _ K=>getD_in Ze2<|getD_replicate_false _ _⟩
 have H:=wpAnyL_lex (md:=.any) (g:=1) k D z y (l.take n) 0 _ a (λj F=>by
  simp_all) Z0 o Ze3 h
 simp only[Region.schedule,B,Bool.true_or,ZfT,Region.linearise];have e:l.toArray.size=I (l.take n)+1:=by rw[r];simpa using q
 rw[e];exact ST.head (L:=λd p=>Region.seqB .any l.toArray 1 n d=xk/\ST Q c l.toArray R [n] es p {w with drawn:=w.drawn+1}) _ t _ a (by rw[<-e];exact H) λlisted p N x=>ST.km x.1 x.2
end
section
variable {Q:Z6}{c:Nat}{Post:Z8}{es:List Ev}{a:Act}{w:Z3}{x y:Code}{b:Zg}{k k':Zn}{cs:Z7}
def LS.cw(h:LS Q c Post es (b.at a<|.code x:: .code y::k) cs w):LS Q c Post es (b.at a<|.code (.seq x y)::k) cs w:=LS.bn (.one step_seq) h
def LS.og{o:Operand}(hc:a.eval o=.bool xk)(h:LS Q c Post es (b.at a<|.code x::k) cs w):LS Q c Post es (b.at a<|.code (.cond o x y)::k) cs w:=LS.bn (.one<|step_cond hc) h
def LS.oe{o:Operand}(hc:a.eval o=.bool xw)(h:LS Q c Post es (b.at a<|.code y::k) cs w):LS Q c Post es (b.at a<|.code (.cond o x y)::k) cs w:=LS.bn (.one<|step_cond hc) h
def LS.skip(h:LS Q c Post es (b.at a k) cs w):LS Q c Post es (b.at a<|.code .skip::k) cs w:=LS.bn (.one step_skip) h
def LS.block{id:Nat}(h:LS Q c Post es (b.at a<|.code x:: .inBlock id::k) cs w):LS Q c Post es (b.at a<|.code (.block id x)::k) cs w:=LS.bn (.one step_block) h
def LS.inBlock{id:Nat}(h:LS Q c Post es (b.at a k) cs w):LS Q c Post es (b.at a<|.inBlock id::k) cs w:=LS.bn (.one step_inBlock) h
theorem LS.inLoop(h:LS Q c Post es (b.at a<|.code x:: .inLoop x::k) cs w):LS Q c Post es (b.at a<|.inLoop x::k) cs w:=LS.bn (.one step_inLoop) h
def LS.exit{id:Nat}(d:exitTo id k=J k')(h:LS Q c Post es (b.at a k') cs w):LS Q c Post es (b.at a<|.code (.exit id)::k) cs w:=LS.bn (.one<|step_exit d) h
def LS.oq(I:Nat->List Ev->Act->World->Prop){n:Nat}(d:I n es a w)(f:∀n es a w,I n es a w->(∀m es a w,m<n->I m es a w->LS Q c Post es (b.at a<|.inLoop x::k) cs w)->LS Q c Post es (b.at a<|.code x:: .inLoop x::k) cs w):LS Q c Post es (b.at a<|.code (.loop x)::k) cs w:=by
 have key:∀n es a w,I n es a w->LS Q c Post es (b.at a<|.code x:: .inLoop x::k) cs w:=by
  intro n;induction n using Nat.strongRecOn with
  |_ n g=>grind [inLoop]
 exact LS.bn (.one step_loop)<|key n es a w d
def LS.wp{R:Zh}(h:x.wp Q R a w)(n:∀e f w',R e f w'->jc Q c Post es b k cs e f w'):LS Q c Post es (b.at a<|.code x::k) cs w:=by
 obtain⟨e,f,w',q,r⟩:=h b k<|cs++[YE Q];have g:=n e f w' q;cases e with
 |normal=>exact LS.bn r g
 |exit id=>obtain⟨k',j,l⟩:=g;exact LS.bn (r k' j) l
 |ret=>obtain⟨d,r⟩:=r;exact LS.bn r<|g d
 |_=>exact g.elim
def LS.dm(h:∀K:Zq,(∀a w,LS Q c Post es (b.at a k) cs w->K a w)->x.wp Q (λe a w=>e=.normal/\K a w) a w):LS Q c Post es (b.at a<|.code x::k) cs w:=
 LS.wp (h _ λ_ _ q=>q) λe g w' ⟨d,f⟩=>by subst d;exact f
def LS.send{id n:Nat}{l:List Oper}{v:Zc}(z:Q.follows .mixedOrders=xk)(x:Region.lexTailB .any l.toArray n=xk)(q:I l=n+1){o:Oper}{g j:Operand}(B:l[n]?=J o)(y:o.guard=U)(p:o.op=.send g j)(u:ZS g=xk)(h2:ZS j=xk)
  (h:wpStill Q l.toArray {w with drawn:=w.drawn+1} (λd=>d.eval g=.chan (J c)/\d.eval j=v/\LS Q c Post es (b.at (d.put o.dst xy) k) cs {w with drawn:=w.drawn+1}) (l.take n) a):LS Q c Post (.send v::es) (b.at a<|.code (.region id l.toArray xk)::k) cs w:=
 SC.km (R:=λf e d w'=>e=.normal/\LS Q c Post f (b.at d k) cs w') z x q (Di (λd ⟨r,t,A⟩=>ST.ev (o:=o) Ze2 (by simp[Region.wanted,y]) ⟨g,j,p,u,h2,r,t⟩<|.nil ⟨rfl,A⟩) _ _ h) Post b k cs λf e d w' ⟨r,t⟩=>by subst r;exact t
def LS.region{id:Nat}{ops:Zl}(h:LS Q c Post es (b.at a<|.inRegion ops (List.range ops.size)::k) cs w):LS Q c Post es (b.at a<|.code (.region id ops xw)::k) cs w:=LS.bn (.one step_region) h
def LS.value{ops:Zl}{i:Nat}{l:Zb}{o:Oper}{v:Zc}{w':Z3}(g:ops[i]?=J o)(j:Region.wanted o (yielded ops a.tmps)=xk)(h:(execOp a.eval o).run Q w=.ok (.value v) w')(f:LS Q c Post es (b.at (a.put o.dst v)<|.inRegion ops l::k) cs w'):LS Q c Post es (b.at a<|.inRegion ops (i::l)::k) cs w:=by
 have d:(b.at a<|.inRegion ops (i::l)::k).finish v=b.at (a.put o.dst v) (.inRegion ops l::k):=by grind [Frame.finish_at]
 refine LS.bn (.one<|Zin ?_) f;simp_all[stepG_op,stepG.apply]
def LS.gi{ops:Zl}(h:LS Q c Post es (b.at a k) cs w):LS Q c Post es (b.at a<|.inRegion ops []::k) cs w:=LS.bn (.one step_region_end) h
def LS.sg{ops:Zl}{i:Nat}{l:Zb}{o:Oper}{e:Ev}(n:ops[i]?=J o)(p:Region.wanted o (yielded ops a.tmps)=xk)(q:match e with
   |.recv _|.closed _=>∃t f d g inf z,o.op=.recv t f xk/\ZS f=xk/\a.eval f=.chan (J c)/\Q.underlying t=J (.chan d g)/\Q.info? g=J inf/\inf.zero=J z/\∀h,e=.closed h->h=z
   |.send v=>∃f x,o.op=.send f x/\ZS f=xk/\ZS x=xk/\a.eval f=.chan (J c)/\a.eval x=v)
  (r:LS Q c Post es (b.at (a.put o.dst e.val)<|.inRegion ops l::k) cs w):LS Q c Post (e::es) (b.at a<|.inRegion ops (i::l)::k) cs w:=by
 refine LS.ev ⟨ops,i,l,k,o,rfl,rfl,n,p,?_⟩ ?_;have j:∀x,(b.at a<|.inRegion ops (i::l)::k).eval x=a.eval x:=Frame.eval_at b a _;grind;simp_all[Xh,Zht]
end
end
end Vm
end
section
namespace Vm
open Go Go.Proofs
noncomputable def ofC:Code:=match Try.f21.body with|some c=>c|none=>.skip
def CJ(f:Zm):Option<|List OT:=if f=37 then J [.fz,.mem [.fz],.mem [.fz]]else sig f
def OL:List Nat:=[0,1,2,3,16,4,5,6,7,23,25,8,24,29,9,10,48,47,49,12,46,13]
def Z9m:List Nat:=[15,63,76,79]
def vf(P:Z6):FC:= {P,ix:=pos<|OL++Z9m,fresh,sig:=CJ,tr:=[3],fix:=[4,23],n:=82,keep:=OL}
def yY:SS:=[(0,.fz)]
def r0N:SS:=[(0,.fz),(1,(.mem [.fz,.fz,.fz,.fz,.fz,.fz,.fz,.fz,.fz,.fz])),(2,(.mem [.nil,.nil])),(3,.fz)]
def r0:Stm:=
(.ax ⟨[],[],[(1,.m [(.ae (.sz (.s 0) 10) 0),(.ae (.sz (.s 0) 10) 1),(.ae (.sz (.s 0) 10) 2),(.ae (.sz (.s 0) 10) 3),(.ae (.sz (.s 0) 10) 4),(.ae (.sz (.s 0) 10) 5),(.ae (.sz (.s 0) 10) 6),(.ae (.sz (.s 0) 10) 7),(.ae (.sz (.s 0) 10) 8),(.ae (.sz (.s 0) 10) 9)]),(2,.m [(.c<|.sl []),(.c<|.sl [])]),(3,.v<|.c<|.int .i64<|0)]⟩)
def r0c:comp (vf<|Yb Try.prog) (Yi ofC [0]) yY=J (r0,⟨J r0N,[],[]⟩):=Z2
def rXS:SS:=[(0,.fz),(1,(.mem [.fz,.fz,.fz,.fz,.fz,.fz,.fz,.fz,.fz,.fz])),(2,(.mem [.nil,.nil])),(3,.fz)]
def Na:SS:=[(0,.fz),(1,(.mem [.fz,.fz,.fz,.fz,.fz,.fz,.fz,.fz,.fz,.fz])),(2,(.mem [.nil,.nil])),(3,.fz),(16,.fz)]
def Ci:SS:=[(0,.fz),(1,(.mem [.fz,.fz,.fz,.fz,.fz,.fz,.fz,.fz,.fz,.fz])),(2,(.mem [.nil,.nil])),(3,.fz),(16,.fz)]
def rX:Stm:=
(.seq
(.ax ⟨[.call 22 [] (.id 10) xw xw [(.mm 1 0 10)]],[],[(4,.v<|.un .not<|.s 22)]⟩)
(.cond (.s 4)
 (.seq
 (.ax ⟨[],[([],(.ag [(.c<|.sl []),(.c<|.sl [])]))],[(2,.m [(.c<|.sl []),(.c<|.sl [])]),(3,.v<|.c<|.int .i64<|1)]⟩)
 .ret)
 .skip))
def rXc:comp (vf<|Yb Try.prog) (Yi ofC [1,0]) rXS=J (rX,⟨J Na,[],[Ci]⟩):=Z2
def La:SS:=[(1,(.mem [.fz,.fz,.fz,.fz,.fz,.fz,.fz,.fz,.fz,.fz])),(2,(.mem [.fz,.fz])),(3,.fz)]
def r5N:SS:=[(1,(.mem [.fz,.fz,.fz,.fz,.fz,.fz,.fz,.fz,.fz,.fz])),(2,(.mem [.fz,.fz])),(3,.fz),(5,.nil)]
def r5:Stm:=
(.ax ⟨[],[],[(6,.v<|.c<|.sl [])]⟩)
def r5c:comp (vf<|xP) (Yi ofC [1,1,1,1,0]) La=J (r5,⟨J r5N,[],[]⟩):=Z2
def r6S:SS:=[(1,(.mem [.fz,.fz,.fz,.fz,.fz,.fz,.fz,.fz,.fz,.fz])),(2,(.mem [.fz,.fz])),(3,.fz),(5,.nil)]
def r6N:SS:=[(1,(.mem [.fz,.fz,.fz,.fz,.fz,.fz,.fz,.fz,.fz,.fz])),(2,(.mem [.fz,.fz])),(3,.fz),(5,.nil),(6,(.mem [(.own 87)]))]
def r6:Stm:=
(.ax ⟨[],[],[(7,.m [(.c<|.mp 0 [] [])])]⟩)
def r6c:comp (vf<|xP) (Yi ofC [1,1,1,1,1,0]) r6S=J (r6,⟨J r6N,[],[]⟩):=Z2
def r7S:SS:=[(1,(.mem [.fz,.fz,.fz,.fz,.fz,.fz,.fz,.fz,.fz,.fz])),(2,(.mem [.fz,.fz])),(3,.fz),(5,.nil),(6,(.mem [(.own 87)]))]
def r7N:SS:=[(1,(.mem [.fz,.fz,.fz,.fz,.fz,.fz,.fz,.fz,.fz,.fz])),(2,(.mem [.fz,.fz])),(3,.fz),(5,.nil),(6,(.mem [(.own 87)])),(7,(.mem [(.own 109)]))]
def r7:Stm:=
(.ax ⟨[],[],[(8,.m [(.c<|.mp 0 [] [])])]⟩)
def r7c:comp (vf<|xP) (Yi ofC [1,1,1,1,1,1,0]) r7S=J (r7,⟨J r7N,[],[]⟩):=Z2
def Cf:SS:=[(1,(.mem [.fz,.fz,.fz,.fz,.fz,.fz,.fz,.fz,.fz,.fz])),(2,(.mem [.fz,.fz])),(3,.fz),(5,(.own 111)),(6,(.mem [(.own 87)])),(7,(.mem [(.own 109)])),(24,.fz),(25,.fz)]
def rDN:SS:=[(1,(.mem [.fz,.fz,.fz,.fz,.fz,.fz,.fz,.fz,.fz,.fz])),(2,(.mem [.fz,.fz])),(3,.fz),(5,(.own 111)),(6,(.mem [(.own 87)])),(7,(.mem [(.own 109)])),(25,.fz),(8,(.mem [.fz,.fz,.fz,.fz,.fz,.fz,.fz])),(24,.fz),(29,.fz)]
def Cg:SS:=[(1,(.mem [.fz,.fz,.fz,.fz,.fz,.fz,.fz,.fz,.fz,.fz])),(2,(.mem [.fz,.fz])),(3,.fz),(5,(.own 111)),(6,(.mem [(.own 87)])),(7,(.mem [(.own 109)])),(24,.fz),(25,.fz)]
def rD:Stm:=
(.seq
(.cond (.s 10)
 .skip
 (.exit 0))
(.block 1
 (.seq
 (.ax ⟨[],[],[(11,.m [(.ae (.sz (.ext (.s 12) 0) 7) 0),(.ae (.sz (.ext (.s 12) 0) 7) 1),(.ae (.sz (.ext (.s 12) 0) 7) 2),(.ae (.sz (.ext (.s 12) 0) 7) 3),(.ae (.sz (.ext (.s 12) 0) 7) 4),(.ae (.sz (.ext (.s 12) 0) 7) 5),(.ae (.sz (.ext (.s 12) 0) 7) 6)])]⟩)
 (.seq
 (.seq
 (.ax ⟨[],[],[(13,.v<|.m 11 3)]⟩)
 (.cond (.s 13)
  (.seq
  (.ax ⟨[],[],[(8,.m [(.dc (.i .u64) (.m 8 0) (.m 11 5)<|.m 11 4)])]⟩)
  (.exit 1))
  .skip))
 (.seq
 (.ax ⟨[],[],[(7,.m [(.dc (.i .u64) (.m 7 0) (.m 11 5)<|.len<|.s 6)])]⟩)
 (.ax ⟨[],[],[(6,.v<|.app (.s 6) (.lit [(.mm 11 0 7)]) 7)]⟩))))))
def N5:comp (vf<|xP) (Yi ofC [1,1,1,1,1,1,1,0,1,0,0,1]) Cf=J (rD,⟨J rDN,[(0,Cg)],[]⟩):=Z2
def N4:SS:=[(1,(.mem [.fz,.fz,.fz,.fz,.fz,.fz,.fz,.fz,.fz,.fz])),(2,(.mem [.fz,.fz])),(3,.fz),(5,.fz),(6,(.mem [.fz])),(7,(.mem [.fz]))]
def Ce:SS:=[(1,(.mem [.fz,.fz,.fz,.fz,.fz,.fz,.fz,.fz,.fz,.fz])),(2,(.mem [.fz,.fz])),(3,.fz),(5,.fz),(6,(.mem [.fz])),(7,(.mem [.fz])),(9,(.cp 37 [7,6])),(10,(.mem [.fz,.fz])),(48,.fz),(47,.fz),(49,.fz),(46,.fz)]
def rC:Stm:=
(.seq
(.ax ⟨[],[],[(14,.no)]⟩)
(.seq
(.ax ⟨[],[],[(14,.no),(15,.m [(.c<|.sl []),(.c<|.sl [])])]⟩)
(.seq
(.seq
(.ax ⟨[],[],[(14,.no),(16,.v<|.c<|.int .i64<|0),(17,.v<|.len<|.s 6),(20,.v<|.s 6)]⟩)
(.block 2
 (.loop [1,2,3,6,7,8,14,15,16,17,20]
  (.seq
  (.ax ⟨[],[],[(14,.no),(18,.v<|.bu .lss (.s 16)<|.s 17)]⟩)
  (.seq
  (.cond (.s 18)
   .skip
   (.exit 2))
  (.seq
  (.block 3
   (.seq
   (.ax ⟨[],[],[(14,.no),(19,.m [(.ae (.bc (.bv (.s 20) (.s 16) 7) 0 7) 0),(.ae (.bc (.bv (.s 20) (.s 16) 7) 0 7) 1),(.ae (.bc (.bv (.s 20) (.s 16) 7) 0 7) 2),(.ae (.bc (.bv (.s 20) (.s 16) 7) 0 7) 3),(.ae (.bc (.bv (.s 20) (.s 16) 7) 0 7) 4),(.ae (.bc (.bv (.s 20) (.s 16) 7) 0 7) 5),(.ae (.bc (.bv (.s 20) (.s 16) 7) 0 7) 6)])]⟩)
   (.seq
   (.ax ⟨[],[],[(14,.no),(21,.v<|.m 19 2)]⟩)
   (.ax ⟨[.cm 23 [] (.id 37) [.fz,(.mem [.fz]),(.mem [.fz])] [(.ig (.m 19 6) (.c<|.int .i64<|0) (.s 21) 1),(.ag [(.m 8 0)]),(.ag [(.m 7 0)])]],[],[(7,.m [(.ae (.ext (.s 23) 2) 0)]),(8,.m [(.ae (.ext (.s 23) 1) 0)]),(14,.no),(15,.m [(.app (.m 15 0) (.lit [(.ag [(.one<|.ext (.s 23) 0),(.fb (.m 19 6) (.s 21) 1)])]) 2),(.m 15 1)])]⟩))))
  (.ax ⟨[],[],[(14,.no),(16,.v<|.bu .add (.s 16)<|.c<|.int .i64<|1)]⟩)))))))
(.seq
(.ax ⟨[.cm 24 [] (.id 37) [.fz,(.mem [.fz]),(.mem [.fz])] [(.m 1 9),(.ag [(.m 8 0)]),(.ag [(.m 7 0)])]],[],[(7,.m [(.ae (.ext (.s 24) 2) 0)]),(8,.m [(.ae (.ext (.s 24) 1) 0)]),(14,.no),(15,.m [(.m 15 0),(.one<|.ext (.s 24) 0)])]⟩)
(.seq
(.ax ⟨[.call 25 [] (.id 39) xw xw [(.mm 15 0 2)]],[],[(2,.m [(.ae (.sz (.ext (.s 25) 0) 2) 0),(.ae (.sz (.ext (.s 25) 0) 2) 1)]),(3,.v<|.fl<|.ext (.s 25) 1),(14,.no)]⟩)
.ret)))))
def rCc:comp (vf<|xP) (Yi ofC [1,1,1,1,1,1,1,1]) N4=J (rC,⟨U,[],[Ce]⟩):=Z2
def Mx:Fn:=⟨16,[0,1,2,4,5,14,13,15,7,12,19,8,9,10,11,34],
(.seq
(.ax ⟨[],[],[(3,.v<|.c<|.sl [])]⟩)
(.seq
(.ax ⟨[],[],[(4,.v<|.c<|.sl [])]⟩)
(.seq
(.seq
(.ax ⟨[],[],[(5,.v<|.c<|.int .i64<|0),(6,.v<|.len<|.s 0),(9,.v<|.s 0)]⟩)
(.block 0
 (.loop [0,1,2,3,4,5,6,9]
  (.seq
  (.ax ⟨[],[],[(7,.v<|.bu .lss (.s 5)<|.s 6)]⟩)
  (.seq
  (.cond (.s 7)
   .skip
   (.exit 0))
  (.seq
  (.block 1
   (.seq
   (.ax ⟨[],[],[(8,.v<|.ae (.bv (.s 9) (.s 5) 1) 0)]⟩)
   (.seq
   (.seq
   (.ax ⟨[],[],[(10,.v<|.bu .eql (.s 8)<|.c<|.int .u64<|0)]⟩)
   (.cond (.s 10)
    (.seq
    (.ax ⟨[],[],[(4,.v<|.app (.s 4) (.lit [(.c<|.int .i64<|-1)]) 1)]⟩)
    (.exit 1))
    .skip))
   (.seq
   (.ax ⟨[.call 16 [] (.id 38) xw xw [(.s 8)]],[],[(11,.v<|.ext (.s 16) 0),(12,.v<|.ext (.s 16) 1)]⟩)
   (.seq
   (.seq
   (.ax ⟨[],[],[(13,.v<|.ext (.lk (.i .u64) (.m 1 0) (.s 11) (.int .u64<|0) xk) 0),(14,.v<|.ext (.lk (.i .u64) (.m 1 0) (.s 11) (.int .u64<|0) xk) 1)]⟩)
   (.seq
   (.ax ⟨[],[],[(15,.v<|.s 14)]⟩)
   (.cond (.s 15)
    (.ax ⟨[],[],[(11,.v<|.s 13)]⟩)
    .skip)))
   (.ax ⟨[],[],[(4,.v<|.app (.s 4) (.lit [(.one<|.lk (.i .u64) (.m 2 0) (.s 11) (.int .i64<|0) xw)]) 1)]⟩))))))
  (.ax ⟨[],[],[(5,.v<|.bu .add (.s 5)<|.c<|.int .i64<|1)]⟩)))))))
(.seq
(.ax ⟨[],[],[(3,.v<|.s 4),(4,.no)]⟩)
.ret)))),
[(3,.v)]⟩
def cTo:WB xP fresh sig [.fz,(.mem [.fz]),(.mem [.fz])] (SW [.fz,(.mem [.fz]),(.mem [.fz])]) Try.f37=J Mx:=Z2
def M8:Fn:=⟨5,[0,1,2,3,6],pQ [pR [(1,pS 0 2),(2,.m [pN,pN]),pV 3<|pI 0],pQ [pC [pK 5 40 [.mm 1 0 2]] [pV 4<|.un .not<|.s 5]]<|pw (.s 4)<|pQ [.ax ⟨[],[([],.ag [pN,pN])],[(2,.m [pN,pN]),pV 3<|pI 1]⟩] .ret,pC [.cm 6 [] (.id 62) [.fz,(.own 146)] [.mm 1 0 2,.c<|.mp 0 [] []]] [(2,pM (.sz (.ext (.s 6) 0) 2) 2),pV 3<|pI 0]] .ret,[(2,(.ag 2)),(3,.v)]⟩
def c39:xQ [.fz] Try.f39=J M8:=Z2
def M9:Fn:=⟨11,[0,1,2,9,3,14,13,15,5,12,32],pQ [pR [(1,pS 0 2),pV 2 pF],pi 3 (pj (.len<|.m 1 1)<|pI 16)<|px [pV 2 pF],pR [(4,.no)],pQ [pR [(4,.no),pV 5<|pI 0,pV 6<|.len<|.m 1 0,pV 9<|.m 1 0]]<|.block 0<|.loop [0,1,2,3,4,5,6,9]<|pQ [pR [(4,.no),pV 7<|pl (.s 5)<|.s 6],.cond (.s 7) .skip<|.exit 0,.block 1<|pQ [pR [(4,.no),(8,pM (.bc (.bv (.s 9) (.s 5) 2) 0 2) 2)],.ax ⟨[.lt 11 []<|pj (pa (.len<|.m 8 0)<|.len<|.m 8 1)<|pI 255,.cm 12 [(11,xw)] (.id 63) [.fz,(.mem [.fz,.fz])] [.m 8 0,.ag [.m 1 0,.m 1 1]]],[([(11,xw)],.un .not<|.ext (.s 12) 0)],[(1,pM (.ext (.s 12) 1) 2),(4,.no),pV 10<|.ite (.s 11) pT<|.un .not<|.ext (.s 12) 0]⟩]<|pw (.s 10)<|px [pV 2 pF,(4,.no)]]<|pR [(4,.no),pV 5<|pa (.s 5)<|pI 1],pC [.cm 13 [] (.id 63) [.fz,(.mem [.fz,.fz])] [.m 1 1,.ag [.m 1 0,.m 1 1]]] [(1,pM (.ext (.s 13) 1) 2),pV 2<|.ext (.s 13) 0,(4,.no)]] .ret,[(2,.v)]⟩
def c40:xQ [.fz] Try.f40=J M9:=Z2
def Mn:Fn:=⟨11,[0,1,2,4,5,13,12,14,7,11,8],pQ [pR [(2,pS 0 2),(3,.m [pN,pN])],pR [(4,.m [pN,pN])],pQ [pC [.cm 9 [] (.id 77) [.fz,(.own 146)] [.mm 2 0 2,.s 1]] [pV 1<|.ext (.s 9) 1,pV 5<|pI 0,pV 6<|.len<|.ext (.s 9) 0,pV 9<|.ext (.s 9) 0]]<|po [0,1,2,3,4,5,6,9] 7 (pl (.s 5)<|.s 6) (pQ [pR [pV 8<|.ae (.bv (.s 9) (.s 5) 1) 0],pR [(10,pM (.bc (.bv (.m 2 0) (.s 8) 2) 0 2) 2)]]<|pC [.call 11 [] (.id 78) xk xw [.m 10 0,.s 1]] [(4,.m [.app (.m 4 0) (.lit [.ag [.one<|.s 11,.app pN (.m 10 1) 1]]) 2,.m 4 1])])<|pc 5,pC [.call 12 [] (.id 78) xk xw [.m 2 1,.s 1]] [(4,.m [.m 4 0,.one<|.s 12])]]<|px [(3,pM (.mm 4 0 2) 2)],[(3,(.ag 2))]⟩
def c62:WB xP fresh sig [.fz,(.own 146)] [(1,(.own 146))] Try.f62=J Mn:=Z2
def Mo:Fn:=⟨9,[0,1,3,8,7,9,5,6,20],pQ [pR [pV 2 pF],pQ [pR [pV 3<|pI 0,pV 4<|.len<|.s 0,pV 7<|.s 0]]<|po [0,1,2,3,4,7] 5 (pl (.s 3)<|.s 4) (pQ [pR [pV 6<|.ae (.bv (.s 7) (.s 3) 1) 0],.ax ⟨[.lt 9 []<|pl (.s 6)<|pI<|-1],[([(9,xw)],pg (.s 6)<|.len<|.m 1 0)],[pV 8<|.ite (.s 9) pT<|pg (.s 6)<|.len<|.m 1 0]⟩]<|pw (.s 8)<|px [pV 2 pF])<|pc 3]<|px [pV 2 pT],[(2,.v)]⟩
def c63:WB xP fresh sig [.fz,(.mem [.fz,.fz])] [(1,(.mem [.fz,.fz]))] Try.f63=J Mo:=Z2
def KV:Fn:=⟨9,[0,1,2,3,4,5,6,7,17],pQ [pR [(1,.no),(2,pS 0 2),(3,.m [.s 1]),pV 4 pN],pR [(3,.m [.eu<|.m 3 0])],pR [(5,.m [pN])],pR [(6,.no)],pC [.cm 9 [] (.id 81) [.fz,(.mem [(.own 146)]),(.mem [(.own 3)])] [.m 2 1,.ag [.m 3 0],.ag [.m 5 0]]] [(3,.m [.ae (.ext (.s 9) 1) 0]),(5,.m [.ae (.ext (.s 9) 2) 0]),(6,.no)],pQ [pR [(6,.no),pV 7<|pI 0]]<|.block 0<|.loop [0,2,3,4,5,6,7]<|pQ [pQ [pR [(6,.no),pV 8<|pl (.s 7)<|.len<|.m 5 0]]<|.cond (.s 8) .skip<|.exit 0,.block 1<|pC [.cm 10 [] (.id 81) [.fz,(.mem [(.own 146)]),(.mem [(.own 3)])] [.ae (.bv (.m 2 0) (.ae (.bv (.m 5 0) (.s 7) 1) 0) 2) 0,.ag [.m 3 0],.ag [.m 5 0]]] [(3,.m [.ae (.ext (.s 10) 1) 0]),(5,.m [.ae (.ext (.s 10) 2) 0]),(6,.no)]]<|pR [(6,.no),pV 7<|pa (.s 7)<|pI 1]]<|px [pV 4<|.m 5 0,(6,.no)],[(4,.v)]⟩
def c77:WB xP fresh sig [.fz,(.own 146)] [(3,(.mem [(.own 146)]))] Try.f77=J KV:=Z2
def Mu:Fn:=⟨10,[0,1,4,5,10,9,11,7,8,15],pQ [pR [pV 2 pN],pR [pV 3 pN],pQ [pR [pV 4<|pI 0,pV 5<|.len<|.s 0,pV 8<|.s 0]]<|po [0,1,2,3,4,5,8] 6 (pl (.s 4)<|.s 5) (pQ [pR [pV 7<|.ae (.bv (.s 8) (.s 4) 1) 0],pi 9 (pg (.s 7)<|pI 0)<|pR [pV 7<|.lk (.i .i64) (.s 1) (.s 7) (.int .i64 0) xw]]<|pR [pV 3<|.app (.s 3) (.lit [.one<|.s 7]) 1])<|pc 4]<|px [pV 2<|.s 3,(3,.no)],[(2,.v)]⟩
def c78:WB xP fresh sig [.fz,.fz] [(4,(.own 3))] Try.f78=J Mu:=Z2
def Mv:Fn:=⟨11,[0,1,2,10,9,11,5,8,6,7,25],pQ [pR [pV 3<|pI 0,pV 4<|.len<|.s 0,pV 7<|.s 0]]<|po [0,1,2,3,4,7] 5 (pl (.s 3)<|.s 4) (pQ [pR [pV 6<|.ae (.bv (.s 7) (.s 3) 1) 0],pR [pV 8<|.fl<|.ext (.lk (.i .i64) (.m 1 0) (.s 6) (.int .i64 0) xk) 0,pV 9<|.fl<|.ext (.lk (.i .i64) (.m 1 0) (.s 6) (.int .i64 0) xk) 1],.ax ⟨[.lt 11 []<|pg (.s 6)<|pI 0],[([(11,xk)],.un .not<|.s 9)],[pV 10<|.ite (.s 11) (.un .not<|.s 9) pF]⟩]<|pw (.s 10)<|pQ [pR [(1,.m [.dc (.i .i64) (.m 1 0) (.s 6)<|.len<|.m 2 0])]]<|pR [(2,.m [.app (.m 2 0) (.lit [.one<|.s 6]) 1])])<|pc 3,[]⟩
def c81:WB xP fresh sig [.fz,(.mem [(.own 146)]),(.mem [(.own 3)])] [(1,(.mem [(.own 146)])),(2,(.mem [(.own 3)]))] Try.f81=J Mv:=Z2
end Vm
end
section
namespace Vm
open Go Go.Proofs
def Gr.sm(g:Gr):Prop:=I g.nodes<=100000/\I g.E<=100000/\∀n∈g.nodes,I n.ac<=100000/\I n.data<=100000
def VW(n:Nat)(p:Int):Bool:=decide (-1<=p/\p<n)
def TW(k:Nat)(n:Nd):Bool:=decide (I n.ac+I n.data<=255)&&n.ac.all (VW k)
def right(g:Gr):Bool:=decide (I g.E<=16)&&g.nodes.all (TW<|I g.nodes)&&g.E.all (VW<|I g.nodes)
theorem EB{α:Type}{p}{l:List α}{i x}(h:l[i]?=J x):(l.take<|i+1).all p=((l.take i).all p&&p x):=by
 rw[Zgt,h];simp
theorem Ey{α:Type}{p}{l:List α}{i:Nat}{x}(h:l[i]?=J x)(a:p x=xw):l.all p=xw:=by
 grind
def FQ{l:List Int}{ns:List V}{a:V}(g:I l<=100000)(k:a.one=xk)(j:YN a=J a):
  Vd xP 63 [.fz,.mem [.fz,.fz]] [.sl<|l.map vi,.agg [.sl ns,a]] (.ak [.bool<|l.all<|VW<|I ns,.agg [.sl ns,a]]):=by
 refine Jv Z0k follows Z2 c63 Z2 ?_;simp[-List.all_eq_true,-List.all_eq_false,Mo];refine Qm (λt=>∃i:Nat,i<=I l/\(l.take i).all (VW<|I ns)=xk/\t=[.v<|.sl<|l.map vi,.m [.sl ns,a],.v<|.bool xw,.v<|vi i,.v<|vi<|I l,.no,.no,.v<|.sl<|l.map vi]) (λt=>match get t 3 with|.v (.int _ n)=>I l-n.toNat|_=>0) ?_ ?_;exact⟨0,Z1,Z1,Z1⟩;rintro t ⟨i,f,d,rfl⟩;by_cases h:i<I l;have o:l[i]?=J l[i]:=ZeX h;simp[-List.all_eq_true,-List.all_eq_false,h];simp(disch:=omega) only[ZB];grind [Ey,VW,EB];have:i=I l:=Z0;simp_all
def Nx{g:Gr}(r:g.sm):VC xP 40 xw [Yy g]<|.bool<|right g:=by
 obtain⟨u,j,k⟩:=r;refine Y4 Z07 follows Z2 c40 rfl ?_;simp[-List.all_eq_true,-List.all_eq_false,M9];split;grind [List.all_eq_true,List.all_eq_false,right];rename_i h;refine Qm (λt=>∃i:Nat,i<=I g.nodes/\(g.nodes.take i).all (TW<|I g.nodes)=xk/\t=[.v<|Yy g,.m [.sl<|g.nodes.map Xl,.sl<|g.E.map vi],.v<|.bool xw,.v<|.bool xw,.no,.v<|vi i,.v<|vi<|I g.nodes,.no,.no,.v<|.sl<|g.nodes.map Xl]) (λt=>match get t 5 with|.v (.int _ n)=>I g.nodes-n.toNat|_=>0) ?_ ?_;exact⟨0,Z1,Z1,by simp[h]⟩;rintro t ⟨i,z,a,rfl⟩;by_cases d:i<I g.nodes;have A:g.nodes[i]?=J g.nodes[i]:=ZeX d;obtain⟨q,y⟩:=k _<|Zfr d;have p:=ZB ((i:Int)+1) Z0 Z0;simp[-List.all_eq_true,-List.all_eq_false,d,p];simp(disch:=omega) only[ZB];have w:TW (I g.nodes) g.nodes[i]=xw->right g=xw:=λx=>by grind [List.all_eq_true,List.all_eq_false,right,Ey]
 by_cases l:(g.nodes[i].ac.length:Int)+(g.nodes[i].data.length:Int)<=255;rw[Zfc l];refine VR (FQ q ZeR ZeR) ?_;have f:¬(255:Int)< (g.nodes[i].ac.length:Int)+(g.nodes[i].data.length:Int):=Z0;cases o:g.nodes[i].ac.all<|VW<|I g.nodes;simp[-List.all_eq_true,-List.all_eq_false,f,o];simp_all[Zfb,Zhx,TW];simp[-List.all_eq_true,-List.all_eq_false,f,o,p];grind [EB,List.all_eq_true,List.all_eq_false,TW];rw[Zf7 l];grind [List.all_eq_true,List.all_eq_false,TW];have:i=I g.nodes:=Z0;subst this;simp[-List.all_eq_true,-List.all_eq_false];refine VR (FQ j ZeR ZeR) ?_;rw[ZgZ]at a;simp[-List.all_eq_true,-List.all_eq_false,right,a];omega
end Vm
namespace Vm
open Go Go.Proofs
end Vm
namespace Vm
open Go Go.Proofs
def D7(n:Nat):List V:=(List.range n).map λ(i:Nat)=>vi i
def Xs(id:Nat)(l:List Int):V:=.mp id (l.map vi)<|D7<|I l
def ZY:List Int->List Int->List Int
 |a,[]=>a
 |a,x::l=>ZY (if 0<=x/\x∉a then a++[x]else a) l
def A5{x}:∀ {l:List Int},Td (vi x) (l.map vi)=J (l.findIdx? (· ==x))
 | []=>rfl
 |y::l=>by
  simp only[Zft,Td,Kr,ZhK];by_cases h:x=y;subst h;simp;have a:(x==y)=xw:=ZeO;have d:(y==x)=xw:=by simpa using ZgL h
  simp[a,d,A5]
def A4{x}{l:List Int}:l.findIdx? (· ==x)=U↔x∉l:=by
 grind
theorem Hq{id l x z ok}:Uf (.i .i64) (Xs id l) (vi x) z ok=match l.findIdx? (· ==x)with
  |some i=>J (if ok then .ak [vi i,.bool xk]else vi i)
  |none=>J (if ok then .ak [z,.bool xw]else z):=by
 unfold Uf Xs;simp[V6,A5];grind [List.findIdx?_eq_some_iff_getElem,D7]
def Z50{id l x}(hx:x∉l):UJ (.i .i64) (Xs id l) (vi x) (vi<|I l)=J (Xs id<|l++[x]):=by
 unfold UJ Xs;simp[V6,A5,A4.2 hx];simp[D7,Zig]
@[simp]theorem ZcJ id l:YN (Xs id l)=J (Xs id l):=rfl
def In{ns acc:List Int}{id:Nat}(q:I ns<=100000)(k:I acc<=1000000):Vd xP 81 [.fz,.mem [.own 146],.mem [.own 3]] [.sl<|ns.map vi,.agg [Xs id acc],.agg [.sl<|acc.map vi]]
  (.ak [.ak [],.agg [Xs id<|ZY acc ns],.agg [.sl<|(ZY acc ns).map vi]]):=by
 refine Jv Z0B follows Z2 c81 Z2 ?_;simp[Mv];refine Qm (λt=>∃i l,i<=I ns/\ZY l (ns.drop i)=ZY acc ns/\I l<=1000000+i/\t=[.v<|.sl<|ns.map vi,.m [Xs id l],.m [.sl<|l.map vi],.v<|vi (i:Nat),.v<|vi<|I ns,.no,.no,.v<|.sl<|ns.map vi]) (λt=>match get t 3 with|.v (.int _ n)=>I ns-n.toNat|_=>0) ?_ ?_;exact⟨0,acc,Z1,Z1,Z0,Z1⟩;rintro t ⟨i,l,r,f,u,rfl⟩;by_cases h:i<I ns;have p:ns.drop i=ns[i]::ns.drop (i+1):=(Zg4 h);rw[p,ZY]at f;simp[h,Hq];by_cases d:ns[i]∈l;have a:∃j,l.findIdx? (· ==ns[i])=J j:=by
  cases o:l.findIdx? (· ==ns[i])with
  |none=>grind
  |some j=>simp
 obtain⟨j,o⟩:=a;simp[o,Wl,V.bb];simp(disch:=omega) only[ZB];grind;simp[A4.2 d,Wl,V.bb];simp(disch:=omega) only[ZB];by_cases g:0<=ns[i];rw[Zfc g,Z50 d];rw[Zfc ⟨g,d⟩]at f;simp;refine⟨by grind [YJ],⟨i+1,Z0,l++[ns[i]],f,Ze4,rfl,Z1,Z1⟩,Z0⟩;grind;have:i=I ns:=Z0;simp_all[ZY]
@[simp]theorem ZaZ id l:(Xs id l).cells=[Xs id l]:=rfl
def Good(n:Nat)(l:List Int):Prop:=l.Nodup/\∀x∈l,0<=x/\x<n
def Bm:∀(n:Nat) {l:List Int},l.Nodup->(∀x∈l,0<=x/\x<n)->I l<=n
 |0,l,_,h=>by
  obtain _|⟨x,l⟩:=l;simp;have:=h x Z1;omega
 |n+1,l,a,h=>by
  by_cases j:(n:Int)∈l;have g:=Bm n (a.erase (n:Int)) λx d=>by
   have f:=(a.mem_erase_iff).1 d;have:=h x f.2;omega
  rw[List.length_erase_of_mem j]at g;omega;have:=Bm n a λx d=>by
   have g:=h x d;have:x≠n:=Ze2;omega
  omega
def Good.len{n l}(h:Good n l):=Bm n h.1 h.2
def Tm{n}:∀ {f a:List Int},Good n a->(∀x∈f,x<n)->Good n (ZY a f)
 | [],a,h,_=>h
 |x::f,a,h,j=>by
  simp[ZY];refine Tm ?_ λy d=>Ze3;split;rename_i g;refine⟨?_,λy d=> ?_⟩;rw[ZhY];exact⟨h.1,Z1,Ze2⟩;obtain d|d:=Zfs.1 d;exact h.2 y d;simp at d;subst d;exact⟨g.1,Ze3⟩;exact h
def Xw(g:Gr):Nat->Nat->List Int->List Int
 |0,_,l=>l
 |f+1,i,l=>match l[i]? with
  |some x=>Xw g f (i+1)<|ZY l ((g.nodes[x.toNat]?).getD default).ac
  |none=>l
def order(g:Gr):List Int:=Xw g (I g.nodes+1) 0<|ZY [] g.E
def H7{n p}(h:VW n p=xk): -1<=p/\p<n:=by grind [VW]
def R2{g}(a:right g=xk):∀x∈g.E,-1<=x/\x<I g.nodes:=by
 simp[right,Zfb]at a;exactλx d=>H7 Ze3
def Cs{g}(a:right g=xk):∀n∈g.nodes,∀x∈n.ac,-1<=x/\x<I g.nodes:=by
 simp[right,TW]at a;exactλn d x f=>H7 Ze2
def Z5S{g:Gr}(C:g.sm)(B:right g=xk)(id:Nat)(ks vs:List V):
  Ym xP KV.body [.v<|Yy g,.v<|.mp id ks vs] (λs=>get s 4=.v (.sl<|(order g).map vi)/\get s 3=.m [Xs id<|order g]) (λ_ _=>False) (λs=>get s 4=.v (.sl<|(order g).map vi)/\get s 3=.m [Xs id<|order g]):=by
 obtain⟨D,q,r⟩:=C;simp[KV];refine VR (In (ns:=g.E) (acc:=[]) (id:=id) q Z1) ?_;simp;have d:=R2 B;have j:Good (I g.nodes)<|ZY [] g.E:=Tm ⟨Z1,Z1⟩ λx p=>(d x p).2;refine Qm (λt=>∃i l,i<=I l/\Good (I g.nodes) l/\Xw g (I g.nodes+1-i) i l=order g/\t=[.v<|Yy g,.no,.m [.sl<|g.nodes.map Xl,.sl<|g.E.map vi],.m [Xs id l],.v<|.sl [],.m [.sl<|l.map vi],.no,.v<|vi (i:Nat)]) (λt=>match get t 7 with|.v (.int _ n)=>I g.nodes-n.toNat|_=>0) ?_ ?_;exact⟨0,_,Z1,j,rfl,Z1⟩;rintro t ⟨i,l,K,u,A,rfl⟩;have z:=u.len;by_cases h:i<I l;obtain⟨G,M⟩:=u.2 _<|Zfr h;obtain⟨k,w⟩:=Zfd G;have o:k<I g.nodes:=Z0;have p:l[i]?=J (k:Int):=by rw[ZeX h,w]
 simp[h,w,o];refine VR (In (r _<|Zfr o).1 Z0) ?_;simp;simp(disch:=omega) only[ZB];have a:Good (I g.nodes)<|ZY l g.nodes[k].ac:=Tm u λx p=>(Cs B _ (Zfr o) x p).2;refine⟨⟨i+1,_,?_,a,?_,rfl,rfl,Z1⟩,Z0⟩;have:∀ {ns acc:List Int},I acc<=I (ZY acc ns):=by
  intro ns;induction ns with
  |nil=>simp_all[ZY]
  |cons y ns L=>
   intro acc;simp only[ZY];grind
 grind;rw[show I g.nodes+1-i=(I g.nodes+1- (i+1))+1 by omega,Xw,p]at A;simp_all;have:i=I l:=Z0;subst this;have F:l=order g:=by
  rw[<-A];cases H:I g.nodes+1-(I l) with
  |zero=>omega
  |succ f=>simp[Xw]
 simp_all
def Z5R{g:Gr}(hg:g.sm)(hr:right g=xk)(id:Nat)(ks vs:List V):Vd xP 77 [.fz,.own 146] [Yy g,.mp id ks vs]<|.ak [.sl<|(order g).map vi,Xs id<|order g]:=by
 refine⟨Z2,λB w h us a9 hA=> ?_⟩;obtain⟨b6,a1,a2⟩:=hA;obtain⟨d7,T,b0⟩:=a2 1 (.own 146) (.mp id ks vs) rfl rfl;simp only[XX,ZeV]at T;subst T;obtain⟨x1,W,R⟩:=b0;simp only[eval,ZeV]at W;subst W;obtain⟨_,_,hl,_⟩|⟨c8,d5,d9,b,es,Y,he,hv,a5,hB,hid,hh,h1,h2,h3,h4⟩:=R;cases hl;cases he;have a0:LI xP B w h [.fz,.own 146] [Yy g,.mp (b+1) ks vs] us:=by
  refine⟨rfl,a1,λi k x f j=> ?_⟩
  match i,f,j with
  |0,f,j=>grind
  |1,f,j=>
   simp at f j;subst f j;exact⟨_,rfl,_,rfl,.inr ⟨b+1,ks,vs,b,es,Y,rfl,hv,a5,hB,.inr rfl,hh,h1,h2,h3,h4⟩⟩
  |i+2,f,j=>simp at f
 refine zu (cf:=KV) (fin:=[(3,.mem [.own 146])]) (xs:=[Yy g,.mp (b+1) ks vs]) (Rt:=λs=>get s 4=.v (.sl<|(order g).map vi)/\get s 3=.m [Xs (b+1)<|order g]) Z0y follows c77 (Z5S hg hr (b+1) ks vs) a9 a0 λc s S a w' h' hP b8 O z M r p hK o l=> ?_;rw[<-hP]at l z⊢;simp only[SP,ZeZ,Zfb]at l;obtain⟨A,a7⟩:=l;obtain⟨d,a8⟩:=LJ r p a7;have Q:c.ix 3=3:=O 3 Zeh;have hr:XW s (Le c.P c.ix Try.f77)=J (.sl<|(order g).map vi):=by
  rw[<-z];simp[KV,M.1]
 obtain⟨v,b1,b4⟩:=Lf (D:=(h'.drop<|VY S [(3,.mem [.own 146])]).F) r p (λb hb=>.inl hb) (λq hq=>by
  have h1:=A q hq;have h2:=Zfb.1 (Z2:Nq Try.f77 [(3,.mem [.own 146])]=xk) q hq;refine⟨h1,λi b hb=>.inr ⟨R0 q,i+1,?_,Z0,hb⟩⟩;simp_all[VY,Ziw,R0]) hr
 obtain⟨u,hu,b3,d8,T3,e1,e2,e3,e4,e5⟩:=d.Z 3 (by grind [Yo,Yk]) ZeR;obtain⟨X,hX,C⟩:=e5 0 (.own 146,.m (c.ix 3) 0) rfl;have a3:X=Xs (b+1) (order g):=by
  simp only[eval,Q,M.2]at hX;simpa using hX.symm
 subst a3;obtain⟨_,_,hl,_⟩|⟨d0,d6,e0,H,Z,L,N,c0,n,b7,b5,a6,q1,q2,q3,q4⟩:=C;cases hl;simp only[Xs,V.mp.injEq]at N;obtain⟨rfl,rfl,rfl⟩:=N;have a4:H=b:=Z0;subst a4;obtain⟨r1,r2,r3⟩:=d.ok.ao 3 1 H n
 refine⟨v,b1,v,.sl<|(order g).map vi,[.bool xw,Xs id<|order g],{F:=(h'.drop<|VY S [(3,.mem [.own 146])]).F,bl:=λt i=>if t=1/\i=1 then J H else U,K:=h'.K},rfl,o.below,o.same,
  ⟨d.ok.base,d.ok.bf,d.ok.cq,d.ok.fe,λt i x j=> ?_,λt i t' i' x j c1=> ?_,d.ok.co,λt i x j=> ?_,d.ok.ff⟩,hK,b4,⟨rfl,λi k y f b9 G=> ?_⟩,rfl⟩
 grind;grind;simp only at j;split at j;simp only[ZeV]at j;subst j;exact d.ok.ci 3 1 H n;cases j
 match i,f,G with
 |0,f,G=>grind
 |1,f,G=>
  simp at f G;subst f G;exact⟨_,rfl,_,rfl,.inr ⟨id,_,_,H,Z,L,rfl,hv,Z1,hB,hid,a6,q1,q2,q3,q4⟩⟩
 |i+2,f,G=>simp at f
end Vm
namespace Vm
open Go Go.Proofs
def Uw(l:List Int)(p:Int):Int:=match l.findIdx? (· ==p)with
 |some i=>(i:Nat)
 |none=>0
def Wd(l a:List Int):List Int:=a.map λp=>if 0<=p then Uw l p else p
def Sz(g:Gr)(l:List Int)(x:Int):Nd:=let n:=(g.nodes[x.toNat]?).getD default;⟨Wd l n.ac,n.data⟩
def Y0(g:Gr):Gr:=⟨(order g).map<|Sz g<|order g,Wd (order g) g.E⟩
def Z4i{id l x}:Uf (.i .i64) (Xs id l) (vi x) (vi 0) xw=J (vi<|Uw l x):=by
 grind [Hq,Uw]
def Z2m{l:List Int}:∀c∈flat (l.map vi),c.bb=xk:=by
 intro c d;simp[flat,Zfh]at d;obtain⟨y,⟨a,_,rfl⟩,d⟩:=d;have:c=vi a:=by simpa[V.cells]using d
 subst this;rfl
def Ib{a l:List Int}{id:Nat}(o:I a<=100000):VC xP 78 xk [.sl<|a.map vi,Xs id l]<|.sl<|(Wd l a).map vi:=by
 refine Z9k (t:=4) (ty:=3) Z0z follows Z2 rfl c78 rfl Z2m ?_;simp[Mu];refine Qm (λt=>∃i:Nat,i<=I a/\t=[.v<|.sl<|a.map vi,.v<|Xs id l,.v<|.sl [],.v<|.sl<|(Wd l<|a.take i).map vi,.v<|vi i,.v<|vi<|I a,.no,.no,.v<|.sl<|a.map vi]) (λt=>match get t 4 with|.v (.int _ n)=>I a-n.toNat|_=>0) ?_ ?_;exact⟨0,Z1,by simp[Wd]⟩;rintro t ⟨i,k,rfl⟩;by_cases h:i<I a;have j:a[i]?=J a[i]:=ZeX h;have d:Wd l (a.take<|i+1)=Wd l (a.take i)++[if 0<=a[i]then Uw l a[i]else a[i]]:=by
  unfold Wd;rw[Zgt,j,Zgf];rfl
 have g:I (Wd l<|a.take i)<=100000:=by simp[Wd];omega
 simp[h];simp(disch:=omega) only[ZB];by_cases f:0<=a[i];simp[f,Z4i];refine⟨by simp[YJ];omega,⟨i+1,Z0,by rw[d];simp[f],Z1⟩,Z0⟩;simp[f];refine⟨by simp[YJ];omega,⟨i+1,Z0,by rw[d];simp[f],Z1⟩,Z0⟩;have:i=I a:=Z0;subst this;simp
def IJ{g}(d:right g=xk):∀ {f i} {l:List Int},Good (I g.nodes) l->Good (I g.nodes) (Xw g f i l)
 |0,i,l,h=>h
 |f+1,i,l,h=>by
  simp[Xw];split;rename_i x k;refine IJ d (Tm h λy j=> ?_);let⟨n,o⟩:=h.2 x Ze2;have a:x.toNat<I g.nodes:=Z0;rw[ZeX a]at j;exact(Cs d _ Z1 y j).2;exact h
def Jb{g}(a:right g=xk):Good (I g.nodes)<|order g:=
 IJ a (Tm ⟨Z1,Z1⟩ λx d=>(R2 a x d).2)
def Z1v{g:Gr}(p:g.sm)(r:right g=xk)(id:Nat)(ks vs:List V):Vd xP 62 [.fz,.own 146] [Yy g,.mp id ks vs]<|.ak [Yy<|Y0 g,Xs id<|order g]:=by
 refine Jv Z0j follows Z2 c62 Z2 ?_;simp[Mn];refine VR (Z5R p r id ks vs) ?_;simp;obtain⟨u,j,o⟩:=p;have a:=Jb r;have f:=a.len;generalize A:order g=l at a f;refine Qm (λt=>∃i:Nat,i<=I l/\t=[.v<|Yy g,.v<|Xs id l,.m [.sl<|g.nodes.map Xl,.sl<|g.E.map vi],.m [.sl [],.sl []],.m [.sl<|((l.take i).map<|Sz g l).map Xl,.sl []],.v<|vi i,.v<|vi<|I l,.no,.no,.v<|.sl<|l.map vi]) (λt=>match get t 5 with|.v (.int _ n)=>I l-n.toNat|_=>0) ?_ ?_;exact⟨0,Z1,Z1⟩;rintro t ⟨i,z,rfl⟩;by_cases h:i<I l;have B:l[i]?=J l[i]:=ZeX h;obtain⟨y,D⟩:=a.2 _<|Zfr h;obtain⟨k,q⟩:=Zfd y;have d:k<I g.nodes:=Z0;obtain⟨x,C⟩:=o _<|Zfr d;simp[h,q,d];refine ZC (Ib x) Z1 ?_;simp;simp(disch:=omega) only[ZB];have w:V.agg [V.sl<|List.map vi<|Wd l g.nodes[k].ac,V.sl<|List.map vu g.nodes[k].data]=Xl (Sz g l l[i]):=by
  simp[Sz,q,d,Xl]
 refine⟨by grind [YJ],by grind [YJ],⟨i+1,Z0,?_,Z1⟩,Z0⟩;simp_all[Zgt,Zfo];have:i=I l:=Z0;simp_all;refine ZC (Ib j) Z1 ?_;simp_all[Y0,Yy]
def Z1u{g}(h:g.sm)(o:right g=xk):(Y0 g).sm:=by
 let⟨j,k,l⟩:=h;have a:=Jb o;have d:=a.len;refine⟨by grind [Y0],by simp_all[Y0,Wd],λn f=> ?_⟩;simp[Y0]at f;obtain⟨x,p,rfl⟩:=f;let⟨q,r⟩:=a.2 x p;simp_all[Zfr,Sz,Wd]
def Ui:Gr:=⟨[],[]⟩
def V2(g:Gr):V:=if right g=xk then .ak [Yy<|Y0 g,vi 0]else .ak [Yy Ui,vi 1]
def Pv{g:Gr}(a:g.sm):VC xP 39 xw [Yy g]<|V2 g:=by
 refine Y4 Z06 follows Z2 c39 rfl ?_;simp[M8];refine ZC (Nx a) Z1 ?_;cases d:right g;simp[V2,d,Ui,Yy];simp;refine VR (Z1v a d 0 [] []) ?_;simp_all[V2,Yy]
end Vm
namespace Vm
open Go Go.Proofs
end Vm
end
section
namespace Vm
open Go Go.Proofs

end Vm
end
section

end
section
namespace Vm
open Go Go.Proofs
def outs(g:Gr)(x:Int):List Int:=((g.nodes[x.toNat]?).getD default).ac
def Ij:∀(a:Z9) {d b:Z9},ZY d (a++b)=ZY (ZY d a) b
 | [],_,_=>rfl
 |x::a,d,b=>by simp only[Zgc,ZY];exact Ij a
def yr:∀(l:Z9) {acc:Z9},∃t,ZY acc l=acc++t
 | [],acc=>⟨[],by simp[ZY]⟩
 |x::l,acc=>by
  simp only[ZY];obtain⟨t,a⟩:=yr l (acc:=if 0<=x/\x∉acc then acc++[x]else acc);rw[a];split;exact⟨x::t,Z1⟩;exact⟨t,rfl⟩
def Q2:∀ {l d:Z9} {x:Int},x∈ZY d l↔x∈d\/(x∈l/\0<=x)
 | [],d,x=>by simp[ZY]
 |y::l,d,x=>by
  simp only[ZY,Q2 (l:=l),Zfi];split;rename_i h;simp only[Zfs,ZfZ];constructor;rintro((a|rfl)|a);exact .inl a;exact .inr ⟨.inl rfl,h.1⟩;exact .inr ⟨.inr a.1,a.2⟩;rintro(a|⟨rfl|a,f⟩);exact .inl<|.inl a;exact .inl<|.inr rfl;exact .inr ⟨a,f⟩;rename_i h;constructor;rintro(a|a);exact .inl a;exact .inr ⟨.inr a.1,a.2⟩;rintro(a|⟨rfl|a,f⟩);exact .inl a;exact .inl (by by_cases g:x∈d;exact g;exact(h ⟨f,g⟩).elim);exact .inr ⟨a,f⟩
def Kg{g:Gr}(f:right g=xk)(x:Int):∀y∈outs g x,-1<=y/\y<I g.nodes:=by
 intro y a;unfold outs at a;cases d:g.nodes[x.toNat]? with
 |none=>rw[d]at a;cases a
 |some n=>rw[d]at a;exact Cs f n (Zf5 d) y a
def IL{g:Gr}(n:right g=xk):∀ {f i:Nat} {l:Z9},Good (I g.nodes) l->i<=I l->I g.nodes<f+i->l=ZY [] (g.E++(l.take i).flatMap (outs g))->
  Xw g f i l=ZY [] (g.E++(Xw g f i l).flatMap (outs g))
 |0,i,l,j,p,o,a=>by have:=j.len;omega
 |f+1,i,l,j,p,o,a=>by
  simp only[Xw];cases d:l[i]? with
  |none=>
   have:I l<=i:=Zeg;rw[Zgn this]at a;exact a
  |some x=>
   have q:i<I l:=by
    obtain h|h:=Zje i<|I l;exact h;rw[ZfP h]at d;cases d
   obtain⟨t,k⟩:=yr (outs g x) (acc:=l);refine IL n (Tm j λy r=>(Kg n x y r).2) ?_ Z0 ?_;show i+1<=I (ZY l<|outs g x);rw[k,ZfK];omega;show ZY l (outs g x)=ZY [] (g.E++((ZY l<|outs g x).take<|i+1).flatMap (outs g));rw[k,Zi8 Z0,Zgt,d,<-k];simp only[List.flatMap_append,Option.toList,<-Zg1];rw[Ij,<-a];simp
def IM{g:Gr}(a:right g=xk):order g=ZY [] (g.E++(order g).flatMap (outs g)):=by
 refine IL a (Tm ⟨List.nodup_nil,Z1⟩ λy d=>(R2 a y d).2) (Zg5 _) Z0 ?_;simp
def M0:Fn:=⟨10,[0,1,2,8,3,12,11,13,5,10],pQ [pR [(1,pS 0 2),pV 2<|pI 0],pQ [pC [pK 10 40 [.mm 1 0 2]] [pV 3<|.un .not<|.s 10]]<|pw (.s 3)<|px [pV 2<|pI 0],pR [pV 4<|pI 0],pQ [pR [pV 5<|pI 0,pV 6<|.len<|.m 1 0,pV 9<|.m 1 0]]<|po [0,1,2,3,4,5,6,9] 7 (pl (.s 5)<|.s 6) (pQ [pR [(8,pM (.bc (.bv (.s 9) (.s 5) 2) 0 2) 2)]]<|pR [pV 4<|pa (.s 4)<|pa (pa (pI 1)<|.len<|.m 8 0)<|.len<|.m 8 1])<|pc 5]<|px [pV 2<|.s 4],[(2,.v)]⟩
def c22:xQ [.fz] Try.f22=J M0:=Z2
end Vm
end
section
namespace Vm
open Go Go.Proofs
def Uh(n:Nd):Nat:=1+I n.ac+I n.data
def Wf(l:List Nd):Nat:=(l.map Uh).sum
def words(g:Gr):Nat:=if right g=xk then Wf g.nodes else 0
def Z9K{l:List Nd}{i:Nat}{x:Nd}(h:l[i]?=J x):Wf (l.take<|i+1)=Wf (l.take i)+Uh x:=by
 unfold Wf;rw[Zgt,h,Zgf,Zih];simp
def Z9I{l:List Nd}(h:∀n∈l,I n.ac<=100000/\I n.data<=100000)(i:Nat):Wf (l.take i)<=I l*200001:=by
 have:∀ {l:List Nd},(∀n∈l,I n.ac<=100000/\I n.data<=100000)->Wf l<=I l*200001:=by
  intro l;induction l with
  |nil=>intro _;simp[Wf]
  |cons x l f=>
   intro h;have g:=f λn a=>h n (by simp[a]);have j:=h x Z1;have k:Uh x<=200001:=by unfold Uh;omega
   have d:Wf (x::l)=Uh x+Wf l:=by simp[Wf]
   rw[d,Zgd,Zgh];omega
 refine Zfw (this λn a=>h n<|Zga a)<|ZfG _ ?_;rw[Zg0];omega
def Z0F{g:Gr}(l:g.sm):VC xP 22 xw [Yy g]<|vi<|words g:=by
 refine Y4 Z02 follows Z2 c22 rfl ?_;simp[M0];refine ZC (Nx l) Z1 ?_;cases p:right g;simp[words,p];obtain⟨d,r,a⟩:=l;simp;refine Qm (λt=>∃i:Nat,i<=I g.nodes/\t=[.v<|Yy g,.m [.sl<|g.nodes.map Xl,.sl<|g.E.map vi],.v<|vi 0,.v<|.bool xw,.v<|vi (Wf (g.nodes.take i):Nat),.v<|vi i,.v<|vi<|I g.nodes,.no,.no,.v<|.sl<|g.nodes.map Xl]) (λt=>match get t 5 with|.v (.int _ n)=>I g.nodes-n.toNat|_=>0) ?_ ?_;exact⟨0,Z1,by simp[Wf]⟩;rintro t ⟨i,B,rfl⟩;by_cases h:i<I g.nodes;have y:g.nodes[i]?=J g.nodes[i]:=ZeX h;obtain⟨z,A⟩:=a _<|Zfr h;have q:=Z9K y;have u:=Z9I a<|i+1;have o:I g.nodes*200001<=100000*200001:=ZfG _ d;simp[h];generalize g.nodes[i]=x at*;have w:=ZB ((i:Int)+1) Z0 Z0;have f:=ZB (1+(I x.ac:Int)) Z0 Z0;have j:=ZB (1+(I x.ac:Int)+I x.data) Z0 Z0;unfold Uh at q;have k:=ZB ((Wf (g.nodes.take i):Int)+(1+(I x.ac:Int)+I x.data)) Z0 Z0;simp[w,f,j,k];exact⟨⟨i+1,Z0,by rw[q];omega,Z1⟩,Z0⟩;have:i=I g.nodes:=Z0;subst this;simp[words,p]
@[simp]theorem ZdB{α β:Type}{f:α->β}{l:List α}:(l.map f).take (I l)=l.map f:=Zgn (by simp)
end Vm
namespace Vm
open Go Go.Proofs
def yt{f:Int->Int}:∀ {o l:List Int},(∀x∈ZY l o,∀y∈ZY l o,f x=f y->x=y)->(∀x∈ZY l o,0<=f x)->(∀x∈o,x<0->f x<0)->ZY (l.map f) (o.map f)=(ZY l o).map f
 | [],l,_,_,_=>rfl
 |y::o,l,d,g,k=>by
  simp only[Zft,ZY];simp only[ZY]at d g;by_cases j:0<=y/\y∉l;rw[Zfc j]at d g⊢;have h:y∈ZY (l++[y]) o:=Q2.2<|.inl Z1
  have a:0<=f y/\f y∉l.map f:=⟨g y h,λu=>by
   obtain⟨z,p,t⟩:=Zfh.1 u;have:=d z (Q2.2<|.inl (by simp[p])) y h t;subst this;exact j.2 p⟩
  rw[Zfc a,show l.map f++[f y]=(l++[y]).map f by simp];exact yt d g λx n=>k x (by simp[n]);rw[Zf7 j]at d g⊢;have a:¬(0<=f y/\f y∉l.map f):=by
   rintro⟨w,r⟩;by_cases q:0<=y;exact r<|Zfh.2 ⟨y,by by_cases h:y∈l;exact h;exact(j ⟨q,h⟩).elim,rfl⟩;have:=k y Z1 Z0;omega
  rw[Zf7 a];exact yt d g λx n=>k x (by simp[n])
def BA{g:Gr}:∀ {F i:Nat} {l:List Int},∃t,Xw g F i l=l++t
 |0,i,l=>⟨[],by simp[Xw]⟩
 |F+1,i,l=>by
  simp only[Xw];cases l[i]? with
  |none=>exact⟨[],Z1⟩
  |some x=>
   obtain⟨t,d⟩:=yr ((g.nodes[x.toNat]?).getD default).ac (acc:=l);obtain⟨f,a⟩:=BA (g:=g) (F:=F) (i:=i+1) (l:=ZY l ((g.nodes[x.toNat]?).getD default).ac);refine⟨t++f,?_⟩;show Xw g F (i+1) (ZY l ((g.nodes[x.toNat]?).getD default).ac)=_;rw[a,d,Zg1]
def Bz{g:Gr}(d:right g=xk):∀ {F i:Nat} {l:List Int} (k:Nat),Good (I g.nodes) l->I g.nodes<F+i->Xw g (F+k) i l=Xw g F i l
 |0,i,l,k,a,f=>by
  have:=a.len;cases k with
  |zero=>rfl
  |succ k=>
   simp only[ZfL,Xw];rw[ZfP Z0]
 |F+1,i,l,k,a,f=>by
  rw[show F+1+k=(F+k)+1 by omega];simp only[Xw];cases j:l[i]? with
  |none=>rfl
  |some x=>
   exact Bz d k (Tm a λy h=>(Kg d x y h).2) Z0
def IK{g h:Gr}{f:Int->Int}(d:∀x∈order g,(h.nodes[(f x).toNat]?).map (·.ac)=J ((outs g x).map f))(n:∀x∈order g,∀y∈outs g x,y<0->f y<0)(k:∀x∈order g,∀y∈order g,f x=f y->x=y)(o:∀x∈order g,0<=f x):
  ∀ {F i:Nat} {l:List Int},(∀x∈Xw g F i l,x∈order g)->Xw h F i (l.map f)=(Xw g F i l).map f
 |0,i,l,_=>rfl
 |F+1,i,l,q=>by
  simp only[Xw,Zfo];simp only[Xw]at q;cases A:l[i]? with
  |none=>rfl
  |some x=>
   rw[A]at q;simp only[Zfm];simp only at q;have u:x∈order g:=by
    obtain⟨t,C⟩:=yr ((g.nodes[x.toNat]?).getD default).ac (acc:=l);obtain⟨G,p⟩:=BA (g:=g) (F:=F) (i:=i+1) (l:=ZY l ((g.nodes[x.toNat]?).getD default).ac);refine q x ?_;rw[p,C];simp[Zf5 A]
   have r:=d x u;cases z:h.nodes[(f x).toNat]? with
   |none=>rw[z]at r;cases r
   |some H=>
    rw[z]at r;simp only[Zfm,ZeV]at r;simp only[Zfv,r];have j:∀y∈ZY l (outs g x),y∈order g:=λy D=>by
     obtain⟨G,p⟩:=BA (g:=g) (F:=F) (i:=i+1) (l:=ZY l<|outs g x);refine q y ?_;show y∈Xw g F (i+1) (ZY l<|outs g x);rw[p];simp[D]
    rw[yt (λa w b B=>k a (j a w) b<|j b B) (λa w=>o a<|j a w)<|n x u];exact IK d n k o q
def QW{g:Gr}(d:right g=xk){x:Int}(hx:x∈g.E)(a:0<=x):x∈order g:=by
 rw[IM d,Q2];exact .inr ⟨by simp[hx],a⟩
def Ho{g:Gr}(d:right g=xk){x y:Int}(hx:x∈order g)(f:y∈outs g x)(a:0<=y):y∈order g:=by
 rw[IM d,Q2];exact .inr ⟨Zh4 _<|Zhk.2 ⟨x,hx,f⟩,a⟩
def Z0T{L:List Int}{f:Int->Int}{p:Int}(d:∀x∈L,f x=f p->x=p):Uw (L.map f) (f p)=Uw L p:=by
 unfold Uw;rw[List.findIdx?_map];have:L.findIdx? ((λx=>x==f p)∘f)=L.findIdx? (λx=>x==p):=by
  induction L with
  |nil=>rfl
  |cons a L k=>
   simp only[ZhK,Function.comp];have g:(f a==f p)=(a==p):=by
    rw[ZhH];simp only[ZfN];exact⟨d a Z1,λe=>by rw[e]⟩
   have h:=k λx j=>d x (by simp[j]);simp only[g];rw[h]
 rw[this]
def Z1t{g h:Gr}(o:right g=xk)(L:right h=xk)(f:Int->Int)(P:f (-1)= -1)(q:∀x∈order g,∀y∈order g,f x=f y->x=y)(r:∀x∈order g,0<=f x)
  (n:h.E=g.E.map f) (k:∀x∈order g,h.nodes[(f x).toNat]?=J ⟨(outs g x).map f,((g.nodes[x.toNat]?).getD default).data⟩):
  order h=(order g).map f/\Y0 h=Y0 g:=by
 have z:∀x:Int,-1<=x->x<0->f x=x:=λx C D=>by
  have:x= -1:=Z0;subst this;exact P
 have w:∀x∈order g,(h.nodes[(f x).toNat]?).map (·.ac)=J ((outs g x).map f):=λx a=>by rw[k x a];rfl
 have G:order h=(order g).map f:=by
  have t:Good (I g.nodes)<|ZY [] g.E:=Tm ⟨Z1,Z1⟩ λx a=>(R2 o x a).2;have u:Good (I h.nodes)<|ZY [] h.E:=Tm ⟨Z1,Z1⟩ λx a=>(R2 L x a).2;have C:=Bz o (F:=I g.nodes+1) (i:=0) (I h.nodes) t Z0;have D:=Bz L (F:=I h.nodes+1) (i:=0) (I g.nodes) u Z0;have M:=IK (f:=f) w (λx a y B d=>by rw[z y (Kg o x y B).1 d];exact d) q r (F:=I g.nodes+1+I h.nodes) (i:=0) (l:=ZY [] g.E) (λx a=>by rw[C]at a;exact a);have N:ZY [] h.E=(ZY [] g.E).map f:=by
   rw[n];refine yt (l:=[]) (λx a y B=> ?_) (λx a=> ?_) (λx a d=> ?_);rw[Q2]at a B;simp at a B;exact q x (QW o a.1 a.2) y<|QW o B.1 B.2;rw[Q2]at a;simp at a;exact r x<|QW o a.1 a.2;rw[z x (R2 o x a).1 d];exact d
  unfold order;rw[<-D,<-C,N,<-M];congr 1;omega
 refine⟨G,?_⟩;have j:∀H:List Int,(∀p∈H,-1<=p/\(0<=p->p∈order g))->Wd (order h) (H.map f)=Wd (order g) H:=by
  intro H K;unfold Wd;rw[Zh3];refine Zgp λp A=> ?_;obtain⟨C,D⟩:=K p A;simp only[Function.comp];by_cases d:0<=p;rw[Zfc<|r p<|D d,Zfc d,G];exact Z0T λx a O=>q x a p (D d) O;rw[z p C Z0];rw[Zf7 d,Zf7 d]
 unfold Y0;congr 1;rw[G,Zh3];refine Zgp λx a=> ?_;simp only[Function.comp,Sz,k x a,Zfv];congr 1;rw[<-G];exact j _ λp A=>⟨(Kg o x p A).1,λd=>Ho o a A d⟩;rw[n];exact j _ λp A=>⟨(R2 o p A).1,λd=>QW o A d⟩
def Z0S{L:List Int}{x:Int}(h:x∈L):0<=Uw L x/\Uw L x<I L/\L[(Uw L x).toNat]?=J x:=by
 unfold Uw;cases f:L.findIdx? (· ==x)with
 |none=>exact(A4.1 f h).elim
 |some i=>
  obtain⟨a,d,_⟩:=ZfO.1 f;simp only[ZfN]at d;refine⟨Z1,ZeM,?_⟩;simp[a,d]
def Nw{g:Gr}(h:right g=xk):right (Y0 g)=xk:=by
 have a:=Jb h;have k:∀r:List Int,(∀p∈r,-1<=p/\(0<=p->p∈order g))->∀q∈Wd (order g) r,VW (Y0 g).nodes.length q=xk:=by
  intro r o q z;obtain⟨p,d,rfl⟩:=Zfh.1 z;obtain⟨B,w⟩:=o p d;have y:(Y0 g).nodes.length=I (order g):=by simp[Y0]
  rw[y];simp only[VW,Zfp];split;rename_i j;have:=Z0S<|w j;omega;omega
 simp only[right,ZeZ,Zfb,Zfp];have f:=h;simp only[right,ZeZ,Zfb,Zfp]at f;refine⟨⟨by simpa[Y0,Wd]using f.1.1,λC n=> ?_⟩,k _ λp d=>⟨(R2 h p d).1,λj=>QW h d j⟩⟩;simp only[Y0,Zfh]at n;obtain⟨x,u,rfl⟩:=n;have A:=a.2 x u;have l:x.toNat<I g.nodes:=Z0;have t:=f.1.2 _<|Zfr l;simp only[TW,ZeZ,Zfp,Zfb]at t⊢;refine⟨by simpa[Sz,l,Wd]using t.1,?_⟩;exact k _ λp d=>⟨(Kg h x p d).1,λj=>Ho h u d j⟩
end Vm
end
section

end
section
namespace Vm
open Go Go.Proofs
structure Fo where
 ob:Ob
 ad:Int
 sl:List Int
 deriving Inhabited
def X4(f:Fo):V:=.agg [vi f.ob.Z,vi f.ob.size,vi f.ob.ac,.bool f.ob.gone,vu f.ob.target,vu f.ad,.sl<|f.sl.map vu]
@[simp]theorem Zc6(f:Fo):(X4 f).cells=[vi f.ob.Z,vi f.ob.size,vi f.ob.ac,.bool f.ob.gone,vu f.ob.target,vu f.ad,.sl<|f.sl.map vu]:=rfl
@[simp]theorem Zdu(f:Fo):Up (X4 f) 7=J (X4 f):=rfl
@[simp]theorem Zc0(f:Fo):UB (X4 f) 0 7=J (X4 f):=rfl
@[simp]theorem Zbn(f:Fo):Y1 (X4 f) 0=J (vi f.ob.Z):=rfl
@[simp]theorem Zbo(f:Fo):Y1 (X4 f) 1=J (vi f.ob.size):=rfl
@[simp]theorem Zbp(f:Fo):Y1 (X4 f) 2=J (vi f.ob.ac):=rfl
@[simp]theorem Zbq(f:Fo):Y1 (X4 f) 3=J (.bool f.ob.gone):=rfl
@[simp]theorem Zbr(f:Fo):Y1 (X4 f) 4=J (vu f.ob.target):=rfl
@[simp]theorem Zbs(f:Fo):Y1 (X4 f) 5=J (vu f.ad):=rfl
@[simp]theorem Zbt(f:Fo):Y1 (X4 f) 6=J (.sl<|f.sl.map vu):=rfl
@[simp]theorem Zdk(l:List Fo):XA 7 (l.map X4)=xk:=Ln λ_=>rfl
structure Vw where
 ns:List Fo
 nm:List<|Int×Int
 tm:List<|Int×Int
 deriving Inhabited
def Vw.put(s:Vw)(f:Fo):Vw:=if f.ob.gone then {s with tm:=XE s.tm f.ad f.ob.target}else {s with ns:=s.ns++[f],nm:=XE s.nm f.ad (I s.ns)}
def Vw.ct(s:Vw)(w:Int):Int:=if w=0 then-1 else(ZT s.nm<|(ZT s.tm (adr w).1).getD (adr w).1).getD 0
def V8(s:Vw)(f:Fo):Nd:=⟨(f.sl.take f.ob.ac.toNat).map s.ct,f.sl.drop f.ob.ac.toNat⟩
def Vw.gr(s:Vw)(a:Z9):Gr:=⟨s.ns.map<|V8 s,a.map s.ct⟩
def Ep(s:Vw){ws:Z9}(B:I ws<=1000000)(x:∀w∈ws,ZA w):
  Vd xP 37 [.fz,.mem [.fz],.mem [.fz]] [.sl<|ws.map vu,.agg [Y5 vu s.tm],.agg [Y5 vi s.nm]] (.ak [.sl<|(ws.map s.ct).map vi,.agg [Y5 vu s.tm],.agg [Y5 vi s.nm]]):=by
 refine Jv Z05 follows Z2 cTo Z2 ?_;simp[Mx];refine Tz 5 (I ws) (λi=>[(4,.v<|.sl<|((ws.take i).map s.ct).map vi),(5,.v<|vi i)]) (λ_=>True) Z1 Z1 trivial ?_;intro i A _;by_cases h:i<I ws;have y:ws[i]?=J ws[i]:=ZeX h;have r:=x _<|Zfr h;have o:=ZB ((i:Int)+1) Z0 Z0;have q:List.take (i+1) (List.map (vi∘s.ct) ws)=List.take i (List.map (vi∘s.ct) ws)++[vi<|s.ct ws[i]]:=by
  rw[Zgt,Zfo,y];rfl
 have a:min i (I ws)+1<=YJ:=by unfold YJ;omega
 simp[h,o,q,a];split;simp_all[Vw.ct];rename_i p;refine ZC (JI r) Z1 ?_;have j:=RW (f:=vu) (l:=s.tm) (k:=(adr ws[i]).1) (z:=.int .u64 0) (ok:=xk);cases n:ZT s.tm (adr ws[i]).1 with
 |none=>
  rw[n]at j;have d:=RW (f:=vi) (l:=s.nm) (k:=(adr ws[i]).1) (z:=.int .i64 0) (ok:=xw);cases g:ZT s.nm (adr ws[i]).1 with
  |none=>rw[g]at d;simp[j,d,Vw.ct,p,n,g,o,a]
  |some t=>rw[g]at d;simp[j,d,Vw.ct,p,n,g,o,a]
 |some u=>
  rw[n]at j;have d:=RW (f:=vi) (l:=s.nm) (k:=u) (z:=.int .i64 0) (ok:=xw);cases g:ZT s.nm u with
  |none=>rw[g]at d;simp[j,d,Vw.ct,p,n,g,o,a]
  |some t=>rw[g]at d;simp[j,d,Vw.ct,p,n,g,o,a]
 have:i=I ws:=Z0;simp_all
def Z71{s:St}{st:Vw}{f:Fo}{N R:St->Prop}{X:Nat->St->Prop}(o:get s 6=.v (.sl<|st.ns.map X4))(p:get s 7=.m [Y5 vi st.nm])(q:get s 8=.m [Y5 vu st.tm])(h:get s 12=.v (.ak [X4 f,.bool xk]))(g:get s 10=.v (.bool xk))(u:I st.ns<=4000000)
  (r:∀a,get a 6=.v (.sl<|(st.put f).ns.map X4)->get a 7=.m [Y5 vi (st.put f).nm]->get a 8=.m [Y5 vu (st.put f).tm]->get a 1=get s 1->get a 2=get s 2->get a 3=get s 3->N a):Ym xP rD s N X R:=by
 have j:=Kw (f:=vu) (l:=st.tm) (k:=f.ad) (x:=f.ob.target);have n:=Kw (f:=vi) (l:=st.nm) (k:=f.ad) (x:=(I st.ns:Int));have d:I st.ns+1<=YJ:=by unfold YJ;omega
 cases t:f.ob.gone;simp_all[rD,YQ,Vw.put,X4];simp_all[rD,YQ,Vw.put]
def Z70{s:St}{N R:St->Prop}{X:Nat->St->Prop}(a:get s 10=.v (.bool xw))(d:X 0 s):Ym xP rD s N X R:=by
 simp[rD,a,d]
structure Vw.sm (st:Vw) (roots:List Int):Prop where
 n:I st.ns<=100000
 f:∀f∈st.ns,0<=f.ob.ac/\f.ob.ac<=I f.sl/\I f.sl<=100000/\∀w∈f.sl,ZA w
 r:I roots<=100000/\∀w∈roots,ZA w
def Vw.sm.gr{st:Vw}{a:Z9}(h:st.sm a):(st.gr a).sm:=by
 refine⟨by simpa[Vw.gr]using h.n,by simpa[Vw.gr]using h.r.1,λn d=> ?_⟩;simp only[Vw.gr,Zfh]at d;obtain⟨f,g,rfl⟩:=d;obtain⟨_,_,j,_⟩:=h.f f g;grind [V8,List.length_map,List.length_take,List.length_drop]
def Z6Z{s:St}{st:Vw}{roots:Z9}{b c t y sc:V}{K L M O:V}{N R:St->Prop}{X:Nat->St->Prop}(k:st.sm roots)(x:get s 1=.m [b,c,t,y,sc,K,L,M,O,.sl<|roots.map vu])(o:get s 6=.v (.sl<|st.ns.map X4))(z:get s 7=.m [Y5 vi st.nm])(A:get s 8=.m [Y5 vu st.tm])
  (a:∀D,XW D [(2,.ag 2),(3,.v)]=J (V2<|st.gr roots)->R D):Ym xP rC s N X R:=by
 simp[rC,o,YQ];refine Tz 16 (I st.ns) (λi=>[(15,.m [.sl<|((st.ns.take i).map<|V8 st).map Xl,.sl []]),(16,.v<|vi i)]) (λ_=>True) (by simp[YQ]) (by simp[YQ]) trivial ?_;intro i Q _;by_cases h:i<I st.ns;have G:st.ns[i]?=J st.ns[i]:=ZeX h;obtain⟨H,T,p2,p3⟩:=k.f _<|Zfr h;have S:=k.n;obtain⟨P,B⟩:=Zfd H;have d:P<=st.ns[i].sl.length:=Z0;have u:=ZB ((i:Int)+1) Z0 Z0;have q:List.take (i+1) (List.map (Xl∘V8 st) st.ns)=List.take i (List.map (Xl∘V8 st) st.ns)++[Xl<|V8 st st.ns[i]]:=by
  rw[Zgt,Zfo,G];rfl
 have l:=Ep st (ws:=st.ns[i].sl.take P) Ze4 λw u=>p3 w<|Zga u;have j:min i (I st.ns)+1<=YJ:=by unfold YJ;omega
 simp[YQ,h,x,o,z,A,B,R7,d];rw[List.map_take]at l;refine VR l ?_;simp[YQ,Qe,d,u,q,j,B,V8,Xl];have:i=I st.ns:=Z0;subst this;simp[YQ,x,o,z,A];refine VR (Ep st (ws:=roots) (by have:=k.r.1;omega) k.r.2) ?_;simp;have C:=Pv k.gr;simp only[Vw.gr,Yy,Zh3]at C;refine ZC C Z1 ?_;have F:V2 (st.gr roots)=V2 {nodes:=List.map (V8 st) st.ns,E:=List.map st.ct roots}:=rfl;rw[F]at a;generalize ({nodes:=List.map (V8 st) st.ns,E:=List.map st.ct roots}:Gr)=g at*;unfold V2 at a⊢;split;rename_i p;rw[Zfc p]at a;simp;refine a _ ?_;simp[XW,VL,UP,Yy];rename_i p;rw[Zf7 p]at a;simp[Ui,Yy];refine a _ ?_;simp[XW,VL,UP,Ui,Yy]
end Vm
end
section
namespace Vm
open Go Go.Proofs Go.RowKit Go.Conc
def ES{t}(h:t.size=71):t=#[t.getD 0 xy,t.getD 1 xy,t.getD 2 xy,t.getD 3 xy,t.getD 4 xy,t.getD 5 xy,t.getD 6 xy,t.getD 7 xy,t.getD 8 xy,t.getD 9 xy,t.getD 10 xy,t.getD 11 xy,t.getD 12 xy,t.getD 13 xy,t.getD 14 xy,t.getD 15 xy,t.getD 16 xy,t.getD 17 xy,t.getD 18 xy,t.getD 19 xy,t.getD 20 xy,t.getD 21 xy,t.getD 22 xy,t.getD 23 xy,t.getD 24 xy,t.getD 25 xy,t.getD 26 xy,t.getD 27 xy,t.getD 28 xy,t.getD 29 xy,t.getD 30 xy,t.getD 31 xy,t.getD 32 xy,t.getD 33 xy,t.getD 34 xy,t.getD 35 xy,t.getD 36 xy,t.getD 37 xy,t.getD 38 xy,t.getD 39 xy,t.getD 40 xy,t.getD 41 xy,t.getD 42 xy,t.getD 43 xy,t.getD 44 xy,t.getD 45 xy,t.getD 46 xy,t.getD 47 xy,t.getD 48 xy,t.getD 49 xy,t.getD 50 xy,t.getD 51 xy,t.getD 52 xy,t.getD 53 xy,t.getD 54 xy,t.getD 55 xy,t.getD 56 xy,t.getD 57 xy,t.getD 58 xy,t.getD 59 xy,t.getD 60 xy,t.getD 61 xy,t.getD 62 xy,t.getD 63 xy,t.getD 64 xy,t.getD 65 xy,t.getD 66 xy,t.getD 67 xy,t.getD 68 xy,t.getD 69 xy,t.getD 70 xy]:=by
 refine Zhq Z0 λi f d=> ?_;have a:i<71:=Zeg;have e:t[i]=t.getD i xy:=by simp[Array.getD,f]
 rw[e]
 revert d
 match i,a with
 |0,_=>simp
 |1,_=>simp
 |2,_=>simp
 |3,_=>simp
 |4,_=>simp
 |5,_=>simp
 |6,_=>simp
 |7,_=>simp
 |8,_=>simp
 |9,_=>simp
 |10,_=>simp
 |11,_=>simp
 |12,_=>simp
 |13,_=>simp
 |14,_=>simp
 |15,_=>simp
 |16,_=>simp
 |17,_=>simp
 |18,_=>simp
 |19,_=>simp
 |20,_=>simp
 |21,_=>simp
 |22,_=>simp
 |23,_=>simp
 |24,_=>simp
 |25,_=>simp
 |26,_=>simp
 |27,_=>simp
 |28,_=>simp
 |29,_=>simp
 |30,_=>simp
 |31,_=>simp
 |32,_=>simp
 |33,_=>simp
 |34,_=>simp
 |35,_=>simp
 |36,_=>simp
 |37,_=>simp
 |38,_=>simp
 |39,_=>simp
 |40,_=>simp
 |41,_=>simp
 |42,_=>simp
 |43,_=>simp
 |44,_=>simp
 |45,_=>simp
 |46,_=>simp
 |47,_=>simp
 |48,_=>simp
 |49,_=>simp
 |50,_=>simp
 |51,_=>simp
 |52,_=>simp
 |53,_=>simp
 |54,_=>simp
 |55,_=>simp
 |56,_=>simp
 |57,_=>simp
 |58,_=>simp
 |59,_=>simp
 |60,_=>simp
 |61,_=>simp
 |62,_=>simp
 |63,_=>simp
 |64,_=>simp
 |65,_=>simp
 |66,_=>simp
 |67,_=>simp
 |68,_=>simp
 |69,_=>simp
 |70,_=>simp
 |i+71,h=>omega
def R8(v:Zc)(a n:Nat):Value:=match v with
 |.slice (J ⟨b,o,q⟩) _ c=>.slice (J<|if c=a then⟨b,o,q⟩else⟨b,o+a,q⟩) n<|c-a
 |v=>v
def Uc(h:Hp)(x:Z5)(p:Nat)(o:Ob):Value:=.agg #[.int .i64 o.Z,.int .i64 o.size,.int .i64 o.ac,.bool o.gone,.int .u64 o.target,.int .u64 (Yr (Zv h) ((p:Int)+1) o.Z).1,R8 (x p) (o.Z+1).toNat o.size.toNat]
def obP(h:Hp)(p:Nat):List Ob:=(Uj h<|(p:Int)+1).1
def Wc(h:Hp)(x:Z5):Nat->Nat->List Value
 |0,_=>[]
 |n+1,p=>(obP h p).map (Uc h x p)++Wc h x n (p+1)
noncomputable def seC:Code:=match Try.f36.body with|some c=>c|none=>.skip
noncomputable def clOps:Array Oper:=KO<|Yi seC [1,1,1]
def Dt(c:Nat)(b:Zg)(d:Z7)(fr:Zg)(cs:Z7)(w:Z3):Prop:=cs=d/\∃a,fr=b.at a [.inRegion clOps [1]]/\a.tmps[70]?=J (.chan<|J c)/\a.defers=[]
def Z74{w G h x}(d:∀j,j<5->Rd w G (.sl<|(Zu h j).map vu) (x j)):Rd w G (ZD h)<|Zx h x:=by
 refine .agg _ _ rfl Z1 ?_;intro i y a
 match i,a with
 |0,a=>cases a;exact .int _ _
 |1,a=>cases a;exact .int _ _
 |2,a=>cases a;exact .int _ _
 |3,a=>cases a;exact .bool _
 |4,a=>cases a;exact .int _ _
 |5,a=>cases a;exact d 0 Z0
 |6,a=>cases a;exact d 1 Z0
 |7,a=>cases a;exact d 2 Z0
 |8,a=>cases a;exact d 3 Z0
 |9,a=>cases a;exact d 4 Z0
def PM{w:Z3}{G:Z4}{h:Hp}(u:h.ok){x:Z5}(o:∀b,G b->b<xz (xj w))(z:∀j,j<5->Rd w G (.sl<|(Zu h j).map vu) (x j))(p:Int):
  Calls xP 61 #[Zx h x,.int .i64 p] w λe f=>∃s,e=.returned (.tuple #[s,.int .i64 (Uj h p).2])/\Below (xz<|xj w) w f/\Rd f (λb=>b<xz (xj f)) (.sl<|(Uj h p).1.map ZL) s:=by
 refine Zhc ((Po u (k:=p)).2 w G _ o rfl ?_) ?_;intro i y d
 match i,d with
 |0,d=>cases d;exact Z74 z
 |1,d=>cases d;exact .int _ _
 rintro e f ⟨v,rfl,q,A⟩;cases A with
 |ak _ vs l n=>
  have t:=n 0 _ rfl;have g:=S6<|n 1 _ rfl;simp only[Zgd,Zg2]at l;refine⟨vs.getD 0 xy,?_,q,t.mono λb a=> ?_⟩;congr 2;refine Zhq ZeT λi r B=> ?_;have:i=0\/i=1:=by simp at B;omega
  obtain rfl|rfl:=this;simp[Array.getD,r];simp[Array.getD,r]at g;simpa using g;obtain⟨_,a⟩|a:=a;exact Zf4 (o b a) q.size;exact a.2
def u71 a b:(#[a,b]:Array Value)++Array.replicate (71- (#[a,b]:Array Value).size) xy=#[a,b,xy,xy,xy,xy,xy,xy,xy,xy,xy,xy,xy,xy,xy,xy,xy,xy,xy,xy,xy,xy,xy,xy,xy,xy,xy,xy,xy,xy,xy,xy,xy,xy,xy,xy,xy,xy,xy,xy,xy,xy,xy,xy,xy,xy,xy,xy,xy,xy,xy,xy,xy,xy,xy,xy,xy,xy,xy,xy,xy,xy,xy,xy,xy,xy,xy,xy,xy,xy,xy]:=Z2
structure SSt (w:World) (h:Hp) (x:Nat->Value) (b4:Nat) (W:World):Prop where
 bp:Below (xz<|xj w) w W
 c2:W.heap[xz<|xj w]?=J (.cells #[.int .u64 h.base,.int .i64 h.cap,.int .i64 h.to,.bool h.M,.int .i64 h.Y,x 0,x 1,x 2,x 3,x 4] 27 (0,0))
 c4:W.heap[b4]?=J (.cells #[.int .u64 h.base,.int .i64 h.cap,.int .i64 h.to,.int .i64<|I h.H,.int .i64<|I h.aa,.int .i64<|I h.an,.int .i64<|I h.am] 82 (0,0))
def SSt.below{w W W' h x d}(s:SSt w h x d W)(a:Below (xz<|xj W) W W'):SSt w h x d W':=
 ⟨s.bp.trans<|a.mono s.bp.size,(a.block _<|ZV s.c2).trans s.c2,(a.block _<|ZV s.c4).trans s.c4⟩
def Lb{W G}{l:Z9}{y}(h:Rd W G (.sl<|l.map vu) y):∃a c,y=.slice a (I l) c:=by
 generalize f:l.map vu=L at h;have j:I L=I l:=by rw[<-f,Zfu]
 cases h with
 |nil a c d=>simp_all
 |sl _ b o cap k vs d g=>simp_all
def Z7Y{P W T f}(p:P.underlying T=J (.slice f))(q:(Go.sizeOf f).run P W=.ok 1 W){b o len cap:Nat}{d a:Int}(g:0<=d)(h2:d<=a)(r:a<=cap):
  (Instr.slice T (.slice (J ⟨b,o,U⟩) len cap) (J<|.int .i64 d) (J<|.int .i64 a) U).run P W=.ok (R8 (.slice (J ⟨b,o,U⟩) len cap) d.toNat (a-d).toNat) W:=by
 obtain⟨l,rfl⟩:=Zfd g;obtain⟨k,rfl⟩:=Zfd (Z0:0<=a);have h:l<=k:=Z0;have j:k<=cap:=Z0;have n:(k- (l:Int)).toNat=k-l:=Z0;simp[Instr.slice,Instr.sliceBounds,Instr.sliceBound,asIntOf,ZfD p,q,h,j,n,R8,Addr.add];grind
def Z7b{W G}{l:Z9}{y}(h:Rd W G (.sl<|l.map vu) y)(f:0<I l){a n k}(e:y=.slice a n k):∃b o,a=J ⟨b,o,U⟩/\I l<=k/\k<=maxLen:=by
 generalize j:l.map vu=L at h;cases h with
 |nil a c d=>simp_all
 |sl _ b o cap p vs d g=>grind
def Z78{W G}{l:Zk}{y}(h:Rd W G (.sl<|l.map ZL) y):∃a c,y=.slice a (I l) c:=by
 generalize f:l.map ZL=L at h;have j:I L=I l:=by rw[<-f,Zfu]
 cases h with
 |nil a c d=>simp_all
 |sl _ b o cap k vs d g=>simp_all
def qw:Try.f36.body=J seC:=Z2
def Z4v{Q c Post es}{fn:Func}{code d a}{b:Zg}{w cs}(f:fn.body=J code)(h2:fn.body=J d)(h:LS Q c Post es (b.at a [.code code]) cs w):LS Q c Post es (b.at a [.code d]) cs w:=by
 simp_all
def Z8f(b:Zg)(b7:Z7)(w:Z3)(h:Hp)(hh:h.ok)(x:Z5)(c:Nat)(G:Z4)(hG:∀b,G b->b<xz (xj w))(hr:∀j,j<5->Rd w G (.sl<|(Zu h j).map vu) (x j))
  (d6:∀p,p<4->I (obP h p)<=1000000/\∀o∈obP h p,0<=o.Z/\0<=o.size/\o.Z+1+o.size<=I (Zu h p)):
  LS xP c (Dt c b b7) ((Wc h x 4 0).map .send) (b.at {tmps:=#[Zx h x,.chan<|J c]++Array.replicate (71- (#[Zx h x,.chan<|J c]:Array Value).size) xy,defers:=[]} [.code seC]) b7 w:=by
 obtain⟨Q,k0,e0⟩:=Lb<|hr 0 Z0;obtain⟨R,k1,e1⟩:=Lb<|hr 1 Z0;obtain⟨S,k2,e2⟩:=Lb<|hr 2 Z0;obtain⟨T,k3,e3⟩:=Lb<|hr 3 Z0;have A:=Zf0<|And.intro e0<|And.intro e1<|And.intro e2 e3;have HL:∀W,Below (xz<|xj w) w W->Calls xP 29 #[Zx h x] W λe w'=>e=.returned (Tk<|Zv h)/\Below (xz<|xj W) W w':=λW N=>
  LE (G:=G) (λb P=>Zf4 (hG b P) N.size) λj hj=>(hr j hj).keep (λb P=>N.block b<|hG b P) λ_ q=>q
 have HO:∀W,Below (xz<|xj w) w W->∀p,Calls xP 61 #[Zx h x,.int .i64 p] W λe w'=>∃s,e=.returned (.tuple #[s,.int .i64 (Uj h p).2])/\Below (xz<|xj W) W w'/\Rd w' (λb=>b<xz (xj w')) (.sl<|(Uj h p).1.map ZL) s:=λW N p=>
  PM hh (G:=G) (λb P=>Zf4 (hG b P) N.size) (λj hj=>(hr j hj).keep (λb P=>N.block b<|hG b P) λ_ q=>q) p
 unfold Zx at HL HO;rw[e0,e1,e2,e3]at HL HO;have HL:=Zf0 HL;have HO:=Zf0 HO;have HF:=Zf0<|And.intro hG hr;have HB:=Zf0 d6;clear hG hr d6;unfold Zx;rw[e0,e1,e2,e3];refine Z4v (fn:=Try.f36) rfl qw ?_;rw[u71];refine LS.cw (LS.dm λK u=> ?_);go_wp2;obtain⟨w2,z⟩:∃w2,w2=w.alloc (.cells #[.int .u64 h.base,.int .i64 h.cap,.int .i64 h.to,.bool h.M,.int .i64 h.Y,.slice Q (I<|Zu h 0) k0,.slice R (I<|Zu h 1) k1,.slice S (I<|Zu h 2) k2,.slice T (I<|Zu h 3) k3,x 4] 27):=⟨_,rfl⟩;rw[<-z];have b2:w2.heap[xz<|xj w]?=J (.cells #[.int .u64 h.base,.int .i64 h.cap,.int .i64 h.to,.bool h.M,.int .i64 h.Y,.slice Q (I<|Zu h 0) k0,.slice R (I<|Zu h 1) k1,.slice S (I<|Zu h 2) k2,.slice T (I<|Zu h 3) k3,x 4] 27 (0,0)):=by rw[z];exact Zfq ..
 have z2:xz (xj w2)=xz (xj w)+1:=by rw[z];simp
 have q2:Below (xz<|xj w) w w2:=by rw[z];exact(Zfg _ _).alloc (Zf3 _) _
 clear z;have y2:∀j,w2.cell? ⟨xz<|xj w,j,U⟩=(#[.int .u64 h.base,.int .i64 h.cap,.int .i64 h.to,.bool h.M,.int .i64 h.Y,.slice Q (I<|Zu h 0) k0,.slice R (I<|Zu h 1) k1,.slice S (I<|Zu h 2) k2,.slice T (I<|Zu h 3) k3,x 4]:Array Value)[j]? :=λj=>Zf6 _ _ _ _ _ _ b2;have d:=Zf0<|And.intro b2<|And.intro z2 q2;clear b2 z2 q2;refine LS.cw (LS.dm λK u=> ?_)
 go_wp2_with (first
  |(go_at_call 29;refine(HL.out _ d.out.2.2).mono ?_;rintro e w3 ⟨rfl,b9⟩;unfold Tk Zv;dsimp only;have L:=Zf0 b9;clear b9))
 obtain⟨W,N⟩:∃W,W=w3.alloc (.cells #[.int .u64 h.base,.int .i64 h.cap,.int .i64 h.to,.int .i64<|I h.H,.int .i64<|I h.aa,.int .i64<|I h.an,.int .i64<|I h.am] 82):=⟨_,rfl⟩;obtain⟨X,a8⟩:∃X,X=xz (xj w3):=⟨_,rfl⟩;rw[<-N,<-a8];have f:SSt w h x X W:=by
  have hz:=L.out.size;rw[N,a8];exact⟨(d.out.2.2.trans<|L.out.mono d.out.2.2.size).alloc (by have:=d.out.2.2.size;omega) _,by rw[Zfa _ _ _ (by have:=ZV d.out.1;omega)];rw[e0,e1,e2,e3];exact(L.out.block _<|ZV d.out.1).trans d.out.1,Zfq ..⟩
 clear N a8 L d y2 e0 e1 e2 e3;have y2:∀j,W.cell? ⟨xz<|xj w,j,U⟩=(#[.int .u64 h.base,.int .i64 h.cap,.int .i64 h.to,.bool h.M,.int .i64 h.Y,.slice Q (I<|Zu h 0) k0,.slice R (I<|Zu h 1) k1,.slice S (I<|Zu h 2) k2,.slice T (I<|Zu h 3) k3,x 4]:Array Value)[j]? :=λj=>Zeo;refine LS.cw<|LS.cw (LS.dm λK u=> ?_);go_wp2
 refine LS.block (LS.oq (λn es a W=>∃(p:Nat) (t:Za),p+n=4/\es=(Wc h x n p).map .send/\a=⟨t,[]⟩/\t.size=71/\t.getD 1 xy=.chan (J c)/\t.getD 2 xy=.pointer (J ⟨xz<|xj w,0,U⟩)/\t.getD 4 xy=.pointer (J ⟨X,0,U⟩)/\
  t.getD 24 xy=.agg #[.slice Q (I<|Zu h 0) k0,.slice R (I<|Zu h 1) k1,.slice S (I<|Zu h 2) k2,.slice T (I<|Zu h 3) k3]/\t.getD 25 xy=.int .i64 p/\SSt w h x X W) (n:=4) ⟨0,_,rfl,rfl,rfl,rfl,rfl,rfl,rfl,rfl,rfl,f⟩ ?_)
 clear f y2 W;rintro n es a W ⟨p,t,hp,rfl,rfl,D,t1,t2,t4,F,H,f⟩ ih;have IH:=Zf0 ih;clear ih;rw[ES D,t1,t2,t4,F,H];obtain⟨g,hg⟩:∃g:Z5,∀i,t.getD i xy=g i:=⟨_,λ_=>rfl⟩;simp only[hg];clear hg t1 t2 t4 F H D t;have y2:∀j,W.cell? ⟨xz<|xj w,j,U⟩=(#[.int .u64 h.base,.int .i64 h.cap,.int .i64 h.to,.bool h.M,.int .i64 h.Y,.slice Q (I<|Zu h 0) k0,.slice R (I<|Zu h 1) k1,.slice S (I<|Zu h 2) k2,.slice T (I<|Zu h 3) k3,x 4]:Array Value)[j]? :=λj=>Zeo;cases n with
 |zero=>
  have d8:((p:Int)<4)=False:=ZgU Z0;refine LS.cw (LS.dm λK u=> ?_);go_wp2;refine LS.cw<|LS.oe rfl<|LS.exit rfl<|LS.region ?_;refine LS.value (i:=0) (l:=[1]) rfl rfl rfl ?_;exact LS.df ⟨rfl,_,rfl,rfl,rfl⟩
 |succ n=>
  have d8:((p:Int)<4)=True:=Zhn Z0;have f7:p<4:=Z0;refine LS.cw (LS.dm λK u=> ?_);go_wp2;refine LS.cw<|LS.og rfl<|LS.skip<|LS.cw<|LS.block<|LS.cw (LS.dm λK u=> ?_);obtain⟨ap,kp,ep⟩:=Lb<|HF.out.2 p Z0;have d5:∀W,(Instr.index 142 (.agg #[.slice Q (I<|Zu h 0) k0,.slice R (I<|Zu h 1) k1,.slice S (I<|Zu h 2) k2,.slice T (I<|Zu h 3) k3])<|.int .i64 (p:Int)).run xP W=.ok (.slice ap (I<|Zu h p) kp) W:=by
   intro W;have hT:xP.underlying 142=J (.array 4 25):=Z2;have:p=0\/p=1\/p=2\/p=3:=Z0;rw[<-ep];obtain rfl|rfl|rfl|rfl:=this;rw[A.out.1];rfl;rw[A.out.2.1];rfl;rw[A.out.2.2.1];rfl;rw[A.out.2.2.2];rfl
  have EP:=Zf0 ep;clear ep;go_wp2;clear d5;have b6:=ZB ((p:Int)+1) Z0 Z0;refine LS.cw (LS.dm λK u=> ?_);go_wp2;have d:=Zf0 f;clear f;refine LS.cw (LS.dm λK u=> ?_)
  go_wp2_with (first
   |(go_at_call 61;refine(HO.out _ d.out.bp _).mono ?_;rintro e W5 ⟨s5,rfl,c0,r⟩;obtain⟨a5,k5,rfl⟩:=Z78 r;have a4:=Zf0<|And.intro c0 r;clear c0 r))
  refine LS.cw (LS.dm λK u=> ?_);go_wp2;have f:=d.out.below a4.out.1;have r:=a4.out.2;clear d a4 y2 W d8;rename_i W5;rw[show(Uj h<|(p:Int)+1).1=obP h p from rfl]at r⊢;have Z:=Z5s r λb P=>P;obtain⟨f6,d7⟩:=HB.out p f7;have d0:Wc h x (n+1) p=(obP h p).map (Uc h x p)++Wc h x n (p+1):=rfl;rw[d0];clear d0 r;have HX:=Zf0<|And.intro Z<|And.intro f6 d7;clear Z d7
  refine LS.block (LS.oq (λm es a W=>∃(i:Nat) (t:Za),i+m=I (obP h p)/\es=(((obP h p).drop i).map (Uc h x p)++Wc h x n (p+1)).map .send/\a=⟨t,[]⟩/\t.size=71/\t.getD 1 xy=.chan (J c)/\t.getD 2 xy=.pointer (J ⟨xz<|xj w,0,U⟩)/\t.getD 4 xy=.pointer (J ⟨X,0,U⟩)/\
   t.getD 6 xy=.slice ap (I<|Zu h p) kp/\t.getD 7 xy=.int .i64 ((p:Int)+1)/\t.getD 24 xy=.agg #[.slice Q (I<|Zu h 0) k0,.slice R (I<|Zu h 1) k1,.slice S (I<|Zu h 2) k2,.slice T (I<|Zu h 3) k3]/\t.getD 25 xy=.int .i64 p/\t.getD 37 xy=.slice a5 (I<|obP h p) k5/\t.getD 38 xy=.int .i64 (I<|obP h p)/\t.getD 39 xy=.int .i64 i/\
   SSt w h x X W/\Below (xz<|xj W5) W5 W) (n:=I<|obP h p) ⟨0,_,Z0,rfl,rfl,rfl,rfl,rfl,rfl,rfl,rfl,rfl,rfl,rfl,rfl,rfl,f,Zfg _ _⟩ ?_)
  clear f g b6;rintro m es a W ⟨i,t,hi,rfl,rfl,D,t1,t2,t4,t6,t7,F,H,f0,f1,f2,f,k⟩ ih;have f3:=Zf0 ih;clear ih;rw[ES D,t1,t2,t4,t6,t7,F,H,f0,f1,f2];obtain⟨g,hg⟩:∃g:Z5,∀i,t.getD i xy=g i:=⟨_,λ_=>rfl⟩;simp only[hg];clear hg t1 t2 t4 t6 t7 F H f0 f1 f2 D t;cases m with
  |zero=>
   have b3:((i:Int)< (I (obP h p):Int))=False:=ZgU Z0;refine LS.cw (LS.dm λK u=> ?_);go_wp2;refine LS.cw<|LS.oe rfl<|LS.exit rfl<|LS.inBlock ?_;have b6:=ZB ((p:Int)+1) Z0 Z0;have C:(obP h p).drop i=[]:=ZhT Z0;rw[C];clear C b3;refine LS.dm λK u=> ?_;go_wp2;exact IH.out n _ _ _ Z0 ⟨p+1,_,Z0,rfl,rfl,rfl,rfl,rfl,rfl,rfl,Z1,f⟩
  |succ m=>
   have b5:i< I (obP h p):=Z0;obtain⟨o,ho⟩:∃o,(obP h p)[i]?=J o:=⟨_,ZeX b5⟩;have b3:((i:Int)< (I (obP h p):Int))=True:=Zhn Z0;obtain⟨g5,o5,f8,e5,c8,g7,f5,B⟩|⟨a9,c9,e9,f4⟩:=HX.out.1;case inr=>rw[f4]at b5;simp at b5
   injection e5 with e5 _ e6;subst e5;subst e6;obtain⟨v0,v1,v2,v3,v4⟩:=B i o ho;have y:=k.block _ f5;have y0:W.cell? ⟨g5,o5+i*5,U⟩=J (.int .i64 o.Z):=by rw[ZfR y];exact v0
   have y1:W.cell? ⟨g5,o5+i*5+1,U⟩=J (.int .i64 o.size):=by rw[ZfR y];exact v1
   have y2:W.cell? ⟨g5,o5+i*5+2,U⟩=J (.int .i64 o.ac):=by rw[ZfR y];exact v2
   have y3:W.cell? ⟨g5,o5+i*5+3,U⟩=J (.bool o.gone):=by rw[ZfR y];exact v3
   have y4:W.cell? ⟨g5,o5+i*5+4,U⟩=J (.int .u64 o.target):=by rw[ZfR y];exact v4
   clear v0 v1 v2 v3 v4 y B;have HC:=Zf0 c8;clear c8;refine LS.cw (LS.dm λK u=> ?_);go_wp2;refine LS.cw<|LS.og rfl<|LS.skip<|LS.cw<|LS.block<|LS.cw (LS.dm λK u=> ?_);go_wp2;obtain⟨W6,O⟩:∃W6,W6=W.alloc (.cells #[.int .i64 o.Z,.int .i64 o.size,.int .i64 o.ac,.bool o.gone,.int .u64 o.target] 105):=⟨_,rfl⟩;obtain⟨Y,b1⟩:∃Y,Y=xz (xj W):=⟨_,rfl⟩;rw[<-O,<-b1];have b0:Below (xz<|xj W) W W6:=by rw[O];exact(Zfg _ _).alloc (Zf3 _) _
   have q6:W6.heap[Y]?=J (.cells #[.int .i64 o.Z,.int .i64 o.size,.int .i64 o.ac,.bool o.gone,.int .u64 o.target] 105 (0,0)):=by rw[O,b1];exact Zfq ..
   have a6:=f.below b0;have b8:=k.trans<|b0.mono k.size;clear O b1 b0 f k y0 y1 y2 y3 y4 W;have z4:∀j,W6.cell? ⟨X,j,U⟩=(#[.int .u64 h.base,.int .i64 h.cap,.int .i64 h.to,.int .i64<|I h.H,.int .i64<|I h.aa,.int .i64<|I h.an,.int .i64<|I h.am]:Array Value)[j]? :=λj=>Zf6 _ _ _ _ _ _ a6.c4;have zo:∀j,W6.cell? ⟨Y,j,U⟩=(#[.int .i64 o.Z,.int .i64 o.size,.int .i64 o.ac,.bool o.gone,.int .u64 o.target]:Array Value)[j]? :=λj=>Zf6 _ _ _ _ _ _ q6;have d:=Zf0<|And.intro a6<|And.intro b8 q6;clear a6 b8 q6;have HA:=Zf0 λW=>jq hh.bj ((p:Int)+1) o.Z W;unfold Tk Zv at HA;dsimp only at HA;refine LS.cw (LS.dm λK u=> ?_)
   go_wp2_with (first
    |(go_at_call 28;refine(HA.out _).mono ?_;rintro e W7 ⟨rfl,c1⟩;have M:=Zf0 c1;clear c1))
   have f:=d.out.1.below M.out;have k:=d.out.2.1.trans<|M.out.mono d.out.2.1.size;have q7:=(M.out.block _<|ZV d.out.2.2).trans d.out.2.2;clear z4 zo d M HA;rename_i W7;clear W6;obtain⟨f9,h2,g6⟩:=HX.out.2.2 o<|Zf5 ho;have d9:0< I (Zu h p):=Z0;obtain⟨bw,ow,ew,g3,g8⟩:=Z7b (HF.out.2 p Z0) d9 EP.out;subst ew;have C:(obP h p).drop i=o::(obP h p).drop (i+1):=by
    obtain⟨h1,rfl⟩:=ZeW.1 ho;exact Zg4 h1
   rw[C];rw[show(((o::(obP h p).drop (i+1)).map (Uc h x p)++Wc h x n (p+1)).map Ev.send)=.send (Uc h x p o)::(((obP h p).drop<|i+1).map (Uc h x p)++Wc h x n (p+1)).map .send from rfl];clear C ho b3;have zo:∀j,W7.drew.cell? ⟨Y,j,U⟩=(#[.int .i64 o.Z,.int .i64 o.size,.int .i64 o.ac,.bool o.gone,.int .u64 o.target]:Array Value)[j]? :=λj=>Zf6 _ _ _ _ _ _ (show W7.drew.heap[Y]?=_ from q7);have g4:=QZ hh p;have b6:=ZB (o.Z+1) Z0 Z0;have z:=ZB (o.Z+1+o.size) Z0 Z0;have e4:(0:Int)<=o.Z+1:=Z0;have e7:o.Z+1<=o.Z+1+o.size:=Z0;have e8:o.Z+1+o.size<=(kp:Int):=Z0;obtain⟨av,nv,cv,a7⟩:∃av nv cv,.slice av nv cv=R8 (x p) (o.Z+1).toNat o.size.toNat:=by rw[EP.out];exact⟨_,_,_,rfl⟩
   have g9:∀W,(Instr.slice 25 (.slice (J ⟨bw,ow,U⟩) (I<|Zu h p) kp) (J<|.int .i64<|o.Z+1) (J<|.int .i64<|o.Z+1+o.size) U).run xP W=.ok (.slice av nv cv) W:=by
    intro W;have hT:xP.underlying 25=J (.slice 22):=Z2;rw[a7,EP.out,Z7Y hT Z1 e4 e7 e8,show o.Z+1+o.size- (o.Z+1)=o.size by omega]
   clear e4 e7 e8 zo;have zo:∀j,W7.drew.cell? ⟨Y,j,U⟩=(#[.int .i64 o.Z,.int .i64 o.size,.int .i64 o.ac,.bool o.gone,.int .u64 o.target]:Array Value)[j]? :=λj=>Zf6 _ _ _ _ _ _ (show W7.drew.heap[Y]?=_ from q7);have HV:=Zf0 a7;clear a7;have d:=Zf0<|And.intro f k;clear f k q7;refine LS.send (n:=16) follows Z2 rfl rfl rfl rfl rfl rfl ?_;simp only[Zii,List.take_zero];change wpStill xP _ W7.drew _ _ _;repeat still_step
   refine wpStill_nil ⟨rfl,?_,?_⟩;unfold Uc;rw[<-HV.out];rfl
   .refine LS.inBlock ?_;have h0:=ZB ((i:Int)+1) Z0 Z0;refine LS.dm λK u=> ?_;go_wp2;exact f3.out m _ _ _ Z0 ⟨i+1,_,Z0,rfl,rfl,rfl,rfl,rfl,rfl,rfl,rfl,rfl,rfl,rfl,rfl,Z1,SSt.below d.out.1 (Zfg _ _).drew,d.out.2.drew⟩
end Vm
end
section
namespace Vm
open Go Go.Proofs Go.Conc
open Go.RowKit (Below)
section
section
variable {c:Ctx}{B:Nat}{G Kf:Z4}{s:St}{a:Act}{w w0:Z3}{h:GH}{S:SS}{n0:Nat}{fix:Zb}{T0:Za}{t:Nat}{v:Zc}{x:V}
def Wu{p}(d:p≠t):(a.put (J t) v).tmps[p]?=a.tmps[p]? :=by
 simp[Act.put,ZgL d]
def Rq(d:t<a.tmps.size):(a.put (J t) v).tmps[t]?=J v:=by
 simp[Act.put,d]
theorem Su:(a.put (J t) v).tmps.size=a.tmps.size:=by simp[Act.put]
theorem Z7o{p k u a d}(f:RelK c.P B s w h a p u<|QC c p k):RelK c.P B s w h d p u<|QC c p k:=by
 cases k<;>exact f
def RelG.set(j:RelG c B G s a w h<|Yj c S)(n:S.at t=U):RelG c B G s (a.put (J t) v) w h<|Yj c S:=by
 refine⟨j.ok,λp g d=> ?_,λp g=> ?_⟩;by_cases e:p=t;subst e;rw[Yo,n]at d;cases d;let⟨u,o,f⟩:=j.Z p g d;refine⟨u,by simp_all[Wu],?_⟩;rw[Yo]at f⊢;cases l:S.at p with
 |none=>rw[Yo,l]at d;cases d
 |some k=>grind [Z7o]
 refine absurd ?_ g;rw[Yo];cases S.at p<;>exact VB _
def RelS.set(l:RelS Kf fix T0 c B G w0 n0 s a w S)(k:S.at t=U):RelS Kf fix (a.put (J t) v).tmps c B G w n0 s (a.put (J t) v) w S:=by
 let⟨⟨h,d,f⟩,g,n,o,j⟩:=l;exact⟨⟨h,d.set k,f⟩,g,.refl _ _,by grind [Su],j⟩
def RelS.base(h:RelS Kf fix T0 c B G w0 n0 s a w S):RelS Kf fix a.tmps c B G w n0 s a w S:=by
 let⟨d,f,j,g⟩:=h;exact⟨d,f,.refl _ _,g⟩
theorem RelS.put(C:RelS Kf fix T0 c B G w0 n0 s a w S)(u:S.at t=U)(l:∀y∈S,c.ix y.1≠c.ix t)(A:t<n0)(D:Rd w G x v):RelS Kf fix (a.put (J t) v).tmps c B G w n0 (Yu s (c.ix t)<|.v x) (a.put (J t) v) w<|(t,.fz)::S:=by
 let⟨⟨h,g,o⟩,q,F,H,r⟩:=C;refine⟨⟨h,⟨g.ok,λp d f=> ?_,λp d=> ?_⟩,o⟩,λp d=> ?_,.refl _ _,by grind [Su],r⟩;rw[Yo]at f⊢;by_cases e:t=p;subst e;simp[SS.at];exact⟨v,Rq Z0,x,by simp[eval,YQ],D.mono λb z=>GH.bi<|g.ok.fe b z⟩;simp[SS.at,Zf7 e]at f⊢;have j:=(g.set (v:=v) u).mh (t:=Yu s (c.ix t)<|.v x) λy K=>by rw[YQ,Zf7 Ze2]
 cases n:S.at p with
 |none=>rw[n]at f;cases f
 |some k=>
  have:=j.Z p (by grind [Yo,VB]) (by simp_all[Yo]);simp_all[Yo]
 refine absurd ?_ d;rw[Yo];split<;>exact VB _;by_cases e:t=p;simp_all[SS.at];simp[SS.at,Zf7 e]at d;rw[YQ,Zf7<|l _<|Qu d];exact q p d
end
noncomputable def cV:Ctx:= {P:=xP,ix:=(vf xP).ix,own:=λ_=>xw,fresh,sig:=CJ,tr:=[3],n:=82}
def yx{code S st fl B G Kf s a w w0 T0 N X Rt}(hc:comp (vf xP) code S=J (st,fl))(g:RelS Kf [4,23] T0 cV B G w0 82 s a w S)(h:Ym xP st s N X Rt):
  code.wp xP (Post Kf [4,23] T0 cV B G w0 82 fl N X Rt) a w:=
 jO (fc:=vf xP) follows (λp f q j d=>Cc (Zg9 _ f) Ze3 d) rfl rfl rfl (Zf3 _) code (Ew (λ_=>trivial) code) hc g h
noncomputable def bodyC:Code:=Yi ofC [1,1,1,1,1,1,1,0,1,0,0]
noncomputable def ops9:Array Oper:=KO<|Yi ofC [1,1,1,1,1,1,1,0,1,0,0,0]
def ZaW:bodyC=.seq (.region 9 ops9 xw) (Yi ofC [1,1,1,1,1,1,1,0,1,0,0,1]):=Z2
def Z7s:Yi ofC [1,1,1,1]=.seq (Yi ofC [1,1,1,1,0]) (.seq (Yi ofC [1,1,1,1,1,0])<|.seq (Yi ofC [1,1,1,1,1,1,0])<|.seq (.seq (Yi ofC [1,1,1,1,1,1,1,0,0])<|.block 0<|.loop bodyC)<|Yi ofC [1,1,1,1,1,1,1,1]):=Z2
noncomputable def ops8:Array Oper:=KO<|Yi ofC [1,1,1,1,1,1,1,0,0]
def Z6Y:Yi ofC [1,1,1,1,1,1,1,0,0]=.region 8 ops8 xw:=Z2
def zF:Value:=.agg #[.int .i64 0,.int .i64 0,.int .i64 0,.bool xw,.int .u64 0,.int .u64 0,.slice U 0 0]
def Z5M:∃t a d inf o,ops9[0]?=J o/\o.guard=U/\o.dst=J 24/\o.op=.recv t a xk/\a=.tmp 23/\xP.underlying t=J (.chan d 111)/\xP.info? 111=J inf/\inf.zero=J zF:=
 ⟨_,_,_,_,_,rfl,rfl,rfl,rfl,rfl,rfl,rfl,rfl⟩
def Z5N:∃o,ops9[1]?=J o/\o.guard=U/\o.dst=J 25/\o.op=.extract (.tmp 24) 1:=⟨_,rfl,rfl,rfl,rfl⟩
def Z5O:ops9.size=2:=rfl
def Ch:SS:=[(1,.mem [.fz,.fz,.fz,.fz,.fz,.fz,.fz,.fz,.fz,.fz]),(2,.mem [.fz,.fz]),(3,.fz),(5,.own 111),(6,.mem [.own 87]),(7,.mem [.own 109])]
structure AtL (B:Nat) (G:Nat->Prop) (wS:World) (c:Nat) (st:Vw) (hc:List V) (s:St) (a:Act) (w:World):Prop where
 um:∃T0 w0,RelS G [4,23] T0 cV B G w0 82 s a w Ch
 same:Same G wS w
 ch:a.tmps[23]?=J (.chan<|J c)
 s1:get s 1=.m hc
 s6:get s 6=.v (.sl<|st.ns.map X4)
 s7:get s 7=.m [Y5 vi st.nm]
 s8:get s 8=.m [Y5 vu st.tm]
theorem AtL.put{B G wS c st hc s a w}(h:AtL B G wS c st hc s a w){v x b}(p:Rd wS G x v):
  ∃g d T0 w0,g=(a.put (J 24)<|.tuple #[v,.bool b]).put (J 25) (.bool b)/\RelS G [4,23] T0 cV B G w0 82 d g w Cf/\g.tmps[23]?=J (.chan<|J c)/\get d 1=.m hc/\get d 6=.v (.sl<|st.ns.map X4)/\get d 7=.m [Y5 vi st.nm]/\get d 8=.m [Y5 vu st.tm]/\get d 12=.v (.ak [x,.bool b])/\get d 10=.v (.bool b):=by
 let⟨T0,w0,o⟩:=h.um;have j:Rd w G (.ak [x,.bool b])<|.tuple #[v,.bool b]:=by
  refine .ak _ _ rfl λi c f=> ?_
  match i,f with
  |0,f=>cases f;exact p.keep h.same λ_ q=>q
  |1,f=>cases f;exact .bool _
 have n:=(o.put (t:=24) rfl Ze5 Z0 j).put (t:=25) (v:=.bool b) (x:=.bool b) rfl Ze5 Z0<|.bool _;have k:cV.ix 24=12:=Ze5;have l:cV.ix 25=10:=Ze5;rw[k,l]at n;refine⟨_,_,_,_,rfl,n.fm (R:=Cf) Z2,?_,?_,?_,?_,?_,?_,?_⟩;rw[Wu Z0,Wu Z0];exact h.ch;all_goals simp[YQ,h.s1,h.s6,h.s7,h.s8]
def Z7f{B G wS c hc k}{b:Zg}{Post}fin
  (K:Rd wS G (X4 ⟨⟨0,0,0,xw,0⟩,0,[]⟩) zF)
  (a0:∀s a w T0 w0,RelS G [4,23] T0 cV B G w0 82 s a w Cg->get s 1=.m hc->get s 6=.v (.sl<|fin.ns.map X4)->get s 7=.m [Y5 vi fin.nm]->get s 8=.m [Y5 vu fin.tm]->LS xP c Post [] (b.at a k) [] w):
  ∀(p:List<|Fo×Value) st,(∀y∈p,Rd wS G (X4 y.1) y.2)->I st.ns+I p<=4000000->(p.map (·.1)).foldl Vw.put st=fin->∀s a w,AtL B G wS c st hc s a w->
   LS xP c Post (p.map (λy=>.recv y.2)++[.closed zF]) (b.at a<|.code bodyC:: .inLoop bodyC:: .inBlock 0::k) [] w:=by
 let⟨t,T,d,inf,o,o1,o2,o3,o4,C,o6,o7,o8⟩:=Z5M;let⟨o',p1,p2,p3,p4⟩:=Z5N;have ext:∀(a:Act) w v b,a.tmps[24]?=J (.tuple #[v,.bool b])->(execOp a.eval o').run xP w=.ok _ w:=λa w v b h=>by
  have he:=Act.aj a 24 _ h;unfold execOp;simp[p4,he];rfl
 have enter:∀ {es} {e:Ev} {v:Zc} {fl:Bool} {s:St} {st:Vw} {a:Act} {w:Z3},e.val=.tuple #[v,.bool fl]->((∃v,e=.recv v)\/e=.closed zF)->AtL B G wS c st hc s a w->
   LS xP c Post es (b.at ((a.put (J 24)<|.tuple #[v,.bool fl]).put (J 25)<|.bool fl)<|.code (Yi ofC [1,1,1,1,1,1,1,0,1,0,0,1]):: .inLoop bodyC:: .inBlock 0::k) [] w->
   LS xP c Post (e::es) (b.at a<|.code bodyC:: .inLoop bodyC:: .inBlock 0::k) [] w:=λ{es e v fl s st a w} H F f hk=>by
  let⟨T0,w0,A⟩:=f.um;have a1:=A.2.2.2.1;rw[show(Item.code bodyC)=.code (.seq (.region 9 ops9 xw)<|Yi ofC [1,1,1,1,1,1,1,0,1,0,0,1])by rfl];refine LS.cw<|LS.region ?_;rw[Z5O,show List.range 2=[0,1]from rfl];refine LS.sg (i:=0) o1 (by simp[Region.wanted,o2]) ?_ ?_;obtain⟨v,rfl⟩|rfl:=F;exact⟨t,T,d,_,inf,zF,o4,by rw[C];rfl,by rw[C];exact Act.aj a 23 _ f.ch,o6,o7,o8,Z1⟩;exact⟨t,T,d,_,inf,zF,o4,by rw[C];rfl,by rw[C];exact Act.aj a 23 _ f.ch,o6,o7,o8,Z1⟩;rw[o3,H];refine LS.value (i:=1) p1 (by simp[Region.wanted,p2]) (ext _ w v fl (Rq Z0)) ?_;simp_all[LS.gi]
 intro p;induction p with
 |nil=>
  intro st r hn n s a w f;refine enter (v:=zF) (fl:=xw) rfl Z1 f ?_;obtain⟨a2,s2,T0,w0,rfl,A,x,W,Y,Z,h8,u,q⟩:=f.put (b:=xw) K;refine LS.wp (yx N5 A<|Z70 (N:=λ_=>False) (R:=λ_=>False) (X:=λid g=>id=0/\g=s2) q ⟨rfl,rfl⟩) λe S w' j=> ?_;cases e with
  |normal=>let⟨_,_,_,h,_⟩:=j;grind
  |exit id=>
   obtain⟨g,Q,hx,⟨rfl,rfl⟩,l⟩:=j;have D:Q=Cg:=by simpa using hx
   subst D;refine⟨k,rfl,?_⟩;grind
  |ret=>let⟨_,_,_,h,_⟩:=j;grind
  |_=>exact j.elim
 |cons y p ih=>
  intro st r hn n s a w f;simp[Zgd]at hn;refine enter (v:=y.2) (fl:=xk) rfl Z1 f ?_;obtain⟨a2,s2,T0,w0,rfl,A,x,W,Y,Z,h8,u,q⟩:=f.put (b:=xk)<|r y Z1;refine LS.wp (yx N5 A.base<|Z71 (X:=λ_ _=>False) (R:=λ_=>False) (N:=λg=>get g 6=.v _/\get g 7=.m [Y5 vi (st.put y.1).nm]/\get g 8=.m [Y5 vu (st.put y.1).tm]/\get g 1=.m hc) Y Z h8 u q Z0 λg M O P L _ _=>⟨M,O,P,L.trans W⟩) λe S w' j=> ?_;cases e with
  |normal=>
   let⟨g,Q,D,⟨M,O,P,L⟩,l⟩:=j;cases D;refine LS.inLoop<|ih _ (λz K=>r z<|by simp[K]) ?_ n g S w' ⟨⟨_,_,l.fm (R:=Ch) Z2⟩,f.same.trans l.2.2.1.same,?_,L,M,O,P⟩;grind [Vw.put];rw[l.2.2.1.fix 23 Z1];exact x
  |exit id=>let⟨_,_,_,h,_⟩:=j;grind
  |ret=>let⟨_,_,_,h,_⟩:=j;grind
  |_=>exact j.elim
def Du(b:Zg)(D:World->Nat->Prop)(r:V)(fr:Zg)(cs:Z7)(w:Z3):Prop:=
 cs=[]/\∃(a:Act) (d:Zn),fr= {b.at a d with mode:=.returning}/\a.defers=[]/\∃v,(results Try.f21 a.tmps).run xP w=.ok v w/\Rd w (D w) r v
def Dj{code S st o B G Kf s a w w0 T0 N c f es}{b:Zg}{k}(hc:comp (vf xP) code S=J (st,⟨J o,[],[]⟩))(t:RelS Kf [4,23] T0 cV B G w0 82 s a w S)
  (u:Ym xP st s N (λ_ _=>False)<|λ_=>False) (r:∀l g n,N l->RelS Kf [4,23] T0 cV B G w0 82 l g n o->LS xP c f es (b.at g k) [] n):=
 LS.wp (yx hc t u) λe g n d=>by
  cases e with
  |normal=>let⟨l,x,q,p,j⟩:=d;cases q;exact r _ _ _ p j
  |exit id=>let⟨_,_,_,h,_⟩:=d;grind
  |ret=>let⟨_,_,_,h,_⟩:=d;grind
  |_=>exact d.elim
def Z5K:∃o,ops8[0]?=J o/\o.guard=U/\o.dst=J 23/\o.op=.move (.tmp 4):=⟨_,rfl,rfl,rfl,rfl⟩
def Z5L:ops8.size=1:=rfl
def Z5z{B:Nat}{G:Z4}{c:Nat}{b:Zg}{s:St}{a:Act}{w w0:Z3}{T0:Za}{W Y Z y sc x5 x6 x7 x8:V}{d:Z9}{fs:List (Fo×Value)}{fin:Vw}(O:RelS G [4,23] T0 cV B G w0 82 s a w La)(L:a.tmps[4]?=J (.chan<|J c))(F:get s 1=.m [W,Y,Z,y,sc,x5,x6,x7,x8,.sl<|d.map vu])
  (M:∀y∈fs,Rd w G (X4 y.1) y.2) (hn:I fs<=4000000) (u:(fs.map (·.1)).foldl Vw.put ⟨[],[],[]⟩=fin) (hs:fin.sm d):
  LS xP c (Du b (λw' x=>G x\/(B<=x/\x<xz (xj w')))<|V2<|fin.gr d) (fs.map (λy=>.recv y.2)++[.closed zF]) (b.at a [.code<|Yi ofC [1,1,1,1]]) [] w:=by
 rw[Z7s];refine LS.cw (Dj r5c O.base (N:=λj=>get j 6=.v (.sl [])/\get j 1=get s 1) (by simp[r5,YQ]) λs1 a1 w1 ⟨q6,q1⟩ l=> ?_);refine LS.cw (Dj r6c l.base (N:=λj=>get j 7=.m [Y5 vi []]/\get j 6=.v (.sl [])/\get j 1=get s 1) (by simp[r6,YQ,q6,q1];rfl) λs2 a2 w2 ⟨t7,t6,t1⟩ n=> ?_);refine LS.cw (Dj r7c n.base (N:=λj=>get j 8=.m [Y5 vu []]/\get j 7=.m [Y5 vi []]/\get j 6=.v (.sl [])/\get j 1=get s 1) (by simp[r7,YQ,t7,t6,t1];rfl) λs3 C w3 ⟨u8,u7,u6,u1⟩ k=> ?_);have q:C.tmps[4]?=J (.chan<|J c):=by
  rw[k.2.2.1.fix 4 Z1,n.2.2.1.fix 4 Z1,l.2.2.1.fix 4 Z1];exact L
 have p:Same G w w3:=(l.2.2.1.same.trans n.2.2.1.same).trans k.2.2.1.same;refine LS.cw<|LS.cw ?_;rw[Z6Y];refine LS.region ?_;rw[Z5L,show List.range 1=[0]from rfl];obtain⟨o,o1,o2,o3,o4⟩:=Z5K;have a0:C.eval (.tmp 4)=.chan (J c):=Act.aj C 4 _ q;refine LS.value (v:=.chan<|J c) (w':=w3) o1 (by simp[Region.wanted,o2]) (by simp_all[execOp])<|LS.gi ?_;rw[o3];have Q:=k.set (t:=23) (v:=.chan<|J c) rfl;have a4:C.tmps.size=82:=k.2.2.2.1;refine LS.block<|LS.bn (.one step_loop) ?_;refine Z7f (hc:=[W,Y,Z,y,sc,x5,x6,x7,x8,.sl<|d.map vu]) fin (wS:=w) (B:=B) (G:=G) ?_ ?_ fs ⟨[],[],[]⟩ M Ze2 u s3 _ w3 ⟨⟨_,_,Q.fm (R:=Ch) Z2⟩,p,Rq Z0,u1.trans F,u6,u7,u8⟩;refine .agg _ _ rfl Z1 λi x g=> ?_
 match i,g with
 |0,g=>cases g;exact .int _ _
 |1,g=>cases g;exact .int _ _
 |2,g=>cases g;exact .int _ _
 |3,g=>cases g;exact .bool _
 |4,g=>cases g;exact .int _ _
 |5,g=>cases g;exact .int _ _
 |6,g=>cases g;exact .nil _ _<|Zg5 _
 intro s5 a5 w5 T5 a6 S v1 v6 v7 v8;refine LS.wp (yx rCc ((S.fm (R:=N4) Z2).base)<|Z6Z (N:=λ_=>False) (X:=λ_ _=>False) (R:=λj=>XW j [(2,.ag 2),(3,.v)]=J (V2<|fin.gr d)) hs v1 v6 v7 v8 λj h=>h) λe a' w' H=> ?_;cases e with
 |normal=>obtain⟨_,_,_,h,_⟩:=H;grind
 |exit id=>obtain⟨_,_,_,h,_⟩:=H;grind
 |ret=>
  obtain⟨j,S',K,hR,P⟩:=H;have K:S'=Ce:=by simpa using K
  subst K;obtain⟨⟨h,k1,k2⟩,k3,k4,k5,k6⟩:=P;intro A
  obtain⟨v,hv,T⟩:=Lf (c:=cV) (f:=Try.f21) (D:=λx=>G x\/(B<=x/\x<xz (xj w'))) k1 k3 (λx z=>by
   obtain F|F:=k1.ok.cq x z;grind;exact .inr ⟨F,k1.ok.bf x z⟩) (λr O=>⟨Zfb.1 (Z2:(Try.f21.results.toList.all<|SQ xP Ce)=xk) r O,λi x z=>.inr ⟨(k1.ok.ao _ _ x z).1,(k1.ok.ao _ _ x z).2.1⟩⟩) (x:=V2<|fin.gr d) (by rw[<-hR];rfl)
  exact LS.df ⟨rfl,a',A,rfl,k6,v,hv,T⟩
 |_=>exact H.elim
end
section
def Z1J:∃o a,clOps[1]?=J o/\o.guard=U/\o.dst=U/\o.op=.call ⟨.builtin .close, #[.tmp 70],a⟩:=⟨_,_,rfl,rfl,rfl,rfl⟩
section
variable {b:Zg}{a:Act}{c:Nat}{w:Z3}
def Z1K{cs:Z7}(t:b.fn=36)(x:b.kind≠.early)(q:a.tmps[70]?=J (.chan<|J c)){s r:Nat}{f:Bool}(hc:w.heap[c]?=J (.chan 0 #[] xw s r f)):
  stepG Try.prog xw (G (b.at a [.inRegion clOps [1]]) cs) w=.go (G (b.at a [.inRegion clOps []]) cs) (Wv w c<|.chan 0 #[] xk s r f) #[⟨.obj c,xw,xk⟩,⟨.obj c,xk,xk⟩]:=by
 obtain⟨o,d,l,g,n,p⟩:=Z1J;have h:a.eval (.tmp 70)=.chan (J c):=Act.aj a 70 _ q;have j:execOp a.eval o=(do pure (.value<|<-Builtin.close_ d o.type #[.chan<|J c]):Sem Next):=by
  unfold execOp;simp only[p];simp[resolve,builtin,h];rfl
 have y:(execOp a.eval o).run Try.prog w=.ok (.value<|.tuple #[]) (Wv w c<|.chan 0 #[] xk s r f):=by
  rw[j];simp only[ZfJ,run_close_open d o.type hc,ZfH];rfl
 have u:(execOp a.eval o).events Try.prog w #[]=#[⟨.obj c,xw,xk⟩,⟨.obj c,xk,xk⟩]:=by
  rw[j];have g:(Builtin.close_ d o.type #[.chan<|J c]).runT Try.prog w #[]=(.ok (.tuple #[])<|Wv w c<|.chan 0 #[] xk s r f, #[⟨.obj c,xw,xk⟩,⟨.obj c,xk,xk⟩]):=by
   refine Zhy ?_<|events_close_open d o.type hc;rw[Zh1];exact run_close_open d o.type hc
  show((Sem.bind _ _).runT Try.prog w #[]).2=_;rw[Zh6,g];rfl
 rw[stepG_value l (by simp[Region.wanted,g]) x y];have k:a.put o.dst (.tuple #[])=a:=by rw[n];rfl
 rw[k];unfold listed;rw[u,seen_eq (by rw[t,Try.func36];rfl) Z1]
noncomputable def bornF:Frame:= {(default:Zg)with fn:=Try.prog.funcs.size,defers:=[],mode:=.panicking [goexitEntry]}
def Z8g(d:b= {base 36 with kind:=.deferred})(f:a.defers=[]):QuitsIn Try.prog 4<|G (b.at a [.inRegion clOps []]) [bornF]:=by
 subst d;refine .ctl (g':=G (({base 36 with kind:=.deferred}:Frame).at a []) [bornF]) rfl (λw=>ZeR) ?_;refine .ctl (g':=G {(({base 36 with kind:=.deferred}:Frame).at a [])with mode:=.returning} [bornF]) rfl (λw=>ZeR) ?_;refine .ctl (g':=G bornF []) rfl (λw=> ?_) ?_;have g:=Try.func36;simp[G,stepG,unwind,Frame.at,f,base,g,results,Try.results36,doReturn,bornF,goexitEntry];rfl;refine .ctl (g':= {(G bornF [])with status:=.finished}) rfl (λw=> ?_) rfl;rfl
end
def yp(l:Z9):NoM<|.sl<|l.map vu:=.sl _ λc a=>by
 have:flat (l.map vu)=l.map vu:=VU λx d=>Zex;rw[this]at a;obtain⟨y,_,rfl⟩:=Zfh.1 a;exact .int _ _
def Z2g{n:Nat}{v:Zc}(h:FixV n v)(f m:Nat):FixV n<|R8 v f m:=by
 intro ρ d;have a:=h ρ d;unfold R8;split;rename_i b o q k c;simp only[Zt,Zfm,ZP,Value.slice.injEq,ZeV,Addr.mk.injEq,and_true]at a;grind [Zt,ZP];exact a
def FS{n:Nat}{h:Hp}{x:Z5}{p:Nat}(hx:FixV n<|x p)(o:Ob):FixV n<|Uc h x p o:=by
 intro ρ a;have:=Z2g hx (o.Z+1).toNat o.size.toNat ρ a;simp_all[Uc,Wr,XV,U3]
def Aj{h:Hp}{x:Z5}{v:Zc}:∀ {n p:Nat},v∈Wc h x n p->∃q o,q<p+n/\v=Uc h x q o
 |0,p,a=>by simp[Wc]at a
 |n+1,p,a=>by
  simp only[Wc,Zfs,Zfh]at a;obtain⟨o,_,rfl⟩|a:=a;exact⟨p,o,Z0,rfl⟩;obtain⟨q,o,f,d⟩:=Aj a;exact⟨q,o,Z0,d⟩
def bD:Frame:= {base 36 with kind:=.deferred}
def jU(args:Za):Frame.enter Try.prog 36 args .deferred=bD.at {tmps:=args++Array.replicate (71-args.size) xy,defers:=[]} [.code seC]:=by
 simp[Frame.enter,Frame.at,Try.func36,qw,bD,base,Try.ntmps36]
def NQ:YM xP xw seC=xk:=Z2
def Z1k:xP.funcs[Try.prog.funcs.size]?=U:=by
 grind [Array.getElem?_eq_none,xP,WN]
def Z1I{c n0:Nat}{h:Hp}{x:Z5}{K:Z4}{w:Z3}(hh:h.ok)(a1:xz (xj w)<=n0)(hc:c<n0)(hK:∀b,K b->∃cs e fr,w.heap[b]?=J (.cells cs e fr))(R:∀b o,w.heap[b]?=J o->K b->JD n0 o)
  (hx:∀j,j<5->FixV n0 (x j)) (hr:∀j,j<5->Rd w K (.sl<|(Zu h j).map vu) (x j))
  (a2:∀p,p<4->I (obP h p)<=1000000/\∀o∈obP h p,0<=o.Z/\0<=o.size/\o.Z+1+o.size<=I (Zu h p)):
  Play Try.prog xw c K (Ur Try.prog c) ((Wc h x 4 0).map .send) (λ_=>False) (born Try.prog {target:=.fn (.func 36) #[],args:=#[Zx h x,.chan<|J c]}) w:=by
 have a6:∀b,K b->b<xz (xj w):=λb k=>Ze2;have C:∀w1:Z3,stepG Try.prog xw (born Try.prog {target:=.fn (.func 36) #[],args:=#[Zx h x,.chan<|J c]}) w1=.go (G (Frame.enter Try.prog 36 #[Zx h x,.chan<|J c] .deferred) [bornF]) w1 #[]:=λw1=>by
  have hn:¬Try.f36.name= "runtime.NumGoroutine" :=by decide+kernel
  have k:¬Try.f36.body=U:=by rw[qw];simp
  simp[stepG,born,unwind,callDeferred,invoke,callFunc,G,bornF,hn,k];rfl
 refine .step (λw1 H=>⟨_,_,_,_,C w1,Zf3 _,Zf3 _,rfl,rfl,λ_ _ _=>rfl,λe Y=>by simp at Y⟩) λw1 g' w' a4 H e=> ?_;have e:=(C w1).symm.trans e;injection e with M N e3;subst M N;have B:(V4 (λ_=>False) w1 w1:Z4)=λ_=>False:=funext λb=>propext ⟨λk=>by obtain k|k:=k;exact k;omega,λk=>k.elim⟩;rw[B];refine Play.gj ?_ H;let X:Cx:=TG Try.prog xP n0 K (λ_=>False);have S:X.P=Try.prog:=Qq.P n0 K (λ_=>False);have n:∀v∈ #[Zx h x,.chan<|J c],FixV n0 v:=λv hv=>by
  have:v=Zx h x\/v=.chan (J c):=by simpa using hv
  obtain rfl|rfl:=this;intro ρ l;unfold Zx;rw[Wr];simp[XV,U3,hx 0 Z0 ρ l,hx 1 Z0 ρ l,hx 2 Z0 ρ l,hx 3 Z0 ρ l,hx 4 Z0 ρ l];intro ρ l;simp[Zt,l c hc]
 have z:∀ρ,Zw ρ bornF=bornF:=λρ=>by
  simp[Zw,bornF,XU,SZ,goexitEntry,Sb];exact⟨by show Array.map (Zt ρ) #[]=#[];simp,rfl,rfl⟩
 have hw:=Dg X (Qq.ok n0 K<|λ_=>False) (c:=c) (es:=(Wc h x 4 0).map .send) (fr:=Frame.enter Try.prog 36 #[Zx h x,.chan<|J c] .deferred) (cs:=[bornF]) (ds:=[]) (main:=xw) (wc:=w)
  (λe Y=>by
   obtain⟨v,hv,rfl⟩:=Zfh.1 Y;obtain⟨q,o,hq,rfl⟩:=Aj hv;exact⟨FS (hx q Z0) o,hc⟩)
  (λρ=>by
   rw[jU];refine⟨⟨λi hi=> ?_,λd A=>by simp[Frame.at]at A,.inr rfl,.inl ⟨_,seC,Z04,Try.func36,qw,NQ⟩⟩,λf Z=> ?_,rfl⟩;have:i=.code seC:=by simpa[Frame.at]using hi
   subst this;exact NQ;have:f=bornF:=by simpa using Z
   subst this;exact⟨λi hi=>(by cases hi),λd A=>(by cases A),.inl rfl,.inr<|.inl ⟨Z1k,Zhl<|Zf3 _⟩⟩)
  (λf Z=>by
   have:f=Frame.enter Try.prog 36 #[Zx h x,.chan<|J c] .deferred\/f=bornF:=by simpa using Z
   obtain rfl|rfl:=this;rw[jU];intro ρ l;have M:(#[Zx h x,.chan<|J c]++Array.replicate (71- (#[Zx h x,.chan<|J c]:Array Value).size) xy).map (Zt ρ)=#[Zx h x,.chan<|J c]++Array.replicate (71- (#[Zx h x,.chan<|J c]:Array Value).size) xy:=by
    rw[ZgX,SE n ρ l];simp[Sb]
   simp_all[Zw,Frame.at,Yv,XU,bD,base];exactλρ _=>z ρ)
  (λb o ho y=>by
   obtain y|y:=y;exact y.elim;exact R b o ho y)
  (Post:=λwl=>Dt c bD [bornF])
  (λt=>by
   rw[jU]
   exact Z8f bD [bornF] (X.cj w t) h hh x c K (λb k=>by grind [Cx.cj,TG,Nat.lt_of_lt_of_le])
    (λj hj=>Nh (X:=X) (λb h=>h) (λb c e fr B hc=>B) a1 (hr j hj)<|yp _) a2)
 have hw:Play Try.prog xw c K _ ((Wc h x 4 0).map .send) (λ_=>False) (G (Frame.enter Try.prog 36 #[Zx h x,.chan<|J c] .deferred)<|[bornF]++[]) w:=S▸hw;refine hw.mono λO g w' ⟨ρ,t,a5,a3,a7,fc,cc,B,hid,⟨W,a,a0,Q,A⟩,L⟩=> ?_;subst B W a0;have D:fc=Zw ρ (bD.at a [.inRegion clOps [1]]):=L.ba;have F:cc=[bornF].map (Zw ρ)++[]:=L.under;have M:fc=bD.at {tmps:=a.tmps.map<|Zt ρ,defers:=[]} [.inRegion clOps [1]]:=by
  rw[D];simp[Zw,Frame.at,A,XU,Yv,bD,base]
 have N:cc=[bornF]:=by rw[F];simp[z]
 rw[M,N];have u:(a.tmps.map<|Zt ρ)[70]?=J (.chan<|J c):=by
  rw[Zfz,Q];simp[Zt,hid c hc]
 refine⟨rfl,?_,_,4,λs r tm T=>Z1K rfl (by simp[bD]) u T,Z8g rfl rfl⟩;rfl
end
inductive NoZ:V->Prop where
 |int (k:IntKind) (n:Int):NoZ<|.int k n
 |bool (b:Bool):NoZ<|.bool b
 |sl (l:List V):(∀y∈l,y.cells≠[])->(∀c∈flat l,NoZ c)->NoZ (.sl l)
 |agg (l:List V):(∀c∈l,NoZ c)->NoZ (.agg l)
 |ak (l:List V):(∀c∈l,NoZ c)->NoZ (.ak l)
def NoZ.m{x:V}(h:NoZ x):NoM x:=by
 induction h with
 |int k n=>exact .int k n
 |bool b=>exact .bool b
 |sl l _ _ a=>exact .sl l a
 |agg l _ a=>exact .agg l a
 |ak l _ a=>exact .ak l a
def Z76{w:Z3}{D:Z4}{x:V}{v:Zc}(h:Rd w D x v)(d:NoZ x):Rd w (λb=>D b/\b<xz (xj w)) x v:=by
 induction h with
 |int k n=>exact .int k n
 |bool b=>exact .bool b
 |nil a cap A=>exact .nil a cap A
 |sl l b o cap k vs g p z r t C j=>
  cases d with
  |sl _ B d=>
   obtain _|⟨y,l⟩:=l;exact .nil _ cap p;have F:0<k:=by
    rw[<-(r y Z1).1];exact ZgT.2<|B y Z1
   have q:=jK<|t 0 Ze3;exact .sl _ b o cap k vs g p ⟨z,q⟩ r t λi c f=>j i c f<|d c<|A8 f
 |agg u vs g p _ j=>
  cases d with
  |agg _ d=>exact .agg u vs g p λi c f=>j i c f<|d c<|Zf5 f
 |ak l vs g _ j=>
  cases d with
  |ak _ d=>exact .ak l vs g λi c f=>j i c f<|d c<|Zf5 f
 |_=>cases d
def Z79{w:Z3}{D:Z4}{x:V}{v:Zc}(h:Rd w D x v)(d:NoZ x):Rd w (λb=>D b/\∃q e r,w.heap[b]?=J (.cells q e r)) x v:=by
 induction h with
 |int k n=>exact .int k n
 |bool b=>exact .bool b
 |nil a cap B=>exact .nil a cap B
 |sl l b o cap k vs g p z t u F j=>
  cases d with
  |sl _ C d=>
   obtain _|⟨y,l⟩:=l;exact .nil _ cap p;have G:0<k:=by
    rw[<-(t y Z1).1];exact ZgT.2<|C y Z1
   obtain⟨_,c,e,r,A,_⟩:=JQ<|u 0 Ze3;exact .sl _ b o cap k vs g p ⟨z,c,e,r,A⟩ t u λi c f=>j i c f<|d c<|A8 f
 |agg q vs g p _ j=>
  cases d with
  |agg _ d=>exact .agg q vs g p λi c f=>j i c f<|d c<|Zf5 f
 |ak l vs g _ j=>
  cases d with
  |ak _ d=>exact .ak l vs g λi c f=>j i c f<|d c<|Zf5 f
 |_=>cases d
def Is(l:Z9):NoZ<|.sl<|l.map vu:=.sl _ (λy f=>by obtain⟨z,_,rfl⟩:=Zfh.1 f;simp) λc a=>by
 rw[VU λx d=>Zex]at a;obtain⟨y,_,rfl⟩:=Zfh.1 a;exact .int _ _
def Ir(l:Z9):NoZ<|.sl<|l.map vi:=.sl _ (λy f=>by obtain⟨z,_,rfl⟩:=Zfh.1 f;simp) λc a=>by
 rw[VU λx d=>Zex]at a;obtain⟨y,_,rfl⟩:=Zfh.1 a;exact .int _ _
def Iq(g:Gr):NoZ<|Yy g:=.agg _ λc a=>by
 have:c=.sl (g.nodes.map Xl)\/c=.sl (g.E.map vi):=ZeM;obtain rfl|rfl:=this;refine .sl _ (λy d=>by obtain⟨z,_,rfl⟩:=Zfh.1 d;simp) λc a=> ?_;obtain⟨y,d,a⟩:=Zhk.1 a;obtain⟨n,_,rfl⟩:=Zfh.1 d;have:c=.sl (n.ac.map vi)\/c=.sl (n.data.map vu):=ZeM;obtain rfl|rfl:=this;exact Ir _;exact Is _;exact Ir _
def Ip(g:Gr):NoZ<|V2 g:=by
 unfold V2;split;all_goals
  refine .ak _ λc a=> ?_;simp only[Zfi,Zgk,ZhA]at a;obtain rfl|rfl:=a;exact Iq _;exact .int _ _
def VZ(h:Hp):NoM<|ZD h:=.agg _ λc a=>by
 simp only[Zfi,Zgk,ZhA]at a;obtain rfl|rfl|rfl|rfl|rfl|rfl|rfl|rfl|rfl|rfl:=a;all_goals first|exact .int _ _|exact .bool _|exact yp _
noncomputable def ops4:Array Oper:=KO<|Yi ofC [1,1,1,0]
def Z5J:(ops4.all λo=>XI xP xw o.op)=xk:=Z2
def Z7t:YM xP xw (Yi ofC [1,1,1,1])=xk:=Z2
def Z5y:xP.funcs[21]?=J (Nl Try.f21):=by
 have:=Try.func21;simp only[xP,WN,Zi3,this,Zfm];rfl
def I1{X:Cx}{w:Z3}{t:Nat->Question->Nat}{b:Nat}{cs:Za}{T:Zf}(h:w.heap[b]?=J (.cells cs T (0,0)))(a:X.O b)(d:b<X.n0):(X.cj w t).heap[b]?=J (.cells cs T (0,0)):=by
 rw[B6,Zfc d,h];unfold Cx.ir;dsimp only;rw[Zfc a,Zfc ⟨trivial,λc e g f=>Ze2⟩]
def Z7p{B g k:Nat}{a:Act}{A C:Zf}{K:Z4}{h:Hp}{x:Z5}{l:Z3}
  (z:a.tmps.size=82) (Q:a.defers=[]) (T:a.tmps[1]?=J (.pointer<|J ⟨g,0,U⟩)) (W:a.tmps[2]?=J (.pointer<|J ⟨k,0,U⟩)) (X:a.tmps[3]?=J (.int .i64 0))
  (n:l.heap[g]?=J (.cells #[.int .u64 h.base,.int .i64 h.cap,.int .i64 h.to,.bool h.M,.int .i64 h.Y,x 0,x 1,x 2,x 3,x 4] A (0,0))) (o:l.heap[k]?=J (.cells #[.slice U 0 0,.slice U 0 0] C (0,0)))
  (N:B<=g) (O:B<=k) (M:g≠k) (k1:¬K g) (k2:¬K k) (D:∀b,K b->b<xz (xj l)) (r:∀j,j<5->Rd l K (.sl<|(Zu h j).map vu) (x j)):
  RelS K [4,23] a.tmps cV B K l 82 [.no,.m [vu h.base,vi h.cap,vi h.to,.bool h.M,vi h.Y,.sl<|h.H.map vu,.sl<|h.aa.map vu,.sl<|h.an.map vu,.sl<|h.am.map vu,.sl<|h.E.map vu],.m [.sl [],.sl []],.v<|vi 0] a l La:=by
 have l1:=(Zf2.1 n).1;have l2:=(Zf2.1 o).1;have Z:cV.ix 1=1:=Ze5;have i2:cV.ix 2=2:=Ze5;have i3:cV.ix 3=3:=Ze5;refine⟨⟨{F:=K,bl:=λt i=>if t=1/\i=0 then J g else if t=2/\i=0 then J k else U,K:=K},⟨⟨Z0,D,λb f=>.inl f,λb f=>f,λt i b f=> ?_,λt i u j b f P=> ?_,D,λt i b f=> ?_,λb f=>.inl f⟩,λt _ S=> ?_,λt R=> ?_⟩,rfl⟩,λp Y=> ?_,.refl _ _,z,Q⟩;grind;grind;grind;rw[Yo]at S⊢;by_cases G:t=1;subst G;refine⟨_,T,g,_,A,rfl,rfl,n,rfl,λi y d=> ?_⟩;have q:i<10:=(ZeW.1 d).1
 match i,q with
 |0,_=>cases d;exact⟨_,ZeR,rfl,.int _ _⟩
 |1,_=>cases d;exact⟨_,ZeR,rfl,.int _ _⟩
 |2,_=>cases d;exact⟨_,ZeR,rfl,.int _ _⟩
 |3,_=>cases d;exact⟨_,ZeR,rfl,.bool _⟩
 |4,_=>cases d;exact⟨_,ZeR,rfl,.int _ _⟩
 |5,_=>cases d;exact⟨_,ZeR,rfl,r 0 Z0⟩
 |6,_=>cases d;exact⟨_,ZeR,rfl,r 1 Z0⟩
 |7,_=>cases d;exact⟨_,ZeR,rfl,r 2 Z0⟩
 |8,_=>cases d;exact⟨_,ZeR,rfl,r 3 Z0⟩
 |9,_=>cases d;exact⟨_,ZeR,rfl,r 4 Z0⟩
 |i+10,h=>omega
 by_cases H:t=2;subst H;refine⟨_,W,k,_,C,rfl,rfl,o,rfl,λi y d=> ?_⟩;have w:i<2:=(ZeW.1 d).1
 match i,w with
 |0,_=>cases d;exact⟨_,ZeR,rfl,.nil _ _<|Zg5 _⟩
 |1,_=>cases d;exact⟨_,ZeR,rfl,.nil _ _<|Zg5 _⟩
 |i+2,h=>omega
 by_cases L:t=3;subst L;exact⟨_,X,_,ZeR,.int _ _⟩;simp_all[La,SS.at,ZgL,TK.be];refine absurd ?_ R;rw[Yo];split<;>exact VB _;grind [La,SS.at]
def PB(cs:Z7)(r:V)(D:Z4)(g:Zi)(w:Z3):Prop:=
 ∃a,g=G a cs/\a.fn=21/\a.mode=.returning/\a.defers=[]/\a.kind=.normal/\∀d,∃v,(results Try.f21 a.tmps).run Try.prog (w.at d)=.ok v (w.at d)/\Rd (w.at d) (λb=>D b/\b<xz (xj w)) r v
def Z4C{c n0 B C D:Nat}{a:Act}{T1 T2:Zf}{K:Z4}{h:Hp}{x:Z5}{w:Z3}{cs:Z7}{fs:List (Fo×Value)}{fin:Vw}(hh:h.ok)
  (e3:a.tmps.size=82) (hd:a.defers=[]) (t1:a.tmps[1]?=J (.pointer<|J ⟨C,0,U⟩)) (t2:a.tmps[2]?=J (.pointer<|J ⟨D,0,U⟩)) (t3:a.tmps[3]?=J (.int .i64 0)) (t4:a.tmps[4]?=J (.chan<|J c))
  (S:w.heap[C]?=J (.cells #[.int .u64 h.base,.int .i64 h.cap,.int .i64 h.to,.bool h.M,.int .i64 h.Y,x 0,x 1,x 2,x 3,x 4] T1 (0,0))) (T:w.heap[D]?=J (.cells #[.slice U 0 0,.slice U 0 0] T2 (0,0)))
  (e9:B<=xz (xj w)) (d0:B<=C) (d5:B<=D) (c1:C≠D) (k1:¬K C) (k2:¬K D) (b4:xz (xj w)<=n0) (hc:c<n0)
  (hK:∀b,K b->∃cs e fr,w.heap[b]?=J (.cells cs e fr)) (a2:∀(b:Nat) (cs:Za) (e:Zf) (fr:Nat×Nat),w.heap[b]?=J (Obj.cells cs e fr)->JD n0 (Obj.cells cs e fr)) (e0:∀v∈a.tmps,FixV n0 v) (hx:∀j,j<5->FixV n0 (x j))
  (hr:∀j,j<5->Rd w K (.sl<|(Zu h j).map vu) (x j)) (a5:∀y∈fs,Rd w K (X4 y.1) y.2/\NoM (X4 y.1)) (d9:fs.map (·.2)=Wc h x 4 0) (hn:I fs<=4000000) (b3:(fs.map (·.1)).foldl Vw.put ⟨[],[],[]⟩=fin) (hs:fin.sm h.E):
  Play Try.prog xk c K (λ_=>PB cs (V2<|fin.gr h.E)<|λb=>K b\/B<=b) ((Wc h x 4 0).map .recv++[.closed zF]) (λb=>b=C\/b=D) (G ((base 21).at a [.inRegion ops4 [],.code<|Yi ofC [1,1,1,1]]) cs) w:=by
 have f0:∀b,K b->b<xz (xj w):=λb H=>Ze2;have l1:=(Zf2.1 S).1;have l2:=(Zf2.1 T).1;let X:Cx:=TG Try.prog xP n0 K (λb=>b=C\/b=D);have R:∀ρ,(X.at ρ).P=Try.prog:=λρ=>Qq.same.symm;have f2:∀t,xz (xj<|X.cj w t)=n0:=λt=>by simp[Cx.cj,X,TG]
 have d8:(Wc h x 4 0).map Ev.recv=fs.map λy=>.recv y.2:=by rw[<-d9,Zh3];rfl
 have a8:∀b,(b=C\/b=D)->¬K b:=λb H=>Ze2
 have hw:=Dg X (Qq.ok n0 K<|λb=>b=C\/b=D) (c:=c) (es:=(Wc h x 4 0).map .recv++[.closed zF]) (fr:=(base 21).at a [.inRegion ops4 [],.code<|Yi ofC [1,1,1,1]]) (cs:=[]) (ds:=cs) (main:=xk) (wc:=w)
  (λe L=>by
   obtain L|L:=Zfs.1 L;obtain⟨v,hv,rfl⟩:=Zfh.1 L;obtain⟨q,o,hq,rfl⟩:=Aj hv;exact⟨FS (hx q Z0) o,hc⟩;have:e=.closed zF:=ZeL;subst this;exact⟨λρ _=>by simp_all[zF,Wr,Zt],hc⟩)
  (λρ=>by
   refine⟨⟨λi p=> ?_,λd a4=> ?_,.inl rfl,.inr<|.inr ⟨_,_,Z5y,Try.func21,rfl⟩⟩,λf hf=>by simp at hf,rfl⟩;have:i=.inRegion ops4 []\/i=.code (Yi ofC [1,1,1,1]):=by simpa[Frame.at]using p
   obtain rfl|rfl:=this;exact Z5J;exact Z7t;rw[show((base 21).at a [.inRegion ops4 [],.code<|Yi ofC [1,1,1,1]]).defers=a.defers from rfl,hd]at a4;simp at a4)
  (λf hf=>by
   have:f=(base 21).at a [.inRegion ops4 [],.code<|Yi ofC [1,1,1,1]]:=by simpa using hf
   subst this;intro ρ hρ;simp only[Zw,Frame.at,SE e0 ρ hρ,hd];rfl)
  (λb o M hO=>by
   obtain hO|hO:=hO;obtain rfl|rfl:=hO;rw[S]at M;cases M;exact a2 _ _ _ _ S;rw[T]at M;cases M;exact a2 _ _ _ _ T;obtain⟨cs,e,fr,L⟩:=hK b hO;rw[M]at L;cases L;exact a2 _ _ _ _ M)
  (Post:=λwl=>Du (base 21) (λA b=>K b\/(B<=b/\b<xz (xj A)))<|V2<|fin.gr h.E)
  (λt=>by
   rw[d8];have b5:∀ {y:V} {v:Zc},Rd w K y v->NoM y->Rd (X.cj w t) K y v:=λ{y v} h1 h2=>by
    clear a5;induction h1 with
    |int k n=>exact .int k n
    |bool b=>exact .bool b
    |str s=>exact .str s
    |nil a cap h=>exact .nil a cap h
    |sl l b o cap k vs q1 q2 H hf a3 _ Z=>
     cases h2 with
     |sl _ W=>exact .sl l b o cap k vs q1 q2 H hf (λi p=>ye (λM=>a8 b M H) (λc e fr _=>H) b4<|a3 i p) λi c p=>Z i c p<|W c<|A8 p
    |agg cs vs q1 q2 _ Z=>
     cases h2 with
     |agg _ W=>exact .agg cs vs q1 q2 λi c p=>Z i c p<|W c<|Zf5 p
    |ak l vs q1 _ Z=>
     cases h2 with
     |ak _ W=>exact .ak l vs q1 λi c p=>Z i c p<|W c<|Zf5 p
    |ptr cs b o vs H q1 a3 _ Z=>
     cases h2 with
     |ptr _ W=>exact .ptr cs b o vs H q1 (λi p=>ye (λM=>a8 b M H) (λc e fr _=>H) b4<|a3 i p) λi c p=>Z i c p<|W c<|Zf5 p
    |fn f=>exact .fn f
    |cp f cs vs q1 _ Z=>
     cases h2 with
     |cp _ _ W=>exact .cp f cs vs q1 λi c p=>Z i c p<|W c<|Zf5 p
    |gy=>exact .gy
    |gz=>exact .gz
    |ls=>cases h2
    |mp=>cases h2
   refine LS.gi<|Z5z (G:=K) (B:=B) (Z7p e3 hd t1 t2 t3 (I1 S (.inl rfl) (by show C<n0;omega)) (I1 T (.inr rfl) (by show D<n0;omega)) d0 d5 c1 k1 k2 (λb H=>Ze2) λj hj=>b5 (hr j hj)<|yp _) t4 rfl (λy hy=>b5 (a5 y hy).1 (a5 y hy).2) hn b3 hs)
 have hw:Play Try.prog xk c K _ ((Wc h x 4 0).map .recv++[.closed zF]) (λb=>b=C\/b=D) (G ((base 21).at a [.inRegion ops4 [],.code<|Yi ofC [1,1,1,1]])<|[]++cs) w:=(R id)▸hw;refine hw.mono λO g A ⟨ρ,t,e8,e6,a0,fc,cc,hg,hid,⟨d7,N,b9,e1,a4,v,hv,e4⟩,Y⟩=> ?_;subst hg d7 e1;have u:fc=Zw ρ {(base 21).at N b9 with mode:=.returning}:=Y.ba;have b6:cc=cs:=Y.under;subst b6;refine⟨fc,rfl,by rw[u];rfl,by rw[u];rfl,by rw[u];show N.defers.map _=_;grind,by rw[u];rfl,λd=> ?_⟩;have b7:(X.at ρ).WR a0<|A.at d:=Es Y.wr d;have a6:=Hx Try.f21<|N.tmps.map<|Zt ρ;have a7:Y2 ((results Try.f21<|N.tmps.map<|Zt ρ).run Try.prog<|A.at d)=A.at d:=a6.world _
 have F:=(AE (X:=X.at ρ) (V:=[]) Try.f21 N.tmps).run a0 (A.at d) #[] b7 (λr hr=>by simp at hr)
  (λj hj=>by
   rw[R ρ]at hj;have e:(Y2<|(results Try.f21<|N.tmps.map<|Zt (X.at ρ).ρ).run Try.prog<|A.at d).drawn=(A.at d).drawn:=Zg6 World.drawn a7;omega)
  (λj hj=>by
   rw[R ρ]at hj;have e:xz (xj<|Y2<|(results Try.f21<|N.tmps.map<|Zt (X.at ρ).ρ).run Try.prog<|A.at d)=xz (xj<|A.at d):=Zg6 (λw=>xz<|xj w) a7;omega)
 have c8:(results Try.f21 N.tmps).run (X.at ρ).Q a0=.ok v a0:=hv;rw[c8,R ρ]at F;obtain⟨b,c0,e7,L,d6,f1⟩:=F;have a1:(results Try.f21<|N.tmps.map<|Zt ρ).run Try.prog (A.at d)=.ok b c0:=by
  have:=Zg6 Prod.fst L;rw[Zh1]at this;exact this
 have e5:c0=A.at d:=by
  have:=a7;rw[a1]at this;exact this
 subst e5;have a9:b=Zt ρ v:=d6;refine⟨b,by rw[u];exact a1,?_⟩;rw[a9];refine(Z76 (Ng b7 e4 (Ip _).m)<|Ip _).mono λb' b0=> ?_;obtain⟨⟨z,hz,rfl⟩,e2⟩:=b0;refine⟨?_,e2⟩;by_cases b8:z<n0;have e:(X.at ρ).ρ z=z:=hid z b8;grind;obtain hz|hz:=hz;grind;right;have:=Y.new z (Nat.le_of_not_lt b8) hz.2;omega
def ZE(h:Hp)(p:Nat)(o:Ob):Fo:=⟨o,(Yr (Zv h) ((p:Int)+1) o.Z).1,((Zu h p).drop (o.Z+1).toNat).take o.size.toNat⟩
def YY(h:Hp):Nat->Nat->List Fo
 |0,_=>[]
 |n+1,p=>(obP h p).map (ZE h p)++YY h n (p+1)
def Tg(h:Hp)(x:Z5):Nat->Nat->List (Fo×Value)
 |0,_=>[]
 |n+1,p=>(obP h p).map (λo=>(ZE h p o,Uc h x p o))++Tg h x n (p+1)
def Ai h x:∀n p,(Tg h x n p).map (·.1)=YY h n p
 |0,p=>rfl
 |n+1,p=>by simp_all[Tg,YY,Zgf,Zh3,Ai]
def Ge h x:∀n p,(Tg h x n p).map (·.2)=Wc h x n p
 |0,p=>rfl
 |n+1,p=>by simp_all[Tg,Wc,Zgf,Zh3,Ge]
def Gd{h x y}:∀ {n p},y∈Tg h x n p->∃q o,q<p+n/\o∈obP h q/\y=(ZE h q o,Uc h x q o)
 |0,p,a=>by simp[Tg]at a
 |n+1,p,a=>by
  simp[Tg,Zfh]at a;obtain⟨o,f,rfl⟩|a:=a;exact⟨p,o,Z0,f,rfl⟩;let⟨q,o,g,d⟩:=Gd a;exact⟨q,o,Z0,d⟩
def ZW(h:Hp):Vw:=(YY h 4 0).foldl Vw.put ⟨[],[],[]⟩
def J6(h:Hp):V:=if Yg h=xk then V2 ((ZW h).gr h.E)else .ak [Yy Ui,vi 1]
structure OfOk (h:Hp):Prop where
 ob:∀p,p<4->I (obP h p)<=1000000/\∀o∈obP h p,0<=o.Z/\0<=o.size/\o.Z+1+o.size<=I (Zu h p)
 n:I (YY h 4 0)<=4000000
 sm:(ZW h).sm h.E
def Z7a{w K}{l:Z9}{v}(h:Rd w K (.sl<|l.map vu) v){d n}(q:0<I l)(N:d+n<=I l):Rd w K (.sl<|((l.drop d).take n).map vu)<|R8 v d n:=by
 generalize g:l.map vu=L at h;have p:I L=I l:=by rw[<-g,Zfu]
 cases h with
 |nil a cap H=>simp_all
 |sl _ b o cap k vs C D r t F u=>
  have M:k=1:=by
   have A:vu (l[0]'q)∈L:=by rw[<-g];exact Zgz Z1
   have:=(t _ A).1;simpa[vu,V.cells]using this.symm
  unfold R8;dsimp only;have z:I (((l.drop d).take n).map vu)=n:=Ze4;by_cases B:n=0;subst B;simp[List.take_zero,Zgq];exact .nil _ _ Z0;rw[Zf7 Z0]
  have:=Rd.sl (w:=w) (G:=K) (((l.drop d).take n).map vu) b (o+d) (cap-d) 1 (λi=>vs<|d+i) Z0 Z0 r Ze2
   Ze2
   (λi c f=>by
    rw[VU λx j=>by obtain⟨y,_,rfl⟩:=Zfh.1 j;rfl,Zfo,Zfx]at f;split at f;rw[Zfn]at f;exact u _ c (by rw[<-g,VU λx j=>by obtain⟨y,_,rfl⟩:=Zfh.1 j;rfl,Zfo];exact f);cases f)
  simp_all
def Z5d f:NoM<|X4 f:=.agg _ λc a=>by
 simp[ZhA]at a;obtain rfl|rfl|rfl|rfl|rfl|rfl|rfl:=a;all_goals first|exact .int _ _|exact .bool _|exact yp _
def Z2v{w K h x}(d:OfOk h)(r:∀j,j<5->Rd w K (.sl<|(Zu h j).map vu) (x j)):∀y∈Tg h x 4 0,Rd w K (X4 y.1) y.2/\NoM (X4 y.1):=by
 intro y g;obtain⟨q,o,p,f,rfl⟩:=Gd g;refine⟨?_,Z5d _⟩;let⟨k,l,n⟩:=(d.ob q Z0).2 o f;refine .agg _ _ rfl Z1 λi c a=> ?_
 match i,a with
 |0,a=>cases a;exact .int _ _
 |1,a=>cases a;exact .int _ _
 |2,a=>cases a;exact .int _ _
 |3,a=>cases a;exact .bool _
 |4,a=>cases a;exact .int _ _
 |5,a=>cases a;exact .int _ _
 |6,a=>cases a;exact Z7a Ze2 Z0 Z0
noncomputable def cB:Ctx:= {P:=Yb Try.prog,ix:=(vf<|Yb Try.prog).ix,own:=λ_=>xw,fresh,sig:=CJ,tr:=[3],n:=82}
def F5{P}:∀ {c},T9 P c=xk->TE (Lg.mo<|Yb P) c:=by
 intro c;induction c with
 |region id j d=>exactλh o g=>(Zh0.1 h) o g
 |seq x y a f=>intro h;simp[T9]at h;exact⟨a h.1,f h.2⟩
 |cond c x y a f=>intro h;simp[T9]at h;exact⟨a h.1,f h.2⟩
 |block id x a=>exact a
 |loop x a=>exact a
 |scope x a=>exact a
 |_=>intro h;first|trivial|cases h
def QK:(Yb Try.prog).follows .mixedOrders=xk:=Z2
def Iv{code S st fl B G Kf s a w w0 T0 N X Rt}(f:T9 Try.prog code=xk)(hc:comp (vf<|Yb Try.prog) code S=J (st,fl))(h:RelS Kf [4,23] T0 cB B G w0 82 s a w S)(j:Ym (Yb Try.prog) st s N X Rt):
  UW Try.prog code (Post Kf [4,23] T0 cB B G w0 82 fl N X Rt) a w:=
 letI:Lg (vf<|Yb Try.prog).P:=besI Try.prog
 jO (fc:=vf<|Yb Try.prog) QK (λp k q g d=>Cc Ze3 (Zg9 _ g) d) rfl rfl rfl (Zf3 _) code (F5 f) hc h j
def Z5t:Try.f21.body=J ofC:=Z2
def Z5u:ofC=.seq (Yi ofC [0]) (.seq (Yi ofC [1,0])<|.seq (Yi ofC [1,1,0])<|.seq (Yi ofC [1,1,1,0])<|Yi ofC [1,1,1,1]):=Z2
noncomputable def ops3:Array Oper:=KO<|Yi ofC [1,1,0]
def Z6W:Yi ofC [1,1,0]=.region 3 ops3 xw:=Z2
def Z6X:Yi ofC [1,1,1,0]=.region 4 ops4 xw:=Z2
def Z5E:∃o,ops3[0]?=J o/\o.guard=U/\o.dst=J 18/\o.op=.makeChan 106 (.const<|.int .i64 0):=⟨_,rfl,rfl,rfl,rfl⟩
def Z5F:∃o,ops3[1]?=J o/\o.guard=U/\o.dst=J 4/\o.op=.assign (.tmp 18):=⟨_,rfl,rfl,rfl,rfl⟩
def Z5G:∃o,ops4[0]?=J o/\o.guard=U/\o.dst=J 19/\o.op=.load 27 (.tmp 1):=⟨_,rfl,rfl,rfl,rfl⟩
def Z5H:∃o,ops4[1]?=J o/\o.guard=U/\o.dst=J 20/\o.op=.move (.tmp 4):=⟨_,rfl,rfl,rfl,rfl⟩
def Z5I:∃o a,ops4[2]?=J o/\o.guard=U/\o.dst=U/\o.op=.go ⟨.value<|.func 36, #[.tmp 19,.tmp 20],a⟩:=⟨_,_,rfl,rfl,rfl,rfl⟩
def II:ops3.size=2/\ops4.size=3:=⟨rfl,rfl⟩
def Z1H:∃d inf,Try.prog.underlying 106=J (.chan d 111)/\Try.prog.info? 111=J inf:=⟨_,_,rfl,rfl⟩
def Z10{B w w'}(h:Below B w w')d:Below B w<|w'.at d:=⟨h.os,h.tape,h.output,h.size,h.block⟩
def Z2E{b:Zg}{k:Zn}{cs:Z7}{a:Act}{g:Zc}{c:Nat}(l:b.kind≠.early)(d:a.tmps[19]?=J g)(f:a.tmps[20]?=J (.chan<|J c))(w:Z3):
  stepG Try.prog xk (G (b.at a<|.inRegion ops4 [2]::k) cs) w=.spawn (G (b.at a<|.inRegion ops4 []::k) cs) (born Try.prog {target:=.fn (.func 36) #[],args:=#[g,.chan<|J c]}) w #[]:=by
 obtain⟨o,j,n,p,q,r⟩:=Z5I;have t:=Act.aj a 19 _ d;have u:=Act.aj a 20 _ f;have h:execOp a.eval o=(pure (.spawn {target:=.fn (.func 36) #[],args:=#[g,.chan<|J c]}):Sem Next):=by
  unfold execOp;simp only[r];simp[resolve,Deferred.ofValue,Act.eval,d,f]
 have:=stepG_spawn (P:=Try.prog) (main:=xk) (b:=b) (a:=a) (k:=k) (cs:=cs) (w:=w) (i:=2) (rest:=[]) n (by simp[Region.wanted,p]) l (by rw[h];rfl) rfl;rw[q]at this;rw[this];unfold listed;rw[h];rfl
def Z5x{h B G s a w w0 T0}(S:RelS G [4,23] T0 cB B G w0 82 s a w Na)(q1:get s 1=.m [vu h.base,vi h.cap,vi h.to,.bool h.M,vi h.Y,.sl<|h.H.map vu,.sl<|h.aa.map vu,.sl<|h.an.map vu,.sl<|h.am.map vu,.sl<|h.E.map vu])(q3:get s 3=.v (vi 0)):
  ∃(F:Z4) (k l:Nat) (r t:Zf) (x:Z5),(∀b,F b->G b\/B<=b)/\¬F k/\¬F l/\B<=k/\B<=l/\k≠l/\B<=xz (xj w)/\a.tmps[1]?=J (.pointer<|J ⟨k,0,U⟩)/\a.tmps[2]?=J (.pointer<|J ⟨l,0,U⟩)/\a.tmps[3]?=J (.int .i64 0)/\
   w.heap[k]?=J (.cells #[.int .u64 h.base,.int .i64 h.cap,.int .i64 h.to,.bool h.M,.int .i64 h.Y,x 0,x 1,x 2,x 3,x 4] r (0,0))/\w.heap[l]?=J (.cells #[.slice U 0 0,.slice U 0 0] t (0,0))/\
   (∀j,j<5->Rd w F (.sl<|(Zu h j).map vu) (x j)):=by
 let⟨⟨L,k1,k2⟩,k3,k4,k5,k6⟩:=S;have X:cB.ix 1=1:=Ze5;have Y:cB.ix 3=3:=Ze5;obtain⟨u1,t1,k,d,r,P,rfl,f3,H⟩:=k1.Z 1 (by rw[Yo];exact VB _) ZeR;obtain⟨u2,t2,l,f,t,g1,rfl,g3,K⟩:=k1.Z 2 (by rw[Yo];exact VB _) ZeR;let⟨u3,t3,u⟩:=k1.Z 3 (by rw[Yo];exact VB _) ZeR;obtain⟨y3,o,A⟩:∃y,eval s _=J y/\Rd w _ y u3:=u;rw[Y]at o;simp[eval,q3,ZeV]at o;subst o;have M:=S6 A;subst M;have T:d.size=10:=H.1;have W:f.size=2:=K.1;have g:∀i y,[vu h.base,vi h.cap,vi h.to,.bool h.M,vi h.Y,.sl<|h.H.map vu,.sl<|h.aa.map vu,.sl<|h.an.map vu,.sl<|h.am.map vu,.sl<|h.E.map vu][i]?=J y->Rd w L.F y _:=λi y n=>by
  have p:i<10:=(ZeW.1 n).1
  have:=H.2 i (.fz,.m (cB.ix 1) i) (by
   match i,p with
   |0,_=>rfl
   |1,_=>rfl
   |2,_=>rfl
   |3,_=>rfl
   |4,_=>rfl
   |5,_=>rfl
   |6,_=>rfl
   |7,_=>rfl
   |8,_=>rfl
   |9,_=>rfl
   |i+10,h=>omega)
  let⟨z,D,z2,z3⟩:=this;rw[X]at D;simp[eval,q1,n,Zf8]at D;obtain⟨rfl,_⟩:=S3 D;exact z3
 have R:∀i,i<2->f.getD i xy=.slice U 0 0:=λi n=>by
  have:=K.2 i (.nil,.m (cB.ix 2) i) (by
   grind)
  exact this.1
 have N:d=#[.int .u64 h.base,.int .i64 h.cap,.int .i64 h.to,.bool h.M,.int .i64 h.Y,d.getD 5 xy,d.getD 6 xy,d.getD 7 xy,d.getD 8 xy,d.getD 9 xy]:=by
  refine Zhq Z0 λi q C=> ?_;have n:i<10:=by simpa using C
  have e:d[i]=d.getD i xy:=by simp[Array.getD,q]
  rw[e]
  match i,n with
  |0,_=>exact S6<|g 0 _ rfl
  |1,_=>exact S6<|g 1 _ rfl
  |2,_=>exact S6<|g 2 _ rfl
  |3,_=>exact Nc<|g 3 _ rfl
  |4,_=>exact S6<|g 4 _ rfl
  |5,_=>rfl
  |6,_=>rfl
  |7,_=>rfl
  |8,_=>rfl
  |9,_=>rfl
  |i+10,h=>omega
 have O:f=#[.slice U 0 0,.slice U 0 0]:=by
  refine Zhq Z0 λi q C=> ?_;have n:i<2:=by simpa using C
  have e:f[i]=f.getD i xy:=by simp[Array.getD,q]
  rw[e,R i n]
  match i,n with
  |0,_=>rfl
  |1,_=>rfl
  |i+2,h=>omega
 let⟨Z,m2,m3⟩:=k1.ok.ao 1 0 k P;let⟨n1,n2,n3⟩:=k1.ok.ao 2 0 l g1;refine⟨L.F,k,l,r,t,λj=>d.getD (5+j) xy,k1.ok.cq,m3,n3,Z,n1,λe=> ?_,Z0,t1,t2,t3,Ze2,Ze2,λj Q=> ?_⟩;grind
 match j,Q with
 |0,_=>exact g 5 _ rfl
 |1,_=>exact g 6 _ rfl
 |2,_=>exact g 7 _ rfl
 |3,_=>exact g 8 _ rfl
 |4,_=>exact g 9 _ rfl
 |j+5,h=>omega
def DG{h:Hp}(hh:h.ok)(hk:Yg h=xk->OfOk h):VC (Yb Try.prog) 21 xw [ZD h]<|J6 h:=by
 refine⟨Z2,λw G vs hG h3 g8 q C hK=> ?_⟩;have Y:VC (Yb Try.prog) 10 xw [ZD h]<|.bool<|Yg h:=Hn Qq (Qn hh) (λy hy=>by rw[ZfZ.1 hy];exact VZ h)<|.bool _;have d9:vs.size=1:=h3;have h5:Rd w G (ZD h)<|vs.getD 0 xy:=g8 0 _ rfl;have Z:Frame.enter Try.prog 21 vs .normal=(base 21).at {tmps:=vs++Array.replicate (82-vs.size) xy,defers:=[]} [.code ofC]:=by
  rw[enter_at vs Try.func21 Z5t,Try.ntmps21]
 show Walk Try.prog C (Frame.enter Try.prog 21 vs .normal) q w;rw[Z,Z5u];clear Z;have i0:cB.ix 0=0:=Ze5;generalize a4:({tmps:=vs++Array.replicate (82-vs.size) xy,defers:=[]}:Act)=a0;have t0:a0.tmps[0]?=J (vs.getD 0 xy):=by
  rw[<-a4];simp only;rw[ZgV Z0];simp[Zf1,d9]
 have g7:RelS G [4,23] a0.tmps cB (xz<|xj w) G w 82 [.v<|ZD h] a0 w yY:=by
  refine⟨⟨{F:=G,bl:=λ_ _=>U,K:=G},⟨⟨Zf3 _,hG,λb a=>.inl a,λb a=>a,λt i b a=>(by cases a),λt i u j b a=>(by cases a),hG,λt i b a=>(by cases a),λb a=>.inl a⟩,λt _ hk=> ?_,λt hh=> ?_⟩,rfl⟩,λp B=> ?_,.refl _ _,by rw[<-a4];simp[d9],by rw[<-a4]⟩;rw[Yo]at hk⊢;by_cases e:t=0;subst e;exact⟨_,t0,ZD h,by rw[i0];rfl,h5.mono λb a=>.inl a⟩;simp[yY,SS.at,ZgL e,TK.be]at hk;refine absurd ?_ hh;rw[Yo];split<;>exact VB _;simp only[yY,SS.at]at B;split at B<;>cases B
 refine .cw (Iv Z2 r0c g7 (N:=λs'=>get s' 1=.m [vu h.base,vi h.cap,vi h.to,.bool h.M,vi h.Y,.sl<|h.H.map vu,.sl<|h.aa.map vu,.sl<|h.an.map vu,.sl<|h.am.map vu,.sl<|h.E.map vu]/\get s' 2=.m [.sl [],.sl []]/\get s' 3=.v (vi 0)) (X:=λ_ _=>False) (Rt:=λ_=>False) (by simp[r0]) (base 21) _ q C (by simp[base]) λe a1 w1 B=> ?_);cases e with
 |exit id=>obtain⟨_,_,_,h,_⟩:=B;exact h.elim
 |ret=>obtain⟨_,_,_,h,_⟩:=B;exact h.elim
 |normal=>
  obtain⟨s1,S1,f8,⟨q1,q2,q3⟩,d7⟩:=B;cases f8;have b6:Below (xz<|xj w) w w1:=d7.2.2.1.below;refine .cw (Iv Z2 rXc d7.base (N:=λs'=>Yg h=xk/\get s' 1=get s1 1/\get s' 3=get s1 3) (X:=λ_ _=>False) (Rt:=λs'=>Yg h=xw/\XW s' [(2,.ag 2),(3,.v)]=J (.ak [Yy Ui,vi 1])) ?_ (base 21) _ q C (by simp[base]) λe a2 w2 B=> ?_);simp[rX,q1];refine ZC Y Z1 ?_;cases i6:Yg h;simp[YQ,XW,VL,UP,Ui,Yy];simp[YQ,q1];cases e with
  |exit id=>obtain⟨_,_,_,h,_⟩:=B;exact h.elim
  |ret=>
   obtain⟨s2,S2,L,⟨e1,e2⟩,l⟩:=B;have L:S2=Ci:=ZeL;subst L;have a6:Below (xz<|xj w) w w2:=b6.trans l.2.2.1.below;intro i3;refine hK _ w2 rfl ⟨rfl,l.2.2.2.2,rfl,_,Try.func21,λd=> ?_⟩;obtain⟨⟨h2,k1,k2⟩,k3,k4,k5,k6⟩:=l.ma d
   obtain⟨v,hv,a9⟩:=Lf (c:=cB) (f:=Try.f21) (D:=λb=>(xw=xw/\G b)\/(xz (xj w)<=b/\b< xz (xj<|w2.at d))) k1 k3 (λb a=>by
    obtain R|R:=k1.ok.cq b a;exact .inl ⟨rfl,R⟩;exact .inr ⟨R,k1.ok.bf b a⟩) (λr hr=>⟨Zfb.1 (Z2:(Try.f21.results.toList.all<|SQ (Yb Try.prog) Ci)=xk) r hr,λi b a=>.inr ⟨(k1.ok.ao _ _ b a).1,(k1.ok.ao _ _ b a).2.1⟩⟩) (x:=.ak [Yy Ui,vi 1]) (by rw[<-e2];exact Zg6 (XW s2) Z2)
   refine⟨v,hv,v,rfl,Z10 a6 d,?_⟩;unfold J6;rw[Zf7 (by rw[e1];simp)];exact a9
  |normal=>
   obtain⟨s2,S2,L,⟨e1,e2,e3⟩,l⟩:=B;cases L;have a6:Below (xz<|xj w) w w2:=b6.trans l.2.2.1.below;have W:=hk e1;obtain⟨F,Q,b2,T1,T2,x,hF,h6,h7,f6,f7,f5,i4,t1,t2,t3,e4,e5,g9⟩:=Z5x (h:=h) l (e2.trans q1)<|e3.trans q3;have e0:a2.tmps.size=82:=l.2.2.2.1;have g3:a2.defers=[]:=l.2.2.2.2;have l1:=(Zf2.1 e4).1;have l2:=(Zf2.1 e5).1;obtain⟨o,o1,o2,o3,o4⟩:=Z5E;obtain⟨o',p1,p2,p3,p4⟩:=Z5F;obtain⟨dir,inf,h4,c8⟩:=Z1H;refine .cw ?_;rw[Z6W];refine .region ?_;rw[II.1,show List.range 2=[0,1]from rfl];refine Walk.chan (i:=0) o1 (by simp[Region.wanted,o2]) (by simp[base]) o4 h4 c8 ?_;rw[o3];generalize hc:xz (xj w2)=c;obtain⟨w3,M⟩:∃w3,w3=w2.alloc (.chan 0 #[] xw 0 0 xw):=⟨_,rfl⟩;rw[<-M];have b4:((a2.put (J 18)<|.chan<|J c).eval<|.tmp 18)=.chan (J c):=Act.aj _ 18 _<|Rq Z0;refine Walk.val (i:=1) (v:=.chan<|J c) p1 (by simp[Region.wanted,p2]) (by simp[base]) (by rw[p4];rfl) (λw' _=>by unfold execOp;simp only[p4,b4];rfl)<|.gi ?_;rw[p3];have z3:xz (xj w3)=c+1:=by rw[M,<-hc];simp
   have b7:w3.heap[c]?=J (.chan 0 #[] xw 0 0 xw):=by rw[M,<-hc];exact Zfq ..
   have S:∀b,b<c->w3.heap[b]?=w2.heap[b]? :=λb a=>by rw[M];exact Zfa _ _ _ Z0
   have A:Below (xz<|xj w) w w3:=by rw[M];exact a6.alloc Z0 _
   have m1:w3.heap[Q]?=_:=(S Q Z0).trans e4;have m2:w3.heap[b2]?=_:=(S b2 Z0).trans e5;obtain⟨o0,e7,e8,e9,b0⟩:=Z5G;obtain⟨o9,f0,f1,f2,b3⟩:=Z5H;refine .cw ?_;rw[Z6X];refine .region ?_;rw[II.2,show List.range 3=[0,1,2]from rfl];generalize z:(a2.put (J 18)<|.chan<|J c).put (J 4) (.chan<|J c)=a3;have g1:a3.tmps[1]?=J (.pointer<|J ⟨Q,0,U⟩):=by rw[<-z,Wu Z0,Wu Z0];exact t1
   have g4:a3.tmps[4]?=J (.chan<|J c):=by rw[<-z];exact Rq (by rw[Su];omega)
   have gs:a3.tmps.size=82:=by rw[<-z,Su,Su];exact e0
   have f3:a3.eval (.tmp 1)=.pointer (J ⟨Q,0,U⟩):=Act.aj _ 1 _ g1;refine Walk.val (i:=0) (v:=Zx h x) e7 (by simp[Region.wanted,e8]) (by simp[base]) (by rw[b0];rfl) (λw' he=> ?_) ?_
   have hl:=qp (P:=Try.prog) (w:=w') (T:=27) Z2 Z2 (b:=Q) (o:=0) [.int .u64 h.base,.int .i64 h.cap,.int .i64 h.to,.bool h.M,.int .i64 h.Y,x 0,x 1,x 2,x 3,x 4] Z2 (λi u hi=>by
    rw[ZfL,Zf6 w' Q i _ T1 (0,0) (by rw[he];exact m1)];simpa using hi)
   unfold execOp;simp only[b0,f3];rw[ZfJ,hl];rfl;rw[e9];have f4:(a3.put (J 19)<|Zx h x).eval (.tmp 4)=.chan (J c):=Act.aj _ 4 _ (by rw[Wu Z0];exact g4);refine Walk.val (i:=1) (v:=.chan<|J c) f0 (by simp[Region.wanted,f1]) (by simp[base]) (by rw[b3];rfl) (λw' _=>by unfold execOp;simp only[b3,f4];rfl) ?_;rw[f2];generalize k:(a3.put (J 19)<|Zx h x).put (J 20) (.chan<|J c)=O;have u1:O.tmps[1]?=J (.pointer<|J ⟨Q,0,U⟩):=by rw[<-k,Wu Z0,Wu Z0];exact g1
   have u4:O.tmps[4]?=J (.chan<|J c):=by rw[<-k,Wu Z0,Wu Z0];exact g4
   have us:O.tmps.size=82:=by rw[<-k,Su,Su];exact gs
   have u2:O.tmps[2]?=J (.pointer<|J ⟨b2,0,U⟩):=by rw[<-k,Wu Z0,Wu Z0,<-z,Wu Z0,Wu Z0];exact t2
   have u3:O.tmps[3]?=J (.int .i64 0):=by rw[<-k,Wu Z0,Wu Z0,<-z,Wu Z0,Wu Z0];exact t3
   have i1:O.tmps[19]?=J (Zx h x):=by rw[<-k,Wu Z0];exact Rq Z0
   have i2:O.tmps[20]?=J (.chan<|J c):=by rw[<-k];exact Rq (by rw[Su];omega)
   have ud:O.defers=[]:=by rw[<-k,<-z];exact g3
   let K:Nat->Prop:=λb=>F b/\∃q e H,w3.heap[b]?=J (.cells q e H);have a7:∀j,j<5->Rd w3 K (.sl<|(Zu h j).map vu) (x j):=λj hj=>by
    have R:=Z79 (g9 j hj)<|Is _;refine R.keep (λb a=>S b ?_) λb a=>⟨a.1,?_⟩;obtain⟨_,q,e,H,a⟩:=a;have:=(Zf2.1 a).1;omega;obtain⟨_,q,e,H,a⟩:=a;exact⟨q,e,H,by rw[S b (by have:=(Zf2.1 a).1;omega)];exact a⟩
   obtain⟨n0,d5,c1,c0⟩:=FT w3<|O.tmps++ #[x 0,x 1,x 2,x 3,x 4];have hx:∀j,j<5->FixV n0 (x j):=λj hj=>by
    refine c1 _<|Zgy.2<|.inr ?_
    match j,hj with
    |0,_=>simp
    |1,_=>simp
    |2,_=>simp
    |3,_=>simp
    |4,_=>simp
    |j+5,h=>omega
   have b8:c<n0:=Z0;have h8:¬K Q:=λh=>h6 h.1;have h9:¬K b2:=λh=>h7 h.1;have b5:∀b,K b->b<xz (xj w3):=λb ⟨_,_,_,_,a⟩=>(Zf2.1 a).1;have e6:¬K c:=λ⟨_,_,_,_,a⟩=>by rw[b7]at a;cases a
   refine Walk.tq (KA:=K) (KB:=K) (OA0:=λb=>b=Q\/b=b2) (c:=c) (λw=>Z2E (by simp[base]) i1 i2 w)
    (Z4C (fs:=Tg h x 4 0) (fin:=ZW h) hh us ud u1 u2 u3 u4 m1 m2 Z0 f6 f7 f5 h8 h9 d5 b8 (λb a=>a.2) (λb q e H a=>c0 b q e H a) (λv hv=>c1 v<|Zgy.2<|.inl hv) hx a7 (Z2v W a7) (Ge h x 4 0) (by
     have:=W.n;rw[<-Ai h x 4 0,Zfu]at this;exact this) (by rw[Ai];rfl) W.sm)
    (Z1I hh d5 b8 (λb a=>a.2) (λb o ho a=>by
     obtain⟨_,q,e,H,he⟩:=a;rw[ho]at he;cases he;exact c0 b q e H ho) hx a7 W.ob) b7 (λb a=>by obtain rfl|rfl:=a<;>omega) b5 b5 (λb a=>by obtain rfl|rfl:=a<;>assumption) (λa=>by obtain a|a:=a<;>omega) e6 e6 ?_
   rintro OA g w' ⟨H,rfl,b9,hm,hd,g6,d8⟩ h0 a8 d6 i5 g5;refine⟨H,q,rfl,hK H w' b9 ⟨hm,hd,g6,_,by rw[b9];exact Try.func21,λd=> ?_⟩⟩;obtain⟨v,hv,a9⟩:=d8 d;refine⟨v,hv,v,rfl,⟨(Zg6 Prod.fst d6).trans A.os,a8.trans A.tape,(Zg6 Prod.snd d6).trans A.output,Zfw A.size h0,λb a=>(g5 b (by have:=A.size;omega) (λf9=>by obtain rfl|rfl:=f9<;>omega) Z0).trans<|A.block b a⟩,?_⟩;unfold J6;rw[Zfc e1];refine a9.mono λb a=> ?_;obtain⟨a,d0⟩:=a;obtain a|a:=a;obtain R|R:=hF b a.1;exact .inl ⟨rfl,R⟩;exact .inr ⟨R,d0⟩;exact .inr ⟨a,d0⟩
  |_=>exact B.elim
 |_=>exact B.elim
#print axioms DG
end Vm
end
section
namespace Vm
open Go Go.Proofs
section
section
variable {h:Hp}{p:Pts}
def Vn(h:Hp){q:Nat}(a:q<4):Zy h ((q:Int)+1)=Zu h q:=by
 have:q=0\/q=1\/q=2\/q=3:=Z0;obtain rfl|rfl|rfl|rfl:=this<;>rfl
def Rt.bz(r:Rt h p){q:Nat}(a:q<4):obP h q=p.at ((q:Int)+1):=by
 unfold Vm.obP;rw[r.tu Z0]
def UD{f:Fo}:∀ {n q:Nat},f∈YY h n q->∃k o,q<=k/\k<q+n/\o∈obP h k/\f=ZE h k o
 |0,q,a=>by simp[YY]at a
 |n+1,q,a=>by
  simp only[YY,Zfs,Zfh]at a;obtain⟨o,g,rfl⟩|a:=a;exact⟨q,o,Z0,Z0,g,rfl⟩;obtain⟨k,o,j,l,d⟩:=UD a;exact⟨k,o,Z0,Z0,d⟩
def Kt{k:Nat}{o:Ob}(a:o∈obP h k):∀ {n q:Nat},q<=k->k<q+n->ZE h k o∈YY h n q
 |0,q,d,f=>Z0
 |n+1,q,d,f=>by
  simp only[YY,Zfs,Zfh];by_cases e:k=q;subst e;exact .inl ⟨o,a,rfl⟩;exact .inr<|Kt a Z0 Z0
def Z6T(s:Vw)(f:Fo):(s.put f).ns=s.ns++if f.ob.gone then []else [f]:=by
 unfold Vw.put;split<;>simp
def G7:∀(l:List Fo) (s:Vw),(l.foldl Vw.put s).ns=s.ns++l.filter λf=> !f.ob.gone
 | [],s=>Z1
 |f::l,s=>by
  rw[ZgS,G7 l,Z6T];cases a:f.ob.gone<;>simp[a]
def qU(h:Hp):(ZW h).ns=(YY h 4 0).filter λf=> !f.ob.gone:=by
 unfold ZW;rw[G7];rfl
def KJ(r:Rt h p){q:Nat}(a:q<4):I (obP h q)<=I (Zu h q):=by
 have t:=r.al ((q:Int)+1) Z0;have:=t.sum<|Zg5 _;rw[Vn h a,<-r.bz a]at this;have d:I (obP h q)<=WA (obP h q):=by
  generalize obP h q=l;induction l with
  |nil=>simp
  |cons o l f=>simp only[WA,Zft,ZiE,Zgd]at f⊢;omega
 omega
def Rt.lq(r:Rt h p){q:Nat}(l:q<4):I (Zu h q)<=4096:=by
 obtain⟨a,d,_,_,_,⟨_,_,f,g⟩,⟨_,_,j,k⟩⟩:=XL.1 r.bj;simp only[Zv]at*;have:q=0\/q=1\/q=2\/q=3:=Z0;obtain rfl|rfl|rfl|rfl:=this;show I h.H<=4096;omega;show I h.aa<=4096;omega;show I h.an<=4096;omega;show I h.am<=4096;omega
def Rt.mt(r:Rt h p){q:Nat}(f:q<4){o:Ob}(d:o∈obP h q):∃a n m:Nat,o.Z=a/\o.size=n/\o.ac=m/\a+(n+1)<=I (Zu h q)/\n<=255/\m<=n:=by
 rw[r.bz f]at d;have:=r.toTld.ob Z0 d;rwa[Vn h f]at this
def lsW(a:h.ok){q:Nat}(d:q<4):∀w∈Zu h q,ZA w:=by
 have:q=0\/q=1\/q=2\/q=3:=Z0;obtain rfl|rfl|rfl|rfl:=this;exact a.ft;exact a.gc;exact a.ko;exact a.kf
def SG(r:Rt h p){q:Nat}(f:q<4){o:Ob}(d:o∈obP h q):(ZE h q o).sl.length=o.size.toNat:=by
 obtain⟨a,n,m,g,j,k,l,_⟩:=r.mt f d;simp only[ZE,Zg0,ZgK];omega
def Rt.tv(r:Rt h p)(x:h.ok):OfOk h:=by
 have F:I (YY h 4 0)<=16384:=by
  have A:=KJ r (q:=0) Z0;have j:=KJ r (q:=1) Z0;have l:=KJ r (q:=2) Z0;have t:=KJ r (q:=3) Z0;have G:=r.lq (q:=0) Z0;have k1:=r.lq (q:=1) Z0;have H:=r.lq (q:=2) Z0;have K:=r.lq (q:=3) Z0;simp only[YY,ZfK,Zfu,Zg2,ZfL,Nat.reduceAdd];omega
 refine⟨λq g=>⟨by have:=KJ r g;have:=r.lq g;omega,λo d=> ?_⟩,Z0,⟨?_,λf u=> ?_,by have:=r.du;omega,x.db⟩⟩;obtain⟨a,n,m,j,l,t,y,_⟩:=r.mt g d;omega;rw[qU];have:=Zi4 (λf:Fo=> !f.ob.gone)<|YY h 4 0;omega;rw[qU]at u;obtain⟨k,o,_,D,d,rfl⟩:=UD (Zhd.1 u).1;obtain⟨a,n,m,j,l,t,y,B,C⟩:=r.mt Z0 d;have e:=SG r Z0 d;refine⟨by show 0<=o.ac;omega,by show o.ac<=_;rw[e];omega,by rw[e];omega,λw z=>lsW x (q:=k) Z0 w ?_⟩;exact ZhB<|Zga z
def ofOk(a:h.ok)(d:Yg h=xk):OfOk h:=by
 obtain⟨p,r⟩:=Jl.1 d;exact r.tv a
end
def PP{h:Hp}(a:h.ok):VC (Yb Try.prog) 21 xw [ZD h]<|J6 h:=DG a<|ofOk a
end
section
structure VwI (d:List Fo) (s:Vw):Prop where
 ns:s.ns=d.filter λf=> !f.ob.gone
 n1:∀a j,ZT s.nm a=J j->∃i:Nat,j=i/\∃f,s.ns[i]?=J f/\f.ad=a
 n2:∀f∈s.ns,(ZT s.nm f.ad).isSome=xk
 t1:∀a t,ZT s.tm a=J t->∃f∈d,f.ob.gone=xk/\f.ad=a/\f.ob.target=t
 t2:∀f∈d,f.ob.gone=xk->(ZT s.tm f.ad).isSome=xk
def zT{α l k j}{x:α}(h:k=j\/(ZT l j).isSome=xk):(ZT (XE l k x) j).isSome=xk:=by
 rw[QM];split;rfl;rename_i a;obtain h|h:=h;exact absurd h a;exact h
theorem VwI.put{d s f}(i:VwI d s):VwI (d++[f])<|s.put f:=by
 cases l:f.ob.gone;have e:s.put f= {s with ns:=s.ns++[f],nm:=XE s.nm f.ad (I s.ns)}:=by simp[Vw.put,l]
 rw[e];refine⟨by simp[i.ns,l],λa j o=> ?_,λx h=> ?_,λa t n=> ?_,λx h k=> ?_⟩;simp[QM]at o;split at o;rename_i r;exact⟨I s.ns,by simpa using o.symm,f,Z1,r⟩;let⟨m,w,g,u,y⟩:=i.n1 a j o;exact⟨m,w,g,by simp[ZfI (ZeW.1 u).1,u],y⟩;obtain h|h:=Zfs.1 h;exact zT<|.inr<|i.n2 x h;rw[ZfZ.1 h];exact zT Z0;let⟨g,p,q⟩:=i.t1 a t n;exact⟨g,by simp[p],q⟩;obtain h|h:=Zfs.1 h;exact i.t2 x h k;rw[ZfZ.1 h,l]at k;exact absurd k Z1;have e:s.put f= {s with tm:=XE s.tm f.ad f.ob.target}:=by simp[Vw.put,l]
 rw[e];refine⟨by simp[i.ns,l],i.n1,i.n2,λa t n=> ?_,λx h k=> ?_⟩;simp[QM]at n;split at n;rename_i r;exact⟨f,Z1,l,r,by simpa using n⟩;let⟨g,p,q⟩:=i.t1 a t n;exact⟨g,by simp[p],q⟩;obtain h|h:=Zfs.1 h;exact zT<|.inr<|i.t2 x h k;rw[ZfZ.1 h];exact zT Z0
def VwI.rr:∀ {l d} {s:Vw},VwI d s->VwI (d++l) (l.foldl Vw.put s)
 | [],d,s,i=>by simpa using i
 |f::l,d,s,i=>by
  have:=VwI.rr (l:=l)<|i.put (f:=f);rwa[Zg1]at this
def Sk h:VwI (YY h 4 0)<|ZW h:=by
 have:VwI [] ⟨[],[],[]⟩:=⟨rfl,by simp[ZT],Z1,by simp[ZT],Z1⟩;exact this.rr (l:=YY h 4 0)
section
variable {h:Hp}{p:Pts}
def SF(r:Rt h p){q}(d:q<4){o}(f:o∈obP h q):(ZE h q o).ad=fstL (Zv h) (q+1)+o.Z:=by
 let⟨a,n,m,g,j,k,l,_⟩:=r.mt d f;show(Yr _ _ o.Z).1=_;rw[Qr r.bj Z0 (by rw[US Z0,Vn h d];omega)]
def Kc(r:Rt h p){f g}(u:f∈YY h 4 0)(w:g∈YY h 4 0)(e:f.ad=g.ad):f=g:=by
 obtain⟨k,o,_,z,l,rfl⟩:=UD u;obtain⟨j,q,_,y,n,rfl⟩:=UD w;rw[SF r Z0 l,SF r Z0 n]at e;have a:=l;have d:=n;rw[r.bz Z0]at a d;let⟨x,t⟩:=r.toTld.inj Z0 Z0 a d (by unfold ZJ;omega);have:k=j:=Z0;subst this;rw[t]
def Wm{f}:f∈(ZW h).ns↔f∈YY h 4 0/\f.ob.gone=xw:=by
 rw[(Sk h).ns];simp
def Rt.lf(r:Rt h p){f}(a:f∈YY h 4 0)(n:f.ob.gone=xw):∃i:Nat,ZT (ZW h).nm f.ad=J (i:Int)/\(ZW h).ns[i]?=J f:=by
 let⟨j,d⟩:=ZfU.1<|(Sk h).n2 f<|Wm.2 ⟨a,n⟩;obtain⟨i,rfl,g,k,l⟩:=(Sk h).n1 _ _ d;have:=Kc r (Wm.1 Ze2).1 a l;subst this;exact⟨i,d,k⟩
def Rt.mb(r:Rt h p){f}(a:f∈YY h 4 0)(d:f.ob.gone=xw){w}(q:w≠0)(n:(adr w).1=f.ad):∃i:Nat,(ZW h).ct w=i/\(ZW h).ns[i]?=J f:=by
 let⟨i,k,l⟩:=r.lf a d;refine⟨i,?_,l⟩;have:ZT (ZW h).tm f.ad=U:=by
  cases o:ZT (ZW h).tm f.ad with
  |none=>rfl
  |some t=>
   let⟨g,k1,j,u,_⟩:=(Sk h).t1 _ _ o;rw[Kc r k1 a u,d]at j;exact absurd j Z1
 unfold Vw.ct;rw[Zf7 q,n,this,ZiH,k,Zfv]
def Rt.py(r:Rt h p){f g}(a:f∈YY h 4 0)(o:f.ob.gone=xk)(gf:g∈YY h 4 0)(j:g.ob.gone=xw)(q:f.ob.target=g.ad){w}(u:w≠0)(n:(adr w).1=f.ad):∃i:Nat,(ZW h).ct w=i/\(ZW h).ns[i]?=J g:=by
 let⟨i,k,l⟩:=r.lf gf j;refine⟨i,?_,l⟩;let⟨t,e⟩:=ZfU.1<|(Sk h).t2 f a o;let⟨x,k1,z,y,d⟩:=(Sk h).t1 _ _ e;rw[Kc r k1 a y,q]at d;unfold Vw.ct;rw[Zf7 u,n,e,Zfv,<-d,k,Zfv]
def Rt.bq(r:Rt h p){q}(g:q<2){o}(a:o∈obP h q):o.gone=xw:=by
 rw[r.bz Z0]at a;let⟨w,_,d⟩:=((r.al _ Z0).az o a).1.word;cases f:o.gone;rfl;rw[f]at d;have:=d.1;simp at this;omega
def Rt.lc(r:Rt h p){w i j}(t:1<=i/\i<=4)(u:1<=j/\j<=4)(n:Gos h p w i j)(g:w≠0):∃(q:Nat) (o:Ob),q<4/\((q+1=i)\/(q+1=j))/\o∈obP h q/\w=2*(ZE h q o).ad+1/\(adr w).1=(ZE h q o).ad:=by
 obtain rfl|⟨k,o,l,f,rfl⟩:=n;exact absurd rfl g;obtain⟨q,rfl,d⟩:∃q:Nat,k=q+1/\q<4:=⟨(k-1).toNat,Z0,Z0⟩;have a:o∈obP h q:=by rw[r.bz d];exact f
 refine⟨q,o,d,l,a,?_,?_⟩;rw[SF r d a];rfl;rw[r.toTld.kw Z0 f,SF r d a]
def Rt.rm(r:Rt h p){w i j}(B:1<=i/\i<=4)(C:1<=j/\j<=4)(H:Gos h p w i j)(k:w≠0):∃(n:Nat),(ZW h).ct w=n/\n< (ZW h).ns.length:=by
 let⟨q,o,F,L,u,_,x⟩:=r.lc B C H k;have y:ZE h q o∈YY h 4 0:=Kt u Z0 Z0;cases d:o.gone;let⟨n,l,z⟩:=r.mb y d k x;exact⟨n,l,Ze2⟩;have K:2<=q:=by
  by_cases D:q<2;rw[r.bq D u]at d;exact absurd d Z1;omega
 have f:=u;rw[r.bz F]at f;let⟨t,G,A,_⟩:=r.gone _ Z0 o f d;have a:t∈obP h 0:=by rw[r.bz Z0];exact G
 let⟨n,l,z⟩:=r.py y d (g:=ZE h 0 t) (Kt a Z0 Z0) (r.bq Z0 a) (by rw[SF r Z0 a];exact A) k x;exact⟨n,l,Ze2⟩
def Rt.ra(r:Rt h p){w i j}(d:1<=i/\i<=4)(f:1<=j/\j<=4)(g:Gos h p w i j):VW (ZW h).ns.length ((ZW h).ct w)=xk:=by
 by_cases a:w=0;subst a;simp[Vw.ct,VW];omega;let⟨n,k,l⟩:=r.rm d f g a;simp[VW];omega
def yT{k i w}(d:Xg h p k i w):∃a b,(1<=a/\a<=4)/\(1<=b/\b<=4)/\Gos h p w a b:=by
 unfold Xg at d;split at d;exact⟨3,4,Z0,Z0,d⟩;split at d;obtain d|d:=d;exact⟨1,2,Z0,Z0,d⟩;exact⟨3,4,Z0,Z0,d⟩;exact⟨1,2,Z0,Z0,d⟩
def Rt.mc(r:Rt h p){d}(G:I d<=16)(K:∀w∈d,Gos h p w 1 2):Vm.right ((ZW h).gr d)=xk:=by
 simp only[Vm.right,ZeZ,Zfb,Zfp,Vw.gr,Zfu,Zfh];refine⟨⟨G,?_⟩,?_⟩;rintro _ ⟨f,B,rfl⟩;let⟨t,C⟩:=Wm.1 B;obtain⟨q,o,_,R,x,rfl⟩:=UD t;let⟨a,n,m,L,M,N,O,P,Q⟩:=r.mt Z0 x;have e:=SG r Z0 x;simp only[TW,V8,ZeZ,Zfb,Zfp,Zfu,Zg0,ZgK,Zfh];refine⟨Z0,?_⟩;rintro _ ⟨w,y,rfl⟩;let⟨j,g⟩:=Zfj y;have u:=(ZeW.1 g).1;rw[Zg0]at u;have H:(ZE h q o).ob.ac=o.ac:=rfl;rw[ZfC Z0]at g;have l:=x;rw[r.bz Z0]at l;have z:(Zy h<|q+1)[o.Z.toNat+1+j]?=J w:=by
  rw[Vn h Z0];simp[ZE]at g;rw[ZfC Z0,Zfn]at g;rw[<-g];congr 1;omega
 let⟨i,k,D,F,A⟩:=yT<|r.ptr _ Z0 o l C j Z0 w z;exact r.ra D F A;rintro _ ⟨w,y,rfl⟩;exact r.ra Z0 Z0<|K w y
def KW{s q}:∀ {l},(∀o∈l,(ZE h q o).sl.length=o.size.toNat/\0<=o.size/\o.ac<=o.size)->((((l.map<|ZE h q).filter λf=> !f.ob.gone).map<|V8 s).map Uh).sum=Y6 l
 | [],_=>rfl
 |o::l,g=>by
  have j:=KW (s:=s) (l:=l) λx n=>g x (by simp[n]);let⟨p,r,t⟩:=g o Z1;have k:Y6 (o::l)=Wg o+Y6 l:=by simp[Y6]
  rw[k,Zft,List.filter_cons];have a:(ZE h q o).ob=o:=rfl;cases d:o.gone;simp only[a,d,Bool.not_false,ZfT,Zft,ZiE,j];simp[Uh,V8,Wg,d,ZfV];omega;simp only[a,d,Zi9,j,Wg,Zfk,ZfT,ZfV,ZfL]
def Dl:∀ {l},(∀o∈l,o.gone=xw)->(∀o∈l,0<=o.size)->(Y6 l:Int)=WA l
 | [],_,_=>rfl
 |o::l,a,f=>by
  have h:=Dl (l:=l) Ze3 Ze3;have d:Y6 (o::l)=Wg o+Y6 l:=by simp[Y6]
  have g:WA (o::l)=1+o.size.toNat+WA l:=by simp[WA]
  rw[d,Wg,a o Z1];simp;omega
def Rt.me(r:Rt h p)d:(Wf ((ZW h).gr d).nodes:Int)=I h.H+I h.aa+Yh p:=by
 have G:∀q,q<4->∀o∈obP h q,(ZE h q o).sl.length=o.size.toNat/\0<=o.size/\o.ac<=o.size:=λq k o f=>by
  let⟨a,n,m,z,A,B,C,D,F⟩:=r.mt k f;exact⟨SG r k f,Z0,Z0⟩
 have e:Wf ((ZW h).gr d).nodes=Y6 (obP h 0)+(Y6 (obP h 1)+(Y6 (obP h 2)+Y6 (obP h 3))):=by
  unfold Wf Vw.gr;rw[qU h];simp only[YY,List.filter_append,Zgf,Zih,Zhv,ZfW,ZfL,Nat.reduceAdd];rw[KW Ze2,KW Ze2,KW Ze2,KW Ze2]
 have w:=(r.al 1 Z0).sum Z0;have x:=(r.al 2 Z0).sum Z0;have g:obP h 0=p.at 1:=r.bz Z0;have j:obP h 1=p.at 2:=r.bz Z0;have l:obP h 2=p.at 3:=r.bz Z0;have t:obP h 3=p.at 4:=r.bz Z0;have y:=Dl (λo f=>r.bq (q:=0) Z0 f) Ze2;have w1:=Dl (λo f=>r.bq (q:=1) Z0 f) Ze2;rw[g]at y;rw[j]at w1;rw[e,g,j,l,t];have u:Zy h 1=h.H:=rfl;have p2:Zy h 2=h.aa:=rfl;rw[u]at w;rw[p2]at x;have:Yh p=Y6 (p.at 3)+Y6 (p.at 4):=rfl;omega
end
end
def IX:Fn:=⟨6,[0,1,2,3,4,11],pQ [pR [(1,pS 0 10),pV 2<|pI 0],pC [pK 6 21 [.mm 1 0 10]] [(3,pM (.sz (.ext (.s 6) 0) 2) 2),pV 4<|.ext (.s 6) 1],pi 5 (pn (.s 4)<|pI 0)<|px [pV 2<|pI 0],pC [pK 7 22 [.mm 3 0 2]] [pV 2<|.s 7]] .ret,[(2,.v)]⟩
def c14:WB (Yb Try.prog) fresh sig [.fz] [] Try.f14=J IX:=Z2
theorem zm{P:Z6}{f:Zm}{fn:Func}{c:Code}(j:P.funcs[f]?=J fn)(h2:fn.body=J c)(k:T9 P c=xk):FitF (Yb P) f:=⟨λg d h a=>by
 have e:(Yb P).funcs[f]?=P.funcs[f]? :=rfl;rw[e,j]at h;cases h;rw[h2]at a;cases a;exact F5 k⟩
def Z5f(l:Z9):NoM<|.sl<|l.map vi:=.sl _ λc a=>by
 have:flat (l.map vi)=l.map vi:=VU λx d=>Zex;rw[this]at a;obtain⟨y,_,rfl⟩:=Zfh.1 a;exact .int _ _
def Z5e(g:Gr):NoM<|Yy g:=(Iq g).m
def J3{x:V}(h:NoM x):∀y∈[x],NoM y:=λy a=>by rw[ZfZ.1 a];exact h
def Q1{x z:V}(h:NoM x)(k:NoM z):∀y∈[x,z],NoM y:=λy a=>by
 simp only[Zfi,Zgk,ZhA]at a;obtain rfl|rfl:=a;exact h;exact k
def up{f:Zm}{args:List V}{r:V}(g:VC xP f xw args r)(a:∀x∈args,NoM x)(d:NoM r):VC (Yb Try.prog) f xw args r:=Hn Qq g a d
def Z0E{g:Gr}(a:g.sm):VC (Yb Try.prog) 22 xw [Yy g]<|vi<|words g:=up (Z0F a) (J3<|Z5e g)<|.int _ _
def vg(h:Hp):Gr:=(ZW h).gr h.E
def ofG(h:Hp):Gr×Int:=if Yg h=xk/\right (vg h)=xk then(Y0<|vg h,0)else(Ui,1)
def Z5w(h:Hp):J6 h=.ak [Yy (ofG h).1,vi (ofG h).2]:=by
 unfold J6 ofG V2 vg;by_cases a:Yg h=xk;rw[Zfc a];by_cases d:right ((ZW h).gr h.E)=xk;rw[Zfc d,Zfc ⟨a,d⟩];rw[Zf7 d,Zf7 λx=>d x.2];rw[Zf7 a,Zf7 λx=>a x.1]
def Z5v{h:Hp}(a:h.ok):(ofG h).1.sm:=by
 unfold ofG;split;rename_i k;exact Z1u (ofOk a k.1).sm.gr k.2;exact⟨by simp[Ui],by simp[Ui],by simp[Ui]⟩
def PO{h:Hp}(a:h.ok):VC (Yb Try.prog) 21 xw [ZD h]<|.ak [Yy (ofG h).1,vi (ofG h).2]:=by
 rw[<-Z5w];exact PP a
def liveR(h:Hp):Nat:=if(ofG h).2=0 then words (ofG h).1 else 0
instance fitLive:FitF (Yb Try.prog) 14:=zm (P:=Try.prog) Try.func14 rfl Z2
def PJ{h:Hp}(d:h.ok):VC (Yb Try.prog) 14 xw [ZD h]<|vi<|liveR h:=by
 refine Y4 (P:=Yb Try.prog) Try.func14 QK Z2 c14 rfl ?_;have k:=PO d;have f:=Z5v d;unfold liveR;generalize ofG h=g at*;obtain⟨g,e⟩:=g;simp only at k f⊢;simp[IX];refine ZC k Z1 ?_;by_cases a:e=0;simp[a];refine ZC (Z0E f) Z1 ?_;simp;simp[a]
end Vm
end
section

end
section
namespace Vm
open Go Go.Proofs
def Qk(g:Gr)(x:Int):Nat:=Uh<|(g.nodes[x.toNat]?).getD default
def Oi(f:Int->Nat):∀ {L l:Z9},L.Nodup->(∀x∈L,x∈l)->(L.map f).sum<=(l.map f).sum
 | [],_,_,_=>Zg5 _
 |x::L,l,h,a=>by
  obtain⟨k,g⟩:=ZgI.1 h;have j:=((List.perm_cons_erase<|a x<|.head _).map f).sum_nat;have:=Oi f g (l:=l.erase x) λy d=>(List.mem_erase_of_ne (by rintro rfl;exact k d)).2<|a y<|.tail _ d;simp only[Zft,ZiE]at j⊢;omega
def Z9J(l:List Nd):Wf l=((List.range<|I l).map λi:Nat=>Uh<|(l[i]?).getD default).sum:=by
 unfold Wf;congr 1;apply Zgr;intro i;rw[Zfo,Zfo];by_cases h:i<I l;simp[h];rw[ZfP Z0,ZfP Ze4];rfl
def jI(G:Gr):Wf (Y0 G).nodes=((order G).map<|Qk G).sum:=by
 unfold Wf Y0;simp only[Zh3];congr 1;refine Zgp λx _=> ?_;simp only[Function.comp,Sz,Uh,Qk,Wd,Zfu]
def Z1w{g:Gr}(a:right g=xk):words (Y0 g)<=words g:=by
 unfold words;rw[Zfc a];split;rw[jI,Z9J];have:=Oi (Qk g) (l:=(List.range<|I g.nodes).map Int.ofNat) (Jb a).1 λx d=>by
  have:=(Jb a).2 x d;exact Zfh.2 ⟨x.toNat,Ze4,Ze4⟩
 rwa[Zh3]at this;omega
def Ik:∀ {l a:Z9},(∀x∈l,x<0)->ZY a l=a
 | [],a,_=>rfl
 |x::l,a,h=>by
  have f:=h x Z1;simp only[ZY];rw[Zf7 Z0];exact Ik λy d=>h y (by simp[d])
def Z5Q{g:Gr}(h:∀x∈g.E,x<0):order g=[]:=by
 unfold order;rw[Ik h];simp[Xw]
section
def Ii(g:Hp)(e:Int):NoM<|.ak [ZD g,vi e]:=.ak _ λc a=>by
 simp only[Zfi,Zgk,ZhA]at a;obtain rfl|rfl:=a;exact VZ _;exact .int _ _
def Pr{h:Hp}{p:Pts}(a:h.ok)(r:Rt h p):VC (Yb Try.prog) 10 xw [ZD h]<|.bool xk:=by
 have:=up (Qn a) (J3<|VZ h)<|.bool _;rwa[r.right]at this
def Pt{h:Hp}(a:h.ok):VC (Yb Try.prog) 12 xw [ZD h]<|vi<|Sm h:=up (Dw a) (J3<|VZ h)<|.int _ _
section
variable {h:Hp}{p:Pts}
def Rt.cn(r:Rt h p):Vm.right (vg h)=xk:=r.mc r.du r.E
def Rt.uk(r:Rt h p):ofG h=(Y0<|vg h,0):=Zfc ⟨r.right,r.cn⟩
def Rt.om(r:Rt h p):liveR h=words (Y0<|vg h):=by
 unfold Vm.liveR;rw[r.uk,Zfc rfl]
def Rt.oo(r:Rt h p):(words (Y0<|vg h):Int)<=I h.H+I h.aa+Yh p:=by
 have a:=Z1w r.cn;have d:=r.me h.E;have f:words (vg h)=Wf ((ZW h).gr h.E).nodes:=Zfc r.cn;omega
end
end
section
section
variable {h:Hp}{p:Pts}
def Kd(r:Rt h p){q g:Nat}(l:q<4)(f:g<4){o k:Ob}(j:o∈obP h q)(d:k∈obP h g)(a:q≠g\/o.Z≠k.Z):(ZE h q o).ad≠(ZE h g k).ad:=by
 intro e;rw[SF r l j,SF r f d]at e;rw[r.bz l]at j;rw[r.bz f]at d;obtain⟨t,n⟩:=r.toTld.inj Z0 Z0 j d (by unfold ZJ;omega);obtain a|a:=a;omega;rw[n]at a;exact a rfl
def Ga(r:Rt h p):∀n q,q+n<=4->(YY h n q).Pairwise λf g=>f.ad≠g.ad
 |0,q,_=>.nil
 |n+1,q,A=>by
  simp only[YY];refine List.pairwise_append.2 ⟨?_,Ga r n (q+1) Z0,λf t g u=> ?_⟩;rw[List.pairwise_map];have d:=(r.al ((q:Int)+1) Z0).dx;rw[<-r.bz Z0]at d;exact d.imp_of_mem λj l w=>Kd r Z0 Z0 j l<|.inr Z0;obtain⟨o,x,rfl⟩:=Zfh.1 t;obtain⟨k,B,y,z,a,rfl⟩:=UD u;exact Kd r Z0 Z0 x a<|.inl Z0
def Z5m(r:Rt h p){i j:Nat}{f g:Fo}(q:(ZW h).ns[i]?=J f)(t:(ZW h).ns[j]?=J g)(e:f.ad=g.ad):i=j:=by
 have d:(ZW h).ns.Pairwise λf g=>f.ad≠g.ad:=by
  rw[qU];exact(Ga r 4 0 Z0).filter _
 have d:=List.pairwise_iff_getElem.1 d;obtain⟨k,l⟩:=ZeW.1 q;obtain⟨n,o⟩:=ZeW.1 t;obtain a|a|a:=Nat.lt_trichotomy j i;exact(d j i n k a<|by rw[l,o,e]).elim;exact a.symm;exact(d i j k n a<|by rw[l,o,e]).elim
end
end
section
def VM(h:Hp)(w:Int):Int:=(ZT (ZW h).tm (adr w).1).getD (adr w).1
def Ot(h:Hp){w:Int}(a:w≠0):(ZW h).ct w=(ZT (ZW h).nm<|VM h w).getD 0:=by
 unfold Vw.ct VM;rw[Zf7 a]
section
variable {h g:Hp}{p q:Pts}
def Sd(r:Rt h p){f:Fo}(g:f∈YY h 4 0)(j:f.ob.gone=xw){w:Int}(d:(adr w).1=f.ad):VM h w=f.ad:=by
 have:ZT (ZW h).tm f.ad=U:=by
  cases k:ZT (ZW h).tm f.ad with
  |none=>rfl
  |some t=>
   obtain⟨x,k1,a,l,_⟩:=(Sk h).t1 _ _ k;rw[Kc r k1 g l,j]at a;cases a
 unfold VM;rw[d,this,ZiH]
def Sc(r:Rt h p){f:Fo}(a:f∈YY h 4 0)(j:f.ob.gone=xk){w:Int}(g:(adr w).1=f.ad):VM h w=f.ob.target:=by
 obtain⟨t,e⟩:=ZfU.1<|(Sk h).t2 f a j;obtain⟨x,k1,l,k,d⟩:=(Sk h).t1 _ _ e;rw[Kc r k1 a k]at d;unfold VM;rw[g,e,Zfv,d]
def Ri{α:Type}(R:α->α->Prop):List α->List α->Prop
 | [],[]=>True
 |a::l,b::m=>R a b/\Ri R l m
 |_,_=>False
def jr{α:Type}{R:α->α->Prop}:∀ {l m:List α},I m=I l->(∀(j:Nat) (a b:α),l[j]?=J a->m[j]?=J b->R a b)->Ri R l m
 | [],[],_,_=>trivial
 |a::l,b::m,d,h=>⟨h 0 a b rfl rfl,jr Zeg λj x y f g=>h (j+1) x y Zek<|by simpa using g⟩
 | [],_::_,d,_=>by simp at d
 |_::_,[],d,_=>by simp at d
def Sp(h g:Hp)(τ:Int->Int)(w w':Int):Prop:=(w=0/\w'=0)\/(w≠0/\w'≠0/\∃f∈(ZW h).ns,f.ad=VM h w/\VM g w'=τ f.ad)
def Dz(h g:Hp)(τ:Int->Int)(f a:Fo):Prop:=a.ad=τ f.ad/\a.ob.ac=f.ob.ac/\a.sl.drop f.ob.ac.toNat=f.sl.drop f.ob.ac.toNat/\Ri (Sp h g τ) (f.sl.take f.ob.ac.toNat) (a.sl.take f.ob.ac.toNat)
def SO(h g:Hp)(τ:Int->Int)(i:Int):Int:=if 0<=i then(((ZW h).ns[i.toNat]?).bind λf=>ZT (ZW g).nm<|τ f.ad).getD 0 else i
def Z9c(r:Rt h p){τ:Int->Int}{w w':Int}(q:Sp h g τ w w'):(ZW g).ct w'=SO h g τ ((ZW h).ct w):=by
 obtain⟨rfl,rfl⟩|⟨k,l,f,n,d,j⟩:=q;simp[Vw.ct,SO];obtain⟨a,o⟩:=Wm.1 n;obtain⟨i,k1,t⟩:=r.lf a o;rw[Ot h k,Ot g l,<-d,j,k1];simp[SO,t]
def B5(r:Rt h p){τ:Int->Int}:∀ {l f:Z9},Ri (Sp h g τ) l f->f.map (ZW g).ct=(l.map (ZW h).ct).map (SO h g τ)
 | [],[],_=>rfl
 |a::l,b::m,d=>by rw[Zft,Zft,Zft,Z9c r d.1,B5 r d.2]
 | [],_::_,d=>d.elim
 |_::_,[],d=>d.elim
def Dc(r:Rt h p)(s:Rt g q)(τ:Int->Int)(P:∀f∈(ZW h).ns,∃a∈(ZW g).ns,Dz h g τ f a)
  (t:∀f∈(ZW h).ns,∀a∈(ZW h).ns,τ f.ad=τ a.ad->f.ad=a.ad) (B:Ri (Sp h g τ) h.E g.E):Y0 (vg g)=Y0 (vg h):=by
 have key:∀x:Int,x∈order (vg h)->∃(i n:Nat) (f a:Fo),x=i/\(ZW h).ns[i]?=J f/\(ZW g).ns[n]?=J a/\SO h g τ x=n/\Dz h g τ f a:=by
  intro x l;obtain⟨T,Z⟩:=(Jb r.cn).2 x l;have G:(vg h).nodes.length=(ZW h).ns.length:=by simp[vg,Vw.gr]
  have F:x.toNat< (ZW h).ns.length:=Z0;have D:=ZeX F;obtain⟨a,z,d⟩:=P _<|Zfr F;generalize (ZW h).ns[x.toNat]=f at*;obtain⟨A,O⟩:=Wm.1 z;obtain⟨n,k1,S⟩:=s.lf A O;refine⟨x.toNat,n,f,a,Z0,D,S,?_,d⟩;unfold SO;rw[Zfc T,D,Zf8,<-d.1,k1];rfl
 refine(Z1t r.cn s.cn (SO h g τ) (by simp[SO]) (λx l y Q e=> ?_) (λx l=> ?_) (B5 r B) λx l=> ?_).2;obtain⟨i,n,f,a,rfl,o,u,w,C⟩:=key x l;obtain⟨j,m,k,Y,rfl,H,K,X,R⟩:=key y Q;have:n=m:=Z0;subst this;rw[u]at K;cases K;have:=Z5m r o H<|t f (Zf5 o) k (Zf5 H)<|C.1.symm.trans R.1;omega;obtain⟨i,n,f,a,rfl,o,u,w,C⟩:=key x l;omega;obtain⟨i,n,f,a,rfl,o,u,w,W,L,M,N⟩:=key x l;rw[w];simp only[vg,Vw.gr,outs,Zfo,Zfl,o,u,Zfm,Zfv,V8,L,M,B5 r N]
def JJ{α:Type}{R:α->α->Prop}:∀ {l:List α},(∀a∈l,R a a)->Ri R l l
 | [],_=>trivial
 |a::l,h=>⟨h a Z1,JJ λx d=>h x<|by simp[d]⟩
def Wh(r:Rt h p){j:Nat}(a:j<4){x:Ob}(hx:x∈p.at ((j:Int)+1)):(ZE h j x).ad=fstL (Zv h) ((j:Int)+1)+x.Z:=SF r a (by rw[r.bz a];exact hx)
def X9(r:Rt h p){j:Nat}(a:j<4){x:Ob}(hx:x∈p.at ((j:Int)+1)):ZE h j x∈YY h 4 0:=Kt (by rw[r.bz a];exact hx) Z0 Z0
end
end
section
section
variable {h g:Hp}{p q:Pts}
def FH(r:Rt h p)(hc:h.M=xk)(b:Body g q)(f:UY g q)(e:Ext h p g q):Rt g q:=by
 let⟨l,a⟩:=e.H;have k:I h.H<=I g.H:=by rw[a,ZfK];omega
 have j:=r.kz hc;refine⟨b,by rw[e.E];exact r.du,by rw[e.Y];exact r.ei,by rw[e.Y];omega,λ_=>by rw[e.Y];omega,λd=> ?_,λ_=>f,λw a=> ?_⟩;rw[e.M,hc]at d;cases d;rw[e.E]at a;exact e.lc Z0 Z0<|r.E w a
def Ext.ej(e:Ext h p g q){j}(a:1<=j/\j<=4):Vm.fstL (Zv g) j=Vm.fstL (Zv h) j:=by
 have:=e.fst j 0 Z0;grind [ZJ]
def Z4Y(r:Rt h p)(hc:h.M=xk){k}(hk:3<=k/\k<=4){o}(T:o∈p.at k)(hg:o.gone=xw){a n:Nat}(ea:o.Z=a)(en:o.size=n):
  Rt (Yc h k a<|n+1) (p.mv k o (I h.H)<|Vm.fstL (Zv h) 1+I h.H)/\Y0 (vg<|Yc h k a<|n+1)=Y0 (vg h):=by
 have e:=r.toBody.ext r.dn hk T hg ea en;have s:=FH r hc (r.toBody.move r.dn hk T hg ea en) (IB r.toBody (r.fa hc) r.dn hk T hg ea en) e;obtain⟨m1,m2,m3,m4,m5,_⟩:=yk h hk a<|n+1;obtain⟨c1,c2,c3,c4⟩:=J1 (p:=p) hk o (I h.H)<|Vm.fstL (Zv h) 1+I h.H;refine⟨s,?_⟩;obtain⟨l,rfl,Z⟩:∃l:Nat,k=(l:Int)+1/\l<4:=⟨(k-1).toNat,Z0,Z0⟩;obtain⟨N,P,m,d8,d9,em,e0,e6,e5⟩:=r.toTld.ob Z0 T;have:N=a:=Z0;subst this;have:P=n:=Z0;subst this;have S:(⟨I h.H,o.size,o.ac,xw,0⟩:Ob)∈(p.mv ((l:Int)+1) o (I h.H)<|Vm.fstL (Zv h) 1+I h.H).at (((0:Nat):Int)+1):=by
  show _∈(p.mv _ _ _ _).at 1;rw[c1];exact Zh4 _<|.head _
 have b3:WT o.Z (Vm.fstL (Zv h) 1+I h.H) o∈(p.mv ((l:Int)+1) o (I h.H)<|Vm.fstL (Zv h) 1+I h.H).at ((l:Int)+1):=by
  rw[c3];exact Zgz T
 have K:∀(j:Nat) (x:Ob),j<4->x∈p.at ((j:Int)+1)->(j≠l\/x≠o)->x∈(p.mv ((l:Int)+1) o (I h.H)<|Vm.fstL (Zv h) 1+I h.H).at ((j:Int)+1):=by
  intro j x H C g;by_cases O:j=0;subst O;show _∈(p.mv _ _ _ _).at 1;rw[c1];exact Zg9 _ C;by_cases h1:j=1;subst h1;show _∈(p.mv _ _ _ _).at 2;rw[c2];exact C;by_cases M:j=l;subst M;rw[c3];refine Zfh.2 ⟨x,C,UE λe=> ?_⟩;obtain g|g:=g;exact g rfl;exact g<|r.toTld.de Z0 T C e;have e7:(j:Int)+1=7- ((l:Int)+1):=Z0;rw[e7]at C⊢;rw[c4];exact C
 generalize hq:p.mv ((l:Int)+1) o (I h.H) (Vm.fstL (Zv h) 1+I h.H)=q at*;have Q:∀(j:Nat) (x x':Ob),j<4->x∈p.at ((j:Int)+1)->x'∈q.at ((j:Int)+1)->x'.Z=x.Z->(ZE (Yc h ((l:Int)+1) N<|P+1) j x').ad=(ZE h j x).ad:=by
  intro j x x' H C F e';rw[Wh s H F,Wh r H C,e.ej Z0,e']
 have hA:=Wh r Z T;have hB:=Wh s Z0 S;rw[e.ej Z0]at hB;obtain⟨A,a5⟩:∃A,A=(ZE h l o).ad:=⟨_,rfl⟩;obtain⟨B,b1⟩:∃B,B=Vm.fstL (Zv h) 1+I h.H:=⟨_,rfl⟩;have b0:(ZE (Yc h ((l:Int)+1) N<|P+1) 0 ⟨I h.H,o.size,o.ac,xw,0⟩).ad=B:=by rw[hB,b1];rfl
 have R:∀(j:Nat) (x:Ob),j<4->x∈p.at ((j:Int)+1)->(j≠l\/x≠o)->(ZE h j x).ad≠A:=by
  intro j x H C g;rw[a5];refine Kd r H Z (by rw[r.bz H];exact C) (by rw[r.bz Z];exact T) ?_;obtain g|g:=g;exact .inl g;by_cases M:j=l;subst M;exact .inr λe=>g<|r.toTld.de Z0 T C e;exact .inl M
 have a3:∀(j:Nat) (x:Ob),j<4->x∈p.at ((j:Int)+1)->(j≠l\/x≠o)->(ZE h j x).ad≠B:=by
  intro j x H C g;have F:=K j x H C g;rw[<-Q j x x H C F rfl,<-b0];refine Kd s H Z0 (by rw[s.bz H];exact F) (by rw[s.bz Z0];exact S) ?_;by_cases O:j=0;subst O;obtain⟨b,_,_,eb,_,_,hb,_⟩:=r.toTld.ob (k:=((0:Nat):Int)+1) Z0 C;have:Zy h (((0:Nat):Int)+1)=h.H:=rfl;rw[this]at hb;exact .inr (by show x.Z≠(I h.H:Int);omega);exact .inl O
 have hw:∀(j:Nat) (x:Ob),j<4->x∈p.at ((j:Int)+1)->(j≠l\/x≠o)->(ZE (Yc h ((l:Int)+1) N<|P+1) j x).sl=(ZE h j x).sl:=by
  intro j x H C g;obtain⟨b,c,_,eb,ec,_,hb,_⟩:=r.toTld.ob Z0 C;simp only[ZE];rw[<-Vn _ H,<-Vn _ H];have e1:(x.Z+1).toNat=b+1:=Z0;have e2:x.size.toNat=c:=Z0;rw[e1,e2];have a9:∀i:Nat,i<b+1+c->b+1<=i->(Zy (Yc h ((l:Int)+1) N<|P+1)<|(j:Int)+1)[i]?=(Zy h<|(j:Int)+1)[i]? :=by
   intro i Y e3;by_cases O:j=0;subst O;show(Yc h ((l:Int)+1) N<|P+1).H[i]?=h.H[i]?;have:Zy h (((0:Nat):Int)+1)=h.H:=rfl;rw[this]at hb;rw[m1,ZfI Z0];by_cases h1:j=1;subst h1;show(Yc h ((l:Int)+1) N<|P+1).aa[i]?=h.aa[i]?;rw[m2];refine Bh hk Z0 Z0 ?_;by_cases M:j=l;subst M;rcases(r.al ((j:Int)+1) Z0).apart x C o T with e|e|e;obtain g|g:=g;exact(g rfl).elim;exact(g e).elim;exact .inr Z0;exact .inr Z0;exact .inl Z0
  refine Zgr λi=> ?_;simp only[Zfx,Zfn];split;exact a9 _ Z0 Z0;rfl
 have b7:(ZE (Yc h ((l:Int)+1) N<|P+1) 0 ⟨I h.H,o.size,o.ac,xw,0⟩).sl=(ZE h l o).sl:=by
  simp only[ZE];rw[<-Vn _ Z0,<-Vn _ Z];show(((Yc h ((l:Int)+1) N<|P+1).H).drop _).take _=_;rw[m1,show((I h.H:Int)+1).toNat=I h.H+1 by omega,show(o.Z+1).toNat=N+1 by omega,show o.size.toNat=P by omega,List.drop_append,ZhT Z0,ZfW,show I h.H+1-I h.H=1 by omega,Zj3,List.drop_take,List.take_take];congr 1;omega
 have a4:∀w i j:Int,(1<=i/\i<=4)->(1<=j/\j<=4)->Gos h p w i j->Sp h (Yc h ((l:Int)+1) N<|P+1) (λx=>if x=A then B else x) w w:=by
  intro w i j Y H hG;by_cases O:w=0;exact .inl ⟨O,O⟩;obtain⟨z,y,L,_,W,_,ha⟩:=r.lc Y H hG O;rw[r.bz L]at W;refine .inr ⟨O,O,?_⟩;cases G:y.gone;refine⟨ZE h z y,Wm.2 ⟨X9 r L W,G⟩,(Sd r (X9 r L W) G ha).symm,?_⟩;by_cases a1:z=l/\y=o;obtain⟨rfl,rfl⟩:=a1;dsimp only;rw[Zfc a5.symm];have:=Sc s (X9 s L b3) (by show(WT _ _ _).gone=xk;rw[Ud rfl]) (w:=w) (by rw[ha,Q z y _ L T b3 (QO _ _ _).1]);rw[this];show(WT _ _ _).target=B;rw[Ud rfl,b1];have g:z≠l\/y≠o:=by
   by_cases D:z=l;exact .inr λe=>a1 ⟨D,e⟩;exact .inl D
  dsimp only;rw[Zf7<|R z y L W g];have X:=K z y L W g;have e':=Q z y y L W X rfl;rw[<-e'];exact Sd s (X9 s L X) G (by rw[ha,e']);have e9:2<=z:=by
   by_cases hl:z<2;have:=r.bq hl (by rw[r.bz L];exact W);rw[this]at G;cases G;omega
  obtain⟨t,ht,h4,_⟩:=r.gone ((z:Int)+1) Z0 y W G;have a0:t∈p.at (((0:Nat):Int)+1):=ht;have d5:t.gone=xw:=r.bq (q:=0) Z0 (by rw[r.bz Z0];exact a0);have b5:(ZE h 0 t).ad=y.target:=by rw[Wh r Z0 a0,h4];rfl
  have a1:y≠o:=λe=>by rw[e,hg]at G;cases G
  refine⟨ZE h 0 t,Wm.2 ⟨X9 r Z0 a0,d5⟩,?_,?_⟩;rw[Sc r (X9 r L W) G ha,b5];rfl;dsimp only;rw[Zf7<|R 0 t Z0 a0 Z0,b5];have X:=K z y L W<|.inr a1;rw[Sc s (X9 s L X) G (by rw[ha,Q z y y L W X rfl])];rfl
 refine Dc r s (λx=>if x=A then B else x) (λf hf=> ?_) (λf hf f' c8 he=> ?_) ?_;obtain⟨a6,a7⟩:=Wm.1 hf;obtain⟨j,x,_,H,C,rfl⟩:=UD a6;have d6:=C;rw[r.bz Z0]at C;obtain⟨b,c,d,eb,ec,ed,hb,_⟩:=r.toTld.ob Z0 C;have a2:Ri (Sp h (Yc h ((l:Int)+1) N<|P+1)<|λx=>if x=A then B else x) ((ZE h j x).sl.take (ZE h j x).ob.ac.toNat)<|(ZE h j x).sl.take (ZE h j x).ob.ac.toNat:=JJ λw a8=>by
  obtain⟨i,Y⟩:=Zfj a8;have b4:=(ZeW.1 Y).1;rw[Zg0]at b4;have d0:(ZE h j x).ob.ac=x.ac:=rfl;rw[d0]at Y b4;rw[ZfC Z0]at Y;have e8:=SG r Z0 d6;have b6:(Zy h<|(j:Int)+1)[x.Z.toNat+1+i]?=J w:=by
   rw[Vn h Z0];simp only[ZE]at Y;rw[ZfC Z0,Zfn]at Y;rw[<-Y];congr 1;omega
  obtain⟨u,v,hu,hv,hG⟩:=yT<|r.ptr ((j:Int)+1) Z0 x C a7 i Z0 w b6;exact a4 w u v hu hv hG
 by_cases b8:j=l/\x=o;obtain⟨rfl,rfl⟩:=b8;refine⟨ZE _ 0 ⟨I h.H,x.size,x.ac,xw,0⟩,Wm.2 ⟨X9 s Z0 S,rfl⟩,?_,rfl,by rw[b7],by rw[b7];exact a2⟩;dsimp only;rw[Zfc a5.symm,b0];have g:j≠l\/x≠o:=by
  by_cases D:j=l;exact .inr λe=>b8 ⟨D,e⟩;exact .inl D
 have F:=K j x Z0 C g;refine⟨ZE _ j x,Wm.2 ⟨X9 s Z0 F,a7⟩,?_,rfl,by rw[hw j x Z0 C g],by rw[hw j x Z0 C g];exact a2⟩;dsimp only;rw[Zf7<|R j x Z0 C g,Q j x x Z0 C F rfl];obtain⟨a6,a7⟩:=Wm.1 hf;obtain⟨b2,d7⟩:=Wm.1 c8;obtain⟨j,x,_,H,C,rfl⟩:=UD a6;obtain⟨j',x',_,e4,F,rfl⟩:=UD b2;rw[r.bz Z0]at C F
 have b9:(ZE h j x).ad≠A->(ZE h j x).ad≠B:=λhn=>a3 j x Z0 C (by
  by_cases D:j=l;subst D;exact .inr λe=>Ze3;exact .inl D)
 have c0:(ZE h j' x').ad≠A->(ZE h j' x').ad≠B:=λhn=>a3 j' x' Z0 F (by
  by_cases D:j'=l;subst D;exact .inr λe=>Ze3;exact .inl D)
 split at he<;>split at he;rename_i h1 h2;rw[h1,h2];rename_i h1 h2;exact(c0 h2 he.symm).elim;rename_i h1 h2;exact(b9 h1 he).elim;exact he;rw[m5];exact JJ λw a8=>a4 w 1 2 Z0 Z0<|r.E w a8
def Z2y(r:Rt h p){w}(A:Gos h p w 1 2\/Gos h p w 3 4):∃v g q,FwdTo h p w v g q/\Rt g q/\Y0 (vg g)=Y0 (vg h):=by
 let⟨v,g,q,f⟩:=r.toBody.fi r.dn A;refine⟨v,g,q,f,?_⟩;obtain⟨rfl,rfl⟩|⟨k,o,a,n,y,j,x,t,u,rfl,rfl,_⟩:=f.tp;exact⟨r,rfl⟩;have d:h.M=xk:=by
  cases d:h.M;let⟨_,B,C⟩:=r.rest d;have l:=r.al k Z0;have z:Zy h k=[]:=by
   have:k=3\/k=4:=Z0;obtain rfl|rfl:=this;exact B;exact C
  rw[z]at l;rw[l.nil]at j;cases j;rfl
 exact Z4Y r d y j x t u
end
end
section
section
variable {h g E:Hp}{p q s:Pts}
def Z8l(r:Rt g q)(h:Rt E s){i:Nat}{w v:Int}(hw:g.H[i]?=J w)(Y:E.H=g.H.set i v)(N:E.aa=g.aa)(a0:E.E=g.E)
  (p:∀j:Nat,j<4->∀x∈s.at ((j:Int)+1),x∈q.at ((j:Int)+1)/\fstL (Zv E) ((j:Int)+1)=fstL (Zv g) ((j:Int)+1)/\(2<=j->Zy E ((j:Int)+1)=Zy g ((j:Int)+1)))
  (hv:(v=0↔w=0)/\(w≠0->VM g w=VM g v)/\(v=w\/WD q.H i=xk)):Y0 (vg E)=Y0 (vg g):=by
 have M:∀(j:Nat) (x:Ob),j<4->x∈s.at ((j:Int)+1)->(ZE E j x).ad=(ZE g j x).ad:=λj x T C=>by
  obtain⟨L,h2,_⟩:=p j T x C;rw[Wh h T C,Wh r T L,h2]
 have G:∀w i j:Int,(1<=i/\i<=4)->(1<=j/\j<=4)->Gos E s w i j->Sp E g (λx=>x) w w:=by
  intro w i j O T S;by_cases K:w=0;exact .inl ⟨K,K⟩;obtain⟨z,y,F,_,D,_,A⟩:=h.lc O T S K;have b1:=D;rw[h.bz F]at D;have a4:=(p z F y D).1;have W:=A.trans<|M z y F D;refine .inr ⟨K,K,?_⟩;cases l:y.gone;exact⟨ZE E z y,Wm.2 ⟨X9 h F D,l⟩,(Sd h (X9 h F D) l A).symm,by rw[M z y F D];exact Sd r (X9 r F a4) l W⟩;have b5:2<=z:=by
   by_cases hl:z<2;have:=h.bq hl b1;rw[this]at l;cases l;omega
  obtain⟨t,ht,h4,_⟩:=h.gone ((z:Int)+1) Z0 y D l;have Q:t∈s.at (((0:Nat):Int)+1):=ht;have a2:(ZE E 0 t).ad=y.target:=by rw[Wh h Z0 Q,h4];rfl
  exact⟨ZE E 0 t,Wm.2 ⟨X9 h Z0 Q,h.bq (q:=0) Z0 (by rw[h.bz Z0];exact Q)⟩,by rw[Sc h (X9 h F D) l A,a2];rfl,by rw[a2];exact Sc r (X9 r F a4) l W⟩
 refine(Dc h r (λx=>x) (λf hf=> ?_) (λf hf f' b4 he=>he) ?_).symm;obtain⟨a5,X⟩:=Wm.1 hf;obtain⟨j,x,_,T,C,rfl⟩:=UD a5;have a9:=C;rw[h.bz Z0]at C;obtain⟨R,_,a6⟩:=p j Z0 x C;obtain⟨b,c,d,eb,ec,ed,hb,_,b3⟩:=h.toTld.ob Z0 C;have a7:=SG h Z0 a9;have a1:=SG r Z0 (o:=x) (by rw[r.bz Z0];exact R);have H:∀(k:Hp) (n:Nat),n<c->(ZE k j x).sl[n]?=(Zy k<|(j:Int)+1)[x.Z.toNat+1+n]? :=λk n P=>by
  rw[Vn k Z0];simp only[ZE];rw[ZfC Z0,Zfn];congr 1;omega
 have a3:∀n:Nat,n<c->(ZE E j x).sl[n]?=(ZE g j x).sl[n]? \/(j=0/\x.Z.toNat+1+n=i/\(ZE E j x).sl[n]?=J v/\(ZE g j x).sl[n]?=J w):=λn P=>by
  rw[H E n P,H g n P];by_cases h2:2<=j;exact .inl (by rw[a6 h2]);by_cases L:j=1;subst L;exact .inl (by show E.aa[_]?=g.aa[_]?;rw[N]);have K:j=0:=Z0;subst K;show E.H[_]?=g.H[_]? \/(_/\_/\E.H[_]?=J v/\g.H[_]?=J w);rw[Y];by_cases O:x.Z.toNat+1+n=i;have:=(ZeW.1 hw).1;exact .inr ⟨rfl,O,by rw[O,Zg7 this],by rw[O,hw]⟩;exact .inl (by rw[ZfX (λe=>O e.symm)])
 have Z:(ZE E j x).ob.ac=x.ac:=rfl;refine⟨ZE g j x,Wm.2 ⟨X9 r Z0 R,X⟩,(M j x Z0 C).symm,rfl,?_,jr (by simp only[Zg0,a7,a1]) λn a b' A B=> ?_⟩;refine Zgr λn=> ?_;rw[Zfn,Zfn,Z];by_cases P:x.ac.toNat+n<c;obtain e|⟨rfl,O,e1,e2⟩:=a3 _ P;exact e.symm;obtain e|e:=hv.2.2;rw[e1,e2,e];obtain⟨o,ho,g1,g2⟩:=RM.1 e;have t1:=r.al 1 Z0;have b0:x∈q.H:=R;obtain⟨oa,on,_,ea,en,em,_,_,b2⟩:=r.toTld.ob (k:=1) Z0 ho;obtain L|L|L:=t1.apart x b0 o ho;subst L;omega;omega;omega;rw[ZfP Z0,ZfP Z0];rw[Z]at A B;have P:n<x.ac.toNat:=by
  have:=(ZeW.1 A).1;rw[Zg0]at this;omega
 rw[ZfC P]at A B;have S:Sp E g (λx=>x) a a:=by
  obtain⟨u,t,hu,ht,S⟩:=yT<|h.ptr ((j:Int)+1) Z0 x C X n Z0 a (by rw[<-H E n Z0];exact A);exact G a u t hu ht S
 obtain e|⟨_,_,e1,e2⟩:=a3 n Z0;rw[A,B]at e;cases e;exact S;rw[A]at e1;rw[B]at e2;cases e1;cases e2;obtain⟨g1,_⟩|⟨g1,_,fo,k1,k2,k3⟩:=S;exact .inl ⟨g1,hv.1.1 g1⟩;exact .inr ⟨g1,λe=>g1<|hv.1.2 e,fo,k1,k2,by rw[hv.2.1 (λe=>g1<|hv.1.2 e)];exact k3⟩;rw[a0];exact JJ λw a8=>G w 1 2 Z0 Z0<|h.E w (by rw[a0];exact a8)
def Z89(r:Rt h p)(hc:h.M=xk){t:Pts}(S:ScanTo h p g t):Y0 (vg g)=Y0 (vg h):=by
 obtain⟨i,w,v,f,s,hi,H,eq,O,B,hh⟩:=S.via;obtain⟨a,K,hv,o⟩:Rt f s/\f.H[i]?=J w/\((v=0↔w=0)/\(w≠0->VM f w=VM f v)/\(v=w\/WD s.H i=xk))/\Y0 (vg f)=Y0 (vg h):=by
  obtain⟨rfl,rfl,rfl⟩|⟨hp,C,F⟩:=hh;exact⟨r,H,⟨ZgP,λ_=>rfl,.inl rfl⟩,rfl⟩;have a:=FH r hc F.body (F.fa<|r.fa hc) F.ext;have D:=(ZeW.1 H).1;obtain⟨ws,L⟩:=F.ext.H;obtain⟨v',g',a0,⟨Z,_⟩,_,A⟩:=Z2y r C;have e:=F.fwd.symm.trans Z;simp only[Zf9]at e;obtain⟨rfl,rfl,_⟩:=e;refine⟨a,by rw[L,ZfI D];exact H,⟨F.zero,λh0=> ?_,.inr hp⟩,A⟩;obtain⟨_,rfl,_⟩|⟨rfl,_⟩|⟨k,x,hk,d,W,N,e2⟩:=F.dg;rfl;exact absurd rfl h0;obtain⟨z,rfl,Q⟩:∃z:Nat,k=(z:Int)+1/\z<4:=⟨(k-1).toNat,Z0,Z0⟩;obtain⟨y,P,X,_⟩:=a.gone _ Z0 x d N;have l:y∈s.at (((0:Nat):Int)+1):=P;have R:(adr w).1=(ZE f z x).ad:=by
   obtain⟨_,_,_,ea,_⟩:=a.toTld.ob Z0 d;rw[Wh a Q d,W,Ss a.bj Z0]
  have T:(adr v).1=(ZE f 0 y).ad:=by
   have Y:v=ZJ (Zv f) 1 y.Z:=by unfold ZJ;omega
   rw[Wh a Z0 l,Y,Ss a.bj (a.toTld.ij P).1];rfl
  rw[Sc a (X9 a Q d) N R,Sd a (X9 a Z0 l) (a.bq (q:=0) Z0 (by rw[a.bz Z0];exact l)) T,Wh a Z0 l];exact X
 rw[<-o];have hE:g.H=f.H.set i v/\g.aa=f.aa/\g.E=f.E/\(g.M=xk->Zv g=Zv f/\g.an=f.an/\g.am=f.am)/\∀j:Nat,j<2->fstL (Zv g) ((j:Int)+1)=fstL (Zv f) ((j:Int)+1):=by
  have G:Zv {f with H:=f.H.set i v,Y:=(i:Int)+1}=Zv f:=by unfold Zv;simp
  rw[eq];unfold YP;split;refine⟨rfl,rfl,rfl,λh=>Zei,λj u=> ?_⟩;rw[<-G];have:j=0\/j=1:=Z0;obtain rfl|rfl:=this<;>rfl;exact⟨rfl,rfl,rfl,λ_=>⟨G,rfl,rfl⟩,λj u=>by rw[G]⟩
 obtain⟨d1,d2,d3,d4,M⟩:=hE;refine Z8l a S.rt K d1 d2 d3 (λj u x d=> ?_) hv;cases n:g.M with
 |true=>
  obtain⟨l1,l2,l3⟩:=d4 n;rw[B n]at d;refine⟨d,by rw[l1],λh2=> ?_⟩;have:j=2\/j=3:=Z0;obtain rfl|rfl:=this;exact l2;exact l3
 |false=>
  have:=S.rt.empty n;have u:j=0\/j=1\/j=2\/j=3:=Z0;obtain rfl|rfl|rfl|rfl:=u;exact⟨by rw[<-show s.H=s.at (((0:Nat):Int)+1)from rfl,<-O.1];exact d,M 0 Z0,λh=>Z0⟩;exact⟨by rw[<-show s.aa=s.at (((1:Nat):Int)+1)from rfl,<-O.2];exact d,M 1 Z0,λh=>Z0⟩;rw[show t.at (((2:Nat):Int)+1)=t.an from rfl,this.1]at d;cases d;rw[show t.at (((3:Nat):Int)+1)=t.am from rfl,this.2]at d;cases d
def qv(r:Rt h p):∀k,Y0 (vg<|ZU h k)=Y0 (vg h)
 |0=>rfl
 |k+1=>by
  rw[R4];split;rename_i a;obtain⟨q,s⟩:=r.da k;obtain⟨d,f,S⟩:=s.rt.Y a;rw[S.eq];exact(Z89 s.rt a S).trans (qv r k);exact qv r k
end
end
section
section
variable {h g:Hp}{p q:Pts}
def Cp(h:Hp)(p:Pts)(g:Hp)(q:Pts):Prop:=∀k:Int,3<=k/\k<=4->∀(i:Nat) (o a:Ob),(p.at k)[i]?=J o->(q.at k)[i]?=J a->o.gone=xw->a.gone=xk->
 ∃t∈q.H,a.target=fstL (Zv g) 1+t.Z/\t.size=o.size/\t.ac=o.ac/\∀j:Nat,(j:Int)<o.size->g.H[t.Z.toNat+1+j]?=(Zy h k)[o.Z.toNat+1+j]?
def Cp.refl(h:Hp)(p:Pts):Cp h p h p:=λk j i o l f d g a=>by
 rw[f]at d;cases d;rw[g]at a;cases a
def Dy(h:Hp)(p:Pts)(g:Hp)(q:Pts):Prop:=(∀k:Int,3<=k/\k<=4->(q.at k).map (λo=>(o.Z,o.size,o.ac))=(p.at k).map (λo=>(o.Z,o.size,o.ac)))/\
 ∀k:Int,3<=k/\k<=4->∀(i:Nat) (o a:Ob),(p.at k)[i]?=J o->(q.at k)[i]?=J a->(o.gone=xk->a=o)/\(a.gone=xw->a=o/\∀j:Nat,(j:Int)<=o.size->(Zy g k)[o.Z.toNat+j]?=(Zy h k)[o.Z.toNat+j]?)
def Cp.move(c:Cp h p g q)(e:Dy h p g q)(r:Body g q)(P:g.Y<=I g.H){k:Int}(M:3<=k/\k<=4){o:Ob}(N:o∈q.at k)(X:o.gone=xw){a n:Nat}(ea:o.Z=a)(en:o.size=n):
  Cp h p (Yc g k a<|n+1) (q.mv k o (I g.H)<|fstL (Zv g) 1+I g.H):=by
 have ex:=r.ext P M N X ea en;obtain⟨C,F,m,a0,a1,em,a2,a5,a4⟩:=r.toTld.ob (k:=k) Z0 N;have:C=a:=Z0;subst this;have:F=n:=Z0;subst this;obtain⟨m1,_⟩:=yk g M C<|F+1;obtain⟨W,e2,e3,e4⟩:=J1 (p:=q) M o (I g.H)<|fstL (Zv g) 1+I g.H;have A:fstL (Zv<|Yc g k C<|F+1) 1=fstL (Zv g) 1:=by
  have:=ex.fst 1 0<|.inl rfl;unfold ZJ at this;omega
 intro j K i x T H D hx l;have Y:I (q.at j)=I (p.at j):=by have:=Zg6 List.length<|e.1 j K;simpa using this
 have a3:=(ZeW.1 H).1;have w:(q.at j)[i]?=J ((q.at j)[i]'Z0):=ZeX _;generalize (q.at j)[i]'Z0=y at w;rw[A];have f:y.gone=xk->T=y->∃t∈(q.mv k o (I g.H)<|fstL (Zv g) 1+I g.H).H,T.target=fstL (Zv g) 1+t.Z/\t.size=x.size/\t.ac=x.ac/\∀u:Nat,(u:Int)<x.size->(Yc g k C<|F+1).H[t.Z.toNat+1+u]?=(Zy h j)[x.Z.toNat+1+u]? :=λhy G=>by
  subst G;obtain⟨t,Z,c1,c2,c3,c4⟩:=c j K i x T H w hx hy;have Q:=r.toTld.ob (k:=1) Z0 Z;obtain⟨b,d,_,eb,ed,_,hb,_⟩:=Q;have O:Zy g 1=g.H:=rfl;rw[O]at hb;refine⟨t,by show t∈Pts.at _ 1;rw[W];exact Zg9 _ Z,c1,c2,c3,λz S=> ?_⟩;rw[m1,ZfI Z0];exact c4 z S
 by_cases L:j=k;subst L;rw[e3,Zfo,w,Zfm]at D;cases D;by_cases B:y.Z=o.Z;have R:y=o:=r.toTld.de Z0 N (Zf5 w) B;subst R;obtain⟨d1,d2⟩:=(e.2 j K i x y H w).2 X;refine⟨⟨I g.H,y.size,y.ac,xw,0⟩,by show _∈Pts.at _ 1;rw[W];exact Zh4 _<|.head _,by rw[Ud rfl],by rw[d1],by rw[d1],λz S=> ?_⟩;rw[<-d1]at S⊢;have:=d2 (1+z) (by rw[<-d1];omega);rw[<-d1,<-Zg3]at this;rw[<-this,m1];show(_++_)[(I g.H:Int).toNat+1+z]?=_;rw[Zfl,ZfB Z0,Zfn,ZfC Z0];congr 1;omega;rw[UE B]at l f⊢;exact f l rfl;have e7:j=7-k:=Z0;subst e7;rw[e4,w]at D;cases D;exact f l rfl
def Body.ln(r:Body g q)(d:g.Y<=I g.H){w v:Int}{g':Hp}{j:Pts}(f:FwdTo g q w v g' j)(l:Dy h p g q)(c:Cp h p g q):Cp h p g' j:=by
 obtain⟨rfl,rfl⟩|⟨k,o,a,n,y,z,x,t,u,rfl,rfl,_⟩:=f.tp;exact c;exact c.move l r d y z x t u
end
end
section
section
variable {h:Hp}{p:Pts}
def DQ(i:Nat)(g:Hp)(q:Pts):Prop:=∀o∈q.H,∃j:Nat,j<i/\g.E[j]?=J (ZJ (Zv g) 1 o.Z)
def FY(r:Rt h p)(hc:h.M=xw):∀i,i<=xq h.E->∃q,FlipI h p i (X3 (YA h) i) q/\Cp (YA h) (Tf p) (X3 (YA h) i) q/\DQ i (X3 (YA h) i) q
 |0,_=>⟨Tf p,⟨FX r hc,λo g=>(by cases g),.refl _ _,rfl,λ_ _=>rfl,λj B=>Z0⟩,.refl _ _,λo g=>(by cases g)⟩
 |i+1,F=>by
  obtain⟨q,I,c,R⟩:=FY r hc i Z0;have t:(X3 (YA h) i).Y<=(X3 (YA h) i).H.length:=by
   have:(X3 (YA h) i).Y=0:=I.ext.Y;omega
  obtain⟨v,l,D,f⟩:=I.body.fi t<|.inr<|Ad r Z0 I;have y:=I.body.ln t f ⟨I.ext.is,I.ext.gone⟩ c;have C:(X3 (YA h) i).E[i]?=J h.E[i]:=by rw[I.rest i<|Zf3 _];exact ZeX Z0
  have H:=I.len;have z:=f.ext.E;have w:∀a,ZJ (Zv l) 1 a=ZJ (Zv<|X3 (YA h) i) 1 a:=λa=>f.ext.fst 1 a<|.inl rfl;have A:X3 (YA h) (i+1)= {l with E:=(X3 (YA h) i).E.set i v}:=by
   show TM (X3 (YA h) i) i=_;unfold TM;rw[C,Zfv,f.fwd,z]
  refine⟨D,G2 r Z0 I f,?_,?_⟩<;>rw[A];exact y;intro o g;have u:o∈q.H->∃j:Nat,j<i+1/\((X3 (YA h) i).E.set i v)[j]?=J (ZJ (Zv l) 1 o.Z):=λd=>by
   obtain⟨j,B,e⟩:=R o d;refine⟨j,Z0,?_⟩;rw[ZfX Z0,e,w]
  have:o∈q.H\/ZJ (Zv l) 1 o.Z=v:=by
   obtain⟨_,rfl⟩|⟨k,x,a,n,G,_,_,_,_,_,rfl,rfl⟩:=f.tp;exact .inl g;rw[w];obtain d|d:=Zfs.1 g;exact .inl d;rw[ZfZ.1 d];exact .inr rfl
  obtain d|d:=this;exact u d;refine⟨i,Z0,?_⟩;show((X3 (YA h) i).E.set i v)[i]?=J (ZJ (Zv l) 1 o.Z);rw[Zg7 Z0,d]
end
end
end Vm
end
