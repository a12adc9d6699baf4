import Derived.Deep.DeepCutAuto
import Derived.Laws.EntriesVeiled
import Derived.Conc.SmallLaws
import Derived.Test.YtaepoabdapgbdaaSMeasureLeft5
set_option linter.unusedSimpArgs false
set_option linter.unusedVariables false
set_option linter.defProp false
open Option renaming some→J,none→U
open Bool renaming true→xk,false→xw
open Go renaming undef→xy
open List renaming length→I
open Array renaming size→xz
open Go.World renaming heap→xj
open List renaming length→xq
open Array renaming size→xz
open Go.World renaming heap→xj
set_option maxHeartbeats 40000000
set_option maxRecDepth 100000
theorem ZgL{p:Prop}(h:p:=by simp[World.setCell]):p:=h
theorem ZgC{p:Prop}(h:p:=by simp[results,Try.results41,go_sem]):p:=h
theorem Zgd{p:Prop}(h:p:=by simp only[Tj,QF,List.map_cons,List.map_nil,List.foldl_cons,List.foldl_nil,List.setIfInBounds_toArray,List.set_cons_succ,List.set_cons_zero]):p:=h
theorem ZgP{p:Prop}(h:p:=by show xz (xj w)≤c;omega):p:=h
theorem Zgy{p:Prop}(h:p:=by unfold Xy;omega):p:=h
theorem Zgm{p:Prop}(h:p:=by have:=f.c2;rw[A.out.1,A.out.2.1,A.out.2.2.1,A.out.2.2.2]at this;grind [cell_of_row]):p:=h
theorem Zg2{p:Prop}(h:p:=by decide+kernel):p:=h
theorem Zgx{p:Prop}(h:p:=by obtain⟨y,_,rfl⟩:=List.mem_map.1 d;rfl):p:=h
def Zlb:=@Go.wp_scope_jumps
def ZkO:=@Go.grownBy_keeps
def Zkg:=@List.take_append_of_le_length
def Zlf:=@Bool.and_true
def Zl0:=@Int.natCast_add
def ZkF:=@List.foldl_nil
def Zj1:=@List.setIfInBounds_toArray
def ZjV:=@List.set_cons_succ
def Zl9:=@Go.KeepsFrom.refl
def ZjC:=@List.all_eq_false
section
namespace Vm
open Go Go.Proofs Go.RowKit
def zm(w:Z3)(r:Hp×Int)(e:Ending)(w':Z3):Prop:=
 ∃x,e=.returned (.tuple #[ZA r.1 x,.int .i64 r.2])/\Below (xz<|xj w) w w'/\∀j,j<5->Rd w' (λc=>xz (xj w)<=c/\c<xz (xj w')) (.sl<|(Zu r.1 j).map vu) (x j)
def LK{w:Z3}{G:Z4}{h:Hp}{x:Z5}(k:h.ok)(f:∀b,G b->b<xz (xj w))(l:∀j,j<5->Rd w G (.sl<|(Zu h j).map vu) (x j)):
  Calls xP 17 #[ZA h x] w λe d=>e=.returned (.bool<|Yw h)/\Below (xz<|xj w) w d:=by
 refine ZjB ((QV k).2 w G _ f rfl ?_) ?_;intro i y a
 match i,a with
 |0,a=>cases a;exact Jr l
 rintro e d ⟨v,rfl,g,n⟩;exact⟨by rw[D2 n],g⟩
def Z0J(w:Z3)(G:Z4)(r:∀b,G b->b<xz (xj w))(h:Hp)(A:h.ok)(a:Z5)(y:∀j,j<5->Rd w G (.sl<|(Zu h j).map vu) (a j))(u:Yw h=xw):
  Calls xP 25 #[ZA h a] w (zm w (Hp.zero,1)):=by
 have p:∀W,Below (xz<|xj w) w W->Calls xP 17 #[ZA h a] W λe D=>e=.returned (.bool<|Yw h)/\Below (xz<|xj W) W D:=λW t=>
  LK (w:=W) (G:=G) (x:=a) A (λb f=>Zh8 (r b f) t.size) (λj B=>(y j B).keep (λb f=>t.block b<|r b f) λ_ q=>q)
 rw[u]at p;have z:=Zh2 p;clear p;clear y u;unfold ZA;go_enter zw,Try.ntmps25;go_wp2;refine Zlb 0 (λ_ _=>False) (λ_ _=>0) rfl ?_ (λ_ _ h=>h.elim)
 go_upto_region 2 with (first
  | (go_at_call 17;refine(z.out _ ?_).mono ?_;rotate_left;rintro e g ⟨rfl,d⟩
     have o:g.heap[xz<|xj w]?=J (.cells #[.int .u64 h.base,.int .i64 h.cap,.int .i64 h.to,.bool h.Y,.int .i64 h.Z,a 0,a 1,a 2,a 3,a 4] 30 (0,0)):=(d.block _ Zg1).trans<|(Zh4 _ _ _ Z1).trans<|Zhk w _;have k:g.heap[xz (xj w)+1]?=J (.cells ZL 30 (0,0)):=(d.block _ Z1).trans<|S8 w _;have H:∀j,g.cell? ⟨xz<|xj w,j,U⟩=(#[.int .u64 h.base,.int .i64 h.cap,.int .i64 h.to,.bool h.Y,.int .i64 h.Z,a 0,a 1,a 2,a 3,a 4]:Array Value)[j]? :=λj=>Zh7 _ _ _ _ _ _ o;have F:∀j,g.cell? ⟨xz (xj w)+1,j,U⟩=ZL[j]? :=λj=>Zh7 _ _ _ _ _ _ k;unfold ZL at F;have fz:∀j,g.frozen? ⟨xz (xj w)+1,j,U⟩=xw:=λj=>Yc k;have l:=Zh2 d;have n:=Zh2<|And.intro o k;clear d o k))
 case refine_1=>exact((Zhi _ w).alloc (Zh3 _) _).alloc Z1 _
 go_wp2;simp only[Exit.jump];have C:=WW n.out.2 (.int .u64 0) (.int .i64 0) (.int .i64 0) (.bool xw) (.int .i64 0) (.slice U 0 0) (.slice U 0 0) (.slice U 0 0) (.slice U 0 0)<|.slice U 0 0;refine ZhE (v:=.tuple #[.agg ZL,.int .i64 1]) ?_ rfl ?_
 .simp[results,Try.results25,go_sem,C,ZL]
 exact⟨λ_=>.slice U 0 0,rfl,XW (Below.trans (((Zhi _ w).alloc (Zh3 _) _).alloc Z1 _)<|l.out.mono Zg1) Z0 _ _ _ _ _ _ _ _ _ _,jM _ _⟩
def Z0K(w:Z3)(G:Z4)(r:∀b,G b->b<xz (xj w))(h:Hp)(A:h.ok)(a:Z5)(y:∀j,j<5->Rd w G (.sl<|(Zu h j).map vu) (a j))(u:Yw h=xk)(hc:h.Y=xk):
  Calls xP 25 #[ZA h a] w (zm w (Hp.zero,10)):=by
 have g:∀W,Below (xz<|xj w) w W->Calls xP 17 #[ZA h a] W λe D=>e=.returned (.bool<|Yw h)/\Below (xz<|xj W) W D:=λW t=>
  LK (w:=W) (G:=G) (x:=a) A (λb f=>Zh8 (r b f) t.size) (λj B=>(y j B).keep (λb f=>t.block b<|r b f) λ_ q=>q)
 rw[u]at g;unfold ZA at g;rw[hc]at g;have z:=Zh2 g;clear g;clear y u;unfold ZA;rw[hc];clear hc;go_enter zw,Try.ntmps25;go_wp2;refine Zlb 0 (λ_ _=>False) (λ_ _=>0) rfl ?_ (λ_ _ h=>h.elim)
 go_upto_region 4 with (first
  | (go_at_call 17;refine(z.out _ ?_).mono ?_;rotate_left;rintro e k ⟨rfl,d⟩
     have p:k.heap[xz<|xj w]?=J (.cells #[.int .u64 h.base,.int .i64 h.cap,.int .i64 h.to,.bool xk,.int .i64 h.Z,a 0,a 1,a 2,a 3,a 4] 30 (0,0)):=(d.block _ Zg1).trans<|(Zh4 _ _ _ Z1).trans<|Zhk w _;have l:k.heap[xz (xj w)+1]?=J (.cells ZL 30 (0,0)):=(d.block _ Z1).trans<|S8 w _;have H:∀j,k.cell? ⟨xz<|xj w,j,U⟩=(#[.int .u64 h.base,.int .i64 h.cap,.int .i64 h.to,.bool xk,.int .i64 h.Z,a 0,a 1,a 2,a 3,a 4]:Array Value)[j]? :=λj=>Zh7 _ _ _ _ _ _ p;have F:∀j,k.cell? ⟨xz (xj w)+1,j,U⟩=ZL[j]? :=λj=>Zh7 _ _ _ _ _ _ l;unfold ZL at F;have fz:∀j,k.frozen? ⟨xz (xj w)+1,j,U⟩=xw:=λj=>Yc l;have n:=Zh2 d;have o:=Zh2<|And.intro p l;clear d p l))
 case refine_1=>exact((Zhi _ w).alloc (Zh3 _) _).alloc Z1 _
 go_wp2;simp only[Exit.jump];have C:=WW o.out.2 (.int .u64 0) (.int .i64 0) (.int .i64 0) (.bool xw) (.int .i64 0) (.slice U 0 0) (.slice U 0 0) (.slice U 0 0) (.slice U 0 0)<|.slice U 0 0;refine ZhE (v:=.tuple #[.agg ZL,.int .i64 10]) ?_ rfl ?_
 .simp[results,Try.results25,go_sem,C,ZL]
 exact⟨λ_=>.slice U 0 0,rfl,XW (Below.trans (((Zhi _ w).alloc (Zh3 _) _).alloc Z1 _)<|n.out.mono Zg1) Z0 _ _ _ _ _ _ _ _ _ _,jM _ _⟩
section
def Z9N{P a w Q c rest}l k(μ:Act->World->Nat)(j:findLabel c l=J (.seq .skip rest))
  (pass:∀a w,k a w->rest.wp P (Exit.jump l (λd g=>k d g/\μ d g<μ a w) Q) a w)
  (first:(∀a w,k a w->rest.wp P (Exit.jump l k Q) a w)->c.wp P (Exit.jump l k Q) a w):=
 Zlb l k μ j (first λa w f=>Code.wp_mono (λe d g h=>by
  cases e<;>first
   |exact h
   |exact⟨h.1,h.2.1⟩) (pass a w f)) λa w f=>wp_seq<|wp_skip<|pass a w f
def Z2d{t n}(h:t.size=n):t=((List.range n).map λi=>t.getD i xy).toArray:=by
 apply Zjs;simp[h];intro i a d;simp[a]
def O6{w2:Z3}{b:Nat}{T:Zf}{k l n o p q r t u w:Ze}(x:w2.heap[b]?=J (.cells #[k,l,n,o,p,q,r,t,u,w] T (0,0)))(v0 v1 a d v4 f v6 g h j:Ze):((((((((((w2.setCell ⟨b,0,U⟩ v0).setCell ⟨b,1,U⟩ v1).setCell ⟨b,2,U⟩ a).setCell ⟨b,3,U⟩ d).setCell ⟨b,4,U⟩ v4).setCell ⟨b,5,U⟩ f).setCell ⟨b,6,U⟩ v6).setCell ⟨b,7,U⟩ g).setCell ⟨b,8,U⟩ h).setCell ⟨b,9,U⟩ j).heap[b]?=J (.cells #[v0,v1,a,d,v4,f,v6,g,h,j] T (0,0)):=by
 simp[World.setCell,ZhB,x]
def Yn(h:Hp)(x:Z5):Array Value:=#[.int .u64 h.base,.int .i64 h.cap,.int .i64 h.to,.bool h.Y,.int .i64 h.Z,x 0,x 1,x 2,x 3,x 4]
structure FlI (w W:World) (c:Nat) (g:Hp) (x:Nat->Value):Prop where
 below:Below (xz<|xj w) w W
 rb:W.heap[xz (xj w)+1]?=J (.cells ZL 30 (0,0))
 le:xz (xj w)+2<=c
 nb:W.heap[c]?=J (.cells (Yn g x) 30 (0,0))
 rd:∀j,j<5->Rd W (λb=>xz (xj w)+2<=b/\b<xz (xj W)/\b≠c) (.sl<|(Zu g j).map vu) (x j)
def Z3F{n}(h:n=0\/n=1):Yq<|1-n:=by unfold Yq;omega
def Z3P{h}(p:h.ok)(q:h.to=0\/h.to=1):(WB h).ok:=by
 let⟨d,f,r,t,g,j,u,x,k,l,n,y,z,o⟩:=p;exact⟨d,f,Z3F q,⟨by show _<=(0:Int);omega,by show(0:Int)<=_;omega⟩,Zik _,Zik _,g,j,k,λw a=>(by cases a),λw a=>(by cases a),l,n,o⟩
def Z9e{h:Hp}(z:h.ok){k v}(A:ZC v):({h with E:=h.E.set k v}:Hp).ok:=by
 let⟨d,f,g,j,l,n,o,p,q,r,t,u,x,y⟩:=z;refine⟨d,f,g,j,l,n,o,p,by simp[ZiY];exact q,r,t,u,x,λw a=> ?_⟩;obtain a|rfl:=Ziw a;exact y w a;exact A
def Z41{l:Z8}(h:∀w∈l,ZC w)(i:Nat):ZC<|(l[i]?).getD 0:=by
 cases e:l[i]? with
 |none=>exact⟨Zgg,Zgg⟩
 |some x=>exact h x ZfZ
def AI{h}(a:h.ok)(d:h.to=0\/h.to=1):∀k,(VR (WB h) k).ok
 |0=>Z3P a d
 |k+1=>by
  have g:=AI a d k;have f:=yr g<|Z41 g.dm k;exact Z9e f.1 f.2
def VK(i:Nat):Nat:=if i<7 then 39+i else if i=7 then 38 else if i=8 then 46 else if i=9 then 47 else if i=10 then 48 else if i=11 then 7 else if i=12 then 6 else if i=14 then 8 else 0
def DP:∀i,i<15->∀j,j<15->i≠j->VK i≠VK j:=Zgg
def frE(c:Nat)(g:Hp)(x:Z5)(k:Nat)(a:Ze)(u:Int):Nat->Value
 |0=>.agg<|Yn g x
 |1=>.pointer<|J ⟨c,9,U⟩
 |2=>x 4
 |3=>.int .i64 k
 |4=>a
 |_=>.int .u64 u
def KP(fv:Int)(g':Hp)(a:Z5):Value:=.tuple #[.int .u64 fv,.agg<|Yn g' a,.int .i64 0]
def FrV(E:Z5)(fv:Int)(g':Hp)(O:(Nat->Value)->Prop)(i:Nat)(val:Ze):Prop:=
 if i<6 then val=E i else if i=6\/i=7 then ∃a,val=KP fv g' a/\O a else if i=9 then ∃a,val=.agg (Yn g' a)/\O a else if i=8\/i=12 then val=.int .u64 fv else val=.int .i64 0
def FrV.mono{E fv g' O a i val}(h:FrV E fv g' O i val)(d:∀x,O x->a x):FrV E fv g' a i val:=by
 unfold FrV at*;split;rename_i c;rw[Zhc c]at h;exact h;rename_i c;rw[Zh9 c]at h;split;rename_i c;rw[Zhc c]at h;let⟨x,e,o⟩:=h;exact⟨x,e,d x o⟩
 rename_i c;rw[Zh9 c]at h;split;rename_i c;rw[Zhc c]at h;let⟨x,e,o⟩:=h;exact⟨x,e,d x o⟩
 rename_i c;rw[Zh9 c]at h;exact h
structure FrO (W0 W:World) (L:Nat->Bool) (v:Nat->Value) (g':Hp) (x':Nat->Value):Prop where
 own:HOwn (xz<|xj W0) W g' x'
 ak:∀j,j<5->∀b,(x' j).ownBlock=J b->L 11=xk->v 7≠.pointer (J ⟨b,0,U⟩)
structure FrC (W0:World) (E:Nat->Value) (fv:Int) (g':Hp) (L:Nat->Bool) (v:Nat->Value) (W:World):Prop where
 b:Below (xz<|xj W0) W0 W
 val:∀i,i<15->i≠11->i≠13->L i=xk->FrV E fv g' (FrO W0 W L v g') i (v<|VK i)
 new:L 11=xk->∃c,v 7=.pointer (J ⟨c,0,U⟩)/\xz (xj W0)<=c/\c<xz (xj W)/\(L 13=xw->W.heap[c]?=J (.cells ZL 30 (0,0)))
 put:L 13=xk->∃c x',v 7=.pointer (J ⟨c,0,U⟩)/\W.heap[c]?=J (.cells (Yn g' x') 30 (0,0))/\FrO W0 W L v g' x'
 c13:L 13=xk->L 11=xk
section
variable {W0 W W':Z3}{E:Z5}{fv:Int}{g':Hp}{L:ZfY}{v:Z5}
def FrO.keep{d v' a}(o:FrO W0 W L v g' a)(k:∀j,j<5->∀b,(a j).ownBlock=J b->W'.heap[b]?=W.heap[b]?)(l:xz (xj W)<=xz (xj W'))
  (f:∀j,j<5->∀b,(a j).ownBlock=J b->d 11=xk->v' 7≠.pointer (J ⟨b,0,U⟩)):FrO W0 W' d v' g' a:=
 ⟨⟨λj g=>Xs (o.own.own j g) λb h=>ZfZ,o.own.apart⟩,f⟩
def FrC.step(C:FrC W0 E fv g' L v W){i s}(z:i<15)(D:i≠11)(F:i≠13)(G:s=VK i){x}(l:Below (xz<|xj W) W W')
  (H:FrV E fv g' (FrO W0 W' L v g') i x):FrC W0 E fv g' (add L i) (Xf v s x) W':=by
 subst G;have g:add L i 11=L 11:=WH Z0;have k:add L i 13=L 13:=WH Z0;have p:Xf v _ x 7=v 7:=TZ v x (show VK 11≠VK i from DP 11 Z0 i z Z0);have A:∀f,FrO W0 W L v g' f->FrO W0 W' (add L i) (Xf v _ x) g' f:=λf o=>o.keep (λj h b d=>l.block b ((o.own.own j h).lt b d).2) l.size (λj h b d=>by rw[g,p];exact o.ak j h b d);have w:∀f,FrO W0 W' L v g' f->FrO W0 W' (add L i) (Xf v _ x) g' f:=λf o=>o.keep Z1 Z0 (λj h b d=>by rw[g,p];exact o.ak j h b d);refine⟨C.b.trans<|l.mono C.b.size,λj h t u a=> ?_,λa=> ?_,λa=> ?_,λa=> ?_⟩;by_cases e:j=i;subst e;rw[RD];exact H.mono w;rw[WH e]at a;rw[TZ v x<|DP j h i z e];exact(C.val j h t u a).mono A;rw[g]at a;let⟨c,q,r,n,B⟩:=C.new a;refine⟨c,by rw[p];exact q,r,Zh8 n l.size,λy=> ?_⟩;rw[k]at y;exact(l.block c n).trans (B y);rw[k]at a;let⟨c,f,q,r,n⟩:=C.put a;exact⟨c,f,by rw[p];exact q,(l.block c ZfZ).trans r,A f n⟩;rw[k]at a;rw[g];exact C.c13 a
def FrC.call(C:FrC W0 E fv g' L v W){g}(o:Below (xz<|xj W) W W')(f:HOwn (xz<|xj W) W' g' g):FrC W0 E fv g' (add L 6) (Xf v 45<|KP fv g' g) W':=by
 refine C.step Z0 Z0 Z0 rfl o ?_;unfold FrV;rw[Zh9 Z0,Zhc<|.inl rfl];refine⟨g,rfl,⟨λj d=>Rq (f.own j d) λb k l=>⟨Zhu C.b.size k,l⟩,f.apart⟩,λj d b a n e=> ?_⟩;let⟨c,h,_,p,_⟩:=C.new n;rw[h]at e;cases e;have:=((f.own j d).lt b a).1;omega
def FrC.alloc(C:FrC W0 E fv g' L v W)(h:L 11=xw):FrC W0 E fv g' (add L 11) (Xf v 7<|.pointer<|J ⟨xz<|xj W,0,U⟩)<|W.alloc<|.cells ZL 30:=by
 have k:L 13=xw:=by
  cases e:L 13 with
  |false=>rfl
  |true=>have:=C.c13 e;rw[h]at this;cases this
 have l:Below (xz<|xj W) W<|W.alloc<|.cells ZL 30:=(Zhi _ _).alloc (Zh3 _) _;have r:xz (xj<|W.alloc<|.cells ZL 30)=xz (xj W)+1:=Z1
 have q:∀p,FrO W0 W L v g' p->FrO W0 (W.alloc<|.cells ZL 30) (add L 11) (Xf v 7<|.pointer<|J ⟨xz<|xj W,0,U⟩) g' p:=λp o=>o.keep (λj g b d=>l.block b ((o.own.own j g).lt b d).2) l.size (λj g b d _=>by
  rw[RD];intro e;cases e;have:=((o.own.own j g).lt _ d).2;omega)
 refine⟨C.b.trans<|l.mono C.b.size,λj g f n a=> ?_,λa=> ?_,λa=> ?_,λa=> ?_⟩;rw[WH f]at a;rw[TZ v _ (s:=7) (t:=VK j) (show VK j≠7 from DP j g 11 Z0 f)];exact(C.val j g f n a).mono q;exact⟨xz<|xj W,RD _ _ _,C.b.size,Z0,λ_=>Zhk W _⟩;rw[WH Z0,k]at a;cases a;exact zA _ _
def FrC.store(C:FrC W0 E fv g' L v W){c:Nat}(hc:v 7=.pointer (J ⟨c,0,U⟩)){y:Z5}(z:FrO W0 W L v g' y)(a:L 11=xk)(D:L 13=xw)(G:W.heap[c]?=J (.cells ZL 30 (0,0)))
  (u:∀b,b≠c->W'.heap[b]?=W.heap[b]?) (F:xz (xj W')=xz (xj W)) (x:W'.heap[c]?=J (.cells (Yn g' y) 30 (0,0))) (w:Below (xz<|xj W0) W W'):FrC W0 E fv g' (add L 13) v W':=by
 have k:add L 13 11=L 11:=WH Z0;have r:∀n,FrO W0 W L v g' n->FrO W0 W' (add L 13) v g' n:=λn o=>o.keep (λj g b d=>u b (λe=>by subst e;exact o.ak j g b d a hc)) Z0 (λj g b d _=>o.ak j g b d a);obtain⟨A,p,t,B,_⟩:=C.new a;rw[hc]at p;cases p;refine⟨C.b.trans w,λj g l h f=> ?_,λf=> ?_,λf=> ?_,λf=>by rw[k];exact a⟩;rw[WH h]at f;exact(C.val j g l h f).mono r;refine⟨c,hc,t,Z0,λq=> ?_⟩;rw[zA]at q;cases q;exact⟨c,y,hc,x,r y z⟩
def FrC.e(C:FrC W0 E fv g' L v W)i(d:i<6)(a:L i=xk):v (VK i)=E i:=by
 have:=C.val i Z0 Z0 Z0 a;unfold FrV at this;rwa[Zhc d]at this
def FrC.t(C:FrC W0 E fv g' L v W)i(f:i=6\/i=7)(d:L i=xk):∃a,v (VK i)=KP fv g' a/\FrO W0 W L v g' a:=by
 have:=C.val i Z0 Z0 Z0 d;unfold FrV at this;rwa[Zh9 Z0,Zhc f]at this
def FrC.a(C:FrC W0 E fv g' L v W)(f:L 9=xk):∃d,v 47=.agg (Yn g' d)/\FrO W0 W L v g' d:=by
 have:=C.val 9 Z0 Z0 Z0 f;unfold FrV at this;rwa[Zh9 Z0,Zh9 Z0,Zhc rfl]at this
def FrC.f(C:FrC W0 E fv g' L v W)i(d:i=8\/i=12)(a:L i=xk):v (VK i)=.int .u64 fv:=by
 have:=C.val i Z0 Z0 Z0 a;unfold FrV at this;rwa[Zh9 Z0,Zh9 Z0,Zh9 Z0,Zhc d]at this
def FrC.z(C:FrC W0 E fv g' L v W)i(d:i=10\/i=14)(a:L i=xk):v (VK i)=.int .i64 0:=by
 have:=C.val i Z0 Z0 Z0 a;unfold FrV at this;rwa[Zh9 Z0,Zh9 Z0,Zh9 Z0,Zh9 Z0]at this
def FrC.pe(C:FrC W0 E fv g' L v W)i(a:i<6){s}(d:s=VK i):=
 C.step Z0 Z0 Z0 d (Zhi _ _) (by unfold FrV;rw[Zhc a])
def FrC.pt(C:FrC W0 E fv g' L v W){a}(o:FrO W0 W L v g' a):FrC W0 E fv g' (add L 7) (Xf v 38<|KP fv g' a) W:=
 C.step Z0 Z0 Z0 rfl (Zhi _ _) (by unfold FrV;rw[Zh9 Z0,Zhc<|.inr rfl];exact⟨a,rfl,o⟩)
def FrC.pa(C:FrC W0 E fv g' L v W){a}(o:FrO W0 W L v g' a):FrC W0 E fv g' (add L 9) (Xf v 47<|.agg<|Yn g' a) W:=
 C.step Z0 Z0 Z0 rfl (Zhi _ _) (by unfold FrV;rw[Zhc rfl];exact⟨a,rfl,o⟩)
def FrC.pf(C:FrC W0 E fv g' L v W)i(a:i=8\/i=12){s}(d:s=VK i):=
 C.step Z0 Z0 Z0 d (Zhi _ _) (by unfold FrV;rw[Zh9 Z0,Zh9 Z0,Zh9 Z0,Zhc a])
def FrC.pz(C:FrC W0 E fv g' L v W)i(d:i=10\/i=14){s}(a:s=VK i):=
 C.step Z0 Z0 Z0 a (Zhi _ _) (by unfold FrV;rw[Zh9 Z0,Zh9 Z0,Zh9 Z0,Zh9 Z0])
end
def JR{W G}{l:Z8}{y}(h:Rd W G (.sl<|l.map vu) y){k u}(j:l[k]?=J u):∃b o cap,y=.slice (J ⟨b,o,U⟩) (I l) cap/\W.cell? ⟨b,o+k,U⟩=J (.int .u64 u)/\G b:=by
 have g:=(ZgZ.1 j).1;generalize a:l.map vu=L at h;cases h with
 |nil=>simp at a;subst a;simp at g
 |sl _ b o cap w vs x z n p q r=>
  have d:I L=I l:=by rw[<-a,Zhv]
  have f:w=1:=by
   have:=(p _ (by rw[<-a];exact ZiI<|Zha j)).1;simpa using this.symm
  subst f;refine⟨b,o,cap,by rw[d],?_,n⟩;rw[q k Z0];have t:(flat L)[k]?=J (vu u):=by rw[<-a,yk,Zhq,j];rfl
  rw[Sy<|r k _ t]
end
end Vm
end
section
namespace Vm
open Go Go.Proofs
section
def WP(l:Zi)(i:Int):Bool:=l.any λo=>decide (o.aa<i)&&decide (i<=o.aa+o.M)
def YY(g:Hp):Hp:=if g.Z=(I g.H) then {g with Y:=xw,ah:=[],ak:=[]}else g
def WG(h:Hp):Hp:=
 YY (if WP (ZO h.H [] xw).1 h.Z=xk then
  {(fwd h<|(h.H[h.Z.toNat]?).getD 0).2.1 with H:=(fwd h<|(h.H[h.Z.toNat]?).getD 0).2.1.H.set h.Z.toNat (fwd h<|(h.H[h.Z.toNat]?).getD 0).1,Z:=h.Z+1}
 else {h with Z:=h.Z+1})
def ZM(h:Hp):Nat->Hp
 |0=>h
 |k+1=>if h.Y then ZM (WG h) k else h
section
variable {h g:Hp}{p q:Pts}
def Qk{l:Zi}{i:Int}:WP l i=xk↔ ∃o∈l,o.aa<i/\i<=o.aa+o.M:=by
 unfold WP;simp
def Rt.me(r:Rt h p):ZO h.H [] xw=(p.H,0):=by
 have t:=r.an 1 Z0;simp only[Vl,Pts.mg]at t;refine zh t ?_;unfold VT;have:p.H.filter (λo=>o.gone)=[]:=by
  rw[Zk3];intro o a;rw[t.cw o a];simp
 rw[this];rfl
def Z5y(t:Tld h p){w:Int}(f:Gos h p w 1 2):VX w=xk:=by
 unfold VX;obtain a|⟨k,_,_,_,o,_,d,_⟩:=f.uz t Z0 Z0;simp[a];simp[d]
def Body.pp(b:Body g q){i:Nat}(hs:g.Z=i)(K:i<I g.H){v:Int}(M:Gos g q v 1 2)(H:WP q.H i=xk):Body {g with H:=g.H.set i v,Z:=(i:Int)+1} q:=by
 obtain⟨o,L,h1,h2⟩:=Qk.1 H;obtain⟨a,n,m,Y,Z,em,F,_,W⟩:=b.toTld.ob (k:=1) Z0 L;simp only[Vl]at F;have G:Zv {g with H:=g.H.set i v,Z:=(i:Int)+1}=Zv g:=by
  unfold Zv;simp
 have f:∀ {w N O},Gos {g with H:=g.H.set i v,Z:=(i:Int)+1} q w N O↔Gos g q w N O:=Es G;have z:=b.an 1 Z0;simp only[Vl,Pts.mg]at z;have u:∀x∈q.H,∀j:Nat,(j:Int)<=x.size->x.aa.toNat+j=i->x=o/\0<j/\(j:Int)<=x.M:=by
  intro x r j p e;obtain⟨c,d,P,Q,R,D,_⟩:=b.toTld.ob (k:=1) Z0 r;obtain C|C|C:=z.apart x r o L;subst C;exact⟨rfl,Z0,Z0⟩;omega;omega
 refine⟨⟨by rw[G];exact b.bb,λk B=> ?_⟩,by rw[G];exact b.gone,λk B x r A j p w t=> ?_,?_⟩;by_cases k1:k=1;subst k1;show Tiles (g.H.set i v) _ 0 q.H;refine z.congr Z1 λx r=> ?_;have l:=(z.bc x r).1;have X:=YD.1 l.shape;obtain⟨c,d,P,Q,R,D,T,_⟩:=b.toTld.ob (k:=1) Z0 r;have A:=z.cw x r;have S:(g.H.set i v)[x.aa.toNat]?=g.H[x.aa.toNat]? :=by
  refine Zi6 λe=> ?_;have:=(u x r 0 Z0 Z0).2.1;omega
 refine⟨l.iz,l.shape,by simpa using l.aw,RG λj w p=>⟨λh=>(by rw[A]at h;cases h),λH=> ?_⟩,by rw[S];exact l.word⟩;have y:j<x.size.toNat:=by
  have:=(ZgZ.1 p).1;simp at this;omega
 rw[ZhO y,Zhx]at p;by_cases e:x.aa.toNat+1+j=i;rw[e,Ziq K]at p;cases p;exact Z5y b.toTld M;rw[Zi6 (λh=>e h.symm)]at p;refine(LZ l.gl j w ?_).2 H;rw[ZhO y,Zhx];exact p;have:=b.an k B;have e:Zx {g with H:=g.H.set i v,Z:=(i:Int)+1} k=Zx g k:=by unfold Zx;rw[Zh9 k1,Zh9 k1]
 rw[e];exact this;unfold Wf;by_cases k1:k=1;subst k1;simp only[Vl]at t;rw[Zh9 Z0];by_cases e:x.aa.toNat+1+j=i;rw[e,Ziq K]at t;cases t;rw[Zh9 (by rw[e];simp only;omega)];exact f.2 M;rw[Zi6 (λh=>e h.symm)]at t;have:=b.ptr 1 B x r A j p w t;unfold Wf at this;rw[Zh9 Z0]at this;by_cases c:g.Z<=((x.aa.toNat+1+j:Nat):Int);rw[Zhc ⟨rfl,c⟩]at this;rw[Zhc ⟨rfl,by simp only;omega⟩];exact this.imp f.2 f.2;rw[Zh9 (λh=>c h.2)]at this;rw[Zh9 (by simp only;omega)];exact f.2 this;have e:Zx {g with H:=g.H.set i v,Z:=(i:Int)+1} k=Zx g k:=by unfold Zx;rw[Zh9 k1,Zh9 k1]
 rw[e]at t;have:=b.ptr k B x r A j p w t;unfold Wf at this;by_cases c:2<k;rw[Zhc c]at this⊢;exact f.2 this;rw[Zh9 c,Zh9 (λh=>k1 h.1)]at this;rw[Zh9 c,Zh9 (λh=>k1 h.1)];exact f.2 this;have:=b.room;simpa using this
def Body.uj(b:Body g q){i:Nat}(z:g.Z=i)(r:¬WP q.H i=xk):Body {g with Z:=(i:Int)+1} q:=by
 refine⟨⟨b.bb,b.an⟩,b.gone,λk o x d f j l w t=> ?_,b.room⟩;have:=b.ptr k o x d f j l w t;unfold Wf at this⊢;by_cases c:2<k;rw[Zhc c]at this⊢;exact this;rw[Zh9 c]at this⊢;by_cases k1:k=1;subst k1;by_cases c:g.Z<=((x.aa.toNat+1+j:Nat):Int);rw[Zhc ⟨rfl,c⟩]at this
 have p:x.aa.toNat+1+j≠i:=λe=>r (Qk.2 ⟨x,d,by
  obtain⟨a,n,m,u,y,em,_⟩:=b.toTld.ob (k:=1) Z0 d;omega⟩)
 rw[Zhc ⟨rfl,by simp only;omega⟩];exact this;rw[Zh9 (λh=>c h.2)]at this;rw[Zh9 (by simp only;omega)];exact this;rw[Zh9 (λh=>k1 h.1)]at this⊢;exact this
def Body.stop(b:Body g q)(F:g.Z=I g.H):Body {g with Y:=xw,ah:=[],ak:=[]} ⟨q.H,q.ab,[],[]⟩:=by
 have A:=XN.1 b.bb;have z:∀k a:Int,(k=1\/k=2)->Y0 (Zv {g with Y:=xw,ah:=[],ak:=[]}) k a=Y0 (Zv g) k a:=λk a d=>by
  obtain rfl|rfl:=d<;>rfl
 have f:∀ {w:Int},Gos g q w 1 2->Gos {g with Y:=xw,ah:=[],ak:=[]} ⟨q.H,q.ab,[],[]⟩ w 1 2:=λ{w} p=>by
  obtain rfl|⟨k,o,d,t,rfl⟩:=p;exact .inl rfl;refine .inr ⟨k,o,d,?_,(z k _ d).symm⟩;obtain rfl|rfl:=d<;>exact t
 refine⟨⟨XN.2 ?_,λk d=> ?_⟩,λk d o t=> ?_,λk d x l p j u w y=> ?_,?_⟩;simp only[Zv,Zif]at A⊢;omega;have h:k=1\/k=2\/k=3\/k=4:=Z0;obtain rfl|rfl|rfl|rfl:=h;exact b.an 1 Z0;exact b.an 2 Z0;exact Zh3 0;exact Zh3 0;have h:k=3\/k=4:=Z0;obtain rfl|rfl:=h<;>cases t
 have h:k=1\/k=2\/k=3\/k=4:=Z0;obtain rfl|rfl|rfl|rfl:=h;have:=b.ptr 1 Z0 x l p j u w y;obtain⟨a,n,m,C,D,em,r,_,B⟩:=b.toTld.ob (k:=1) Z0 l;simp only[Vl]at r;unfold Wf at this⊢;rw[Zh9 Z0,Zh9 Z0]at this;rw[Zh9 Z0,Zh9 (by simp only;omega)];exact f this;have:=b.ptr 2 Z0 x l p j u w y;unfold Wf at this⊢;rw[Zh9 Z0,Zh9 Z0]at this⊢;exact f this;cases l;cases l;have:=b.room;show(I g.H:Int)+I g.ab+YF ⟨q.H,q.ab,[],[]⟩<=g.cap;simp[YF,Yu];omega
structure ScanTo (h:Hp) (p:Pts) (g:Hp) (q:Pts):Prop where
 eq:WG h=g
 rt:Rt g q
 H:∃ws,I g.H=I h.H+ws/\∀j:Nat,(j:Int)<h.Z->g.H[j]?=h.H[j]?
 ab:g.ab=h.ab
 E:g.E=h.E
 num:g.base=h.base/\g.cap=h.cap/\g.to=h.to/\g.Z=h.Z+1
 ig:∃r,q.H=p.H++r
 ie:q.ab=p.ab
 room:g.Y=xk->(I g.H:Int)+YF q=I h.H+YF p
 pd:(I g.H:Int)<=I h.H+YF p
 via:∃(i:Nat) (w v:Int) (f:Hp) (s:Pts),h.Z=i/\h.H[i]?=J w/\g=YY {f with H:=f.H.set i v,Z:=(i:Int)+1}/\(q.H=s.H/\q.ab=s.ab)/\(g.Y=xk->q=s)/\((v=w/\f=h/\s=p)\/(WP s.H i=xk/\(Gos h p w 1 2\/Gos h p w 3 4)/\FwdTo h p w v f s))
def Rt.Z(r:Rt h p)(hc:h.Y=xk):∃g q,ScanTo h p g q:=by
 obtain⟨i,u⟩:=Zhf r.fe;have T:i<I h.H:=by have:=r.ij hc;omega
 have G:=r.me;have fin:∀(f:Hp) (s:Pts),Body f s->S9 f s->f.Z=(i:Int)+1->f.Y=xk->(i:Int)+1<=I f.H->(∀w∈f.E,Gos f s w 1 2)->I f.E<=16->∃q,Rt (YY f) q/\(q.H=s.H/\q.ab=s.ab)/\((YY f).Y=xk->q=s):=by
  intro f s b o hs x X Z Y;unfold YY;by_cases e:f.Z=I f.H;rw[Zhc e];have b':=b.stop e;refine⟨_,⟨b',Y,by show 0<=f.Z;omega,by show f.Z<=I f.H;omega,λh=>Zgf,λ_=>⟨e,rfl,rfl⟩,λh=>Zgf,λw l=> ?_⟩,⟨rfl,rfl⟩,λh=>Zgf⟩;obtain rfl|⟨k,o,W,A,rfl⟩:=Z w l;exact .inl rfl;refine .inr ⟨k,o,W,?_,?_⟩;obtain rfl|rfl:=W<;>exact A;obtain rfl|rfl:=W<;>rfl;rw[Zh9 e];exact⟨s,⟨b,Y,Z0,Z0,λ_=>Z0,λh=>(by rw[x]at h;cases h),λ_=>o,Z⟩,⟨rfl,rfl⟩,λ_=>rfl⟩
 have t:∀f:Hp,(YY f).H=f.H/\(YY f).ab=f.ab/\(YY f).E=f.E/\(YY f).base=f.base/\(YY f).cap=f.cap/\(YY f).to=f.to/\(YY f).Z=f.Z:=λf=>by
  unfold YY;split<;>exact⟨rfl,rfl,rfl,rfl,rfl,rfl,rfl⟩
 have l:h.H[i]?=J h.H[i]:=ZgY T;generalize h.H[i]=w at l;by_cases S:WP p.H i=xk;obtain⟨o,A,h1,h2⟩:=Qk.1 S;obtain⟨a,n,m,ea,en,em,a0,_⟩:=r.toTld.ob (k:=1) Z0 A;have B:Gos h p w 1 2\/Gos h p w 3 4:=by
  have t1:=r.an 1 Z0;have:=r.ptr 1 Z0 o A (t1.cw o A) (i-a-1) Z0 w (by simp only[Vl];rw[ea,show(a:Int).toNat+1+(i-a-1)=i by omega];exact l);unfold Wf at this;rw[Zh9 Z0,Zhc ⟨rfl,Z0⟩]at this;exact this
 obtain⟨v,g,q,f⟩:=r.toBody.gp r.du B;have hs:g.Z=i:=f.ext.Z.trans u;obtain⟨ws,y⟩:=f.ext.H;obtain⟨rs,F⟩:=f.ext.ig;have C:i<I g.H:=by rw[y,ZhJ];omega
 have D:WP q.H i=xk:=Qk.2 ⟨o,by rw[F];exact Zip _ A,h1,h2⟩;have b:=f.body.pp hs C f.ve D;have eq:WG h=YY {g with H:=g.H.set i v,Z:=(i:Int)+1}:=by
  unfold WG;rw[G,u,Zhc S];simp only[Zhh,l,Zhw,f.fwd]
 have x:g.Y=xk:=f.ext.Y.trans hc;have X:Zv {g with H:=g.H.set i v,Z:=(i:Int)+1}=Zv g:=by unfold Zv;simp
 have on:S9 {g with H:=g.H.set i v,Z:=(i:Int)+1} q:=by
  have:=f.fp<|r.fp hc;unfold S9 at this⊢;rw[X];exact this
 obtain⟨s,P,⟨Q,R⟩,z⟩:=fin _ q b on rfl x Zg1 (λw l=>(Es X).2<|f.ext.ln Z0 Z0<|r.E w (by rw[<-f.ext.E];exact l)) (by show I g.E<=16;rw[f.ext.E];exact r.fu);obtain⟨k1,H,K,L,M,N,O⟩:=t {g with H:=g.H.set i v,Z:=(i:Int)+1};rw[<-eq]at P k1 H K L M N O z;have d:(WG h).H.length=I g.H:=by rw[k1];simp
 refine⟨_,s,rfl,P,⟨I ws,by rw[d,y,ZhJ],λj hj=> ?_⟩,H.trans f.ext.ab,K.trans f.ext.E,⟨L.trans f.ext.base,M.trans f.ext.cap,N.trans f.ext.ry,by rw[O,u]⟩,⟨rs,by rw[Q,F]⟩,R.trans f.ext.ie,λh=> ?_,?_,i,w,v,g,q,u,l,eq,⟨Q,R⟩,z,.inr ⟨D,B,f⟩⟩;rw[k1];simp only;rw[Zi6 Z0,y,Zhz Z0];rw[z h,d];exact f.ext.room;rw[d];have:=f.ext.room;omega;have b:=r.toBody.uj u S;have eq:WG h=YY {h with Z:=(i:Int)+1}:=by
  unfold WG;rw[G,u,Zh9 S]
 obtain⟨s,P,⟨Q,R⟩,z⟩:=fin _ p b (r.fp hc) rfl hc (by simp only;omega) r.E r.fu;obtain⟨k1,H,K,L,M,N,O⟩:=t {h with Z:=(i:Int)+1};rw[<-eq]at P k1 H K L M N O z;refine⟨_,s,rfl,P,⟨0,by rw[k1];rfl,λj hj=>by rw[k1]⟩,H,K,⟨L,M,N,by rw[O,u]⟩,⟨[],by rw[Q,Zim]⟩,R,λh=> ?_,?_,i,w,w,h,p,u,l,?_,⟨Q,R⟩,z,.inl ⟨rfl,rfl,rfl⟩⟩;rw[z h,k1];rw[k1];simp only;omega;obtain⟨_,e⟩:=ZgZ.1 l;rw[eq,<-e,List.set_getElem_self]
end
end
end Vm
end
section
namespace Vm
open Go Go.Proofs Go.RowKit
structure NowI (B:Nat->Prop) (W:World) (b:Nat) (g:Hp) (x:Nat->Value):Prop where
 le:B b
 nb:W.heap[b]?=J (.cells (Yn g x) 30 (0,0))
 rd:∀j,j<5->Rd W (λc=>B c/\c<xz (xj W)/\c≠b) (.sl<|(Zu g j).map vu) (x j)
def Kh(B:Z4)(W:Z3)(b:Nat)(g':Hp)(e:Ending)(W':Z3):Prop:=e=.returned (.int .i64 0)/\W.grownBy W' (J b)/\∃a,NowI B W' b g' a
def Ey(W:Z3)(B:Z4)(b:Nat)(g:Hp)(x:Z5)(S:NowI B W b g x)(A:g.ok)(i:Nat)(F:g.Z=i)(G:i<I g.H)(pt:Bool)(K:pt=xw\/g.H[i]?=J 0):
  Calls xP 41 #[.bool pt,.pointer<|J ⟨b,0,U⟩] W (Kh B W b<|YY {g with Z:=(i:Int)+1}):=by
 obtain⟨u,M⟩:∃u,g.H[i]?=J u:=⟨_,ZgY G⟩;obtain⟨N,go,cap,n,C,r⟩:=JR (S.rd 0 Z0) M;rw[show I (Zu g 0)=(I g.H) from rfl]at n;have f:=S.nb;unfold Yn at f;rw[n,F]at f;have Y:∀j,W.cell? ⟨b,j,U⟩=(#[.int .u64 g.base,.int .i64 g.cap,.int .i64 g.to,.bool g.Y,.int .i64 i,.slice (J ⟨N,go,U⟩) (I g.H) cap,x 1,x 2,x 3,x 4]:Array Value)[j]? :=λj=>Zh7 _ _ _ _ _ _ f;have T:∀j,W.frozen? ⟨b,j,U⟩=xw:=λj=>Yc f;have R:=A.H;have X:=Zy ((i:Int)+1) Z0 Z0;have L:((i:Int)< (I g.H:Int))=True:=ZjA Z0;have y:=Zh2 S;have w:=Zh2<|And.intro f<|And.intro n<|And.intro r F;have q:pt=xw\/pt=xk/\u=0:=by
  obtain h|h:=K;exact .inl h;rw[M]at h;cases pt;exact .inl rfl;exact .inr ⟨rfl,ZiK h⟩
 clear S f n r K F;go_enter jV,Try.ntmps41;have p:∀c v,xz (xj<|W.setCell c v)=xz (xj W):=λc v=>ZgL;by_cases d:i+1=I g.H
 .have o:((i:Int)+1==(I g.H:Int))=xk:=Zg1;have k:=Zh2 d;clear d;have fin:Kh B W b (YY {g with Z:=(i:Int)+1}) (.returned<|.int .i64 0)<|(((W.setCell ⟨b,4,U⟩<|.int .i64<|(i:Int)+1).setCell ⟨b,3,U⟩<|.bool xw).setCell ⟨b,7,U⟩<|.slice U 0 0).setCell ⟨b,8,U⟩<|.slice U 0 0:=by
   have D:YY {g with Z:=(i:Int)+1}= {g with Z:=(i:Int)+1,Y:=xw,ah:=[],ak:=[]}:=by
    unfold YY;rw[Zhc (by show(i:Int)+1=(I g.H:Int);have:=k.out;omega)]
   rw[D];have l:∀c,c≠b->((((W.setCell ⟨b,4,U⟩<|.int .i64<|(i:Int)+1).setCell ⟨b,3,U⟩<|.bool xw).setCell ⟨b,7,U⟩<|.slice U 0 0).setCell ⟨b,8,U⟩<|.slice U 0 0).heap[c]?=W.heap[c]? :=λc a=>by
    simp[World.setCell,ZhB,ZiJ a]
   have t:xz (xj<|(((W.setCell ⟨b,4,U⟩<|.int .i64<|(i:Int)+1).setCell ⟨b,3,U⟩<|.bool xw).setCell ⟨b,7,U⟩<|.slice U 0 0).setCell ⟨b,8,U⟩<|.slice U 0 0)=xz (xj W):=ZgL;refine⟨rfl,⟨rfl,rfl,rfl,Nat.le_of_eq t.symm,λc _ a=>l c<|λe=>a (by rw[e])⟩,λj=>if j=2\/j=3 then .slice U 0 0 else x j,y.out.le,?_,λj H=> ?_⟩;have:=w.out.1;have z:=w.out.2.1;simp[World.setCell,ZhB,this,Yn,z];have:j=2\/j=3\/(j≠2/\j≠3):=Z0;obtain rfl|rfl|⟨O,P⟩:=this;exact .nil _ _ Zgh;exact .nil _ _ Zgh;have Q:Zu {g with Z:=(i:Int)+1,Y:=xw,ah:=[],ak:=[]} j=Zu g j:=by
    have:j=0\/j=1\/j=4:=Z0;obtain rfl|rfl|rfl:=this<;>rfl
   rw[Q];simp only[O,P,or_self,Zi0];exact(y.out.rd j H).keep (λc a=>l c a.2.2) λc a=>⟨a.1,by rw[t];exact a.2.1,a.2.2⟩
  obtain rfl|⟨rfl,rfl⟩:=q;all_goals
   go_wp2;exact ZhE (v:=.int .i64 0) ZgC rfl fin
 .have o:((i:Int)+1==(I g.H:Int))=xw:=Zg1;have k:=Zh2 d;clear d;have fin:Kh B W b (YY {g with Z:=(i:Int)+1}) (.returned<|.int .i64 0)<|W.setCell ⟨b,4,U⟩<|.int .i64<|(i:Int)+1:=by
   have D:YY {g with Z:=(i:Int)+1}= {g with Z:=(i:Int)+1}:=by
    unfold YY;rw[Zh9 (by show ¬(i:Int)+1=(I g.H:Int);have:=k.out;omega)]
   rw[D];have l:∀c,c≠b->(W.setCell ⟨b,4,U⟩<|.int .i64<|(i:Int)+1).heap[c]?=W.heap[c]? :=λc a=>Zhj _ _ _ _ a;have t:=p ⟨b,4,U⟩<|.int .i64<|(i:Int)+1;refine⟨rfl,⟨rfl,rfl,rfl,Nat.le_of_eq t.symm,λc _ a=>l c<|λe=>a (by rw[e])⟩,x,y.out.le,?_,λj H=> ?_⟩;have:=w.out.1;have z:=w.out.2.1;simp[World.setCell,ZhB,this,Yn,z];exact(y.out.rd j H).keep (λc a=>l c a.2.2) λc a=>⟨a.1,by rw[t];exact a.2.1,a.2.2⟩
  obtain rfl|⟨rfl,rfl⟩:=q;all_goals
   go_wp2;exact ZhE (v:=.int .i64 0) ZgC rfl fin
def Mh{B W b g x}(S:NowI B W b g x)n:W.grownBy (W.setCell ⟨b,4,U⟩<|.int .i64 n) (J b)/\NowI B (W.setCell ⟨b,4,U⟩<|.int .i64 n) b {g with Z:=n} x:=by
 have d:∀c,c≠b->(W.setCell ⟨b,4,U⟩<|.int .i64 n).heap[c]?=W.heap[c]? :=λc a=>Zhj _ _ _ _ a;have h:xz (xj<|W.setCell ⟨b,4,U⟩<|.int .i64 n)=xz (xj W):=Z1;refine⟨⟨rfl,rfl,rfl,Z0,ZfZ⟩,S.le,?_,λj f=> ?_⟩;have:=S.nb;simp[World.setCell,ZhB,this,Yn];exact(S.rd j f).keep (λc a=>d c a.2.2) λc a=>Zg0
def Z6P{B W b g x}(S:NowI B W b g x):W.grownBy (((W.setCell ⟨b,3,U⟩<|.bool xw).setCell ⟨b,7,U⟩<|.slice U 0 0).setCell ⟨b,8,U⟩<|.slice U 0 0) (J b)/\
  NowI B (((W.setCell ⟨b,3,U⟩<|.bool xw).setCell ⟨b,7,U⟩<|.slice U 0 0).setCell ⟨b,8,U⟩<|.slice U 0 0) b {g with Y:=xw,ah:=[],ak:=[]} (λj=>if j=2\/j=3 then .slice U 0 0 else x j):=by
 have d:∀c,c≠b->(((W.setCell ⟨b,3,U⟩<|.bool xw).setCell ⟨b,7,U⟩<|.slice U 0 0).setCell ⟨b,8,U⟩<|.slice U 0 0).heap[c]?=W.heap[c]? :=λc a=>by
  simp[World.setCell,ZhB,ZiJ a]
 have n:xz (xj<|((W.setCell ⟨b,3,U⟩<|.bool xw).setCell ⟨b,7,U⟩<|.slice U 0 0).setCell ⟨b,8,U⟩<|.slice U 0 0)=xz (xj W):=Z1;refine⟨⟨rfl,rfl,rfl,Z0,ZfZ⟩,S.le,?_,λj k=> ?_⟩;have:=S.nb;simp[World.setCell,ZhB,this,Yn];have:j=2\/j=3\/(j≠2/\j≠3):=Z0;obtain rfl|rfl|⟨f,h⟩:=this;exact .nil _ _ Zgh;exact .nil _ _ Zgh;have l:Zu {g with Y:=xw,ah:=[],ak:=[]} j=Zu g j:=by
  have:j=0\/j=1\/j=4:=Z0;obtain rfl|rfl|rfl:=this<;>rfl
 rw[l];simp[f,h,or_self,Zi0];exact(S.rd j k).keep (λc a=>d c a.2.2) λc a=>Zg0
def Z11(W:Z3)(B:Z4)(b:Nat)(b4:∀c,xz (xj W)<=c->B c)(g:Hp)(x:Z5)(S:NowI B W b g x)(Z:g.ok)(i:Nat)(hi:g.Z=i)(f9:i<I g.H){u:Int}(hu:g.H[i]?=J u)(g6:¬u=0){v:Int}{g1:Hp}(hf:fwd g u=(v,g1,0))(d8:i<I g1.H)(d9:g1.Z=i):
  Calls xP 41 #[.bool xk,.pointer<|J ⟨b,0,U⟩] W (Kh B W b<|YY {g1 with H:=g1.H.set i v,Z:=(i:Int)+1}):=by
 obtain⟨gb,go,cap,G,e1,b9⟩:=JR (S.rd 0 Z0) hu;rw[show I (Zu g 0)=(I g.H) from rfl]at G;have w:=S.nb;unfold Yn at w;rw[G,hi]at w;have yb:∀j,W.cell? ⟨b,j,U⟩=(#[.int .u64 g.base,.int .i64 g.cap,.int .i64 g.to,.bool g.Y,.int .i64 i,.slice (J ⟨gb,go,U⟩) (I g.H) cap,x 1,x 2,x 3,x 4]:Array Value)[j]? :=λj=>Zh7 _ _ _ _ _ _ w;have g5:=Z.H;have uu:=Z.gg u<|Zha hu;have wi:=Zy ((i:Int)+1) Z0 Z0;have e9:((i:Int)< (I g.H:Int))=True:=ZjA Z0;have hF:∀W',Below (xz<|xj W) W W'->Calls xP 42 #[.agg #[.int .u64 g.base,.int .i64 g.cap,.int .i64 g.to,.bool g.Y,.int .i64 i,.slice (J ⟨gb,go,U⟩) (I g.H) cap,x 1,x 2,x 3,x 4],.int .u64 u] W' (RV W' (v,g1,0)):=λW' hb=>by
  have:=Er W' (λc=>B c/\c<xz (xj W)/\c≠b) (λc f=>Zh8 f.2.1 hb.size) g Z x (λj P=>(S.rd j P).keep (λc f=>hb.block c f.2.1) λ_ q=>q) u uu;rw[hf]at this;unfold ZA at this;rw[G,hi]at this;exact this
 have HF:=Zh2 hF;have d6:=Zh2 b4;have HS:=Zh2 S;have HN:=Zh2<|And.intro w<|And.intro G<|And.intro b9 hi;have C:=(yr Z uu);rw[hf]at C;have f5:=Zh2 C;have e0:=Y9 w;clear S w G b9 hi hF hf C b4;go_enter jV,Try.ntmps41;go_upto_region 6 with (go_at_call 42;refine(HF.out _<|Zhi _ _).mono ?_;rintro e w9 ⟨x9,rfl,b7,h⟩;obtain⟨a0,H,f0⟩:=Yi<|h.own 0 Z0;obtain⟨L,Q,f1⟩:=Yi<|h.own 1 Z0;obtain⟨M,R,f2⟩:=Yi<|h.own 2 Z0;obtain⟨N,T,f3⟩:=Yi<|h.own 3 Z0;obtain⟨O,X,f4⟩:=Yi<|h.own 4 Z0;obtain⟨a,rfl⟩:=qA (h.own 0 Z0) f0 (by show 0<I g1.H;omega);rw[show I (Zu g1 0)=(I g1.H) from rfl]at f0;unfold ZA;rw[f0,f1,f2,f3,f4];have k:=Zh2<|And.intro b7<|And.intro h<|And.intro f0<|And.intro f1<|And.intro f2<|And.intro f3 f4;clear b7 h f0 f1 f2 f3 f4);have e7:=k.out.1.size;have a7:Below (xz<|xj W) W<|w9.alloc<|.cells #[.int .u64 g1.base,.int .i64 g1.cap,.int .i64 g1.to,.bool g1.Y,.int .i64 i,.slice (J ⟨a,0,U⟩) (I g1.H) H,.slice L (I<|Zu g1 1) Q,.slice M (I<|Zu g1 2) R,.slice N (I<|Zu g1 3) T,.slice O (I<|Zu g1 4) X] 30:=k.out.1.alloc e7 _;have a9:=Zhk w9<|.cells #[.int .u64 g1.base,.int .i64 g1.cap,.int .i64 g1.to,.bool g1.Y,.int .i64 i,.slice (J ⟨a,0,U⟩) (I g1.H) H,.slice L (I<|Zu g1 1) Q,.slice M (I<|Zu g1 2) R,.slice N (I<|Zu g1 3) T,.slice O (I<|Zu g1 4) X] 30;have b3:xz (xj<|w9.alloc<|.cells #[.int .u64 g1.base,.int .i64 g1.cap,.int .i64 g1.to,.bool g1.Y,.int .i64 i,.slice (J ⟨a,0,U⟩) (I g1.H) H,.slice L (I<|Zu g1 1) Q,.slice M (I<|Zu g1 2) R,.slice N (I<|Zu g1 3) T,.slice O (I<|Zu g1 4) X] 30)=xz (xj w9)+1:=Z1;have l:HOwn (xz<|xj W) (w9.alloc<|.cells #[.int .u64 g1.base,.int .i64 g1.cap,.int .i64 g1.to,.bool g1.Y,.int .i64 i,.slice (J ⟨a,0,U⟩) (I g1.H) H,.slice L (I<|Zu g1 1) Q,.slice M (I<|Zu g1 2) R,.slice N (I<|Zu g1 3) T,.slice O (I<|Zu g1 4) X] 30) g1 x9:=⟨λj P=>Xs (k.out.2.1.own j P) λc f=>Zh4 w9 _ c ((k.out.2.1.own j P).lt c f).2,k.out.2.1.apart⟩;have f7:xz (xj W)<=a/\a<xz (xj w9):=(k.out.2.1.own 0 Z0).lt a (by rw[k.out.2.2.1];rfl);obtain⟨K,b5⟩:∃K,K=w9.alloc (.cells #[.int .u64 g1.base,.int .i64 g1.cap,.int .i64 g1.to,.bool g1.Y,.int .i64 i,.slice (J ⟨a,0,U⟩) (I g1.H) H,.slice L (I<|Zu g1 1) Q,.slice M (I<|Zu g1 2) R,.slice N (I<|Zu g1 3) T,.slice O (I<|Zu g1 4) X] 30):=⟨_,rfl⟩;rw[<-b5]at a7 a9 b3 l⊢;clear b5;have a5:=(a7.block b e0).trans HN.out.1;have y7:∀j,K.cell? ⟨xz<|xj w9,j,U⟩=(#[.int .u64 g1.base,.int .i64 g1.cap,.int .i64 g1.to,.bool g1.Y,.int .i64 i,.slice (J ⟨a,0,U⟩) (I g1.H) H,.slice L (I<|Zu g1 1) Q,.slice M (I<|Zu g1 2) R,.slice N (I<|Zu g1 3) T,.slice O (I<|Zu g1 4) X]:Array Value)[j]? :=λj=>Zh7 _ _ _ _ _ _ a9;have e8:∀j,K.cell? ⟨b,j,U⟩=(#[.int .u64 g.base,.int .i64 g.cap,.int .i64 g.to,.bool g.Y,.int .i64 i,.slice (J ⟨gb,go,U⟩) (I g.H) cap,x 1,x 2,x 3,x 4]:Array Value)[j]? :=λj=>Zh7 _ _ _ _ _ _ a5;have d7:∀j,K.frozen? ⟨b,j,U⟩=xw:=λj=>Yc a5;have z:=Zh2<|And.intro a7<|And.intro l<|And.intro b3 a5;clear a7 l b3 a5 a9;go_upto_region 7 with fail;obtain⟨d,t⟩:∃d,d=((((((((((K.setCell ⟨b,0,U⟩<|.int .u64 g1.base).setCell ⟨b,1,U⟩<|.int .i64 g1.cap).setCell ⟨b,2,U⟩<|.int .i64 g1.to).setCell ⟨b,3,U⟩<|.bool g1.Y).setCell ⟨b,4,U⟩<|.int .i64 i).setCell ⟨b,5,U⟩<|.slice (J ⟨a,0,U⟩) (I g1.H) H).setCell ⟨b,6,U⟩<|.slice L (I<|Zu g1 1) Q).setCell ⟨b,7,U⟩<|.slice M (I<|Zu g1 2) R).setCell ⟨b,8,U⟩<|.slice N (I<|Zu g1 3) T).setCell ⟨b,9,U⟩<|.slice O (I<|Zu g1 4) X):=⟨_,rfl⟩;rw[<-t];have b0:d.heap[b]?=J (.cells #[.int .u64 g1.base,.int .i64 g1.cap,.int .i64 g1.to,.bool g1.Y,.int .i64 i,.slice (J ⟨a,0,U⟩) (I g1.H) H,.slice L (I<|Zu g1 1) Q,.slice M (I<|Zu g1 2) R,.slice N (I<|Zu g1 3) T,.slice O (I<|Zu g1 4) X] 30 (0,0)):=by rw[t];exact O6 z.out.2.2.2 _ _ _ _ _ _ _ _ _ _
 have p:∀c,c≠b->d.heap[c]?=K.heap[c]? :=λc f=>by rw[t];exact UJ f _ _ _ _ _ _ _ _ _ _
 have d0:xz (xj d)=xz (xj K):=by rw[t];simp[World.setCell]
 have a6:Below 0 K d:=by rw[t];exact XW (Zhi _ _) (Zik _) _ _ _ _ _ _ _ _ _ _
 have a8:K.grownBy d<|J b:=⟨a6.os,a6.tape,a6.output,a6.size,λc _ f=>p c<|λe=>f (by rw[e])⟩;clear t;have n:HOwn (xz<|xj W) d g1 x9:=⟨λj P=>Xs (z.out.2.1.own j P) λc f=>p c (by have:=((z.out.2.1.own j P).lt c f).1;omega),z.out.2.1.apart⟩;have F:=n.own 0 Z0;rw[k.out.2.2.1,show I (Zu g1 0)=(I g1.H) from rfl]at F;obtain⟨z0,c1⟩:∃z0,g1.H[i]?=J z0:=⟨_,ZgY d8⟩;have ec:d.cell? ⟨a,i,U⟩=J (.int .u64 z0):=by
  rw[F.cellAt i Z0];simp[Yg,Zu,c1]
 have ef:d.frozen? ⟨a,i,U⟩=xw:=F.frozenAt i;have y3:∀j,d.cell? ⟨b,j,U⟩=(#[.int .u64 g1.base,.int .i64 g1.cap,.int .i64 g1.to,.bool g1.Y,.int .i64 i,.slice (J ⟨a,0,U⟩) (I g1.H) H,.slice L (I<|Zu g1 1) Q,.slice M (I<|Zu g1 2) R,.slice N (I<|Zu g1 3) T,.slice O (I<|Zu g1 4) X]:Array Value)[j]? :=λj=>Zh7 _ _ _ _ _ _ b0;have f8:((i:Int)< (I g1.H:Int))=True:=ZjA Z0;have A:=Zh2<|And.intro b0<|And.intro p<|And.intro d0<|And.intro a8<|And.intro n F;clear b0 p d0 a8 n F y7 e8 d7 c1;go_upto_region 8 with fail;have b8:a≠b:=Z0;obtain⟨b2,e5⟩:=A.out.2.2.2.2.2.stored i<|.int .u64 v;have r:∀c,c≠a->(d.setCell ⟨a,i,U⟩<|.int .u64 v).heap[c]?=d.heap[c]? :=λc f=>Zhj _ _ _ _ f;have d5:xz (xj<|d.setCell ⟨a,i,U⟩<|.int .u64 v)=xz (xj d):=ZgL;have D:=(r b<|ZiJ b8).trans A.out.1;have S4:NowI B (d.setCell ⟨a,i,U⟩<|.int .u64 v) b {g1 with H:=g1.H.set i v} x9:=by
  refine⟨HS.out.le,?_,λj P=> ?_⟩;rw[D];unfold Yn;rw[k.out.2.2.1,k.out.2.2.2.1,k.out.2.2.2.2.1,k.out.2.2.2.2.2.1,k.out.2.2.2.2.2.2];simp only[d9];have c0:∀c,xz (xj W)<=c->c< xz (xj<|d.setCell ⟨a,i,U⟩<|.int .u64 v)->B c/\c< xz (xj<|d.setCell ⟨a,i,U⟩<|.int .u64 v)/\c≠b:=λc h1 h2=>⟨d6.out c h1,h2,Z0⟩;by_cases e:j=0;subst e;have hn:Yg .u64 (g1.H.set i v)=(Yg .u64<|Zu g1 0).set i (.int .u64 v):=Lf _ _ _ _;rw[<-hn]at b2;show Rd _ _ (.sl<|(g1.H.set i v).map vu)<|x9 0;rw[k.out.2.2.1];have e4:I g1.H=I (g1.H.set i v):=by rw[ZiY]
  have e6:(d.setCell ⟨a,i,U⟩<|.int .u64 v).ownsRow (xz<|xj W) 24 1 (.slice (J ⟨a,0,U⟩) (I g1.H) H) (I<|g1.H.set i v)<|Yg .u64<|g1.H.set i v:=by rw[<-e4];exact b2
  exact Rp e6 c0;have e3:Zu {g1 with H:=g1.H.set i v} j=Zu g1 j:=by
   have:j=1\/j=2\/j=3\/j=4:=Z0;obtain rfl|rfl|rfl|rfl:=this<;>rfl
  rw[e3];refine Rp (Xs (A.out.2.2.2.2.1.own j P) λc f=>r c λe2=> ?_) c0;exact A.out.2.2.2.2.1.apart 0 j Z0 P c (by rw[e2,k.out.2.2.1];rfl) f
 have G4:W.grownBy (d.setCell ⟨a,i,U⟩<|.int .u64 v)<|J b:=by
  have g2:=T7 z.out.1<|J b;have g3:=Si g2 A.out.2.2.2.1;refine⟨g3.os,g3.tape,g3.output,by rw[d5];exact g3.size,λc f hn=> ?_⟩;rw[r c Z0];exact g3.block c f hn
 obtain⟨W4,b6⟩:∃W4,W4=d.setCell ⟨a,i,U⟩ (.int .u64 v):=⟨_,rfl⟩;rw[<-b6]at S4 G4 D⊢;clear b6 r d5 b2 e5;have y4:∀j,W4.cell? ⟨b,j,U⟩=(#[.int .u64 g1.base,.int .i64 g1.cap,.int .i64 g1.to,.bool g1.Y,.int .i64 i,.slice (J ⟨a,0,U⟩) (I g1.H) H,.slice L (I<|Zu g1 1) Q,.slice M (I<|Zu g1 2) R,.slice N (I<|Zu g1 3) T,.slice O (I<|Zu g1 4) X]:Array Value)[j]? :=λj=>Zh7 _ _ _ _ _ _ D;have f6:∀j,W4.frozen? ⟨b,j,U⟩=xw:=λj=>Yc D;have Y:=Zh2<|And.intro S4 G4;clear S4 G4 D ec ef y3;by_cases o:i+1=I g1.H
 .have b1:((i:Int)+1==(I g1.H:Int))=xk:=Zg1;have y:=Zh2 o;clear o;go_wp2;refine ZhE (v:=.int .i64 0) ZgC rfl ?_;have he:YY {g1 with H:=g1.H.set i v,Z:=(i:Int)+1}= {g1 with H:=g1.H.set i v,Z:=(i:Int)+1,Y:=xw,ah:=[],ak:=[]}:=by
   unfold YY;rw[Zhc (by show(i:Int)+1=(I (g1.H.set i v):Int);rw[ZiY];have:=y.out;omega)]
  rw[he];obtain⟨p1,p2⟩:=Mh Y.out.1<|(i:Int)+1;obtain⟨p3,p4⟩:=Z6P p2;exact⟨rfl,Si (Si Y.out.2 p1) p3,_,p4⟩
 .have b1:((i:Int)+1==(I g1.H:Int))=xw:=Zg1;have y:=Zh2 o;clear o;go_wp2;refine ZhE (v:=.int .i64 0) ZgC rfl ?_;have he:YY {g1 with H:=g1.H.set i v,Z:=(i:Int)+1}= {g1 with H:=g1.H.set i v,Z:=(i:Int)+1}:=by
   unfold YY;rw[Zh9 (by show ¬(i:Int)+1=(I (g1.H.set i v):Int);rw[ZiY];have:=y.out;omega)]
  rw[he];obtain⟨p1,p2⟩:=Mh Y.out.1<|(i:Int)+1;exact⟨rfl,Si Y.out.2 p1,_,p2⟩
def Z9K{g:Hp}{p:Pts}(r:Rt g p){i:Nat}(B:g.Z=i)(w:WP p.H i=xk){u:Int}(x:g.H[i]?=J u):Gos g p u 1 2\/Gos g p u 3 4:=by
 obtain⟨o,d,z,A⟩:=Qk.1 w;obtain⟨a,n,m,f,y,em,l,_,t⟩:=r.toTld.ob (k:=1) Z0 d;have q:o.gone=xw:=(r.an 1 Z0).cw o d;obtain⟨j,h⟩:∃j,i=a+1+j:=⟨i-a-1,Z0⟩;have:=r.ptr 1 Z0 o d q j Z0 u (by rw[f,Zhh,<-h];exact x);unfold Wf at this;rw[Zh9 Z0,Zhc ⟨rfl,by rw[f,Zhh,<-h];omega⟩]at this;exact this
def Z9U{l:Z8}{i:Nat}{u:Int}(h:l[i]?=J u):l.set i u=l:=by
 apply ZiU;intro j;rw[List.getElem?_set];by_cases e:i=j;subst e;rw[Zhc rfl,h,Zhc (ZgZ.1 h).1];rw[Zh9 e]
def Z10(W:Z3)(B:Z4)(b:Nat)(n:∀c,xz (xj W)<=c->B c)(g:Hp)(x:Z5)(S:NowI B W b g x)(h:g.ok){p:Pts}(r:Rt g p)(hc:g.Y=xk):
  Calls xP 41 #[.bool<|WP p.H g.Z,.pointer<|J ⟨b,0,U⟩] W (Kh B W b<|WG g):=by
 obtain⟨i,a⟩:=Zhf r.fe;have d:i<I g.H:=by have:=r.ij hc;omega
 have w:=r.me;obtain⟨u,j⟩:∃u,g.H[i]?=J u:=⟨_,ZgY d⟩;have o:(g.H[g.Z.toNat]?).getD 0=u:=by rw[a,Zhh,j];rfl
 cases q:WP p.H g.Z with
 |false=>
  have l:WG g=YY {g with Z:=(i:Int)+1}:=by
   unfold WG;rw[w,Zh9 (by rw[q];simp),a]
  rw[l];exact Ey W B b g x S h i a d xw<|.inl rfl
 |true=>
  have l:WG g=YY {(fwd g u).2.1 with H:=(fwd g u).2.1.H.set i (fwd g u).1,Z:=(i:Int)+1}:=by
   unfold WG;rw[w,Zhc q,o,a,Zhh]
  by_cases k:u=0;subst k;have:WG g=YY {g with Z:=(i:Int)+1}:=by
   rw[l,Hd r.bb];simp only;rw[Z9U j]
  rw[this];exact Ey W B b g x S h i a d xk<|.inr j;obtain⟨v,g1,y,f⟩:=r.toBody.gp r.du<|Z9K r a (by rw[<-a];exact q) j;rw[l,f.fwd];obtain⟨z,t⟩:=f.ext.H;exact Z11 W B b n g x S h i a d j k f.fwd (by rw[t,ZhJ];omega) (by rw[f.ext.Z];exact a)
section
def EJ{α:Type}(F:Fence)(n:Nat)(P:Z6)(g:Nat)(lb:Zb)(d:α->Array Value)(o:World->World->Prop)(p:List α->α->World->Prop)(S:List α->World->Prop)(N:Nat)(k:List α->World->Prop)(w:Z3):Prop:=
 ∀(l:Nat) (q h:List α->World->Prop) (W:Z3),Below (xz<|xj w) w W->(∀pre W,q pre W->k pre W)->AbidesFrom (xz<|xj W) q->AbidesFrom (xz<|xj W) h->
  (∀pre x f,q pre f->p pre x f->I pre<N->YieldAt F (n-1) P l (d x) f λe a=>
   (e=.returned (.bool xk)/\q (pre++[x]) a/\o f a)\/(e=.returned (.bool xw)/\h (pre++[x]) a))->
  q [] W->
  CallsIn F n P g (#[.func (.yield l) #[] #[]]++lb) W λe a=>(∃v,e=.returned v)/\((∃j,S j a/\q j a)\/(∃pre,h pre a))
variable {F:Fence}{n:Nat}{P:Z6}
def Zbj{α:Type}{g:Operand}{ps:Array Tmp}{assign body:Code}{Q:Zh}{a:Act}{w:Z3}
  (d8:F.round=U) (h1:1<=n) {gf:Nat} {lb:Zb} (hg:a.eval g=.func (.func gf) #[] lb) (b3:F.fn gf) (eg:∀args w,(callFunc gf args).run P w=.ok (.enter gf args) w)
  {M:α->Array Value} {Kp:World->World->Prop} {Px:List α->α->World->Prop} {S:List α->World->Prop} {N:Nat} {Ex:List α->World->Prop} {w0:Z3} (b1:EJ F (n-1) P gf lb M Kp Px S N Ex w0)
  (a5:∀ {A B C:Z3},Kp A B->Kp B C->Kp A C) (a4:∀(W:Z3) (l:Nat) (o o':Obj),xz (xj w)<=l->W.heap[l]?=J o->o.isCells=xw->o.isWalk=xw->Kp W (W.putObj l o')) (a6:Below (xz<|xj w0) w0 w) (d6:∀x,(M x).size=ps.size)
  (I:List α->World->Prop) (Ix:Code->List α->World->Prop) (hI:OwnFrom (xz<|xj w) I) (b2:∀pre W,I pre W->Ex pre W) (X:∀c,OwnFrom (xz<|xj w)<|Ix c) (b7:∀pre x,OwnFrom (xz<|xj w)<|λ(_:Unit) W=>Px pre x W) (hS:OwnFrom (xz<|xj w) S) (h0:I [] w) (a₁:α->Act)
  (Y:∀(l:Nat) (x:α) (W:Z3) (K:Zq),K (a₁ x) W->
   assign.wpIn (F.inRound l) (n-1-1) P (Exit.then K<|λ_ _ _=>False) {tmps:=(ps.zip<|M x).foldl (λt (p,v)=>t.setIfInBounds p v) a.tmps,defers:=[]} W)
  (a0:∀(l:Nat) (pre:List α) (x:α) (W:Z3),I pre W->Px pre x W->xq pre<N->body.wpIn (F.inRound l) (n-1-1) P (ownPostG (xz<|xj w) Kp I Ix (pre++[x]) W) (a₁ x) W)
  (a1:∀(D:Nat) (xs:List α) (W:Z3),xz (xj w)<=D->S xs W->I xs W->W.heap[D]?=J (.deferred<|J [])->Q .normal {a with defers:= {target:=.collected D,args:=#[]}::a.defers} W)
  (a2:∀(D:Nat) (c:Code) (pre:List α) (W:Z3),xz (xj w)<=D->Ix c pre W->W.heap[D]?=J (.deferred<|J [])->c.wpIn F n P Q {a with defers:= {target:=.collected D,args:=#[]}::a.defers} W):
  (Code.rangeFunc g ps assign body).wpIn F n P Q a w:=by
 refine wpIn_rangeFunc λfn c0=> ?_;rw[d8];obtain⟨f,j⟩:∃f:LoopState->Option Code->Loop,f=λst pe=> {state:=st,pending:=pe,fn,tmps:=a.tmps,params:=ps,assign,body,defers:=xz (xj w)}:=⟨_,rfl⟩;obtain⟨T,O⟩:∃T,(w.alloc<|.deferred<|J []).alloc (.loop<|f .ready U)=T:=⟨_,rfl⟩;have b6:T.heap[xz (xj w)+1]?=J (.loop<|f .ready U):=by
  have:=Zia (w.alloc<|.deferred<|J [])<|.loop<|f .ready U;rw[Zj3]at this;rw[<-O];exact this
 have b5:T.heap[xz<|xj w]?=J (.deferred<|J []):=by
  rw[<-O];exact(Zh4 _ _ _ Z1).trans (Zia w _)
 have b4:I [] T:=by rw[<-O];exact hI.alloc _<|hI.alloc _ h0
 have b9:Below (xz<|xj w0) w0 T:=by
  rw[<-O];exact a6.trans<|(((Zhi _ w).alloc (Zh3 _) _).alloc Z1 _).mono a6.size
 refine⟨xz (xj w)+1,[{target:=.collected<|xz<|xj w,args:=#[]}],T,{target:=.fn (.func gf) lb,args:=#[.func (.yield<|xz (xj w)+1) #[] #[]]},T,gf,
  #[.func (.yield<|xz (xj w)+1) #[] #[]]++lb,T,?_,?_,?_,?_,λ_=>h1,?_⟩
 rw[<-O,j];exact run_enterLoop_outer _ _ _ _ _
 .simp only[resolve,hg];simp[go_sem]
 intro f' a7;simp[Target.leads]at a7;subst a7;exact b3
 .simp[invoke,go_sem,eg]
 have b0:∀ {A B:Z3} {row:Option Nat},(∀r,row=J r->xz (xj T)<=r/\∃o:Obj,A.heap[r]?=J o/\o.isWalk=xk)->(∀r,row=J r->xz (xj w)<=r/\∃o:Obj,A.heap[r]?=J o/\o.isCells=xw):=
  λu r e=>by obtain⟨hB,o,ho,hw⟩:=u r e;exact⟨by rw[<-O]at hB;simp at hB;omega,o,ho,Obj.not_cells_of_walk hw⟩
 refine(b1 (xz (xj w)+1)
  (λpre W=>I pre W/\W.heap[xz (xj w)+1]?=J (.loop<|f .ready U)/\W.heap[xz<|xj w]?=J (.deferred<|J []))
  (λpre W=>∃c,Ix c pre W/\W.heap[xz (xj w)+1]?=J (.loop<|f .done<|J c)/\W.heap[xz<|xj w]?=J (.deferred<|J []))
  T b9 (λpre W h=>b2 pre W h.1)
  (λs A B row hs z u=>⟨hI s A B row hs.1 z<|b0 (B:=B) u,(ZkO z (λr e=>(u r e).2) hs.2.1 rfl).trans hs.2.1,(ZkO z (λr e=>(u r e).2) hs.2.2 rfl).trans hs.2.2⟩)
  (λs A B row hs z u=>by
   obtain⟨c,hc,y,Z⟩:=hs;exact⟨c,X c s A B row hc z<|b0 (B:=B) u,(ZkO z (λr e=>(u r e).2) y rfl).trans y,(ZkO z (λr e=>(u r e).2) Z rfl).trans Z⟩)
  ?_ ⟨b4,b6,b5⟩).mono ?_
 rintro pre x W ⟨hi,y,Z⟩ d7 a9;have d5:xz (xj w)+1<xz (xj W):=(Zh6.1 y).1;have hy:=run_yield (P:=P) (args:=M x) y (by rw[j];exact d6 x);rw[j]at hy;refine⟨fn,_,assign,body,hy,roundIn_of_wpIn c0<|Y _ x W _ ⟨_,run_beginRound y (by rw[j]),?_⟩⟩;have d0:(W.putObj (xz (xj w)+1)<|.loop {f .ready U with state:=.busy}).heap[xz (xj w)+1]?=J (.loop {f .ready U with state:=.busy}):=Zjp d5;have c1:(W.putObj (xz (xj w)+1)<|.loop {f .ready U with state:=.busy}).heap[xz<|xj w]?=J (.deferred<|J []):=(ZhF Z0).trans Z;have d9:Kp W<|W.putObj (xz (xj w)+1)<|.loop {f .ready U with state:=.busy}:=a4 _ _ _ _ Z0 y rfl rfl;refine wpIn_mono (a0 _ pre x _ (hI.putObj _ hi Z0 y rfl) ((b7 pre x).putObj (s:=()) _ d7 Z0 y rfl) a9) ?_
 have fin:∀(d:Option Code) (R:Z3),KeepsFrom (xz<|xj w) (W.putObj (xz (xj w)+1)<|.loop {f .ready U with state:=.busy}) R->
   (Instr.endRound (xz (xj w)+1) d).run P R=.ok (.bool d.isNone) (R.putObj (xz (xj w)+1)<|.loop<|f (if d.isNone then .ready else .done) d)/\
   R.heap[xz (xj w)+1]?=J (.loop {f .ready U with state:=.busy})/\
   (R.putObj (xz (xj w)+1)<|.loop<|f (if d.isNone then .ready else .done) d).heap[xz (xj w)+1]?=J (.loop<|f (if d.isNone then .ready else .done) d)/\
   (R.putObj (xz (xj w)+1)<|.loop<|f (if d.isNone then .ready else .done) d).heap[xz<|xj w]?=J (.deferred<|J []):=λd R q=>by
  have k:=q.same _ _ Z0 d0 rfl;have:=run_endRound (P:=P) d k;rw[j]at this⊢;exact⟨this,by rw[j]at k;exact k,Zjp (Zh6.1 k).1,(ZhF Z0).trans<|q.same _ _ (Zh3 _) c1 rfl⟩
 rintro e a3 R hp;cases e with
 |normal=>
  obtain⟨q,a8,G⟩:=hp;obtain⟨u,k,L,H⟩:=fin U R q;exact⟨_,_,u,.inl ⟨rfl,⟨hI.putObj _ G Z0 k rfl,L,H⟩,a5 (a5 d9 a8)<|a4 _ _ _ _ Z0 k rfl rfl⟩⟩
 |ret=>
  obtain⟨q,G⟩:=hp;obtain⟨u,k,L,H⟩:=fin (J .ret) R q;exact⟨_,_,u,.inr ⟨rfl,.ret,(X _).putObj _ G Z0 k rfl,L,H⟩⟩
 |exit id=>
  obtain⟨q,G⟩:=hp;obtain⟨u,k,L,H⟩:=fin (J<|.exit id) R q;exact⟨_,_,u,.inr ⟨rfl,.exit id,(X _).putObj _ G Z0 k rfl,L,H⟩⟩
 |goto t=>
  obtain⟨q,G⟩:=hp;obtain⟨u,k,L,H⟩:=fin (J<|.goto t) R q;exact⟨_,_,u,.inr ⟨rfl,.goto t,(X _).putObj _ G Z0 k rfl,L,H⟩⟩
 |panic ch=>exact hp.elim
 |outgrown=>exact hp.elim
 rintro e W2 ⟨⟨v,rfl⟩,(⟨xs,b8,hi,y,Z⟩|⟨pre,c,hi,y,Z⟩)⟩;exact⟨U,_,by have:=run_endLoop (P:=P) y (by rw[j];simp);rw[j]at this;exact this,a1 _ xs _ (Zh3 _) (hS.putObj _ b8 Z0 y rfl) (hI.putObj _ hi Z0 y rfl)<|(ZhF Z0).trans Z⟩;exact⟨J c,_,by have:=run_endLoop (P:=P) y (by rw[j];simp);rw[j]at this;exact this,a2 _ c pre _ (Zh3 _) ((X c).putObj _ hi Z0 y rfl)<|(ZhF Z0).trans Z⟩
end
def Z8E{W:Z3}{G G':Z4}{l j:Z8}{y:Ze}(h:Rd W G (.sl<|l.map vu) y)(h':Rd W G' (.sl<|j.map vu) y):l=j:=by
 obtain⟨a,c,e⟩:=Rd.bz h;obtain⟨x,A,n⟩:=Rd.bz h';have C:I l=I j:=by rw[e]at n;simp at n;exact n.2.1
 apply ZiU;intro k;cases p:l[k]? with
 |none=>rw[Zjc]at p;rw[ZhZ Z0]
 |some u=>
  have B:=(ZgZ.1 p).1;obtain⟨r,g⟩:∃r,j[k]?=J r:=⟨_,ZgY Z0⟩;obtain⟨b,o,cap,w,t,_⟩:=JR h p;obtain⟨z,D,q,d,f,_⟩:=JR h' g;rw[w]at d;simp at d;obtain⟨⟨rfl,rfl⟩,_,_⟩:=d;rw[t]at f;cases f;exact g.symm
def Z8y{W W':Z3}{B:Z4}{b:Nat}{row:Option Nat}{l:Z8}{y:Ze}(h:Rd W (λc=>B c/\c<xz (xj W)/\c≠b) (.sl<|l.map vu) y)(j:W.grownBy W' row)(F:∀r,row=J r->∃o:Obj,W.heap[r]?=J o/\o.isCells=xw):
  Rd W' (λc=>B c/\c<xz (xj W')/\c≠b) (.sl<|l.map vu) y:=by
 generalize A:l.map vu=L at h⊢;cases h with
 |nil a cap f=>exact .nil a cap f
 |sl _ d o cap k vs p q g t w x=>
  refine .sl _ d o cap k vs p q ⟨g.1,Zh8 g.2.1 j.size,g.2.2⟩ t (λi C=> ?_) (λi c f=> ?_);have f:=w i C;rw[<-f];refine ZhS (a:=⟨d,o+i,U⟩) (j.block d g.2.1 λe=> ?_);obtain⟨G,D,H⟩:=F d e.symm;unfold World.cell? at f;rw[D]at f;cases G<;>simp_all [Obj.isCells];have z:=x i c f;rw[<-A,yk,Zhq]at f;cases n:l[i]? with
  |none=>rw[n]at f;cases f
  |some u=>
   rw[n]at f;cases f;rw[Sy z];exact .int _ _
def NowI.dy{B:Z4}{W W':Z3}{b:Nat}{g:Hp}{x:Z5}{row:Option Nat}(S:NowI B W b g x)(a:W.grownBy W' row)(f:∀r,row=J r->∃o:Obj,W.heap[r]?=J o/\o.isCells=xw):NowI B W' b g x:=
 ⟨S.le,(a.block b (Y9 S.nb) λe=>by obtain⟨o,d,k⟩:=f b e.symm;rw[S.nb]at d;cases d;cases k).trans S.nb,λj h=>Z8y (S.rd j h) a f⟩
def NowI.iu{B B':Z4}{W:Z3}{b:Nat}{g g':Hp}{x h:Z5}(S:NowI B W b g x)(a:NowI B' W b g' h):g'=g:=by
 have e:=S.nb.symm.trans a.nb;unfold Yn at e;simp at e;obtain⟨n,o,p,r,t,u,w,y,z,A⟩:=e;have q:∀j,j<5->Zu g' j=Zu g j:=λj f=>by
  have d:=S.rd j f;have l:=a.rd j f;have k:x j=h j:=by
   have:j=0\/j=1\/j=2\/j=3\/j=4:=Z0;obtain rfl|rfl|rfl|rfl|rfl:=this<;>assumption
  rw[k]at d;exact Z8E l d
 have C:=q 0 Z0;have D:=q 1 Z0;have F:=q 2 Z0;have G:=q 3 Z0;have H:=q 4 Z0;cases g;cases g';simp[Zu]at*;simp_all
def InBox(B:Z4)(b:Nat)(p:Pts)(W:Z3):Prop:=∃g x,NowI B W b g x/\g.ok/\Rt g p
def InBox.dy{B:Z4}{W W':Z3}{b:Nat}{p:Pts}{row:Option Nat}(S:InBox B b p W)(h:W.grownBy W' row)(j:∀r,row=J r->∃o:Obj,W.heap[r]?=J o/\o.isCells=xw):InBox B b p W':=by
 obtain⟨g,x,a,d,f⟩:=S;exact⟨g,x,a.dy h j,d,f⟩
def InBox.H{B B':Z4}{W:Z3}{b:Nat}{p f:Pts}(S:InBox B b p W)(h:InBox B' b f W):f.H=p.H:=by
 obtain⟨g,x,j,o,l⟩:=S;obtain⟨n,q,a,k,d⟩:=h;have:=j.iu a;subst this;exact Tiles.tp (l.an 1 Z0)<|d.an 1 Z0
structure KpN (B:Nat->Prop) (b kb:Nat) (A C:World):Prop where
 size:xz (xj A)<=xz (xj C)
 same:∀(c:Nat) (o:Obj),A.heap[c]?=J o->o.isCells=xk->c≠b->c≠kb->C.heap[c]?=J o
 H:∀p,InBox B b p A->∃q r,InBox B b q C/\q.H=p.H++r
theorem KpN.trans{B:Z4}{b kb:Nat}{X Y Z:Z3}(h:KpN B b kb X Y)(k:KpN B b kb Y Z):KpN B b kb X Z:=
 ⟨Zhu h.size k.size,λc o d a f g=>k.same c o (h.same c o d a f g) a f g,λp j=>by
  obtain⟨q,r,d,a⟩:=h.H p j;obtain⟨s,t,k1,l⟩:=k.H q d;exact⟨s,r++t,k1,by rw[l,a,ZhM]⟩⟩
theorem KpN.put{B:Z4}{b kb:Nat}{W:Z3}{l:Nat}{o:Obj}(j:Obj)(g:W.heap[l]?=J o)(h:o.isCells=xw):KpN B b kb W<|W.putObj l j:=by
 have f:=ZjQ W l j;have n:∀r,J l=J r->∃o:Obj,W.heap[r]?=J o/\o.isCells=xw:=λr e=>by cases e;exact⟨o,g,h⟩
 refine⟨f.size,λc q a d _ _=>(ZhF<|λe=> ?_).trans a,λp k=>⟨p,[],k.dy f n,Z1⟩⟩;subst e;rw[g]at a;cases a;rw[h]at d;cases d
def Z5x{ws:Z8}{l:Zi}(t:Tiles ws xw 0 l){o:Ob}(a:o∈l){i:Int}(g:o.aa<=i)(h2:i<=o.aa+o.size):WP l i=(decide (o.aa<i)&&decide (i<=o.aa+o.M)):=by
 rw[Zkn,Qk];simp only[Zh1,Zhy];constructor;rintro⟨x,d,k1,f⟩;have j:=YD.1 (t.bc x d).1.shape;obtain e|e|e:=t.apart x d o a;subst e;exact⟨k1,f⟩;omega;omega;exactλh=>⟨o,a,h⟩
def Bq(x:Nat×Bool):Array Value:=#[.int .i64 (x.1:Nat),.bool x.2]
def ED(B:Z4)(b:Nat)(pre:List<|Nat×Bool)(x:Nat×Bool)(W:Z3):Prop:=∃p,InBox B b p W/\x=(I pre,WP p.H<|I pre)
def SN(B:Z4)(b:Nat)(xs:List<|Nat×Bool)(W:Z3):Prop:=∃g x,NowI B W b g x/\I g.H<=I xs
structure KnI (B:Nat->Prop) (b bk:Nat) (q:Pts) (W:World):Prop where
 bx:W.heap[bk]?=J (.cells #[.pointer<|J ⟨b,0,U⟩] 92 (0,0))
 nj:InBox B b q W
def KnI.grown{B:Z4}{b bk:Nat}{q:Pts}{W W':Z3}(h:KnI B b bk q W)(a:W.grownBy W' U):KnI B b bk q W':=
 ⟨(a.block _ (Y9 h.bx) Z1).trans h.bx,h.nj.dy a<|λr e=>by cases e⟩
end Vm
end
section
namespace Vm
open Go Go.Proofs Go.RowKit Go.Shelf
def Z5D(n:Nat){w:Z3}{B:Z4}{b bk kb:Nat}{p0:Pts}(hI:KnI B b bk p0 w)(a7:bk≠b)(K:bk≠kb)(hb:b<xz (xj w))(f5:kb<xz (xj w)):
  EJ Fence.wide n xP 67 #[.pointer<|J ⟨bk,0,U⟩] Bq (KpN B b kb) (ED B b) (SN B b) 1000001 (λ_ _=>True) w:=by
 intro l h Jx W hW _ hJ f3 hY h0;refine callsIn_of_wp F7 rfl trivial ?_ rfl;simp only[Try.ntmps67,Zit,Zie,Zif,Nat.reduceAdd,Nat.reduceSub,ZiN,ZiO,Zjh,ZiV,ZhU,Zid];have d9:=Zh2<|hI.grown<|T7 hW U;have f2:=hW.size;have e0:=Zh2 h0;have e7:∀ {A:Z3},xz (xj w)<=xz (xj A)->xz (xj A)≠b/\xz (xj A)≠kb:=λh=>⟨Z0,Z0⟩;clear h0;gi_wp2
 gi_loopw [3] (λp wr=>∃(a:Nat),p=.int .i64 a/\Hid (∃(pre:List<|Nat×Bool) (q:Pts) (n:Nat),h pre wr/\KnI B b bk q wr/\xz (xj W)<=xz (xj wr)/\n<=I q.H/\a=VH (q.H.take n)/\I pre=a))
  (λp _=>1000001- (intOf p).toNat)
 case atStart=>exact⟨0,rfl,Zh2 ⟨[],p0,0,e0.out,d9.out,Zh3 _,Z0,rfl,rfl⟩⟩
 case round=>
  obtain⟨a,rfl,HI⟩:=hrel;obtain⟨pre,q,n1,X,Y,b8,e8,a6,b7⟩:=HI.out;obtain⟨g,x,S,b2,r⟩:=Y.nj;obtain⟨sa,sc,a4⟩:=Rd.bz<|S.rd 0 Z0;rw[Zhv,show I (Zu g 0)=(I g.H) from rfl]at a4;have N:=S.nb;unfold Yn at N;rw[a4]at N;have y0:wr.cell? ⟨bk,0,U⟩=J (.pointer<|J ⟨b,0,U⟩):=by rw[Zh7 _ _ _ _ _ _ Y.bx];rfl
  have yb:∀j,wr.cell? ⟨b,j,U⟩=(#[.int .u64 g.base,.int .i64 g.cap,.int .i64 g.to,.bool g.Y,.int .i64 g.Z,.slice sa (I g.H) sc,x 1,x 2,x 3,x 4]:Array Value)[j]? :=λj=>Zh7 _ _ _ _ _ _ N;have t1:=r.an 1 Z0;simp only[Vl,Pts.mg]at t1;have b5:=b2.H;have d5:=t1.sum<|Zik _;by_cases f6:a<I g.H
  .have b6:((a:Int)< (I g.H:Int))=True:=ZjA Z0;obtain⟨o,ho⟩:∃o,q.H[n1]?=J o:=by
    refine⟨_,ZgY<|Nat.lt_of_le_of_ne e8 λe=> ?_⟩;rw[e,ZiM]at a6;omega
   have a0:=t1.place ho;rw[ZhN,<-a6]at a0;have a1:=Zha ho;have a3:=(t1.bc o a1).1;have c0:=YD.1 a3.shape;have M:=t1.cw o a1;have L:=a3.aw;obtain⟨u,hu,P⟩:=a3.word;rw[M,Zh9 Z1]at P;replace P:=P.2.1;rw[a0,Zhh]at hu;have d6:=b2.gg u<|Zha hu;obtain⟨gb,go,cap,a5,e2,e3⟩:=JR (S.rd 0 Z0) hu;rw[a4]at a5;rw[show I (Zu g 0)=(I g.H) from rfl]at a5;simp only[Value.slice.injEq,true_and]at a5;obtain⟨rfl,rfl⟩:=a5;have O:=K5 d6;rw[P]at O;obtain⟨m,hm⟩:∃m:Nat,o.size=m:=⟨o.size.toNat,Z0⟩;obtain⟨pt,a8⟩:∃pt:Nat,o.M=pt:=⟨o.M.toNat,Z0⟩;rw[hm]at O L c0;rw[a8]at O c0;have e1:=Zh2 O;have HO:=Zh2<|And.intro a1<|And.intro a0<|And.intro hm<|And.intro a8<|And.intro t1<|And.intro ho<|And.intro b7 b8;have b0:=Zh2 L;have b1:=Zh2<|And.intro X Y;have d8:=Zh2 b5;have q1:IntKind.i64.wrap ((m:Int)+1)=((m+1:Nat):Int):=Zgc;clear O N t1 a1 a0 P hu d6 a4 e3 hm a8 L ho a3 M a6 d5 S r X Y b7 b8 b5;gi_wp2
   refine⟨trivial,λh=>Zgf,(Zj7.2<|e1.out _).mono ?_⟩;rintro e w1 ⟨rfl,b3⟩;have a9:=Zh2 b3;clear b3;gi_wp2
   have f8:=a9.out.size;have Z:wr.grownBy (w1.alloc<|.cells #[.int .i64 m,.int .i64 pt] 43) U:=Si (T7 a9.out U)<|Zij _ _ _;have HA:=Zh2<|And.intro (hJ _ _ _ _ b1.out.1 Z<|λr e=>by cases e)<|And.intro (b1.out.2.grown Z)<|And.intro (Zhk w1<|.cells #[.int .i64 m,.int .i64 pt] 43) Z.size;have hT:xz (xj W)<=xz (xj w1):=by have:=HO.out.2.2.2.2.2.2.2;omega
   have C:=e7 (A:=w1) Z0;have f4:xz (xj W)<=xz (xj<|w1.alloc<|.cells #[.int .i64 m,.int .i64 pt] 43):=Zg1;clear Z;generalize f7:w1.alloc (.cells #[.int .i64 m,.int .i64 pt] 43)=w2 at*;have d7:=b0.out;have f1:=d8.out;gi_loopw [30] (λiv wi=>∃i:Nat,iv=.int .i64 i/\Hid (∃(f:List<|Nat×Bool) (Q:Pts) (r':Zi),h f wi/\KnI B b bk Q wi/\xz (xj w2)<=xz (xj wi)/\Q.H=q.H++r'/\I f=a+i/\i<=m+1/\wi.heap[xz<|xj w1]?=J (.cells #[.int .i64 m,.int .i64 pt] 43 (0,0)))) (λiv _=>m+1- (intOf iv).toNat)
   case atStart=>exact⟨0,rfl,Zh2 ⟨pre,q,[],HA.out.1,HA.out.2.1,Zh3 _,Z1,by have:=HO.out.2.2.2.2.2.2.1;omega,Z0,HA.out.2.2.1⟩⟩
   case round=>
    obtain⟨i,rfl,HJ⟩:=hrel;obtain⟨f,Q,r',H,z,b9,F,a2,e4,D⟩:=HJ.out;have d0:wr.cell? ⟨xz<|xj w1,0,U⟩=J (.int .i64 m):=by rw[Zh7 _ _ _ _ _ _ D];rfl
    have d1:wr.cell? ⟨xz<|xj w1,1,U⟩=J (.int .i64 pt):=by rw[Zh7 _ _ _ _ _ _ D];rfl
    by_cases e6:i=m+1
    .subst e6;have e5:(((m+1:Nat):Int)< (m:Int)+1)=False:=ZjE Z0;have q2:IntKind.i64.wrap ((a:Int)+((m:Int)+1))=((a+(m+1):Nat):Int):=Zgc;clear z D H;gi_wp2
     obtain⟨k1,k2,k3,k4,k5,k6,k7⟩:=HO.out;obtain⟨f,Q,r',H,z,b9,F,a2,e4,D⟩:=HJ.out;have b4:n1+1<=I q.H:=by have:=(ZgZ.1 k6).1;omega
     refine⟨⟨a+(m+1),Z1,Zh2 ⟨f,Q,n1+1,H,z,Z0,by rw[F,ZhJ];omega,?_,Z0⟩⟩,by simp[intOf];omega⟩;rw[F,Zkg b4,ZaI k6,k3];have:=k5.place k6;omega
    .have e5:((i:Int)< (m:Int)+1)=True:=ZjA Z0;obtain⟨k1,k2,k3,k4,k5,k6,k7,k8⟩:=HO.out;have hx:ED B b f (a+i,WP Q.H ((a+i:Nat):Int)) wr:=⟨Q,z.nj,by rw[a2]⟩;obtain⟨fn,f0,assign,e9,hy,hR⟩:=hY f _ wr H hx Z0;have hq:WP Q.H ((a+i:Nat):Int)=(decide (0<i)&&decide (i<=pt)):=by
      obtain⟨g',x',_,_,r2⟩:=z.nj;have t2:=r2.an 1 Z0;simp only[Vl,Pts.mg]at t2;rw[Z5x t2 (o:=o) (by rw[F];exact Zip _ k1) Z0 Z0,k2,k4];congr 1;exact decide_eq_decide.2 Z0;exact decide_eq_decide.2 Z0
     unfold Bq at hy;simp only[hq]at hy;have HQ:=Zh2<|And.intro hq<|And.intro hR<|And.intro b9<|And.intro F<|And.intro a2<|And.intro D z;have q2:IntKind.i64.wrap ((a:Int)+(i:Int))=((a+i:Nat):Int):=Zgc;have q3:IntKind.i64.wrap ((i:Int)+1)=((i+1:Nat):Int):=Zgc;clear hx H z hq hR D k1 k2 k3 k4 k5 k6 k7 k8 F a2;have h3:(i=0/\(0<i)=False)\/(((0:Int)< (i:Int))=True/\(0<i)=True/\((i:Int)<=(pt:Int))=True/\(i<=pt)=True)\/(((0:Int)< (i:Int))=True/\(0<i)=True/\((i:Int)<=(pt:Int))=False/\(i<=pt)=False):=by
      by_cases h0:i=0;exact .inl ⟨h0,ZjE Z0⟩;by_cases h1:i<=pt;exact .inr<|.inl ⟨ZjA Z0,ZjA Z0,ZjA Z0,ZjA h1⟩;exact .inr<|.inr ⟨ZjA Z0,ZjA Z0,ZjE Z0,ZjE h1⟩
     obtain⟨h0,h1⟩|⟨h0,h1,h2,h3⟩|⟨h0,h1,h2,h3⟩:=h3
     .subst h0;simp only[h1,Zle,ZkB,Zlf,ZjN,Zk7,Zk8,ZiD,Zl0]at hy;gi_wp2
      refine⟨λh=>Zgf,HQ.out.2.1.mono ?_⟩;rintro e W3 (⟨rfl,t,y⟩|⟨rfl,k⟩)
      .have d:=Zh2<|And.intro t y;clear t y;gi_wp2
       obtain⟨c1,c2,c3,c4,c5,c6,c7⟩:=HQ.out;obtain⟨R,T,i1,i2⟩:=d.out.2.H Q c7.nj;refine⟨⟨1,Z1,Zh2 ⟨f++[_],R,r'++T,d.out.1,⟨d.out.2.same _ _ c7.bx rfl a7 K,i1⟩,Zhu c3 d.out.2.size,by rw[i2,c4,ZhM],by simp<;>omega,Z0,d.out.2.same _ _ c6 rfl C.1 C.2⟩⟩,by simp[intOf]<;>omega⟩
      .have G:=Zh2 k;clear k;gi_wp2
       refine ZhE (results_none rfl _ _ _) rfl ?_;exact⟨⟨_,rfl⟩,.inr ⟨_,G.out⟩⟩
     .simp only[h1,h3,Zle,ZkB,Zlf,ZjN,Zk7,Zk8,ZiD,Zl0]at hy;gi_wp2
      refine⟨λh=>Zgf,HQ.out.2.1.mono ?_⟩;rintro e W3 (⟨rfl,t,y⟩|⟨rfl,k⟩)
      .have d:=Zh2<|And.intro t y;clear t y;gi_wp2
       obtain⟨c1,c2,c3,c4,c5,c6,c7⟩:=HQ.out;obtain⟨R,T,i1,i2⟩:=d.out.2.H Q c7.nj;refine⟨⟨i+1,Z1,Zh2 ⟨f++[_],R,r'++T,d.out.1,⟨d.out.2.same _ _ c7.bx rfl a7 K,i1⟩,Zhu c3 d.out.2.size,by rw[i2,c4,ZhM],by simp<;>omega,Z0,d.out.2.same _ _ c6 rfl C.1 C.2⟩⟩,by simp[intOf];omega⟩
      .have G:=Zh2 k;clear k;gi_wp2
       refine ZhE (results_none rfl _ _ _) rfl ?_;exact⟨⟨_,rfl⟩,.inr ⟨_,G.out⟩⟩
     .simp only[h1,h3,Zle,ZkB,Zlf,ZjN,Zk7,Zk8,ZiD,Zl0]at hy;gi_wp2
      refine⟨λh=>Zgf,HQ.out.2.1.mono ?_⟩;rintro e W3 (⟨rfl,t,y⟩|⟨rfl,k⟩)
      .have d:=Zh2<|And.intro t y;clear t y;gi_wp2
       obtain⟨c1,c2,c3,c4,c5,c6,c7⟩:=HQ.out;obtain⟨R,T,i1,i2⟩:=d.out.2.H Q c7.nj;refine⟨⟨i+1,Z1,Zh2 ⟨f++[_],R,r'++T,d.out.1,⟨d.out.2.same _ _ c7.bx rfl a7 K,i1⟩,Zhu c3 d.out.2.size,by rw[i2,c4,ZhM],by simp<;>omega,Z0,d.out.2.same _ _ c6 rfl C.1 C.2⟩⟩,by simp[intOf];omega⟩
      .have G:=Zh2 k;clear k;gi_wp2
       refine ZhE (results_none rfl _ _ _) rfl ?_;exact⟨⟨_,rfl⟩,.inr ⟨_,G.out⟩⟩
  .have b6:((a:Int)< (I g.H:Int))=False:=ZjE Z0;have HE:Hid<|h pre wr/\SN B b pre wr:=Zh2 ⟨X,g,x,S,Z0⟩;clear N X S;gi_wp2
   go_end0
   exact⟨⟨_,rfl⟩,.inl ⟨pre,HE.out.2,HE.out.1⟩⟩
end Vm
end
section
namespace Vm
open Go Go.Proofs Go.RowKit
def AY{g:Hp}{x:Z5}(h:∀j,j<5->∃a q,x j=.slice a (I<|Zu g j) q):∃(a:Nat->Option Addr) (q:Zk),Yn g x=#[.int .u64 g.base,.int .i64 g.cap,.int .i64 g.to,.bool g.Y,.int .i64 g.Z,.slice (a 0) (I<|Zu g 0)<|q 0,.slice (a 1) (I<|Zu g 1)<|q 1,.slice (a 2) (I<|Zu g 2)<|q 2,.slice (a 3) (I<|Zu g 3)<|q 3,.slice (a 4) (I<|Zu g 4)<|q 4]/\∀j,j<5->x j=.slice (a j) (I<|Zu g j) (q j):=by
 have:∀j,∃p:Option Addr×Nat,j<5->x j=.slice p.1 (I<|Zu g j) p.2:=λj=>by
  by_cases d:j<5;obtain⟨a,q,e⟩:=h j d;exact⟨(a,q),λ_=>e⟩;exact⟨(U,0),λh=>absurd h d⟩
 obtain⟨f,e⟩:=ZjP this;exact⟨λj=>(f j).1,λj=>(f j).2,by simp[Yn,e],e⟩
def Z0L(w:Z3)(G:Z4)(hG:∀b,G b->b<xz (xj w))(h:Hp)(hh:h.ok)(Q:Z5)(hs:∀j,j<5->Rd w G (.sl<|(Zu h j).map vu) (Q j)){p:Pts}(r:Rt h p)(hc:h.Y=xw):
  Calls xP 25 #[ZA h Q] w (zm w (X1 h,0)):=by
 have hR:∀W,Below (xz<|xj w) w W->Calls xP 17 #[ZA h Q] W λe w'=>e=.returned (.bool<|Yw h)/\Below (xz<|xj W) W w':=λW B=>
  LK (w:=W) (G:=G) (x:=Q) hh (λb X=>Zh8 (hG b X) B.size) (λj n=>(hs j n).keep (λb X=>B.block b<|hG b X) λ_ q=>q)
 rw[r.right]at hR;unfold ZA at hR;rw[hc]at hR;have HR:=Zh2 hR;have HS:=Zh2 hs;have HH:=Zh2 hh;have d7:=Zh2 r;have M:=Zh2 hc;have h7:h.to=0\/h.to=1:=by have:=XN.1 r.bb;exact this.2.2.2.2.1
 have l3:=Zy (1-h.to) Z0 Z0;clear hR hs hh r h7;unfold ZA;rw[hc];clear hc;go_enter zw,Try.ntmps25;go_wp2;refine Z9N 0 (λa W=>∃(c k:Nat) (x:Z5),a.defers=[]/\a.tmps.size=72/\a.tmps.getD 2 xy=.pointer (J ⟨xz (xj w)+1,0,U⟩)/\a.tmps.getD 4 xy=.pointer (J ⟨c,0,U⟩)/\a.tmps.getD 5 xy=.int .i64 k/\k<=xq h.E/\FlI w W c (VR (WB h) k) x) (λa _=>xq h.E- (intOf<|a.tmps.getD 5 xy).toNat) rfl ?_ ?_
 .rintro a W ⟨c,k,x,hd,d5,h2,h4,h5,hk,HI⟩;obtain⟨t,d⟩:=a;simp only at hd d5 h2 h4 h5;subst hd;obtain⟨u,hu⟩:∃u:Z5,∀i,t.getD i xy=u i:=⟨λi=>t.getD i xy,λ_=>rfl⟩
  have et:t=#[u 0,u 1,u 2,u 3,u 4,u 5,u 6,u 7,u 8,u 9,u 10,u 11,u 12,u 13,u 14,u 15,u 16,u 17,u 18,u 19,u 20,u 21,u 22,u 23,u 24,u 25,u 26,u 27,u 28,u 29,u 30,u 31,u 32,u 33,u 34,u 35,u 36,u 37,u 38,u 39,u 40,u 41,u 42,u 43,u 44,u 45,u 46,u 47,u 48,u 49,u 50,u 51,u 52,u 53,u 54,u 55,u 56,u 57,u 58,u 59,u 60,u 61,u 62,u 63,u 64,u 65,u 66,u 67,u 68,u 69,u 70,u 71]:=(Z2d d5).trans (by
   have A:(λi=>t.getD i xy)=u:=funext hu;rw[A];rfl)
  rw[hu]at h2 h4 h5;rw[h2,h4,h5]at et;clear hu d5 h2 h4 h5;subst et;have D:=Zh2 HI;clear HI;by_cases b9:k<xq h.E
  .have h7:h.to=0\/h.to=1:=by have:=XN.1 d7.out.bb;exact this.2.2.2.2.1
   obtain⟨q,I⟩:=ym d7.out M.out k Z0;obtain⟨⟨T,H,q',f⟩,_⟩:=GY d7.out b9 I;have g5:=AI HH.out h7 k;have a6:(VR (WB h) k).E[k]?=J h.E[k]:=by rw[I.rest k<|Zh3 _];exact ZgY b9
   have d0:VR (WB h) (k+1)= {H with E:=H.E.set k T}:=by
    show Qd (VR (WB h) k) k=_;unfold Qd;rw[a6,Zhw,f.fwd]
   have Y:(VR (WB h) k).E.length=xq h.E:=I.len;have er:H.E=(VR (WB h) k).E:=f.ext.E;have f2:H.ok/\ZC T:=by have:=yr g5<|HH.out.dm _<|Zhm b9;rw[f.fwd]at this;exact this
   have f3:=f.fwd;have k5:=HH.out.dm _<|Zhm b9;clear I f;generalize VR (WB h) k=g at*;generalize h.E[k]=u0 at*;obtain⟨gb,go,cap,e9,g7,i6⟩:=JR (D.out.rd 4 Z0) a6;rw[show xq (Zu g 4)=(xq g.E) from rfl,Y]at e9;have hF:∀W',Below (xz<|xj W) W W'->Calls xP 42 #[.agg #[.int .u64 g.base,.int .i64 g.cap,.int .i64 g.to,.bool g.Y,.int .i64 g.Z,x 0,x 1,x 2,x 3,.slice (J ⟨gb,go,U⟩) (xq h.E) cap],.int .u64 u0] W' (RV W' (T,H,0)):=λW' B=>by
    have:=Er W' (λb=>xz (xj w)+2<=b/\b<xz (xj W)/\b≠c) (λb X=>Zh8 X.2.1 B.size) g g5 x (λj n=>(D.out.rd j n).keep (λb X=>B.block b X.2.1) λ_ q=>q) u0 k5;rw[f3]at this;unfold ZA at this;rw[e9]at this;exact this
   have HF:=Zh2 hF;have R:=D.out.nb;unfold Yn at R;rw[e9]at R;have yc:∀j,W.cell? ⟨c,j,U⟩=(#[.int .u64 g.base,.int .i64 g.cap,.int .i64 g.to,.bool g.Y,.int .i64 g.Z,x 0,x 1,x 2,x 3,.slice (J ⟨gb,go,U⟩) (xq h.E) cap]:Array Value)[j]? :=λj=>Zh7 _ _ _ _ _ _ R;have g8:=Y9 R;have k7:((k:Int)< (xq h.E:Int))=True:=ZjA Z0;have HM:=Zh2<|And.intro d0<|And.intro er<|And.intro f2<|And.intro i6<|And.intro R Y;clear hF R Y e9 d0 er f2 a6 f3 g5 i6;go_upto_region 8 with fail;refine Ot [39,40,41,42,43,44,45,38,46,47,48,7,6,8] (FrC W (frE c g (λj=>if j=4 then .slice (J ⟨gb,go,U⟩) (xq h.E) cap else x j) k (.pointer<|J ⟨gb,go+k,U⟩) u0) T H) follows Z2 ⟨u,Zgd,?_⟩ ?_ ?_;exact⟨(Zhi _ _).drew,λi _ _ _ h=>Zgf,λh=>Zgf,λh=>Zgf,λh=>Zgf⟩
   .intro L i o v W1 ho hi n C;have N:=Zh2 C;have hz:xz (xj W)<=xz (xj W1):=C.b.size;have yd:∀j,W1.cell? ⟨c,j,U⟩=(#[.int .u64 g.base,.int .i64 g.cap,.int .i64 g.to,.bool g.Y,.int .i64 g.Z,x 0,x 1,x 2,x 3,.slice (J ⟨gb,go,U⟩) (xq h.E) cap]:Array Value)[j]? :=λj=>(C.b.cell (p:=⟨c,j,U⟩) g8).trans<|yc j;have j4:W1.cell? ⟨gb,go+k,U⟩=J (.int .u64 u0):=(C.b.cell (p:=⟨gb,go+k,U⟩) HM.out.2.2.2.1.2.1).trans g7;clear C;have k9:i<15:=(Zh6.1 ho).1;simp only[Tj,QF,ZhA,Zis,ZiX,ZkF,Zj1,ZjV,Zjr];have:i=0\/i=1\/i=2\/i=3\/i=4\/i=5\/i=6\/i=7\/i=8\/i=9\/i=10\/i=11\/i=12\/i=13\/i=14:=Z0;obtain rfl|rfl|rfl|rfl|rfl|rfl|rfl|rfl|rfl|rfl|rfl|rfl|rfl|rfl|rfl:=this<;>cases ho
    .go_wp2;try simp only[QN]
     exact⟨_,rfl,N.out.pe 0 Z0 rfl⟩
    .go_wp2;try simp only[QN]
     exact⟨_,rfl,N.out.pe 1 Z0 rfl⟩
    .have e1:v 40=.pointer (J ⟨c,9,U⟩):=N.out.e 1 Z0<|n 1 Zgg;go_wp2;try simp only[QN]
     exact⟨_,by rw[<-e1];rfl,N.out.pe 2 Z0 rfl⟩
    .go_wp2;try simp only[QN]
     exact⟨_,rfl,N.out.pe 3 Z0 rfl⟩
    .have e2:v 41=.slice (J ⟨gb,go,U⟩) (xq h.E) cap:=N.out.e 2 Z0<|n 2 Zgg;have e3:v 42=.int .i64 k:=N.out.e 3 Z0<|n 3 Zgg;go_wp2;try simp only[QN]
     exact⟨_,by rw[<-e2,<-e3];rfl,N.out.pe 4 Z0 rfl⟩
    .have e4:v 43=.pointer (J ⟨gb,go+k,U⟩):=N.out.e 4 Z0<|n 4 Zgg;go_wp2;try simp only[QN]
     exact⟨_,by rw[<-e4];rfl,N.out.pe 5 Z0 rfl⟩
    .have A:v 39=.agg #[.int .u64 g.base,.int .i64 g.cap,.int .i64 g.to,.bool g.Y,.int .i64 g.Z,x 0,x 1,x 2,x 3,.slice (J ⟨gb,go,U⟩) (xq h.E) cap]:=N.out.e 0 Z0<|n 0 Zgg;have e5:v 44=.int .u64 u0:=N.out.e 5 Z0<|n 5 Zgg;go_wp2_with (go_at_call 42;refine(HF.out _ N.out.b).mono ?_;rintro e w9 ⟨x9,rfl,b7,j0⟩;have b1:=Zh2<|And.intro b7 j0;clear b7 j0)
     try simp only[QN]
     exact⟨_,by rw[<-A,<-e5];rfl,N.out.call b1.out.1 b1.out.2⟩
    .obtain⟨x9,A,o9⟩:=N.out.t 6 (.inl rfl)<|n 6 Zgg;have A:v 45=KP T H x9:=A;have O9:=Zh2 o9;clear o9;go_wp2;try simp only[QN]
     exact⟨_,by rw[<-A];rfl,N.out.pt O9.out⟩
    iterate 3
     focus
      obtain⟨x9,A,o9⟩:=N.out.t 7 (.inr rfl)<|n 7 Zgg;have A:v 38=.tuple #[.int .u64 T,.agg<|Yn H x9,.int .i64 0]:=A;have O9:=Zh2 o9;clear o9;go_wp2;try simp only[QN]
      first
      |exact⟨_,by rw[<-A];rfl,N.out.pf 8 (.inl rfl) rfl⟩
      |exact⟨_,by rw[<-A];rfl,N.out.pa O9.out⟩
      |exact⟨_,by rw[<-A];rfl,N.out.pz 10 (.inl rfl) rfl⟩
    .go_wp2;try simp only[QN]
     exact⟨_,rfl,N.out.alloc hi⟩
    .have A:v 46=.int .u64 T:=N.out.f 8 (.inl rfl)<|n 8 Zgg;go_wp2;try simp only[QN]
     exact⟨_,by rw[<-A];rfl,N.out.pf 12 (.inr rfl) rfl⟩
    .obtain⟨c7,e7,d9,j9,O⟩:=N.out.new<|n 11 Zgg;obtain⟨x9,i2,o9⟩:=N.out.a<|n 9 Zgg;have O:=O hi;have y4:∀j,W1.cell? ⟨c7,j,U⟩=ZL[j]? :=λj=>Zh7 _ _ _ _ _ _ O;unfold ZL at y4;have y5:∀j,W1.frozen? ⟨c7,j,U⟩=xw:=λj=>Yc O;have H3:=Zh2 O;obtain⟨a,q,K,_⟩:=AY λj n=>Yi<|o9.own.own j n;rw[K]at i2;have d6:=Zh2<|And.intro K o9;clear O o9 K;go_wp2;try simp only[QN]
     exact⟨_,by rw[<-e7,<-i2],N.out.store e7 d6.out.2 (n 11 Zgg) hi H3.out (λb B=>UJ B _ _ _ _ _ _ _ _ _ _) ZgL (by rw[d6.out.1];exact qP H3.out _ _ _ _ _ _ _ _ _ _)<|XW (Zhi _ _) d9 _ _ _ _ _ _ _ _ _ _⟩
    .have A:v 48=.int .i64 0:=N.out.z 10 (.inl rfl)<|n 10 Zgg;go_wp2;try simp only[QN]
     exact⟨_,by rw[<-A];rfl,N.out.pz 14 (.inr rfl) rfl⟩
   .intro L v W1 hL C;have e6:v 6=.int .u64 T:=C.f 12 (.inr rfl)<|hL 12 Zgg;have e8:v 8=.int .i64 0:=C.z 14 (.inr rfl)<|hL 14 Zgg;obtain⟨c7,x9,e7,g6,o9⟩:=C.put<|hL 13 Zgg;have a7:=C.b;have d5:=a7.size;have b8:xq H.E=xq h.E:=by rw[HM.out.2.1,HM.out.2.2.2.2.2]
    obtain⟨a,q,K,f4⟩:=AY λj n=>Yi<|o9.own.own j n;have f4:=f4 4 Z0;have i5:xq (Zu H 4)=xq h.E:=b8;obtain⟨g4,i4⟩:=qA (o9.own.own 4 Z0) f4 Z0;rw[i4,i5]at f4 K;rw[K]at g6;have d8:=(a7.block c g8).trans HM.out.2.2.2.2.1;have y7:=λj=>Zh7 _ _ j _ _ _ g6;have yd:=λj=>Zh7 _ _ j _ _ _ d8;have fd:∀j,W1.frozen? ⟨c,j,U⟩=xw:=λj=>Yc d8;have HO:=Zh2<|And.intro o9.own<|And.intro a7<|And.intro K<|And.intro f4<|And.intro b8 d8;have i4:xz (xj W)<=g4/\g4<xz (xj W1):=(o9.own.own 4 Z0).lt g4 (by rw[f4];rfl);clear C o9 a7 K f4 b8 g6 d8 hL;simp only[Tj,QF,ZhA,Zis,ZiX,ZkF,Zj1,ZjV,Zjr];go_upto_region 12 with fail;obtain⟨W2,a2⟩:∃W2,W2=TV W1 c (.int .u64 H.base) (.int .i64 H.cap) (.int .i64 H.to) (.bool H.Y) (.int .i64 H.Z) (.slice (a 0) (xq<|Zu H 0)<|q 0) (.slice (a 1) (xq<|Zu H 1)<|q 1) (.slice (a 2) (xq<|Zu H 2)<|q 2) (.slice (a 3) (xq<|Zu H 3)<|q 3) (.slice (J ⟨g4,0,U⟩) (xq h.E)<|q 4):=⟨_,rfl⟩;unfold TV at a2;rw[<-a2];have b6:W2.heap[c]?=J (.cells (Yn H x9) 30 (0,0)):=by rw[HO.out.2.2.1,a2];exact O6 HO.out.2.2.2.2.2 _ _ _ _ _ _ _ _ _ _
    have c0:∀b,b≠c->W2.heap[b]?=W1.heap[b]? :=λb B=>by rw[a2];exact UJ B _ _ _ _ _ _ _ _ _ _
    have h8:xz (xj W2)=xz (xj W1):=by rw[a2];simp[World.setCell]
    have a8:Below (xz<|xj w) W1 W2:=by rw[a2];exact XW (Zhi _ _) (by have:=D.out.le;omega) _ _ _ _ _ _ _ _ _ _
    clear a2;have P:HOwn (xz<|xj W) W2 H x9:=⟨λj n=>Xs (HO.out.1.own j n) λb B=>c0 b (by have:=((HO.out.1.own j n).lt b B).1;omega),HO.out.1.apart⟩;have a4:=P.own 4 Z0;rw[HO.out.2.2.2.1,show xq (Zu H 4)=(xq h.E) from HO.out.2.2.2.2.1]at a4;have y2:=λj=>Zh7 _ _ j _ _ _ b6;rw[HO.out.2.2.1]at y2;obtain⟨z0,j3⟩:∃z0,H.E[k]?=J z0:=⟨_,ZgY (by rw[HO.out.2.2.2.2.1];exact b9)⟩;have ec:W2.cell? ⟨g4,k,U⟩=J (.int .u64 z0):=by
     rw[a4.cellAt k Z0];simp[Yg,Zu,j3]
    have ef:W2.frozen? ⟨g4,k,U⟩=xw:=a4.frozenAt k;have wk:=Zy ((k:Int)+1) (by have:=HH.out.E;omega) (by have:=HH.out.E;omega);have HQ:=Zh2<|And.intro b6<|And.intro c0<|And.intro h8<|And.intro a8<|And.intro P a4;clear b6 c0 h8 a8 P a4 y7 yd fd j3;go_wp2;go_step3
    simp only[Exit.then,Exit.inBlock];refine⟨rfl,⟨c,k+1,x9,rfl,rfl,rfl,rfl,?_,Z0,?_⟩,?_⟩;show Value.int .i64 ((k:Int)+1)=_;congr 1;rw[HM.out.1];obtain⟨b6,c0,h8,a8,P,a4⟩:=HQ.out;obtain⟨j2,l1⟩:=a4.stored k<|.int .u64 T;have k6:g4≠c:=Z0;have Z:∀b,b≠g4->(W2.setCell ⟨g4,k,U⟩<|.int .u64 T).heap[b]?=W2.heap[b]? :=λb B=>Zhj _ _ _ _ B;have f1:xz (xj<|W2.setCell ⟨g4,k,U⟩<|.int .u64 T)=xz (xj W2):=ZgL;have i8:=D.out.le;have a5:=D.out.rb;refine⟨(D.out.below.trans<|(HO.out.2.1.mono D.out.below.size).trans a8).setCell (by show xz (xj w)<=g4;have:=D.out.below.size;omega) _,?_,i8,?_,λj n=> ?_⟩;have:=Y9 a5;rw[Z _ Z0,c0 _ Z0,HO.out.2.1.block _ this];exact a5;rw[Z c Z0,b6];rfl;have i7:∀b,xz (xj W)<=b->b< xz (xj<|W2.setCell ⟨g4,k,U⟩<|.int .u64 T)->xz (xj w)+2<=b/\b< xz (xj<|W2.setCell ⟨g4,k,U⟩<|.int .u64 T)/\b≠c:=λb h1 h2=>⟨Z0,h2,Z0⟩;by_cases e:j=4;subst e;have hn:Yg .u64 (H.E.set k T)=(Yg .u64<|Zu H 4).set k (.int .u64 T):=Lf _ _ _ _;rw[<-hn]at j2;show Rd _ _ (.sl<|(H.E.set k T).map vu)<|x9 4;rw[HO.out.2.2.2.1];have k3:xq h.E=xq (H.E.set k T):=by rw[ZiY,HO.out.2.2.2.2.1]
    have k4:(W2.setCell ⟨g4,k,U⟩<|.int .u64 T).ownsRow (xz<|xj W) 24 1 (.slice (J ⟨g4,0,U⟩) (xq h.E)<|q 4) (xq<|H.E.set k T)<|Yg .u64<|H.E.set k T:=by rw[<-k3];exact j2
    exact Rp k4 i7;have k0:Zu {H with E:=H.E.set k T} j=Zu H j:=by
     have:j=0\/j=1\/j=2\/j=3:=Z0;obtain rfl|rfl|rfl|rfl:=this<;>rfl
    rw[k0];refine Rp (Xs (P.own j n) λb B=>Z b λe2=> ?_) i7;exact P.apart j 4 Z0 Z0 b B (by rw[e2,HO.out.2.2.2.1];rfl);simp[intOf];omega
  .have k2:k=xq h.E:=Z0;subst k2;obtain⟨q,I⟩:=ym d7.out M.out (xq h.E)<|Zh3 _;have Y:(VR (WB h)<|xq h.E).E.length=xq h.E:=I.len;clear I;have K:X1 h=TF (VR (WB h)<|xq h.E):=rfl;rw[K];clear K;generalize VR (WB h) (xq h.E)=g at*;obtain⟨a,q,h6,f0⟩:=AY (g:=g) (x:=x) λj n=>by simpa using Rd.bz (D.out.rd j n)
   have Y:xq (Zu g 4)=xq h.E:=Y;rw[Y]at h6;have R:=D.out.nb;rw[h6]at R;have a5:=D.out.rb;have i8:=D.out.le;have g8:=Y9 R;have yc:=λj=>Zh7 _ _ j _ _ _ R;have fc:∀j,W.frozen? ⟨c,j,U⟩=xw:=λj=>Yc R;have yz:∀j,W.cell? ⟨xz (xj w)+1,j,U⟩=ZL[j]? :=λj=>Zh7 _ _ _ _ _ _ a5;unfold ZL at yz;have fz:∀j,W.frozen? ⟨xz (xj w)+1,j,U⟩=xw:=λj=>Yc a5;have i9:¬xz (xj w)+1=c:=Z0;have k8:¬c=xz (xj w)+1:=Z0;have HP:=Zh2<|And.intro a5<|And.intro f0 Y;clear h6 R a5 f0 Y;by_cases b0:0<xq g.H
   .have h0:(0< xq (Zu g 0))=True:=ZjA b0;go_wp2;simp only[Exit.jump];obtain⟨W3,S⟩:∃W3,W3=W.setCell ⟨c,3,U⟩ (.bool xk):=⟨_,rfl⟩;rw[<-S];have Z:∀b,b≠c->W3.heap[b]?=W.heap[b]? :=λb B=>by
     rw[S];simp[World.setCell,ZhB,ZiJ B]
    have f1:xz (xj W3)=xz (xj W):=by rw[S];simp[World.setCell]
    have b4:Below (xz<|xj w) W W3:=by
     rw[S];exact(Zhi _ _).setCell ZgP _
    have y:=WW<|(Z _ i9).trans HP.out.1;have A:=HP.out.2.1 0 Z0;have e1:=HP.out.2.1 1 Z0;have e2:=HP.out.2.1 2 Z0;have e3:=HP.out.2.1 3 Z0;have e4:=HP.out.2.1 4 Z0;rw[HP.out.2.2]at e4;have g9:TF g= {g with Y:=xk}:=Zhc b0;rw[g9];clear S;refine ZhE (v:=.tuple #[ZA {g with Y:=xk} x,.int .i64 0]) ?_ rfl ⟨x,rfl,XW (D.out.below.trans b4) Z0 _ _ _ _ _ _ _ _ _ _,λj n=> ?_⟩
    .simp[results,Try.results25,go_sem,y,ZA,A,e1,e2,e3,e4]
    have hl:Zu {g with Y:=xk} j=Zu g j:=rfl;rw[hl];exact(D.out.rd j n).keep (λb B=>(UJ (by have:=B.1;omega) _ _ _ _ _ _ _ _ _ _).trans<|Z b B.2.2) λb B=>⟨by have:=B.1;omega,by simp[World.setCell,f1];exact B.2.1⟩
   .have h0:(0< xq (Zu g 0))=False:=ZjE b0;go_wp2;simp only[Exit.jump];obtain⟨W3,S⟩:∃W3,W3=((W.setCell ⟨c,3,U⟩<|.bool xw).setCell ⟨c,7,U⟩<|.slice U 0 0).setCell ⟨c,8,U⟩ (.slice U 0 0):=⟨_,rfl⟩;rw[<-S];have Z:∀b,b≠c->W3.heap[b]?=W.heap[b]? :=λb B=>by
     rw[S];simp[World.setCell,ZhB,ZiJ B]
    have f1:xz (xj W3)=xz (xj W):=by rw[S];simp[World.setCell]
    have b4:Below (xz<|xj w) W W3:=by
     rw[S];exact(((Zhi _ _).setCell ZgP _).setCell ZgP _).setCell ZgP _
    have y:=WW<|(Z _ i9).trans HP.out.1;have A:=HP.out.2.1 0 Z0;have e1:=HP.out.2.1 1 Z0;have e4:=HP.out.2.1 4 Z0;rw[HP.out.2.2]at e4;have g9:TF g= {g with Y:=xw,ah:=[],ak:=[]}:=Zh9 b0;rw[g9];clear S;refine ZhE (v:=.tuple #[ZA {g with Y:=xw,ah:=[],ak:=[]} (λj=>if j=2\/j=3 then .slice U 0 0 else x j),.int .i64 0]) ?_ rfl ⟨_,rfl,XW (D.out.below.trans b4) Z0 _ _ _ _ _ _ _ _ _ _,λj n=> ?_⟩
    .simp[results,Try.results25,go_sem,y,ZA,A,e1,e4]
    have:j=2\/j=3\/(j≠2/\j≠3):=Z0;obtain rfl|rfl|⟨h2,h3⟩:=this;exact .nil _ _ Zgh;exact .nil _ _ Zgh;have hl:Zu {g with Y:=xw,ah:=[],ak:=[]} j=Zu g j:=by
     have:j=0\/j=1\/j=4:=Z0;obtain rfl|rfl|rfl:=this<;>rfl
    rw[hl];simp only[h2,h3,or_self,Zi0];exact(D.out.rd j n).keep (λb B=>(UJ (by have:=B.1;omega) _ _ _ _ _ _ _ _ _ _).trans<|Z b B.2.2) λb B=>⟨by have:=B.1;omega,by simp[World.setCell,f1];exact B.2.1⟩
 intro c1
 go_upto_region 5 with (first
  | (go_at_call 17;refine(HR.out _ ?_).mono ?_;rotate_left;rintro e wa ⟨rfl,a3⟩
     have bA:wa.heap[xz<|xj w]?=J (.cells #[.int .u64 h.base,.int .i64 h.cap,.int .i64 h.to,.bool xw,.int .i64 h.Z,Q 0,Q 1,Q 2,Q 3,Q 4] 30 (0,0)):=(a3.block _ Zg1).trans<|(Zh4 _ _ _ Z1).trans<|Zhk w _;have bZ:wa.heap[xz (xj w)+1]?=J (.cells ZL 30 (0,0)):=(a3.block _ Z1).trans<|S8 w _;have ya:=λj=>Zh7 _ _ j _ _ _ bA;have f6:=Zh2 a3;have j6:=Zh2<|And.intro bA bZ;clear a3 bA bZ))
 case refine_1=>exact((Zhi _ w).alloc (Zh3 _) _).alloc Z1 _
 have a3:Below (xz<|xj w) w wa:=Below.trans (((Zhi _ w).alloc (Zh3 _) _).alloc Z1 _)<|f6.out.mono Zg1;have l2:xz (xj w)+2<=xz (xj wa):=by have:=f6.out.size;simp at this;omega
 have i1:=Zh2 a3;clear a3 f6;have f8:=Zh2 (λ(W:Z3) (hW:Below (xz<|xj wa) wa W) (j:Nat) (n:j<5)=>(HS.out j n).keep (λb X=>(hW.block b (by have:=hG b X;omega)).trans<|i1.out.block b<|hG b X) λ_ q=>q);refine Ot [16,17,18,19,20,21,22,23,24,25,26,27,28,29,30,31,32,4] (FlC wa (xz<|xj w) h Q) follows Z2 ⟨λ_=>xy,Zgd,?_⟩ ?_ ?_;exact⟨(Zhi _ _).drew,λi _ h=>Zgf,λi _ h=>Zgf,λh=>Zgf,λh=>Zgf,λh=>Zgf,λh=>Zgf⟩
 .intro L i o v W ho hi n C;have M:=Zh2 C;have hz:xz (xj wa)<=xz (xj W):=C.b.size;have ya:=λj=>(C.b.cell (p:=⟨xz<|xj w,j,U⟩) (by show xz (xj w)<xz (xj wa);omega)).trans<|ya j;clear C;have l0:i<19:=(Zh6.1 ho).1;simp only[Tj,QF,ZhA,Zis,ZiX,ZkF,Zj1,ZjV,Zjr];have:i=0\/i=2\/i=4\/i=7\/i=10\/i=13\/i=1\/i=3\/i=5\/i=6\/i=8\/i=11\/i=14\/i=9\/i=12\/i=15\/i=16\/i=17\/i=18:=Z0;obtain rfl|rfl|rfl|rfl|rfl|rfl|rfl|rfl|rfl|rfl|rfl|rfl|rfl|rfl|rfl|rfl|rfl|rfl|rfl:=this<;>cases ho
  iterate 6
   focus
    go_wp2;try simp only[QN]
    exact⟨_,rfl,M.out.pure (by unfold XZ;omega) rfl rfl⟩
  iterate 7
   focus
    first
    |have A:=M.out.eq 0 (by unfold XZ;omega)<|n 0 (by decide)
    |have A:=M.out.eq 2 (by unfold XZ;omega)<|n 2 (by decide)
    |have A:=M.out.eq 4 (by unfold XZ;omega)<|n 4 (by decide)
    |have A:=M.out.eq 5 (by unfold XZ;omega)<|n 5 (by decide)
    |have A:=M.out.eq 7 (by unfold XZ;omega)<|n 7 (by decide)
    |have A:=M.out.eq 10 (by unfold XZ;omega)<|n 10 (by decide)
    |have A:=M.out.eq 13 (by unfold XZ;omega)<|n 13 (by decide)
    simp only[UZ]at A;go_wp2;try simp only[QN]
    exact⟨_,by rw[<-A];rfl,M.out.pure (by unfold XZ;omega) rfl rfl⟩
  iterate 3
   focus
    first
    |(have A:=M.out.eq 8 (by unfold XZ;omega)<|n 8 (by decide);have F:=AM W (l:=h.H) (G:=G) HH.out.H<|f8.out _ M.out.b 0 (by omega))
    |(have A:=M.out.eq 11 (by unfold XZ;omega)<|n 11 (by decide);have F:=AM W (l:=h.ab) (G:=G) HH.out.ab<|f8.out _ M.out.b 1 (by omega))
    |(have A:=M.out.eq 14 (by unfold XZ;omega)<|n 14 (by decide);have F:=AM W (l:=h.E) (G:=G) HH.out.E<|f8.out _ M.out.b 4 (by omega))
    have HF:=Zh2 F;clear F;simp only[UZ]at A;go_wp2_with (go_at_call 46;refine HF.out.mono ?_;rintro e w9 ⟨y,rfl,b7,j1⟩;have b1:=Zh2<|And.intro b7 j1;clear b7 j1)
    try simp only[QN]
    exact⟨_,by rw[<-A];rfl,M.out.call Zgy rfl b1.out.1 b1.out.2⟩
  .have A:=M.out.eq 1 (by unfold XZ;omega)<|n 1 Zgg;have E0:=Zh2 A;simp only[UZ]at A;have e1:=M.out.eq 3 (by unfold XZ;omega)<|n 3 Zgg;have E1:=Zh2 e1;simp only[UZ]at e1;have e2:=M.out.eq 6 (by unfold XZ;omega)<|n 6 Zgg;have E2:=Zh2 e2;simp only[UZ]at e2;obtain⟨a9,c9,f9⟩:=Rd.bz<|M.out.rd 9 Zgy<|n 9 Zgg;rw[show xq (List.map vu<|Uy h 9)=(xq h.H) from Zhv _]at f9;simp only[Nat.reduceAdd]at f9;have F9:=Zh2 f9;obtain⟨b2,b5,a0⟩:=Rd.bz<|M.out.rd 12 Zgy<|n 12 Zgg;rw[show xq (List.map vu<|Uy h 12)=(xq h.ab) from Zhv _]at a0;simp only[Nat.reduceAdd]at a0;have h9:=Zh2 a0;obtain⟨b3,Q2,a1⟩:=Rd.bz<|M.out.rd 15 Zgy<|n 15 Zgg;rw[show xq (List.map vu<|Uy h 15)=(xq h.E) from Zhv _]at a1;simp only[Nat.reduceAdd]at a1;have i0:=Zh2 a1;go_wp2;try simp only[QN]
   refine⟨Xf (Xf (Xf (Xf (Xf (Xf (Xf v 17<|UZ (xz<|xj w) h Q 1) 19<|UZ (xz<|xj w) h Q 3) 22<|UZ (xz<|xj w) h Q 6) 25<|.slice a9 (xq h.H) c9) 28<|.slice b2 (xq h.ab) b5) 31<|.slice b3 (xq h.E) Q2) 32<|.agg #[.int .u64 h.base,.int .i64 h.cap,.int .i64<|1-h.to,.bool xw,.int .i64 0,.slice U 0 0,.slice U 0 0,.slice a9 (xq h.H) c9,.slice b2 (xq h.ab) b5,.slice b3 (xq h.E) Q2],rfl,?_⟩;rw[K0 (v:=v) E0.out,K0 (v:=v) E1.out,K0 (v:=v) E2.out,K0 (v:=v) F9.out,K0 (v:=v) h9.out,K0 (v:=v) i0.out];have hx:((.agg #[.int .u64 h.base,.int .i64 h.cap,.int .i64<|1-h.to,.bool xw,.int .i64 0,.slice U 0 0,.slice U 0 0,.slice a9 (xq h.H) c9,.slice b2 (xq h.ab) b5,.slice b3 (xq h.E) Q2]):Value)=.agg (Ue h λi=>v<|16+i):=by
    unfold Ue;simp only[Nat.reduceAdd];rw[F9.out,h9.out,i0.out]
   rw[hx];exact M.out.built (n 9 Zgg) (n 12 Zgg)<|n 15 Zgg
  .go_wp2;try simp only[QN]
   exact⟨_,rfl,M.out.alloc hi⟩
  .obtain⟨c,e4,d9,j9,O⟩:=M.out.new<|n 17 Zgg;obtain⟨y,g3,hy⟩:=M.out.agg<|n 16 Zgg;have O:=O hi;have y4:∀j,W.cell? ⟨c,j,U⟩=ZL[j]? :=λj=>Zh7 _ _ _ _ _ _ O;unfold ZL at y4;have y5:∀j,W.frozen? ⟨c,j,U⟩=xw:=λj=>Yc O;have H3:=Zh2 O;have j5:=Zh2 g3;obtain⟨a9,c9,f9⟩:=Rd.bz<|hy 9 Zgy;obtain⟨b2,b5,a0⟩:=Rd.bz<|hy 12 Zgy;obtain⟨b3,Q2,a1⟩:=Rd.bz<|hy 15 Zgy;rw[show xq (List.map vu<|Uy h 9)=(xq h.H) from Zhv _]at f9;rw[show xq (List.map vu<|Uy h 12)=(xq h.ab) from Zhv _]at a0;rw[show xq (List.map vu<|Uy h 15)=(xq h.E) from Zhv _]at a1;have K:Ue h y=#[.int .u64 h.base,.int .i64 h.cap,.int .i64<|1-h.to,.bool xw,.int .i64 0,.slice U 0 0,.slice U 0 0,.slice a9 (xq h.H) c9,.slice b2 (xq h.ab) b5,.slice b3 (xq h.E) Q2]:=by
    unfold Ue;rw[f9,a0,a1]
   rw[K]at g3;have d6:=Zh2 K;clear O hy f9 a0 a1 K;go_wp2;try simp only[QN]
   exact⟨_,by rw[<-e4,<-g3],M.out.store e4 j5.out (n 17 Zgg) (n 16 Zgg) hi H3.out (λb B=>UJ B _ _ _ _ _ _ _ _ _ _) ZgL (by rw[d6.out];exact qP H3.out _ _ _ _ _ _ _ _ _ _)<|XW (Zhi _ _) d9 _ _ _ _ _ _ _ _ _ _⟩
 .intro L v W hL C;obtain⟨c,y,e4,d9,i3,hy⟩:=C.put<|hL 18 Zgg;have f7:=Zh2 C.b;have HY:=Zh2<|And.intro i3 hy;have j7:=Zh2 c1;have f5:=Zh2<|And.intro (hL 17 Zgg) e4;clear C i3 hy hL c1;simp only[Tj,QF,ZhA,Zis,ZiX,ZkF,Zj1,ZjV,Zjr];go_wp2;go_step3
  simp only[Exit.then];rename_i j8;refine j8 _ _<|j7.out _ _ ?_;refine⟨c,0,λj=>if j=2 then y 9 else if j=3 then y 12 else if j=4 then y 15 else .slice U 0 0,rfl,rfl,rfl,f5.out.2,rfl,Zik _,?_⟩;have d5:=f7.out.size;have hG:∀b,V4 wa W L v b->xz (xj w)+2<=b/\b<xz (xj W)/\b≠c:=λb B=>⟨by have:=B.1;omega,B.2.1,λe=>B.2.2 f5.out.1 (by rw[e];exact f5.out.2)⟩;refine⟨i1.out.trans<|f7.out.mono Z0,(f7.out.block _ Z0).trans j6.out.2,Z0,HY.out.1,λj n=> ?_⟩;have:j=0\/j=1\/j=2\/j=3\/j=4:=Z0;obtain rfl|rfl|rfl|rfl|rfl:=this;exact .nil _ _ Zgh;exact .nil _ _ Zgh;exact(HY.out.2 9 Zgy).mono hG;exact(HY.out.2 12 Zgy).mono hG;exact(HY.out.2 15 Zgy).mono hG
end Vm
end
section

end
section
namespace Vm
open Go Go.Proofs Go.RowKit
def Z0M(w:Z3)(G:Z4)(g:∀b,G b->b<xz (xj w))(h:Hp)(k:h.ok)(a:Z5)(l:∀j,j<5->Rd w G (.sl<|(Zu h j).map vu) (a j)):
  Calls xP 25 #[ZA h a] w (zm w<|Sg h):=by
 cases d:Yw h with
 |false=>
  rw[show Sg h=(Hp.zero,1)by unfold Sg;rw[Zhc d]];exact Z0J w G g h k a l d
 |true=>
  cases f:h.Y with
  |true=>
   rw[show Sg h=(Hp.zero,10)by unfold Sg;rw[Zh9 (by rw[d];simp),Zhc f]];exact Z0K w G g h k a l d f
  |false=>
   obtain⟨p,r⟩:=JV.1 d;rw[show Sg h=(X1 h,0)by unfold Sg;rw[Zh9 (by rw[d];simp),Zh9 (by rw[f];simp)]];exact Z0L w G g h k a l r f
end Vm
end
section
namespace Vm
open Go Go.Proofs
def p9:Fn:=⟨6,[0,1,2,4,5,12],pQ [pR [(2,pS 0 10),(3,pZ),pV 4<|pI 0],pQ [.ao ⟨[.lt 6 []<|pl (.s 1)<|pI 0,.call 7 [(6,xw)] (.id 17) xw xw [.mm 2 0 10]],[([(6,xw)],.un .not<|.s 7)],[pV 5<|.ite (.s 6) pT<|.un .not<|.s 7]⟩]<|pw (.s 5)<|pQ [.ao ⟨[],[([],pY)],[(3,pZ),pV 4<|pI 1]⟩] .ret,pC [pK 8 21 [.mm 2 0 10,.s 1]] [(3,pM (.sz (.ext (.s 8) 0) 10) 10),pV 4<|.ext (.s 8) 1]] .ret,[(3,(.ag 10)),(4,.v)]⟩
def c9:ZX [.fz,.fz] Try.f9=J p9:=Z2
def MO:Fn:=⟨5,[0,1,2,3,6],pQ [pR [(1,pS 0 10),(2,pZ),pV 3<|pI 0],pQ [pC [pK 5 17 [.mm 1 0 10]] [pV 4<|.un .not<|.s 5]]<|pw (.s 4)<|pQ [.ao ⟨[],[([],pY)],[(2,pZ),pV 3<|pI 1]⟩] .ret,pC [pK 6 21 [.mm 1 0 10,pI 9223372036854775807]] [(2,pM (.sz (.ext (.s 6) 0) 10) 10),pV 3<|.ext (.s 6) 1]] .ret,[(2,(.ag 10)),(3,.v)]⟩
def Ab:ZX [.fz] Try.f11=J MO:=Z2
def N7:Fn:=⟨3,[0,1,2],pQ [pR [(1,pS 0 10),(2,pZ)],pC [pK 3 61 [.m 1 5],pK 4 61 [.m 1 6]] [(1,.m [.m 1 0,.m 1 1,.m 1 2,.m 1 3,.m 1 4,.one<|.s 3,.one<|.s 4,.m 1 7,.m 1 8,.m 1 9])],pC [pK 5 61 [.m 1 7],pK 6 61 [.m 1 8]] [(1,.m [.m 1 0,.m 1 1,.m 1 2,.m 1 3,.m 1 4,.m 1 5,.m 1 6,.one<|.s 5,.one<|.s 6,.m 1 9])],pC [pK 7 61 [.m 1 9]] [(1,.m [.m 1 0,.m 1 1,.m 1 2,.m 1 3,.m 1 4,.m 1 5,.m 1 6,.m 1 7,.m 1 8,.one<|.s 7])]]<|px [(2,pM (.mm 1 0 10) 10)],[(2,(.ag 10))]⟩
def c40:ZX [.fz] Try.f40=J N7:=Z2
end Vm
end
section
namespace Vm
open Go Go.Proofs Go.RowKit
def Ke{l:Z8}(n:I l<=1000000):VC xP 61 xw [.sl<|l.map vu]<|.sl<|l.map vu:=by
 refine⟨Z2,λw G vs h f g=> ?_⟩;have r0:=g 0 _ rfl;have j:vs=#[vs.getD 0 xy]:=by
  have a:vs.size=1:=f;apply Zjs;simp[a];intro i p q;have k:i<1:=Z0
  match i,k with
  |0,_=>simp[Array.getD,a]
 rw[j];refine(Z0D w h n r0).mono ?_;rintro e r ⟨v,rfl,d,o⟩;exact⟨v,rfl,d,o.mono λb d=>.inr d⟩
def Z7u{h:Hp}(a:h.ok):VC xP 40 xw [ZD h]<|ZD h:=by
 refine ZQ EV follows Z2 c40 rfl ?_;have d:=Ke a.H;have f:=Ke a.ab;have g:=Ke a.ah;have j:=Ke a.ak;have k:=Ke a.E;simp[N7,ZD];refine Zz d Z1 ?_;simp;refine Zz f Z1 ?_;simp;refine Zz g Z1 ?_;simp;refine Zz j Z1 ?_;simp;refine Zz k Z1 ?_;simp
def Z7r(w:Z3)(G:Z4)(k:∀b,G b->b<xz (xj w))(h:Hp)(l:h.ok)(a:Z5)(p:∀j,j<5->Rd w G (.sl<|(Zu h j).map vu) (a j)):
  Calls xP 40 #[ZA h a] w λe f=>∃x,e=.returned (ZA h x)/\Below (xz<|xj w) w f/\∀j,j<5->Rd f (λc=>G c\/(xz (xj w)<=c/\c<xz (xj f))) (.sl<|(Zu h j).map vu) (x j):=by
 refine((Z7u l).2 w G #[ZA h a] k rfl λi x d=> ?_).mono ?_
 match i,d with
 |0,d=>cases d;exact Jr p
 rintro e f ⟨v,rfl,g,o⟩;obtain⟨x,rfl,d⟩:=yC o;exact⟨x,rfl,g,λj n=>(d j n).mono λb g=>g.imp (λq=>q.2) id⟩
end Vm
end
section
namespace Vm
open Go Go.Proofs
def TY{h:Hp}(hc:h.Y=xw):∀k,ZM h k=h
 |0=>rfl
 |k+1=>by unfold ZM;rw[hc];simp
def RB(h:Hp):∀k,ZM h (k+1)=if(ZM h k).Y then WG (ZM h k)else ZM h k
 |0=>by unfold ZM;cases a:h.Y<;>simp[ZM,a]
 |k+1=>by
  cases a:h.Y with
  |false=>rw[TY a,TY a,a];simp
  |true=>
   have e:∀j,ZM h (j+1)=ZM (WG h) j:=λj=>by rw[ZM.eq_2,a];simp
   rw[e<|k+1,e k];exact RB (WG h) k
def TX(h:Hp)(a:Nat):∀b,ZM h (a+b)=ZM (ZM h a) b
 |0=>rfl
 |b+1=>by rw[<-Zib,RB,RB,TX h a b]
structure ScansTo (h:Hp) (p:Pts) (k:Nat) (g:Hp) (q:Pts):Prop where
 rt:Rt g q
 len:I h.H<=I g.H
 keep:∀j:Nat,(j:Int)<h.Z->g.H[j]?=h.H[j]?
 ab:g.ab=h.ab
 E:g.E=h.E
 num:g.base=h.base/\g.cap=h.cap/\g.to=h.to
 Z:h.Z<=g.Z/\g.Z<=h.Z+k
 ig:∃r,q.H=p.H++r
 ie:q.ab=p.ab
 ij:g.Y=xk->h.Y=xk/\g.Z=h.Z+k/\(I g.H:Int)+YF q=I h.H+YF p
 pd:(I g.H:Int)<=I h.H+YF p
 whole:g.Y=xw->h.Y=xk->g.Z=I g.H
def Rt.cp{h:Hp}{p:Pts}(r:Rt h p):∀k,∃q,ScansTo h p k (ZM h k) q
 |0=>⟨p,r,Zh3 _,λ_ _=>rfl,rfl,rfl,⟨rfl,rfl,rfl⟩,⟨by show h.Z<=h.Z;omega,by show h.Z<=h.Z+((0:Nat):Int);omega⟩,⟨[],Z1⟩,rfl,λa=>⟨a,by show h.Z=h.Z+((0:Nat):Int);omega,rfl⟩,by show(I h.H:Int)<=_;omega,λa l=>(by rw[show ZM h 0=h from rfl,l]at a;cases a)⟩
 |k+1=>by
  obtain⟨q,s⟩:=r.cp k;rw[RB];generalize ZM h k=g at*;have o:=s.Z.1;have y:=s.Z.2;cases a:g.Y with
  |false=>
   simp only[Zhn,Zi0];exact⟨q,s.rt,s.len,s.keep,s.ab,s.E,s.num,⟨o,Z0⟩,s.ig,s.ie,λh=>(by rw[a]at h;cases h),s.pd,λ_ h=>s.whole a h⟩
  |true=>
   simp only[ZhY];obtain⟨H,D,f⟩:=s.rt.Z a;obtain⟨t,c2,c3⟩:=s.ij a;rw[f.eq];obtain⟨L,z,n⟩:=f.H;obtain⟨F,u⟩:=s.ig;obtain⟨G,w⟩:=f.ig;obtain⟨A,B,C,K⟩:=f.num;refine⟨D,f.rt,by have:=s.len;omega,λj x=>(n j Z0).trans<|s.keep j x,f.ab.trans s.ab,f.E.trans s.E,⟨A.trans s.num.1,B.trans s.num.2.1,C.trans s.num.2.2⟩,⟨Z0,Z0⟩,⟨F++G,by rw[w,u,ZhM]⟩,f.ie.trans s.ie,λd=>⟨t,Z0,by have:=f.room d;omega⟩,by have:=f.pd;omega,λd _=>(f.rt.rest d).1⟩
def Z9H{h:Hp}{p:Pts}(a:h.ok)(r:Rt h p)(hc:h.Y=xk):(WG h).ok:=by
 have t:=r.me;obtain⟨i,o⟩:=Zhf r.fe;have l:i<I h.H:=by have:=r.ij hc;omega
 obtain⟨u,q⟩:∃u,h.H[i]?=J u:=⟨_,ZgY l⟩;have y:=a.H;have n:∀g:Hp,g.ok->(YY g).ok:=λg d=>by
  unfold YY;split;exact⟨d.base,d.cap,d.to,d.Z,d.H,d.ab,Z1,Z1,d.E,d.gg,d.gj,Z1,Z1,d.dm⟩;exact d
 have k:Yq<|h.Z+1:=⟨Z0,Z0⟩;unfold WG;rw[o,Zhh,q,Zhw];rw[o]at k;have f:=yr a<|a.gg u<|Zha q;split;refine n _ ?_;obtain⟨f,x⟩:=f
 exact⟨f.base,f.cap,f.to,k,by simp;exact f.H,f.ab,f.ah,f.ak,f.E,λw t=>by
  obtain j|j:=Ziw t;exact f.gg w j;rw[j];exact x,f.gj,f.kr,f.kg,f.dm⟩
 exact n _ ⟨a.base,a.cap,a.to,k,a.H,a.ab,a.ah,a.ak,a.E,a.gg,a.gj,a.kr,a.kg,a.dm⟩
def SK{h:Hp}{p:Pts}(a:h.ok)(r:Rt h p):∀k,(ZM h k).ok
 |0=>a
 |k+1=>by
  obtain⟨q,s⟩:=r.cp k;have:=SK a r k;rw[RB];generalize ZM h k=g at*;cases d:g.Y with
  |false=>simpa using this
  |true=>simpa using Z9H this s.rt d
end Vm
end
section
namespace Vm
open Go Go.Proofs Go.RowKit Go.Shelf
section
attribute [local go_sem] Oper.semAt_some
def Zbk{n P c Q a w}(h:c.wpIn Fence.wide n P (Exit.noGoto Q) a w):(Code.scope c).wpIn Fence.wide n P Q a w:=
 wpIn_wide.2 (wp_scope_straight<|wpIn_wide.1 h)
def Z8C{W W'}{B:Z4}{b r}{l:Z8}{y}(h:Rd W (λc=>B c/\c<xz (xj W)/\c≠b) (.sl<|l.map vu) y)(d:W.grownBy W'<|J r)(f:¬B r):
  Rd W' (λc=>B c/\c<xz (xj W')/\c≠b) (.sl<|l.map vu) y:=
 (h.keep (λc a=>d.block c a.2.1 λe=>Zg0) λc a=>a).mono λc a=>⟨a.1,Zh8 a.2.1 d.size,a.2.2⟩
theorem NowI.kept{B W W' b r g x}(S:NowI B W b g x)(a:W.grownBy W'<|J r)(d:¬B r):NowI B W' b g x:=
 ⟨S.le,(a.block b (Y9 S.nb) λe=>by cases e;exact d S.le).trans S.nb,λj f=>Z8C (S.rd j f) a d⟩
def Kc:Array Value:=#[.int .u64 0,.int .i64 0,.int .i64 0,.bool xw,.int .i64 0,.slice U 0 0,.slice U 0 0,.slice U 0 0,.slice U 0 0,.slice U 0 0]
structure ScI (B:Nat->Prop) (w:World) (b:Nat) (h:Hp) (k done:Nat) (W:World):Prop where
 br:∃x,NowI B W b (ZM h done) x
 le:done<=k
 kb:W.heap[xz (xj w)+1]?=J (.cells #[.int .i64<|(k:Int) - (done:Nat)] 3 (0,0))
 r0:W.heap[xz (xj w)+2]?=J (.cells Kc 30 (0,0))
 r1:W.heap[xz (xj w)+3]?=J (.cells #[.int .i64 0] 34 (0,0))
 fn:W.heap[b+1]?=J (.cells #[.func (.func 41) #[] #[.pointer<|J ⟨b,0,U⟩]] 88 (0,0))
 gr:w.grownBy W U
def ScI.dy{B w b h k done W W' row}(S:ScI B w b h k done W)(a:W.grownBy W' row)(j:∀r,row=J r->xz (xj w)<=r/\∃o,W.heap[r]?=J o/\o.isCells=xw):ScI B w b h k done W':=by
 let⟨x,n⟩:=S.br
 have q:∀c (o:Obj),W.heap[c]?=J o->o.isCells=xk->W'.heap[c]?=J o:=λc o d l=>(a.block c ZfZ λe=>by
  let⟨_,p,f,g⟩:=j c e.symm;rw[d]at f;cases f;rw[l]at g;cases g).trans d
 exact⟨⟨x,n.dy a λr e=>(j r e).2⟩,S.le,q _ _ S.kb rfl,q _ _ S.r0 rfl,q _ _ S.r1 rfl,q _ _ S.fn rfl,T8 S.gr a λr e=>Zg0⟩
def Z5E(W:Z3)(b:Nat):Calls xP 43 #[.pointer<|J ⟨b,0,U⟩] W λe d=>e=.returned (.func (.func 67) #[] #[.pointer<|J ⟨xz<|xj W,0,U⟩])/\d=W.alloc (.cells #[.pointer<|J ⟨b,0,U⟩] 92):=by
 have a:∀(fn:Go.Fn) (first cap:Zb) (w:Z3),(Instr.makeFunc fn first cap).run xP w=.ok (.func fn first cap) w:=λ_ _ _ _=>rfl;go_enter EW,Try.ntmps43;go_wp2;exact ZhE (v:=.func (.func 67) #[] #[.pointer<|J ⟨xz<|xj W,0,U⟩]) (by simp[results,Try.results43,go_sem]) rfl ⟨rfl,rfl⟩
def Z3V(w:Z3)d a f g:∃W,(((w.alloc d).alloc a).alloc f).alloc g=W/\xz (xj W)=xz (xj w)+4/\w.grownBy W U/\W.heap[xz (xj w)+1]?=J a/\W.heap[xz (xj w)+2]?=J f/\W.heap[xz (xj w)+3]?=J g:=by
 refine⟨_,rfl,Z1,⟨rfl,rfl,rfl,Zg1,λk h _=> ?_⟩,?_,?_,?_⟩;rw[Zh4 _ _ _ Zg1,Zh4 _ _ _ Zg1,Zh4 _ _ _ Zg1,Zh4 _ _ _ h];rw[Zh4 _ _ _ Z1,Zh4 _ _ _ Z1];have:=Zia (w.alloc d) a;rwa[Zj3]at this;rw[Zh4 _ _ _ Z1];have:=Zia ((w.alloc d).alloc a) f;simpa using this;have:=Zia (((w.alloc d).alloc a).alloc f) g;simpa using this
def Z9L{w w0 w1:Z3}{G:Z4}(u:∀b,G b->b<xz (xj w)){h:Hp}(A:h.ok){p:Pts}(r:Rt h p){k:Nat}{d:Z5}(H:xz (xj w0)=xz (xj w)+4)(n:w.grownBy w0 U)
  (k1:w0.heap[xz (xj w)+1]?=J (.cells #[.int .i64 k] 3 (0,0))) (K:w0.heap[xz (xj w)+2]?=J (.cells Kc 30 (0,0))) (L:w0.heap[xz (xj w)+3]?=J (.cells #[.int .i64 0] 34 (0,0)))
  (l:Below (xz<|xj w0) w0 w1) (hx:∀j,j<5->Rd w1 (λc=>G c\/(xz (xj w0)<=c/\c<xz (xj w1))) (.sl<|(Zu h j).map vu) (d j)):
  ∃w3,((w1.alloc<|.cells (Yn h d) 30).alloc<|.cells #[.func (.func 41) #[] #[.pointer<|J ⟨xz<|xj w1,0,U⟩]] 88).alloc (.cells #[.pointer<|J ⟨xz<|xj w1,0,U⟩] 92)=w3/\
   xz (xj w3)=xz (xj w1)+3/\xz (xj w0)<=xz (xj w1)/\ScI (λc=>G c\/xz (xj w)+4<=c) w (xz<|xj w1) h k 0 w3/\KnI (λc=>G c\/xz (xj w)+4<=c) (xz<|xj w1) (xz (xj w1)+2) p w3:=by
 refine⟨_,rfl,Z1,l.size,?_⟩;have g:∀c,c<xz (xj w1)->(((w1.alloc<|.cells (Yn h d) 30).alloc<|.cells #[.func (.func 41) #[] #[.pointer<|J ⟨xz<|xj w1,0,U⟩]] 88).alloc<|.cells #[.pointer<|J ⟨xz<|xj w1,0,U⟩] 92).heap[c]?=w1.heap[c]? :=λc a=>by
  rw[Zh4 _ _ _ Zg1,Zh4 _ _ _ Zg1,Zh4 _ _ _ a]
 have F:xz (xj<|((w1.alloc<|.cells (Yn h d) 30).alloc<|.cells #[.func (.func 41) #[] #[.pointer<|J ⟨xz<|xj w1,0,U⟩]] 88).alloc<|.cells #[.pointer<|J ⟨xz<|xj w1,0,U⟩] 92)=xz (xj w1)+3:=Z1;have x:(((w1.alloc<|.cells (Yn h d) 30).alloc<|.cells #[.func (.func 41) #[] #[.pointer<|J ⟨xz<|xj w1,0,U⟩]] 88).alloc<|.cells #[.pointer<|J ⟨xz<|xj w1,0,U⟩] 92).heap[xz<|xj w1]?=J (.cells (Yn h d) 30 (0,0)):=by
  rw[Zh4 _ _ _ Zg1,Zh4 _ _ _ Z1];exact Zia _ _
 have y:(((w1.alloc<|.cells (Yn h d) 30).alloc<|.cells #[.func (.func 41) #[] #[.pointer<|J ⟨xz<|xj w1,0,U⟩]] 88).alloc<|.cells #[.pointer<|J ⟨xz<|xj w1,0,U⟩] 92).heap[xz (xj w1)+1]?=J (.cells #[.func (.func 41) #[] #[.pointer<|J ⟨xz<|xj w1,0,U⟩]] 88 (0,0)):=by
  rw[Zh4 _ _ _ Z1];have:=Zia (w1.alloc<|.cells (Yn h d) 30)<|.cells #[.func (.func 41) #[] #[.pointer<|J ⟨xz<|xj w1,0,U⟩]] 88;rwa[Zj3]at this
 have z:(((w1.alloc<|.cells (Yn h d) 30).alloc<|.cells #[.func (.func 41) #[] #[.pointer<|J ⟨xz<|xj w1,0,U⟩]] 88).alloc<|.cells #[.pointer<|J ⟨xz<|xj w1,0,U⟩] 92).heap[xz (xj w1)+2]?=J (.cells #[.pointer<|J ⟨xz<|xj w1,0,U⟩] 92 (0,0)):=by
  have:=Zia ((w1.alloc<|.cells (Yn h d) 30).alloc<|.cells #[.func (.func 41) #[] #[.pointer<|J ⟨xz<|xj w1,0,U⟩]] 88)<|.cells #[.pointer<|J ⟨xz<|xj w1,0,U⟩] 92;simpa using this
 have D:=l.size;have t:w1.grownBy (((w1.alloc<|.cells (Yn h d) 30).alloc<|.cells #[.func (.func 41) #[] #[.pointer<|J ⟨xz<|xj w1,0,U⟩]] 88).alloc<|.cells #[.pointer<|J ⟨xz<|xj w1,0,U⟩] 92) U:=⟨rfl,rfl,rfl,Z0,λc a _=>g c a⟩;generalize ((w1.alloc<|.cells (Yn h d) 30).alloc<|.cells #[.func (.func 41) #[] #[.pointer<|J ⟨xz<|xj w1,0,U⟩]] 88).alloc (.cells #[.pointer<|J ⟨xz<|xj w1,0,U⟩] 92)=w3 at*;have f:NowI (λc=>G c\/xz (xj w)+4<=c) w3 (xz<|xj w1) h d:=by
  refine⟨.inr Z0,x,λj B=>((hx j B).keep (λc a=>g c ?_) λc a=>a).mono λc a=> ?_⟩;obtain a|a:=a;have:=u c a;omega;exact a.2;obtain a|a:=a;have:=u c a;exact⟨.inl a,Z0,Z0⟩;exact⟨.inr Z0,Z0,Z0⟩
 have q:∀c o,w0.heap[c]?=J o->w3.heap[c]?=J o:=λc o a=>by
  have C:=Y9 a;rw[g c Z0,l.block c C];exact a
 exact⟨⟨⟨d,f⟩,Zik _,by rw[q _ _ k1];simp,q _ _ K,q _ _ L,y,Si n<|Si (T7 l U) t⟩,z,h,d,f,A,r⟩
def ScI.step{B w b h p q k done W W'}(z:h.ok)(r:Rt h p)(S:ScI B w b h k done W)(A:Rt (ZM h done) q)(hc:(ZM h done).Y=xk)(G:¬B (xz (xj w)+1))(Q:xz (xj w)+4<=b)(R:done<k)(a:W.grownBy W'<|J b)(H:∃x,NowI B W' b (WG<|ZM h done) x):
  ScI B w b h k (done+1) (W'.setCell ⟨xz (xj w)+1,0,U⟩<|.int .i64<|k-done-1)/\KpN B b (xz (xj w)+1) W (W'.setCell ⟨xz (xj w)+1,0,U⟩<|.int .i64<|k-done-1)/\
   W.grownBy W' (J b)/\W'.grownBy (W'.setCell ⟨xz (xj w)+1,0,U⟩<|.int .i64<|k-done-1) (J<|xz (xj w)+1):=by
 have d:=Zjm W' (xz (xj w)+1)<|.int .i64<|k-done-1;let⟨x,K⟩:=H;have u:=K.kept d G;have C:ZM h (done+1)=WG (ZM h done):=by rw[RB,hc];simp
 have l:∀c o,W.heap[c]?=J o->c≠b->c≠xz (xj w)+1->(W'.setCell ⟨xz (xj w)+1,0,U⟩<|.int .i64<|k-done-1).heap[c]?=J o:=λc o D P F=>
  (Zhj _ _ _ _ F).trans ((a.block c ZfZ Zg0).trans D)
 have j:=(a.block _ (Y9 S.kb) ZfZ).trans S.kb;refine⟨⟨ZfZ,Z0,?_,l _ _ S.r0 Z0 Z0,l _ _ S.r1 Z0 Z0,l _ _ S.fn Z0 Z0,?_⟩,⟨Zhu a.size d.size,Zg0,λT n=> ?_⟩,a,d⟩
 .have:k- ((done+1:Nat):Int)=k-done-1:=Z0;rw[this];simp[World.setCell,ZhB,j]
 exact T8 (T8 S.gr a λr e=>.inr (by cases e;omega)) d λr e=>.inr (by cases e;omega)
 .let⟨y,L⟩:=S.br;have g:InBox B b q W:=⟨_,y,L,SK z r done,A⟩;let⟨O,M,f⟩:=A.Z hc;let⟨N,t⟩:=f.ig;refine⟨M,N,⟨_,x,u,?_,?_⟩,?_⟩
  .have:=SK z r<|done+1;rwa[C]at this
  rw[f.eq];exact f.rt;rw[t,g.H n]
def jS(w:Z3)(G:Z4)(g:Hp)(e:Ending)(w':Z3):Prop:=∃x,e=.returned (.tuple #[ZA g x,.int .i64 0])/\Below (xz<|xj w) w w'/\∀j,j<5->Rd w' (λc=>G c\/(xz (xj w)<=c/\c<xz (xj w'))) (.sl<|(Zu g j).map vu) (x j)
def Z9J{B G:Z4}{w:Z3}{b:Nat}{h g:Hp}{k done:Nat}{W W8:Z3}{y:Z5}{D:Nat}(S:ScI B w b h k done W)(O:ZM h done=g)(M:done=k\/(ZM h done).Y=xw)(hn:NowI B W b g y)(hB:B=λc=>G c\/xz (xj w)+4<=c)(hG:∀c,G c->c<xz (xj w))
  (hD:xz (xj w)+4<=D) (A:W.heap[D]?=J (.deferred<|J [])) (X:Below (xz<|xj w) W W8) (Y:xz (xj W8)=xz (xj W)) (F:∀c,c≠xz (xj w)+1+1->W8.heap[c]?=W.heap[c]?) (h8:W8.heap[xz (xj w)+1+1]?=J (.cells (Yn g y) 30 (0,0))):
  (W8.setCell ⟨xz (xj w)+1+1+1,0,U⟩<|.int .i64 0).heap[D]?=J (.deferred<|J [])/\(∀j,((W8.setCell ⟨xz (xj w)+1+1+1,0,U⟩<|.int .i64 0).putObj D<|.deferred U).cell? ⟨xz (xj w)+1+1,j,U⟩=(Yn g y)[j]?)/\((W8.setCell ⟨xz (xj w)+1+1+1,0,U⟩<|.int .i64 0).putObj D<|.deferred U).cell? ⟨xz (xj w)+1+1+1,0,U⟩=J (.int .i64 0)/\
   jS w G (ZM h k) (.returned<|.tuple #[ZA g y,.int .i64 0]) ((W8.setCell ⟨xz (xj w)+1+1+1,0,U⟩<|.int .i64 0).putObj D<|.deferred U):=by
 have p:=Zjm W8 (xz (xj w)+1+1+1)<|.int .i64 0;have C:=S.r1;have e1:(W8.setCell ⟨xz (xj w)+1+1+1,0,U⟩<|.int .i64 0).heap[xz (xj w)+1+1+1]?=J (.cells #[.int .i64 0] 34 (0,0)):=
  Boxed.set _ (show Boxed W8 (xz (xj w)+1+1+1) 34 (.int .i64 0)from(F _ Z0).trans C)
 have e0:(W8.setCell ⟨xz (xj w)+1+1+1,0,U⟩<|.int .i64 0).heap[xz (xj w)+1+1]?=J (.cells (Yn g y) 30 (0,0)):=(Zhj _ _ _ _ (by show xz (xj w)+1+1≠xz (xj w)+1+1+1;omega)).trans h8;have x:∀c,c≠xz (xj w)+1+1->c≠xz (xj w)+1+1+1->(W8.setCell ⟨xz (xj w)+1+1+1,0,U⟩<|.int .i64 0).heap[c]?=W.heap[c]? :=λc z T=>(Zhj _ _ _ _ T).trans<|F c z;have a3:xz (xj<|W8.setCell ⟨xz (xj w)+1+1+1,0,U⟩<|.int .i64 0)=xz (xj W):=by rw[<-Y];simp[World.setCell]
 have R:Below (xz<|xj w) W<|W8.setCell ⟨xz (xj w)+1+1+1,0,U⟩<|.int .i64 0:=X.trans ⟨p.os,p.tape,p.output,p.size,λc f=>p.block c (by have:=Y9 C;omega) (λe=>by cases e;omega)⟩;generalize W8.setCell ⟨xz (xj w)+1+1+1,0,U⟩ (.int .i64 0)=t at*;have Z:t.heap[D]?=J (.deferred<|J []):=(x D Z0 Z0).trans A;have a4:=S.gr.size;have a2:=Y9 C;have f0:(t.putObj D<|.deferred U).heap[xz (xj w)+1+1]?=J (.cells (Yn g y) 30 (0,0)):=(ZhF Z0).trans e0;have f1:(t.putObj D<|.deferred U).heap[xz (xj w)+1+1+1]?=J (.cells #[.int .i64 0] 34 (0,0)):=(ZhF Z0).trans e1;have N:=ZjQ t D<|.deferred U;have heq:ZM h k=g:=by
  obtain e|e:=M;rw[<-e,O]
  .obtain⟨d,hd⟩:∃d,k=done+d:=⟨k-done,by have:=S.le;omega⟩;rw[hd,TX,TY e,O]
 have P:∀c,c≠xz (xj w)+1+1->c≠xz (xj w)+1+1+1->c≠D->(t.putObj D<|.deferred U).heap[c]?=W.heap[c]? :=λc z T h3=>(ZhF Z0).trans<|x c z T;refine⟨Z,λj=>Zh7 _ _ j _ _ _ f0,by rw[Zh7 _ _ _ _ _ _ f1];rfl,y,by rw[heq],⟨?_,?_,?_,?_,λc f=> ?_⟩,λj hj=> ?_⟩;rw[N.os,R.os];exact S.gr.os;rw[N.tape,R.tape];exact S.gr.tape;rw[N.output,R.output];exact S.gr.output;have:=N.size;omega;rw[P c Z0 Z0 Z0];exact S.gr.block c f Z1;rw[heq];have z:=hn.rd j hj;have hW:xz (xj W)<=xz (xj<|t.putObj D<|.deferred U):=by have:=N.size;omega
 generalize hL:(Zu g j).map vu=L at z⊢;generalize y j=yj at z⊢;cases z with
 |nil a cap f=>exact .nil a cap f
 |sl _ d o cap Q vs q1 q2 q3 q4 q5 q6=>
  have r:G d\/xz (xj w)+4<=d:=by have:=q3.1;rw[hB]at this;exact this
  have H:G d->d<xz (xj w):=hG d;have l:∀i c,(flat L)[i]?=J c->Rd (t.putObj D<|.deferred U) (λc=>G c\/(xz (xj w)<=c/\c< xz (xj<|t.putObj D<|.deferred U))) c (vs i):=λi c f=>by
   have h7:=q6 i c f;rw[<-hL,yk,Zhq]at f;cases hu:(Zu g j)[i]? with
   |none=>rw[hu]at f;cases f
   |some u=>
    rw[hu]at f;cases f;rw[Sy h7];exact .int _ _
  by_cases K:d=D;subst K;have a0:I L*Q=0:=by
   cases a1:I L*Q with
   |zero=>rfl
   |succ n=>
    have:=q5 0 Z0;unfold World.cell? at this;rw[A]at this;cases this
  refine .sl _ d o cap Q vs q1 q2 ?_ q4 (λi hi=>Z0) l;obtain q|q:=r;exact .inl q;exact .inr ⟨Z0,by have:=Y9 A;omega⟩;refine .sl _ d o cap Q vs q1 q2 ?_ q4 (λi hi=> ?_) l;obtain q|q:=r;exact .inl q;exact .inr ⟨Z0,by have:=q3.2.1;omega⟩;rw[<-q5 i hi];refine ZhS (a:=⟨d,o+i,U⟩)<|P d ?_ ?_ K;obtain q|q:=r;have:=H q;omega;omega;obtain q|q:=r;have:=H q;omega;omega
def P3{B G w b h g k done W y D}(S:ScI B w b h k done W)(f:ZM h done=g)(a:done=k\/(ZM h done).Y=xw)(q:NowI B W b g y)(l:B=λc=>G c\/xz (xj w)+4<=c)(o:∀c,G c->c<xz (xj w))
  (n:xz (xj w)+4<=D) (d:W.heap[D]?=J (.deferred<|J [])):
  ((QU W (xz (xj w)+1+1) g y).setCell ⟨xz (xj w)+1+1+1,0,U⟩<|.int .i64 0).heap[D]?=J (.deferred<|J [])/\(∀j,(((QU W (xz (xj w)+1+1) g y).setCell ⟨xz (xj w)+1+1+1,0,U⟩<|.int .i64 0).putObj D<|.deferred U).cell? ⟨xz (xj w)+1+1,j,U⟩=(Yn g y)[j]?)/\(((QU W (xz (xj w)+1+1) g y).setCell ⟨xz (xj w)+1+1+1,0,U⟩<|.int .i64 0).putObj D<|.deferred U).cell? ⟨xz (xj w)+1+1+1,0,U⟩=J (.int .i64 0)/\
    jS w G (ZM h k) (.returned<|.tuple #[ZA g y,.int .i64 0]) (((QU W (xz (xj w)+1+1) g y).setCell ⟨xz (xj w)+1+1+1,0,U⟩<|.int .i64 0).putObj D<|.deferred U):=Z9J (W8:=QU W _ g y) S f a q l o n d (XW (Zhi (xz<|xj w) W) Z0 _ _ _ _ _ _ _ _ _ _) Z1 (λc p=>UJ p _ _ _ _ _ _ _ _ _ _)<|qP S.r0 _ _ _ _ _ _ _ _ _ _
def Z9M(w:Z3)(G:Z4)(hG:∀b,G b->b<xz (xj w))(h:Hp)(hh:h.ok)(a:Z5)(hs:∀j,j<5->Rd w G (.sl<|(Zu h j).map vu) (a j)){p:Pts}(r:Rt h p){k:Nat}(hk:(k:Int)<9223372036854775808):
  Calls xP 21 #[ZA h a,.int .i64 k] w (jS w G<|ZM h k):=by
 refine(Zj7 (n:=5)).1 ?_;have i8:∀(fn:Go.Fn) (first cap:Zb) (w:Z3),(Instr.makeFunc fn first cap).run xP w=.ok (.func fn first cap) w:=λ_ _ _ _=>rfl;refine callsIn_of_wp_marks Z1j rfl trivial ?_ rfl;simp only[Try.ntmps21,Zit,Zie,Zif,Nat.reduceAdd,Nat.reduceSub,ZiN,ZiO,Zjh,ZiV,ZhU,Zid];have HO:=λW (hb:Below (xz<|xj w) w W)=>Z7r W G (λb q=>Zh8 (hG b q) hb.size) h hh a λj hj=>(hs j hj).keep (λb g7=>hb.block b<|hG b g7) λ_ q=>q;have b3:=Zh2 HO;clear HO;unfold ZA;gi_wp2
 refine Zbk ?_;gi_wp2
 refine⟨trivial,(Zj7.2<|b3.out _<|((((Zhi _ _).alloc (Zh3 _) _).alloc Z1 _).alloc Zg1 _).alloc Zg1 _).mono ?_⟩;rintro e w1 ⟨x1,rfl,b9,F⟩;obtain⟨a0,c0,e0⟩:=Rd.bz<|F 0 Z0;obtain⟨a1,c1,e1⟩:=Rd.bz<|F 1 Z0;obtain⟨a2,c2,e2⟩:=Rd.bz<|F 2 Z0;obtain⟨a3,c3,e3⟩:=Rd.bz<|F 3 Z0;obtain⟨a4,c4,e4⟩:=Rd.bz<|F 4 Z0;have b1:=Zh2<|And.intro b9 F;clear b9 F;unfold ZA;gi_wp2
 refine wpIn_label ?_;gi_wp2
 refine⟨trivial,(Zj7.2<|Z5E _ _).mono ?_⟩;rintro e w3 ⟨rfl,e7⟩;obtain⟨w0,a9,h8,g9,k1,R,T⟩:=Z3V w (.cells #[.int .u64 h.base,.int .i64 h.cap,.int .i64 h.to,.bool h.Y,.int .i64 h.Z,a 0,a 1,a 2,a 3,a 4] 30) (.cells #[.int .i64 k] 3) (.cells Kc 30)<|.cells #[.int .i64 0] 34;have hC:Yn h x1=#[.int .u64 h.base,.int .i64 h.cap,.int .i64 h.to,.bool h.Y,.int .i64 h.Z,.slice a0 (I<|Zu h 0) c0,.slice a1 (I<|Zu h 1) c1,.slice a2 (I<|Zu h 2) c2,.slice a3 (I<|Zu h 3) c3,.slice a4 (I<|Zu h 4) c4]:=by
  simp only[Yn,e0,e1,e2,e3,e4,Zhv]
 have N:=b1.out;unfold Kc at a9;rw[a9]at N;obtain⟨j1,L,h9,i9,b8,b7⟩:=Z9L hG hh r h8 g9 k1 R T N.1 N.2;rw[hC]at L;rw[L]at e7;subst e7;clear b1 N L hC e0 e1 e2 e3 e4 a9 k1 R T b3;simp only[Zj3];gi_wp2
 have g8:xz (xj w)+4<=xz (xj w1):=Z0;have b5:¬(G (xz (xj w)+1)\/xz (xj w)+4<=xz (xj w)+1):=λh=>by
  obtain h|h:=h;have:=hG _ h;omega;omega
 generalize i6:xz (xj w1)=b at*;obtain⟨B,hB⟩:∃B:Z4,B=λc=>G c\/xz (xj w)+4<=c:=⟨_,rfl⟩;rw[<-hB]at b8 b7;have b6:¬B (xz (xj w)+1):=by rw[hB];exact b5
 have g5:∀c,xz (xj w)+4<=c->B c:=λc hc=>by rw[hB];exact .inr hc
 have b2:=Zh2 hB;clear hB b5;have e5:=Z5D 4 (B:=B) (b:=b) (bk:=b+2) (kb:=xz (xj w)+1) b7 Z0 Z0 Z0 Z0
 refine Zbj rfl Z0 (gf:=67) (lb:=#[.pointer<|J ⟨b+2,0,U⟩]) ?hg trivial (enters_of F7 Z2 rfl)
  e5 KpN.trans (λW l o o' _ h2 h3 _=>KpN.put o' h2 h3) (Zhi _ _) (λ_=>rfl)
  (λpre W=>∃done,ScI B w b h k done W/\(I pre:Int)<=(ZM h done).Z)
  (λc pre W=>c=.exit 0/\∃done,ScI B w b h k done W/\(done=k\/(ZM h done).Y=xw))
  ?hI (λ_ _ _=>trivial) ?hIx ?hPx ?hS ⟨0,b8,by have:=r.fe;show((0:Nat):Int)<=h.Z;omega⟩
  (fun x=> {tmps:=#[.agg #[.int .u64 h.base,.int .i64 h.cap,.int .i64 h.to,.bool h.Y,.int .i64 h.Z,a 0,a 1,a 2,a 3,a 4],.int .i64 k,.pointer<|J ⟨xz<|xj w,0,U⟩,.pointer<|J ⟨xz (xj w)+1,0,U⟩,.pointer<|J ⟨xz (xj w)+1+1,0,U⟩,.pointer<|J ⟨xz (xj w)+1+1+1,0,U⟩,.pointer<|J ⟨b,0,U⟩,.pointer<|J ⟨b+1,0,U⟩,.int .i64 (x.1:Nat),.bool x.2,xy,
    .agg #[.int .u64 h.base,.int .i64 h.cap,.int .i64 h.to,.bool h.Y,.int .i64 h.Z,a 0,a 1,a 2,a 3,a 4],.agg #[.int .u64 h.base,.int .i64 h.cap,.int .i64 h.to,.bool h.Y,.int .i64 h.Z,.slice a0 (I<|Zu h 0) c0,.slice a1 (I<|Zu h 1) c1,.slice a2 (I<|Zu h 2) c2,.slice a3 (I<|Zu h 3) c3,.slice a4 (I<|Zu h 4) c4],
    .func (.func 41) #[] #[.pointer<|J ⟨b,0,U⟩],.func (.func 67) #[] #[.pointer<|J ⟨b+2,0,U⟩],.int .i64 (x.1:Nat),.bool x.2,xy,xy,xy,xy,xy,xy,xy,xy,xy,xy,xy,xy,xy,xy,xy,xy,xy,xy,xy,xy,xy,xy,xy],defers:=[]})
  ?assign ?body ?done ?stop
 case hg=>rfl
 case hI=>
  rintro pre X Y row ⟨done,S,hl⟩ hg Q;exact⟨done,S.dy hg λr e=>⟨by have:=(Q r e).1;omega,(Q r e).2⟩,hl⟩
 case hIx=>
  rintro c pre X Y row ⟨hc,done,S,hl⟩ hg Q;exact⟨hc,done,S.dy hg λr e=>⟨by have:=(Q r e).1;omega,(Q r e).2⟩,hl⟩
 case hPx=>
  rintro pre x _ X Y row ⟨p',h5,hx⟩ hg Q;exact⟨p',h5.dy hg λr e=>(Q r e).2,hx⟩
 case hS=>
  rintro xs X Y row ⟨g,x,hx,hl⟩ hg Q;exact⟨g,x,hx.dy hg λr e=>(Q r e).2,hl⟩
 case assign=>
  rintro l x W K2 g6;simp only[List.zip_cons_cons,Array.zip,Bq];gi_wp2
  exact g6
 case body=>
  rintro l pre x W ⟨done,S,a7⟩ ⟨p',P,hx⟩ i4;obtain⟨q,sc⟩:=r.cp done;have b4:=SK hh r done;obtain⟨y,t⟩:=S.br;have rq:Rt (ZM h done) p'/\x=(I pre,WP p'.H<|I pre):=by
   obtain⟨g',x',h1,h2,h3⟩:=P;have:=t.iu h1;subst this;exact⟨h3,hx⟩
  obtain⟨rg,h7⟩:=rq;subst h7;obtain⟨g,H⟩:∃g,ZM h done=g:=⟨_,rfl⟩;have d:=t.nb;have z:=Z10 W B b (λc hc=>g5 c (by have:=Y9 d;omega)) _ y t b4 rg;rw[H]at a7 b4 rg d z;unfold Yn at d;have yb:∀j,W.cell? ⟨b,j,U⟩=(#[.int .u64 g.base,.int .i64 g.cap,.int .i64 g.to,.bool g.Y,.int .i64 g.Z,y 0,y 1,y 2,y 3,y 4]:Array Value)[j]? :=λj=>Zh7 _ _ _ _ _ _ d;have i1:=Zh7 _ _ 0 _ _ _ S.kb;have i0:=Zh7 _ _ 0 _ _ _ S.fn;simp only[Ziz,Zjl]at i1 i0;have i5:W.frozen? ⟨xz (xj w)+1,0,U⟩=xw:=Yc S.kb;by_cases A:done=k\/g.Y=xw
  .have HE:=Zh2<|And.intro S<|And.intro A H;have h4:((k:Int) - (done:Nat)==0)=xk\/(((k:Int) - (done:Nat)==0)=xw/\g.Y=xw):=by
    obtain e|e:=A;exact .inl Zg1
    .by_cases e2:done=k;exact .inl Zg1;exact .inr ⟨Zg1,e⟩
   clear t S d A H P z;obtain hq|⟨hq,i7⟩:=h4
   .gi_wp2
    exact⟨Zl9 _ _,rfl,done,HE.out.1,by rw[HE.out.2.2];exact HE.out.2.1⟩
   .gi_wp2
    exact⟨Zl9 _ _,rfl,done,HE.out.1,by rw[HE.out.2.2];exact HE.out.2.1⟩
  .have hd:done<k:=by have:=S.le;omega
   have O:g.Y=xk:=by cases d5:g.Y<;>simp_all
   have hq:((k:Int) - (done:Nat)==0)=xw:=Zg1;have h6:=rg.du;have HH:=Zh2<|And.intro S<|And.intro t<|And.intro H<|And.intro rg hd;have e9:=Zh2<|z O;have Z:=t.rd 0 Z0;by_cases d6:I pre<g.Z
   .have d7:((I pre:Int)<g.Z)=True:=ZjA d6;clear t S d A H P z rg Z;gi_wp2
    exact⟨Zl9 _ _,⟨Zh3 _,λ_ _ h _ _ _=>h,λp hp=>⟨p,[],hp,Z1⟩⟩,done,HH.out.1,by rw[HH.out.2.2.1];simp;omega⟩
   .have d7:((I pre:Int)<g.Z)=False:=ZjE d6;have d9:(I pre:Int)=g.Z:=Z0;clear t S d A H P z rg Z;gi_wp2
    refine⟨trivial,(CallsIn.inRound l<|Zj7.2 e9.out).mono ?_⟩;rintro e W2 ⟨rfl,a6,a8⟩;have j0:=Zy ((k:Int) - (done:Nat) -1) Z0 Z0;obtain⟨s1,s2,s3,s4,s5⟩:=HH.out;rw[<-s3]at a8;have e6:=s1.step hh r (by rw[s3];exact s4) (by rw[s3];exact O) b6 g8 s5 a6 a8;have K:W2.heap[xz (xj w)+1]?=J (.cells #[.int .i64<|(k:Int) - (done:Nat)] 3 (0,0)):=(a6.block _ (Y9 s1.kb) (λe=>by cases e;omega)).trans s1.kb;have e8:=Zh7 _ _ 0 _ _ _ K;simp only[Ziz,Zjl]at e8;have i3:W2.frozen? ⟨xz (xj w)+1,0,U⟩=xw:=Yc K;have f6:=Zh2 e6;have f5:=Zh2 d9;clear s1 s2 s3 s4 s5 a6 a8 e6 K d9;gi_wp2
    obtain⟨t1,t2,t3,t4⟩:=f6.out;obtain⟨s1,s2,s3,s4,s5⟩:=HH.out;have h9:=s1.gr.size;refine⟨(KeepsFrom.of_grownBy t3 λj e=>by cases e;omega).trans (KeepsFrom.of_grownBy t4 λj e=>by cases e;omega),t2,done+1,t1,?_⟩;obtain⟨g',q',f⟩:=s4.Z O;rw[RB,s3,O];simp only[ZhY];rw[f.eq,f.num.2.2.2];have:=f5.out;simp;omega
 case done=>
  rintro D xs W hD ⟨g0,x0,d8,h0⟩ ⟨done,S,a7⟩ a5;have u:done=k\/(ZM h done).Y=xw:=by
   obtain⟨q,sc⟩:=r.cp done;obtain⟨y,t⟩:=S.br;have:=t.iu d8;subst this;cases d5:(ZM h done).Y with
   |false=>exact .inr rfl
   |true=>have:=sc.rt.ij d5;omega
  obtain⟨y,t⟩:=S.br;have HF:=Zh2<|And.intro S<|And.intro u t;have d:=t.nb;obtain⟨d0,f0,C⟩:=Rd.bz<|t.rd 0 Z0;obtain⟨d1,f1,g1⟩:=Rd.bz<|t.rd 1 Z0;obtain⟨d2,f2,g2⟩:=Rd.bz<|t.rd 2 Z0;obtain⟨d3,f3,g3⟩:=Rd.bz<|t.rd 3 Z0;obtain⟨d4,f4,g4⟩:=Rd.bz<|t.rd 4 Z0;unfold Yn at d;rw[C,g1,g2,g3,g4]at d;have yb:∀j,W.cell? ⟨b,j,U⟩=_:=λj=>Zh7 _ _ _ _ _ _ d;have b0:∀j,W.cell? ⟨xz (xj w)+1+1,j,U⟩=_:=λj=>Zh7 _ _ _ _ _ _ S.r0;have i2:∀j,W.cell? ⟨xz (xj w)+1+1+1,j,U⟩=_:=λj=>Zh7 _ _ _ _ _ _ S.r1;have f8:∀j,W.frozen? ⟨xz (xj w)+1+1,j,U⟩=xw:=λj=>Yc S.r0;have f9:∀j,W.frozen? ⟨xz (xj w)+1+1+1,j,U⟩=xw:=λj=>Yc S.r1;unfold Kc at b0;have M:=P3 (G:=G) S rfl u t b2.out hG Z0 a5;unfold QU TV at M;unfold Yn ZA at M;rw[C,g1,g2,g3,g4]at M;simp only[Zhv]at M;obtain⟨k1,R,k4,T⟩:=M;have HK:=Zh2 T;clear d8 h0 a7 u t d S C g1 g2 g3 g4 T;gi_wp2
  refine⟨Z1,.inl ⟨D,_,rfl,Zke k1,?_⟩⟩;refine⟨_,?_,HK.out⟩;clear HK HF k1;generalize World.putObj _ D (.deferred U)=f7 at R k4⊢;simp[results,Try.results21,go_sem,R,k4]
 case stop=>
  rintro D c pre W hD ⟨rfl,done,S,u⟩ a5;obtain⟨y,t⟩:=S.br;have HF:=Zh2<|And.intro S<|And.intro u t;have d:=t.nb;obtain⟨d0,f0,C⟩:=Rd.bz<|t.rd 0 Z0;obtain⟨d1,f1,g1⟩:=Rd.bz<|t.rd 1 Z0;obtain⟨d2,f2,g2⟩:=Rd.bz<|t.rd 2 Z0;obtain⟨d3,f3,g3⟩:=Rd.bz<|t.rd 3 Z0;obtain⟨d4,f4,g4⟩:=Rd.bz<|t.rd 4 Z0;unfold Yn at d;rw[C,g1,g2,g3,g4]at d;have yb:∀j,W.cell? ⟨b,j,U⟩=_:=λj=>Zh7 _ _ _ _ _ _ d;have b0:∀j,W.cell? ⟨xz (xj w)+1+1,j,U⟩=_:=λj=>Zh7 _ _ _ _ _ _ S.r0;have i2:∀j,W.cell? ⟨xz (xj w)+1+1+1,j,U⟩=_:=λj=>Zh7 _ _ _ _ _ _ S.r1;have f8:∀j,W.frozen? ⟨xz (xj w)+1+1,j,U⟩=xw:=λj=>Yc S.r0;have f9:∀j,W.frozen? ⟨xz (xj w)+1+1+1,j,U⟩=xw:=λj=>Yc S.r1;unfold Kc at b0;have M:=P3 (G:=G) S rfl u t b2.out hG Z0 a5;unfold QU TV at M;unfold Yn ZA at M;rw[C,g1,g2,g3,g4]at M;simp only[Zhv]at M;obtain⟨k1,R,k4,T⟩:=M;have HK:=Zh2 T;clear u t d S C g1 g2 g3 g4 T;gi_wp2
  refine⟨Z1,.inl ⟨D,_,rfl,Zke k1,?_⟩⟩;refine⟨_,?_,HK.out⟩;clear HK HF k1;generalize World.putObj _ D (.deferred U)=f7 at R k4⊢;simp[results,Try.results21,go_sem,R,k4]
end
end Vm
end
section
namespace Vm
open Go Go.Proofs
section
structure Made (b:Bt) (x:Rw):Prop where
 pl:Placed b x
 bb:ZI (Zv b.h)=xk
 si:∀n∈b.g.nodes,ZK n<=9
 ij:b.h.Y=xk->∀i,i<I b.g.nodes->(ZE b i).part=1->(Y6 b i).part≠0
 Z:0<=b.h.Z/\b.h.Z<=I b.h.H/\(if b.h.Y then b.h.Z<(I b.h.H) else b.h.Z=I b.h.H/\b.h.ah=[]/\b.h.ak=[])
 room:(I b.h.H:Int)+I b.h.ab+((Yu (obs b 3)+Yu (obs b 4):Nat):Int)<=b.h.cap
 li:Yq b.h.Z
def QE(b:Bt):Pts:=⟨obs b 1,obs b 2,obs b 3,obs b 4⟩
theorem CW(b:Bt){k:Int}(d:1<=k/\k<=4):(QE b).at k=obs b k:=by
 have a:k=1\/k=2\/k=3\/k=4:=Z0;obtain rfl|rfl|rfl|rfl:=a<;>rfl
section
variable {b:Bt}{x:Rw}
def Made.fill(m:Made b x):(Yy x b).ok/\Zv (Yy x b)=Zv b.h/\(Yy x b).Z=b.h.Z/\(Yy x b).Y=b.h.Y:=GD m.pl.ok m.li
def Made.an(m:Made b x){k:Int}(a:1<=k/\k<=4):Tiles (Zx (Yy x b) k) (decide (2<k)) 0<|obs b k:=Z6X m.pl m.bb m.si a
def Made.start(m:Made b x){k a:Int}(f:1<=k/\k<=4)(d:0<=a/\a<YR (Zv b.h) k):YX (Yy x b) k a=fstL (Zv b.h) k+a:=by
 unfold YX;rw[m.fill.2.1,SZ m.bb f d]
def jx(n:Nd):1<=ZK n:=by grind [ZK]
def Made.lu(m:Made b x){i:Nat}(a:i<I b.g.nodes)(d:(ZE b i).part≠0):∃o∈obs b (ZE b i).part,o.aa=(ZE b i).aa/\o.size=((ZP b i).M.length:Int)+(ZP b i).data.length/\o.M=(ZP b i).M.length/\o.gone=xw:=
 ⟨_,JC.2 ⟨i,a,by unfold Xd;rw[Zhc rfl];exact .head _⟩,rfl,rfl,rfl,rfl⟩
def Made.rn(m:Made b x){i:Nat}(f:i<I b.g.nodes)(h:(Y6 b i).part≠0):∃o∈obs b (Y6 b i).part,o.aa=(Y6 b i).aa:=by
 obtain⟨j,k,l,n⟩:=m.pl.dk f h;have a:¬(ZE b i).part=(Y6 b i).part:=by
  by_cases d:(ZE b i).part=0;omega;have:=(m.pl.ct f d).1;omega
 by_cases d:(ZE b i).part=0;exact⟨_,JC.2 ⟨i,f,by unfold Xd;rw[Zh9 a,Zhc rfl,Zhc d];exact .head _⟩,rfl⟩;exact⟨_,JC.2 ⟨i,f,by unfold Xd;rw[Zh9 a,Zhc rfl,Zh9 d];exact .head _⟩,rfl⟩
def Made.mb(m:Made b x){i:Nat}(d:i<I b.g.nodes):Xz (Yy x b) (QE b) (YJ b.h<|ZE b i) 1 2=xk:=by
 by_cases a:(ZE b i).part=0;simp_all[YJ,ZE,Zhc,Xz];obtain⟨k,l,n⟩:=m.pl.ct d a;have p:=jx<|ZP b i;obtain⟨o,j,f,_⟩:=m.lu d a;rw[m.pl.fw m.bb d a];unfold Xz;rw[Ur m.bb Z0];have:(YG (Yy x b) (ZE b i).part (obs b (ZE b i).part)<|fstL (Zv b.h) (ZE b i).part+(ZE b i).aa).isSome=xk:=by
  refine A8.2 ⟨o,j,?_⟩;rw[f,m.start Z0 ⟨Z0,Z0⟩]
 grind [CW]
def Made.rx(m:Made b x){i:Nat}(d:i<I b.g.nodes):Xz (Yy x b) (QE b) (YJ b.h<|Y6 b i) 3 4=xk:=by
 by_cases a:(Y6 b i).part=0;simp_all[YJ,Y6,Zhc,Xz];obtain⟨k,l,_,n⟩:=m.pl.dk d a;have p:=jx<|ZP b i;obtain⟨o,j,f⟩:=m.rn d a;rw[m.pl.oz m.bb d a];unfold Xz;rw[Ur m.bb Z0];have:(YG (Yy x b) (Y6 b i).part (obs b (Y6 b i).part)<|fstL (Zv b.h) (Y6 b i).part+(Y6 b i).aa).isSome=xk:=by
  refine A8.2 ⟨o,j,?_⟩;rw[f,m.start Z0 ⟨Z0,Z0⟩]
 grind [CW]
def Made.dc(m:Made b x){k:Int}(j:1<=k/\k<=4){o q:Ob}(f:o∈obs b k)(g:q∈obs b k)(h:q.aa=o.aa):q=o:=by
 have d:=m.an j;obtain a|a|a:=d.apart q g o f;exact a;have:=YD.1 (d.bc q g).1.shape;omega;have:=YD.1 (d.bc o f).1.shape;omega
def Made.ld(m:Made b x){k:Int}(d:1<=k/\k<=4){o:Ob}(f:o∈obs b k):0<=o.aa/\o.aa<YR (Zv b.h) k:=by
 have a:=((m.an d).bc o f).1;have g:=YD.1 a.shape;have j:=a.aw;have l:=a.iz;have:YR (Zv b.h) k=I (Zx (Yy x b) k):=by rw[<-m.fill.2.1,Pg _ d]
 omega
def Made.find(m:Made b x){k:Int}(a:1<=k/\k<=4){o:Ob}(d:o∈obs b k):YG (Yy x b) k (obs b k) (fstL (Zv b.h) k+o.aa)=J o:=by
 rw[<-m.start a (m.ld a d)];refine FK d λq f e=>m.dc a d f ?_;rw[m.start a<|m.ld a d,m.start a<|m.ld a f]at e;omega
def Z6f{k:Int}{i:Nat}{o:Ob}(h:o∈Xd b k i)(a:o.gone=xk):¬(ZE b i).part=k/\(Y6 b i).part=k/\¬(ZE b i).part=0/\o=⟨(Y6 b i).aa,((ZP b i).M.length:Int)+(ZP b i).data.length,(ZP b i).M.length,xk,(adr<|YJ b.h<|ZE b i).1⟩:=by
 grind [Xd]
def Made.gone(m:Made b x){k:Int}(y:3<=k/\k<=4):QY (Yy x b) (obs b 1)<|obs b k:=by
 intro o n j;obtain⟨i,d,g⟩:=JC.1 n;obtain⟨u,w,f,rfl⟩:=Z6f g j;obtain⟨z,A,B⟩:=m.pl.ct d f;have l:=(m.pl.dk d Z0).2.2.1;have a:(ZE b i).part=1:=Z0;obtain⟨q,h,p,r,t,_⟩:=m.lu d f;rw[a]at h;refine⟨q,?_,r,t⟩;simp only;rw[m.pl.fw m.bb d f,Ur m.bb Z0,a,<-p];exact m.find Z0 h
def Made.fb(m:Made b x):Xm (Yy x b)=J (QE b):=
 NJ (m.an (k:=1) Z0) (m.an (k:=2) Z0) (m.an (k:=3) Z0) (m.an (k:=4) Z0) (m.gone Z0) (m.gone Z0)
def PF(l r:Zi)(a:Int):XF (l++r) a=XF l a+XF r a:=by simp[XF]
def PH(b:Bt)(k:Int)(j:Nat)(a:Int):XF (Xd b k j) a=if ¬(ZE b j).part=k/\(Y6 b j).part=k/\¬(ZE b j).part=0/\(adr<|YJ b.h<|ZE b j).1=a then 1 else 0:=by
 unfold Xd;by_cases d:(ZE b j).part=k;simp_all[Zhc,Zh9,XF];rw[Zh9 d];by_cases f:(Y6 b j).part=k;rw[Zhc f];by_cases g:(ZE b j).part=0;simp_all[Zhc,Zh9,XF];rw[Zh9 g];by_cases l:(adr<|YJ b.h<|ZE b j).1=a;simp_all[Zhc,XF];simp_all[Zh9,XF];simp_all[Zh9,XF]
def Made.fp(m:Made b x)(hc:b.h.Y=xk){i:Nat}(n:i<I b.g.nodes)(q:(ZE b i).part=1):Tp (QE b) (fstL (Zv b.h) 1+(ZE b i).aa)=1:=by
 have key:∀j,j<=I b.g.nodes->XF ((List.range j).flatMap<|Xd b 3) (fstL (Zv b.h) 1+(ZE b i).aa)+XF ((List.range j).flatMap<|Xd b 4) (fstL (Zv b.h) 1+(ZE b i).aa)=if i<j then 1 else 0:=by
  intro j;induction j with
  |zero=>grind [XF]
  |succ j t=>
   intro G;have t:=t Z0;have a:j<I b.g.nodes:=Z0;rw[Zji,ZiW,ZiW,PF,PF];simp only[ZkK,List.flatMap_nil,Zim];have p:XF (Xd b 3 j) (fstL (Zv b.h) 1+(ZE b i).aa)+XF (Xd b 4 j) (fstL (Zv b.h) 1+(ZE b i).aa)=if j=i then 1 else 0:=by
    rw[PH,PH];by_cases l:(ZE b j).part=0;grind;obtain⟨H,C,K⟩:=m.pl.ct a l;by_cases d:(ZE b j).part=1;have y:=m.ij hc j a d;obtain⟨v1,_⟩:=m.pl.dk a y;have B:(adr<|YJ b.h<|ZE b j).1=fstL (Zv b.h) 1+(ZE b j).aa:=by rw[m.pl.fw m.bb a l,Ur m.bb Z0,d]
    have heq:(fstL (Zv b.h) 1+(ZE b j).aa=fstL (Zv b.h) 1+(ZE b i).aa)↔j=i:=by
     constructor;intro e;obtain⟨w1,w2,w3⟩:=m.pl.ct n Z0;rw[d]at C;rw[q]at w2;have z:=jx<|ZP b i;have A:=jx<|ZP b j;have D:I (YT b x 1 i)=ZK (ZP b i):=by unfold YT;rw[Zhc q];exact UD _ _ _ _
     have F:I (YT b x 1 j)=ZK (ZP b j):=by unfold YT;rw[Zhc d];exact UD _ _ _ _
     by_cases w:j<i;obtain⟨r,k⟩:=Kt b x 1 (Z0:j+1<=i);rw[Ub]at k;grind;by_cases u:i<j;obtain⟨r,k⟩:=Kt b x 1 (Z0:i+1<=j);rw[Ub]at k;grind;omega;simp_all
    grind;have f:(ZE b j).part=2:=Z0;have o:(Y6 b j).part=0:=by
     by_cases h:(Y6 b j).part=0;exact h;exact absurd f (m.pl.dk a h).2.2.1
    grind
   grind
 have:=key (I b.g.nodes)<|Zh3 _;rw[Zhc n]at this;exact this
end
end
section
section
variable {b:Bt}{x:Rw}
def Made.word(m:Made b x){k:Int}(a:1<=k/\k<=4){i t:Nat}(d:i<I b.g.nodes)(h:t< I (YT b x k i)):(Zx (Yy x b) k)[I (X0 b x k i)+t]?=(YT b x k i)[t]? :=by
 rw[GE m.pl a];obtain⟨r,f⟩:=Kt b x k (Z0:i+1<=I b.g.nodes);simp_all[Ub,ZhM,Zhp,ZjW,Zhz]
def Ir{p:Pl}{n:Nd}{tw:Int}{j:Nat}(a:j<I n.M):∃q∈n.M,(XT b p n tw)[1+j]?=J (Vq b ⟨p.part,((p.aa.toNat+1+j:Nat):Int)⟩ q<|IntKind.i64.wrap<|tw+j):=by
 refine⟨n.M[j],Zhm a,?_⟩;simp_all[XT,Zjz,ZjS,Zhz,XO]
theorem AT(h:Hp)(p:Pts)(k j:Int):Xz h p 0 k j=xk:=ZgR
def Made.na(m:Made b x)(r:∀n∈b.g.nodes,∀q∈n.M,-1<=q/\q< (I b.g.nodes:Int)){i:Nat}(y:i<I b.g.nodes){k:Int}{p:Pl}(o:p.part=k){a:Nat}{d tw:Int}(f:d∈(ZP b i).M)(u:((Zx (Yy x b) k)[a]?).getD 0=Vq b ⟨p.part,(a:Int)⟩ d tw):Um (Yy x b) (QE b) k a=xk:=by
 have w:=r (ZP b i) (by simp_all[ZP,ZgY,Zhm]) d f;unfold Um;simp only[u];unfold Vq;rw[o];by_cases l:d<0;simp_all[Zhc,AT];obtain⟨t,rfl⟩:=Zhf (Z0:0<=d);have j:t<I b.g.nodes:=Z0;rw[Zh9 l];have g1:=m.mb (i:=t) j;have g2:=m.rx (i:=t) j;unfold ZE at g1;unfold Y6 at g2;simp only[Zhh];by_cases h:2<k;simp_all;rw[Zh9 h,Zh9 h];rw[m.fill.2.2.1];grind
def Made.M(m:Made b x)(C:∀n∈b.g.nodes,∀q∈n.M,-1<=q/\q< (I b.g.nodes:Int)){k:Int}(u:1<=k/\k<=4):WE (Yy x b) (QE b) k=xk:=by
 unfold WE;rw[CW b u,Zhd];intro o D;obtain⟨i,d,a⟩:=JC.1 D;unfold qn;rw[Zhd];intro j h;rw[ZjH]at h;unfold Xd at a;split at a;rename_i f;simp at a;subst a;simp only[Zhh]at h;obtain⟨_,B,_⟩:=m.pl.ct d Z0;rw[f]at B;have r:YT b x k i=XT b (ZE b i) (ZP b i) (IntKind.i64.wrap<|x.be+i):=by unfold YT;rw[Zhc f]
 obtain⟨q,z,A⟩:=Ir (b:=b) (p:=ZE b i) (tw:=IntKind.i64.wrap<|x.be+i) h;have w:=m.word u d (t:=1+j) ZfZ;rw[r,A]at w;simp only;refine m.na C d f (tw:=IntKind.i64.wrap<|IntKind.i64.wrap (x.be+i)+j) z ?_;grind;rename_i f;split at a;rename_i l;obtain⟨_,B,_⟩:=m.pl.dk d Z0;rw[l]at B;split at a;rename_i y;simp at a;subst a;simp only[Zhh]at h;have r:YT b x k i=XT b (Y6 b i) (ZP b i) 0:=by unfold YT;rw[Zh9 f,Zhc l,Zhc y]
 obtain⟨q,z,A⟩:=Ir (b:=b) (p:=Y6 b i) (tw:=0) h;have w:=m.word u d (t:=1+j) ZfZ;rw[r,A]at w;simp only;refine m.na C d l (tw:=IntKind.i64.wrap<|0+j) z ?_;grind;rename_i y;simp at a;subst a;simp only[Zhh]at h;have r:YT b x k i=VS b (ZE b i) (ZP b i):=by unfold YT;rw[Zh9 f,Zhc l,Zh9 y]
 have w:=m.word u d (t:=1+j) (by grind [Qh,ZK]);have F:(VS b (ZE b i)<|ZP b i)[1+j]?=J 0:=by
  unfold VS;rw[Zjz 1 j,ZjS,List.getElem?_replicate,Zhc (by grind [ZK])]
 grind [Um,Int.toNat_natCast,X0,AT];grind
theorem Made.right(m:Made b x)(z:∀n∈b.g.nodes,∀q∈n.M,-1<=q/\q< (I b.g.nodes:Int)):Yw (Yy x b)=xk:=by
 have j:=m.fill.2.1;have a:(Yy x b).H.length=I b.h.H:=by have:=Zi8 Ly.H j;simp only[Zv]at this;omega
 have d:(Yy x b).ab.length=I b.h.ab:=by have:=Zi8 Ly.ab j;simp only[Zv]at this;omega
 have u:(Yy x b).ah.length=I b.h.ah:=by have:=Zi8 Ly.ah j;simp only[Zv]at this;omega
 have p:(Yy x b).ak.length=I b.h.ak:=by have:=Zi8 Ly.ak j;simp only[Zv]at this;omega
 have l:(Yy x b).cap=b.h.cap:=Zi8 Ly.cap j;refine OF ?_ m.fb ?_;unfold TP;have O:=m.Z;have y:=m.pl.ok.rl;have M:(Yy x b).E.length<=5:=by simp only[Yy,Zhv];exact y
 rw[j,m.bb,m.fill.2.2.1,m.fill.2.2.2,a,u,p];grind;unfold SF;simp only[Zh1,Zhy];refine⟨⟨⟨⟨⟨⟨?_,?_⟩,m.M z Z0⟩,m.M z Z0⟩,m.M z Z0⟩,m.M z Z0⟩,?_⟩;rw[m.fill.2.2.2];cases K:b.h.Y;rfl;simp only[Zki,Zkh,Zhd];intro o G;obtain⟨i,F,f⟩:=JC.1 G;have D:(ZE b i).part=1/\o.aa=(ZE b i).aa:=by
  unfold Xd at f;split at f;simp_all;split at f;rename_i N;have:=(m.pl.dk F Z0).1;omega;grind
 have A:=m.ld (k:=1) Z0 G;unfold RI;rw[m.start Z0 A,D.2,Zhy];exact m.fp K F D.1;rw[Zhd];intro w H;simp only[Yy,Zhl]at H;obtain⟨r,L,rfl⟩:=H;have y:=m.pl.ok.um r L;by_cases C:0<=r;rw[Zhc C];have B:=L2 (x:=x) m.pl.ok (I b.g.nodes)<|Zh3 _;rw[D5 B];obtain⟨t,rfl⟩:=Zhf C;exact m.mb (i:=t) Z0;simp_all[Zh9,AT];rw[a,d,l];exact m.room
end
end
section
def Z0j(l r:Zi):Yu (l++r)=Yu l+Yu r:=by simp[Yu]
section
variable {x:Rw}{c:Bool}
def Zbt{b:Bt}(f:Placed b x){i:Nat}(p:i<I b.g.nodes):Yu (Xd b 3 i)+Yu (Xd b 4 i)=if(ZE b i).part=0 then ZK (ZP b i)else 0:=by
 have q:((1:Nat)+(((ZP b i).M.length:Int)+(ZP b i).data.length).toNat)=ZK (ZP b i):=by unfold ZK;omega
 obtain⟨l,k,a,d⟩|⟨l,_⟩:=f.ax i p;have j:(ZE b i).part=0:=by rw[l]
 rw[Zhc j];obtain rfl|rfl:=a<;>simp[Xd,j,d,Yu,V2,q];have h:¬(ZE b i).part=0:=Z0;have n:¬(ZE b i).part=3:=Z0;have o:¬(ZE b i).part=4:=Z0;have:∀k:Int,¬(ZE b i).part=k->Yu (Xd b k i)=0:=λk a=>by
  unfold Xd;rw[Zh9 a,Zh9 h];split<;>simp[Yu,V2]
 rw[Zh9 h,this 3 n,this 4 o]
def Z0o(hx:x.ok):∀j,j<=(ZW x.nodes x.E).nodes.length->Yu ((List.range j).flatMap<|Xd (Yz x c) 3)+Yu ((List.range j).flatMap<|Xd (Yz x c) 4)=(Y4 x c (ZW x.nodes x.E) j).wt
 |0,_=>rfl
 |j+1,g=>by
  have h:=Z0o hx j Z0;have a:=Zbt (Pv (c:=c) hx) (i:=j) (by rw[RH];omega);rw[KR Z0]at a;have f:ZP (Yz x c) j=((ZW x.nodes x.E).nodes[j]?).getD default:=rfl;rw[f]at a;rw[Zji,ZiW,ZiW,Z0j,Z0j,Y4];simp only[ZkK,List.flatMap_nil,Zim];generalize ((ZW x.nodes x.E).nodes[j]?).getD default=n at*;unfold Qi at a;simp only[X6];obtain d|d|⟨d,rfl⟩:=R5 x j c;simp[d]at a⊢;omega;simp[d]at a⊢;omega;simp[d]at a⊢;omega
def Z6m(x:Rw)(c:Bool):∀n∈(Yz x c).g.nodes,∀q∈n.M,-1<=q/\q< ((Yz x c).g.nodes.length:Int):=by
 rw[RH];exact IY x.nodes x.E
def Ma(hc:c=xw):∀j,(Y4 x c (ZW x.nodes x.E) j).n3=0/\(Y4 x c (ZW x.nodes x.E) j).n4=0
 |0=>⟨rfl,rfl⟩
 |j+1=>by
  have:=Ma hc j;subst hc;simpa[Y4,X6]using this
def IR(hx:x.ok)(hc:c=xk->(Yz x xk).h.H.length≠0):Made (Yz x c) x:=by
 obtain⟨k1,y,z⟩:=z7 hx c;refine⟨Pv hx,z,?_,?_,?_,?_,y⟩;rw[RH];exact DM x;intro a i l j;have k:c=xk:=a;subst k;rw[RH]at l;rw[KR l]at j;rw[qv l];unfold Qi at j;unfold JK;obtain f|f|⟨f,_⟩:=R5 x i xk;simp[f]at j;simp[f];cases Ww x i<;>simp;simp[f]at j;have d:(Yz x c).h.H.length=(Y4 x c (ZW x.nodes x.E) (ZW x.nodes x.E).nodes.length).n1:=by simp[Yz]
 cases c;obtain⟨p,q⟩:=Ma (x:=x) (c:=xw) rfl (ZW x.nodes x.E).nodes.length;rw[d];have o:(Yz x xw).h.Z=((Y4 x xw (ZW x.nodes x.E) (ZW x.nodes x.E).nodes.length).n1:Int):=by simp[Yz]
 have a:(Yz x xw).h.Y=xw:=rfl;rw[o,a];simp only[Zhn,Zi0];refine⟨Z0,Z0,trivial,?_,?_⟩<;>simp[Yz,p,q];have f:=hc rfl;rw[d]at f;rw[d];have o:(Yz x xk).h.Z=pick x.Z (Y4 x xk (ZW x.nodes x.E) (ZW x.nodes x.E).nodes.length).n1:=by
  simp only[Yz];rw[Zhc ⟨trivial,Z0⟩]
 have a:(Yz x xk).h.Y=xk:=rfl;have u:=Th (c:=x.Z) (n:=((Y4 x xk (ZW x.nodes x.E) (ZW x.nodes x.E).nodes.length).n1:Int)) Z0;rw[o,a];simp only[ZhY];omega;have w:=Z0o (c:=c) hx (ZW x.nodes x.E).nodes.length<|Zh3 _;have t:(Yz x c).h.H.length=(Y4 x c (ZW x.nodes x.E) (ZW x.nodes x.E).nodes.length).n1:=by simp[Yz]
 have r:(Yz x c).h.ab.length=(Y4 x c (ZW x.nodes x.E) (ZW x.nodes x.E).nodes.length).n2:=by simp[Yz]
 have g:(Yz x c).h.cap=max (((Y4 x c (ZW x.nodes x.E) (ZW x.nodes x.E).nodes.length).n1:Int)+(Y4 x c (ZW x.nodes x.E) (ZW x.nodes x.E).nodes.length).n2+(Y4 x c (ZW x.nodes x.E) (ZW x.nodes x.E).nodes.length).wt) (((Y4 x c (ZW x.nodes x.E) (ZW x.nodes x.E).nodes.length).n3:Int)+(Y4 x c (ZW x.nodes x.E) (ZW x.nodes x.E).nodes.length).n4)+pick x.be 12:=rfl;have u:=Th (c:=x.be) (n:=12) Z0;unfold obs;rw[RH,w,t,r,g];omega
def Z4d(hx:x.ok):∃c,T9 x=Yy x (Yz x c)/\Made (Yz x c) x:=by
 unfold T9;by_cases h:(Yz x xk).h.H.length=0;rw[Zhc h];exact⟨xw,rfl,IR hx Z1⟩;rw[Zh9 h];exact⟨xk,rfl,IR hx λ_=>h⟩
def Z4f(hx:x.ok):Yw (T9 x)=xk:=by
 obtain⟨c,h,m⟩:=Z4d hx;rw[h];exact m.right<|Z6m x c
end
end
def SX:Prop:=∀(h:Hp) (p:Pts) (k:Int),h.ok->Rt h p->0<=k->Yq k->VC xP 21 xw [ZD h,vi k] (.am [ZD<|ZM h k.toNat,vi 0])
def LA(h:Hp)(k:Int):Hp×Int:=if k<0\/Yw h=xw then(Hp.zero,1)else(ZM h k.toNat,0)
def ye(h:Hp):Hp×Int:=if Yw h=xw then(Hp.zero,1)else(ZM h 9223372036854775807,0)
def EE(j:SX){h:Hp}(f:h.ok){k:Int}(l:Yq k):VC xP 9 xw [ZD h,vi k]<|.am [ZD (LA h k).1,vi (LA h k).2]:=by
 refine ZQ Fb follows Z2 c9 rfl ?_;have k1:=QV f;simp only[ZD]at k1;unfold LA;simp[p9];by_cases a:0<=k;case neg=>simp[a,show k<0 by omega,ZD,Hp.zero]
 have d:¬k<0:=Z0;simp only[a,d,ZhY,false_or];refine Zz k1 Z1 ?_;cases n:Yw h;simp[ZD,Hp.zero];obtain⟨p,r⟩:=JV.1 n;have g:=j h p k f r Z0 l;simp only[ZD]at g⊢;simp;refine Zz g Z1 ?_;simp
def Z0I(f:SX){h:Hp}(a:h.ok):VC xP 11 xw [ZD h]<|.am [ZD (ye h).1,vi (ye h).2]:=by
 refine ZQ Z1c follows Z2 Ab rfl ?_;have k1:=QV a;simp only[ZD]at k1;unfold ye;simp[MO];refine Zz k1 Z1 ?_;cases g:Yw h;simp[ZD,Hp.zero];obtain⟨p,r⟩:=JV.1 g;have d:=f h p 9223372036854775807 a r Z0 ⟨Z0,Z0⟩;simp only[ZD]at d⊢;simp;refine Zz d Z1 ?_;simp
def TB:Hp:=⟨10,5,1,xk,0,[2,6],[],[31,0],[],[31]⟩
def Je:Hp:=⟨10,5,1,xw,2,[2,6],[],[],[],[31]⟩
def Az:TB.ok:=by refine⟨?_,?_,?_,?_,?_,?_,?_,?_,?_,?_,?_,?_,?_,?_⟩<;>simp[TB,ZC,Yq]
def Z0p:Hp.zero.ok:=by refine⟨?_,?_,?_,?_,?_,?_,?_,?_,?_,?_,?_,?_,?_,?_⟩<;>simp[Hp.zero,ZC,Yq]
def O7{h:Hp}{p:Pts}(r:Rt h p)(k:Nat):LA h k=(ZM h k,0):=by
 unfold LA;rw[Zh9 (by rw[r.right];simp),Zhh]
end Vm
end
section
namespace Vm
open Go Go.Proofs Go.RowKit
def P4:SX:=by
 intro h p k D r K C;obtain⟨n,rfl⟩:=Zhf K;rw[Zhh];refine⟨Z2,λw G vs z l d=> ?_⟩;have r0:=d 0 _ rfl;have N:=d 1 _ rfl;have B:vs=#[vs.getD 0 xy,vs.getD 1 xy]:=by
  have a:vs.size=2:=l;apply Zjs;simp[a];intro i O P;have F:i<2:=Z0
  match i,F with
  |0,_=>simp[Array.getD,a]
  |1,_=>simp[Array.getD,a]
 obtain⟨o,t,M⟩:=yC r0;have u:=Sy N;rw[B,t,u];refine(Z9M w G z h D o M r (by have:=C.2;omega)).mono ?_;rintro e Q ⟨x,rfl,g,L⟩;refine⟨_,rfl,g,?_⟩;refine .am _ _ rfl ?_;intro i y f
 match i,f with
 |0,f=>cases f;exact Jr λj H=>(L j H).mono λb A=>A.imp (λq=>⟨rfl,q⟩) id
 |1,f=>cases f;exact .int _ _
end Vm
end
section
namespace Vm
open Go Go.Conc Go.ConcN
section
section
variable {P:Z6}{Stop:Z9}{b:Zg}{k:Zn}{cs:Z7}{a:Act}{w:Z3}
def Walk.cx{x y:Code}(h:Walk P Stop (b.at a<|.code x:: .code y::k) cs w):Walk P Stop (b.at a<|.code (.seq x y)::k) cs w:=.go (λw=>stepG_seq) h
def Walk.region{id:Nat}{ops:Zl}(h:Walk P Stop (b.at a<|.inRegion ops (List.range ops.size)::k) cs w):Walk P Stop (b.at a<|.code (.region id ops xw)::k) cs w:=.go (λw=>stepG_region) h
def Walk.gq{ops:Zl}(h:Walk P Stop (b.at a k) cs w):Walk P Stop (b.at a<|.inRegion ops []::k) cs w:=.go (λw=>stepG_region_end) h
def Walk.val{ops:Zl}{i:Nat}{rest:Za}{o:Oper}{v:Ze}(q:ops[i]?=J o)(r:Region.wanted o (yielded ops a.tmps)=xk)(p:b.kind≠.early)(n:J6 P o.op=xk)(j:∀g:Z3,g.heap=w.heap->(execOp a.eval o).run P g=.ok (.value v) g)
  (h:Walk P Stop (b.at (a.put o.dst v)<|.inRegion ops rest::k) cs w):Walk P Stop (b.at a<|.inRegion ops (i::rest)::k) cs w:=by
 refine .one λd=> ?_;have f:EvsB (xz<|xj<|Ye<|(execOp a.eval o).run P<|w.at d)<|listed P b.fn a o<|w.at d:=λe l=>Gw n a (w.at d) e<|mem_listed l;rw[j (w.at d) rfl]at f;exact⟨_,_,_,_,stepG_value q r p<|j (w.at d) rfl,Zh3 _,f,h.at d⟩
def Walk.chan{ops:Zl}{i:Nat}{rest:Za}{o:Oper}{t p:Zf}{dir:ChanDir}{inf:TypeInfo}{f:IntKind}(z:ops[i]?=J o)(B:Region.wanted o (yielded ops a.tmps)=xk)(y:b.kind≠.early)(j:o.op=.makeChan t (.const<|.int f 0))(l:P.underlying t=J (.chan dir p))(g:P.info? p=J inf)
  (h:Walk P Stop (b.at (a.put o.dst<|.chan<|J<|xz<|xj w)<|.inRegion ops rest::k) cs<|w.alloc<|.chan 0 #[] xw 0 0 xw):Walk P Stop (b.at a<|.inRegion ops (i::rest)::k) cs w:=by
 refine .one λd=> ?_;have n:execOp a.eval o=(do pure (.value<|<-Instr.makeChan t (.int f (0:Nat))):Sem Next):=by unfold execOp;simp only[j];rfl
 have A:(execOp a.eval o).run P (w.at d)=.ok (.value<|.chan<|J<|xz<|xj w) ((w.alloc<|.chan 0 #[] xw 0 0 xw).at d):=by
  rw[n];simp only[ZhK,run_makeChan (w:=w.at d) l g f 0 Z0 Z0,ZhI];rfl
 have x:(execOp a.eval o).events P (w.at d) #[]=#[]:=by
  rw[n];have q:=events_makeChan (P:=P) (w:=w.at d) l g f 0 Z0 Z0 #[];have r:(Instr.makeChan t<|.int f (0:Nat)).runT P (w.at d) #[]=(.ok (.chan<|J<|xz<|xj w)<|(w.alloc<|.chan 0 #[] xw 0 0 xw).at d, #[]):=by
   refine ZjD ?_ q;rw[Zj6];exact run_makeChan (w:=w.at d) l g f 0 Z0 Z0
  show((Sem.bind _ _).runT P (w.at d) #[]).2=_;rw[Zja,r];rfl
 refine⟨_,_,_,_,stepG_value z B y A,by show xz (xj w)<=xz (xj<|w.alloc _);simp,λe u=> ?_,h.at d⟩;have:=mem_listed u;simp_all
def Walk.uc{fr B:Zg}{f:Zj}(T:∀w:Z3,stepG P xk (G fr cs) w=.spawn (G B cs) f w #[])
  (H:∀(n d:Nat) (gs:Zd) (sl:Option<|Nat×Nat) (t:Trace) (q:Zk),0<n->gs.size=n+1->gs[0]?=J (G B cs)->gs[n]?=J f->YN P n gs q->(∀Z OB M,TI n Z OB M (xz<|xj w) t)->Win P (Ek P Stop) gs (w.at d) sl t):Walk P Stop fr cs w:=by
 intro d0 gs sl t q hl N o;have R:∀(a:Zd) g,a[a.size]? ≠J g:=λa g e=>by
  simp_all
 refine skip hl (λi g O r=> ?_) ⟨0,_,.inl rfl,N,rfl⟩ λa d L q' i g a1 z Q O a2 a0=> ?_;obtain rfl|rfl:=O;rw[N]at r;cases r;exact⟨awake_of<|.inl rfl,λg1 g2 d=>woken_run rfl⟩;simp_all;obtain rfl|rfl:=O;have C:a[0]?=J (G fr cs):=by rw[z 0<|.inl rfl];exact N
 have F:0<a.size:=(Zh6.1 C).1;have u:=runT_crowd_spawn (P:=P) (sl:=L) (i:=0) (w:=w.at d) C<|T<|w.at d;refine⟨_,_,_,_,u,?_⟩;generalize hx:({g:=0,fn:=(G fr cs).frame.fn,pos:=(G fr cs).frame.place,act:=.go a.size}:MemOp)=x;generalize hy:({g:=a.size,fn:=f.frame.fn,pos:=(G fr cs).frame.place,act:=.start}:MemOp)=y;have D:((MemOp.ofEvents 0 (G fr cs).frame.fn (G fr cs).frame.place #[]).push x).push y=#[x,y]:=by simp[MemOp.ofEvents]
 rw[D];have W:x.g=0/\x.act=.go a.size:=by rw[<-hx];exact⟨rfl,rfl⟩
 have X:y.g=a.size/\y.act=.start:=by rw[<-hy];exact⟨rfl,rfl⟩
 refine H a.size d _ L _ q' F Z1 ?_ ZfZ (λj g hj a3 r=> ?_) λZ OB M=> ?_;grind;rw[Zjj]at r;simp only[Zjg]at r;rw[Zh9 Z0,ZhT Z0]at r;exact Q j g hj Z0 r;have t0:TI a.size (λ_=>True) (λ_=>False) M (xz<|xj w) t:=⟨o.gh,o.dq,o.H,λi op x l k A=>.inl<|o.iq i op x l k A,λi op x l k A=>.inr<|.inr ⟨λ_=>by simp_all[IW,trivial],λb _ h=>h⟩⟩
 have Y:=t0.comm (Zh3 _) #[x,y] (λop S=>by
  have:op=x\/op=y:=by simpa using S
  obtain rfl|rfl:=this;simp_all[MemAct.touch?];simp_all[MemAct.touch?])
 have K:∀(i:Nat) (op:MemOp) (p:Touch),(t++ #[x,y])[i]?=J op->op.act.touch?=J p->t[i]?=J op:=λi op p l k=>by
  obtain⟨_,h⟩|⟨_,h⟩:=getElem?_append_cases l;exact h;have:op=x\/op=y:=ZgU;obtain rfl|rfl:=this;simp_all[MemAct.touch?];simp_all[MemAct.touch?]
 refine⟨Y.gh,Y.dq,Y.H,λi op p l k A=>.inl<|(o.iq i op p (K i op p l k) k A).app _,λi op p l k A=>.inr<|.inl ?_⟩;exact fork_knows W X (o.dq 0) (o.dq _)<|o.iq i op p (K i op p l k) k A;simp_all
def Walk.ue{fr o:Zg}{f:Zj}{c:Nat}{KA KB OA0:Z4}{StopA:(Nat->Prop)->Goroutine->World->Prop}{vs:Zm}{z:Ze}(C:∀w:Z3,stepG P xk (G fr cs) w=.spawn (G o cs) f w #[])
  (Q:Play P xk c KA StopA (vs.map .recv++[.closed z]) OA0 (G o cs) w) (R:Play P xw c KB (UQ P c) (vs.map .send) (λ_=>False) f w) (p:w.heap[c]?=J (.chan 0 #[] xw 0 0 xw))
  (la:∀b,OA0 b->b<xz (xj w)) (ka:∀b,KA b->b<xz (xj w)) (kb:∀b,KB b->b<xz (xj w)) (H:∀b,OA0 b->¬KB b) (N:¬OA0 c) (x:¬KA c) (y:¬KB c)
  (r:∀u a j,StopA u a j->xz (xj w)<=xz (xj j)->j.tape=w.tape->(j.os,j.output)=(w.os,w.output)->(∀b,u b->(OA0 b\/xz (xj w)<=b)/\b<xz (xj j))->(∀b,b<xz (xj w)->¬OA0 b->b≠c->j.heap[b]?=w.heap[b]?)->∃l k,a=G l k/\Walk P Stop l k j):Walk P Stop fr cs w:=by
 refine .uc C λn d gs sl t q X D O B W F=> ?_;have S:Cfg P n c KA KB OA0 (w.at d) OA0 (λ_=>False) gs (w.at d) t q:=
  ⟨X,W,F _ _ _,la,λ_ h=>h.elim,ka,kb,λ_ _ h=>h,H,N,x,y,(Zh6.1 p).1,Zh3 _,rfl,rfl,λ_ h=>.inl h,λ_ h=>h.elim,λ_ _ _ _=>rfl⟩
 have Y:=(Z7E (P:=P) (n:=n) (KB:=KB) (OA0:=OA0) (w0:=w.at d) Q).ta vs z (λ_=>False) f gs (w.at d) sl t q 0 0 xw rfl S D O B (Rely.at _ _ _ d) (.run<|R.gt<|Rely.at _ _ _ d) p;refine Y.bind λA w1 K t1 ⟨M,u,OB,q1,Z,k1,k2,g,k4,k5⟩=> ?_;obtain⟨l,k,rfl,T⟩:=r u M w1 k2 g.b0 g.tape g.os (λb L=>⟨g.oa b L,g.la b L⟩) g.fr;exact T w1.drawn A K t1 q1 k4 Z ⟨g.ti.gh,g.ti.dq,g.ti.H,k5⟩
end
end
end Vm
end
section
namespace Vm
open Go Go.Conc
section
section
variable {Q:Z6}{c:Nat}{Post:Z9}{es:List Ev}{fr fr':Zg}{cs cs':Z7}{w w':Z3}
def LS.bv:∀ {es:List Ev} {fr fr':Zg} {cs cs':Z7} {w w':Z3},Steps Q (lone fr (cs++[YP Q]) w) (lone fr' (cs'++[YP Q]) w')->LS Q c Post es fr' cs' w'->LS Q c Post es fr cs w
 | [],_,_,_,_,_,_,h,⟨n,a,c2,w2,d,f⟩=>let⟨m,g⟩:=Steps.trans h ⟨n,d⟩;⟨m,a,c2,w2,g,f⟩
 |e::es,_,_,_,_,_,_,h,⟨n,a,c2,w2,d,f⟩=>let⟨m,g⟩:=Steps.trans h ⟨n,d⟩;⟨m,a,c2,w2,g,f⟩
def LS.ev{e:Ev}(h:VM Q c e fr)(k:LS Q c Post es (Xw e fr) cs w):LS Q c Post (e::es) fr cs w:=⟨0,fr,cs,w,rfl,h,k⟩
def LS.br(h:Post fr cs w):LS Q c Post [] fr cs w:=⟨0,fr,cs,w,rfl,h⟩
end
def Eb{P:Z6}{ops:Zl}{w:Z3}{Q Q':Act->Prop}(h:∀a,Q a->Q' a):∀(l:List Oper) (a:Act),wpStill P ops w Q l a->wpStill P ops w Q' l a
 | [],a,d=>h a d
 |o::l,a,d=>by
  simp only[wpStill]at d⊢;split;rename_i f;rw[Zhc f]at d;exact Oper.still_mono (λa=>Eb h l a) d;rename_i f;rw[Zh9 f]at d;exact Eb h l _ d
def Yr:Code->List Nat->Code
 |c,[]=>c
 |.seq a _,0::l=>Yr a l
 |.seq _ b,_::l=>Yr b l
 |.cond _ a _,0::l=>Yr a l
 |.cond _ _ b,_::l=>Yr b l
 |.block _ a,_::l=>Yr a l
 |.loop a,_::l=>Yr a l
 |.scope a,_::l=>Yr a l
 |c,_=>c
def Ll:Code->Array Oper
 |.region _ ops _=>ops
 |_=> #[]
def jO(Q:Z6)(c:Nat)(Post:Z9)(es:List Ev)(b:Zg)(k:Zn)(cs:Z7):Exit->Act->World->Prop
 |.normal,a,w=>LS Q c Post es (b.at a k) cs w
 |.exit id,a,w=>∃k',exitTo id k=J k'/\LS Q c Post es (b.at a k') cs w
 |.ret,a,w=>∀d,LS Q c Post es {b.at a d with mode:=.returning} cs w
 |_,_,_=>False
def SC(Q:Z6)(c:Nat)(x:Code)(R:List Ev->Exit->Act->World->Prop)(es:List Ev)(a:Act)(w:Z3):Prop:=
 ∀(Post:Z9) (b:Zg) (k:Zn) (cs:Z7),(∀d e f w',R d e f w'->jO Q c Post d b k cs e f w')->LS Q c Post es (b.at a<|.code x::k) cs w
def ST(Q:Z6)(c:Nat)(ops:Zl)(R:List Ev->Exit->Act->World->Prop)(l:Za)(es:List Ev)(a:Act)(w:Z3):Prop:=
 ∀(Post:Z9) (b:Zg) (k:Zn) (cs:Z7),(∀d e f w',R d e f w'->jO Q c Post d b k cs e f w')->LS Q c Post es (b.at a<|.inRegion ops l::k) cs w
section
variable {Q:Z6}{c:Nat}{R R':List Ev->Exit->Act->World->Prop}{es:List Ev}{a:Act}{w:Z3}{x y:Code}
variable {ops:Zl}{l:Za}
def SC.ua{id:Nat}(h:∀t,ST Q c ops R (Region.schedule (Q.follows .mixedOrders) ops t) es a {w with drawn:=w.drawn+1}):SC Q c (.region id ops xk) R es a w:=λPost b k cs d=>LS.bv (.one step_region_draw)<|h _ Post b k cs d
def ST.nil(h:R es .normal a w):ST Q c ops R [] es a w:=λPost b k cs d=>LS.bv (.one step_region_end)<|d _ _ _ _ h
def ST.so{i:Nat}(g:((ops[i]?).map (Region.wanted · (yielded ops a.tmps))).getD xw=xw)(f:ST Q c ops R l es (a.put ((ops[i]?).bind (·.dst)) xy) w):ST Q c ops R (i::l) es a w:=λPost b k cs d=>
 LS.bv (.one<|step_op_skip g) (f Post b k cs d)
def ST.still{i:Nat}{K:Act->Prop}(h:stOp Q ops w i K a)(t:∀a,K a->ST Q c ops R l es a w):ST Q c ops R (i::l) es a w:=by
 unfold stOp at h;cases q:ops[i]? with
 |none=>
  rw[q]at h;refine .so (by simp[q]) ?_;simp_all[Option.bind_none,Act.put]
 |some o=>
  rw[q]at h;dsimp only at h;by_cases u:Region.wanted o (yielded ops a.tmps)=xk;rw[Zhc u]at h;unfold Oper.still at h;intro Post b k cs r;have A:=stepG_op (P:=Q) (b:=b) (k:=k) (cs:=cs++[YP Q]) (w:=w) (rest:=l) q u;have y:∀v,(b.at a<|.inRegion ops (i::l)::k).finish v=b.at (a.put o.dst v) (.inRegion ops l::k):=λv=>by grind [Frame.finish_at]
  revert h
  cases B:(execOp a.eval o).run Q w with
  |halt x w'=>exact False.elim
  |ok n w'=>
   cases n<;>first|exact False.elim|skip
   rename_i v;rintro⟨rfl,h⟩;refine LS.bv (.one<|Zky ?_)<|t _ h Post b k cs r;simp_all[stepG.apply];rintro⟨rfl,h⟩;refine LS.bv (.one<|Zky ?_)<|t _ h Post b k cs r;simp_all[stepG.apply];rename_i f args;rintro⟨rfl,v,z,h⟩;obtain⟨e,j,fr,⟨rfl,rfl⟩,g,_,p⟩:=z<|b.at a (.inRegion ops (i::l)::k)::(cs++[YP Q]);have d:step Q (lone (b.at a<|.inRegion ops (i::l)::k) (cs++[YP Q]) j)=.next (lone (Frame.enter Q f args .normal) (b.at a (.inRegion ops (i::l)::k)::(cs++[YP Q])) j):=
    Zky (by simp_all[stepG.apply,Frame.at])
   refine LS.bv (.head d<|g.trans<|.one ?_)<|t _ h Post b k cs r;grind [step_leave_returned]
  rw[Zh9 u]at h;refine .so Zg0 ?_;simp_all
def ST.ev{i:Nat}{o:Oper}{e:Ev}(A:ops[i]?=J o)(G:Region.wanted o (yielded ops a.tmps)=xk)(y:match e with
   |.recv _|.closed _=>∃t f d h inf z,o.op=.recv t f xk/\ZY f=xk/\a.eval f=.chan (J c)/\Q.underlying t=J (.chan d h)/\Q.info? h=J inf/\inf.zero=J z/\∀B,e=.closed B->B=z
   |.send v=>∃f x,o.op=.send f x/\ZY f=xk/\ZY x=xk/\a.eval f=.chan (J c)/\a.eval x=v)
  (F:ST Q c ops R l es (a.put o.dst e.val) w):ST Q c ops R (i::l) (e::es) a w:=λPost b k cs D=>by
 refine LS.ev ⟨ops,i,l,k,o,rfl,rfl,A,G,?_⟩ ?_;have g:∀x,(b.at a<|.inRegion ops (i::l)::k).eval x=a.eval x:=Frame.eval_at b a _;cases e with
 |recv v=>obtain⟨t,f,d,h,inf,z,j,n,p,q,r,u,_⟩:=y;exact⟨t,f,d,h,inf,z,j,n,by rw[g];exact p,q,r,u⟩
 |closed v=>obtain⟨t,f,d,h,inf,z,j,n,p,q,r,u,C⟩:=y;exact⟨t,f,d,h,inf,j,n,by rw[g];exact p,q,r,by rw[C v rfl];exact u⟩
 |send v=>obtain⟨f,x,j,n,p,q,r⟩:=y;exact⟨f,x,j,n,p,by rw[g];exact q,by rw[g];exact r⟩
 have:Xw e (b.at a<|.inRegion ops (i::l)::k)=b.at (a.put o.dst e.val) (.inRegion ops l::k):=by
  unfold Xw;rw[Zjv,A];rfl
 rw[this];exact F Post b k cs D
def ST.head{md:Region.Mode}{n g:Nat}{L:Array Bool->Act->Prop}:∀(f t:Nat) (listed:Array Bool) (a:Act),wpAnyL Q md ops w n L f listed a->(∀listed a t,L listed a->ST Q c ops R (Region.linearise.go md ops g t listed []) es a w)->
  ST Q c ops R (Region.linearise.go md ops (f+g) t listed []) es a w
 |0,t,listed,a,h,j=>by rw[ZhN];exact j _ _ _ h
 |f+1,t,listed,a,h,j=>by
  obtain⟨p,q⟩:=h;rw[show f+1+g=(f+g)+1 by omega];simp only[Region.linearise.go]
  change ST Q c ops R (match(Region.ready md ops listed)[t% I (Region.ready md ops listed)]? with
   |some i=>Region.linearise.go md ops (f+g) (t / I (Region.ready md ops listed)) (listed.setIfInBounds i xk) [i]
   |none=>[].reverse) es a w
  cases k:(Region.ready md ops listed)[t% I (Region.ready md ops listed)]? with
  |none=>
   exfalso;have d:0< I (Region.ready md ops listed):=ZjK.2 p;have:=Zjc.1 k;have:=Zkk t d;omega
  |some i=>
   simp only[];rw[linearise_go_acc,ZkT,Zl4];exact ST.still (q i<|Zha k).2 λl o=>ST.head f _ _ l o j
def ST.km{n:Nat}{listed:Array Bool}{t:Nat}(h:Region.seqB .any ops 1 n listed=xk)(d:ST Q c ops R [n] es a w):ST Q c ops R (Region.linearise.go .any ops 1 t listed []) es a w:=by
 simp only[Region.seqB,Zh1,Zhy]at h;simp only[Region.linearise.go]
 change ST Q c ops R (match(Region.ready .any ops listed)[t% I (Region.ready .any ops listed)]? with
   |some i=>[i]
   |none=>[]) es a w
 grind
def SC.km{id n:Nat}{l:List Oper}(B:Q.follows .mixedOrders=xk)(u:Region.lexTailB .any l.toArray n=xk)(q:I l=n+1)(h:wpStill Q l.toArray {w with drawn:=w.drawn+1} (λp=>ST Q c l.toArray R [n] es p {w with drawn:=w.drawn+1}) (l.take n) a):SC Q c (.region id l.toArray xk) R es a w:=by
 refine SC.ua λt=> ?_;simp only[Region.lexTailB,Zh1,Zhy]at u;obtain⟨⟨⟨⟨k,y⟩,D⟩,z⟩,f⟩:=u;have C:n<I l:=by simpa using y
 have r:I (l.take n)=n:=Zg1;have A:l.toArray.size-n=1:=Zg1;rw[A]at f;have o:HeadInv .any l.toArray n<|Array.replicate l.toArray.size xw:=
  ⟨Z1,λj M _ G=>(by grind [getD_replicate_false]),λt _ K=>getD_in ZfZ<|getD_replicate_false _ _⟩
 have H:=wpAnyL_lex (md:=.any) (g:=1) k D z y (l.take n) 0 _ a (λj F=>by
  simp_all) Z0 o Zg0 h
 simp only[Region.schedule,B,Bool.true_or,ZhY,Region.linearise];have e:l.toArray.size=I (l.take n)+1:=by rw[r];simpa using q
 rw[e];exact ST.head (L:=λd p=>Region.seqB .any l.toArray 1 n d=xk/\ST Q c l.toArray R [n] es p {w with drawn:=w.drawn+1}) _ t _ a (by rw[<-e];exact H) λlisted p N x=>ST.km x.1 x.2
end
section
variable {Q:Z6}{c:Nat}{Post:Z9}{es:List Ev}{a:Act}{w:Z3}{x y:Code}{b:Zg}{k k':Zn}{cs:Z7}
def LS.cx(h:LS Q c Post es (b.at a<|.code x:: .code y::k) cs w):LS Q c Post es (b.at a<|.code (.seq x y)::k) cs w:=LS.bv (.one step_seq) h
def LS.og{o:Operand}(hc:a.eval o=.bool xk)(h:LS Q c Post es (b.at a<|.code x::k) cs w):LS Q c Post es (b.at a<|.code (.cond o x y)::k) cs w:=LS.bv (.one<|step_cond hc) h
def LS.oe{o:Operand}(hc:a.eval o=.bool xw)(h:LS Q c Post es (b.at a<|.code y::k) cs w):LS Q c Post es (b.at a<|.code (.cond o x y)::k) cs w:=LS.bv (.one<|step_cond hc) h
def LS.skip(h:LS Q c Post es (b.at a k) cs w):LS Q c Post es (b.at a<|.code .skip::k) cs w:=LS.bv (.one step_skip) h
def LS.block{id:Nat}(h:LS Q c Post es (b.at a<|.code x:: .inBlock id::k) cs w):LS Q c Post es (b.at a<|.code (.block id x)::k) cs w:=LS.bv (.one step_block) h
def LS.inBlock{id:Nat}(h:LS Q c Post es (b.at a k) cs w):LS Q c Post es (b.at a<|.inBlock id::k) cs w:=LS.bv (.one step_inBlock) h
theorem LS.inLoop(h:LS Q c Post es (b.at a<|.code x:: .inLoop x::k) cs w):LS Q c Post es (b.at a<|.inLoop x::k) cs w:=LS.bv (.one step_inLoop) h
def LS.exit{id:Nat}(d:exitTo id k=J k')(h:LS Q c Post es (b.at a k') cs w):LS Q c Post es (b.at a<|.code (.exit id)::k) cs w:=LS.bv (.one<|step_exit d) h
def LS.oq(I:Nat->List Ev->Act->World->Prop){n:Nat}(d:I n es a w)(f:∀n es a w,I n es a w->(∀m es a w,m<n->I m es a w->LS Q c Post es (b.at a<|.inLoop x::k) cs w)->LS Q c Post es (b.at a<|.code x:: .inLoop x::k) cs w):LS Q c Post es (b.at a<|.code (.loop x)::k) cs w:=by
 have key:∀n es a w,I n es a w->LS Q c Post es (b.at a<|.code x:: .inLoop x::k) cs w:=by
  intro n;induction n using Nat.strongRecOn with
  |_ n g=>grind [inLoop]
 exact LS.bv (.one step_loop)<|key n es a w d
def LS.wp{R:Zh}(h:x.wp Q R a w)(n:∀e f w',R e f w'->jO Q c Post es b k cs e f w'):LS Q c Post es (b.at a<|.code x::k) cs w:=by
 obtain⟨e,f,w',q,r⟩:=h b k<|cs++[YP Q];have g:=n e f w' q;cases e with
 |normal=>exact LS.bv r g
 |exit id=>obtain⟨k',j,l⟩:=g;exact LS.bv (r k' j) l
 |ret=>obtain⟨d,r⟩:=r;exact LS.bv r<|g d
 |_=>exact g.elim
def LS.dt(h:∀K:Zq,(∀a w,LS Q c Post es (b.at a k) cs w->K a w)->x.wp Q (λe a w=>e=.normal/\K a w) a w):LS Q c Post es (b.at a<|.code x::k) cs w:=
 LS.wp (h _ λ_ _ q=>q) λe g w' ⟨d,f⟩=>by subst d;exact f
def LS.send{id n:Nat}{l:List Oper}{v:Ze}(z:Q.follows .mixedOrders=xk)(x:Region.lexTailB .any l.toArray n=xk)(q:I l=n+1){o:Oper}{g j:Operand}(B:l[n]?=J o)(y:o.guard=U)(p:o.op=.send g j)(u:ZY g=xk)(h2:ZY j=xk)
  (h:wpStill Q l.toArray {w with drawn:=w.drawn+1} (λd=>d.eval g=.chan (J c)/\d.eval j=v/\LS Q c Post es (b.at (d.put o.dst xy) k) cs {w with drawn:=w.drawn+1}) (l.take n) a):LS Q c Post (.send v::es) (b.at a<|.code (.region id l.toArray xk)::k) cs w:=
 SC.km (R:=λf e d w'=>e=.normal/\LS Q c Post f (b.at d k) cs w') z x q (Eb (λd ⟨r,t,A⟩=>ST.ev (o:=o) ZfZ (by simp[Region.wanted,y]) ⟨g,j,p,u,h2,r,t⟩<|.nil ⟨rfl,A⟩) _ _ h) Post b k cs λf e d w' ⟨r,t⟩=>by subst r;exact t
def LS.region{id:Nat}{ops:Zl}(h:LS Q c Post es (b.at a<|.inRegion ops (List.range ops.size)::k) cs w):LS Q c Post es (b.at a<|.code (.region id ops xw)::k) cs w:=LS.bv (.one step_region) h
def LS.value{ops:Zl}{i:Nat}{l:Za}{o:Oper}{v:Ze}{w':Z3}(g:ops[i]?=J o)(j:Region.wanted o (yielded ops a.tmps)=xk)(h:(execOp a.eval o).run Q w=.ok (.value v) w')(f:LS Q c Post es (b.at (a.put o.dst v)<|.inRegion ops l::k) cs w'):LS Q c Post es (b.at a<|.inRegion ops (i::l)::k) cs w:=by
 have d:(b.at a<|.inRegion ops (i::l)::k).finish v=b.at (a.put o.dst v) (.inRegion ops l::k):=by grind [Frame.finish_at]
 refine LS.bv (.one<|Zky ?_) f;simp_all[stepG_op,stepG.apply]
def LS.gq{ops:Zl}(h:LS Q c Post es (b.at a k) cs w):LS Q c Post es (b.at a<|.inRegion ops []::k) cs w:=LS.bv (.one step_region_end) h
def LS.sr{ops:Zl}{i:Nat}{l:Za}{o:Oper}{e:Ev}(n:ops[i]?=J o)(p:Region.wanted o (yielded ops a.tmps)=xk)(q:match e with
   |.recv _|.closed _=>∃t f d g inf z,o.op=.recv t f xk/\ZY f=xk/\a.eval f=.chan (J c)/\Q.underlying t=J (.chan d g)/\Q.info? g=J inf/\inf.zero=J z/\∀h,e=.closed h->h=z
   |.send v=>∃f x,o.op=.send f x/\ZY f=xk/\ZY x=xk/\a.eval f=.chan (J c)/\a.eval x=v)
  (r:LS Q c Post es (b.at (a.put o.dst e.val)<|.inRegion ops l::k) cs w):LS Q c Post (e::es) (b.at a<|.inRegion ops (i::l)::k) cs w:=by
 refine LS.ev ⟨ops,i,l,k,o,rfl,rfl,n,p,?_⟩ ?_;have j:∀x,(b.at a<|.inRegion ops (i::l)::k).eval x=a.eval x:=Frame.eval_at b a _;grind;simp_all[Xw,Zjv]
end
end
end Vm
end
section
namespace Vm
open Go Go.Proofs
noncomputable def ofC:Code:=match Try.f38.body with|some c=>c|none=>.skip
def Du(f:Zp):Option<|List OT:=if f=57 then J [.fz,.mem [.fz],.mem [.fz]]else sig f
def t9:List Nat:=[0,1,2,3,16,4,5,6,7,23,25,8,24,29,9,10,48,47,49,12,46,13]
def Zb3:List Nat:=[15,63,76,79]
def vf(P:Z6):FC:= {P,ix:=pos<|t9++Zb3,fresh,sig:=Du,tr:=[3],fix:=[4,23],n:=82,keep:=t9}
def qT:SS:=[(0,.fz)]
def r0N:SS:=[(0,.fz),(1,(.mem [.fz,.fz,.fz,.fz,.fz,.fz,.fz,.fz,.fz,.fz])),(2,(.mem [.nil,.nil])),(3,.fz)]
def r0:Stm:=
(.ao ⟨[],[],[(1,.m [(.ae (.sz (.s 0) 10) 0),(.ae (.sz (.s 0) 10) 1),(.ae (.sz (.s 0) 10) 2),(.ae (.sz (.s 0) 10) 3),(.ae (.sz (.s 0) 10) 4),(.ae (.sz (.s 0) 10) 5),(.ae (.sz (.s 0) 10) 6),(.ae (.sz (.s 0) 10) 7),(.ae (.sz (.s 0) 10) 8),(.ae (.sz (.s 0) 10) 9)]),(2,.m [(.c<|.sl []),(.c<|.sl [])]),(3,.v<|.c<|.int .i64<|0)]⟩)
def r0c:comp (vf<|Ya Try.prog) (Yr ofC [0]) qT=J (r0,⟨J r0N,[],[]⟩):=Z2
def rXS:SS:=[(0,.fz),(1,(.mem [.fz,.fz,.fz,.fz,.fz,.fz,.fz,.fz,.fz,.fz])),(2,(.mem [.nil,.nil])),(3,.fz)]
def Og:SS:=[(0,.fz),(1,(.mem [.fz,.fz,.fz,.fz,.fz,.fz,.fz,.fz,.fz,.fz])),(2,(.mem [.nil,.nil])),(3,.fz),(16,.fz)]
def D1:SS:=[(0,.fz),(1,(.mem [.fz,.fz,.fz,.fz,.fz,.fz,.fz,.fz,.fz,.fz])),(2,(.mem [.nil,.nil])),(3,.fz),(16,.fz)]
def rX:Stm:=
(.seq
(.ao ⟨[.call 22 [] (.id 17) xw xw [(.mm 1 0 10)]],[],[(4,.v<|.un .not<|.s 22)]⟩)
(.cond (.s 4)
 (.seq
 (.ao ⟨[],[([],(.ag [(.c<|.sl []),(.c<|.sl [])]))],[(2,.m [(.c<|.sl []),(.c<|.sl [])]),(3,.v<|.c<|.int .i64<|1)]⟩)
 .ret)
 .skip))
def rXc:comp (vf<|Ya Try.prog) (Yr ofC [1,0]) rXS=J (rX,⟨J Og,[],[D1]⟩):=Z2
def LC:SS:=[(1,(.mem [.fz,.fz,.fz,.fz,.fz,.fz,.fz,.fz,.fz,.fz])),(2,(.mem [.fz,.fz])),(3,.fz)]
def r5N:SS:=[(1,(.mem [.fz,.fz,.fz,.fz,.fz,.fz,.fz,.fz,.fz,.fz])),(2,(.mem [.fz,.fz])),(3,.fz),(5,.nil)]
def r5:Stm:=
(.ao ⟨[],[],[(6,.v<|.c<|.sl [])]⟩)
def r5c:comp (vf<|xP) (Yr ofC [1,1,1,1,0]) LC=J (r5,⟨J r5N,[],[]⟩):=Z2
def r6S:SS:=[(1,(.mem [.fz,.fz,.fz,.fz,.fz,.fz,.fz,.fz,.fz,.fz])),(2,(.mem [.fz,.fz])),(3,.fz),(5,.nil)]
def r6N:SS:=[(1,(.mem [.fz,.fz,.fz,.fz,.fz,.fz,.fz,.fz,.fz,.fz])),(2,(.mem [.fz,.fz])),(3,.fz),(5,.nil),(6,(.mem [(.own 108)]))]
def r6:Stm:=
(.ao ⟨[],[],[(7,.m [(.c<|.mp 0 [] [])])]⟩)
def r6c:comp (vf<|xP) (Yr ofC [1,1,1,1,1,0]) r6S=J (r6,⟨J r6N,[],[]⟩):=Z2
def r7S:SS:=[(1,(.mem [.fz,.fz,.fz,.fz,.fz,.fz,.fz,.fz,.fz,.fz])),(2,(.mem [.fz,.fz])),(3,.fz),(5,.nil),(6,(.mem [(.own 108)]))]
def r7N:SS:=[(1,(.mem [.fz,.fz,.fz,.fz,.fz,.fz,.fz,.fz,.fz,.fz])),(2,(.mem [.fz,.fz])),(3,.fz),(5,.nil),(6,(.mem [(.own 108)])),(7,(.mem [(.own 124)]))]
def r7:Stm:=
(.ao ⟨[],[],[(8,.m [(.c<|.mp 0 [] [])])]⟩)
def r7c:comp (vf<|xP) (Yr ofC [1,1,1,1,1,1,0]) r7S=J (r7,⟨J r7N,[],[]⟩):=Z2
def CY:SS:=[(1,(.mem [.fz,.fz,.fz,.fz,.fz,.fz,.fz,.fz,.fz,.fz])),(2,(.mem [.fz,.fz])),(3,.fz),(5,(.own 126)),(6,(.mem [(.own 108)])),(7,(.mem [(.own 124)])),(24,.fz),(25,.fz)]
def rDN:SS:=[(1,(.mem [.fz,.fz,.fz,.fz,.fz,.fz,.fz,.fz,.fz,.fz])),(2,(.mem [.fz,.fz])),(3,.fz),(5,(.own 126)),(6,(.mem [(.own 108)])),(7,(.mem [(.own 124)])),(25,.fz),(8,(.mem [.fz,.fz,.fz,.fz,.fz,.fz,.fz])),(24,.fz),(29,.fz)]
def CZ:SS:=[(1,(.mem [.fz,.fz,.fz,.fz,.fz,.fz,.fz,.fz,.fz,.fz])),(2,(.mem [.fz,.fz])),(3,.fz),(5,(.own 126)),(6,(.mem [(.own 108)])),(7,(.mem [(.own 124)])),(24,.fz),(25,.fz)]
def rD:Stm:=
(.seq
(.cond (.s 10)
 .skip
 (.exit 0))
(.block 1
 (.seq
 (.ao ⟨[],[],[(11,.m [(.ae (.sz (.ext (.s 12) 0) 7) 0),(.ae (.sz (.ext (.s 12) 0) 7) 1),(.ae (.sz (.ext (.s 12) 0) 7) 2),(.ae (.sz (.ext (.s 12) 0) 7) 3),(.ae (.sz (.ext (.s 12) 0) 7) 4),(.ae (.sz (.ext (.s 12) 0) 7) 5),(.ae (.sz (.ext (.s 12) 0) 7) 6)])]⟩)
 (.seq
 (.seq
 (.ao ⟨[],[],[(13,.v<|.m 11 3)]⟩)
 (.cond (.s 13)
  (.seq
  (.ao ⟨[],[],[(8,.m [(.dj (.i .u64) (.m 8 0) (.m 11 5)<|.m 11 4)])]⟩)
  (.exit 1))
  .skip))
 (.seq
 (.ao ⟨[],[],[(7,.m [(.dj (.i .u64) (.m 7 0) (.m 11 5)<|.len<|.s 6)])]⟩)
 (.ao ⟨[],[],[(6,.v<|.app (.s 6) (.lit [(.mm 11 0 7)]) 7)]⟩))))))
def Of:comp (vf<|xP) (Yr ofC [1,1,1,1,1,1,1,0,1,0,0,1]) CY=J (rD,⟨J rDN,[(0,CZ)],[]⟩):=Z2
def Oe:SS:=[(1,(.mem [.fz,.fz,.fz,.fz,.fz,.fz,.fz,.fz,.fz,.fz])),(2,(.mem [.fz,.fz])),(3,.fz),(5,.fz),(6,(.mem [.fz])),(7,(.mem [.fz]))]
def CX:SS:=[(1,(.mem [.fz,.fz,.fz,.fz,.fz,.fz,.fz,.fz,.fz,.fz])),(2,(.mem [.fz,.fz])),(3,.fz),(5,.fz),(6,(.mem [.fz])),(7,(.mem [.fz])),(9,(.cq 57 [7,6])),(10,(.mem [.fz,.fz])),(48,.fz),(47,.fz),(49,.fz),(46,.fz)]
def rC:Stm:=
(.seq
(.ao ⟨[],[],[(14,.no)]⟩)
(.seq
(.ao ⟨[],[],[(14,.no),(15,.m [(.c<|.sl []),(.c<|.sl [])])]⟩)
(.seq
(.seq
(.ao ⟨[],[],[(14,.no),(16,.v<|.c<|.int .i64<|0),(17,.v<|.len<|.s 6),(20,.v<|.s 6)]⟩)
(.block 2
 (.loop [1,2,3,6,7,8,14,15,16,17,20]
  (.seq
  (.ao ⟨[],[],[(14,.no),(18,.v<|.bp .lss (.s 16)<|.s 17)]⟩)
  (.seq
  (.cond (.s 18)
   .skip
   (.exit 2))
  (.seq
  (.block 3
   (.seq
   (.ao ⟨[],[],[(14,.no),(19,.m [(.ae (.bd (.ba (.s 20) (.s 16) 7) 0 7) 0),(.ae (.bd (.ba (.s 20) (.s 16) 7) 0 7) 1),(.ae (.bd (.ba (.s 20) (.s 16) 7) 0 7) 2),(.ae (.bd (.ba (.s 20) (.s 16) 7) 0 7) 3),(.ae (.bd (.ba (.s 20) (.s 16) 7) 0 7) 4),(.ae (.bd (.ba (.s 20) (.s 16) 7) 0 7) 5),(.ae (.bd (.ba (.s 20) (.s 16) 7) 0 7) 6)])]⟩)
   (.seq
   (.ao ⟨[],[],[(14,.no),(21,.v<|.m 19 2)]⟩)
   (.ao ⟨[.cn 23 [] (.id 57) [.fz,(.mem [.fz]),(.mem [.fz])] [(.gz (.m 19 6) (.c<|.int .i64<|0) (.s 21) 1),(.ag [(.m 8 0)]),(.ag [(.m 7 0)])]],[],[(7,.m [(.ae (.ext (.s 23) 2) 0)]),(8,.m [(.ae (.ext (.s 23) 1) 0)]),(14,.no),(15,.m [(.app (.m 15 0) (.lit [(.ag [(.one<|.ext (.s 23) 0),(.fi (.m 19 6) (.s 21) 1)])]) 2),(.m 15 1)])]⟩))))
  (.ao ⟨[],[],[(14,.no),(16,.v<|.bp .add (.s 16)<|.c<|.int .i64<|1)]⟩)))))))
(.seq
(.ao ⟨[.cn 24 [] (.id 57) [.fz,(.mem [.fz]),(.mem [.fz])] [(.m 1 9),(.ag [(.m 8 0)]),(.ag [(.m 7 0)])]],[],[(7,.m [(.ae (.ext (.s 24) 2) 0)]),(8,.m [(.ae (.ext (.s 24) 1) 0)]),(14,.no),(15,.m [(.m 15 0),(.one<|.ext (.s 24) 0)])]⟩)
(.seq
(.ao ⟨[.call 25 [] (.id 59) xw xw [(.mm 15 0 2)]],[],[(2,.m [(.ae (.sz (.ext (.s 25) 0) 2) 0),(.ae (.sz (.ext (.s 25) 0) 2) 1)]),(3,.v<|.fl<|.ext (.s 25) 1),(14,.no)]⟩)
.ret)))))
def rCc:comp (vf<|xP) (Yr ofC [1,1,1,1,1,1,1,1]) Oe=J (rC,⟨U,[],[CX]⟩):=Z2
def NE:Fn:=⟨16,[0,1,2,4,5,14,13,15,7,12,19,8,9,10,11,34],
(.seq
(.ao ⟨[],[],[(3,.v<|.c<|.sl [])]⟩)
(.seq
(.ao ⟨[],[],[(4,.v<|.c<|.sl [])]⟩)
(.seq
(.seq
(.ao ⟨[],[],[(5,.v<|.c<|.int .i64<|0),(6,.v<|.len<|.s 0),(9,.v<|.s 0)]⟩)
(.block 0
 (.loop [0,1,2,3,4,5,6,9]
  (.seq
  (.ao ⟨[],[],[(7,.v<|.bp .lss (.s 5)<|.s 6)]⟩)
  (.seq
  (.cond (.s 7)
   .skip
   (.exit 0))
  (.seq
  (.block 1
   (.seq
   (.ao ⟨[],[],[(8,.v<|.ae (.ba (.s 9) (.s 5) 1) 0)]⟩)
   (.seq
   (.seq
   (.ao ⟨[],[],[(10,.v<|.bp .eql (.s 8)<|.c<|.int .u64<|0)]⟩)
   (.cond (.s 10)
    (.seq
    (.ao ⟨[],[],[(4,.v<|.app (.s 4) (.lit [(.c<|.int .i64<|-1)]) 1)]⟩)
    (.exit 1))
    .skip))
   (.seq
   (.ao ⟨[.call 16 [] (.id 58) xw xw [(.s 8)]],[],[(11,.v<|.ext (.s 16) 0),(12,.v<|.ext (.s 16) 1)]⟩)
   (.seq
   (.seq
   (.ao ⟨[],[],[(13,.v<|.ext (.lk (.i .u64) (.m 1 0) (.s 11) (.int .u64<|0) xk) 0),(14,.v<|.ext (.lk (.i .u64) (.m 1 0) (.s 11) (.int .u64<|0) xk) 1)]⟩)
   (.seq
   (.ao ⟨[],[],[(15,.v<|.s 14)]⟩)
   (.cond (.s 15)
    (.ao ⟨[],[],[(11,.v<|.s 13)]⟩)
    .skip)))
   (.ao ⟨[],[],[(4,.v<|.app (.s 4) (.lit [(.one<|.lk (.i .u64) (.m 2 0) (.s 11) (.int .i64<|0) xw)]) 1)]⟩))))))
  (.ao ⟨[],[],[(5,.v<|.bp .add (.s 5)<|.c<|.int .i64<|1)]⟩)))))))
(.seq
(.ao ⟨[],[],[(3,.v<|.s 4),(4,.no)]⟩)
.ret)))),
[(3,.v)]⟩
def cTo:Wx xP fresh sig [.fz,(.mem [.fz]),(.mem [.fz])] (Rr [.fz,(.mem [.fz]),(.mem [.fz])]) Try.f57=J NE:=Z2
def Nh:Fn:=⟨5,[0,1,2,3,6],pQ [pR [(1,pS 0 2),(2,.m [pN,pN]),pV 3<|pI 0],pQ [pC [pK 5 60 [.mm 1 0 2]] [pV 4<|.un .not<|.s 5]]<|pw (.s 4)<|pQ [.ao ⟨[],[([],.ag [pN,pN])],[(2,.m [pN,pN]),pV 3<|pI 1]⟩] .ret,pC [.cn 6 [] (.id 82) [.fz,(.own 151)] [.mm 1 0 2,.c<|.mp 0 [] []]] [(2,pM (.sz (.ext (.s 6) 0) 2) 2),pV 3<|pI 0]] .ret,[(2,(.ag 2)),(3,.v)]⟩
def c59:ZX [.fz] Try.f59=J Nh:=Z2
def Ni:Fn:=⟨11,[0,1,2,9,3,14,13,15,5,12,32],pQ [pR [(1,pS 0 2),pV 2 pF],pi 3 (pj (.len<|.m 1 1)<|pI 16)<|px [pV 2 pF],pR [(4,.no)],pQ [pR [(4,.no),pV 5<|pI 0,pV 6<|.len<|.m 1 0,pV 9<|.m 1 0]]<|.block 0<|.loop [0,1,2,3,4,5,6,9]<|pQ [pR [(4,.no),pV 7<|pl (.s 5)<|.s 6],.cond (.s 7) .skip<|.exit 0,.block 1<|pQ [pR [(4,.no),(8,pM (.bd (.ba (.s 9) (.s 5) 2) 0 2) 2)],.ao ⟨[.lt 11 []<|pj (pa (.len<|.m 8 0)<|.len<|.m 8 1)<|pI 255,.cn 12 [(11,xw)] (.id 83) [.fz,(.mem [.fz,.fz])] [.m 8 0,.ag [.m 1 0,.m 1 1]]],[([(11,xw)],.un .not<|.ext (.s 12) 0)],[(1,pM (.ext (.s 12) 1) 2),(4,.no),pV 10<|.ite (.s 11) pT<|.un .not<|.ext (.s 12) 0]⟩]<|pw (.s 10)<|px [pV 2 pF,(4,.no)]]<|pR [(4,.no),pV 5<|pa (.s 5)<|pI 1],pC [.cn 13 [] (.id 83) [.fz,(.mem [.fz,.fz])] [.m 1 1,.ag [.m 1 0,.m 1 1]]] [(1,pM (.ext (.s 13) 1) 2),pV 2<|.ext (.s 13) 0,(4,.no)]] .ret,[(2,.v)]⟩
def c60:ZX [.fz] Try.f60=J Ni:=Z2
def Nv:Fn:=⟨11,[0,1,2,4,5,13,12,14,7,11,8],pQ [pR [(2,pS 0 2),(3,.m [pN,pN])],pR [(4,.m [pN,pN])],pQ [pC [.cn 9 [] (.id 95) [.fz,(.own 151)] [.mm 2 0 2,.s 1]] [pV 1<|.ext (.s 9) 1,pV 5<|pI 0,pV 6<|.len<|.ext (.s 9) 0,pV 9<|.ext (.s 9) 0]]<|po [0,1,2,3,4,5,6,9] 7 (pl (.s 5)<|.s 6) (pQ [pR [pV 8<|.ae (.ba (.s 9) (.s 5) 1) 0],pR [(10,pM (.bd (.ba (.m 2 0) (.s 8) 2) 0 2) 2)]]<|pC [.call 11 [] (.id 96) xk xw [.m 10 0,.s 1]] [(4,.m [.app (.m 4 0) (.lit [.ag [.one<|.s 11,.app pN (.m 10 1) 1]]) 2,.m 4 1])])<|pc 5,pC [.call 12 [] (.id 96) xk xw [.m 2 1,.s 1]] [(4,.m [.m 4 0,.one<|.s 12])]]<|px [(3,pM (.mm 4 0 2) 2)],[(3,(.ag 2))]⟩
def c82:Wx xP fresh sig [.fz,(.own 151)] [(1,(.own 151))] Try.f82=J Nv:=Z2
def Nw:Fn:=⟨9,[0,1,3,8,7,9,5,6,20],pQ [pR [pV 2 pF],pQ [pR [pV 3<|pI 0,pV 4<|.len<|.s 0,pV 7<|.s 0]]<|po [0,1,2,3,4,7] 5 (pl (.s 3)<|.s 4) (pQ [pR [pV 6<|.ae (.ba (.s 7) (.s 3) 1) 0],.ao ⟨[.lt 9 []<|pl (.s 6)<|pI<|-1],[([(9,xw)],pg (.s 6)<|.len<|.m 1 0)],[pV 8<|.ite (.s 9) pT<|pg (.s 6)<|.len<|.m 1 0]⟩]<|pw (.s 8)<|px [pV 2 pF])<|pc 3]<|px [pV 2 pT],[(2,.v)]⟩
def c83:Wx xP fresh sig [.fz,(.mem [.fz,.fz])] [(1,(.mem [.fz,.fz]))] Try.f83=J Nw:=Z2
def Lq:Fn:=⟨9,[0,1,2,3,4,5,6,7,17],pQ [pR [(1,.no),(2,pS 0 2),(3,.m [.s 1]),pV 4 pN],pR [(3,.m [.fh<|.m 3 0])],pR [(5,.m [pN])],pR [(6,.no)],pC [.cn 9 [] (.id 99) [.fz,(.mem [(.own 151)]),(.mem [(.own 3)])] [.m 2 1,.ag [.m 3 0],.ag [.m 5 0]]] [(3,.m [.ae (.ext (.s 9) 1) 0]),(5,.m [.ae (.ext (.s 9) 2) 0]),(6,.no)],pQ [pR [(6,.no),pV 7<|pI 0]]<|.block 0<|.loop [0,2,3,4,5,6,7]<|pQ [pQ [pR [(6,.no),pV 8<|pl (.s 7)<|.len<|.m 5 0]]<|.cond (.s 8) .skip<|.exit 0,.block 1<|pC [.cn 10 [] (.id 99) [.fz,(.mem [(.own 151)]),(.mem [(.own 3)])] [.ae (.ba (.m 2 0) (.ae (.ba (.m 5 0) (.s 7) 1) 0) 2) 0,.ag [.m 3 0],.ag [.m 5 0]]] [(3,.m [.ae (.ext (.s 10) 1) 0]),(5,.m [.ae (.ext (.s 10) 2) 0]),(6,.no)]]<|pR [(6,.no),pV 7<|pa (.s 7)<|pI 1]]<|px [pV 4<|.m 5 0,(6,.no)],[(4,.v)]⟩
def c95:Wx xP fresh sig [.fz,(.own 151)] [(3,(.mem [(.own 151)]))] Try.f95=J Lq:=Z2
def NC:Fn:=⟨10,[0,1,4,5,10,9,11,7,8,15],pQ [pR [pV 2 pN],pR [pV 3 pN],pQ [pR [pV 4<|pI 0,pV 5<|.len<|.s 0,pV 8<|.s 0]]<|po [0,1,2,3,4,5,8] 6 (pl (.s 4)<|.s 5) (pQ [pR [pV 7<|.ae (.ba (.s 8) (.s 4) 1) 0],pi 9 (pg (.s 7)<|pI 0)<|pR [pV 7<|.lk (.i .i64) (.s 1) (.s 7) (.int .i64 0) xw]]<|pR [pV 3<|.app (.s 3) (.lit [.one<|.s 7]) 1])<|pc 4]<|px [pV 2<|.s 3,(3,.no)],[(2,.v)]⟩
def c96:Wx xP fresh sig [.fz,.fz] [(4,(.own 3))] Try.f96=J NC:=Z2
def ND:Fn:=⟨11,[0,1,2,10,9,11,5,8,6,7,25],pQ [pR [pV 3<|pI 0,pV 4<|.len<|.s 0,pV 7<|.s 0]]<|po [0,1,2,3,4,7] 5 (pl (.s 3)<|.s 4) (pQ [pR [pV 6<|.ae (.ba (.s 7) (.s 3) 1) 0],pR [pV 8<|.fl<|.ext (.lk (.i .i64) (.m 1 0) (.s 6) (.int .i64 0) xk) 0,pV 9<|.fl<|.ext (.lk (.i .i64) (.m 1 0) (.s 6) (.int .i64 0) xk) 1],.ao ⟨[.lt 11 []<|pg (.s 6)<|pI 0],[([(11,xk)],.un .not<|.s 9)],[pV 10<|.ite (.s 11) (.un .not<|.s 9) pF]⟩]<|pw (.s 10)<|pQ [pR [(1,.m [.dj (.i .i64) (.m 1 0) (.s 6)<|.len<|.m 2 0])]]<|pR [(2,.m [.app (.m 2 0) (.lit [.one<|.s 6]) 1])])<|pc 3,[]⟩
def c99:Wx xP fresh sig [.fz,(.mem [(.own 151)]),(.mem [(.own 3)])] [(1,(.mem [(.own 151)])),(2,(.mem [(.own 3)]))] Try.f99=J ND:=Z2
end Vm
end
section
namespace Vm
open Go Go.Proofs
def Gr.sm(g:Gr):Prop:=I g.nodes<=100000/\I g.E<=100000/\∀n∈g.nodes,I n.M<=100000/\I n.data<=100000
def Ta(n:Nat)(p:Int):Bool:=decide (-1<=p/\p<n)
def Ri(k:Nat)(n:Nd):Bool:=decide (I n.M+I n.data<=255)&&n.M.all (Ta k)
def right(g:Gr):Bool:=decide (I g.E<=16)&&g.nodes.all (Ri<|I g.nodes)&&g.E.all (Ta<|I g.nodes)
theorem Fr{α:Type}{p}{l:List α}{i x}(h:l[i]?=J x):(l.take<|i+1).all p=((l.take i).all p&&p x):=by
 rw[ZhX,h];simp
theorem Fm{α:Type}{p}{l:List α}{i:Nat}{x}(h:l[i]?=J x)(a:p x=xw):l.all p=xw:=by
 grind
def GO{l:List Int}{ns:List V}{a:V}(g:I l<=100000)(k:a.one=xk)(j:YS a=J a):
  Vs xP 83 [.fz,.mem [.fz,.fz]] [.sl<|l.map vi,.agg [.sl ns,a]] (.am [.bool<|l.all<|Ta<|I ns,.agg [.sl ns,a]]):=by
 refine K7 Z1U follows Z2 c83 Z2 ?_;simp[-List.all_eq_true,-List.all_eq_false,Nw];refine S7 (λt=>∃i:Nat,i<=I l/\(l.take i).all (Ta<|I ns)=xk/\t=[.v<|.sl<|l.map vi,.m [.sl ns,a],.v<|.bool xw,.v<|vi i,.v<|vi<|I l,.no,.no,.v<|.sl<|l.map vi]) (λt=>match get t 3 with|.v (.int _ n)=>I l-n.toNat|_=>0) ?_ ?_;exact⟨0,Z1,Z1,Z1⟩;rintro t ⟨i,f,d,rfl⟩;by_cases h:i<I l;have o:l[i]?=J l[i]:=ZgY h;simp[-List.all_eq_true,-List.all_eq_false,h];simp(disch:=omega) only[Zy];grind [Fm,Ta,Fr];have:i=I l:=Z0;simp_all
def OG{g:Gr}(r:g.sm):VC xP 60 xw [YB g]<|.bool<|right g:=by
 obtain⟨u,j,k⟩:=r;refine ZQ Z1F follows Z2 c60 rfl ?_;simp[-List.all_eq_true,-List.all_eq_false,Ni];split;grind [List.all_eq_true,List.all_eq_false,right];rename_i h;refine S7 (λt=>∃i:Nat,i<=I g.nodes/\(g.nodes.take i).all (Ri<|I g.nodes)=xk/\t=[.v<|YB g,.m [.sl<|g.nodes.map Yk,.sl<|g.E.map vi],.v<|.bool xw,.v<|.bool xw,.no,.v<|vi i,.v<|vi<|I g.nodes,.no,.no,.v<|.sl<|g.nodes.map Yk]) (λt=>match get t 5 with|.v (.int _ n)=>I g.nodes-n.toNat|_=>0) ?_ ?_;exact⟨0,Z1,Z1,by simp[h]⟩;rintro t ⟨i,z,a,rfl⟩;by_cases d:i<I g.nodes;have A:g.nodes[i]?=J g.nodes[i]:=ZgY d;obtain⟨q,y⟩:=k _<|Zhm d;have p:=Zy ((i:Int)+1) Z0 Z0;simp[-List.all_eq_true,-List.all_eq_false,d,p];simp(disch:=omega) only[Zy];have w:Ri (I g.nodes) g.nodes[i]=xw->right g=xw:=λx=>by grind [List.all_eq_true,List.all_eq_false,right,Fm]
 by_cases l:(g.nodes[i].M.length:Int)+(g.nodes[i].data.length:Int)<=255;rw[Zhc l];refine Ua (GO q ZgR ZgR) ?_;have f:¬(255:Int)< (g.nodes[i].M.length:Int)+(g.nodes[i].data.length:Int):=Z0;cases o:g.nodes[i].M.all<|Ta<|I g.nodes;simp[-List.all_eq_true,-List.all_eq_false,f,o];simp_all[Zhd,ZjC,Ri];simp[-List.all_eq_true,-List.all_eq_false,f,o,p];grind [Fr,List.all_eq_true,List.all_eq_false,Ri];rw[Zh9 l];grind [List.all_eq_true,List.all_eq_false,Ri];have:i=I g.nodes:=Z0;subst this;simp[-List.all_eq_true,-List.all_eq_false];refine Ua (GO j ZgR ZgR) ?_;rw[ZiM]at a;simp[-List.all_eq_true,-List.all_eq_false,right,a];omega
end Vm
namespace Vm
open Go Go.Proofs
end Vm
namespace Vm
open Go Go.Proofs
def DU(n:Nat):List V:=(List.range n).map λ(i:Nat)=>vi i
def XH(id:Nat)(l:List Int):V:=.mp id (l.map vi)<|DU<|I l
def Yd:List Int->List Int->List Int
 |a,[]=>a
 |a,x::l=>Yd (if 0<=x/\x∉a then a++[x]else a) l
def AD{x}:∀ {l:List Int},TC (vi x) (l.map vi)=J (l.findIdx? (· ==x))
 | []=>rfl
 |y::l=>by
  simp only[ZhA,TC,L1,ZjR];by_cases h:x=y;subst h;simp;have a:(x==y)=xw:=ZgU;have d:(y==x)=xw:=by simpa using ZiJ h
  simp[a,d,AD]
def GK{x}{l:List Int}:l.findIdx? (· ==x)=U↔x∉l:=by
 grind
theorem IE{id l x z ok}:UE (.i .i64) (XH id l) (vi x) z ok=match l.findIdx? (· ==x)with
  |some i=>J (if ok then .am [vi i,.bool xk]else vi i)
  |none=>J (if ok then .am [z,.bool xw]else z):=by
 unfold UE XH;simp[Vg,AD];grind [List.findIdx?_eq_some_iff_getElem,DU]
def Z6x{id l x}(hx:x∉l):Td (.i .i64) (XH id l) (vi x) (vi<|I l)=J (XH id<|l++[x]):=by
 unfold Td XH;simp[Vg,AD,GK.2 hx];simp[DU,Zji]
@[simp]theorem ZeA id l:YS (XH id l)=J (XH id l):=rfl
def Mg{ns acc:List Int}{id:Nat}(q:I ns<=100000)(k:I acc<=1000000):Vs xP 99 [.fz,.mem [.own 151],.mem [.own 3]] [.sl<|ns.map vi,.agg [XH id acc],.agg [.sl<|acc.map vi]]
  (.am [.am [],.agg [XH id<|Yd acc ns],.agg [.sl<|(Yd acc ns).map vi]]):=by
 refine K7 Z28 follows Z2 c99 Z2 ?_;simp[ND];refine S7 (λt=>∃i l,i<=I ns/\Yd l (ns.drop i)=Yd acc ns/\I l<=1000000+i/\t=[.v<|.sl<|ns.map vi,.m [XH id l],.m [.sl<|l.map vi],.v<|vi (i:Nat),.v<|vi<|I ns,.no,.no,.v<|.sl<|ns.map vi]) (λt=>match get t 3 with|.v (.int _ n)=>I ns-n.toNat|_=>0) ?_ ?_;exact⟨0,acc,Z1,Z1,Z0,Z1⟩;rintro t ⟨i,l,r,f,u,rfl⟩;by_cases h:i<I ns;have p:ns.drop i=ns[i]::ns.drop (i+1):=(ZhV h);rw[p,Yd]at f;simp[h,IE];by_cases d:ns[i]∈l;have a:∃j,l.findIdx? (· ==ns[i])=J j:=by
  cases o:l.findIdx? (· ==ns[i])with
  |none=>grind
  |some j=>simp
 obtain⟨j,o⟩:=a;simp[o,WA,V.bi];simp(disch:=omega) only[Zy];grind;simp[GK.2 d,WA,V.bi];simp(disch:=omega) only[Zy];by_cases g:0<=ns[i];rw[Zhc g,Z6x d];rw[Zhc ⟨g,d⟩]at f;simp;refine⟨by grind [Y3],⟨i+1,Z0,l++[ns[i]],f,Zg1,rfl,Z1,Z1⟩,Z0⟩;grind;have:i=I ns:=Z0;simp_all[Yd]
@[simp]theorem ZcF id l:(XH id l).cells=[XH id l]:=rfl
def Good(n:Nat)(l:List Int):Prop:=l.Nodup/\∀x∈l,0<=x/\x<n
def BZ:∀(n:Nat) {l:List Int},l.Nodup->(∀x∈l,0<=x/\x<n)->I l<=n
 |0,l,_,h=>by
  obtain _|⟨x,l⟩:=l;simp;have:=h x Z1;omega
 |n+1,l,a,h=>by
  by_cases j:(n:Int)∈l;have g:=BZ n (a.erase (n:Int)) λx d=>by
   have f:=(a.mem_erase_iff).1 d;have:=h x f.2;omega
  rw[List.length_erase_of_mem j]at g;omega;have:=BZ n a λx d=>by
   have g:=h x d;have:x≠n:=ZfZ;omega
  omega
def Good.len{n l}(h:Good n l):=BZ n h.1 h.2
def TO{n}:∀ {f a:List Int},Good n a->(∀x∈f,x<n)->Good n (Yd a f)
 | [],a,h,_=>h
 |x::f,a,h,j=>by
  simp[Yd];refine TO ?_ λy d=>Zg0;split;rename_i g;refine⟨?_,λy d=> ?_⟩;rw[Zk6];exact⟨h.1,Z1,ZfZ⟩;obtain d|d:=Zht.1 d;exact h.2 y d;simp at d;subst d;exact⟨g.1,Zg0⟩;exact h
def XV(g:Gr):Nat->Nat->List Int->List Int
 |0,_,l=>l
 |f+1,i,l=>match l[i]? with
  |some x=>XV g f (i+1)<|Yd l ((g.nodes[x.toNat]?).getD default).M
  |none=>l
def order(g:Gr):List Int:=XV g (I g.nodes+1) 0<|Yd [] g.E
def Ih{n p}(h:Ta n p=xk): -1<=p/\p<n:=by grind [Ta]
def QK{g}(a:right g=xk):∀x∈g.E,-1<=x/\x<I g.nodes:=by
 simp[right,Zhd]at a;exactλx d=>Ih Zg0
def Db{g}(a:right g=xk):∀n∈g.nodes,∀x∈n.M,-1<=x/\x<I g.nodes:=by
 simp[right,Ri]at a;exactλn d x f=>Ih ZfZ
def Z7m{g:Gr}(C:g.sm)(B:right g=xk)(id:Nat)(ks vs:List V):
  Yx xP Lq.body [.v<|YB g,.v<|.mp id ks vs] (λs=>get s 4=.v (.sl<|(order g).map vi)/\get s 3=.m [XH id<|order g]) (λ_ _=>False) (λs=>get s 4=.v (.sl<|(order g).map vi)/\get s 3=.m [XH id<|order g]):=by
 obtain⟨D,q,r⟩:=C;simp[Lq];refine Ua (Mg (ns:=g.E) (acc:=[]) (id:=id) q Z1) ?_;simp;have d:=QK B;have j:Good (I g.nodes)<|Yd [] g.E:=TO ⟨Z1,Z1⟩ λx p=>(d x p).2;refine S7 (λt=>∃i l,i<=I l/\Good (I g.nodes) l/\XV g (I g.nodes+1-i) i l=order g/\t=[.v<|YB g,.no,.m [.sl<|g.nodes.map Yk,.sl<|g.E.map vi],.m [XH id l],.v<|.sl [],.m [.sl<|l.map vi],.no,.v<|vi (i:Nat)]) (λt=>match get t 7 with|.v (.int _ n)=>I g.nodes-n.toNat|_=>0) ?_ ?_;exact⟨0,_,Z1,j,rfl,Z1⟩;rintro t ⟨i,l,K,u,A,rfl⟩;have z:=u.len;by_cases h:i<I l;obtain⟨G,M⟩:=u.2 _<|Zhm h;obtain⟨k,w⟩:=Zhf G;have o:k<I g.nodes:=Z0;have p:l[i]?=J (k:Int):=by rw[ZgY h,w]
 simp[h,w,o];refine Ua (Mg (r _<|Zhm o).1 Z0) ?_;simp;simp(disch:=omega) only[Zy];have a:Good (I g.nodes)<|Yd l g.nodes[k].M:=TO u λx p=>(Db B _ (Zhm o) x p).2;refine⟨⟨i+1,_,?_,a,?_,rfl,rfl,Z1⟩,Z0⟩;have:∀ {ns acc:List Int},I acc<=I (Yd acc ns):=by
  intro ns;induction ns with
  |nil=>simp_all[Yd]
  |cons y ns L=>
   intro acc;simp only[Yd];grind
 grind;rw[show I g.nodes+1-i=(I g.nodes+1- (i+1))+1 by omega,XV,p]at A;simp_all;have:i=I l:=Z0;subst this;have F:l=order g:=by
  rw[<-A];cases H:I g.nodes+1-(I l) with
  |zero=>omega
  |succ f=>simp[XV]
 simp_all
def Z7l{g:Gr}(hg:g.sm)(hr:right g=xk)(id:Nat)(ks vs:List V):Vs xP 95 [.fz,.own 151] [YB g,.mp id ks vs]<|.am [.sl<|(order g).map vi,XH id<|order g]:=by
 refine⟨Z2,λB w h us a9 hA=> ?_⟩;obtain⟨b6,a1,a2⟩:=hA;obtain⟨d8,T,b0⟩:=a2 1 (.own 151) (.mp id ks vs) rfl rfl;simp only[Wr,ZgX]at T;subst T;obtain⟨x1,W,R⟩:=b0;simp only[eval,ZgX]at W;subst W;obtain⟨_,_,hl,_⟩|⟨d0,d6,e0,b,es,Y,he,hv,a5,hB,hid,hh,h1,h2,h3,h4⟩:=R;cases hl;cases he;have a0:zq xP B w h [.fz,.own 151] [YB g,.mp (b+1) ks vs] us:=by
  refine⟨rfl,a1,λi k x f j=> ?_⟩
  match i,f,j with
  |0,f,j=>grind
  |1,f,j=>
   simp at f j;subst f j;exact⟨_,rfl,_,rfl,.inr ⟨b+1,ks,vs,b,es,Y,rfl,hv,a5,hB,.inr rfl,hh,h1,h2,h3,h4⟩⟩
  |i+2,f,j=>simp at f
 refine yn (cf:=Lq) (fin:=[(3,.mem [.own 151])]) (xs:=[YB g,.mp (b+1) ks vs]) (Rt:=λs=>get s 4=.v (.sl<|(order g).map vi)/\get s 3=.m [XH (b+1)<|order g]) Z26 follows c95 (Z7m hg hr (b+1) ks vs) a9 a0 λc s S a w' h' hP b8 O z M r p hK o l=> ?_;rw[<-hP]at l z⊢;simp only[Rl,Zh1,Zhd]at l;obtain⟨A,a7⟩:=l;obtain⟨d,a8⟩:=zt r p a7;have Q:c.ix 3=3:=O 3 Zgg;have hr:Wp s (LH c.P c.ix Try.f95)=J (.sl<|(order g).map vi):=by
  rw[<-z];simp[Lq,M.1]
 obtain⟨v,b1,b4⟩:=LI (D:=(h'.drop<|Ui S [(3,.mem [.own 151])]).F) r p (λb hb=>.inl hb) (λq hq=>by
  have h1:=A q hq;have h2:=Zhd.1 (Z2:Ox Try.f95 [(3,.mem [.own 151])]=xk) q hq;refine⟨h1,λi b hb=>.inr ⟨Rz q,i+1,?_,Z0,hb⟩⟩;simp_all[Ui,ZkJ,Rz]) hr
 obtain⟨u,hu,b3,d9,T3,e1,e2,e3,e4,e5⟩:=d.aa 3 (by grind [YA,Yt]) ZgR;obtain⟨X,hX,C⟩:=e5 0 (.own 151,.m (c.ix 3) 0) rfl;have a3:X=XH (b+1) (order g):=by
  simp only[eval,Q,M.2]at hX;simpa using hX.symm
 subst a3;obtain⟨_,_,hl,_⟩|⟨d5,d7,e6,H,Z,L,N,c0,n,b7,b5,a6,q1,q2,q3,q4⟩:=C;cases hl;simp only[XH,V.mp.injEq]at N;obtain⟨rfl,rfl,rfl⟩:=N;have a4:H=b:=Z0;subst a4;obtain⟨r1,r2,r3⟩:=d.ok.aq 3 1 H n
 refine⟨v,b1,v,.sl<|(order g).map vi,[.bool xw,XH id<|order g],{F:=(h'.drop<|Ui S [(3,.mem [.own 151])]).F,bl:=λt i=>if t=1/\i=1 then J H else U,K:=h'.K},rfl,o.below,o.same,
  ⟨d.ok.base,d.ok.bo,d.ok.cr,d.ok.fj,λt i x j=> ?_,λt i t' i' x j c1=> ?_,d.ok.co,λt i x j=> ?_,d.ok.fk⟩,hK,b4,⟨rfl,λi k y f b9 G=> ?_⟩,rfl⟩
 grind;grind;simp only at j;split at j;simp only[ZgX]at j;subst j;exact d.ok.cj 3 1 H n;cases j
 match i,f,G with
 |0,f,G=>grind
 |1,f,G=>
  simp at f G;subst f G;exact⟨_,rfl,_,rfl,.inr ⟨id,_,_,H,Z,L,rfl,hv,Z1,hB,hid,a6,q1,q2,q3,q4⟩⟩
 |i+2,f,G=>simp at f
end Vm
namespace Vm
open Go Go.Proofs
def Q1(l:List Int)(p:Int):Int:=match l.findIdx? (· ==p)with
 |some i=>(i:Nat)
 |none=>0
def Vk(l a:List Int):List Int:=a.map λp=>if 0<=p then Q1 l p else p
def J7(g:Gr)(l:List Int)(x:Int):Nd:=let n:=(g.nodes[x.toNat]?).getD default;⟨Vk l n.M,n.data⟩
def Xb(g:Gr):Gr:=⟨(order g).map<|J7 g<|order g,Vk (order g) g.E⟩
def Z5Q{id l x}:UE (.i .i64) (XH id l) (vi x) (vi 0) xw=J (vi<|Q1 l x):=by
 grind [IE,Q1]
def Z3N{l:List Int}:∀c∈flat (l.map vi),c.bi=xk:=by
 intro c d;simp[flat,Zhl]at d;obtain⟨y,⟨a,_,rfl⟩,d⟩:=d;have:c=vi a:=by simpa[V.cells]using d
 subst this;rfl
def M4{a l:List Int}{id:Nat}(o:I a<=100000):VC xP 96 xk [.sl<|a.map vi,XH id l]<|.sl<|(Vk l a).map vi:=by
 refine Zb0 (t:=4) (ty:=3) Z27 follows Z2 rfl c96 rfl Z3N ?_;simp[NC];refine S7 (λt=>∃i:Nat,i<=I a/\t=[.v<|.sl<|a.map vi,.v<|XH id l,.v<|.sl [],.v<|.sl<|(Vk l<|a.take i).map vi,.v<|vi i,.v<|vi<|I a,.no,.no,.v<|.sl<|a.map vi]) (λt=>match get t 4 with|.v (.int _ n)=>I a-n.toNat|_=>0) ?_ ?_;exact⟨0,Z1,by simp[Vk]⟩;rintro t ⟨i,k,rfl⟩;by_cases h:i<I a;have j:a[i]?=J a[i]:=ZgY h;have d:Vk l (a.take<|i+1)=Vk l (a.take i)++[if 0<=a[i]then Q1 l a[i]else a[i]]:=by
  unfold Vk;rw[ZhX,j,Zig];rfl
 have g:I (Vk l<|a.take i)<=100000:=by simp[Vk];omega
 simp[h];simp(disch:=omega) only[Zy];by_cases f:0<=a[i];simp[f,Z5Q];refine⟨Zgt,⟨i+1,Z0,by rw[d];simp[f],Z1⟩,Z0⟩;simp[f];refine⟨Zgt,⟨i+1,Z0,by rw[d];simp[f],Z1⟩,Z0⟩;have:i=I a:=Z0;subst this;simp
def MC{g}(d:right g=xk):∀ {f i} {l:List Int},Good (I g.nodes) l->Good (I g.nodes) (XV g f i l)
 |0,i,l,h=>h
 |f+1,i,l,h=>by
  simp[XV];split;rename_i x k;refine MC d (TO h λy j=> ?_);let⟨n,o⟩:=h.2 x ZfZ;have a:x.toNat<I g.nodes:=Z0;rw[ZgY a]at j;exact(Db d _ Z1 y j).2;exact h
def Cd{g}(a:right g=xk):Good (I g.nodes)<|order g:=
 MC a (TO ⟨Z1,Z1⟩ λx d=>(QK a x d).2)
def Z30{g:Gr}(p:g.sm)(r:right g=xk)(id:Nat)(ks vs:List V):Vs xP 82 [.fz,.own 151] [YB g,.mp id ks vs]<|.am [YB<|Xb g,XH id<|order g]:=by
 refine K7 Z1T follows Z2 c82 Z2 ?_;simp[Nv];refine Ua (Z7l p r id ks vs) ?_;simp;obtain⟨u,j,o⟩:=p;have a:=Cd r;have f:=a.len;generalize A:order g=l at a f;refine S7 (λt=>∃i:Nat,i<=I l/\t=[.v<|YB g,.v<|XH id l,.m [.sl<|g.nodes.map Yk,.sl<|g.E.map vi],.m [.sl [],.sl []],.m [.sl<|((l.take i).map<|J7 g l).map Yk,.sl []],.v<|vi i,.v<|vi<|I l,.no,.no,.v<|.sl<|l.map vi]) (λt=>match get t 5 with|.v (.int _ n)=>I l-n.toNat|_=>0) ?_ ?_;exact⟨0,Z1,Z1⟩;rintro t ⟨i,z,rfl⟩;by_cases h:i<I l;have B:l[i]?=J l[i]:=ZgY h;obtain⟨y,D⟩:=a.2 _<|Zhm h;obtain⟨k,q⟩:=Zhf y;have d:k<I g.nodes:=Z0;obtain⟨x,C⟩:=o _<|Zhm d;simp[h,q,d];refine Zz (M4 x) Z1 ?_;simp;simp(disch:=omega) only[Zy];have w:V.agg [V.sl<|List.map vi<|Vk l g.nodes[k].M,V.sl<|List.map vu g.nodes[k].data]=Yk (J7 g l l[i]):=by
  simp[J7,q,d,Yk]
 refine⟨by grind [Y3],by grind [Y3],⟨i+1,Z0,?_,Z1⟩,Z0⟩;simp_all[ZhX,Zhq];have:i=I l:=Z0;simp_all;refine Zz (M4 j) Z1 ?_;simp_all[Xb,YB]
def Z2Z{g}(h:g.sm)(o:right g=xk):(Xb g).sm:=by
 let⟨j,k,l⟩:=h;have a:=Cd o;have d:=a.len;refine⟨by grind [Xb],by simp_all[Xb,Vk],λn f=> ?_⟩;simp[Xb]at f;obtain⟨x,p,rfl⟩:=f;let⟨q,r⟩:=a.2 x p;simp_all[Zhm,J7,Vk]
def UF:Gr:=⟨[],[]⟩
def Vc(g:Gr):V:=if right g=xk then .am [YB<|Xb g,vi 0]else .am [YB UF,vi 1]
def Z0B{g:Gr}(a:g.sm):VC xP 59 xw [YB g]<|Vc g:=by
 refine ZQ Z1E follows Z2 c59 rfl ?_;simp[Nh];refine Zz (OG a) Z1 ?_;cases d:right g;simp[Vc,d,UF,YB];simp;refine Ua (Z30 a d 0 [] []) ?_;simp_all[Vc,YB]
end Vm
namespace Vm
open Go Go.Proofs
end Vm
end
section
namespace Vm
open Go Go.Proofs
def g0:Gr:=⟨[⟨[],[]⟩,⟨[],[4]⟩,⟨[1],[]⟩,⟨[],[]⟩],[2,0]⟩
def g1:Gr:=⟨[],[0]⟩
def g2:Gr:=⟨[],[-1,-1]⟩
end Vm
end
section

end
section
namespace Vm
open Go Go.Proofs
def outs(g:Gr)(x:Int):List Int:=((g.nodes[x.toNat]?).getD default).M
def Me:∀(a:Z8) {d b:Z8},Yd d (a++b)=Yd (Yd d a) b
 | [],_,_=>rfl
 |x::a,d,b=>by simp only[Zid,Yd];exact Me a
def qi:∀(l:Z8) {acc:Z8},∃t,Yd acc l=acc++t
 | [],acc=>⟨[],by simp[Yd]⟩
 |x::l,acc=>by
  simp only[Yd];obtain⟨t,a⟩:=qi l (acc:=if 0<=x/\x∉acc then acc++[x]else acc);rw[a];split;exact⟨x::t,Z1⟩;exact⟨t,rfl⟩
def Qx:∀ {l d:Z8} {x:Int},x∈Yd d l↔x∈d\/(x∈l/\0<=x)
 | [],d,x=>by simp[Yd]
 |y::l,d,x=>by
  simp only[Yd,Qx (l:=l),Zho];split;rename_i h;simp only[Zht,Zi7];constructor;rintro((a|rfl)|a);exact .inl a;exact .inr ⟨.inl rfl,h.1⟩;exact .inr ⟨.inr a.1,a.2⟩;rintro(a|⟨rfl|a,f⟩);exact .inl<|.inl a;exact .inl<|.inr rfl;exact .inr ⟨a,f⟩;rename_i h;constructor;rintro(a|a);exact .inl a;exact .inr ⟨.inr a.1,a.2⟩;rintro(a|⟨rfl|a,f⟩);exact .inl a;exact .inl (by by_cases g:x∈d;exact g;exact(h ⟨f,g⟩).elim);exact .inr ⟨a,f⟩
def yu{g:Gr}(f:right g=xk)(x:Int):∀y∈outs g x,-1<=y/\y<I g.nodes:=by
 intro y a;unfold outs at a;cases d:g.nodes[x.toNat]? with
 |none=>rw[d]at a;cases a
 |some n=>rw[d]at a;exact Db f n (Zha d) y a
def ME{g:Gr}(n:right g=xk):∀ {f i:Nat} {l:Z8},Good (I g.nodes) l->i<=I l->I g.nodes<f+i->l=Yd [] (g.E++(l.take i).flatMap (outs g))->
  XV g f i l=Yd [] (g.E++(XV g f i l).flatMap (outs g))
 |0,i,l,j,p,o,a=>by have:=j.len;omega
 |f+1,i,l,j,p,o,a=>by
  simp only[XV];cases d:l[i]? with
  |none=>
   have:I l<=i:=Zge;rw[Zi9 this]at a;exact a
  |some x=>
   have q:i<I l:=by
    obtain h|h:=Zlj i<|I l;exact h;rw[ZhZ h]at d;cases d
   obtain⟨t,k⟩:=qi (outs g x) (acc:=l);refine ME n (TO j λy r=>(yu n x y r).2) ?_ Z0 ?_;show i+1<=I (Yd l<|outs g x);rw[k,ZhJ];omega;show Yd l (outs g x)=Yd [] (g.E++((Yd l<|outs g x).take<|i+1).flatMap (outs g));rw[k,Zkg Z0,ZhX,d,<-k];simp only[ZiW,Option.toList,<-ZhM];rw[Me,<-a];simp
def MF{g:Gr}(a:right g=xk):order g=Yd [] (g.E++(order g).flatMap (outs g)):=by
 refine ME a (TO ⟨List.nodup_nil,Z1⟩ λy d=>(QK a y d).2) (Zik _) Z0 ?_;simp
def N6:Fn:=⟨10,[0,1,2,8,3,12,11,13,5,10],pQ [pR [(1,pS 0 2),pV 2<|pI 0],pQ [pC [pK 10 60 [.mm 1 0 2]] [pV 3<|.un .not<|.s 10]]<|pw (.s 3)<|px [pV 2<|pI 0],pR [pV 4<|pI 0],pQ [pR [pV 5<|pI 0,pV 6<|.len<|.m 1 0,pV 9<|.m 1 0]]<|po [0,1,2,3,4,5,6,9] 7 (pl (.s 5)<|.s 6) (pQ [pR [(8,pM (.bd (.ba (.s 9) (.s 5) 2) 0 2) 2)]]<|pR [pV 4<|pa (.s 4)<|pa (pa (pI 1)<|.len<|.m 8 0)<|.len<|.m 8 1])<|pc 5]<|px [pV 2<|.s 4],[(2,.v)]⟩
def c39:ZX [.fz] Try.f39=J N6:=Z2
end Vm
end
section
namespace Vm
open Go Go.Proofs
def JE(n:Nd):Nat:=1+I n.M+I n.data
def Uq(l:List Nd):Nat:=(l.map JE).sum
def words(g:Gr):Nat:=if right g=xk then Uq g.nodes else 0
def Zbr{l:List Nd}{i:Nat}{x:Nd}(h:l[i]?=J x):Uq (l.take<|i+1)=Uq (l.take i)+JE x:=by
 unfold Uq;rw[ZhX,h,Zig,Zl5];simp
def Zbq{l:List Nd}(h:∀n∈l,I n.M<=100000/\I n.data<=100000)(i:Nat):Uq (l.take i)<=I l*200001:=by
 have:∀ {l:List Nd},(∀n∈l,I n.M<=100000/\I n.data<=100000)->Uq l<=I l*200001:=by
  intro l;induction l with
  |nil=>intro _;simp[Uq]
  |cons x l f=>
   intro h;have g:=f λn a=>h n (by simp[a]);have j:=h x Z1;have k:JE x<=200001:=by unfold JE;omega
   have d:Uq (x::l)=JE x+Uq l:=by simp[Uq]
   rw[d,Zie,Zii];omega
 refine Zhu (this λn a=>h n<|Zi1 a)<|ZhH _ ?_;rw[Zi4];omega
def Z2c{g:Gr}(l:g.sm):VC xP 39 xw [YB g]<|vi<|words g:=by
 refine ZQ Z1t follows Z2 c39 rfl ?_;simp[N6];refine Zz (OG l) Z1 ?_;cases p:right g;simp[words,p];obtain⟨d,r,a⟩:=l;simp;refine S7 (λt=>∃i:Nat,i<=I g.nodes/\t=[.v<|YB g,.m [.sl<|g.nodes.map Yk,.sl<|g.E.map vi],.v<|vi 0,.v<|.bool xw,.v<|vi (Uq (g.nodes.take i):Nat),.v<|vi i,.v<|vi<|I g.nodes,.no,.no,.v<|.sl<|g.nodes.map Yk]) (λt=>match get t 5 with|.v (.int _ n)=>I g.nodes-n.toNat|_=>0) ?_ ?_;exact⟨0,Z1,by simp[Uq]⟩;rintro t ⟨i,B,rfl⟩;by_cases h:i<I g.nodes;have y:g.nodes[i]?=J g.nodes[i]:=ZgY h;obtain⟨z,A⟩:=a _<|Zhm h;have q:=Zbr y;have u:=Zbq a<|i+1;have o:I g.nodes*200001<=100000*200001:=ZhH _ d;simp[h];generalize g.nodes[i]=x at*;have w:=Zy ((i:Int)+1) Z0 Z0;have f:=Zy (1+(I x.M:Int)) Z0 Z0;have j:=Zy (1+(I x.M:Int)+I x.data) Z0 Z0;unfold JE at q;have k:=Zy ((Uq (g.nodes.take i):Int)+(1+(I x.M:Int)+I x.data)) Z0 Z0;simp[w,f,j,k];exact⟨⟨i+1,Z0,by rw[q];omega,Z1⟩,Z0⟩;have:i=I g.nodes:=Z0;subst this;simp[words,p]
@[simp]theorem Zfx{α β:Type}{f:α->β}{l:List α}:(l.map f).take (I l)=l.map f:=Zi9 (by simp)
end Vm
namespace Vm
open Go Go.Proofs
def qk{f:Int->Int}:∀ {o l:List Int},(∀x∈Yd l o,∀y∈Yd l o,f x=f y->x=y)->(∀x∈Yd l o,0<=f x)->(∀x∈o,x<0->f x<0)->Yd (l.map f) (o.map f)=(Yd l o).map f
 | [],l,_,_,_=>rfl
 |y::o,l,d,g,k=>by
  simp only[ZhA,Yd];simp only[Yd]at d g;by_cases j:0<=y/\y∉l;rw[Zhc j]at d g⊢;have h:y∈Yd (l++[y]) o:=Qx.2<|.inl Z1
  have a:0<=f y/\f y∉l.map f:=⟨g y h,λu=>by
   obtain⟨z,p,t⟩:=Zhl.1 u;have:=d z (Qx.2<|.inl (by simp[p])) y h t;subst this;exact j.2 p⟩
  rw[Zhc a,show l.map f++[f y]=(l++[y]).map f by simp];exact qk d g λx n=>k x (by simp[n]);rw[Zh9 j]at d g⊢;have a:¬(0<=f y/\f y∉l.map f):=by
   rintro⟨w,r⟩;by_cases q:0<=y;exact r<|Zhl.2 ⟨y,by by_cases h:y∈l;exact h;exact(j ⟨q,h⟩).elim,rfl⟩;have:=k y Z1 Z0;omega
  rw[Zh9 a];exact qk d g λx n=>k x (by simp[n])
def Cc{g:Gr}:∀ {F i:Nat} {l:List Int},∃t,XV g F i l=l++t
 |0,i,l=>⟨[],by simp[XV]⟩
 |F+1,i,l=>by
  simp only[XV];cases l[i]? with
  |none=>exact⟨[],Z1⟩
  |some x=>
   obtain⟨t,d⟩:=qi ((g.nodes[x.toNat]?).getD default).M (acc:=l);obtain⟨f,a⟩:=Cc (g:=g) (F:=F) (i:=i+1) (l:=Yd l ((g.nodes[x.toNat]?).getD default).M);refine⟨t++f,?_⟩;show XV g F (i+1) (Yd l ((g.nodes[x.toNat]?).getD default).M)=_;rw[a,d,ZhM]
def Cb{g:Gr}(d:right g=xk):∀ {F i:Nat} {l:List Int} (k:Nat),Good (I g.nodes) l->I g.nodes<F+i->XV g (F+k) i l=XV g F i l
 |0,i,l,k,a,f=>by
  have:=a.len;cases k with
  |zero=>rfl
  |succ k=>
   simp only[ZhN,XV];rw[ZhZ Z0]
 |F+1,i,l,k,a,f=>by
  rw[show F+1+k=(F+k)+1 by omega];simp only[XV];cases j:l[i]? with
  |none=>rfl
  |some x=>
   exact Cb d k (TO a λy h=>(yu d x y h).2) Z0
def MD{g h:Gr}{f:Int->Int}(d:∀x∈order g,(h.nodes[(f x).toNat]?).map (·.M)=J ((outs g x).map f))(n:∀x∈order g,∀y∈outs g x,y<0->f y<0)(k:∀x∈order g,∀y∈order g,f x=f y->x=y)(o:∀x∈order g,0<=f x):
  ∀ {F i:Nat} {l:List Int},(∀x∈XV g F i l,x∈order g)->XV h F i (l.map f)=(XV g F i l).map f
 |0,i,l,_=>rfl
 |F+1,i,l,q=>by
  simp only[XV,Zhq];simp only[XV]at q;cases A:l[i]? with
  |none=>rfl
  |some x=>
   rw[A]at q;simp only[Zhs];simp only at q;have u:x∈order g:=by
    obtain⟨t,C⟩:=qi ((g.nodes[x.toNat]?).getD default).M (acc:=l);obtain⟨G,p⟩:=Cc (g:=g) (F:=F) (i:=i+1) (l:=Yd l ((g.nodes[x.toNat]?).getD default).M);refine q x ?_;rw[p,C];simp[Zha A]
   have r:=d x u;cases z:h.nodes[(f x).toNat]? with
   |none=>rw[z]at r;cases r
   |some H=>
    rw[z]at r;simp only[Zhs,ZgX]at r;simp only[Zhw,r];have j:∀y∈Yd l (outs g x),y∈order g:=λy D=>by
     obtain⟨G,p⟩:=Cc (g:=g) (F:=F) (i:=i+1) (l:=Yd l<|outs g x);refine q y ?_;show y∈XV g F (i+1) (Yd l<|outs g x);rw[p];simp[D]
    rw[qk (λa w b B=>k a (j a w) b<|j b B) (λa w=>o a<|j a w)<|n x u];exact MD d n k o q
def yS{g:Gr}(d:right g=xk){x:Int}(hx:x∈g.E)(a:0<=x):x∈order g:=by
 rw[MF d,Qx];exact .inr ⟨by simp[hx],a⟩
def Z5P{g:Gr}(d:right g=xk){x y:Int}(hx:x∈order g)(f:y∈outs g x)(a:0<=y):y∈order g:=by
 rw[MF d,Qx];exact .inr ⟨Zjy _<|Zjn.2 ⟨x,hx,f⟩,a⟩
def Z2o{L:List Int}{f:Int->Int}{p:Int}(d:∀x∈L,f x=f p->x=p):Q1 (L.map f) (f p)=Q1 L p:=by
 unfold Q1;rw[List.findIdx?_map];have:L.findIdx? ((λx=>x==f p)∘f)=L.findIdx? (λx=>x==p):=by
  induction L with
  |nil=>rfl
  |cons a L k=>
   simp only[ZjR,Function.comp];have g:(f a==f p)=(a==p):=by
    rw[Zkn];simp only[ZhQ];exact⟨d a Z1,λe=>by rw[e]⟩
   have h:=k λx j=>d x (by simp[j]);simp only[g];rw[h]
 rw[this]
def Z2Y{g h:Gr}(o:right g=xk)(L:right h=xk)(f:Int->Int)(P:f (-1)= -1)(q:∀x∈order g,∀y∈order g,f x=f y->x=y)(r:∀x∈order g,0<=f x)
  (n:h.E=g.E.map f) (k:∀x∈order g,h.nodes[(f x).toNat]?=J ⟨(outs g x).map f,((g.nodes[x.toNat]?).getD default).data⟩):
  order h=(order g).map f/\Xb h=Xb g:=by
 have z:∀x:Int,-1<=x->x<0->f x=x:=λx C D=>by
  have:x= -1:=Z0;subst this;exact P
 have w:∀x∈order g,(h.nodes[(f x).toNat]?).map (·.M)=J ((outs g x).map f):=λx a=>by rw[k x a];rfl
 have G:order h=(order g).map f:=by
  have t:Good (I g.nodes)<|Yd [] g.E:=TO ⟨Z1,Z1⟩ λx a=>(QK o x a).2;have u:Good (I h.nodes)<|Yd [] h.E:=TO ⟨Z1,Z1⟩ λx a=>(QK L x a).2;have C:=Cb o (F:=I g.nodes+1) (i:=0) (I h.nodes) t Z0;have D:=Cb L (F:=I h.nodes+1) (i:=0) (I g.nodes) u Z0;have M:=MD (f:=f) w (λx a y B d=>by rw[z y (yu o x y B).1 d];exact d) q r (F:=I g.nodes+1+I h.nodes) (i:=0) (l:=Yd [] g.E) (λx a=>by rw[C]at a;exact a);have N:Yd [] h.E=(Yd [] g.E).map f:=by
   rw[n];refine qk (l:=[]) (λx a y B=> ?_) (λx a=> ?_) (λx a d=> ?_);rw[Qx]at a B;simp at a B;exact q x (yS o a.1 a.2) y<|yS o B.1 B.2;rw[Qx]at a;simp at a;exact r x<|yS o a.1 a.2;rw[z x (QK o x a).1 d];exact d
  unfold order;rw[<-D,<-C,N,<-M];congr 1;omega
 refine⟨G,?_⟩;have j:∀H:List Int,(∀p∈H,-1<=p/\(0<=p->p∈order g))->Vk (order h) (H.map f)=Vk (order g) H:=by
  intro H K;unfold Vk;rw[Zjx];refine ZiH λp A=> ?_;obtain⟨C,D⟩:=K p A;simp only[Function.comp];by_cases d:0<=p;rw[Zhc<|r p<|D d,Zhc d,G];exact Z2o λx a O=>q x a p (D d) O;rw[z p C Z0];rw[Zh9 d,Zh9 d]
 unfold Xb;congr 1;rw[G,Zjx];refine ZiH λx a=> ?_;simp only[Function.comp,J7,k x a,Zhw];congr 1;rw[<-G];exact j _ λp A=>⟨(yu o x p A).1,λd=>Z5P o a A d⟩;rw[n];exact j _ λp A=>⟨(QK o p A).1,λd=>yS o A d⟩
end Vm
end
section

end
section
namespace Vm
open Go Go.Proofs
structure Fo where
 ob:Ob
 ad:Int
 sl:List Int
 deriving Inhabited
def Xh(f:Fo):V:=.agg [vi f.ob.aa,vi f.ob.size,vi f.ob.M,.bool f.ob.gone,vu f.ob.target,vu f.ad,.sl<|f.sl.map vu]
@[simp]theorem ZdX(f:Fo):(Xh f).cells=[vi f.ob.aa,vi f.ob.size,vi f.ob.M,.bool f.ob.gone,vu f.ob.target,vu f.ad,.sl<|f.sl.map vu]:=rfl
@[simp]theorem Zfo(f:Fo):VI (Xh f) 7=J (Xh f):=rfl
@[simp]theorem ZdQ(f:Fo):UA (Xh f) 0 7=J (Xh f):=rfl
@[simp]theorem Zd4(f:Fo):ZZ (Xh f) 0=J (vi f.ob.aa):=rfl
@[simp]theorem Zd5(f:Fo):ZZ (Xh f) 1=J (vi f.ob.size):=rfl
@[simp]theorem Zd6(f:Fo):ZZ (Xh f) 2=J (vi f.ob.M):=rfl
@[simp]theorem Zd7(f:Fo):ZZ (Xh f) 3=J (.bool f.ob.gone):=rfl
@[simp]theorem Zd8(f:Fo):ZZ (Xh f) 4=J (vu f.ob.target):=rfl
@[simp]theorem Zd9(f:Fo):ZZ (Xh f) 5=J (vu f.ad):=rfl
@[simp]theorem Zda(f:Fo):ZZ (Xh f) 6=J (.sl<|f.sl.map vu):=rfl
@[simp]theorem Zfc(l:List Fo):Xv 7 (l.map Xh)=xk:=K1 λ_=>rfl
structure Vw where
 ns:List Fo
 nm:List<|Int×Int
 tm:List<|Int×Int
 deriving Inhabited
def Vw.put(s:Vw)(f:Fo):Vw:=if f.ob.gone then {s with tm:=XX s.tm f.ad f.ob.target}else {s with ns:=s.ns++[f],nm:=XX s.nm f.ad (I s.ns)}
def Vw.df(s:Vw)(w:Int):Int:=if w=0 then-1 else(Y5 s.nm<|(Y5 s.tm (adr w).1).getD (adr w).1).getD 0
def Te(s:Vw)(f:Fo):Nd:=⟨(f.sl.take f.ob.M.toNat).map s.df,f.sl.drop f.ob.M.toNat⟩
def Vw.gr(s:Vw)(a:Z8):Gr:=⟨s.ns.map<|Te s,a.map s.df⟩
def Fd(s:Vw){ws:Z8}(B:I ws<=1000000)(x:∀w∈ws,ZC w):
  Vs xP 57 [.fz,.mem [.fz],.mem [.fz]] [.sl<|ws.map vu,.agg [Yh vu s.tm],.agg [Yh vi s.nm]] (.am [.sl<|(ws.map s.df).map vi,.agg [Yh vu s.tm],.agg [Yh vi s.nm]]):=by
 refine K7 Z1D follows Z2 cTo Z2 ?_;simp[NE];refine VL 5 (I ws) (λi=>[(4,.v<|.sl<|((ws.take i).map s.df).map vi),(5,.v<|vi i)]) (λ_=>True) Z1 Z1 trivial ?_;intro i A _;by_cases h:i<I ws;have y:ws[i]?=J ws[i]:=ZgY h;have r:=x _<|Zhm h;have o:=Zy ((i:Int)+1) Z0 Z0;have q:List.take (i+1) (List.map (vi∘s.df) ws)=List.take i (List.map (vi∘s.df) ws)++[vi<|s.df ws[i]]:=by
  rw[ZhX,Zhq,y];rfl
 have a:min i (I ws)+1<=Y3:=by unfold Y3;omega
 simp[h,o,q,a];split;simp_all[Vw.df];rename_i p;refine Zz (Kl r) Z1 ?_;have j:=Qr (f:=vu) (l:=s.tm) (k:=(adr ws[i]).1) (z:=.int .u64 0) (ok:=xk);cases n:Y5 s.tm (adr ws[i]).1 with
 |none=>
  rw[n]at j;have d:=Qr (f:=vi) (l:=s.nm) (k:=(adr ws[i]).1) (z:=.int .i64 0) (ok:=xw);cases g:Y5 s.nm (adr ws[i]).1 with
  |none=>rw[g]at d;simp[j,d,Vw.df,p,n,g,o,a]
  |some t=>rw[g]at d;simp[j,d,Vw.df,p,n,g,o,a]
 |some u=>
  rw[n]at j;have d:=Qr (f:=vi) (l:=s.nm) (k:=u) (z:=.int .i64 0) (ok:=xw);cases g:Y5 s.nm u with
  |none=>rw[g]at d;simp[j,d,Vw.df,p,n,g,o,a]
  |some t=>rw[g]at d;simp[j,d,Vw.df,p,n,g,o,a]
 have:i=I ws:=Z0;simp_all
def Z8x{s:St}{st:Vw}{f:Fo}{N R:St->Prop}{X:Nat->St->Prop}(o:get s 6=.v (.sl<|st.ns.map Xh))(p:get s 7=.m [Yh vi st.nm])(q:get s 8=.m [Yh vu st.tm])(h:get s 12=.v (.am [Xh f,.bool xk]))(g:get s 10=.v (.bool xk))(u:I st.ns<=4000000)
  (r:∀a,get a 6=.v (.sl<|(st.put f).ns.map Xh)->get a 7=.m [Yh vi (st.put f).nm]->get a 8=.m [Yh vu (st.put f).tm]->get a 1=get s 1->get a 2=get s 2->get a 3=get s 3->N a):Yx xP rD s N X R:=by
 have j:=L6 (f:=vu) (l:=st.tm) (k:=f.ad) (x:=f.ob.target);have n:=L6 (f:=vi) (l:=st.nm) (k:=f.ad) (x:=(I st.ns:Int));have d:I st.ns+1<=Y3:=by unfold Y3;omega
 cases t:f.ob.gone;simp_all[rD,YZ,Vw.put,Xh];simp_all[rD,YZ,Vw.put]
def Z8w{s:St}{N R:St->Prop}{X:Nat->St->Prop}(a:get s 10=.v (.bool xw))(d:X 0 s):Yx xP rD s N X R:=by
 simp[rD,a,d]
structure Vw.sm (st:Vw) (roots:List Int):Prop where
 n:I st.ns<=100000
 f:∀f∈st.ns,0<=f.ob.M/\f.ob.M<=I f.sl/\I f.sl<=100000/\∀w∈f.sl,ZC w
 r:I roots<=100000/\∀w∈roots,ZC w
def Vw.sm.gr{st:Vw}{a:Z8}(h:st.sm a):(st.gr a).sm:=by
 refine⟨by simpa[Vw.gr]using h.n,by simpa[Vw.gr]using h.r.1,λn d=> ?_⟩;simp only[Vw.gr,Zhl]at d;obtain⟨f,g,rfl⟩:=d;obtain⟨_,_,j,_⟩:=h.f f g;grind [Te,List.length_map,List.length_take,List.length_drop]
def Z8v{s:St}{st:Vw}{roots:Z8}{b c t y sc:V}{K L M O:V}{N R:St->Prop}{X:Nat->St->Prop}(k:st.sm roots)(x:get s 1=.m [b,c,t,y,sc,K,L,M,O,.sl<|roots.map vu])(o:get s 6=.v (.sl<|st.ns.map Xh))(z:get s 7=.m [Yh vi st.nm])(A:get s 8=.m [Yh vu st.tm])
  (a:∀D,Wp D [(2,.ag 2),(3,.v)]=J (Vc<|st.gr roots)->R D):Yx xP rC s N X R:=by
 simp[rC,o,YZ];refine VL 16 (I st.ns) (λi=>[(15,.m [.sl<|((st.ns.take i).map<|Te st).map Yk,.sl []]),(16,.v<|vi i)]) (λ_=>True) (by simp[YZ]) (by simp[YZ]) trivial ?_;intro i Q _;by_cases h:i<I st.ns;have G:st.ns[i]?=J st.ns[i]:=ZgY h;obtain⟨H,T,p2,p3⟩:=k.f _<|Zhm h;have S:=k.n;obtain⟨P,B⟩:=Zhf H;have d:P<=st.ns[i].sl.length:=Z0;have u:=Zy ((i:Int)+1) Z0 Z0;have q:List.take (i+1) (List.map (Yk∘Te st) st.ns)=List.take i (List.map (Yk∘Te st) st.ns)++[Yk<|Te st st.ns[i]]:=by
  rw[ZhX,Zhq,G];rfl
 have l:=Fd st (ws:=st.ns[i].sl.take P) Zg1 λw u=>p3 w<|Zi1 u;have j:min i (I st.ns)+1<=Y3:=by unfold Y3;omega
 simp[YZ,h,x,o,z,A,B,RE,d];rw[List.map_take]at l;refine Ua l ?_;simp[YZ,QP,d,u,q,j,B,Te,Yk];have:i=I st.ns:=Z0;subst this;simp[YZ,x,o,z,A];refine Ua (Fd st (ws:=roots) (by have:=k.r.1;omega) k.r.2) ?_;simp;have C:=Z0B k.gr;simp only[Vw.gr,YB,Zjx]at C;refine Zz C Z1 ?_;have F:Vc (st.gr roots)=Vc {nodes:=List.map (Te st) st.ns,E:=List.map st.df roots}:=rfl;rw[F]at a;generalize ({nodes:=List.map (Te st) st.ns,E:=List.map st.df roots}:Gr)=g at*;unfold Vc at a⊢;split;rename_i p;rw[Zhc p]at a;simp;refine a _ ?_;simp[Wp,U4,Tk,YB];rename_i p;rw[Zh9 p]at a;simp[UF,YB];refine a _ ?_;simp[Wp,U4,Tk,UF,YB]
end Vm
end
section
namespace Vm
open Go Go.Proofs Go.RowKit Go.Conc
def FH{t}(h:t.size=71):t=#[t.getD 0 xy,t.getD 1 xy,t.getD 2 xy,t.getD 3 xy,t.getD 4 xy,t.getD 5 xy,t.getD 6 xy,t.getD 7 xy,t.getD 8 xy,t.getD 9 xy,t.getD 10 xy,t.getD 11 xy,t.getD 12 xy,t.getD 13 xy,t.getD 14 xy,t.getD 15 xy,t.getD 16 xy,t.getD 17 xy,t.getD 18 xy,t.getD 19 xy,t.getD 20 xy,t.getD 21 xy,t.getD 22 xy,t.getD 23 xy,t.getD 24 xy,t.getD 25 xy,t.getD 26 xy,t.getD 27 xy,t.getD 28 xy,t.getD 29 xy,t.getD 30 xy,t.getD 31 xy,t.getD 32 xy,t.getD 33 xy,t.getD 34 xy,t.getD 35 xy,t.getD 36 xy,t.getD 37 xy,t.getD 38 xy,t.getD 39 xy,t.getD 40 xy,t.getD 41 xy,t.getD 42 xy,t.getD 43 xy,t.getD 44 xy,t.getD 45 xy,t.getD 46 xy,t.getD 47 xy,t.getD 48 xy,t.getD 49 xy,t.getD 50 xy,t.getD 51 xy,t.getD 52 xy,t.getD 53 xy,t.getD 54 xy,t.getD 55 xy,t.getD 56 xy,t.getD 57 xy,t.getD 58 xy,t.getD 59 xy,t.getD 60 xy,t.getD 61 xy,t.getD 62 xy,t.getD 63 xy,t.getD 64 xy,t.getD 65 xy,t.getD 66 xy,t.getD 67 xy,t.getD 68 xy,t.getD 69 xy,t.getD 70 xy]:=by
 refine Zjs Z0 λi f d=> ?_;have a:i<71:=Zge;have e:t[i]=t.getD i xy:=by simp[Array.getD,f]
 rw[e]
 revert d
 match i,a with
 |0,_=>simp
 |1,_=>simp
 |2,_=>simp
 |3,_=>simp
 |4,_=>simp
 |5,_=>simp
 |6,_=>simp
 |7,_=>simp
 |8,_=>simp
 |9,_=>simp
 |10,_=>simp
 |11,_=>simp
 |12,_=>simp
 |13,_=>simp
 |14,_=>simp
 |15,_=>simp
 |16,_=>simp
 |17,_=>simp
 |18,_=>simp
 |19,_=>simp
 |20,_=>simp
 |21,_=>simp
 |22,_=>simp
 |23,_=>simp
 |24,_=>simp
 |25,_=>simp
 |26,_=>simp
 |27,_=>simp
 |28,_=>simp
 |29,_=>simp
 |30,_=>simp
 |31,_=>simp
 |32,_=>simp
 |33,_=>simp
 |34,_=>simp
 |35,_=>simp
 |36,_=>simp
 |37,_=>simp
 |38,_=>simp
 |39,_=>simp
 |40,_=>simp
 |41,_=>simp
 |42,_=>simp
 |43,_=>simp
 |44,_=>simp
 |45,_=>simp
 |46,_=>simp
 |47,_=>simp
 |48,_=>simp
 |49,_=>simp
 |50,_=>simp
 |51,_=>simp
 |52,_=>simp
 |53,_=>simp
 |54,_=>simp
 |55,_=>simp
 |56,_=>simp
 |57,_=>simp
 |58,_=>simp
 |59,_=>simp
 |60,_=>simp
 |61,_=>simp
 |62,_=>simp
 |63,_=>simp
 |64,_=>simp
 |65,_=>simp
 |66,_=>simp
 |67,_=>simp
 |68,_=>simp
 |69,_=>simp
 |70,_=>simp
 |i+71,h=>omega
def RF(v:Ze)(a n:Nat):Value:=match v with
 |.slice (J ⟨b,o,q⟩) _ c=>.slice (J<|if c=a then⟨b,o,q⟩else⟨b,o+a,q⟩) n<|c-a
 |v=>v
def UB(h:Hp)(x:Z5)(p:Nat)(o:Ob):Value:=.agg #[.int .i64 o.aa,.int .i64 o.size,.int .i64 o.M,.bool o.gone,.int .u64 o.target,.int .u64 (Y1 (Zv h) ((p:Int)+1) o.aa).1,RF (x p) (o.aa+1).toNat o.size.toNat]
def obP(h:Hp)(p:Nat):List Ob:=(UH h<|(p:Int)+1).1
def Wu(h:Hp)(x:Z5):Nat->Nat->List Value
 |0,_=>[]
 |n+1,p=>(obP h p).map (UB h x p)++Wu h x n (p+1)
noncomputable def seC:Code:=match Try.f56.body with|some c=>c|none=>.skip
noncomputable def clOps:Array Oper:=Ll<|Yr seC [1,1,1]
def Ei(c:Nat)(b:Zg)(d:Z7)(fr:Zg)(cs:Z7)(w:Z3):Prop:=cs=d/\∃a,fr=b.at a [.inRegion clOps [1]]/\a.tmps[70]?=J (.chan<|J c)/\a.defers=[]
def Z8B{w G h x}(d:∀j,j<5->Rd w G (.sl<|(Zu h j).map vu) (x j)):Rd w G (ZD h)<|ZA h x:=by
 refine .agg _ _ rfl Z1 ?_;intro i y a
 match i,a with
 |0,a=>cases a;exact .int _ _
 |1,a=>cases a;exact .int _ _
 |2,a=>cases a;exact .int _ _
 |3,a=>cases a;exact .bool _
 |4,a=>cases a;exact .int _ _
 |5,a=>cases a;exact d 0 Z0
 |6,a=>cases a;exact d 1 Z0
 |7,a=>cases a;exact d 2 Z0
 |8,a=>cases a;exact d 3 Z0
 |9,a=>cases a;exact d 4 Z0
def Z0W{w:Z3}{G:Z4}{h:Hp}(u:h.ok){x:Z5}(o:∀b,G b->b<xz (xj w))(z:∀j,j<5->Rd w G (.sl<|(Zu h j).map vu) (x j))(p:Int):
  Calls xP 81 #[ZA h x,.int .i64 p] w λe f=>∃s,e=.returned (.tuple #[s,.int .i64 (UH h p).2])/\Below (xz<|xj w) w f/\Rd f (λb=>b<xz (xj f)) (.sl<|(UH h p).1.map ZN) s:=by
 refine ZjB ((Z0v u (k:=p)).2 w G _ o rfl ?_) ?_;intro i y d
 match i,d with
 |0,d=>cases d;exact Z8B z
 |1,d=>cases d;exact .int _ _
 rintro e f ⟨v,rfl,q,A⟩;cases A with
 |am _ vs l n=>
  have t:=n 0 _ rfl;have g:=Sz<|n 1 _ rfl;simp only[Zie,Zif]at l;refine⟨vs.getD 0 xy,?_,q,t.mono λb a=> ?_⟩;congr 2;refine Zjs ZgV λi r B=> ?_;have:i=0\/i=1:=by simp at B;omega
  obtain rfl|rfl:=this;simp[Array.getD,r];simp[Array.getD,r]at g;simpa using g;obtain⟨_,a⟩|a:=a;exact Zh8 (o b a) q.size;exact a.2
def u71 a b:(#[a,b]:Array Value)++Array.replicate (71- (#[a,b]:Array Value).size) xy=#[a,b,xy,xy,xy,xy,xy,xy,xy,xy,xy,xy,xy,xy,xy,xy,xy,xy,xy,xy,xy,xy,xy,xy,xy,xy,xy,xy,xy,xy,xy,xy,xy,xy,xy,xy,xy,xy,xy,xy,xy,xy,xy,xy,xy,xy,xy,xy,xy,xy,xy,xy,xy,xy,xy,xy,xy,xy,xy,xy,xy,xy,xy,xy,xy,xy,xy,xy,xy,xy,xy]:=Z2
structure SSt (w:World) (h:Hp) (x:Nat->Value) (b4:Nat) (W:World):Prop where
 cy:Below (xz<|xj w) w W
 c2:W.heap[xz<|xj w]?=J (.cells #[.int .u64 h.base,.int .i64 h.cap,.int .i64 h.to,.bool h.Y,.int .i64 h.Z,x 0,x 1,x 2,x 3,x 4] 30 (0,0))
 c4:W.heap[b4]?=J (.cells #[.int .u64 h.base,.int .i64 h.cap,.int .i64 h.to,.int .i64<|I h.H,.int .i64<|I h.ab,.int .i64<|I h.ah,.int .i64<|I h.ak] 65 (0,0))
def SSt.below{w W W' h x d}(s:SSt w h x d W)(a:Below (xz<|xj W) W W'):SSt w h x d W':=
 ⟨s.cy.trans<|a.mono s.cy.size,(a.block _<|Y9 s.c2).trans s.c2,(a.block _<|Y9 s.c4).trans s.c4⟩
def LD{W G}{l:Z8}{y}(h:Rd W G (.sl<|l.map vu) y):∃a c,y=.slice a (I l) c:=by
 generalize f:l.map vu=L at h;have j:I L=I l:=by rw[<-f,Zhv]
 cases h with
 |nil a c d=>simp_all
 |sl _ b o cap k vs d g=>simp_all
def Z9z{P W T f}(p:P.underlying T=J (.slice f))(q:(Go.sizeOf f).run P W=.ok 1 W){b o len cap:Nat}{d a:Int}(g:0<=d)(h2:d<=a)(r:a<=cap):
  (Instr.slice T (.slice (J ⟨b,o,U⟩) len cap) (J<|.int .i64 d) (J<|.int .i64 a) U).run P W=.ok (RF (.slice (J ⟨b,o,U⟩) len cap) d.toNat (a-d).toNat) W:=by
 obtain⟨l,rfl⟩:=Zhf g;obtain⟨k,rfl⟩:=Zhf (Z0:0<=a);have h:l<=k:=Z0;have j:k<=cap:=Z0;have n:(k- (l:Int)).toNat=k-l:=Z0;simp[Instr.slice,Instr.sliceBounds,Instr.sliceBound,asIntOf,ZhL p,q,h,j,n,RF,Addr.add];grind
def Z8I{W G}{l:Z8}{y}(h:Rd W G (.sl<|l.map vu) y)(f:0<I l){a n k}(e:y=.slice a n k):∃b o,a=J ⟨b,o,U⟩/\I l<=k/\k<=maxLen:=by
 generalize j:l.map vu=L at h;cases h with
 |nil a c d=>simp_all
 |sl _ b o cap p vs d g=>grind
def Z8F{W G}{l:Zi}{y}(h:Rd W G (.sl<|l.map ZN) y):∃a c,y=.slice a (I l) c:=by
 generalize f:l.map ZN=L at h;have j:I L=I l:=by rw[<-f,Zhv]
 cases h with
 |nil a c d=>simp_all
 |sl _ b o cap k vs d g=>simp_all
def jn:Try.f56.body=J seC:=Z2
def Z62{Q c Post es}{fn:Func}{code d a}{b:Zg}{w cs}(f:fn.body=J code)(h2:fn.body=J d)(h:LS Q c Post es (b.at a [.code code]) cs w):LS Q c Post es (b.at a [.code d]) cs w:=by
 simp_all
def Z9O(b:Zg)(b7:Z7)(w:Z3)(h:Hp)(hh:h.ok)(x:Z5)(c:Nat)(G:Z4)(hG:∀b,G b->b<xz (xj w))(hr:∀j,j<5->Rd w G (.sl<|(Zu h j).map vu) (x j))
  (d7:∀p,p<4->I (obP h p)<=1000000/\∀o∈obP h p,0<=o.aa/\0<=o.size/\o.aa+1+o.size<=I (Zu h p)):
  LS xP c (Ei c b b7) ((Wu h x 4 0).map .send) (b.at {tmps:=#[ZA h x,.chan<|J c]++Array.replicate (71- (#[ZA h x,.chan<|J c]:Array Value).size) xy,defers:=[]} [.code seC]) b7 w:=by
 obtain⟨Q,k0,e0⟩:=LD<|hr 0 Z0;obtain⟨R,k1,e1⟩:=LD<|hr 1 Z0;obtain⟨S,k2,e2⟩:=LD<|hr 2 Z0;obtain⟨T,k3,e3⟩:=LD<|hr 3 Z0;have A:=Zh2<|And.intro e0<|And.intro e1<|And.intro e2 e3;have HL:∀W,Below (xz<|xj w) w W->Calls xP 27 #[ZA h x] W λe w'=>e=.returned (Vi<|Zv h)/\Below (xz<|xj W) W w':=λW N=>
  Ts (G:=G) (λb P=>Zh8 (hG b P) N.size) λj hj=>(hr j hj).keep (λb P=>N.block b<|hG b P) λ_ q=>q
 have HO:∀W,Below (xz<|xj w) w W->∀p,Calls xP 81 #[ZA h x,.int .i64 p] W λe w'=>∃s,e=.returned (.tuple #[s,.int .i64 (UH h p).2])/\Below (xz<|xj W) W w'/\Rd w' (λb=>b<xz (xj w')) (.sl<|(UH h p).1.map ZN) s:=λW N p=>
  Z0W hh (G:=G) (λb P=>Zh8 (hG b P) N.size) (λj hj=>(hr j hj).keep (λb P=>N.block b<|hG b P) λ_ q=>q) p
 unfold ZA at HL HO;rw[e0,e1,e2,e3]at HL HO;have HL:=Zh2 HL;have HO:=Zh2 HO;have HF:=Zh2<|And.intro hG hr;have HB:=Zh2 d7;clear hG hr d7;unfold ZA;rw[e0,e1,e2,e3];refine Z62 (fn:=Try.f56) rfl jn ?_;rw[u71];refine LS.cx (LS.dt λK u=> ?_);go_wp2;obtain⟨w2,z⟩:∃w2,w2=w.alloc (.cells #[.int .u64 h.base,.int .i64 h.cap,.int .i64 h.to,.bool h.Y,.int .i64 h.Z,.slice Q (I<|Zu h 0) k0,.slice R (I<|Zu h 1) k1,.slice S (I<|Zu h 2) k2,.slice T (I<|Zu h 3) k3,x 4] 30):=⟨_,rfl⟩;rw[<-z];have b2:w2.heap[xz<|xj w]?=J (.cells #[.int .u64 h.base,.int .i64 h.cap,.int .i64 h.to,.bool h.Y,.int .i64 h.Z,.slice Q (I<|Zu h 0) k0,.slice R (I<|Zu h 1) k1,.slice S (I<|Zu h 2) k2,.slice T (I<|Zu h 3) k3,x 4] 30 (0,0)):=by rw[z];exact Zhk ..
 have z2:xz (xj w2)=xz (xj w)+1:=by rw[z];simp
 have q2:Below (xz<|xj w) w w2:=by rw[z];exact(Zhi _ _).alloc (Zh3 _) _
 clear z;have y2:∀j,w2.cell? ⟨xz<|xj w,j,U⟩=(#[.int .u64 h.base,.int .i64 h.cap,.int .i64 h.to,.bool h.Y,.int .i64 h.Z,.slice Q (I<|Zu h 0) k0,.slice R (I<|Zu h 1) k1,.slice S (I<|Zu h 2) k2,.slice T (I<|Zu h 3) k3,x 4]:Array Value)[j]? :=λj=>Zh7 _ _ _ _ _ _ b2;have d:=Zh2<|And.intro b2<|And.intro z2 q2;clear b2 z2 q2;refine LS.cx (LS.dt λK u=> ?_)
 go_wp2_with (first
  |(go_at_call 27;refine(HL.out _ d.out.2.2).mono ?_;rintro e w3 ⟨rfl,b9⟩;unfold Vi Zv;dsimp only;have L:=Zh2 b9;clear b9))
 obtain⟨W,N⟩:∃W,W=w3.alloc (.cells #[.int .u64 h.base,.int .i64 h.cap,.int .i64 h.to,.int .i64<|I h.H,.int .i64<|I h.ab,.int .i64<|I h.ah,.int .i64<|I h.ak] 65):=⟨_,rfl⟩;obtain⟨X,a8⟩:∃X,X=xz (xj w3):=⟨_,rfl⟩;rw[<-N,<-a8];have f:SSt w h x X W:=by
  have hz:=L.out.size;rw[N,a8];exact⟨(d.out.2.2.trans<|L.out.mono d.out.2.2.size).alloc (by have:=d.out.2.2.size;omega) _,by rw[Zh4 _ _ _ (by have:=Y9 d.out.1;omega)];rw[e0,e1,e2,e3];exact(L.out.block _<|Y9 d.out.1).trans d.out.1,Zhk ..⟩
 clear N a8 L d y2 e0 e1 e2 e3;have y2:∀j,W.cell? ⟨xz<|xj w,j,U⟩=(#[.int .u64 h.base,.int .i64 h.cap,.int .i64 h.to,.bool h.Y,.int .i64 h.Z,.slice Q (I<|Zu h 0) k0,.slice R (I<|Zu h 1) k1,.slice S (I<|Zu h 2) k2,.slice T (I<|Zu h 3) k3,x 4]:Array Value)[j]? :=λj=>Zgm;refine LS.cx<|LS.cx (LS.dt λK u=> ?_);go_wp2
 refine LS.block (LS.oq (λn es a W=>∃(p:Nat) (t:Zb),p+n=4/\es=(Wu h x n p).map .send/\a=⟨t,[]⟩/\t.size=71/\t.getD 1 xy=.chan (J c)/\t.getD 2 xy=.pointer (J ⟨xz<|xj w,0,U⟩)/\t.getD 4 xy=.pointer (J ⟨X,0,U⟩)/\
  t.getD 24 xy=.agg #[.slice Q (I<|Zu h 0) k0,.slice R (I<|Zu h 1) k1,.slice S (I<|Zu h 2) k2,.slice T (I<|Zu h 3) k3]/\t.getD 25 xy=.int .i64 p/\SSt w h x X W) (n:=4) ⟨0,_,rfl,rfl,rfl,rfl,rfl,rfl,rfl,rfl,rfl,f⟩ ?_)
 clear f y2 W;rintro n es a W ⟨p,t,hp,rfl,rfl,D,t1,t2,t4,F,H,f⟩ ih;have IH:=Zh2 ih;clear ih;rw[FH D,t1,t2,t4,F,H];obtain⟨g,hg⟩:∃g:Z5,∀i,t.getD i xy=g i:=⟨_,λ_=>rfl⟩;simp only[hg];clear hg t1 t2 t4 F H D t;have y2:∀j,W.cell? ⟨xz<|xj w,j,U⟩=(#[.int .u64 h.base,.int .i64 h.cap,.int .i64 h.to,.bool h.Y,.int .i64 h.Z,.slice Q (I<|Zu h 0) k0,.slice R (I<|Zu h 1) k1,.slice S (I<|Zu h 2) k2,.slice T (I<|Zu h 3) k3,x 4]:Array Value)[j]? :=λj=>Zgm;cases n with
 |zero=>
  have d9:((p:Int)<4)=False:=ZjE Z0;refine LS.cx (LS.dt λK u=> ?_);go_wp2;refine LS.cx<|LS.oe rfl<|LS.exit rfl<|LS.region ?_;refine LS.value (i:=0) (l:=[1]) rfl rfl rfl ?_;exact LS.br ⟨rfl,_,rfl,rfl,rfl⟩
 |succ n=>
  have d9:((p:Int)<4)=True:=ZjA Z0;have f8:p<4:=Z0;refine LS.cx (LS.dt λK u=> ?_);go_wp2;refine LS.cx<|LS.og rfl<|LS.skip<|LS.cx<|LS.block<|LS.cx (LS.dt λK u=> ?_);obtain⟨ap,kp,ep⟩:=LD<|HF.out.2 p Z0;have d6:∀W,(Instr.index 147 (.agg #[.slice Q (I<|Zu h 0) k0,.slice R (I<|Zu h 1) k1,.slice S (I<|Zu h 2) k2,.slice T (I<|Zu h 3) k3])<|.int .i64 (p:Int)).run xP W=.ok (.slice ap (I<|Zu h p) kp) W:=by
   intro W;have hT:xP.underlying 147=J (.array 4 28):=Z2;have:p=0\/p=1\/p=2\/p=3:=Z0;rw[<-ep];obtain rfl|rfl|rfl|rfl:=this;rw[A.out.1];rfl;rw[A.out.2.1];rfl;rw[A.out.2.2.1];rfl;rw[A.out.2.2.2];rfl
  have EP:=Zh2 ep;clear ep;go_wp2;clear d6;have b6:=Zy ((p:Int)+1) Z0 Z0;refine LS.cx (LS.dt λK u=> ?_);go_wp2;have d:=Zh2 f;clear f;refine LS.cx (LS.dt λK u=> ?_)
  go_wp2_with (first
   |(go_at_call 81;refine(HO.out _ d.out.cy _).mono ?_;rintro e W5 ⟨s5,rfl,c0,r⟩;obtain⟨a5,k5,rfl⟩:=Z8F r;have a4:=Zh2<|And.intro c0 r;clear c0 r))
  refine LS.cx (LS.dt λK u=> ?_);go_wp2;have f:=d.out.below a4.out.1;have r:=a4.out.2;clear d a4 y2 W d9;rename_i W5;rw[show(UH h<|(p:Int)+1).1=obP h p from rfl]at r⊢;have Z:=Z6W r λb P=>P;obtain⟨f7,d8⟩:=HB.out p f8;have d5:Wu h x (n+1) p=(obP h p).map (UB h x p)++Wu h x n (p+1):=rfl;rw[d5];clear d5 r;have HX:=Zh2<|And.intro Z<|And.intro f7 d8;clear Z d8
  refine LS.block (LS.oq (λm es a W=>∃(i:Nat) (t:Zb),i+m=I (obP h p)/\es=(((obP h p).drop i).map (UB h x p)++Wu h x n (p+1)).map .send/\a=⟨t,[]⟩/\t.size=71/\t.getD 1 xy=.chan (J c)/\t.getD 2 xy=.pointer (J ⟨xz<|xj w,0,U⟩)/\t.getD 4 xy=.pointer (J ⟨X,0,U⟩)/\
   t.getD 6 xy=.slice ap (I<|Zu h p) kp/\t.getD 7 xy=.int .i64 ((p:Int)+1)/\t.getD 24 xy=.agg #[.slice Q (I<|Zu h 0) k0,.slice R (I<|Zu h 1) k1,.slice S (I<|Zu h 2) k2,.slice T (I<|Zu h 3) k3]/\t.getD 25 xy=.int .i64 p/\t.getD 37 xy=.slice a5 (I<|obP h p) k5/\t.getD 38 xy=.int .i64 (I<|obP h p)/\t.getD 39 xy=.int .i64 i/\
   SSt w h x X W/\Below (xz<|xj W5) W5 W) (n:=I<|obP h p) ⟨0,_,Z0,rfl,rfl,rfl,rfl,rfl,rfl,rfl,rfl,rfl,rfl,rfl,rfl,rfl,f,Zhi _ _⟩ ?_)
  clear f g b6;rintro m es a W ⟨i,t,hi,rfl,rfl,D,t1,t2,t4,t6,t7,F,H,f1,f2,f3,f,k⟩ ih;have f4:=Zh2 ih;clear ih;rw[FH D,t1,t2,t4,t6,t7,F,H,f1,f2,f3];obtain⟨g,hg⟩:∃g:Z5,∀i,t.getD i xy=g i:=⟨_,λ_=>rfl⟩;simp only[hg];clear hg t1 t2 t4 t6 t7 F H f1 f2 f3 D t;cases m with
  |zero=>
   have b3:((i:Int)< (I (obP h p):Int))=False:=ZjE Z0;refine LS.cx (LS.dt λK u=> ?_);go_wp2;refine LS.cx<|LS.oe rfl<|LS.exit rfl<|LS.inBlock ?_;have b6:=Zy ((p:Int)+1) Z0 Z0;have C:(obP h p).drop i=[]:=Zk2 Z0;rw[C];clear C b3;refine LS.dt λK u=> ?_;go_wp2;exact IH.out n _ _ _ Z0 ⟨p+1,_,Z0,rfl,rfl,rfl,rfl,rfl,rfl,rfl,Z1,f⟩
  |succ m=>
   have b5:i< I (obP h p):=Z0;obtain⟨o,ho⟩:∃o,(obP h p)[i]?=J o:=⟨_,ZgY b5⟩;have b3:((i:Int)< (I (obP h p):Int))=True:=ZjA Z0;obtain⟨g5,o5,f9,e5,d0,g8,f6,B⟩|⟨a9,c9,e9,f5⟩:=HX.out.1;case inr=>rw[f5]at b5;simp at b5
   injection e5 with e5 _ e6;subst e5;subst e6;obtain⟨v0,v1,v2,v3,v4⟩:=B i o ho;have y:=k.block _ f6;have y0:W.cell? ⟨g5,o5+i*5,U⟩=J (.int .i64 o.aa):=by rw[ZhS y];exact v0
   have y1:W.cell? ⟨g5,o5+i*5+1,U⟩=J (.int .i64 o.size):=by rw[ZhS y];exact v1
   have y2:W.cell? ⟨g5,o5+i*5+2,U⟩=J (.int .i64 o.M):=by rw[ZhS y];exact v2
   have y3:W.cell? ⟨g5,o5+i*5+3,U⟩=J (.bool o.gone):=by rw[ZhS y];exact v3
   have y4:W.cell? ⟨g5,o5+i*5+4,U⟩=J (.int .u64 o.target):=by rw[ZhS y];exact v4
   clear v0 v1 v2 v3 v4 y B;have HC:=Zh2 d0;clear d0;refine LS.cx (LS.dt λK u=> ?_);go_wp2;refine LS.cx<|LS.og rfl<|LS.skip<|LS.cx<|LS.block<|LS.cx (LS.dt λK u=> ?_);go_wp2;obtain⟨W6,O⟩:∃W6,W6=W.alloc (.cells #[.int .i64 o.aa,.int .i64 o.size,.int .i64 o.M,.bool o.gone,.int .u64 o.target] 120):=⟨_,rfl⟩;obtain⟨Y,b1⟩:∃Y,Y=xz (xj W):=⟨_,rfl⟩;rw[<-O,<-b1];have b0:Below (xz<|xj W) W W6:=by rw[O];exact(Zhi _ _).alloc (Zh3 _) _
   have q6:W6.heap[Y]?=J (.cells #[.int .i64 o.aa,.int .i64 o.size,.int .i64 o.M,.bool o.gone,.int .u64 o.target] 120 (0,0)):=by rw[O,b1];exact Zhk ..
   have a6:=f.below b0;have b8:=k.trans<|b0.mono k.size;clear O b1 b0 f k y0 y1 y2 y3 y4 W;have z4:∀j,W6.cell? ⟨X,j,U⟩=(#[.int .u64 h.base,.int .i64 h.cap,.int .i64 h.to,.int .i64<|I h.H,.int .i64<|I h.ab,.int .i64<|I h.ah,.int .i64<|I h.ak]:Array Value)[j]? :=λj=>Zh7 _ _ _ _ _ _ a6.c4;have zo:∀j,W6.cell? ⟨Y,j,U⟩=(#[.int .i64 o.aa,.int .i64 o.size,.int .i64 o.M,.bool o.gone,.int .u64 o.target]:Array Value)[j]? :=λj=>Zh7 _ _ _ _ _ _ q6;have d:=Zh2<|And.intro a6<|And.intro b8 q6;clear a6 b8 q6;have HA:=Zh2 λW=>A0 hh.bb ((p:Int)+1) o.aa W;unfold Vi Zv at HA;dsimp only at HA;refine LS.cx (LS.dt λK u=> ?_)
   go_wp2_with (first
    |(go_at_call 26;refine(HA.out _).mono ?_;rintro e W7 ⟨rfl,c1⟩;have M:=Zh2 c1;clear c1))
   have f:=d.out.1.below M.out;have k:=d.out.2.1.trans<|M.out.mono d.out.2.1.size;have q7:=(M.out.block _<|Y9 d.out.2.2).trans d.out.2.2;clear z4 zo d M HA;rename_i W7;clear W6;obtain⟨g3,h3,g7⟩:=HX.out.2.2 o<|Zha ho;have e4:0< I (Zu h p):=Z0;obtain⟨bw,ow,ew,g4,g9⟩:=Z8I (HF.out.2 p Z0) e4 EP.out;subst ew;have C:(obP h p).drop i=o::(obP h p).drop (i+1):=by
    obtain⟨h1,rfl⟩:=ZgZ.1 ho;exact ZhV h1
   rw[C];rw[show(((o::(obP h p).drop (i+1)).map (UB h x p)++Wu h x n (p+1)).map Ev.send)=.send (UB h x p o)::(((obP h p).drop<|i+1).map (UB h x p)++Wu h x n (p+1)).map .send from rfl];clear C ho b3;have zo:∀j,W7.drew.cell? ⟨Y,j,U⟩=(#[.int .i64 o.aa,.int .i64 o.size,.int .i64 o.M,.bool o.gone,.int .u64 o.target]:Array Value)[j]? :=λj=>Zh7 _ _ _ _ _ _ (show W7.drew.heap[Y]?=_ from q7);have g6:=JB hh p;have b6:=Zy (o.aa+1) Z0 Z0;have z:=Zy (o.aa+1+o.size) Z0 Z0;have e7:(0:Int)<=o.aa+1:=Z0;have e8:o.aa+1<=o.aa+1+o.size:=Z0;have f0:o.aa+1+o.size<=(kp:Int):=Z0;obtain⟨av,nv,cv,a7⟩:∃av nv cv,.slice av nv cv=RF (x p) (o.aa+1).toNat o.size.toNat:=by rw[EP.out];exact⟨_,_,_,rfl⟩
   have h0:∀W,(Instr.slice 28 (.slice (J ⟨bw,ow,U⟩) (I<|Zu h p) kp) (J<|.int .i64<|o.aa+1) (J<|.int .i64<|o.aa+1+o.size) U).run xP W=.ok (.slice av nv cv) W:=by
    intro W;have hT:xP.underlying 28=J (.slice 24):=Z2;rw[a7,EP.out,Z9z hT Z1 e7 e8 f0,show o.aa+1+o.size- (o.aa+1)=o.size by omega]
   clear e7 e8 f0 zo;have zo:∀j,W7.drew.cell? ⟨Y,j,U⟩=(#[.int .i64 o.aa,.int .i64 o.size,.int .i64 o.M,.bool o.gone,.int .u64 o.target]:Array Value)[j]? :=λj=>Zh7 _ _ _ _ _ _ (show W7.drew.heap[Y]?=_ from q7);have HV:=Zh2 a7;clear a7;have d:=Zh2<|And.intro f k;clear f k q7;refine LS.send (n:=16) follows Z2 rfl rfl rfl rfl rfl rfl ?_;simp only[Zkr,List.take_zero];change wpStill xP _ W7.drew _ _ _;repeat still_step
   refine wpStill_nil ⟨rfl,?_,?_⟩;unfold UB;rw[<-HV.out];rfl
   .refine LS.inBlock ?_;have h2:=Zy ((i:Int)+1) Z0 Z0;refine LS.dt λK u=> ?_;go_wp2;exact f4.out m _ _ _ Z0 ⟨i+1,_,Z0,rfl,rfl,rfl,rfl,rfl,rfl,rfl,rfl,rfl,rfl,rfl,rfl,Z1,SSt.below d.out.1 (Zhi _ _).drew,d.out.2.drew⟩
end Vm
end
section
namespace Vm
open Go Go.Proofs Go.Conc
open Go.RowKit (Below)
section
section
variable {c:Ctx}{B:Nat}{G Kf:Z4}{s:St}{a:Act}{w w0:Z3}{h:GH}{S:SS}{n0:Nat}{fix:Za}{T0:Zb}{t:Nat}{v:Ze}{x:V}
def WI{p}(d:p≠t):(a.put (J t) v).tmps[p]?=a.tmps[p]? :=by
 simp[Act.put,ZiJ d]
def Q0(d:t<a.tmps.size):(a.put (J t) v).tmps[t]?=J v:=by
 simp[Act.put,d]
theorem R0:(a.put (J t) v).tmps.size=a.tmps.size:=by simp[Act.put]
theorem Z92{p k u a d}(f:RelK c.P B s w h a p u<|Jc c p k):RelK c.P B s w h d p u<|Jc c p k:=by
 cases k<;>exact f
def RelG.set(j:RelG c B G s a w h<|Ys c S)(n:S.at t=U):RelG c B G s (a.put (J t) v) w h<|Ys c S:=by
 refine⟨j.ok,λp g d=> ?_,λp g=> ?_⟩;by_cases e:p=t;subst e;rw[YA,n]at d;cases d;let⟨u,o,f⟩:=j.aa p g d;refine⟨u,by simp_all[WI],?_⟩;rw[YA]at f⊢;cases l:S.at p with
 |none=>rw[YA,l]at d;cases d
 |some k=>grind [Z92]
 refine absurd ?_ g;rw[YA];cases S.at p<;>exact VV _
def RelS.set(l:RelS Kf fix T0 c B G w0 n0 s a w S)(k:S.at t=U):RelS Kf fix (a.put (J t) v).tmps c B G w n0 s (a.put (J t) v) w S:=by
 let⟨⟨h,d,f⟩,g,n,o,j⟩:=l;exact⟨⟨h,d.set k,f⟩,g,.refl _ _,by grind [R0],j⟩
def RelS.base(h:RelS Kf fix T0 c B G w0 n0 s a w S):RelS Kf fix a.tmps c B G w n0 s a w S:=by
 let⟨d,f,j,g⟩:=h;exact⟨d,f,.refl _ _,g⟩
theorem RelS.put(C:RelS Kf fix T0 c B G w0 n0 s a w S)(u:S.at t=U)(f:∀y∈S,c.ix y.1≠c.ix t)(A:t<n0)(D:Rd w G x v):RelS Kf fix (a.put (J t) v).tmps c B G w n0 (YI s (c.ix t)<|.v x) (a.put (J t) v) w<|(t,.fz)::S:=by
 let⟨⟨h,j,o⟩,q,H,K,r⟩:=C;refine⟨⟨h,⟨j.ok,λp d g=> ?_,λp d=> ?_⟩,o⟩,λp d=> ?_,.refl _ _,by grind [R0],r⟩;rw[YA]at g⊢;by_cases e:t=p;subst e;simp[SS.at,ZhY];exact⟨v,Q0 Z0,x,by simp[eval,YZ],D.mono λb z=>GH.bq<|j.ok.fj b z⟩;simp[SS.at,Zh9 e]at g⊢;have l:=(j.set (v:=v) u).mf (t:=YI s (c.ix t)<|.v x) λy F=>by rw[YZ,Zh9<|f y F]
 cases n:S.at p with
 |none=>rw[n]at g;cases g
 |some k=>
  have:=l.aa p (by grind [YA,VV]) (by simp_all[YA]);simp_all[YA]
 refine absurd ?_ d;rw[YA];split<;>exact VV _;by_cases e:t=p;simp_all[SS.at];simp[SS.at,Zh9 e]at d;rw[YZ,Zh9<|f _<|J3 d];exact q p d
end
noncomputable def cV:Ctx:= {P:=xP,ix:=(vf xP).ix,own:=λ_=>xw,fresh,sig:=Du,tr:=[3],n:=82}
def qp{code S st fl B G Kf s a w w0 T0 N X Rt}(hc:comp (vf xP) code S=J (st,fl))(g:RelS Kf [4,23] T0 cV B G w0 82 s a w S)(h:Yx xP st s N X Rt):
  code.wp xP (Post Kf [4,23] T0 cV B G w0 82 fl N X Rt) a w:=
 An (fc:=vf xP) follows (λp f q j d=>CT (Zip _ f) Zg0 d) rfl rfl rfl (Zh3 _) code (Fl (λ_=>trivial) code) hc g h
noncomputable def bodyC:Code:=Yr ofC [1,1,1,1,1,1,1,0,1,0,0]
noncomputable def ops9:Array Oper:=Ll<|Yr ofC [1,1,1,1,1,1,1,0,1,0,0,0]
def ZcB:bodyC=.seq (.region 9 ops9 xw) (Yr ofC [1,1,1,1,1,1,1,0,1,0,0,1]):=Z2
def Z96:Yr ofC [1,1,1,1]=.seq (Yr ofC [1,1,1,1,0]) (.seq (Yr ofC [1,1,1,1,1,0])<|.seq (Yr ofC [1,1,1,1,1,1,0])<|.seq (.seq (Yr ofC [1,1,1,1,1,1,1,0,0])<|.block 0<|.loop bodyC)<|Yr ofC [1,1,1,1,1,1,1,1]):=Z2
noncomputable def ops8:Array Oper:=Ll<|Yr ofC [1,1,1,1,1,1,1,0,0]
def Z8u:Yr ofC [1,1,1,1,1,1,1,0,0]=.region 8 ops8 xw:=Z2
def zF:Value:=.agg #[.int .i64 0,.int .i64 0,.int .i64 0,.bool xw,.int .u64 0,.int .u64 0,.slice U 0 0]
def Z7h:∃t a d inf o,ops9[0]?=J o/\o.guard=U/\o.dst=J 24/\o.op=.recv t a xk/\a=.tmp 23/\xP.underlying t=J (.chan d 126)/\xP.info? 126=J inf/\inf.zero=J zF:=
 ⟨_,_,_,_,_,rfl,rfl,rfl,rfl,rfl,rfl,rfl,rfl⟩
def Z7i:∃o,ops9[1]?=J o/\o.guard=U/\o.dst=J 25/\o.op=.extract (.tmp 24) 1:=⟨_,rfl,rfl,rfl,rfl⟩
def Z7j:ops9.size=2:=rfl
def D0:SS:=[(1,.mem [.fz,.fz,.fz,.fz,.fz,.fz,.fz,.fz,.fz,.fz]),(2,.mem [.fz,.fz]),(3,.fz),(5,.own 126),(6,.mem [.own 108]),(7,.mem [.own 124])]
structure AtL (B:Nat) (G:Nat->Prop) (wS:World) (c:Nat) (st:Vw) (hc:List V) (s:St) (a:Act) (w:World):Prop where
 vc:∃T0 w0,RelS G [4,23] T0 cV B G w0 82 s a w D0
 same:Same G wS w
 ch:a.tmps[23]?=J (.chan<|J c)
 s1:get s 1=.m hc
 s6:get s 6=.v (.sl<|st.ns.map Xh)
 s7:get s 7=.m [Yh vi st.nm]
 s8:get s 8=.m [Yh vu st.tm]
theorem AtL.put{B G wS c st hc s a w}(h:AtL B G wS c st hc s a w){v x b}(p:Rd wS G x v):
  ∃g d T0 w0,g=(a.put (J 24)<|.tuple #[v,.bool b]).put (J 25) (.bool b)/\RelS G [4,23] T0 cV B G w0 82 d g w CY/\g.tmps[23]?=J (.chan<|J c)/\get d 1=.m hc/\get d 6=.v (.sl<|st.ns.map Xh)/\get d 7=.m [Yh vi st.nm]/\get d 8=.m [Yh vu st.tm]/\get d 12=.v (.am [x,.bool b])/\get d 10=.v (.bool b):=by
 let⟨T0,w0,o⟩:=h.vc;have j:Rd w G (.am [x,.bool b])<|.tuple #[v,.bool b]:=by
  refine .am _ _ rfl λi c f=> ?_
  match i,f with
  |0,f=>cases f;exact p.keep h.same λ_ q=>q
  |1,f=>cases f;exact .bool _
 have n:=(o.put (t:=24) rfl Zg2 Z0 j).put (t:=25) (v:=.bool b) (x:=.bool b) rfl Zg2 Z0<|.bool _;have k:cV.ix 24=12:=Zg2;have l:cV.ix 25=10:=Zg2;rw[k,l]at n;refine⟨_,_,_,_,rfl,n.ft (R:=CY) Z2,?_,?_,?_,?_,?_,?_,?_⟩;rw[WI Z0,WI Z0];exact h.ch;all_goals simp[YZ,h.s1,h.s6,h.s7,h.s8]
def Z8M{B G wS c hc k}{b:Zg}{Post}fin
  (K:Rd wS G (Xh ⟨⟨0,0,0,xw,0⟩,0,[]⟩) zF)
  (a0:∀s a w T0 w0,RelS G [4,23] T0 cV B G w0 82 s a w CZ->get s 1=.m hc->get s 6=.v (.sl<|fin.ns.map Xh)->get s 7=.m [Yh vi fin.nm]->get s 8=.m [Yh vu fin.tm]->LS xP c Post [] (b.at a k) [] w):
  ∀(p:List<|Fo×Value) st,(∀y∈p,Rd wS G (Xh y.1) y.2)->I st.ns+I p<=4000000->(p.map (·.1)).foldl Vw.put st=fin->∀s a w,AtL B G wS c st hc s a w->
   LS xP c Post (p.map (λy=>.recv y.2)++[.closed zF]) (b.at a<|.code bodyC:: .inLoop bodyC:: .inBlock 0::k) [] w:=by
 let⟨t,T,d,inf,o,o1,o2,o3,o4,C,o6,o7,o8⟩:=Z7h;let⟨o',p1,p2,p3,p4⟩:=Z7i;have ext:∀(a:Act) w v b,a.tmps[24]?=J (.tuple #[v,.bool b])->(execOp a.eval o').run xP w=.ok _ w:=λa w v b h=>by
  have he:=Act.al a 24 _ h;unfold execOp;simp[p4,he];rfl
 have enter:∀ {es} {e:Ev} {v:Ze} {fl:Bool} {s:St} {st:Vw} {a:Act} {w:Z3},e.val=.tuple #[v,.bool fl]->((∃v,e=.recv v)\/e=.closed zF)->AtL B G wS c st hc s a w->
   LS xP c Post es (b.at ((a.put (J 24)<|.tuple #[v,.bool fl]).put (J 25)<|.bool fl)<|.code (Yr ofC [1,1,1,1,1,1,1,0,1,0,0,1]):: .inLoop bodyC:: .inBlock 0::k) [] w->
   LS xP c Post (e::es) (b.at a<|.code bodyC:: .inLoop bodyC:: .inBlock 0::k) [] w:=λ{es e v fl s st a w} H F f hk=>by
  let⟨T0,w0,A⟩:=f.vc;have a1:=A.2.2.2.1;rw[show(Item.code bodyC)=.code (.seq (.region 9 ops9 xw)<|Yr ofC [1,1,1,1,1,1,1,0,1,0,0,1])by rfl];refine LS.cx<|LS.region ?_;rw[Z7j,show List.range 2=[0,1]from rfl];refine LS.sr (i:=0) o1 (by simp[Region.wanted,o2]) ?_ ?_;obtain⟨v,rfl⟩|rfl:=F;exact⟨t,T,d,_,inf,zF,o4,by rw[C];rfl,by rw[C];exact Act.al a 23 _ f.ch,o6,o7,o8,Z1⟩;exact⟨t,T,d,_,inf,zF,o4,by rw[C];rfl,by rw[C];exact Act.al a 23 _ f.ch,o6,o7,o8,Z1⟩;rw[o3,H];refine LS.value (i:=1) p1 (by simp[Region.wanted,p2]) (ext _ w v fl (Q0 Z0)) ?_;simp_all[LS.gq]
 intro p;induction p with
 |nil=>
  intro st r hn n s a w f;refine enter (v:=zF) (fl:=xw) rfl Z1 f ?_;obtain⟨a2,s2,T0,w0,rfl,A,x,W,Y,Z,h8,u,q⟩:=f.put (b:=xw) K;refine LS.wp (qp Of A<|Z8w (N:=λ_=>False) (R:=λ_=>False) (X:=λid g=>id=0/\g=s2) q ⟨rfl,rfl⟩) λe S w' j=> ?_;cases e with
  |normal=>let⟨_,_,_,h,_⟩:=j;grind
  |exit id=>
   obtain⟨g,Q,hx,⟨rfl,rfl⟩,l⟩:=j;have D:Q=CZ:=by simpa using hx
   subst D;refine⟨k,rfl,?_⟩;grind
  |ret=>let⟨_,_,_,h,_⟩:=j;grind
  |_=>exact j.elim
 |cons y p ih=>
  intro st r hn n s a w f;simp[Zie]at hn;refine enter (v:=y.2) (fl:=xk) rfl Z1 f ?_;obtain⟨a2,s2,T0,w0,rfl,A,x,W,Y,Z,h8,u,q⟩:=f.put (b:=xk)<|r y Z1;refine LS.wp (qp Of A.base<|Z8x (X:=λ_ _=>False) (R:=λ_=>False) (N:=λg=>get g 6=.v _/\get g 7=.m [Yh vi (st.put y.1).nm]/\get g 8=.m [Yh vu (st.put y.1).tm]/\get g 1=.m hc) Y Z h8 u q Z0 λg M O P L _ _=>⟨M,O,P,L.trans W⟩) λe S w' j=> ?_;cases e with
  |normal=>
   let⟨g,Q,D,⟨M,O,P,L⟩,l⟩:=j;cases D;refine LS.inLoop<|ih _ (λz K=>r z<|by simp[K]) ?_ n g S w' ⟨⟨_,_,l.ft (R:=D0) Z2⟩,f.same.trans l.2.2.1.same,?_,L,M,O,P⟩;grind [Vw.put];rw[l.2.2.1.fix 23 Z1];exact x
  |exit id=>let⟨_,_,_,h,_⟩:=j;grind
  |ret=>let⟨_,_,_,h,_⟩:=j;grind
  |_=>exact j.elim
def Ej(b:Zg)(D:World->Nat->Prop)(r:V)(fr:Zg)(cs:Z7)(w:Z3):Prop:=
 cs=[]/\∃(a:Act) (d:Zn),fr= {b.at a d with mode:=.returning}/\a.defers=[]/\∃v,(results Try.f38 a.tmps).run xP w=.ok v w/\Rd w (D w) r v
def Ec{code S st o B G Kf s a w w0 T0 N c f es}{b:Zg}{k}(hc:comp (vf xP) code S=J (st,⟨J o,[],[]⟩))(t:RelS Kf [4,23] T0 cV B G w0 82 s a w S)
  (u:Yx xP st s N (λ_ _=>False)<|λ_=>False) (r:∀l g n,N l->RelS Kf [4,23] T0 cV B G w0 82 l g n o->LS xP c f es (b.at g k) [] n):=
 LS.wp (qp hc t u) λe g n d=>by
  cases e with
  |normal=>let⟨l,x,q,p,j⟩:=d;cases q;exact r _ _ _ p j
  |exit id=>let⟨_,_,_,h,_⟩:=d;grind
  |ret=>let⟨_,_,_,h,_⟩:=d;grind
  |_=>exact d.elim
def Z7f:∃o,ops8[0]?=J o/\o.guard=U/\o.dst=J 23/\o.op=.move (.tmp 4):=⟨_,rfl,rfl,rfl,rfl⟩
def Z7g:ops8.size=1:=rfl
def Z74{B:Nat}{G:Z4}{c:Nat}{b:Zg}{s:St}{a:Act}{w w0:Z3}{T0:Zb}{W Y Z y sc x5 x6 x7 x8:V}{d:Z8}{fs:List (Fo×Value)}{fin:Vw}(O:RelS G [4,23] T0 cV B G w0 82 s a w LC)(L:a.tmps[4]?=J (.chan<|J c))(F:get s 1=.m [W,Y,Z,y,sc,x5,x6,x7,x8,.sl<|d.map vu])
  (M:∀y∈fs,Rd w G (Xh y.1) y.2) (hn:I fs<=4000000) (u:(fs.map (·.1)).foldl Vw.put ⟨[],[],[]⟩=fin) (hs:fin.sm d):
  LS xP c (Ej b (λw' x=>G x\/(B<=x/\x<xz (xj w')))<|Vc<|fin.gr d) (fs.map (λy=>.recv y.2)++[.closed zF]) (b.at a [.code<|Yr ofC [1,1,1,1]]) [] w:=by
 rw[Z96];refine LS.cx (Ec r5c O.base (N:=λj=>get j 6=.v (.sl [])/\get j 1=get s 1) (by simp[r5,YZ]) λs1 a1 w1 ⟨q6,q1⟩ l=> ?_);refine LS.cx (Ec r6c l.base (N:=λj=>get j 7=.m [Yh vi []]/\get j 6=.v (.sl [])/\get j 1=get s 1) (by simp[r6,YZ,q6,q1];rfl) λs2 a2 w2 ⟨t7,t6,t1⟩ n=> ?_);refine LS.cx (Ec r7c n.base (N:=λj=>get j 8=.m [Yh vu []]/\get j 7=.m [Yh vi []]/\get j 6=.v (.sl [])/\get j 1=get s 1) (by simp[r7,YZ,t7,t6,t1];rfl) λs3 C w3 ⟨u8,u7,u6,u1⟩ k=> ?_);have q:C.tmps[4]?=J (.chan<|J c):=by
  rw[k.2.2.1.fix 4 Z1,n.2.2.1.fix 4 Z1,l.2.2.1.fix 4 Z1];exact L
 have p:Same G w w3:=(l.2.2.1.same.trans n.2.2.1.same).trans k.2.2.1.same;refine LS.cx<|LS.cx ?_;rw[Z8u];refine LS.region ?_;rw[Z7g,show List.range 1=[0]from rfl];obtain⟨o,o1,o2,o3,o4⟩:=Z7f;have a0:C.eval (.tmp 4)=.chan (J c):=Act.al C 4 _ q;refine LS.value (v:=.chan<|J c) (w':=w3) o1 (by simp[Region.wanted,o2]) (by simp_all[execOp])<|LS.gq ?_;rw[o3];have Q:=k.set (t:=23) (v:=.chan<|J c) rfl;have a4:C.tmps.size=82:=k.2.2.2.1;refine LS.block<|LS.bv (.one step_loop) ?_;refine Z8M (hc:=[W,Y,Z,y,sc,x5,x6,x7,x8,.sl<|d.map vu]) fin (wS:=w) (B:=B) (G:=G) ?_ ?_ fs ⟨[],[],[]⟩ M ZfZ u s3 _ w3 ⟨⟨_,_,Q.ft (R:=D0) Z2⟩,p,Q0 Z0,u1.trans F,u6,u7,u8⟩;refine .agg _ _ rfl Z1 λi x g=> ?_
 match i,g with
 |0,g=>cases g;exact .int _ _
 |1,g=>cases g;exact .int _ _
 |2,g=>cases g;exact .int _ _
 |3,g=>cases g;exact .bool _
 |4,g=>cases g;exact .int _ _
 |5,g=>cases g;exact .int _ _
 |6,g=>cases g;exact .nil _ _<|Zik _
 intro s5 a5 w5 T5 a6 S v1 v6 v7 v8;refine LS.wp (qp rCc ((S.ft (R:=Oe) Z2).base)<|Z8v (N:=λ_=>False) (X:=λ_ _=>False) (R:=λj=>Wp j [(2,.ag 2),(3,.v)]=J (Vc<|fin.gr d)) hs v1 v6 v7 v8 λj h=>h) λe a' w' H=> ?_;cases e with
 |normal=>obtain⟨_,_,_,h,_⟩:=H;grind
 |exit id=>obtain⟨_,_,_,h,_⟩:=H;grind
 |ret=>
  obtain⟨j,S',K,hR,P⟩:=H;have K:S'=CX:=by simpa using K
  subst K;obtain⟨⟨h,k1,k2⟩,k3,k4,k5,k6⟩:=P;intro A
  obtain⟨v,hv,T⟩:=LI (c:=cV) (f:=Try.f38) (D:=λx=>G x\/(B<=x/\x<xz (xj w'))) k1 k3 (λx z=>by
   obtain F|F:=k1.ok.cr x z;grind;exact .inr ⟨F,k1.ok.bo x z⟩) (λr O=>⟨Zhd.1 (Z2:(Try.f38.results.toList.all<|Rm xP CX)=xk) r O,λi x z=>.inr ⟨(k1.ok.aq _ _ x z).1,(k1.ok.aq _ _ x z).2.1⟩⟩) (x:=Vc<|fin.gr d) (by rw[<-hR];rfl)
  exact LS.br ⟨rfl,a',A,rfl,k6,v,hv,T⟩
 |_=>exact H.elim
end
section
def Z3d:∃o a,clOps[1]?=J o/\o.guard=U/\o.dst=U/\o.op=.call ⟨.builtin .close, #[.tmp 70],a⟩:=⟨_,_,rfl,rfl,rfl,rfl⟩
section
variable {b:Zg}{a:Act}{c:Nat}{w:Z3}
def Z3f{cs:Z7}(t:b.fn=56)(x:b.kind≠.early)(q:a.tmps[70]?=J (.chan<|J c)){s r:Nat}{f:Bool}(hc:w.heap[c]?=J (.chan 0 #[] xw s r f)):
  stepG Try.prog xw (G (b.at a [.inRegion clOps [1]]) cs) w=.go (G (b.at a [.inRegion clOps []]) cs) (WJ w c<|.chan 0 #[] xk s r f) #[⟨.obj c,xw,xk⟩,⟨.obj c,xk,xk⟩]:=by
 obtain⟨o,d,l,g,n,p⟩:=Z3d;have h:a.eval (.tmp 70)=.chan (J c):=Act.al a 70 _ q;have j:execOp a.eval o=(do pure (.value<|<-Builtin.close_ d o.type #[.chan<|J c]):Sem Next):=by
  unfold execOp;simp only[p];simp[resolve,builtin,h];rfl
 have y:(execOp a.eval o).run Try.prog w=.ok (.value<|.tuple #[]) (WJ w c<|.chan 0 #[] xk s r f):=by
  rw[j];simp only[ZhK,run_close_open d o.type hc,ZhI];rfl
 have u:(execOp a.eval o).events Try.prog w #[]=#[⟨.obj c,xw,xk⟩,⟨.obj c,xk,xk⟩]:=by
  rw[j];have g:(Builtin.close_ d o.type #[.chan<|J c]).runT Try.prog w #[]=(.ok (.tuple #[])<|WJ w c<|.chan 0 #[] xk s r f, #[⟨.obj c,xw,xk⟩,⟨.obj c,xk,xk⟩]):=by
   refine ZjD ?_<|events_close_open d o.type hc;rw[Zj6];exact run_close_open d o.type hc
  show((Sem.bind _ _).runT Try.prog w #[]).2=_;rw[Zja,g];rfl
 rw[stepG_value l (by simp[Region.wanted,g]) x y];have k:a.put o.dst (.tuple #[])=a:=by rw[n];rfl
 rw[k];unfold listed;rw[u,seen_eq (by rw[t,Try.func56];rfl) Z1]
noncomputable def bornF:Frame:= {(default:Zg)with fn:=Try.prog.funcs.size,defers:=[],mode:=.panicking [goexitEntry]}
def Z9P(d:b= {base 56 with kind:=.deferred})(f:a.defers=[]):QuitsIn Try.prog 4<|G (b.at a [.inRegion clOps []]) [bornF]:=by
 subst d;refine .ctl (g':=G (({base 56 with kind:=.deferred}:Frame).at a []) [bornF]) rfl (λw=>ZgR) ?_;refine .ctl (g':=G {(({base 56 with kind:=.deferred}:Frame).at a [])with mode:=.returning} [bornF]) rfl (λw=>ZgR) ?_;refine .ctl (g':=G bornF []) rfl (λw=> ?_) ?_;have g:=Try.func56;simp[G,stepG,unwind,Frame.at,f,base,g,results,Try.results56,doReturn,bornF,goexitEntry];rfl;refine .ctl (g':= {(G bornF [])with status:=.finished}) rfl (λw=> ?_) rfl;rfl
end
def qh(l:Z8):NoM<|.sl<|l.map vu:=.sl _ λc a=>by
 have:flat (l.map vu)=l.map vu:=Uf λx d=>Zgx;rw[this]at a;obtain⟨y,_,rfl⟩:=Zhl.1 a;exact .int _ _
def Z3H{n:Nat}{v:Ze}(h:FixV n v)(f m:Nat):FixV n<|RF v f m:=by
 intro ρ d;have a:=h ρ d;unfold RF;split;rename_i b o q k c;simp only[Zt,Zhs,ZU,Value.slice.injEq,ZgX,Addr.mk.injEq,and_true]at a;grind [Zt,ZU];exact a
def GQ{n:Nat}{h:Hp}{x:Z5}{p:Nat}(hx:FixV n<|x p)(o:Ob):FixV n<|UB h x p o:=by
 intro ρ a;have:=Z3H hx (o.aa+1).toNat o.size.toNat ρ a;simp_all[UB,WF,Wo,Un]
def AO{h:Hp}{x:Z5}{v:Ze}:∀ {n p:Nat},v∈Wu h x n p->∃q o,q<p+n/\v=UB h x q o
 |0,p,a=>by simp[Wu]at a
 |n+1,p,a=>by
  simp only[Wu,Zht,Zhl]at a;obtain⟨o,_,rfl⟩|a:=a;exact⟨p,o,Z0,rfl⟩;obtain⟨q,o,f,d⟩:=AO a;exact⟨q,o,Z0,d⟩
def bD:Frame:= {base 56 with kind:=.deferred}
def As(args:Zb):Frame.enter Try.prog 56 args .deferred=bD.at {tmps:=args++Array.replicate (71-args.size) xy,defers:=[]} [.code seC]:=by
 simp[Frame.enter,Frame.at,Try.func56,jn,bD,base,Try.ntmps56]
def P5:YV xP xw seC=xk:=Z2
def Z2O:xP.funcs[Try.prog.funcs.size]?=U:=by
 grind [Array.getElem?_eq_none,xP,WZ]
def Z3c{c n0:Nat}{h:Hp}{x:Z5}{K:Z4}{w:Z3}(hh:h.ok)(a1:xz (xj w)<=n0)(hc:c<n0)(hK:∀b,K b->∃cs e fr,w.heap[b]?=J (.cells cs e fr))(R:∀b o,w.heap[b]?=J o->K b->Kg n0 o)
  (hx:∀j,j<5->FixV n0 (x j)) (hr:∀j,j<5->Rd w K (.sl<|(Zu h j).map vu) (x j))
  (a2:∀p,p<4->I (obP h p)<=1000000/\∀o∈obP h p,0<=o.aa/\0<=o.size/\o.aa+1+o.size<=I (Zu h p)):
  Play Try.prog xw c K (UQ Try.prog c) ((Wu h x 4 0).map .send) (λ_=>False) (born Try.prog {target:=.fn (.func 56) #[],args:=#[ZA h x,.chan<|J c]}) w:=by
 have a6:∀b,K b->b<xz (xj w):=λb k=>ZfZ;have C:∀w1:Z3,stepG Try.prog xw (born Try.prog {target:=.fn (.func 56) #[],args:=#[ZA h x,.chan<|J c]}) w1=.go (G (Frame.enter Try.prog 56 #[ZA h x,.chan<|J c] .deferred) [bornF]) w1 #[]:=λw1=>by
  have hn:¬Try.f56.name= "runtime.NumGoroutine" :=by decide+kernel
  have k:¬Try.f56.body=U:=by rw[jn];simp
  simp[stepG,born,unwind,callDeferred,invoke,callFunc,G,bornF,hn,k];rfl
 refine .step (λw1 H=>⟨_,_,_,_,C w1,Zh3 _,Zh3 _,rfl,rfl,λ_ _ _=>rfl,λe Y=>by simp at Y⟩) λw1 g' w' a4 H e=> ?_;have e:=(C w1).symm.trans e;injection e with M N e3;subst M N;have B:(Ve (λ_=>False) w1 w1:Z4)=λ_=>False:=funext λb=>propext ⟨λk=>by obtain k|k:=k;exact k;omega,λk=>k.elim⟩;rw[B];refine Play.gt ?_ H;let X:Cx:=Sd Try.prog xP n0 K (λ_=>False);have S:X.P=Try.prog:=J0.P n0 K (λ_=>False);have n:∀v∈ #[ZA h x,.chan<|J c],FixV n0 v:=λv hv=>by
  have:v=ZA h x\/v=.chan (J c):=by simpa using hv
  obtain rfl|rfl:=this;intro ρ l;unfold ZA;rw[WF];simp[Wo,Un,hx 0 Z0 ρ l,hx 1 Z0 ρ l,hx 2 Z0 ρ l,hx 3 Z0 ρ l,hx 4 Z0 ρ l];intro ρ l;simp[Zt,l c hc]
 have z:∀ρ,Zw ρ bornF=bornF:=λρ=>by
  simp[Zw,bornF,Wm,Rx,goexitEntry,SE];exact⟨by show Array.map (Zt ρ) #[]=#[];simp,rfl,rfl⟩
 have hw:=E9 X (J0.ok n0 K<|λ_=>False) (c:=c) (es:=(Wu h x 4 0).map .send) (fr:=Frame.enter Try.prog 56 #[ZA h x,.chan<|J c] .deferred) (cs:=[bornF]) (ds:=[]) (main:=xw) (wc:=w)
  (λe Y=>by
   obtain⟨v,hv,rfl⟩:=Zhl.1 Y;obtain⟨q,o,hq,rfl⟩:=AO hv;exact⟨GQ (hx q Z0) o,hc⟩)
  (λρ=>by
   rw[As];refine⟨⟨λi hi=> ?_,λd A=>by simp[Frame.at]at A,.inr rfl,.inl ⟨_,seC,Z1C,Try.func56,jn,P5⟩⟩,λf Z=> ?_,rfl⟩;have:i=.code seC:=by simpa[Frame.at]using hi
   subst this;exact P5;have:f=bornF:=by simpa using Z
   subst this;exact⟨λi hi=>(by cases hi),λd A=>(by cases A),.inl rfl,.inr<|.inl ⟨Z2O,Zjo<|Zh3 _⟩⟩)
  (λf Z=>by
   have:f=Frame.enter Try.prog 56 #[ZA h x,.chan<|J c] .deferred\/f=bornF:=by simpa using Z
   obtain rfl|rfl:=this;rw[As];intro ρ l;have M:(#[ZA h x,.chan<|J c]++Array.replicate (71- (#[ZA h x,.chan<|J c]:Array Value).size) xy).map (Zt ρ)=#[ZA h x,.chan<|J c]++Array.replicate (71- (#[ZA h x,.chan<|J c]:Array Value).size) xy:=by
    rw[Zj2,R9 n ρ l];simp[SE]
   simp_all[Zw,Frame.at,YK,Wm,bD,base];exactλρ _=>z ρ)
  (λb o ho y=>by
   obtain y|y:=y;exact y.elim;exact R b o ho y)
  (Post:=λwl=>Ei c bD [bornF])
  (λt=>by
   rw[As]
   exact Z9O bD [bornF] (X.cl w t) h hh x c K (λb k=>by grind [Cx.cl,Sd,Nat.lt_of_lt_of_le])
    (λj hj=>Ol (X:=X) (λb h=>h) (λb c e fr B hc=>B) a1 (hr j hj)<|qh _) a2)
 have hw:Play Try.prog xw c K _ ((Wu h x 4 0).map .send) (λ_=>False) (G (Frame.enter Try.prog 56 #[ZA h x,.chan<|J c] .deferred)<|[bornF]++[]) w:=S▸hw;refine hw.mono λO g w' ⟨ρ,t,a5,a3,a7,fc,cc,B,hid,⟨W,a,a0,Q,A⟩,L⟩=> ?_;subst B W a0;have D:fc=Zw ρ (bD.at a [.inRegion clOps [1]]):=L.bf;have F:cc=[bornF].map (Zw ρ)++[]:=L.under;have M:fc=bD.at {tmps:=a.tmps.map<|Zt ρ,defers:=[]} [.inRegion clOps [1]]:=by
  rw[D];simp[Zw,Frame.at,A,Wm,YK,bD,base]
 have N:cc=[bornF]:=by rw[F];simp[z]
 rw[M,N];have u:(a.tmps.map<|Zt ρ)[70]?=J (.chan<|J c):=by
  rw[ZhC,Q];simp[Zt,hid c hc]
 refine⟨rfl,?_,_,4,λs r tm T=>Z3f rfl (by simp[bD]) u T,Z9P rfl rfl⟩;rfl
end
inductive NoZ:V->Prop where
 |int (k:IntKind) (n:Int):NoZ<|.int k n
 |bool (b:Bool):NoZ<|.bool b
 |sl (l:Zr):(∀y∈l,y.cells≠[])->(∀c∈flat l,NoZ c)->NoZ (.sl l)
 |agg (l:Zr):(∀c∈l,NoZ c)->NoZ (.agg l)
 |am (l:Zr):(∀c∈l,NoZ c)->NoZ (.am l)
def NoZ.m{x:V}(h:NoZ x):NoM x:=by
 induction h with
 |int k n=>exact .int k n
 |bool b=>exact .bool b
 |sl l _ _ a=>exact .sl l a
 |agg l _ a=>exact .agg l a
 |am l _ a=>exact .am l a
def Z8D{w:Z3}{D:Z4}{x:V}{v:Ze}(h:Rd w D x v)(d:NoZ x):Rd w (λb=>D b/\b<xz (xj w)) x v:=by
 induction h with
 |int k n=>exact .int k n
 |bool b=>exact .bool b
 |nil a cap A=>exact .nil a cap A
 |sl l b o cap k vs g p z r t C j=>
  cases d with
  |sl _ B d=>
   obtain _|⟨y,l⟩:=l;exact .nil _ cap p;have F:0<k:=by
    rw[<-(r y Z1).1];exact ZjK.2<|B y Z1
   have q:=Aj<|t 0 Zg0;exact .sl _ b o cap k vs g p ⟨z,q⟩ r t λi c f=>j i c f<|d c<|AG f
 |agg u vs g p _ j=>
  cases d with
  |agg _ d=>exact .agg u vs g p λi c f=>j i c f<|d c<|Zha f
 |am l vs g _ j=>
  cases d with
  |am _ d=>exact .am l vs g λi c f=>j i c f<|d c<|Zha f
 |_=>cases d
def Z8G{w:Z3}{D:Z4}{x:V}{v:Ze}(h:Rd w D x v)(d:NoZ x):Rd w (λb=>D b/\∃q e r,w.heap[b]?=J (.cells q e r)) x v:=by
 induction h with
 |int k n=>exact .int k n
 |bool b=>exact .bool b
 |nil a cap B=>exact .nil a cap B
 |sl l b o cap k vs g p z t u F j=>
  cases d with
  |sl _ C d=>
   obtain _|⟨y,l⟩:=l;exact .nil _ cap p;have G:0<k:=by
    rw[<-(t y Z1).1];exact ZjK.2<|C y Z1
   obtain⟨_,c,e,r,A,_⟩:=Ku<|u 0 Zg0;exact .sl _ b o cap k vs g p ⟨z,c,e,r,A⟩ t u λi c f=>j i c f<|d c<|AG f
 |agg q vs g p _ j=>
  cases d with
  |agg _ d=>exact .agg q vs g p λi c f=>j i c f<|d c<|Zha f
 |am l vs g _ j=>
  cases d with
  |am _ d=>exact .am l vs g λi c f=>j i c f<|d c<|Zha f
 |_=>cases d
def Ml(l:Z8):NoZ<|.sl<|l.map vu:=.sl _ (λy f=>by obtain⟨z,_,rfl⟩:=Zhl.1 f;simp) λc a=>by
 rw[Uf λx d=>Zgx]at a;obtain⟨y,_,rfl⟩:=Zhl.1 a;exact .int _ _
def Mk(l:Z8):NoZ<|.sl<|l.map vi:=.sl _ (λy f=>by obtain⟨z,_,rfl⟩:=Zhl.1 f;simp) λc a=>by
 rw[Uf λx d=>Zgx]at a;obtain⟨y,_,rfl⟩:=Zhl.1 a;exact .int _ _
def Mj(g:Gr):NoZ<|YB g:=.agg _ λc a=>by
 have:c=.sl (g.nodes.map Yk)\/c=.sl (g.E.map vi):=ZgO;obtain rfl|rfl:=this;refine .sl _ (λy d=>by obtain⟨z,_,rfl⟩:=Zhl.1 d;simp) λc a=> ?_;obtain⟨y,d,a⟩:=Zjn.1 a;obtain⟨n,_,rfl⟩:=Zhl.1 d;have:c=.sl (n.M.map vi)\/c=.sl (n.data.map vu):=ZgO;obtain rfl|rfl:=this;exact Mk _;exact Ml _;exact Mk _
def Mi(g:Gr):NoZ<|Vc g:=by
 unfold Vc;split;all_goals
  refine .am _ λc a=> ?_;simp only[Zho,Ziy,Zk0]at a;obtain rfl|rfl:=a;exact Mj _;exact .int _ _
def UG(h:Hp):NoM<|ZD h:=.agg _ λc a=>by
 simp only[Zho,Ziy,Zk0]at a;obtain rfl|rfl|rfl|rfl|rfl|rfl|rfl|rfl|rfl|rfl:=a;all_goals first|exact .int _ _|exact .bool _|exact qh _
noncomputable def ops4:Array Oper:=Ll<|Yr ofC [1,1,1,0]
def Z7e:(ops4.all λo=>Wa xP xw o.op)=xk:=Z2
def Z97:YV xP xw (Yr ofC [1,1,1,1])=xk:=Z2
def Z73:xP.funcs[38]?=J (Oq Try.f38):=by
 have:=Try.func38;simp only[xP,WZ,Zka,this,Zhs];rfl
def IT{X:Cx}{w:Z3}{t:Nat->Question->Nat}{b:Nat}{cs:Zb}{T:Zf}(h:w.heap[b]?=J (.cells cs T (0,0)))(a:X.O b)(d:b<X.n0):(X.cl w t).heap[b]?=J (.cells cs T (0,0)):=by
 rw[BH,Zhc d,h];unfold Cx.ir;dsimp only;rw[Zhc a,Zhc ⟨trivial,λc e g f=>ZfZ⟩]
def Z93{B g k:Nat}{a:Act}{A C:Zf}{K:Z4}{h:Hp}{x:Z5}{l:Z3}
  (z:a.tmps.size=82) (Q:a.defers=[]) (T:a.tmps[1]?=J (.pointer<|J ⟨g,0,U⟩)) (W:a.tmps[2]?=J (.pointer<|J ⟨k,0,U⟩)) (X:a.tmps[3]?=J (.int .i64 0))
  (n:l.heap[g]?=J (.cells #[.int .u64 h.base,.int .i64 h.cap,.int .i64 h.to,.bool h.Y,.int .i64 h.Z,x 0,x 1,x 2,x 3,x 4] A (0,0))) (o:l.heap[k]?=J (.cells #[.slice U 0 0,.slice U 0 0] C (0,0)))
  (N:B<=g) (O:B<=k) (M:g≠k) (k1:¬K g) (k2:¬K k) (D:∀b,K b->b<xz (xj l)) (r:∀j,j<5->Rd l K (.sl<|(Zu h j).map vu) (x j)):
  RelS K [4,23] a.tmps cV B K l 82 [.no,.m [vu h.base,vi h.cap,vi h.to,.bool h.Y,vi h.Z,.sl<|h.H.map vu,.sl<|h.ab.map vu,.sl<|h.ah.map vu,.sl<|h.ak.map vu,.sl<|h.E.map vu],.m [.sl [],.sl []],.v<|vi 0] a l LC:=by
 have l1:=(Zh6.1 n).1;have l2:=(Zh6.1 o).1;have Z:cV.ix 1=1:=Zg2;have i2:cV.ix 2=2:=Zg2;have i3:cV.ix 3=3:=Zg2;refine⟨⟨{F:=K,bl:=λt i=>if t=1/\i=0 then J g else if t=2/\i=0 then J k else U,K:=K},⟨⟨Z0,D,λb f=>.inl f,λb f=>f,λt i b f=> ?_,λt i u j b f P=> ?_,D,λt i b f=> ?_,λb f=>.inl f⟩,λt _ S=> ?_,λt R=> ?_⟩,rfl⟩,λp Y=> ?_,.refl _ _,z,Q⟩;grind;grind;grind;rw[YA]at S⊢;by_cases G:t=1;subst G;refine⟨_,T,g,_,A,rfl,rfl,n,rfl,λi y d=> ?_⟩;have q:i<10:=(ZgZ.1 d).1
 match i,q with
 |0,_=>cases d;exact⟨_,ZgR,rfl,.int _ _⟩
 |1,_=>cases d;exact⟨_,ZgR,rfl,.int _ _⟩
 |2,_=>cases d;exact⟨_,ZgR,rfl,.int _ _⟩
 |3,_=>cases d;exact⟨_,ZgR,rfl,.bool _⟩
 |4,_=>cases d;exact⟨_,ZgR,rfl,.int _ _⟩
 |5,_=>cases d;exact⟨_,ZgR,rfl,r 0 Z0⟩
 |6,_=>cases d;exact⟨_,ZgR,rfl,r 1 Z0⟩
 |7,_=>cases d;exact⟨_,ZgR,rfl,r 2 Z0⟩
 |8,_=>cases d;exact⟨_,ZgR,rfl,r 3 Z0⟩
 |9,_=>cases d;exact⟨_,ZgR,rfl,r 4 Z0⟩
 |i+10,h=>omega
 by_cases H:t=2;subst H;refine⟨_,W,k,_,C,rfl,rfl,o,rfl,λi y d=> ?_⟩;have w:i<2:=(ZgZ.1 d).1
 match i,w with
 |0,_=>cases d;exact⟨_,ZgR,rfl,.nil _ _<|Zik _⟩
 |1,_=>cases d;exact⟨_,ZgR,rfl,.nil _ _<|Zik _⟩
 |i+2,h=>omega
 by_cases L:t=3;subst L;exact⟨_,X,_,ZgR,.int _ _⟩;simp_all[LC,SS.at,ZiJ,TK.bm];refine absurd ?_ R;rw[YA];split<;>exact VV _;grind [LC,SS.at]
def Z0G(cs:Z7)(r:V)(D:Z4)(g:Zj)(w:Z3):Prop:=
 ∃a,g=G a cs/\a.fn=38/\a.mode=.returning/\a.defers=[]/\a.kind=.normal/\∀d,∃v,(results Try.f38 a.tmps).run Try.prog (w.at d)=.ok v (w.at d)/\Rd (w.at d) (λb=>D b/\b<xz (xj w)) r v
def Z69{c n0 B C D:Nat}{a:Act}{T1 T2:Zf}{K:Z4}{h:Hp}{x:Z5}{w:Z3}{cs:Z7}{fs:List (Fo×Value)}{fin:Vw}(hh:h.ok)
  (e4:a.tmps.size=82) (hd:a.defers=[]) (t1:a.tmps[1]?=J (.pointer<|J ⟨C,0,U⟩)) (t2:a.tmps[2]?=J (.pointer<|J ⟨D,0,U⟩)) (t3:a.tmps[3]?=J (.int .i64 0)) (t4:a.tmps[4]?=J (.chan<|J c))
  (S:w.heap[C]?=J (.cells #[.int .u64 h.base,.int .i64 h.cap,.int .i64 h.to,.bool h.Y,.int .i64 h.Z,x 0,x 1,x 2,x 3,x 4] T1 (0,0))) (T:w.heap[D]?=J (.cells #[.slice U 0 0,.slice U 0 0] T2 (0,0)))
  (f0:B<=xz (xj w)) (d5:B<=C) (d6:B<=D) (c1:C≠D) (k1:¬K C) (k2:¬K D) (b4:xz (xj w)<=n0) (hc:c<n0)
  (hK:∀b,K b->∃cs e fr,w.heap[b]?=J (.cells cs e fr)) (a2:∀(b:Nat) (cs:Zb) (e:Zf) (fr:Nat×Nat),w.heap[b]?=J (Obj.cells cs e fr)->Kg n0 (Obj.cells cs e fr)) (e1:∀v∈a.tmps,FixV n0 v) (hx:∀j,j<5->FixV n0 (x j))
  (hr:∀j,j<5->Rd w K (.sl<|(Zu h j).map vu) (x j)) (a5:∀y∈fs,Rd w K (Xh y.1) y.2/\NoM (Xh y.1)) (e0:fs.map (·.2)=Wu h x 4 0) (hn:I fs<=4000000) (b3:(fs.map (·.1)).foldl Vw.put ⟨[],[],[]⟩=fin) (hs:fin.sm h.E):
  Play Try.prog xk c K (λ_=>Z0G cs (Vc<|fin.gr h.E)<|λb=>K b\/B<=b) ((Wu h x 4 0).map .recv++[.closed zF]) (λb=>b=C\/b=D) (G ((base 38).at a [.inRegion ops4 [],.code<|Yr ofC [1,1,1,1]]) cs) w:=by
 have f1:∀b,K b->b<xz (xj w):=λb H=>ZfZ;have l1:=(Zh6.1 S).1;have l2:=(Zh6.1 T).1;let X:Cx:=Sd Try.prog xP n0 K (λb=>b=C\/b=D);have R:∀ρ,(X.at ρ).P=Try.prog:=λρ=>J0.same.symm;have f3:∀t,xz (xj<|X.cl w t)=n0:=λt=>by simp[Cx.cl,X,Sd]
 have d9:(Wu h x 4 0).map Ev.recv=fs.map λy=>.recv y.2:=by rw[<-e0,Zjx];rfl
 have a8:∀b,(b=C\/b=D)->¬K b:=λb H=>ZfZ
 have hw:=E9 X (J0.ok n0 K<|λb=>b=C\/b=D) (c:=c) (es:=(Wu h x 4 0).map .recv++[.closed zF]) (fr:=(base 38).at a [.inRegion ops4 [],.code<|Yr ofC [1,1,1,1]]) (cs:=[]) (ds:=cs) (main:=xk) (wc:=w)
  (λe L=>by
   obtain L|L:=Zht.1 L;obtain⟨v,hv,rfl⟩:=Zhl.1 L;obtain⟨q,o,hq,rfl⟩:=AO hv;exact⟨GQ (hx q Z0) o,hc⟩;have:e=.closed zF:=ZgM;subst this;exact⟨λρ _=>by simp_all[zF,WF,Zt],hc⟩)
  (λρ=>by
   refine⟨⟨λi p=> ?_,λd a4=> ?_,.inl rfl,.inr<|.inr ⟨_,_,Z73,Try.func38,rfl⟩⟩,λf hf=>by simp at hf,rfl⟩;have:i=.inRegion ops4 []\/i=.code (Yr ofC [1,1,1,1]):=by simpa[Frame.at]using p
   obtain rfl|rfl:=this;exact Z7e;exact Z97;rw[show((base 38).at a [.inRegion ops4 [],.code<|Yr ofC [1,1,1,1]]).defers=a.defers from rfl,hd]at a4;simp at a4)
  (λf hf=>by
   have:f=(base 38).at a [.inRegion ops4 [],.code<|Yr ofC [1,1,1,1]]:=by simpa using hf
   subst this;intro ρ hρ;simp only[Zw,Frame.at,R9 e1 ρ hρ,hd];rfl)
  (λb o M hO=>by
   obtain hO|hO:=hO;obtain rfl|rfl:=hO;rw[S]at M;cases M;exact a2 _ _ _ _ S;rw[T]at M;cases M;exact a2 _ _ _ _ T;obtain⟨cs,e,fr,L⟩:=hK b hO;rw[M]at L;cases L;exact a2 _ _ _ _ M)
  (Post:=λwl=>Ej (base 38) (λA b=>K b\/(B<=b/\b<xz (xj A)))<|Vc<|fin.gr h.E)
  (λt=>by
   rw[d9];have b5:∀ {y:V} {v:Ze},Rd w K y v->NoM y->Rd (X.cl w t) K y v:=λ{y v} h1 h2=>by
    clear a5;induction h1 with
    |int k n=>exact .int k n
    |bool b=>exact .bool b
    |str s=>exact .str s
    |nil a cap h=>exact .nil a cap h
    |sl l b o cap k vs q1 q2 H hf a3 _ Z=>
     cases h2 with
     |sl _ W=>exact .sl l b o cap k vs q1 q2 H hf (λi p=>yW (λM=>a8 b M H) (λc e fr _=>H) b4<|a3 i p) λi c p=>Z i c p<|W c<|AG p
    |agg cs vs q1 q2 _ Z=>
     cases h2 with
     |agg _ W=>exact .agg cs vs q1 q2 λi c p=>Z i c p<|W c<|Zha p
    |am l vs q1 _ Z=>
     cases h2 with
     |am _ W=>exact .am l vs q1 λi c p=>Z i c p<|W c<|Zha p
    |ptr cs b o vs H q1 a3 _ Z=>
     cases h2 with
     |ptr _ W=>exact .ptr cs b o vs H q1 (λi p=>yW (λM=>a8 b M H) (λc e fr _=>H) b4<|a3 i p) λi c p=>Z i c p<|W c<|Zha p
    |fn f=>exact .fn f
    |cq f cs vs q1 _ Z=>
     cases h2 with
     |cq _ _ W=>exact .cq f cs vs q1 λi c p=>Z i c p<|W c<|Zha p
    |ib=>exact .ib
    |ic=>exact .ic
    |lr=>cases h2
    |mp=>cases h2
   refine LS.gq<|Z74 (G:=K) (B:=B) (Z93 e4 hd t1 t2 t3 (IT S (.inl rfl) (by show C<n0;omega)) (IT T (.inr rfl) (by show D<n0;omega)) d5 d6 c1 k1 k2 (λb H=>ZfZ) λj hj=>b5 (hr j hj)<|qh _) t4 rfl (λy hy=>b5 (a5 y hy).1 (a5 y hy).2) hn b3 hs)
 have hw:Play Try.prog xk c K _ ((Wu h x 4 0).map .recv++[.closed zF]) (λb=>b=C\/b=D) (G ((base 38).at a [.inRegion ops4 [],.code<|Yr ofC [1,1,1,1]])<|[]++cs) w:=(R id)▸hw;refine hw.mono λO g A ⟨ρ,t,e9,e7,a0,fc,cc,hg,hid,⟨d8,N,b9,e2,a4,v,hv,e5⟩,Y⟩=> ?_;subst hg d8 e2;have u:fc=Zw ρ {(base 38).at N b9 with mode:=.returning}:=Y.bf;have b6:cc=cs:=Y.under;subst b6;refine⟨fc,rfl,by rw[u];rfl,by rw[u];rfl,by rw[u];show N.defers.map _=_;grind,by rw[u];rfl,λd=> ?_⟩;have b7:(X.at ρ).WR a0<|A.at d:=Ff Y.wr d;have a6:=IM Try.f38<|N.tmps.map<|Zt ρ;have a7:Ye ((results Try.f38<|N.tmps.map<|Zt ρ).run Try.prog<|A.at d)=A.at d:=a6.world _
 have F:=(Bb (X:=X.at ρ) (V:=[]) Try.f38 N.tmps).run a0 (A.at d) #[] b7 (λr hr=>by simp at hr)
  (λj hj=>by
   rw[R ρ]at hj;have e:(Ye<|(results Try.f38<|N.tmps.map<|Zt (X.at ρ).ρ).run Try.prog<|A.at d).drawn=(A.at d).drawn:=Zi8 World.drawn a7;omega)
  (λj hj=>by
   rw[R ρ]at hj;have e:xz (xj<|Ye<|(results Try.f38<|N.tmps.map<|Zt (X.at ρ).ρ).run Try.prog<|A.at d)=xz (xj<|A.at d):=Zi8 (λw=>xz<|xj w) a7;omega)
 have d0:(results Try.f38 N.tmps).run (X.at ρ).Q a0=.ok v a0:=hv;rw[d0,R ρ]at F;obtain⟨b,c0,e8,L,d7,f2⟩:=F;have a1:(results Try.f38<|N.tmps.map<|Zt ρ).run Try.prog (A.at d)=.ok b c0:=by
  have:=Zi8 Prod.fst L;rw[Zj6]at this;exact this
 have e6:c0=A.at d:=by
  have:=a7;rw[a1]at this;exact this
 subst e6;have a9:b=Zt ρ v:=d7;refine⟨b,by rw[u];exact a1,?_⟩;rw[a9];refine(Z8D (Oj b7 e5 (Mi _).m)<|Mi _).mono λb' b0=> ?_;obtain⟨⟨z,hz,rfl⟩,e3⟩:=b0;refine⟨?_,e3⟩;by_cases b8:z<n0;have e:(X.at ρ).ρ z=z:=hid z b8;grind;obtain hz|hz:=hz;grind;right;have:=Y.new z (Nat.le_of_not_lt b8) hz.2;omega
def Y2(h:Hp)(p:Nat)(o:Ob):Fo:=⟨o,(Y1 (Zv h) ((p:Int)+1) o.aa).1,((Zu h p).drop (o.aa+1).toNat).take o.size.toNat⟩
def Xi(h:Hp):Nat->Nat->List Fo
 |0,_=>[]
 |n+1,p=>(obP h p).map (Y2 h p)++Xi h n (p+1)
def TH(h:Hp)(x:Z5):Nat->Nat->List (Fo×Value)
 |0,_=>[]
 |n+1,p=>(obP h p).map (λo=>(Y2 h p o,UB h x p o))++TH h x n (p+1)
def AN h x:∀n p,(TH h x n p).map (·.1)=Xi h n p
 |0,p=>rfl
 |n+1,p=>by simp_all[TH,Xi,Zig,Zjx,AN]
def Hb h x:∀n p,(TH h x n p).map (·.2)=Wu h x n p
 |0,p=>rfl
 |n+1,p=>by simp_all[TH,Wu,Zig,Zjx,Hb]
def Ha{h x y}:∀ {n p},y∈TH h x n p->∃q o,q<p+n/\o∈obP h q/\y=(Y2 h q o,UB h x q o)
 |0,p,a=>by simp[TH]at a
 |n+1,p,a=>by
  simp[TH,Zhl]at a;obtain⟨o,f,rfl⟩|a:=a;exact⟨p,o,Z0,f,rfl⟩;let⟨q,o,g,d⟩:=Ha a;exact⟨q,o,Z0,d⟩
def Yp(h:Hp):Vw:=(Xi h 4 0).foldl Vw.put ⟨[],[],[]⟩
def JH(h:Hp):V:=if Yw h=xk then Vc ((Yp h).gr h.E)else .am [YB UF,vi 1]
structure OfOk (h:Hp):Prop where
 ob:∀p,p<4->I (obP h p)<=1000000/\∀o∈obP h p,0<=o.aa/\0<=o.size/\o.aa+1+o.size<=I (Zu h p)
 n:I (Xi h 4 0)<=4000000
 sm:(Yp h).sm h.E
def Z8H{w K}{l:Z8}{v}(h:Rd w K (.sl<|l.map vu) v){d n}(q:0<I l)(N:d+n<=I l):Rd w K (.sl<|((l.drop d).take n).map vu)<|RF v d n:=by
 generalize g:l.map vu=L at h;have p:I L=I l:=by rw[<-g,Zhv]
 cases h with
 |nil a cap H=>simp_all
 |sl _ b o cap k vs C D r t F u=>
  have M:k=1:=by
   have A:vu (l[0]'q)∈L:=by rw[<-g];exact ZiI Z1
   have:=(t _ A).1;simpa[vu,V.cells]using this.symm
  unfold RF;dsimp only;have z:I (((l.drop d).take n).map vu)=n:=Zg1;by_cases B:n=0;subst B;simp[List.take_zero,Zis];exact .nil _ _ Z0;rw[Zh9 Z0]
  have:=Rd.sl (w:=w) (G:=K) (((l.drop d).take n).map vu) b (o+d) (cap-d) 1 (λi=>vs<|d+i) Z0 Z0 r ZfZ
   ZfZ
   (λi c f=>by
    rw[Uf λx j=>by obtain⟨y,_,rfl⟩:=Zhl.1 j;rfl,Zhq,ZhD]at f;split at f;rw[Zhx]at f;exact u _ c (by rw[<-g,Uf λx j=>by obtain⟨y,_,rfl⟩:=Zhl.1 j;rfl,Zhq];exact f);cases f)
  simp_all
def Z6G f:NoM<|Xh f:=.agg _ λc a=>by
 simp[Zk0]at a;obtain rfl|rfl|rfl|rfl|rfl|rfl|rfl:=a;all_goals first|exact .int _ _|exact .bool _|exact qh _
def Z3W{w K h x}(d:OfOk h)(r:∀j,j<5->Rd w K (.sl<|(Zu h j).map vu) (x j)):∀y∈TH h x 4 0,Rd w K (Xh y.1) y.2/\NoM (Xh y.1):=by
 intro y g;obtain⟨q,o,p,f,rfl⟩:=Ha g;refine⟨?_,Z6G _⟩;let⟨k,l,n⟩:=(d.ob q Z0).2 o f;refine .agg _ _ rfl Z1 λi c a=> ?_
 match i,a with
 |0,a=>cases a;exact .int _ _
 |1,a=>cases a;exact .int _ _
 |2,a=>cases a;exact .int _ _
 |3,a=>cases a;exact .bool _
 |4,a=>cases a;exact .int _ _
 |5,a=>cases a;exact .int _ _
 |6,a=>cases a;exact Z8H ZfZ Z0 Z0
noncomputable def cB:Ctx:= {P:=Ya Try.prog,ix:=(vf<|Ya Try.prog).ix,own:=λ_=>xw,fresh,sig:=Du,tr:=[3],n:=82}
def FX{P}:∀ {c},Ty P c=xk->Sb (Lg.li<|Ya P) c:=by
 intro c;induction c with
 |region id j d=>exactλh o g=>(Zj5.1 h) o g
 |seq x y a f=>intro h;simp[Ty]at h;exact⟨a h.1,f h.2⟩
 |cond c x y a f=>intro h;simp[Ty]at h;exact⟨a h.1,f h.2⟩
 |block id x a=>exact a
 |loop x a=>exact a
 |scope x a=>exact a
 |_=>intro h;first|trivial|cases h
def Jm:(Ya Try.prog).follows .mixedOrders=xk:=Z2
def Mp{code S st fl B G Kf s a w w0 T0 N X Rt}(f:Ty Try.prog code=xk)(hc:comp (vf<|Ya Try.prog) code S=J (st,fl))(h:RelS Kf [4,23] T0 cB B G w0 82 s a w S)(j:Yx (Ya Try.prog) st s N X Rt):
  Tr Try.prog code (Post Kf [4,23] T0 cB B G w0 82 fl N X Rt) a w:=
 letI:Lg (vf<|Ya Try.prog).P:=besI Try.prog
 An (fc:=vf<|Ya Try.prog) Jm (λp k q g d=>CT Zg0 (Zip _ g) d) rfl rfl rfl (Zh3 _) code (FX f) hc h j
def Z6Y:Try.f38.body=J ofC:=Z2
def Z6Z:ofC=.seq (Yr ofC [0]) (.seq (Yr ofC [1,0])<|.seq (Yr ofC [1,1,0])<|.seq (Yr ofC [1,1,1,0])<|Yr ofC [1,1,1,1]):=Z2
noncomputable def ops3:Array Oper:=Ll<|Yr ofC [1,1,0]
def Z8s:Yr ofC [1,1,0]=.region 3 ops3 xw:=Z2
def Z8t:Yr ofC [1,1,1,0]=.region 4 ops4 xw:=Z2
def Z79:∃o,ops3[0]?=J o/\o.guard=U/\o.dst=J 18/\o.op=.makeChan 121 (.const<|.int .i64 0):=⟨_,rfl,rfl,rfl,rfl⟩
def Z7a:∃o,ops3[1]?=J o/\o.guard=U/\o.dst=J 4/\o.op=.assign (.tmp 18):=⟨_,rfl,rfl,rfl,rfl⟩
def Z7b:∃o,ops4[0]?=J o/\o.guard=U/\o.dst=J 19/\o.op=.load 30 (.tmp 1):=⟨_,rfl,rfl,rfl,rfl⟩
def Z7c:∃o,ops4[1]?=J o/\o.guard=U/\o.dst=J 20/\o.op=.move (.tmp 4):=⟨_,rfl,rfl,rfl,rfl⟩
def Z7d:∃o a,ops4[2]?=J o/\o.guard=U/\o.dst=U/\o.op=.go ⟨.value<|.func 56, #[.tmp 19,.tmp 20],a⟩:=⟨_,_,rfl,rfl,rfl,rfl⟩
def MA:ops3.size=2/\ops4.size=3:=⟨rfl,rfl⟩
def Z3b:∃d inf,Try.prog.underlying 121=J (.chan d 126)/\Try.prog.info? 126=J inf:=⟨_,_,rfl,rfl⟩
def Z2t{B w w'}(h:Below B w w')d:Below B w<|w'.at d:=⟨h.os,h.tape,h.output,h.size,h.block⟩
def Z44{b:Zg}{k:Zn}{cs:Z7}{a:Act}{g:Ze}{c:Nat}(l:b.kind≠.early)(d:a.tmps[19]?=J g)(f:a.tmps[20]?=J (.chan<|J c))(w:Z3):
  stepG Try.prog xk (G (b.at a<|.inRegion ops4 [2]::k) cs) w=.spawn (G (b.at a<|.inRegion ops4 []::k) cs) (born Try.prog {target:=.fn (.func 56) #[],args:=#[g,.chan<|J c]}) w #[]:=by
 obtain⟨o,j,n,p,q,r⟩:=Z7d;have t:=Act.al a 19 _ d;have u:=Act.al a 20 _ f;have h:execOp a.eval o=(pure (.spawn {target:=.fn (.func 56) #[],args:=#[g,.chan<|J c]}):Sem Next):=by
  unfold execOp;simp only[r];simp[resolve,Deferred.ofValue,Act.eval,d,f]
 have:=stepG_spawn (P:=Try.prog) (main:=xk) (b:=b) (a:=a) (k:=k) (cs:=cs) (w:=w) (i:=2) (rest:=[]) n (by simp[Region.wanted,p]) l (by rw[h];rfl) rfl;rw[q]at this;rw[this];unfold listed;rw[h];rfl
def Z72{h B G s a w w0 T0}(S:RelS G [4,23] T0 cB B G w0 82 s a w Og)(q1:get s 1=.m [vu h.base,vi h.cap,vi h.to,.bool h.Y,vi h.Z,.sl<|h.H.map vu,.sl<|h.ab.map vu,.sl<|h.ah.map vu,.sl<|h.ak.map vu,.sl<|h.E.map vu])(q3:get s 3=.v (vi 0)):
  ∃(F:Z4) (k l:Nat) (r t:Zf) (x:Z5),(∀b,F b->G b\/B<=b)/\¬F k/\¬F l/\B<=k/\B<=l/\k≠l/\B<=xz (xj w)/\a.tmps[1]?=J (.pointer<|J ⟨k,0,U⟩)/\a.tmps[2]?=J (.pointer<|J ⟨l,0,U⟩)/\a.tmps[3]?=J (.int .i64 0)/\
   w.heap[k]?=J (.cells #[.int .u64 h.base,.int .i64 h.cap,.int .i64 h.to,.bool h.Y,.int .i64 h.Z,x 0,x 1,x 2,x 3,x 4] r (0,0))/\w.heap[l]?=J (.cells #[.slice U 0 0,.slice U 0 0] t (0,0))/\
   (∀j,j<5->Rd w F (.sl<|(Zu h j).map vu) (x j)):=by
 let⟨⟨L,k1,k2⟩,k3,k4,k5,k6⟩:=S;have X:cB.ix 1=1:=Zg2;have Y:cB.ix 3=3:=Zg2;obtain⟨u1,t1,k,d,r,P,rfl,f3,H⟩:=k1.aa 1 (by rw[YA];exact VV _) ZgR;obtain⟨u2,t2,l,f,t,g1,rfl,g3,K⟩:=k1.aa 2 (by rw[YA];exact VV _) ZgR;let⟨u3,t3,u⟩:=k1.aa 3 (by rw[YA];exact VV _) ZgR;obtain⟨y3,o,A⟩:∃y,eval s _=J y/\Rd w _ y u3:=u;rw[Y]at o;simp[eval,q3,ZgX]at o;subst o;have M:=Sz A;subst M;have T:d.size=10:=H.1;have W:f.size=2:=K.1;have g:∀i y,[vu h.base,vi h.cap,vi h.to,.bool h.Y,vi h.Z,.sl<|h.H.map vu,.sl<|h.ab.map vu,.sl<|h.ah.map vu,.sl<|h.ak.map vu,.sl<|h.E.map vu][i]?=J y->Rd w L.F y _:=λi y n=>by
  have p:i<10:=(ZgZ.1 n).1
  have:=H.2 i (.fz,.m (cB.ix 1) i) (by
   match i,p with
   |0,_=>rfl
   |1,_=>rfl
   |2,_=>rfl
   |3,_=>rfl
   |4,_=>rfl
   |5,_=>rfl
   |6,_=>rfl
   |7,_=>rfl
   |8,_=>rfl
   |9,_=>rfl
   |i+10,h=>omega)
  let⟨z,D,z2,z3⟩:=this;rw[X]at D;simp[eval,q1,n,Zhb]at D;obtain⟨rfl,_⟩:=Sw D;exact z3
 have R:∀i,i<2->f.getD i xy=.slice U 0 0:=λi n=>by
  have:=K.2 i (.nil,.m (cB.ix 2) i) (by
   grind)
  exact this.1
 have N:d=#[.int .u64 h.base,.int .i64 h.cap,.int .i64 h.to,.bool h.Y,.int .i64 h.Z,d.getD 5 xy,d.getD 6 xy,d.getD 7 xy,d.getD 8 xy,d.getD 9 xy]:=by
  refine Zjs Z0 λi q C=> ?_;have n:i<10:=by simpa using C
  have e:d[i]=d.getD i xy:=by simp[Array.getD,q]
  rw[e]
  match i,n with
  |0,_=>exact Sz<|g 0 _ rfl
  |1,_=>exact Sz<|g 1 _ rfl
  |2,_=>exact Sz<|g 2 _ rfl
  |3,_=>exact Oi<|g 3 _ rfl
  |4,_=>exact Sz<|g 4 _ rfl
  |5,_=>rfl
  |6,_=>rfl
  |7,_=>rfl
  |8,_=>rfl
  |9,_=>rfl
  |i+10,h=>omega
 have O:f=#[.slice U 0 0,.slice U 0 0]:=by
  refine Zjs Z0 λi q C=> ?_;have n:i<2:=by simpa using C
  have e:f[i]=f.getD i xy:=by simp[Array.getD,q]
  rw[e,R i n]
  match i,n with
  |0,_=>rfl
  |1,_=>rfl
  |i+2,h=>omega
 let⟨Z,m2,m3⟩:=k1.ok.aq 1 0 k P;let⟨n1,n2,n3⟩:=k1.ok.aq 2 0 l g1;refine⟨L.F,k,l,r,t,λj=>d.getD (5+j) xy,k1.ok.cr,m3,n3,Z,n1,λe=> ?_,Z0,t1,t2,t3,ZfZ,ZfZ,λj Q=> ?_⟩;grind
 match j,Q with
 |0,_=>exact g 5 _ rfl
 |1,_=>exact g 6 _ rfl
 |2,_=>exact g 7 _ rfl
 |3,_=>exact g 8 _ rfl
 |4,_=>exact g 9 _ rfl
 |j+5,h=>omega
def Ew{h:Hp}(hh:h.ok)(hk:Yw h=xk->OfOk h):VC (Ya Try.prog) 38 xw [ZD h]<|JH h:=by
 refine⟨Z2,λw G vs hG h4 g9 q C hK=> ?_⟩;have Y:VC (Ya Try.prog) 17 xw [ZD h]<|.bool<|Yw h:=IA J0 (QV hh) (λy hy=>by rw[Zi7.1 hy];exact UG h)<|.bool _;have e0:vs.size=1:=h4;have h6:Rd w G (ZD h)<|vs.getD 0 xy:=g9 0 _ rfl;have Z:Frame.enter Try.prog 38 vs .normal=(base 38).at {tmps:=vs++Array.replicate (82-vs.size) xy,defers:=[]} [.code ofC]:=by
  rw[enter_at vs Try.func38 Z6Y,Try.ntmps38]
 show Walk Try.prog C (Frame.enter Try.prog 38 vs .normal) q w;rw[Z,Z6Z];clear Z;have i0:cB.ix 0=0:=Zg2;generalize a4:({tmps:=vs++Array.replicate (82-vs.size) xy,defers:=[]}:Act)=a0;have t0:a0.tmps[0]?=J (vs.getD 0 xy):=by
  rw[<-a4];simp only;rw[Zj0 Z0];simp[Zh5,e0]
 have g8:RelS G [4,23] a0.tmps cB (xz<|xj w) G w 82 [.v<|ZD h] a0 w qT:=by
  refine⟨⟨{F:=G,bl:=λ_ _=>U,K:=G},⟨⟨Zh3 _,hG,λb a=>.inl a,λb a=>a,λt i b a=>(by cases a),λt i u j b a=>(by cases a),hG,λt i b a=>(by cases a),λb a=>.inl a⟩,λt _ hk=> ?_,λt hh=> ?_⟩,rfl⟩,λp B=> ?_,.refl _ _,by rw[<-a4];simp[e0],by rw[<-a4]⟩;rw[YA]at hk⊢;by_cases e:t=0;subst e;exact⟨_,t0,ZD h,by rw[i0];rfl,h6.mono λb a=>.inl a⟩;simp[qT,SS.at,ZiJ e,TK.bm]at hk;refine absurd ?_ hh;rw[YA];split<;>exact VV _;simp only[qT,SS.at]at B;split at B<;>cases B
 refine .cx (Mp Z2 r0c g8 (N:=λs'=>get s' 1=.m [vu h.base,vi h.cap,vi h.to,.bool h.Y,vi h.Z,.sl<|h.H.map vu,.sl<|h.ab.map vu,.sl<|h.ah.map vu,.sl<|h.ak.map vu,.sl<|h.E.map vu]/\get s' 2=.m [.sl [],.sl []]/\get s' 3=.v (vi 0)) (X:=λ_ _=>False) (Rt:=λ_=>False) (by simp[r0]) (base 38) _ q C (by simp[base]) λe a1 w1 B=> ?_);cases e with
 |exit id=>obtain⟨_,_,_,h,_⟩:=B;exact h.elim
 |ret=>obtain⟨_,_,_,h,_⟩:=B;exact h.elim
 |normal=>
  obtain⟨s1,S1,f9,⟨q1,q2,q3⟩,d8⟩:=B;cases f9;have b6:Below (xz<|xj w) w w1:=d8.2.2.1.below;refine .cx (Mp Z2 rXc d8.base (N:=λs'=>Yw h=xk/\get s' 1=get s1 1/\get s' 3=get s1 3) (X:=λ_ _=>False) (Rt:=λs'=>Yw h=xw/\Wp s' [(2,.ag 2),(3,.v)]=J (.am [YB UF,vi 1])) ?_ (base 38) _ q C (by simp[base]) λe a2 w2 B=> ?_);simp[rX,q1];refine Zz Y Z1 ?_;cases i7:Yw h;simp[YZ,Wp,U4,Tk,UF,YB];simp[YZ,q1];cases e with
  |exit id=>obtain⟨_,_,_,h,_⟩:=B;exact h.elim
  |ret=>
   obtain⟨s2,S2,L,⟨e1,e2⟩,l⟩:=B;have L:S2=D1:=ZgM;subst L;have a6:Below (xz<|xj w) w w2:=b6.trans l.2.2.1.below;intro i4;refine hK _ w2 rfl ⟨rfl,l.2.2.2.2,rfl,_,Try.func38,λd=> ?_⟩;obtain⟨⟨h2,k1,k2⟩,k3,k4,k5,k6⟩:=l.ma d
   obtain⟨v,hv,a9⟩:=LI (c:=cB) (f:=Try.f38) (D:=λb=>(xw=xw/\G b)\/(xz (xj w)<=b/\b< xz (xj<|w2.at d))) k1 k3 (λb a=>by
    obtain R|R:=k1.ok.cr b a;exact .inl ⟨rfl,R⟩;exact .inr ⟨R,k1.ok.bo b a⟩) (λr hr=>⟨Zhd.1 (Z2:(Try.f38.results.toList.all<|Rm (Ya Try.prog) D1)=xk) r hr,λi b a=>.inr ⟨(k1.ok.aq _ _ b a).1,(k1.ok.aq _ _ b a).2.1⟩⟩) (x:=.am [YB UF,vi 1]) (by rw[<-e2];exact Zi8 (Wp s2) Z2)
   refine⟨v,hv,v,rfl,Z2t a6 d,?_⟩;unfold JH;rw[Zh9 (by rw[e1];simp)];exact a9
  |normal=>
   obtain⟨s2,S2,L,⟨e1,e2,e3⟩,l⟩:=B;cases L;have a6:Below (xz<|xj w) w w2:=b6.trans l.2.2.1.below;have W:=hk e1;obtain⟨F,Q,b2,T1,T2,x,hF,h7,h8,f7,f8,f6,i5,t1,t2,t3,e5,e6,h0⟩:=Z72 (h:=h) l (e2.trans q1)<|e3.trans q3;have e4:a2.tmps.size=82:=l.2.2.2.1;have g5:a2.defers=[]:=l.2.2.2.2;have l1:=(Zh6.1 e5).1;have l2:=(Zh6.1 e6).1;obtain⟨o,o1,o2,o3,o4⟩:=Z79;obtain⟨o',p1,p2,p3,p4⟩:=Z7a;obtain⟨dir,inf,h5,d0⟩:=Z3b;refine .cx ?_;rw[Z8s];refine .region ?_;rw[MA.1,show List.range 2=[0,1]from rfl];refine Walk.chan (i:=0) o1 (by simp[Region.wanted,o2]) (by simp[base]) o4 h5 d0 ?_;rw[o3];generalize hc:xz (xj w2)=c;obtain⟨w3,M⟩:∃w3,w3=w2.alloc (.chan 0 #[] xw 0 0 xw):=⟨_,rfl⟩;rw[<-M];have b4:((a2.put (J 18)<|.chan<|J c).eval<|.tmp 18)=.chan (J c):=Act.al _ 18 _<|Q0 Z0;refine Walk.val (i:=1) (v:=.chan<|J c) p1 (by simp[Region.wanted,p2]) (by simp[base]) (by rw[p4];rfl) (λw' _=>by unfold execOp;simp only[p4,b4];rfl)<|.gq ?_;rw[p3];have z3:xz (xj w3)=c+1:=by rw[M,<-hc];simp
   have b7:w3.heap[c]?=J (.chan 0 #[] xw 0 0 xw):=by rw[M,<-hc];exact Zhk ..
   have S:∀b,b<c->w3.heap[b]?=w2.heap[b]? :=λb a=>by rw[M];exact Zh4 _ _ _ Z0
   have A:Below (xz<|xj w) w w3:=by rw[M];exact a6.alloc Z0 _
   have m1:w3.heap[Q]?=_:=(S Q Z0).trans e5;have m2:w3.heap[b2]?=_:=(S b2 Z0).trans e6;obtain⟨o0,e8,e9,f0,b0⟩:=Z7b;obtain⟨o9,f1,f2,f3,b3⟩:=Z7c;refine .cx ?_;rw[Z8t];refine .region ?_;rw[MA.2,show List.range 3=[0,1,2]from rfl];generalize z:(a2.put (J 18)<|.chan<|J c).put (J 4) (.chan<|J c)=a3;have g1:a3.tmps[1]?=J (.pointer<|J ⟨Q,0,U⟩):=by rw[<-z,WI Z0,WI Z0];exact t1
   have g4:a3.tmps[4]?=J (.chan<|J c):=by rw[<-z];exact Q0 (by rw[R0];omega)
   have gs:a3.tmps.size=82:=by rw[<-z,R0,R0];exact e4
   have f4:a3.eval (.tmp 1)=.pointer (J ⟨Q,0,U⟩):=Act.al _ 1 _ g1;refine Walk.val (i:=0) (v:=ZA h x) e8 (by simp[Region.wanted,e9]) (by simp[base]) (by rw[b0];rfl) (λw' he=> ?_) ?_
   have hl:=jj (P:=Try.prog) (w:=w') (T:=30) Z2 Z2 (b:=Q) (o:=0) [.int .u64 h.base,.int .i64 h.cap,.int .i64 h.to,.bool h.Y,.int .i64 h.Z,x 0,x 1,x 2,x 3,x 4] Z2 (λi u hi=>by
    rw[ZhN,Zh7 w' Q i _ T1 (0,0) (by rw[he];exact m1)];simpa using hi)
   unfold execOp;simp only[b0,f4];rw[ZhK,hl];rfl;rw[f0];have f5:(a3.put (J 19)<|ZA h x).eval (.tmp 4)=.chan (J c):=Act.al _ 4 _ (by rw[WI Z0];exact g4);refine Walk.val (i:=1) (v:=.chan<|J c) f1 (by simp[Region.wanted,f2]) (by simp[base]) (by rw[b3];rfl) (λw' _=>by unfold execOp;simp only[b3,f5];rfl) ?_;rw[f3];generalize k:(a3.put (J 19)<|ZA h x).put (J 20) (.chan<|J c)=O;have u1:O.tmps[1]?=J (.pointer<|J ⟨Q,0,U⟩):=by rw[<-k,WI Z0,WI Z0];exact g1
   have u4:O.tmps[4]?=J (.chan<|J c):=by rw[<-k,WI Z0,WI Z0];exact g4
   have us:O.tmps.size=82:=by rw[<-k,R0,R0];exact gs
   have u2:O.tmps[2]?=J (.pointer<|J ⟨b2,0,U⟩):=by rw[<-k,WI Z0,WI Z0,<-z,WI Z0,WI Z0];exact t2
   have u3:O.tmps[3]?=J (.int .i64 0):=by rw[<-k,WI Z0,WI Z0,<-z,WI Z0,WI Z0];exact t3
   have i2:O.tmps[19]?=J (ZA h x):=by rw[<-k,WI Z0];exact Q0 Z0
   have i3:O.tmps[20]?=J (.chan<|J c):=by rw[<-k];exact Q0 (by rw[R0];omega)
   have ud:O.defers=[]:=by rw[<-k,<-z];exact g5
   let K:Nat->Prop:=λb=>F b/\∃q e H,w3.heap[b]?=J (.cells q e H);have a7:∀j,j<5->Rd w3 K (.sl<|(Zu h j).map vu) (x j):=λj hj=>by
    have R:=Z8G (h0 j hj)<|Ml _;refine R.keep (λb a=>S b ?_) λb a=>⟨a.1,?_⟩;obtain⟨_,q,e,H,a⟩:=a;have:=(Zh6.1 a).1;omega;obtain⟨_,q,e,H,a⟩:=a;exact⟨q,e,H,by rw[S b (by have:=(Zh6.1 a).1;omega)];exact a⟩
   obtain⟨n0,d6,c1,c0⟩:=GR w3<|O.tmps++ #[x 0,x 1,x 2,x 3,x 4];have hx:∀j,j<5->FixV n0 (x j):=λj hj=>by
    refine c1 _<|Zix.2<|.inr ?_
    match j,hj with
    |0,_=>simp
    |1,_=>simp
    |2,_=>simp
    |3,_=>simp
    |4,_=>simp
    |j+5,h=>omega
   have b8:c<n0:=Z0;have h9:¬K Q:=λh=>h7 h.1;have i1:¬K b2:=λh=>h8 h.1;have b5:∀b,K b->b<xz (xj w3):=λb ⟨_,_,_,_,a⟩=>(Zh6.1 a).1;have e7:¬K c:=λ⟨_,_,_,_,a⟩=>by rw[b7]at a;cases a
   refine Walk.ue (KA:=K) (KB:=K) (OA0:=λb=>b=Q\/b=b2) (c:=c) (λw=>Z44 (by simp[base]) i2 i3 w)
    (Z69 (fs:=TH h x 4 0) (fin:=Yp h) hh us ud u1 u2 u3 u4 m1 m2 Z0 f7 f8 f6 h9 i1 d6 b8 (λb a=>a.2) (λb q e H a=>c0 b q e H a) (λv hv=>c1 v<|Zix.2<|.inl hv) hx a7 (Z3W W a7) (Hb h x 4 0) (by
     have:=W.n;rw[<-AN h x 4 0,Zhv]at this;exact this) (by rw[AN];rfl) W.sm)
    (Z3c hh d6 b8 (λb a=>a.2) (λb o ho a=>by
     obtain⟨_,q,e,H,he⟩:=a;rw[ho]at he;cases he;exact c0 b q e H ho) hx a7 W.ob) b7 (λb a=>by obtain rfl|rfl:=a<;>omega) b5 b5 (λb a=>by obtain rfl|rfl:=a<;>assumption) (λa=>by obtain a|a:=a<;>omega) e7 e7 ?_
   rintro OA g w' ⟨H,rfl,b9,hm,hd,g7,d9⟩ h3 a8 d7 i6 g6;refine⟨H,q,rfl,hK H w' b9 ⟨hm,hd,g7,_,by rw[b9];exact Try.func38,λd=> ?_⟩⟩;obtain⟨v,hv,a9⟩:=d9 d;refine⟨v,hv,v,rfl,⟨(Zi8 Prod.fst d7).trans A.os,a8.trans A.tape,(Zi8 Prod.snd d7).trans A.output,Zhu A.size h3,λb a=>(g6 b (by have:=A.size;omega) (λg3=>by obtain rfl|rfl:=g3<;>omega) Z0).trans<|A.block b a⟩,?_⟩;unfold JH;rw[Zhc e1];refine a9.mono λb a=> ?_;obtain⟨a,d5⟩:=a;obtain a|a:=a;obtain R|R:=hF b a.1;exact .inl ⟨rfl,R⟩;exact .inr ⟨R,d5⟩;exact .inr ⟨a,d5⟩
  |_=>exact B.elim
 |_=>exact B.elim
#print axioms Ew
end Vm
end
section
namespace Vm
open Go Go.Proofs
section
section
variable {h:Hp}{p:Pts}
def TU(h:Hp){q:Nat}(a:q<4):Zx h ((q:Int)+1)=Zu h q:=by
 have:q=0\/q=1\/q=2\/q=3:=Z0;obtain rfl|rfl|rfl|rfl:=this<;>rfl
def Rt.dh(r:Rt h p){q:Nat}(a:q<4):obP h q=p.at ((q:Int)+1):=by
 unfold Vm.obP;rw[r.uf Z0]
def TG{f:Fo}:∀ {n q:Nat},f∈Xi h n q->∃k o,q<=k/\k<q+n/\o∈obP h k/\f=Y2 h k o
 |0,q,a=>by simp[Xi]at a
 |n+1,q,a=>by
  simp only[Xi,Zht,Zhl]at a;obtain⟨o,g,rfl⟩|a:=a;exact⟨q,o,Z0,Z0,g,rfl⟩;obtain⟨k,o,j,l,d⟩:=TG a;exact⟨k,o,Z0,Z0,d⟩
def yY{k:Nat}{o:Ob}(a:o∈obP h k):∀ {n q:Nat},q<=k->k<q+n->Y2 h k o∈Xi h n q
 |0,q,d,f=>Z0
 |n+1,q,d,f=>by
  simp only[Xi,Zht,Zhl];by_cases e:k=q;subst e;exact .inl ⟨o,a,rfl⟩;exact .inr<|yY a Z0 Z0
def Z8p(s:Vw)(f:Fo):(s.put f).ns=s.ns++if f.ob.gone then []else [f]:=by
 unfold Vw.put;split<;>simp
def H4:∀(l:List Fo) (s:Vw),(l.foldl Vw.put s).ns=s.ns++l.filter λf=> !f.ob.gone
 | [],s=>Z1
 |f::l,s=>by
  rw[ZiX,H4 l,Z8p];cases a:f.ob.gone<;>simp[a]
def E5(h:Hp):(Yp h).ns=(Xi h 4 0).filter λf=> !f.ob.gone:=by
 unfold Yp;rw[H4];rfl
def Lh(r:Rt h p){q:Nat}(a:q<4):I (obP h q)<=I (Zu h q):=by
 have t:=r.an ((q:Int)+1) Z0;have:=t.sum<|Zik _;rw[TU h a,<-r.dh a]at this;have d:I (obP h q)<=VH (obP h q):=by
  generalize obP h q=l;induction l with
  |nil=>simp
  |cons o l f=>simp only[VH,ZhA,List.sum_cons,Zie]at f⊢;omega
 omega
def Rt.lp(r:Rt h p){q:Nat}(l:q<4):I (Zu h q)<=4096:=by
 obtain⟨a,d,_,_,_,⟨_,_,f,g⟩,⟨_,_,j,k⟩⟩:=XN.1 r.bb;simp only[Zv]at*;have:q=0\/q=1\/q=2\/q=3:=Z0;obtain rfl|rfl|rfl|rfl:=this;show I h.H<=4096;omega;show I h.ab<=4096;omega;show I h.ah<=4096;omega;show I h.ak<=4096;omega
def Rt.ov(r:Rt h p){q:Nat}(f:q<4){o:Ob}(d:o∈obP h q):∃a n m:Nat,o.aa=a/\o.size=n/\o.M=m/\a+(n+1)<=I (Zu h q)/\n<=255/\m<=n:=by
 rw[r.dh f]at d;have:=r.toTld.ob Z0 d;rwa[TU h f]at this
def lsW(a:h.ok){q:Nat}(d:q<4):∀w∈Zu h q,ZC w:=by
 have:q=0\/q=1\/q=2\/q=3:=Z0;obtain rfl|rfl|rfl|rfl:=this;exact a.gg;exact a.gj;exact a.kr;exact a.kg
def KN(r:Rt h p){q:Nat}(f:q<4){o:Ob}(d:o∈obP h q):(Y2 h q o).sl.length=o.size.toNat:=by
 obtain⟨a,n,m,g,j,k,l,_⟩:=r.ov f d;simp only[Y2,Zi4,Zj4];omega
def Rt.ug(r:Rt h p)(x:h.ok):OfOk h:=by
 have F:I (Xi h 4 0)<=16384:=by
  have A:=Lh r (q:=0) Z0;have j:=Lh r (q:=1) Z0;have l:=Lh r (q:=2) Z0;have t:=Lh r (q:=3) Z0;have G:=r.lp (q:=0) Z0;have k1:=r.lp (q:=1) Z0;have H:=r.lp (q:=2) Z0;have K:=r.lp (q:=3) Z0;simp only[Xi,ZhJ,Zhv,Zif,ZhN,Nat.reduceAdd];omega
 refine⟨λq g=>⟨by have:=Lh r g;have:=r.lp g;omega,λo d=> ?_⟩,Z0,⟨?_,λf u=> ?_,by have:=r.fu;omega,x.dm⟩⟩;obtain⟨a,n,m,j,l,t,y,_⟩:=r.ov g d;omega;rw[E5];have:=Zkb (λf:Fo=> !f.ob.gone)<|Xi h 4 0;omega;rw[E5]at u;obtain⟨k,o,_,D,d,rfl⟩:=TG (ZjT.1 u).1;obtain⟨a,n,m,j,l,t,y,B,C⟩:=r.ov Z0 d;have e:=KN r Z0 d;refine⟨by show 0<=o.M;omega,by show o.M<=_;rw[e];omega,by rw[e];omega,λw z=>lsW x (q:=k) Z0 w ?_⟩;exact Zjf<|Zi1 z
def ofOk(a:h.ok)(d:Yw h=xk):OfOk h:=by
 obtain⟨p,r⟩:=JV.1 d;exact r.ug a
end
def Z0Z{h:Hp}(a:h.ok):VC (Ya Try.prog) 38 xw [ZD h]<|JH h:=Ew a<|ofOk a
end
section
structure VwI (d:List Fo) (s:Vw):Prop where
 ns:s.ns=d.filter λf=> !f.ob.gone
 n1:∀a j,Y5 s.nm a=J j->∃i:Nat,j=i/\∃f,s.ns[i]?=J f/\f.ad=a
 n2:∀f∈s.ns,(Y5 s.nm f.ad).isSome=xk
 t1:∀a t,Y5 s.tm a=J t->∃f∈d,f.ob.gone=xk/\f.ad=a/\f.ob.target=t
 t2:∀f∈d,f.ob.gone=xk->(Y5 s.tm f.ad).isSome=xk
def yN{α l k j}{x:α}(h:k=j\/(Y5 l j).isSome=xk):(Y5 (XX l k x) j).isSome=xk:=by
 rw[Jo];split;rfl;rename_i a;obtain h|h:=h;exact absurd h a;exact h
theorem VwI.put{d s f}(i:VwI d s):VwI (d++[f])<|s.put f:=by
 cases l:f.ob.gone;have e:s.put f= {s with ns:=s.ns++[f],nm:=XX s.nm f.ad (I s.ns)}:=by simp[Vw.put,l]
 rw[e];refine⟨by simp[i.ns,l],λa j o=> ?_,λx h=> ?_,λa t n=> ?_,λx h k=> ?_⟩;simp only[Jo]at o;split at o;rename_i r;exact⟨I s.ns,by simpa using o.symm,f,Z1,r⟩;have⟨m,w,g,u,y⟩:=i.n1 a j o;exact⟨m,w,g,by simp only[Zhz (ZgZ.1 u).1,u],y⟩;obtain h|h:=Zht.1 h;exact yN<|.inr<|i.n2 x h;rw[Zi7.1 h];exact yN<|.inl rfl;have⟨g,p,q⟩:=i.t1 a t n;exact⟨g,by simp[p],q⟩;obtain h|h:=Zht.1 h;exact i.t2 x h k;rw[Zi7.1 h,l]at k;exact absurd k Z1;have e:s.put f= {s with tm:=XX s.tm f.ad f.ob.target}:=by simp[Vw.put,l]
 rw[e];refine⟨by simp[i.ns,l],i.n1,i.n2,λa t n=> ?_,λx h k=> ?_⟩;simp only[Jo]at n;split at n;rename_i r;exact⟨f,Z1,l,r,by simpa using n⟩;have⟨g,p,q⟩:=i.t1 a t n;exact⟨g,by simp[p],q⟩;obtain h|h:=Zht.1 h;exact yN<|.inr<|i.t2 x h k;rw[Zi7.1 h];exact yN<|.inl rfl
def VwI.sb:∀ {l d} {s:Vw},VwI d s->VwI (d++l) (l.foldl Vw.put s)
 | [],d,s,i=>by simpa using i
 |f::l,d,s,i=>by
  have:=VwI.sb (l:=l)<|i.put (f:=f);rwa[ZhM]at this
def SO h:VwI (Xi h 4 0)<|Yp h:=by
 have:VwI [] ⟨[],[],[]⟩:=⟨rfl,by simp[Y5],Z1,by simp[Y5],Z1⟩;exact this.sb (l:=Xi h 4 0)
section
variable {h:Hp}{p:Pts}
def Rb(r:Rt h p){q}(d:q<4){o}(f:o∈obP h q):(Y2 h q o).ad=fstL (Zv h) (q+1)+o.aa:=by
 have⟨a,n,m,g,j,k,l,_⟩:=r.ov d f;show(Y1 (Zv h) (q+1) o.aa).1=_;rw[SZ r.bb Z0 (by rw[Tn Z0,TU h d];omega)]
def KO(r:Rt h p){f g}(u:f∈Xi h 4 0)(w:g∈Xi h 4 0)(e:f.ad=g.ad):f=g:=by
 obtain⟨k,o,_,z,l,rfl⟩:=TG u;obtain⟨j,q,_,y,n,rfl⟩:=TG w;rw[Rb r Z0 l,Rb r Z0 n]at e;have a:=l;have d:=n;rw[r.dh Z0]at a d;have⟨x,t⟩:=r.toTld.inj Z0 Z0 a d (by unfold Y0;omega);have:k=j:=Z0;subst this;rw[t]
def Vj{f}:f∈(Yp h).ns↔f∈Xi h 4 0/\f.ob.gone=xw:=by
 rw[(SO h).ns];simp
def Rt.lf(r:Rt h p){f}(d:f∈Xi h 4 0)(n:f.ob.gone=xw):∃i:Nat,Y5 (Yp h).nm f.ad=J (i:Int)/\(Yp h).ns[i]?=J f:=by
 have⟨j,k⟩:=Zi3.1<|(SO h).n2 f<|Vj.2 ⟨d,n⟩;obtain⟨i,rfl,g,a,l⟩:=(SO h).n1 _ _ k;have:=KO r (Vj.1<|Zha a).1 d l;subst this;exact⟨i,k,a⟩
def Rt.re(r:Rt h p){f}(a:f∈Xi h 4 0)(d:f.ob.gone=xw){w}(q:w≠0)(n:(adr w).1=f.ad):∃i:Nat,(Yp h).df w=i/\(Yp h).ns[i]?=J f:=by
 have⟨i,k,l⟩:=r.lf a d;refine⟨i,?_,l⟩;have:Y5 (Yp h).tm f.ad=U:=by
  cases o:Y5 (Yp h).tm f.ad with
  |none=>rfl
  |some t=>
   have⟨g,k1,j,u,_⟩:=(SO h).t1 _ _ o;rw[KO r k1 a u,d]at j;exact absurd j Z1
 unfold Vw.df;rw[Zh9 q,n,this,ZkR,k,Zhw]
def Rt.ra(r:Rt h p){f g}(a:f∈Xi h 4 0)(o:f.ob.gone=xk)(gf:g∈Xi h 4 0)(j:g.ob.gone=xw)(q:f.ob.target=g.ad){w}(u:w≠0)(n:(adr w).1=f.ad):∃i:Nat,(Yp h).df w=i/\(Yp h).ns[i]?=J g:=by
 have⟨i,k,l⟩:=r.lf gf j;refine⟨i,?_,l⟩;have⟨t,e⟩:=Zi3.1<|(SO h).t2 f a o;have⟨x,k1,z,y,d⟩:=(SO h).t1 _ _ e;rw[KO r k1 a y,q]at d;unfold Vw.df;rw[Zh9 u,n,e,Zhw,<-d,k,Zhw]
def Rt.ex(r:Rt h p){q}(g:q<2){o}(a:o∈obP h q):o.gone=xw:=by
 rw[r.dh Z0]at a;have⟨w,_,d⟩:=((r.an (q+1) Z0).bc o a).1.word;cases f:o.gone;rfl;rw[f,Zhc rfl]at d;have:=d.1;simp at this;omega
def Rt.ln(r:Rt h p){w i j}(t:1<=i/\i<=4)(u:1<=j/\j<=4)(n:Gos h p w i j)(g:w≠0):∃(q:Nat) (o:Ob),q<4/\((q+1=i)\/(q+1=j))/\o∈obP h q/\w=2*(Y2 h q o).ad+1/\(adr w).1=(Y2 h q o).ad:=by
 obtain rfl|⟨k,o,l,f,rfl⟩:=n;exact absurd rfl g;obtain⟨q,rfl,d⟩:∃q:Nat,k=q+1/\q<4:=⟨(k-1).toNat,Z0,Z0⟩;have a:o∈obP h q:=by rw[r.dh d];exact f
 refine⟨q,o,d,l,a,?_,?_⟩;rw[Rb r d a];rfl;rw[r.toTld.lg Z0 f,Rb r d a]
def Rt.rv(r:Rt h p){w i j}(B:1<=i/\i<=4)(C:1<=j/\j<=4)(H:Gos h p w i j)(k:w≠0):∃(n:Nat),(Yp h).df w=n/\n< (Yp h).ns.length:=by
 have⟨q,o,F,L,x,_,y⟩:=r.ln B C H k;have z:Y2 h q o∈Xi h 4 0:=yY x Z0 Z0;cases d:o.gone;have⟨n,l,u⟩:=r.re z d k y;exact⟨n,l,(ZgZ.1 u).1⟩;have K:2<=q:=by
  by_cases D:q<2;rw[r.ex D x]at d;exact absurd d Z1;omega
 have f:=x;rw[r.dh F]at f;have⟨t,G,A,_⟩:=r.gone (q+1) Z0 o f d;have a:t∈obP h 0:=by rw[r.dh Z0];exact G
 have⟨n,l,u⟩:=r.ra z d (g:=Y2 h 0 t) (yY a Z0 Z0) (r.ex Z0 a) (by rw[Rb r Z0 a];exact A) k y;exact⟨n,l,(ZgZ.1 u).1⟩
def Rt.rc(r:Rt h p){w i j}(f:1<=i/\i<=4)(g:1<=j/\j<=4)(k:Gos h p w i j):Ta (Yp h).ns.length ((Yp h).df w)=xk:=by
 by_cases a:w=0;subst a;simp[Vw.df,Ta];omega;have⟨n,d,l⟩:=r.rv f g k a;rw[d];simp[Ta];omega
def CV{k i w}(d:Wf h p k i w):∃a b,(1<=a/\a<=4)/\(1<=b/\b<=4)/\Gos h p w a b:=by
 unfold Wf at d;split at d;exact⟨3,4,Z0,Z0,d⟩;split at d;obtain d|d:=d;exact⟨1,2,Z0,Z0,d⟩;exact⟨3,4,Z0,Z0,d⟩;exact⟨1,2,Z0,Z0,d⟩
def Rt.mc(r:Rt h p){d}(H:I d<=16)(K:∀w∈d,Gos h p w 1 2):Vm.right ((Yp h).gr d)=xk:=by
 simp only[Vm.right,Zh1,Zhd,Zhy,Vw.gr,Zhv,Zhl];refine⟨⟨H,?_⟩,?_⟩;rintro _ ⟨f,C,rfl⟩;have⟨u,D⟩:=Vj.1 C;obtain⟨q,o,_,R,x,rfl⟩:=TG u;have⟨a,n,m,L,M,N,O,P,Q⟩:=r.ov Z0 x;have e:=KN r Z0 x;simp only[Ri,Te,Zh1,Zhd,Zhy,Zhv,Zi4,Zj4,Zhl];refine⟨Z0,?_⟩;rintro _ ⟨w,z,rfl⟩;have⟨j,g⟩:=Zhr z;have l:=(ZgZ.1 g).1;rw[Zi4]at l;have y:(Y2 h q o).ob.M=o.M:=rfl;rw[y]at g l;rw[ZhO Z0]at g;have t:=x;rw[r.dh Z0]at t;have A:(Zx h<|q+1)[o.aa.toNat+1+j]?=J w:=by
  rw[TU h Z0];simp only[Y2]at g;rw[ZhO Z0,Zhx]at g;rw[<-g];congr 1;omega
 have⟨i,k,F,G,B⟩:=CV<|r.ptr (q+1) Z0 o t D j Z0 w A;exact r.rc F G B;rintro _ ⟨w,z,rfl⟩;exact r.rc Z0 Z0<|K w z
end
end
def MX:Fn:=⟨6,[0,1,2,3,4,11],pQ [pR [(1,pS 0 10),pV 2<|pI 0],pC [pK 6 38 [.mm 1 0 10]] [(3,pM (.sz (.ext (.s 6) 0) 2) 2),pV 4<|.ext (.s 6) 1],pi 5 (pn (.s 4)<|pI 0)<|px [pV 2<|pI 0],pC [pK 7 39 [.mm 3 0 2]] [pV 2<|.s 7]] .ret,[(2,.v)]⟩
def c20:Wx (Ya Try.prog) fresh sig [.fz] [] Try.f20=J MX:=Z2
theorem Jk{P:Z6}{f:Zp}{fn:Func}{c:Code}(j:P.funcs[f]?=J fn)(h2:fn.body=J c)(k:Ty P c=xk):FitF (Ya P) f:=⟨λg d h a=>by
 have e:(Ya P).funcs[f]?=P.funcs[f]? :=rfl;rw[e,j]at h;cases h;rw[h2]at a;cases a;exact FX k⟩
def Md(l:Z8):NoM<|.sl<|l.map vi:=.sl _ λc a=>by
 have:flat (l.map vi)=l.map vi:=Uf λx d=>Zgx;rw[this]at a;obtain⟨y,_,rfl⟩:=Zhl.1 a;exact .int _ _
def Mb(g:Gr):NoM<|YB g:=(Mj g).m
def Qw{x:V}(h:NoM x):∀y∈[x],NoM y:=λy a=>by rw[Zi7.1 a];exact h
def La{x z:V}(h:NoM x)(k:NoM z):∀y∈[x,z],NoM y:=λy a=>by
 simp only[Zho,Ziy,Zk0]at a;obtain rfl|rfl:=a;exact h;exact k
def up{f:Zp}{args:Zr}{r:V}(g:VC xP f xw args r)(a:∀x∈args,NoM x)(d:NoM r):VC (Ya Try.prog) f xw args r:=IA J0 g a d
def Z2b{g:Gr}(a:g.sm):VC (Ya Try.prog) 39 xw [YB g]<|vi<|words g:=up (Z2c a) (Qw<|Mb g)<|.int _ _
def vg(h:Hp):Gr:=(Yp h).gr h.E
def ofG(h:Hp):Gr×Int:=if Yw h=xk/\right (vg h)=xk then(Xb<|vg h,0)else(UF,1)
def Z71(h:Hp):JH h=.am [YB (ofG h).1,vi (ofG h).2]:=by
 unfold JH ofG Vc vg;by_cases a:Yw h=xk;rw[Zhc a];by_cases d:right ((Yp h).gr h.E)=xk;rw[Zhc d,Zhc ⟨a,d⟩];rw[Zh9 d,Zh9 λx=>d x.2];rw[Zh9 a,Zh9 λx=>a x.1]
def Z70{h:Hp}(a:h.ok):(ofG h).1.sm:=by
 unfold ofG;split;rename_i k;exact Z2Z (ofOk a k.1).sm.gr k.2;exact⟨by simp[UF],by simp[UF],by simp[UF]⟩
def Z0Y{h:Hp}(a:h.ok):VC (Ya Try.prog) 38 xw [ZD h]<|.am [YB (ofG h).1,vi (ofG h).2]:=by
 rw[<-Z71];exact Z0Z a
def liveR(h:Hp):Nat:=if(ofG h).2=0 then words (ofG h).1 else 0
instance fitLive:FitF (Ya Try.prog) 20:=Jk (P:=Try.prog) Try.func20 rfl Z2
def Z0V{h:Hp}(d:h.ok):VC (Ya Try.prog) 20 xw [ZD h]<|vi<|liveR h:=by
 refine ZQ (P:=Ya Try.prog) Try.func20 Jm Z2 c20 rfl ?_;have k:=Z0Y d;have f:=Z70 d;unfold liveR;generalize ofG h=g at*;obtain⟨g,e⟩:=g;simp only at k f⊢;simp[MX];refine Zz k Z1 ?_;by_cases a:e=0;simp[a];refine Zz (Z2b f) Z1 ?_;simp;simp[a]
end Vm
end
section

end
section
namespace Vm
open Go Go.Proofs
section
def Z6H(l:List Nd):NoM<|.sl<|l.map Yk:=by
 have h:=Mb ⟨l,[]⟩;unfold YB at h;cases h with
 |agg _ h=>exact h _ Z1
def Z6I(x:Rw):NoM<|Wq x:=.agg _ λc a=>by
 simp only[Zho,Ziy,Zk0]at a;obtain rfl|rfl|rfl|rfl|rfl|rfl|rfl:=a;all_goals first|exact .int _ _|exact Z6H _|exact Md _
def Z0S{x:Rw}(hx:x.ok):VC (Ya Try.prog) 7 xw [Wq x]<|ZD<|T9 x:=up (Z0T hx) (Qw<|Z6I x)<|UG _
def Mc(g:Hp)(e:Int):NoM<|.am [ZD g,vi e]:=.am _ λc a=>by
 simp only[Zho,Ziy,Zk0]at a;obtain rfl|rfl:=a;exact UG _;exact .int _ _
def Z0x{h:Hp}{p:Pts}(a:h.ok)(r:Rt h p):VC (Ya Try.prog) 17 xw [ZD h]<|.bool xk:=by
 have:=up (QV a) (Qw<|UG h)<|.bool _;rwa[r.right]at this
def Z0z{h:Hp}(a:h.ok):VC (Ya Try.prog) 18 xw [ZD h]<|vi<|RM h:=up (El a) (Qw<|UG h)<|.int _ _
section
variable {h:Hp}{p:Pts}
def Rt.ga(r:Rt h p):Vm.right (vg h)=xk:=r.mc r.fu r.E
def Rt.va(r:Rt h p):ofG h=(Xb<|vg h,0):=Zhc ⟨r.right,r.ga⟩
def Rt.oo(r:Rt h p):liveR h=words (Xb<|vg h):=by
 unfold Vm.liveR;rw[r.va,Zhc rfl]
end
end
section
section
variable {h:Hp}{p:Pts}
def yo(r:Rt h p){q g:Nat}(l:q<4)(f:g<4){o k:Ob}(j:o∈obP h q)(d:k∈obP h g)(a:q≠g\/o.aa≠k.aa):(Y2 h q o).ad≠(Y2 h g k).ad:=by
 intro e;rw[Rb r l j,Rb r f d]at e;rw[r.dh l]at j;rw[r.dh f]at d;obtain⟨t,n⟩:=r.toTld.inj Z0 Z0 j d (by unfold Y0;omega);obtain a|a:=a;omega;rw[n]at a;exact a rfl
def H7(r:Rt h p):∀n q,q+n<=4->(Xi h n q).Pairwise λf g=>f.ad≠g.ad
 |0,q,_=>.nil
 |n+1,q,A=>by
  simp only[Xi];refine List.pairwise_append.2 ⟨?_,H7 r n (q+1) Z0,λf t g u=> ?_⟩;rw[List.pairwise_map];have d:=(r.an ((q:Int)+1) Z0).eh;rw[<-r.dh Z0]at d;exact d.imp_of_mem λj l w=>yo r Z0 Z0 j l<|.inr Z0;obtain⟨o,x,rfl⟩:=Zhl.1 t;obtain⟨k,B,y,z,a,rfl⟩:=TG u;exact yo r Z0 Z0 x a<|.inl Z0
def Z6Q(r:Rt h p){i j:Nat}{f g:Fo}(q:(Yp h).ns[i]?=J f)(t:(Yp h).ns[j]?=J g)(e:f.ad=g.ad):i=j:=by
 have d:(Yp h).ns.Pairwise λf g=>f.ad≠g.ad:=by
  rw[E5];exact(H7 r 4 0 Z0).filter _
 have d:=List.pairwise_iff_getElem.1 d;obtain⟨k,l⟩:=ZgZ.1 q;obtain⟨n,o⟩:=ZgZ.1 t;obtain a|a|a:=Nat.lt_trichotomy j i;exact(d j i n k a<|by rw[l,o,e]).elim;exact a.symm;exact(d i j k n a<|by rw[l,o,e]).elim
end
end
section
def UO(h:Hp)(w:Int):Int:=(Y5 (Yp h).tm (adr w).1).getD (adr w).1
def PJ(h:Hp){w:Int}(a:w≠0):(Yp h).df w=(Y5 (Yp h).nm<|UO h w).getD 0:=by
 unfold Vw.df UO;rw[Zh9 a]
section
variable {h g:Hp}{p q:Pts}
def LM(r:Rt h p){f:Fo}(g:f∈Xi h 4 0)(j:f.ob.gone=xw){w:Int}(d:(adr w).1=f.ad):UO h w=f.ad:=by
 have:Y5 (Yp h).tm f.ad=U:=by
  cases k:Y5 (Yp h).tm f.ad with
  |none=>rfl
  |some t=>
   obtain⟨x,k1,a,l,_⟩:=(SO h).t1 _ _ k;rw[KO r k1 g l,j]at a;cases a
 unfold UO;rw[d,this,ZkR]
def JX(r:Rt h p){f:Fo}(a:f∈Xi h 4 0)(j:f.ob.gone=xk){w:Int}(g:(adr w).1=f.ad):UO h w=f.ob.target:=by
 obtain⟨t,e⟩:=Zi3.1<|(SO h).t2 f a j;obtain⟨x,k1,l,k,d⟩:=(SO h).t1 _ _ e;rw[KO r k1 a k]at d;unfold UO;rw[g,e,Zhw,d]
def RU{α:Type}(R:α->α->Prop):List α->List α->Prop
 | [],[]=>True
 |a::l,b::m=>R a b/\RU R l m
 |_,_=>False
def Fk{α:Type}{R:α->α->Prop}:∀ {l m:List α},I m=I l->(∀(j:Nat) (a b:α),l[j]?=J a->m[j]?=J b->R a b)->RU R l m
 | [],[],_,_=>trivial
 |a::l,b::m,d,h=>⟨h 0 a b rfl rfl,Fk Zge λj x y f g=>h (j+1) x y Zgi ZgT⟩
 | [],_::_,d,_=>by simp at d
 |_::_,[],d,_=>by simp at d
def SU(h g:Hp)(τ:Int->Int)(w w':Int):Prop:=(w=0/\w'=0)\/(w≠0/\w'≠0/\∃f∈(Yp h).ns,f.ad=UO h w/\UO g w'=τ f.ad)
def Em(h g:Hp)(τ:Int->Int)(f a:Fo):Prop:=a.ad=τ f.ad/\a.ob.M=f.ob.M/\a.sl.drop f.ob.M.toNat=f.sl.drop f.ob.M.toNat/\RU (SU h g τ) (f.sl.take f.ob.M.toNat) (a.sl.take f.ob.M.toNat)
def Rj(h g:Hp)(τ:Int->Int)(i:Int):Int:=if 0<=i then(((Yp h).ns[i.toNat]?).bind λf=>Y5 (Yp g).nm<|τ f.ad).getD 0 else i
def ZaO(r:Rt h p){τ:Int->Int}{w w':Int}(q:SU h g τ w w'):(Yp g).df w'=Rj h g τ ((Yp h).df w):=by
 obtain⟨rfl,rfl⟩|⟨k,l,f,n,d,j⟩:=q;simp[Vw.df,Rj];obtain⟨a,o⟩:=Vj.1 n;obtain⟨i,k1,t⟩:=r.lf a o;rw[PJ h k,PJ g l,<-d,j,k1];simp[Rj,t]
def BG(r:Rt h p){τ:Int->Int}:∀ {l f:Z8},RU (SU h g τ) l f->f.map (Yp g).df=(l.map (Yp h).df).map (Rj h g τ)
 | [],[],_=>rfl
 |a::l,b::m,d=>by rw[ZhA,ZhA,ZhA,ZaO r d.1,BG r d.2]
 | [],_::_,d=>d.elim
 |_::_,[],d=>d.elim
def t8(r:Rt h p)(s:Rt g q)(τ:Int->Int)(P:∀f∈(Yp h).ns,∃a∈(Yp g).ns,Em h g τ f a)
  (t:∀f∈(Yp h).ns,∀a∈(Yp h).ns,τ f.ad=τ a.ad->f.ad=a.ad) (B:RU (SU h g τ) h.E g.E):Xb (vg g)=Xb (vg h):=by
 have key:∀x:Int,x∈order (vg h)->∃(i n:Nat) (f a:Fo),x=i/\(Yp h).ns[i]?=J f/\(Yp g).ns[n]?=J a/\Rj h g τ x=n/\Em h g τ f a:=by
  intro x l;obtain⟨T,Z⟩:=(Cd r.ga).2 x l;have G:(vg h).nodes.length=(Yp h).ns.length:=by simp[vg,Vw.gr]
  have F:x.toNat< (Yp h).ns.length:=Z0;have D:=ZgY F;obtain⟨a,z,d⟩:=P _<|Zhm F;generalize (Yp h).ns[x.toNat]=f at*;obtain⟨A,O⟩:=Vj.1 z;obtain⟨n,k1,S⟩:=s.lf A O;refine⟨x.toNat,n,f,a,Z0,D,S,?_,d⟩;unfold Rj;rw[Zhc T,D,Zhb,<-d.1,k1];rfl
 refine(Z2Y r.ga s.ga (Rj h g τ) (by simp[Rj]) (λx l y Q e=> ?_) (λx l=> ?_) (BG r B) λx l=> ?_).2;obtain⟨i,n,f,a,rfl,o,u,w,C⟩:=key x l;obtain⟨j,m,k,Y,rfl,H,K,X,R⟩:=key y Q;have:n=m:=Z0;subst this;rw[u]at K;cases K;have:=Z6Q r o H<|t f (Zha o) k (Zha H)<|C.1.symm.trans R.1;omega;obtain⟨i,n,f,a,rfl,o,u,w,C⟩:=key x l;omega;obtain⟨i,n,f,a,rfl,o,u,w,W,L,M,N⟩:=key x l;rw[w];simp only[vg,Vw.gr,outs,Zhq,Zhh,o,u,Zhs,Zhw,Te,L,M,BG r N]
def zD{α:Type}{R:α->α->Prop}:∀ {l:List α},(∀a∈l,R a a)->RU R l l
 | [],_=>trivial
 |a::l,h=>⟨h a Z1,zD λx d=>h x<|by simp[d]⟩
def UT(r:Rt h p){j:Nat}(a:j<4){x:Ob}(hx:x∈p.at ((j:Int)+1)):(Y2 h j x).ad=fstL (Zv h) ((j:Int)+1)+x.aa:=Rb r a (by rw[r.dh a];exact hx)
def WO(r:Rt h p){j:Nat}(a:j<4){x:Ob}(hx:x∈p.at ((j:Int)+1)):Y2 h j x∈Xi h 4 0:=yY (by rw[r.dh a];exact hx) Z0 Z0
end
end
section
section
variable {h g:Hp}{p q:Pts}
def GA(r:Rt h p)(hc:h.Y=xk)(b:Body g q)(f:S9 g q)(e:Ext h p g q):Rt g q:=by
 obtain⟨n,a⟩:=e.H;have l:I h.H<=I g.H:=by rw[a,ZhJ];omega
 have j:=r.du;have k:=r.ij hc;refine⟨b,by rw[e.E];exact r.fu,by rw[e.Z];exact r.fe,by rw[e.Z];omega,λ_=>by rw[e.Z];omega,λd=> ?_,λ_=>f,λw a=> ?_⟩;rw[e.Y,hc]at d;cases d;rw[e.E]at a;exact e.ln Z0 Z0<|r.E w a
def Ext.ff(e:Ext h p g q){j:Int}(a:1<=j/\j<=4):Vm.fstL (Zv g) j=Vm.fstL (Zv h) j:=by
 have:=e.fst j 0 Z0;grind [Y0]
def Z6v(r:Rt h p)(hc:h.Y=xk){k:Int}(hk:3<=k/\k<=4){o:Ob}(W:o∈p.at k)(hg:o.gone=xw){a n:Nat}(ea:o.aa=a)(en:o.size=n):
  Rt (Yv h k a<|n+1) (p.mv k o (I h.H)<|Vm.fstL (Zv h) 1+I h.H)/\Xb (vg<|Yv h k a<|n+1)=Xb (vg h):=by
 have e:=r.toBody.ext r.du hk W hg ea en;have s:=GA r hc (r.toBody.move r.du hk W hg ea en) (Mu r.toBody (r.fp hc) r.du hk W hg ea en) e;obtain⟨m1,m2,m3,m4,m5,_⟩:=BT h hk a<|n+1;obtain⟨c1,c2,c3,c4⟩:=L7 (p:=p) hk o (I h.H)<|Vm.fstL (Zv h) 1+I h.H;refine⟨s,?_⟩;obtain⟨l,rfl,a0⟩:∃l:Nat,k=(l:Int)+1/\l<4:=⟨(k-1).toNat,Z0,Z0⟩;obtain⟨N,P,m,d9,e0,em,e3,e8,e6⟩:=r.toTld.ob Z0 W;have:N=a:=Z0;subst this;have:P=n:=Z0;subst this;have T:(⟨I h.H,o.size,o.M,xw,0⟩:Ob)∈(p.mv ((l:Int)+1) o (I h.H)<|Vm.fstL (Zv h) 1+I h.H).at (((0:Nat):Int)+1):=by
  show _∈(p.mv _ _ _ _).at 1;rw[c1];exact Zjy _<|.head _
 have b3:V6 o.aa (Vm.fstL (Zv h) 1+I h.H) o∈(p.mv ((l:Int)+1) o (I h.H)<|Vm.fstL (Zv h) 1+I h.H).at ((l:Int)+1):=by
  rw[c3];exact ZiI W
 have K:∀(j:Nat) (x:Ob),j<4->x∈p.at ((j:Int)+1)->(j≠l\/x≠o)->x∈(p.mv ((l:Int)+1) o (I h.H)<|Vm.fstL (Zv h) 1+I h.H).at ((j:Int)+1):=by
  intro j x H C g;by_cases O:j=0;subst O;show _∈(p.mv _ _ _ _).at 1;rw[c1];exact Zip _ C;by_cases h1:j=1;subst h1;show _∈(p.mv _ _ _ _).at 2;rw[c2];exact C;by_cases M:j=l;subst M;rw[c3];refine Zhl.2 ⟨x,C,TJ λe=> ?_⟩;obtain g|g:=g;exact g rfl;exact g<|r.toTld.dc Z0 W C e;have e7:(j:Int)+1=7- ((l:Int)+1):=Z0;rw[e7]at C⊢;rw[c4];exact C
 generalize hq:p.mv ((l:Int)+1) o (I h.H) (Vm.fstL (Zv h) 1+I h.H)=q at*;have R:∀(j:Nat) (x x':Ob),j<4->x∈p.at ((j:Int)+1)->x'∈q.at ((j:Int)+1)->x'.aa=x.aa->(Y2 (Yv h ((l:Int)+1) N<|P+1) j x').ad=(Y2 h j x).ad:=by
  intro j x x' H C F e';rw[UT s H F,UT r H C,e.ff Z0,e']
 have hA:=UT r a0 W;have hB:=UT s Z0 T;rw[e.ff Z0]at hB;obtain⟨A,Q⟩:∃A,A=(Y2 h l o).ad:=⟨_,rfl⟩;obtain⟨B,b1⟩:∃B,B=Vm.fstL (Zv h) 1+I h.H:=⟨_,rfl⟩;have b0:(Y2 (Yv h ((l:Int)+1) N<|P+1) 0 ⟨I h.H,o.size,o.M,xw,0⟩).ad=B:=by rw[hB,b1];rfl
 have S:∀(j:Nat) (x:Ob),j<4->x∈p.at ((j:Int)+1)->(j≠l\/x≠o)->(Y2 h j x).ad≠A:=by
  intro j x H C g;rw[Q];refine yo r H a0 (by rw[r.dh H];exact C) (by rw[r.dh a0];exact W) ?_;obtain g|g:=g;exact .inl g;by_cases M:j=l;subst M;exact .inr λe=>g<|r.toTld.dc Z0 W C e;exact .inl M
 have a4:∀(j:Nat) (x:Ob),j<4->x∈p.at ((j:Int)+1)->(j≠l\/x≠o)->(Y2 h j x).ad≠B:=by
  intro j x H C g;have F:=K j x H C g;rw[<-R j x x H C F rfl,<-b0];refine yo s H Z0 (by rw[s.dh H];exact F) (by rw[s.dh Z0];exact T) ?_;by_cases O:j=0;subst O;obtain⟨b,_,_,eb,_,_,hb,_⟩:=r.toTld.ob (k:=((0:Nat):Int)+1) Z0 C;have:Zx h (((0:Nat):Int)+1)=h.H:=rfl;rw[this]at hb;exact .inr (by show x.aa≠(I h.H:Int);omega);exact .inl O
 have hw:∀(j:Nat) (x:Ob),j<4->x∈p.at ((j:Int)+1)->(j≠l\/x≠o)->(Y2 (Yv h ((l:Int)+1) N<|P+1) j x).sl=(Y2 h j x).sl:=by
  intro j x H C g;obtain⟨b,c,_,eb,ec,_,hb,_⟩:=r.toTld.ob Z0 C;simp only[Y2];rw[<-TU _ H,<-TU _ H];have e1:(x.aa+1).toNat=b+1:=Z0;have e2:x.size.toNat=c:=Z0;rw[e1,e2];have a9:∀i:Nat,i<b+1+c->b+1<=i->(Zx (Yv h ((l:Int)+1) N<|P+1)<|(j:Int)+1)[i]?=(Zx h<|(j:Int)+1)[i]? :=by
   intro i Z e4;by_cases O:j=0;subst O;show(Yv h ((l:Int)+1) N<|P+1).H[i]?=h.H[i]?;have:Zx h (((0:Nat):Int)+1)=h.H:=rfl;rw[this]at hb;rw[m1,Zhz Z0];by_cases h1:j=1;subst h1;show(Yv h ((l:Int)+1) N<|P+1).ab[i]?=h.ab[i]?;rw[m2];refine BU hk Z0 Z0 ?_;by_cases M:j=l;subst M;rcases(r.an ((j:Int)+1) Z0).apart x C o W with e|e|e;obtain g|g:=g;exact(g rfl).elim;exact(g e).elim;exact .inr<|.inl Z0;exact .inr<|.inr Z0;exact .inl Z0
  refine ZiU λi=> ?_;simp only[ZhD,Zhx];split;exact a9 _ Z0 Z0;rfl
 have b7:(Y2 (Yv h ((l:Int)+1) N<|P+1) 0 ⟨I h.H,o.size,o.M,xw,0⟩).sl=(Y2 h l o).sl:=by
  simp only[Y2];rw[<-TU _ Z0,<-TU _ a0];show(((Yv h ((l:Int)+1) N<|P+1).H).drop _).take _=_;rw[m1,show((I h.H:Int)+1).toNat=I h.H+1 by omega,show(o.aa+1).toNat=N+1 by omega,show o.size.toNat=P by omega,Zkf,Zk2 Z0,ZhU,show I h.H+1-I h.H=1 by omega,List.drop_drop,List.drop_take,List.take_take];congr 1;omega
 have a5:∀w i j:Int,(1<=i/\i<=4)->(1<=j/\j<=4)->Gos h p w i j->SU h (Yv h ((l:Int)+1) N<|P+1) (λx=>if x=A then B else x) w w:=by
  intro w i j Z H hG;by_cases O:w=0;exact .inl ⟨O,O⟩;obtain⟨z,y,L,_,X,_,ha⟩:=r.ln Z H hG O;rw[r.dh L]at X;refine .inr ⟨O,O,?_⟩;cases G:y.gone;refine⟨Y2 h z y,Vj.2 ⟨WO r L X,G⟩,(LM r (WO r L X) G ha).symm,?_⟩;by_cases a2:z=l/\y=o;obtain⟨rfl,rfl⟩:=a2;dsimp only;rw[Zhc Q.symm];have:=JX s (WO s L b3) (by show(V6 _ _ _).gone=xk;rw[T6 rfl]) (w:=w) (by rw[ha,R z y _ L W b3 (Jp _ _ _).1]);rw[this];show(V6 _ _ _).target=B;rw[T6 rfl,b1];have g:z≠l\/y≠o:=by
   by_cases D:z=l;exact .inr λe=>a2 ⟨D,e⟩;exact .inl D
  dsimp only;rw[Zh9<|S z y L X g];have Y:=K z y L X g;have e':=R z y y L X Y rfl;rw[<-e'];exact LM s (WO s L Y) G (by rw[ha,e']);have f0:2<=z:=by
   by_cases hl:z<2;have:=r.ex hl (by rw[r.dh L];exact X);rw[this]at G;cases G;omega
  obtain⟨t,ht,h4,_⟩:=r.gone ((z:Int)+1) Z0 y X G;have a1:t∈p.at (((0:Nat):Int)+1):=ht;have d6:t.gone=xw:=r.ex (q:=0) Z0 (by rw[r.dh Z0];exact a1);have b5:(Y2 h 0 t).ad=y.target:=by rw[UT r Z0 a1,h4];rfl
  have a2:y≠o:=λe=>by rw[e,hg]at G;cases G
  refine⟨Y2 h 0 t,Vj.2 ⟨WO r Z0 a1,d6⟩,?_,?_⟩;rw[JX r (WO r L X) G ha,b5];rfl;dsimp only;rw[Zh9<|S 0 t Z0 a1<|.inl Z0,b5];have Y:=K z y L X<|.inr a2;rw[JX s (WO s L Y) G (by rw[ha,R z y y L X Y rfl])];rfl
 refine t8 r s (λx=>if x=A then B else x) (λf hf=> ?_) (λf hf f' d0 he=> ?_) ?_;obtain⟨a6,a7⟩:=Vj.1 hf;obtain⟨j,x,_,H,C,rfl⟩:=TG a6;have d7:=C;rw[r.dh Z0]at C;obtain⟨b,c,d,eb,ec,ed,hb,_⟩:=r.toTld.ob Z0 C;have a3:RU (SU h (Yv h ((l:Int)+1) N<|P+1)<|λx=>if x=A then B else x) ((Y2 h j x).sl.take (Y2 h j x).ob.M.toNat)<|(Y2 h j x).sl.take (Y2 h j x).ob.M.toNat:=zD λw a8=>by
  obtain⟨i,Z⟩:=Zhr a8;have b4:=(ZgZ.1 Z).1;rw[Zi4]at b4;have d5:(Y2 h j x).ob.M=x.M:=rfl;rw[d5]at Z b4;rw[ZhO Z0]at Z;have e9:=KN r Z0 d7;have b6:(Zx h<|(j:Int)+1)[x.aa.toNat+1+i]?=J w:=by
   rw[TU h Z0];simp only[Y2]at Z;rw[ZhO Z0,Zhx]at Z;rw[<-Z];congr 1;omega
  obtain⟨u,v,hu,hv,hG⟩:=CV<|r.ptr ((j:Int)+1) Z0 x C a7 i Z0 w b6;exact a5 w u v hu hv hG
 by_cases b8:j=l/\x=o;obtain⟨rfl,rfl⟩:=b8;refine⟨Y2 _ 0 ⟨I h.H,x.size,x.M,xw,0⟩,Vj.2 ⟨WO s Z0 T,rfl⟩,?_,rfl,by rw[b7],by rw[b7];exact a3⟩;dsimp only;rw[Zhc Q.symm,b0];have g:j≠l\/x≠o:=by
  by_cases D:j=l;exact .inr λe=>b8 ⟨D,e⟩;exact .inl D
 have F:=K j x Z0 C g;refine⟨Y2 _ j x,Vj.2 ⟨WO s Z0 F,a7⟩,?_,rfl,by rw[hw j x Z0 C g],by rw[hw j x Z0 C g];exact a3⟩;dsimp only;rw[Zh9<|S j x Z0 C g,R j x x Z0 C F rfl];obtain⟨a6,a7⟩:=Vj.1 hf;obtain⟨b2,d8⟩:=Vj.1 d0;obtain⟨j,x,_,H,C,rfl⟩:=TG a6;obtain⟨j',x',_,e5,F,rfl⟩:=TG b2;rw[r.dh Z0]at C F
 have b9:(Y2 h j x).ad≠A->(Y2 h j x).ad≠B:=λhn=>a4 j x Z0 C (by
  by_cases D:j=l;subst D;exact .inr λe=>hn (by rw[e,Q]);exact .inl D)
 have c0:(Y2 h j' x').ad≠A->(Y2 h j' x').ad≠B:=λhn=>a4 j' x' Z0 F (by
  by_cases D:j'=l;subst D;exact .inr λe=>hn (by rw[e,Q]);exact .inl D)
 split at he<;>split at he;rename_i h1 h2;rw[h1,h2];rename_i h1 h2;exact(c0 h2 he.symm).elim;rename_i h1 h2;exact(b9 h1 he).elim;exact he;rw[m5];exact zD λw a8=>a5 w 1 2 Z0 Z0<|r.E w a8
def Z3Z(r:Rt h p){w:Int}(A:Gos h p w 1 2\/Gos h p w 3 4):∃v g q,FwdTo h p w v g q/\Rt g q/\Xb (vg g)=Xb (vg h):=by
 obtain⟨v,g,q,f⟩:=r.toBody.gp r.du A;refine⟨v,g,q,f,?_⟩;obtain⟨rfl,rfl⟩|⟨k,o,a,n,y,j,x,t,u,rfl,rfl,_⟩:=f.vj;exact⟨r,rfl⟩;have d:h.Y=xk:=by
  cases d:h.Y;obtain⟨_,B,C⟩:=r.rest d;have l:=r.an k Z0;have z:Zx h k=[]:=by
   have:k=3\/k=4:=Z0;obtain rfl|rfl:=this;exact B;exact C
  rw[z]at l;rw[l.nil]at j;cases j;rfl
 exact Z6v r d y j x t u
end
end
end Vm
end
