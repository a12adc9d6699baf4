/-
  The law MutatorRoom holds of the given program, for every input.
-/
import Derived.Deep.DeepCutAuto
import Derived.Laws.EntriesVeiled
import Derived.Deep.OwnRows
import Derived.Test.YthdflnfincieaaaGreatRows
import Derived.Conc.LeavingOf
import Derived.Test.YthdflnfincieaaaGreatSMutatorRoom7
set_option linter.unusedSimpArgs false
set_option linter.unusedVariables false
set_option linter.defProp false
open Option renaming some→J,none→U
open Bool renaming true→xk,false→xw
open Go renaming undef→xy
open List renaming length→I
open Array renaming size→xz
open Go.World renaming heap→xj
open List renaming length→xq
open Array renaming size→xz
open Go.World renaming heap→xj
set_option maxHeartbeats 40000000
set_option maxRecDepth 100000
theorem Zhl{p:Prop}(h:p:=by simp[World.setCell]):p:=h
theorem Zhh{p:Prop}(h:p:=by simp[results,Tryz.results62,go_sem]):p:=h
theorem ZgU{p:Prop}(h:p:=by simp only[Tq,Qv,List.map_cons,List.map_nil,List.foldl_cons,List.foldl_nil,List.setIfInBounds_toArray,List.set_cons_succ,List.set_cons_zero]):p:=h
theorem Zhx{p:Prop}(h:p:=by show xz (xj w)≤c;omega):p:=h
theorem Zhf{p:Prop}(h:p:=by unfold Xz;omega):p:=h
def ZlT:=@Go.wp_scope_jumps
def Zlt:=@Go.grownBy_keeps
def ZlX:=@Bool.and_true
def ZlH:=@Int.natCast_add
def Zlk:=@List.foldl_nil
def ZjJ:=@List.setIfInBounds_toArray
def ZkE:=@List.set_cons_succ
def ZlR:=@Go.KeepsFrom.refl
def Zlu:=@List.filter_cons_of_pos
section
namespace Vm
open Go Go.Proofs Go.RowKit
def S8(w:Z3)(r:Hp×Int)(e:Ending)(w':Z3):Prop:=
 ∃x,e=.returned (.tuple #[ZA r.1 x,.int .i64 r.2])/\Below (xz<|xj w) w w'/\∀j,j<5->Rd w' (λc=>xz (xj w)<=c/\c<xz (xj w')) (.sl<|(Zu r.1 j).map vu) (x j)
def JJ{w:Z3}{G:Z4}{h:Hp}{x:Z5}(k:h.ok)(f:∀b,G b->b<xz (xj w))(l:∀j,j<5->Rd w G (.sl<|(Zu h j).map vu) (x j)):
  Calls xP 8 #[ZA h x] w λe d=>e=.returned (.bool<|Yk h)/\Below (xz<|xj w) w d:=by
 refine ZjL ((zy k).2 w G _ f rfl ?_) ?_;intro i y a
 match i,a with
 |0,a=>cases a;exact Sj l
 rintro e d ⟨v,rfl,g,n⟩;exact⟨by rw[D8 n],g⟩
def Z10(w:Z3)(G:Z4)(r:∀b,G b->b<xz (xj w))(h:Hp)(A:h.ok)(a:Z5)(y:∀j,j<5->Rd w G (.sl<|(Zu h j).map vu) (a j))(u:Yk h=xw):
  Calls xP 17 #[ZA h a] w (S8 w (Hp.zero,1)):=by
 have p:∀W,Below (xz<|xj w) w W->Calls xP 8 #[ZA h a] W λe D=>e=.returned (.bool<|Yk h)/\Below (xz<|xj W) W D:=λW t=>
  JJ (w:=W) (G:=G) (x:=a) A (λb f=>ZhO (r b f) t.size) (λj B=>(y j B).keep (λb f=>t.block b<|r b f) λ_ q=>q)
 rw[u]at p;have z:=ZhK p;clear p;clear y u;unfold ZA;go_enter zI,Tryz.ntmps17;go_wp2;refine ZlT 0 (λ_ _=>False) (λ_ _=>0) rfl ?_ (λ_ _ h=>h.elim)
 go_upto_region 2 with (first
  | (go_at_call 8;refine(z.out _ ?_).mono ?_;rotate_left;rintro e g ⟨rfl,d⟩
     have o:g.heap[xz<|xj w]?=J (.cells #[.int .u64 h.base,.int .i64 h.cap,.int .i64 h.to,.bool h.M,.int .i64 h.Z,a 0,a 1,a 2,a 3,a 4] 30 (0,0)):=(d.block _ ZgJ).trans<|(ZhU _ _ _ Z1).trans<|Zi7 w _;have k:g.heap[xz (xj w)+1]?=J (.cells ZL 30 (0,0)):=(d.block _ Z1).trans<|En w _;have H:∀j,g.cell? ⟨xz<|xj w,j,U⟩=(#[.int .u64 h.base,.int .i64 h.cap,.int .i64 h.to,.bool h.M,.int .i64 h.Z,a 0,a 1,a 2,a 3,a 4]:Array Value)[j]? :=λj=>ZhQ _ _ _ _ _ _ o;have F:∀j,g.cell? ⟨xz (xj w)+1,j,U⟩=ZL[j]? :=λj=>ZhQ _ _ _ _ _ _ k;unfold ZL at F;have fz:∀j,g.frozen? ⟨xz (xj w)+1,j,U⟩=xw:=λj=>Yh k;have l:=ZhK d;have n:=ZhK<|And.intro o k;clear d o k))
 case refine_1=>exact((ZhY _ w).alloc (ZhL _) _).alloc Z1 _
 go_wp2;simp only[Exit.jump];have C:=U4 n.out.2 (.int .u64 0) (.int .i64 0) (.int .i64 0) (.bool xw) (.int .i64 0) (.slice U 0 0) (.slice U 0 0) (.slice U 0 0) (.slice U 0 0)<|.slice U 0 0;refine Zie (v:=.tuple #[.agg ZL,.int .i64 1]) ?_ rfl ?_
 .simp[results,Tryz.results17,go_sem,C,ZL]
 exact⟨λ_=>.slice U 0 0,rfl,WP (Below.trans (((ZhY _ w).alloc (ZhL _) _).alloc Z1 _)<|l.out.mono ZgJ) Z0,K5 _ _⟩
def Z11(w:Z3)(G:Z4)(r:∀b,G b->b<xz (xj w))(h:Hp)(A:h.ok)(a:Z5)(y:∀j,j<5->Rd w G (.sl<|(Zu h j).map vu) (a j))(u:Yk h=xk)(hc:h.M=xk):
  Calls xP 17 #[ZA h a] w (S8 w (Hp.zero,10)):=by
 have g:∀W,Below (xz<|xj w) w W->Calls xP 8 #[ZA h a] W λe D=>e=.returned (.bool<|Yk h)/\Below (xz<|xj W) W D:=λW t=>
  JJ (w:=W) (G:=G) (x:=a) A (λb f=>ZhO (r b f) t.size) (λj B=>(y j B).keep (λb f=>t.block b<|r b f) λ_ q=>q)
 rw[u]at g;unfold ZA at g;rw[hc]at g;have z:=ZhK g;clear g;clear y u;unfold ZA;rw[hc];clear hc;go_enter zI,Tryz.ntmps17;go_wp2;refine ZlT 0 (λ_ _=>False) (λ_ _=>0) rfl ?_ (λ_ _ h=>h.elim)
 go_upto_region 4 with (first
  | (go_at_call 8;refine(z.out _ ?_).mono ?_;rotate_left;rintro e k ⟨rfl,d⟩
     have p:k.heap[xz<|xj w]?=J (.cells #[.int .u64 h.base,.int .i64 h.cap,.int .i64 h.to,.bool xk,.int .i64 h.Z,a 0,a 1,a 2,a 3,a 4] 30 (0,0)):=(d.block _ ZgJ).trans<|(ZhU _ _ _ Z1).trans<|Zi7 w _;have l:k.heap[xz (xj w)+1]?=J (.cells ZL 30 (0,0)):=(d.block _ Z1).trans<|En w _;have H:∀j,k.cell? ⟨xz<|xj w,j,U⟩=(#[.int .u64 h.base,.int .i64 h.cap,.int .i64 h.to,.bool xk,.int .i64 h.Z,a 0,a 1,a 2,a 3,a 4]:Array Value)[j]? :=λj=>ZhQ _ _ _ _ _ _ p;have F:∀j,k.cell? ⟨xz (xj w)+1,j,U⟩=ZL[j]? :=λj=>ZhQ _ _ _ _ _ _ l;unfold ZL at F;have fz:∀j,k.frozen? ⟨xz (xj w)+1,j,U⟩=xw:=λj=>Yh l;have n:=ZhK d;have o:=ZhK<|And.intro p l;clear d p l))
 case refine_1=>exact((ZhY _ w).alloc (ZhL _) _).alloc Z1 _
 go_wp2;simp only[Exit.jump];have C:=U4 o.out.2 (.int .u64 0) (.int .i64 0) (.int .i64 0) (.bool xw) (.int .i64 0) (.slice U 0 0) (.slice U 0 0) (.slice U 0 0) (.slice U 0 0)<|.slice U 0 0;refine Zie (v:=.tuple #[.agg ZL,.int .i64 10]) ?_ rfl ?_
 .simp[results,Tryz.results17,go_sem,C,ZL]
 exact⟨λ_=>.slice U 0 0,rfl,WP (Below.trans (((ZhY _ w).alloc (ZhL _) _).alloc Z1 _)<|n.out.mono ZgJ) Z0,K5 _ _⟩
section
def Zae{P a w Q c rest}l k(μ:Act->World->Nat)(j:findLabel c l=J (.seq .skip rest))
  (pass:∀a w,k a w->rest.wp P (Exit.jump l (λd g=>k d g/\μ d g<μ a w) Q) a w)
  (first:(∀a w,k a w->rest.wp P (Exit.jump l k Q) a w)->c.wp P (Exit.jump l k Q) a w):=
 ZlT l k μ j (first λa w f=>Code.wp_mono (λe d g h=>by
  cases e<;>first
   |exact h
   |exact⟨h.1,h.2.1⟩) (pass a w f)) λa w f=>wp_seq<|wp_skip<|pass a w f
def Z2m{t n}(h:t.size=n):t=((List.range n).map λi=>t.getD i xy).toArray:=by
 apply Zka;simp[h];intro i a d;simp[a]
def Oq{w2:Z3}{b T k l n o p q r t u w}(x:w2.heap[b]?=J (.cells #[k,l,n,o,p,q,r,t,u,w] T (0,0))){v0 v1 a d v4 f v6 g h j}:((((((((((w2.setCell ⟨b,0,U⟩ v0).setCell ⟨b,1,U⟩ v1).setCell ⟨b,2,U⟩ a).setCell ⟨b,3,U⟩ d).setCell ⟨b,4,U⟩ v4).setCell ⟨b,5,U⟩ f).setCell ⟨b,6,U⟩ v6).setCell ⟨b,7,U⟩ g).setCell ⟨b,8,U⟩ h).setCell ⟨b,9,U⟩ j).heap[b]?=J (.cells #[v0,v1,a,d,v4,f,v6,g,h,j] T (0,0)):=by
 simp[World.setCell,Zij,x]
def Yn(h:Hp)(x:Z5):Array Value:=#[.int .u64 h.base,.int .i64 h.cap,.int .i64 h.to,.bool h.M,.int .i64 h.Z,x 0,x 1,x 2,x 3,x 4]
structure FlI (w W:World) (c:Nat) (g:Hp) (x:Nat->Value):Prop where
 below:Below (xz<|xj w) w W
 rb:W.heap[xz (xj w)+1]?=J (.cells ZL 30 (0,0))
 le:xz (xj w)+2<=c
 nb:W.heap[c]?=J (.cells (Yn g x) 30 (0,0))
 rd:∀j,j<5->Rd W (λb=>xz (xj w)+2<=b/\b<xz (xj W)/\b≠c) (.sl<|(Zu g j).map vu) (x j)
def Z3U{n}(h:n=0\/n=1):Yf<|1-n:=by unfold Yf;omega
def Z44{h}(p:h.ok)(q:h.to=0\/h.to=1):(WE h).ok:=by
 let⟨d,f,r,t,g,j,u,x,k,l,n,y,z,o⟩:=p;exact⟨d,f,Z3U q,⟨by show _<=(0:Int);omega,by show(0:Int)<=_;omega⟩,ZiZ _,ZiZ _,g,j,k,λw a=>(by cases a),λw a=>(by cases a),l,n,o⟩
def Z9C{h:Hp}(z:h.ok){k v}(A:ZB v):({h with E:=h.E.set k v}:Hp).ok:=by
 let⟨d,f,g,j,l,n,o,p,q,r,t,u,x,y⟩:=z;refine⟨d,f,g,j,l,n,o,p,by simp[Zjs];exact q,r,t,u,x,λw a=> ?_⟩;obtain a|rfl:=Zjd a;exact y w a;exact A
def Z4g{l:Z9}(h:∀w∈l,ZB w)(i:Nat):ZB<|(l[i]?).getD 0:=by
 cases e:l[i]? with
 |none=>exact⟨ZgV,ZgV⟩
 |some x=>exact h x ZgH
def AQ{h}(a:h.ok)(d:h.to=0\/h.to=1):∀k,(VS (WE h) k).ok
 |0=>Z44 a d
 |k+1=>by
  have g:=AQ a d k;have f:=yA g<|Z4g g.df k;exact Z9C f.1 f.2
def VL(i:Nat):Nat:=if i<7 then 39+i else if i=7 then 38 else if i=8 then 46 else if i=9 then 47 else if i=10 then 48 else if i=11 then 7 else if i=12 then 6 else if i=14 then 8 else 0
def DS:∀i,i<15->∀j,j<15->i≠j->VL i≠VL j:=ZgV
def frE(c:Nat)(g:Hp)(x:Z5)(k:Nat)(a:Zb)(u:Int):Nat->Value
 |0=>.agg<|Yn g x
 |1=>.pointer<|J ⟨c,9,U⟩
 |2=>x 4
 |3=>.int .i64 k
 |4=>a
 |_=>.int .u64 u
def KQ(fv:Int)(g':Hp)(a:Z5):Value:=.tuple #[.int .u64 fv,.agg<|Yn g' a,.int .i64 0]
def FrV(E:Z5)(fv:Int)(g':Hp)(O:(Nat->Value)->Prop)(i:Nat)(val:Zb):Prop:=
 if i<6 then val=E i else if i=6\/i=7 then ∃a,val=KQ fv g' a/\O a else if i=9 then ∃a,val=.agg (Yn g' a)/\O a else if i=8\/i=12 then val=.int .u64 fv else val=.int .i64 0
def FrV.mono{E fv g' O a i val}(h:FrV E fv g' O i val)(d:∀x,O x->a x):FrV E fv g' a i val:=by
 unfold FrV at*;split;rename_i c;rw[ZhS c]at h;exact h;rename_i c;rw[ZhP c]at h;split;rename_i c;rw[ZhS c]at h;let⟨x,e,o⟩:=h;exact⟨x,e,d x o⟩
 rename_i c;rw[ZhP c]at h;split;rename_i c;rw[ZhS c]at h;let⟨x,e,o⟩:=h;exact⟨x,e,d x o⟩
 rename_i c;rw[ZhP c]at h;exact h
structure FrO (W0 W:World) (L:Nat->Bool) (v:Nat->Value) (g':Hp) (x':Nat->Value):Prop where
 own:HOwn (xz<|xj W0) W g' x'
 ak:∀j,j<5->∀b,(x' j).ownBlock=J b->L 11=xk->v 7≠.pointer (J ⟨b,0,U⟩)
structure FrC (W0:World) (E:Nat->Value) (fv:Int) (g':Hp) (L:Nat->Bool) (v:Nat->Value) (W:World):Prop where
 b:Below (xz<|xj W0) W0 W
 val:∀i,i<15->i≠11->i≠13->L i=xk->FrV E fv g' (FrO W0 W L v g') i (v<|VL i)
 new:L 11=xk->∃c,v 7=.pointer (J ⟨c,0,U⟩)/\xz (xj W0)<=c/\c<xz (xj W)/\(L 13=xw->W.heap[c]?=J (.cells ZL 30 (0,0)))
 put:L 13=xk->∃c x',v 7=.pointer (J ⟨c,0,U⟩)/\W.heap[c]?=J (.cells (Yn g' x') 30 (0,0))/\FrO W0 W L v g' x'
 c13:L 13=xk->L 11=xk
section
variable {W0 W W':Z3}{E:Z5}{fv:Int}{g':Hp}{L:ZgG}{v:Z5}
def FrO.keep{d v' a}(o:FrO W0 W L v g' a)(k:∀j,j<5->∀b,(a j).ownBlock=J b->W'.heap[b]?=W.heap[b]?)(l:xz (xj W)<=xz (xj W'))
  (f:∀j,j<5->∀b,(a j).ownBlock=J b->d 11=xk->v' 7≠.pointer (J ⟨b,0,U⟩)):FrO W0 W' d v' g' a:=
 ⟨⟨λj g=>Xm (o.own.own j g) λb h=>ZgH,o.own.apart⟩,f⟩
def FrC.step(C:FrC W0 E fv g' L v W){i s}(z:i<15)(D:i≠11)(F:i≠13)(G:s=VL i){x}(l:Below (xz<|xj W) W W')
  (H:FrV E fv g' (FrO W0 W' L v g') i x):FrC W0 E fv g' (add L i) (Xf v s x) W':=by
 subst G;have g:add L i 11=L 11:=WL Z0;have k:add L i 13=L 13:=WL Z0;have p:Xf v _ x 7=v 7:=S3 v x (show VL 11≠VL i from DS 11 Z0 i z Z0);have A:∀f,FrO W0 W L v g' f->FrO W0 W' (add L i) (Xf v _ x) g' f:=λf o=>o.keep (λj h b d=>l.block b ((o.own.own j h).lt b d).2) l.size (λj h b d=>by rw[g,p];exact o.ak j h b d);have w:∀f,FrO W0 W' L v g' f->FrO W0 W' (add L i) (Xf v _ x) g' f:=λf o=>o.keep Z1 Z0 (λj h b d=>by rw[g,p];exact o.ak j h b d);refine⟨C.b.trans<|l.mono C.b.size,λj h t u a=> ?_,λa=> ?_,λa=> ?_,λa=> ?_⟩;by_cases e:j=i;subst e;rw[Rz];exact H.mono w;rw[WL e]at a;rw[S3 v x<|DS j h i z e];exact(C.val j h t u a).mono A;rw[g]at a;let⟨c,q,r,n,B⟩:=C.new a;refine⟨c,by rw[p];exact q,r,ZhO n l.size,λy=> ?_⟩;rw[k]at y;exact(l.block c n).trans (B y);rw[k]at a;let⟨c,f,q,r,n⟩:=C.put a;exact⟨c,f,by rw[p];exact q,(l.block c ZgH).trans r,A f n⟩;rw[k]at a;rw[g];exact C.c13 a
def FrC.call(C:FrC W0 E fv g' L v W){g}(o:Below (xz<|xj W) W W')(f:HOwn (xz<|xj W) W' g' g):FrC W0 E fv g' (add L 6) (Xf v 45<|KQ fv g' g) W':=by
 refine C.step Z0 Z0 Z0 rfl o ?_;unfold FrV;rw[ZhP Z0,ZhS<|.inl rfl];refine⟨g,rfl,⟨λj d=>Lr (f.own j d) λb k l=>⟨Zif C.b.size k,l⟩,f.apart⟩,λj d b a n e=> ?_⟩;let⟨c,h,_,p,_⟩:=C.new n;rw[h]at e;cases e;have:=((f.own j d).lt b a).1;omega
def FrC.alloc(C:FrC W0 E fv g' L v W)(h:L 11=xw):FrC W0 E fv g' (add L 11) (Xf v 7<|.pointer<|J ⟨xz<|xj W,0,U⟩)<|W.alloc<|.cells ZL 30:=by
 have k:L 13=xw:=by
  cases e:L 13 with
  |false=>rfl
  |true=>have:=C.c13 e;rw[h]at this;cases this
 have l:Below (xz<|xj W) W<|W.alloc<|.cells ZL 30:=(ZhY _ _).alloc (ZhL _) _;have r:xz (xj<|W.alloc<|.cells ZL 30)=xz (xj W)+1:=Z1
 have q:∀p,FrO W0 W L v g' p->FrO W0 (W.alloc<|.cells ZL 30) (add L 11) (Xf v 7<|.pointer<|J ⟨xz<|xj W,0,U⟩) g' p:=λp o=>o.keep (λj g b d=>l.block b ((o.own.own j g).lt b d).2) l.size (λj g b d _=>by
  rw[Rz];intro e;cases e;have:=((o.own.own j g).lt _ d).2;omega)
 refine⟨C.b.trans<|l.mono C.b.size,λj g f n a=> ?_,λa=> ?_,λa=> ?_,λa=> ?_⟩;rw[WL f]at a;rw[S3 v _ (s:=7) (t:=VL j) (show VL j≠7 from DS j g 11 Z0 f)];exact(C.val j g f n a).mono q;exact⟨xz<|xj W,Rz _ _ _,C.b.size,Z0,λ_=>Zi7 W _⟩;rw[WL Z0,k]at a;cases a;exact zK _ _
def FrC.store(C:FrC W0 E fv g' L v W){c:Nat}(hc:v 7=.pointer (J ⟨c,0,U⟩)){y:Z5}(z:FrO W0 W L v g' y)(a:L 11=xk)(D:L 13=xw)(G:W.heap[c]?=J (.cells ZL 30 (0,0)))
  (u:∀b,b≠c->W'.heap[b]?=W.heap[b]?) (F:xz (xj W')=xz (xj W)) (x:W'.heap[c]?=J (.cells (Yn g' y) 30 (0,0))) (w:Below (xz<|xj W0) W W'):FrC W0 E fv g' (add L 13) v W':=by
 have k:add L 13 11=L 11:=WL Z0;have r:∀n,FrO W0 W L v g' n->FrO W0 W' (add L 13) v g' n:=λn o=>o.keep (λj g b d=>u b (λe=>by subst e;exact o.ak j g b d a hc)) Z0 (λj g b d _=>o.ak j g b d a);obtain⟨A,p,t,B,_⟩:=C.new a;rw[hc]at p;cases p;refine⟨C.b.trans w,λj g l h f=> ?_,λf=> ?_,λf=> ?_,λf=>by rw[k];exact a⟩;rw[WL h]at f;exact(C.val j g l h f).mono r;refine⟨c,hc,t,Z0,λq=> ?_⟩;rw[zK]at q;cases q;exact⟨c,y,hc,x,r y z⟩
def FrC.e(C:FrC W0 E fv g' L v W)i(d:i<6)(a:L i=xk):v (VL i)=E i:=by
 have:=C.val i Z0 Z0 Z0 a;unfold FrV at this;rwa[ZhS d]at this
def FrC.t(C:FrC W0 E fv g' L v W)i(f:i=6\/i=7)(d:L i=xk):∃a,v (VL i)=KQ fv g' a/\FrO W0 W L v g' a:=by
 have:=C.val i Z0 Z0 Z0 d;unfold FrV at this;rwa[ZhP Z0,ZhS f]at this
def FrC.a(C:FrC W0 E fv g' L v W)(f:L 9=xk):∃d,v 47=.agg (Yn g' d)/\FrO W0 W L v g' d:=by
 have:=C.val 9 Z0 Z0 Z0 f;unfold FrV at this;rwa[ZhP Z0,ZhP Z0,ZhS rfl]at this
def FrC.f(C:FrC W0 E fv g' L v W)i(d:i=8\/i=12)(a:L i=xk):v (VL i)=.int .u64 fv:=by
 have:=C.val i Z0 Z0 Z0 a;unfold FrV at this;rwa[ZhP Z0,ZhP Z0,ZhP Z0,ZhS d]at this
def FrC.z(C:FrC W0 E fv g' L v W)i(d:i=10\/i=14)(a:L i=xk):v (VL i)=.int .i64 0:=by
 have:=C.val i Z0 Z0 Z0 a;unfold FrV at this;rwa[ZhP Z0,ZhP Z0,ZhP Z0,ZhP Z0]at this
def FrC.pe(C:FrC W0 E fv g' L v W)i(a:i<6){s}(d:s=VL i):=
 C.step Z0 Z0 Z0 d (ZhY _ _) (by unfold FrV;rw[ZhS a])
def FrC.pt(C:FrC W0 E fv g' L v W){a}(o:FrO W0 W L v g' a):FrC W0 E fv g' (add L 7) (Xf v 38<|KQ fv g' a) W:=
 C.step Z0 Z0 Z0 rfl (ZhY _ _) (by unfold FrV;rw[ZhP Z0,ZhS<|.inr rfl];exact⟨a,rfl,o⟩)
def FrC.pa(C:FrC W0 E fv g' L v W){a}(o:FrO W0 W L v g' a):FrC W0 E fv g' (add L 9) (Xf v 47<|.agg<|Yn g' a) W:=
 C.step Z0 Z0 Z0 rfl (ZhY _ _) (by unfold FrV;rw[ZhS rfl];exact⟨a,rfl,o⟩)
def FrC.pf(C:FrC W0 E fv g' L v W)i(a:i=8\/i=12){s}(d:s=VL i):=
 C.step Z0 Z0 Z0 d (ZhY _ _) (by unfold FrV;rw[ZhP Z0,ZhP Z0,ZhP Z0,ZhS a])
def FrC.pz(C:FrC W0 E fv g' L v W)i(d:i=10\/i=14){s}(a:s=VL i):=
 C.step Z0 Z0 Z0 a (ZhY _ _) (by unfold FrV;rw[ZhP Z0,ZhP Z0,ZhP Z0,ZhP Z0])
end
def JF{W G}{l:Z9}{y}(h:Rd W G (.sl<|l.map vu) y){k u}(j:l[k]?=J u):∃b o cap,y=.slice (J ⟨b,o,U⟩) (I l) cap/\W.cell? ⟨b,o+k,U⟩=J (.int .u64 u)/\G b:=by
 have g:=(ZhH.1 j).1;generalize a:l.map vu=L at h;cases h with
 |nil=>simp at a;subst a;simp at g
 |sl _ b o cap w vs x z n p q r=>
  have d:I L=I l:=by rw[<-a,Zia]
  have f:w=1:=by
   have:=(p _ (by rw[<-a];exact Zjr<|ZhR j)).1;simpa using this.symm
  subst f;refine⟨b,o,cap,by rw[d],?_,n⟩;rw[q k Z0];have t:(flat L)[k]?=J (vu u):=by rw[<-a,yq,Zi8,j];rfl
  rw[TY<|r k _ t]
end
structure NowI (B:Nat->Prop) (W:World) (b:Nat) (g:Hp) (x:Nat->Value):Prop where
 le:B b
 nb:W.heap[b]?=J (.cells (Yn g x) 30 (0,0))
 rd:∀j,j<5->Rd W (λc=>B c/\c<xz (xj W)/\c≠b) (.sl<|(Zu g j).map vu) (x j)
def Kh(B:Z4)(W:Z3)(b:Nat)(g':Hp)(e:Ending)(W':Z3):Prop:=e=.returned (.int .i64 0)/\W.grownBy W' (J b)/\∃a,NowI B W' b g' a
def EB(W:Z3)(B:Z4)(b:Nat)(g:Hp)(x:Z5)(S:NowI B W b g x)(A:g.ok)(i:Nat)(F:g.Z=i)(G:i<I g.H)(pt:Bool)(K:pt=xw\/g.H[i]?=J 0):
  Calls xP 62 #[.bool pt,.pointer<|J ⟨b,0,U⟩] W (Kh B W b<|X0 {g with Z:=(i:Int)+1}):=by
 obtain⟨u,M⟩:∃u,g.H[i]?=J u:=⟨_,ZhG G⟩;obtain⟨N,go,cap,n,C,r⟩:=JF (S.rd 0 Z0) M;rw[show I (Zu g 0)=(I g.H) from rfl]at n;have f:=S.nb;unfold Yn at f;rw[n,F]at f;have Y:∀j,W.cell? ⟨b,j,U⟩=(#[.int .u64 g.base,.int .i64 g.cap,.int .i64 g.to,.bool g.M,.int .i64 i,.slice (J ⟨N,go,U⟩) (I g.H) cap,x 1,x 2,x 3,x 4]:Array Value)[j]? :=λj=>ZhQ _ _ _ _ _ _ f;have T:∀j,W.frozen? ⟨b,j,U⟩=xw:=λj=>Yh f;have R:=A.H;have X:=Zx ((i:Int)+1) Z0 Z0;have L:((i:Int)< (I g.H:Int))=True:=Zk3 Z0;have y:=ZhK S;have w:=ZhK<|And.intro f<|And.intro n<|And.intro r F;have q:pt=xw\/pt=xk/\u=0:=by
  obtain h|h:=K;exact .inl h;rw[M]at h;cases pt;exact .inl rfl;exact .inr ⟨rfl,Zjj h⟩
 clear S f n r K F;go_enter jY,Tryz.ntmps62;have p:∀c v,xz (xj<|W.setCell c v)=xz (xj W):=λc v=>Zhl;by_cases d:i+1=I g.H
 .have o:((i:Int)+1==(I g.H:Int))=xk:=ZgJ;have k:=ZhK d;clear d;have fin:Kh B W b (X0 {g with Z:=(i:Int)+1}) (.returned<|.int .i64 0)<|(((W.setCell ⟨b,4,U⟩<|.int .i64<|(i:Int)+1).setCell ⟨b,3,U⟩<|.bool xw).setCell ⟨b,7,U⟩<|.slice U 0 0).setCell ⟨b,8,U⟩<|.slice U 0 0:=by
   have D:X0 {g with Z:=(i:Int)+1}= {g with Z:=(i:Int)+1,M:=xw,ah:=[],ak:=[]}:=by
    unfold X0;rw[ZhS (by show(i:Int)+1=(I g.H:Int);have:=k.out;omega)]
   rw[D];have l:∀c,c≠b->((((W.setCell ⟨b,4,U⟩<|.int .i64<|(i:Int)+1).setCell ⟨b,3,U⟩<|.bool xw).setCell ⟨b,7,U⟩<|.slice U 0 0).setCell ⟨b,8,U⟩<|.slice U 0 0).heap[c]?=W.heap[c]? :=λc a=>by
    simp[World.setCell,Zij,Zju a]
   have t:xz (xj<|(((W.setCell ⟨b,4,U⟩<|.int .i64<|(i:Int)+1).setCell ⟨b,3,U⟩<|.bool xw).setCell ⟨b,7,U⟩<|.slice U 0 0).setCell ⟨b,8,U⟩<|.slice U 0 0)=xz (xj W):=Zhl;refine⟨rfl,⟨rfl,rfl,rfl,Nat.le_of_eq t.symm,λc _ a=>l c<|λe=>a (by rw[e])⟩,λj=>if j=2\/j=3 then .slice U 0 0 else x j,y.out.le,?_,λj H=> ?_⟩;have:=w.out.1;have z:=w.out.2.1;simp[World.setCell,Zij,this,Yn,z];have:j=2\/j=3\/(j≠2/\j≠3):=Z0;obtain rfl|rfl|⟨O,P⟩:=this;exact .nil _ _ ZgX;exact .nil _ _ ZgX;have Q:Zu {g with Z:=(i:Int)+1,M:=xw,ah:=[],ak:=[]} j=Zu g j:=by
    have:j=0\/j=1\/j=4:=Z0;obtain rfl|rfl|rfl:=this<;>rfl
   rw[Q];simp only[O,P,or_self,ZiF];exact(y.out.rd j H).keep (λc a=>l c a.2.2) λc a=>⟨a.1,by rw[t];exact a.2.1,a.2.2⟩
  obtain rfl|⟨rfl,rfl⟩:=q;all_goals
   go_wp2;exact Zie (v:=.int .i64 0) Zhh rfl fin
 .have o:((i:Int)+1==(I g.H:Int))=xw:=ZgJ;have k:=ZhK d;clear d;have fin:Kh B W b (X0 {g with Z:=(i:Int)+1}) (.returned<|.int .i64 0)<|W.setCell ⟨b,4,U⟩<|.int .i64<|(i:Int)+1:=by
   have D:X0 {g with Z:=(i:Int)+1}= {g with Z:=(i:Int)+1}:=by
    unfold X0;rw[ZhP (by show ¬(i:Int)+1=(I g.H:Int);have:=k.out;omega)]
   rw[D];have l:∀c,c≠b->(W.setCell ⟨b,4,U⟩<|.int .i64<|(i:Int)+1).heap[c]?=W.heap[c]? :=λc a=>Zi0 _ _ _ _ a;have t:=p ⟨b,4,U⟩<|.int .i64<|(i:Int)+1;refine⟨rfl,⟨rfl,rfl,rfl,Nat.le_of_eq t.symm,λc _ a=>l c<|λe=>a (by rw[e])⟩,x,y.out.le,?_,λj H=> ?_⟩;have:=w.out.1;have z:=w.out.2.1;simp[World.setCell,Zij,this,Yn,z];exact(y.out.rd j H).keep (λc a=>l c a.2.2) λc a=>⟨a.1,by rw[t];exact a.2.1,a.2.2⟩
  obtain rfl|⟨rfl,rfl⟩:=q;all_goals
   go_wp2;exact Zie (v:=.int .i64 0) Zhh rfl fin
def Mu{B W b g x}(S:NowI B W b g x)n:W.grownBy (W.setCell ⟨b,4,U⟩<|.int .i64 n) (J b)/\NowI B (W.setCell ⟨b,4,U⟩<|.int .i64 n) b {g with Z:=n} x:=by
 have d:∀c,c≠b->(W.setCell ⟨b,4,U⟩<|.int .i64 n).heap[c]?=W.heap[c]? :=λc a=>Zi0 _ _ _ _ a;have h:xz (xj<|W.setCell ⟨b,4,U⟩<|.int .i64 n)=xz (xj W):=Z1;refine⟨⟨rfl,rfl,rfl,Z0,ZgH⟩,S.le,?_,λj f=> ?_⟩;have:=S.nb;simp[World.setCell,Zij,this,Yn];exact(S.rd j f).keep (λc a=>d c a.2.2) λc a=>ZgI
def Z7d{B W b g x}(S:NowI B W b g x):W.grownBy (((W.setCell ⟨b,3,U⟩<|.bool xw).setCell ⟨b,7,U⟩<|.slice U 0 0).setCell ⟨b,8,U⟩<|.slice U 0 0) (J b)/\
  NowI B (((W.setCell ⟨b,3,U⟩<|.bool xw).setCell ⟨b,7,U⟩<|.slice U 0 0).setCell ⟨b,8,U⟩<|.slice U 0 0) b {g with M:=xw,ah:=[],ak:=[]} (λj=>if j=2\/j=3 then .slice U 0 0 else x j):=by
 have d:∀c,c≠b->(((W.setCell ⟨b,3,U⟩<|.bool xw).setCell ⟨b,7,U⟩<|.slice U 0 0).setCell ⟨b,8,U⟩<|.slice U 0 0).heap[c]?=W.heap[c]? :=λc a=>by
  simp[World.setCell,Zij,Zju a]
 have n:xz (xj<|((W.setCell ⟨b,3,U⟩<|.bool xw).setCell ⟨b,7,U⟩<|.slice U 0 0).setCell ⟨b,8,U⟩<|.slice U 0 0)=xz (xj W):=Z1;refine⟨⟨rfl,rfl,rfl,Z0,ZgH⟩,S.le,?_,λj k=> ?_⟩;have:=S.nb;simp[World.setCell,Zij,this,Yn];have:j=2\/j=3\/(j≠2/\j≠3):=Z0;obtain rfl|rfl|⟨f,h⟩:=this;exact .nil _ _ ZgX;exact .nil _ _ ZgX;have l:Zu {g with M:=xw,ah:=[],ak:=[]} j=Zu g j:=by
  have:j=0\/j=1\/j=4:=Z0;obtain rfl|rfl|rfl:=this<;>rfl
 rw[l];simp[f,h,or_self,ZiF];exact(S.rd j k).keep (λc a=>d c a.2.2) λc a=>ZgI
def Z1b(W:Z3)(B:Z4)(b:Nat)(b4:∀c,xz (xj W)<=c->B c)(g:Hp)(x:Z5)(S:NowI B W b g x)(Z:g.ok)(i:Nat)(hi:g.Z=i)(f8:i<I g.H){u:Int}(hu:g.H[i]?=J u)(g5:¬u=0){v:Int}{g1:Hp}(hf:fwd g u=(v,g1,0))(d7:i<I g1.H)(d8:g1.Z=i):
  Calls xP 62 #[.bool xk,.pointer<|J ⟨b,0,U⟩] W (Kh B W b<|X0 {g1 with H:=g1.H.set i v,Z:=(i:Int)+1}):=by
 obtain⟨gb,go,cap,G,e0,b9⟩:=JF (S.rd 0 Z0) hu;rw[show I (Zu g 0)=(I g.H) from rfl]at G;have w:=S.nb;unfold Yn at w;rw[G,hi]at w;have yb:∀j,W.cell? ⟨b,j,U⟩=(#[.int .u64 g.base,.int .i64 g.cap,.int .i64 g.to,.bool g.M,.int .i64 i,.slice (J ⟨gb,go,U⟩) (I g.H) cap,x 1,x 2,x 3,x 4]:Array Value)[j]? :=λj=>ZhQ _ _ _ _ _ _ w;have f9:=Z.H;have uu:=Z.ex u<|ZhR hu;have wi:=Zx ((i:Int)+1) Z0 Z0;have e8:((i:Int)< (I g.H:Int))=True:=Zk3 Z0;have hF:∀W',Below (xz<|xj W) W W'->Calls xP 39 #[.agg #[.int .u64 g.base,.int .i64 g.cap,.int .i64 g.to,.bool g.M,.int .i64 i,.slice (J ⟨gb,go,U⟩) (I g.H) cap,x 1,x 2,x 3,x 4],.int .u64 u] W' (FwdPost W' (v,g1,0)):=λW' hb=>by
  have:=Ew W' (λc=>B c/\c<xz (xj W)/\c≠b) (λc f=>ZhO f.2.1 hb.size) g Z x (λj P=>(S.rd j P).keep (λc f=>hb.block c f.2.1) λ_ q=>q) u uu;rw[hf]at this;unfold ZA at this;rw[G,hi]at this;exact this
 have HF:=ZhK hF;have d5:=ZhK b4;have HS:=ZhK S;have HN:=ZhK<|And.intro w<|And.intro G<|And.intro b9 hi;have C:=(yA Z uu);rw[hf]at C;have e9:=ZhK C;have d9:=Y1 w;clear S w G b9 hi hF hf C b4;go_enter jY,Tryz.ntmps62;go_upto_region 6 with (go_at_call 39;refine(HF.out _<|ZhY _ _).mono ?_;rintro e w9 ⟨x9,rfl,b7,h⟩;obtain⟨a0,H,f0⟩:=Xl<|h.own 0 Z0;obtain⟨L,Q,f1⟩:=Xl<|h.own 1 Z0;obtain⟨M,R,f2⟩:=Xl<|h.own 2 Z0;obtain⟨N,T,f3⟩:=Xl<|h.own 3 Z0;obtain⟨O,X,f4⟩:=Xl<|h.own 4 Z0;obtain⟨a,rfl⟩:=JA (h.own 0 Z0) f0 (by show 0<I g1.H;omega);rw[show I (Zu g1 0)=(I g1.H) from rfl]at f0;unfold ZA;rw[f0,f1,f2,f3,f4];have k:=ZhK<|And.intro b7<|And.intro h<|And.intro f0<|And.intro f1<|And.intro f2<|And.intro f3 f4;clear b7 h f0 f1 f2 f3 f4);have e6:=k.out.1.size;have a7:Below (xz<|xj W) W<|w9.alloc<|.cells #[.int .u64 g1.base,.int .i64 g1.cap,.int .i64 g1.to,.bool g1.M,.int .i64 i,.slice (J ⟨a,0,U⟩) (I g1.H) H,.slice L (I<|Zu g1 1) Q,.slice M (I<|Zu g1 2) R,.slice N (I<|Zu g1 3) T,.slice O (I<|Zu g1 4) X] 30:=k.out.1.alloc e6 _;have a9:=Zi7 w9<|.cells #[.int .u64 g1.base,.int .i64 g1.cap,.int .i64 g1.to,.bool g1.M,.int .i64 i,.slice (J ⟨a,0,U⟩) (I g1.H) H,.slice L (I<|Zu g1 1) Q,.slice M (I<|Zu g1 2) R,.slice N (I<|Zu g1 3) T,.slice O (I<|Zu g1 4) X] 30;have b3:xz (xj<|w9.alloc<|.cells #[.int .u64 g1.base,.int .i64 g1.cap,.int .i64 g1.to,.bool g1.M,.int .i64 i,.slice (J ⟨a,0,U⟩) (I g1.H) H,.slice L (I<|Zu g1 1) Q,.slice M (I<|Zu g1 2) R,.slice N (I<|Zu g1 3) T,.slice O (I<|Zu g1 4) X] 30)=xz (xj w9)+1:=Z1;have l:HOwn (xz<|xj W) (w9.alloc<|.cells #[.int .u64 g1.base,.int .i64 g1.cap,.int .i64 g1.to,.bool g1.M,.int .i64 i,.slice (J ⟨a,0,U⟩) (I g1.H) H,.slice L (I<|Zu g1 1) Q,.slice M (I<|Zu g1 2) R,.slice N (I<|Zu g1 3) T,.slice O (I<|Zu g1 4) X] 30) g1 x9:=⟨λj P=>Xm (k.out.2.1.own j P) λc f=>ZhU w9 _ c ((k.out.2.1.own j P).lt c f).2,k.out.2.1.apart⟩;have f6:xz (xj W)<=a/\a<xz (xj w9):=(k.out.2.1.own 0 Z0).lt a (by rw[k.out.2.2.1];rfl);obtain⟨K,b5⟩:∃K,K=w9.alloc (.cells #[.int .u64 g1.base,.int .i64 g1.cap,.int .i64 g1.to,.bool g1.M,.int .i64 i,.slice (J ⟨a,0,U⟩) (I g1.H) H,.slice L (I<|Zu g1 1) Q,.slice M (I<|Zu g1 2) R,.slice N (I<|Zu g1 3) T,.slice O (I<|Zu g1 4) X] 30):=⟨_,rfl⟩;rw[<-b5]at a7 a9 b3 l⊢;clear b5;have a5:=(a7.block b d9).trans HN.out.1;have y7:∀j,K.cell? ⟨xz<|xj w9,j,U⟩=(#[.int .u64 g1.base,.int .i64 g1.cap,.int .i64 g1.to,.bool g1.M,.int .i64 i,.slice (J ⟨a,0,U⟩) (I g1.H) H,.slice L (I<|Zu g1 1) Q,.slice M (I<|Zu g1 2) R,.slice N (I<|Zu g1 3) T,.slice O (I<|Zu g1 4) X]:Array Value)[j]? :=λj=>ZhQ _ _ _ _ _ _ a9;have e7:∀j,K.cell? ⟨b,j,U⟩=(#[.int .u64 g.base,.int .i64 g.cap,.int .i64 g.to,.bool g.M,.int .i64 i,.slice (J ⟨gb,go,U⟩) (I g.H) cap,x 1,x 2,x 3,x 4]:Array Value)[j]? :=λj=>ZhQ _ _ _ _ _ _ a5;have d6:∀j,K.frozen? ⟨b,j,U⟩=xw:=λj=>Yh a5;have z:=ZhK<|And.intro a7<|And.intro l<|And.intro b3 a5;clear a7 l b3 a5 a9;go_upto_region 7 with fail;obtain⟨d,t⟩:∃d,d=((((((((((K.setCell ⟨b,0,U⟩<|.int .u64 g1.base).setCell ⟨b,1,U⟩<|.int .i64 g1.cap).setCell ⟨b,2,U⟩<|.int .i64 g1.to).setCell ⟨b,3,U⟩<|.bool g1.M).setCell ⟨b,4,U⟩<|.int .i64 i).setCell ⟨b,5,U⟩<|.slice (J ⟨a,0,U⟩) (I g1.H) H).setCell ⟨b,6,U⟩<|.slice L (I<|Zu g1 1) Q).setCell ⟨b,7,U⟩<|.slice M (I<|Zu g1 2) R).setCell ⟨b,8,U⟩<|.slice N (I<|Zu g1 3) T).setCell ⟨b,9,U⟩<|.slice O (I<|Zu g1 4) X):=⟨_,rfl⟩;rw[<-t];have b0:d.heap[b]?=J (.cells #[.int .u64 g1.base,.int .i64 g1.cap,.int .i64 g1.to,.bool g1.M,.int .i64 i,.slice (J ⟨a,0,U⟩) (I g1.H) H,.slice L (I<|Zu g1 1) Q,.slice M (I<|Zu g1 2) R,.slice N (I<|Zu g1 3) T,.slice O (I<|Zu g1 4) X] 30 (0,0)):=by rw[t];exact Oq z.out.2.2.2
 have p:∀c,c≠b->d.heap[c]?=K.heap[c]? :=λc f=>by rw[t];exact Vq f
 have c7:xz (xj d)=xz (xj K):=by rw[t];simp[World.setCell]
 have a6:Below 0 K d:=by rw[t];exact WP (ZhY _ _)<|ZiZ _
 have a8:K.grownBy d<|J b:=⟨a6.os,a6.tape,a6.output,a6.size,λc _ f=>p c<|λe=>f (by rw[e])⟩;clear t;have n:HOwn (xz<|xj W) d g1 x9:=⟨λj P=>Xm (z.out.2.1.own j P) λc f=>p c (by have:=((z.out.2.1.own j P).lt c f).1;omega),z.out.2.1.apart⟩;have F:=n.own 0 Z0;rw[k.out.2.2.1,show I (Zu g1 0)=(I g1.H) from rfl]at F;obtain⟨z0,c1⟩:∃z0,g1.H[i]?=J z0:=⟨_,ZhG d7⟩;have ec:d.cell? ⟨a,i,U⟩=J (.int .u64 z0):=by
  rw[F.cellAt i Z0];simp[Yd,Zu,c1]
 have ef:d.frozen? ⟨a,i,U⟩=xw:=F.frozenAt i;have y3:∀j,d.cell? ⟨b,j,U⟩=(#[.int .u64 g1.base,.int .i64 g1.cap,.int .i64 g1.to,.bool g1.M,.int .i64 i,.slice (J ⟨a,0,U⟩) (I g1.H) H,.slice L (I<|Zu g1 1) Q,.slice M (I<|Zu g1 2) R,.slice N (I<|Zu g1 3) T,.slice O (I<|Zu g1 4) X]:Array Value)[j]? :=λj=>ZhQ _ _ _ _ _ _ b0;have f7:((i:Int)< (I g1.H:Int))=True:=Zk3 Z0;have A:=ZhK<|And.intro b0<|And.intro p<|And.intro c7<|And.intro a8<|And.intro n F;clear b0 p c7 a8 n F y7 e7 d6 c1;go_upto_region 8 with fail;have b8:a≠b:=Z0;obtain⟨b2,e4⟩:=A.out.2.2.2.2.2.stored i<|.int .u64 v;have r:∀c,c≠a->(d.setCell ⟨a,i,U⟩<|.int .u64 v).heap[c]?=d.heap[c]? :=λc f=>Zi0 _ _ _ _ f;have d0:xz (xj<|d.setCell ⟨a,i,U⟩<|.int .u64 v)=xz (xj d):=Zhl;have D:=(r b<|Zju b8).trans A.out.1;have S4:NowI B (d.setCell ⟨a,i,U⟩<|.int .u64 v) b {g1 with H:=g1.H.set i v} x9:=by
  refine⟨HS.out.le,?_,λj P=> ?_⟩;rw[D];unfold Yn;rw[k.out.2.2.1,k.out.2.2.2.1,k.out.2.2.2.2.1,k.out.2.2.2.2.2.1,k.out.2.2.2.2.2.2];simp only[d8];have c0:∀c,xz (xj W)<=c->c< xz (xj<|d.setCell ⟨a,i,U⟩<|.int .u64 v)->B c/\c< xz (xj<|d.setCell ⟨a,i,U⟩<|.int .u64 v)/\c≠b:=λc h1 h2=>⟨d5.out c h1,h2,Z0⟩;by_cases e:j=0;subst e;have hn:Yd .u64 (g1.H.set i v)=(Yd .u64<|Zu g1 0).set i (.int .u64 v):=Js _ _ _ _;rw[<-hn]at b2;show Rd _ _ (.sl<|(g1.H.set i v).map vu)<|x9 0;rw[k.out.2.2.1];have e3:I g1.H=I (g1.H.set i v):=by rw[Zjs]
  have e5:(d.setCell ⟨a,i,U⟩<|.int .u64 v).ownsRow (xz<|xj W) 24 1 (.slice (J ⟨a,0,U⟩) (I g1.H) H) (I<|g1.H.set i v)<|Yd .u64<|g1.H.set i v:=by rw[<-e3];exact b2
  exact Tn e5 c0;have e1:Zu {g1 with H:=g1.H.set i v} j=Zu g1 j:=by
   have:j=1\/j=2\/j=3\/j=4:=Z0;obtain rfl|rfl|rfl|rfl:=this<;>rfl
  rw[e1];refine Tn (Xm (A.out.2.2.2.2.1.own j P) λc f=>r c λe2=> ?_) c0;exact A.out.2.2.2.2.1.apart 0 j Z0 P c (by rw[e2,k.out.2.2.1];rfl) f
 have G4:W.grownBy (d.setCell ⟨a,i,U⟩<|.int .u64 v)<|J b:=by
  have g2:=Te z.out.1<|J b;have g3:=Si g2 A.out.2.2.2.1;refine⟨g3.os,g3.tape,g3.output,by rw[d0];exact g3.size,λc f hn=> ?_⟩;rw[r c Z0];exact g3.block c f hn
 obtain⟨W4,b6⟩:∃W4,W4=d.setCell ⟨a,i,U⟩ (.int .u64 v):=⟨_,rfl⟩;rw[<-b6]at S4 G4 D⊢;clear b6 r d0 b2 e4;have y4:∀j,W4.cell? ⟨b,j,U⟩=(#[.int .u64 g1.base,.int .i64 g1.cap,.int .i64 g1.to,.bool g1.M,.int .i64 i,.slice (J ⟨a,0,U⟩) (I g1.H) H,.slice L (I<|Zu g1 1) Q,.slice M (I<|Zu g1 2) R,.slice N (I<|Zu g1 3) T,.slice O (I<|Zu g1 4) X]:Array Value)[j]? :=λj=>ZhQ _ _ _ _ _ _ D;have f5:∀j,W4.frozen? ⟨b,j,U⟩=xw:=λj=>Yh D;have Y:=ZhK<|And.intro S4 G4;clear S4 G4 D ec ef y3;by_cases o:i+1=I g1.H
 .have b1:((i:Int)+1==(I g1.H:Int))=xk:=ZgJ;have y:=ZhK o;clear o;go_wp2;refine Zie (v:=.int .i64 0) Zhh rfl ?_;have he:X0 {g1 with H:=g1.H.set i v,Z:=(i:Int)+1}= {g1 with H:=g1.H.set i v,Z:=(i:Int)+1,M:=xw,ah:=[],ak:=[]}:=by
   unfold X0;rw[ZhS (by show(i:Int)+1=(I (g1.H.set i v):Int);rw[Zjs];have:=y.out;omega)]
  rw[he];obtain⟨p1,p2⟩:=Mu Y.out.1<|(i:Int)+1;obtain⟨p3,p4⟩:=Z7d p2;exact⟨rfl,Si (Si Y.out.2 p1) p3,_,p4⟩
 .have b1:((i:Int)+1==(I g1.H:Int))=xw:=ZgJ;have y:=ZhK o;clear o;go_wp2;refine Zie (v:=.int .i64 0) Zhh rfl ?_;have he:X0 {g1 with H:=g1.H.set i v,Z:=(i:Int)+1}= {g1 with H:=g1.H.set i v,Z:=(i:Int)+1}:=by
   unfold X0;rw[ZhP (by show ¬(i:Int)+1=(I (g1.H.set i v):Int);rw[Zjs];have:=y.out;omega)]
  rw[he];obtain⟨p1,p2⟩:=Mu Y.out.1<|(i:Int)+1;exact⟨rfl,Si Y.out.2 p1,_,p2⟩
def Zaa{g:Hp}{p:Pts}(r:Rt g p){i:Nat}(B:g.Z=i)(w:Vn p.H i=xk){u:Int}(x:g.H[i]?=J u):Gos g p u 1 2\/Gos g p u 3 4:=by
 obtain⟨o,d,z,A⟩:=Ji.1 w;obtain⟨a,n,m,f,y,em,l,_,t⟩:=r.toTld.ob (k:=1) Z0 d;have q:o.gone=xw:=(r.am 1 Z0).cq o d;obtain⟨j,h⟩:∃j,i=a+1+j:=⟨i-a-1,Z0⟩;have:=r.ptr 1 Z0 o d q j Z0 u (by rw[f,Zi1,<-h];exact x);unfold Xx at this;rw[ZhP Z0,ZhS ⟨rfl,by rw[f,Zi1,<-h];omega⟩]at this;exact this
def Zam{l:Z9}{i:Nat}{u:Int}(h:l[i]?=J u):l.set i u=l:=by
 apply Zk0;intro j;rw[List.getElem?_set];by_cases e:i=j;subst e;rw[ZhS rfl,h,ZhS (ZhH.1 h).1];rw[ZhP e]
def Z1a(W:Z3)(B:Z4)(b:Nat)(n:∀c,xz (xj W)<=c->B c)(g:Hp)(x:Z5)(S:NowI B W b g x)(h:g.ok){p:Pts}(r:Rt g p)(hc:g.M=xk):
  Calls xP 62 #[.bool<|Vn p.H g.Z,.pointer<|J ⟨b,0,U⟩] W (Kh B W b<|WK g):=by
 obtain⟨i,a⟩:=ZhW r.ip;have d:i<I g.H:=by have:=r.kz hc;omega
 have w:=r.mc;obtain⟨u,j⟩:∃u,g.H[i]?=J u:=⟨_,ZhG d⟩;have o:(g.H[g.Z.toNat]?).getD 0=u:=by rw[a,Zi1,j];rfl
 cases q:Vn p.H g.Z with
 |false=>
  have l:WK g=X0 {g with Z:=(i:Int)+1}:=by
   unfold WK;rw[w,ZhP (by rw[q];simp),a]
  rw[l];exact EB W B b g x S h i a d xw<|.inl rfl
 |true=>
  have l:WK g=X0 {(fwd g u).2.1 with H:=(fwd g u).2.1.H.set i (fwd g u).1,Z:=(i:Int)+1}:=by
   unfold WK;rw[w,ZhS q,o,a,Zi1]
  by_cases k:u=0;subst k;have:WK g=X0 {g with Z:=(i:Int)+1}:=by
   rw[l,Hj r.bc];simp only;rw[Zam j]
  rw[this];exact EB W B b g x S h i a d xk<|.inr j;obtain⟨v,g1,y,f⟩:=r.toBody.ij r.ku<|Zaa r a (by rw[<-a];exact q) j;rw[l,f.fwd];obtain⟨z,t⟩:=f.ext.H;exact Z1b W B b n g x S h i a d j k f.fwd (by rw[t,Zin];omega) (by rw[f.ext.Z];exact a)
section
def EN{α:Type}(F:Fence)(n:Nat)(P:Z6)(g:Nat)(lb:Za)(d:α->Array Value)(Kp:World->World->Prop)(o:List α->α->World->Prop)(S:List α->World->Prop)(N:Nat)(k:List α->World->Prop)(w:Z3):Prop:=
 ∀(l:Nat) (p h:List α->World->Prop) (W:Z3),Below (xz<|xj w) w W->(∀pre W,p pre W->k pre W)->AbidesFrom (xz<|xj W) p->AbidesFrom (xz<|xj W) h->
  (∀pre x f,p pre f->o pre x f->I pre<N->YieldAt F (n-1) P l (d x) f λe a=>
   (e=.returned (.bool xk)/\p (pre++[x]) a/\Kp f a)\/(e=.returned (.bool xw)/\h (pre++[x]) a))->
  p [] W->
  CallsIn F n P g (#[.func (.yield l) #[] #[]]++lb) W λe a=>(∃v,e=.returned v)/\((∃j,S j a/\p j a)\/(∃pre,h pre a))
variable {F:Fence}{n:Nat}{P:Z6}
def ZbT{α:Type}{g:Operand}{ps:Array Tmp}{assign body:Code}{Q:Zh}{a:Act}{w:Z3}
  (d7:F.round=U) (h1:1<=n) {gf:Nat} {lb:Za} (hg:a.eval g=.func (.func gf) #[] lb) (b3:F.fn gf) (eg:∀args w,(callFunc gf args).run P w=.ok (.enter gf args) w)
  {M:α->Array Value} {Kp:World->World->Prop} {Px:List α->α->World->Prop} {S:List α->World->Prop} {N:Nat} {Ex:List α->World->Prop} {w0:Z3} (b1:EN F (n-1) P gf lb M Kp Px S N Ex w0)
  (a5:∀ {A B C:Z3},Kp A B->Kp B C->Kp A C) (a4:∀(W:Z3) (l:Nat) (o o':Obj),xz (xj w)<=l->W.heap[l]?=J o->o.isCells=xw->o.isWalk=xw->Kp W (W.putObj l o')) (a6:Below (xz<|xj w0) w0 w) (d5:∀x,(M x).size=ps.size)
  (I:List α->World->Prop) (Ix:Code->List α->World->Prop) (hI:OwnFrom (xz<|xj w) I) (b2:∀pre W,I pre W->Ex pre W) (X:∀c,OwnFrom (xz<|xj w)<|Ix c) (b7:∀pre x,OwnFrom (xz<|xj w)<|λ(_:Unit) W=>Px pre x W) (hS:OwnFrom (xz<|xj w) S) (h0:I [] w) (a₁:α->Act)
  (Y:∀(l:Nat) (x:α) (W:Z3) (K:Zq),K (a₁ x) W->
   assign.wpIn (F.inRound l) (n-1-1) P (Exit.then K<|λ_ _ _=>False) {tmps:=(ps.zip<|M x).foldl (λt (p,v)=>t.setIfInBounds p v) a.tmps,defers:=[]} W)
  (a0:∀(l:Nat) (pre:List α) (x:α) (W:Z3),I pre W->Px pre x W->xq pre<N->body.wpIn (F.inRound l) (n-1-1) P (ownPostG (xz<|xj w) Kp I Ix (pre++[x]) W) (a₁ x) W)
  (a1:∀(D:Nat) (xs:List α) (W:Z3),xz (xj w)<=D->S xs W->I xs W->W.heap[D]?=J (.deferred<|J [])->Q .normal {a with defers:= {target:=.collected D,args:=#[]}::a.defers} W)
  (a2:∀(D:Nat) (c:Code) (pre:List α) (W:Z3),xz (xj w)<=D->Ix c pre W->W.heap[D]?=J (.deferred<|J [])->c.wpIn F n P Q {a with defers:= {target:=.collected D,args:=#[]}::a.defers} W):
  (Code.rangeFunc g ps assign body).wpIn F n P Q a w:=by
 refine wpIn_rangeFunc λfn c0=> ?_;rw[d7];obtain⟨f,j⟩:∃f:LoopState->Option Code->Loop,f=λst pe=> {state:=st,pending:=pe,fn,tmps:=a.tmps,params:=ps,assign,body,defers:=xz (xj w)}:=⟨_,rfl⟩;obtain⟨T,O⟩:∃T,(w.alloc<|.deferred<|J []).alloc (.loop<|f .ready U)=T:=⟨_,rfl⟩;have b6:T.heap[xz (xj w)+1]?=J (.loop<|f .ready U):=by
  have:=ZiU (w.alloc<|.deferred<|J [])<|.loop<|f .ready U;rw[ZjM]at this;rw[<-O];exact this
 have b5:T.heap[xz<|xj w]?=J (.deferred<|J []):=by
  rw[<-O];exact(ZhU _ _ _ Z1).trans (ZiU w _)
 have b4:I [] T:=by rw[<-O];exact hI.alloc _<|hI.alloc _ h0
 have b9:Below (xz<|xj w0) w0 T:=by
  rw[<-O];exact a6.trans<|(((ZhY _ w).alloc (ZhL _) _).alloc Z1 _).mono a6.size
 refine⟨xz (xj w)+1,[{target:=.collected<|xz<|xj w,args:=#[]}],T,{target:=.fn (.func gf) lb,args:=#[.func (.yield<|xz (xj w)+1) #[] #[]]},T,gf,
  #[.func (.yield<|xz (xj w)+1) #[] #[]]++lb,T,?_,?_,?_,?_,λ_=>h1,?_⟩
 rw[<-O,j];exact run_enterLoop_outer _ _ _ _ _
 .simp only[resolve,hg];simp[go_sem]
 intro f' a7;simp[Target.leads]at a7;subst a7;exact b3
 .simp[invoke,go_sem,eg]
 have b0:∀ {A B:Z3} {row:Option Nat},(∀r,row=J r->xz (xj T)<=r/\∃o:Obj,A.heap[r]?=J o/\o.isWalk=xk)->(∀r,row=J r->xz (xj w)<=r/\∃o:Obj,A.heap[r]?=J o/\o.isCells=xw):=
  λu r e=>by obtain⟨hB,o,ho,hw⟩:=u r e;exact⟨by rw[<-O]at hB;simp at hB;omega,o,ho,Obj.not_cells_of_walk hw⟩
 refine(b1 (xz (xj w)+1)
  (λpre W=>I pre W/\W.heap[xz (xj w)+1]?=J (.loop<|f .ready U)/\W.heap[xz<|xj w]?=J (.deferred<|J []))
  (λpre W=>∃c,Ix c pre W/\W.heap[xz (xj w)+1]?=J (.loop<|f .done<|J c)/\W.heap[xz<|xj w]?=J (.deferred<|J []))
  T b9 (λpre W h=>b2 pre W h.1)
  (λs A B row hs z u=>⟨hI s A B row hs.1 z<|b0 (B:=B) u,(Zlt z (λr e=>(u r e).2) hs.2.1 rfl).trans hs.2.1,(Zlt z (λr e=>(u r e).2) hs.2.2 rfl).trans hs.2.2⟩)
  (λs A B row hs z u=>by
   obtain⟨c,hc,y,Z⟩:=hs;exact⟨c,X c s A B row hc z<|b0 (B:=B) u,(Zlt z (λr e=>(u r e).2) y rfl).trans y,(Zlt z (λr e=>(u r e).2) Z rfl).trans Z⟩)
  ?_ ⟨b4,b6,b5⟩).mono ?_
 rintro pre x W ⟨hi,y,Z⟩ d6 a9;have d0:xz (xj w)+1<xz (xj W):=(ZhN.1 y).1;have hy:=run_yield (P:=P) (args:=M x) y (by rw[j];exact d5 x);rw[j]at hy;refine⟨fn,_,assign,body,hy,roundIn_of_wpIn c0<|Y _ x W _ ⟨_,run_beginRound y (by rw[j]),?_⟩⟩;have c7:(W.putObj (xz (xj w)+1)<|.loop {f .ready U with state:=.busy}).heap[xz (xj w)+1]?=J (.loop {f .ready U with state:=.busy}):=Zkd d0;have c1:(W.putObj (xz (xj w)+1)<|.loop {f .ready U with state:=.busy}).heap[xz<|xj w]?=J (.deferred<|J []):=(Ziq Z0).trans Z;have d8:Kp W<|W.putObj (xz (xj w)+1)<|.loop {f .ready U with state:=.busy}:=a4 _ _ _ _ Z0 y rfl rfl;refine wpIn_mono (a0 _ pre x _ (hI.putObj _ hi Z0 y rfl) ((b7 pre x).putObj (s:=()) _ d6 Z0 y rfl) a9) ?_
 have fin:∀(d:Option Code) (R:Z3),KeepsFrom (xz<|xj w) (W.putObj (xz (xj w)+1)<|.loop {f .ready U with state:=.busy}) R->
   (Instr.endRound (xz (xj w)+1) d).run P R=.ok (.bool d.isNone) (R.putObj (xz (xj w)+1)<|.loop<|f (if d.isNone then .ready else .done) d)/\
   R.heap[xz (xj w)+1]?=J (.loop {f .ready U with state:=.busy})/\
   (R.putObj (xz (xj w)+1)<|.loop<|f (if d.isNone then .ready else .done) d).heap[xz (xj w)+1]?=J (.loop<|f (if d.isNone then .ready else .done) d)/\
   (R.putObj (xz (xj w)+1)<|.loop<|f (if d.isNone then .ready else .done) d).heap[xz<|xj w]?=J (.deferred<|J []):=λd R q=>by
  have k:=q.same _ _ Z0 c7 rfl;have:=run_endRound (P:=P) d k;rw[j]at this⊢;exact⟨this,by rw[j]at k;exact k,Zkd (ZhN.1 k).1,(Ziq Z0).trans<|q.same _ _ (ZhL _) c1 rfl⟩
 rintro e a3 R hp;cases e with
 |normal=>
  obtain⟨q,a8,G⟩:=hp;obtain⟨u,k,L,H⟩:=fin U R q;exact⟨_,_,u,.inl ⟨rfl,⟨hI.putObj _ G Z0 k rfl,L,H⟩,a5 (a5 d8 a8)<|a4 _ _ _ _ Z0 k rfl rfl⟩⟩
 |ret=>
  obtain⟨q,G⟩:=hp;obtain⟨u,k,L,H⟩:=fin (J .ret) R q;exact⟨_,_,u,.inr ⟨rfl,.ret,(X _).putObj _ G Z0 k rfl,L,H⟩⟩
 |exit id=>
  obtain⟨q,G⟩:=hp;obtain⟨u,k,L,H⟩:=fin (J<|.exit id) R q;exact⟨_,_,u,.inr ⟨rfl,.exit id,(X _).putObj _ G Z0 k rfl,L,H⟩⟩
 |goto t=>
  obtain⟨q,G⟩:=hp;obtain⟨u,k,L,H⟩:=fin (J<|.goto t) R q;exact⟨_,_,u,.inr ⟨rfl,.goto t,(X _).putObj _ G Z0 k rfl,L,H⟩⟩
 |panic ch=>exact hp.elim
 |outgrown=>exact hp.elim
 rintro e W2 ⟨⟨v,rfl⟩,(⟨xs,b8,hi,y,Z⟩|⟨pre,c,hi,y,Z⟩)⟩;exact⟨U,_,by have:=run_endLoop (P:=P) y (by rw[j];simp);rw[j]at this;exact this,a1 _ xs _ (ZhL _) (hS.putObj _ b8 Z0 y rfl) (hI.putObj _ hi Z0 y rfl)<|(Ziq Z0).trans Z⟩;exact⟨J c,_,by have:=run_endLoop (P:=P) y (by rw[j];simp);rw[j]at this;exact this,a2 _ c pre _ (ZhL _) ((X c).putObj _ hi Z0 y rfl)<|(Ziq Z0).trans Z⟩
end
def Z90{W:Z3}{G G':Z4}{l j:Z9}{y:Zb}(h:Rd W G (.sl<|l.map vu) y)(h':Rd W G' (.sl<|j.map vu) y):l=j:=by
 obtain⟨a,c,e⟩:=Rd.bu h;obtain⟨x,A,n⟩:=Rd.bu h';have C:I l=I j:=by rw[e]at n;simp at n;exact n.2.1
 apply Zk0;intro k;cases p:l[k]? with
 |none=>rw[ZjV]at p;rw[ZiM Z0]
 |some u=>
  have B:=(ZhH.1 p).1;obtain⟨r,g⟩:∃r,j[k]?=J r:=⟨_,ZhG Z0⟩;obtain⟨b,o,cap,w,t,_⟩:=JF h p;obtain⟨z,D,q,d,f,_⟩:=JF h' g;rw[w]at d;simp at d;obtain⟨⟨rfl,rfl⟩,_,_⟩:=d;rw[t]at f;cases f;exact g.symm
def Z8V{W W':Z3}{B:Z4}{b:Nat}{row:Option Nat}{l:Z9}{y:Zb}(h:Rd W (λc=>B c/\c<xz (xj W)/\c≠b) (.sl<|l.map vu) y)(j:W.grownBy W' row)(F:∀r,row=J r->∃o:Obj,W.heap[r]?=J o/\o.isCells=xw):
  Rd W' (λc=>B c/\c<xz (xj W')/\c≠b) (.sl<|l.map vu) y:=by
 generalize A:l.map vu=L at h⊢;cases h with
 |nil a cap f=>exact .nil a cap f
 |sl _ d o cap k vs p q g t w x=>
  refine .sl _ d o cap k vs p q ⟨g.1,ZhO g.2.1 j.size,g.2.2⟩ t (λi C=> ?_) (λi c f=> ?_);have f:=w i C;rw[<-f];refine Ziz (a:=⟨d,o+i,U⟩) (j.block d g.2.1 λe=> ?_);obtain⟨G,D,H⟩:=F d e.symm;unfold World.cell? at f;rw[D]at f;cases G<;>simp_all [Obj.isCells];have z:=x i c f;rw[<-A,yq,Zi8]at f;cases n:l[i]? with
  |none=>rw[n]at f;cases f
  |some u=>
   rw[n]at f;cases f;rw[TY z];exact .int _ _
def NowI.dq{B:Z4}{W W':Z3}{b:Nat}{g:Hp}{x:Z5}{row:Option Nat}(S:NowI B W b g x)(a:W.grownBy W' row)(f:∀r,row=J r->∃o:Obj,W.heap[r]?=J o/\o.isCells=xw):NowI B W' b g x:=
 ⟨S.le,(a.block b (Y1 S.nb) λe=>by obtain⟨o,d,k⟩:=f b e.symm;rw[S.nb]at d;cases d;cases k).trans S.nb,λj h=>Z8V (S.rd j h) a f⟩
def NowI.gh{B B':Z4}{W:Z3}{b:Nat}{g g':Hp}{x h:Z5}(S:NowI B W b g x)(a:NowI B' W b g' h):g'=g:=by
 have e:=S.nb.symm.trans a.nb;unfold Yn at e;simp at e;obtain⟨n,o,p,r,t,u,w,y,z,A⟩:=e;have q:∀j,j<5->Zu g' j=Zu g j:=λj f=>by
  have d:=S.rd j f;have l:=a.rd j f;have k:x j=h j:=by
   have:j=0\/j=1\/j=2\/j=3\/j=4:=Z0;obtain rfl|rfl|rfl|rfl|rfl:=this<;>assumption
  rw[k]at d;exact Z90 l d
 have C:=q 0 Z0;have D:=q 1 Z0;have F:=q 2 Z0;have G:=q 3 Z0;have H:=q 4 Z0;cases g;cases g';simp[Zu]at*;simp_all
def InBox(B:Z4)(b:Nat)(p:Pts)(W:Z3):Prop:=∃g x,NowI B W b g x/\g.ok/\Rt g p
def InBox.dq{B:Z4}{W W':Z3}{b:Nat}{p:Pts}{row:Option Nat}(S:InBox B b p W)(h:W.grownBy W' row)(j:∀r,row=J r->∃o:Obj,W.heap[r]?=J o/\o.isCells=xw):InBox B b p W':=by
 obtain⟨g,x,a,d,f⟩:=S;exact⟨g,x,a.dq h j,d,f⟩
def InBox.H{B B':Z4}{W:Z3}{b:Nat}{p f:Pts}(S:InBox B b p W)(h:InBox B' b f W):f.H=p.H:=by
 obtain⟨g,x,j,o,l⟩:=S;obtain⟨n,q,a,k,d⟩:=h;have:=j.gh a;subst this;exact Tiles.ub (l.am 1 Z0)<|d.am 1 Z0
structure KpN (B:Nat->Prop) (b kb:Nat) (A C:World):Prop where
 size:xz (xj A)<=xz (xj C)
 same:∀(c:Nat) (o:Obj),A.heap[c]?=J o->o.isCells=xk->c≠b->c≠kb->C.heap[c]?=J o
 H:∀p,InBox B b p A->∃q r,InBox B b q C/\q.H=p.H++r
theorem KpN.trans{B:Z4}{b kb:Nat}{X Y Z:Z3}(h:KpN B b kb X Y)(k:KpN B b kb Y Z):KpN B b kb X Z:=
 ⟨Zif h.size k.size,λc o d a f g=>k.same c o (h.same c o d a f g) a f g,λp j=>by
  obtain⟨q,r,d,a⟩:=h.H p j;obtain⟨s,t,k1,l⟩:=k.H q d;exact⟨s,r++t,k1,by rw[l,a,Ziw]⟩⟩
theorem KpN.put{B:Z4}{b kb:Nat}{W:Z3}{l:Nat}{o:Obj}(j:Obj)(g:W.heap[l]?=J o)(h:o.isCells=xw):KpN B b kb W<|W.putObj l j:=by
 have f:=ZkA W l j;have n:∀r,J l=J r->∃o:Obj,W.heap[r]?=J o/\o.isCells=xw:=λr e=>by cases e;exact⟨o,g,h⟩
 refine⟨f.size,λc q a d _ _=>(Ziq<|λe=> ?_).trans a,λp k=>⟨p,[],k.dq f n,Z1⟩⟩;subst e;rw[g]at a;cases a;rw[h]at d;cases d
def Z5K{ws:Z9}{l:Zk}(t:Tiles ws xw 0 l){o:Ob}(a:o∈l){i:Int}(g:o.ab<=i)(h2:i<=o.ab+o.size):Vn l i=(decide (o.ab<i)&&decide (i<=o.ab+o.Y)):=by
 rw[ZlD,Ji];simp only[ZhJ,Zid];constructor;rintro⟨x,d,k1,f⟩;have j:=Yz.1 (t.ba x d).1.shape;obtain e|e|e:=t.apart x d o a;subst e;exact⟨k1,f⟩;omega;omega;exactλh=>⟨o,a,h⟩
def BA(x:Nat×Bool):Array Value:=#[.int .i64 (x.1:Nat),.bool x.2]
def EI(B:Z4)(b:Nat)(pre:List<|Nat×Bool)(x:Nat×Bool)(W:Z3):Prop:=∃p,InBox B b p W/\x=(I pre,Vn p.H<|I pre)
def SN(B:Z4)(b:Nat)(xs:List<|Nat×Bool)(W:Z3):Prop:=∃g x,NowI B W b g x/\I g.H<=I xs
structure KnI (B:Nat->Prop) (b bk:Nat) (q:Pts) (W:World):Prop where
 bx:W.heap[bk]?=J (.cells #[.pointer<|J ⟨b,0,U⟩] 154 (0,0))
 nj:InBox B b q W
def KnI.grown{B:Z4}{b bk:Nat}{q:Pts}{W W':Z3}(h:KnI B b bk q W)(a:W.grownBy W' U):KnI B b bk q W':=
 ⟨(a.block _ (Y1 h.bx) Z1).trans h.bx,h.nj.dq a<|λr e=>by cases e⟩
end Vm
end
section
namespace Vm
open Go Go.Proofs Go.RowKit Go.Shelf
def Z5R(n:Nat){w:Z3}{B:Z4}{b bk kb:Nat}{p0:Pts}(hI:KnI B b bk p0 w)(a7:bk≠b)(K:bk≠kb)(hb:b<xz (xj w))(f5:kb<xz (xj w)):
  EN Fence.wide n xP 81 #[.pointer<|J ⟨bk,0,U⟩] BA (KpN B b kb) (EI B b) (SN B b) 1000001 (λ_ _=>True) w:=by
 intro l h Jx W hW _ hJ f3 hY h0;refine callsIn_of_wp Fj rfl trivial ?_ rfl;simp only[Tryz.ntmps81,Zja,ZiW,ZiQ,Nat.reduceAdd,Nat.reduceSub,Zjx,Zjy,Zk1,ZjF,ZiB,Zj5];have d9:=ZhK<|hI.grown<|Te hW U;have f2:=hW.size;have e0:=ZhK h0;have e7:∀ {A:Z3},xz (xj w)<=xz (xj A)->xz (xj A)≠b/\xz (xj A)≠kb:=λh=>⟨Z0,Z0⟩;clear h0;gi_wp2
 gi_loopw [3] (λp wr=>∃(a:Nat),p=.int .i64 a/\Hid (∃(pre:List<|Nat×Bool) (q:Pts) (n:Nat),h pre wr/\KnI B b bk q wr/\xz (xj W)<=xz (xj wr)/\n<=I q.H/\a=WU (q.H.take n)/\I pre=a))
  (λp _=>1000001- (intOf p).toNat)
 case atStart=>exact⟨0,rfl,ZhK ⟨[],p0,0,e0.out,d9.out,ZhL _,Z0,rfl,rfl⟩⟩
 case round=>
  obtain⟨a,rfl,HI⟩:=hrel;obtain⟨pre,q,n1,X,Y,b8,e8,a6,b7⟩:=HI.out;obtain⟨g,x,S,b2,r⟩:=Y.nj;obtain⟨sa,sc,a4⟩:=Rd.bu<|S.rd 0 Z0;rw[Zia,show I (Zu g 0)=(I g.H) from rfl]at a4;have N:=S.nb;unfold Yn at N;rw[a4]at N;have y0:wr.cell? ⟨bk,0,U⟩=J (.pointer<|J ⟨b,0,U⟩):=by rw[ZhQ _ _ _ _ _ _ Y.bx];rfl
  have yb:∀j,wr.cell? ⟨b,j,U⟩=(#[.int .u64 g.base,.int .i64 g.cap,.int .i64 g.to,.bool g.M,.int .i64 g.Z,.slice sa (I g.H) sc,x 1,x 2,x 3,x 4]:Array Value)[j]? :=λj=>ZhQ _ _ _ _ _ _ N;have t1:=r.am 1 Z0;simp only[VH,Pts.mf]at t1;have b5:=b2.H;have d5:=t1.sum<|ZiZ _;by_cases f6:a<I g.H
  .have b6:((a:Int)< (I g.H:Int))=True:=Zk3 Z0;obtain⟨o,ho⟩:∃o,q.H[n1]?=J o:=by
    refine⟨_,ZhG<|Nat.lt_of_le_of_ne e8 λe=> ?_⟩;rw[e,Zjm]at a6;omega
   have a0:=t1.place ho;rw[Zit,<-a6]at a0;have a1:=ZhR ho;have a3:=(t1.ba o a1).1;have c0:=Yz.1 a3.shape;have M:=t1.cq o a1;have L:=a3.an;obtain⟨u,hu,P⟩:=a3.word;rw[M,ZhP Z1]at P;replace P:=P.2.1;rw[a0,Zi1]at hu;have d6:=b2.ex u<|ZhR hu;obtain⟨gb,go,cap,a5,e2,e3⟩:=JF (S.rd 0 Z0) hu;rw[a4]at a5;rw[show I (Zu g 0)=(I g.H) from rfl]at a5;simp only[Value.slice.injEq,true_and]at a5;obtain⟨rfl,rfl⟩:=a5;have O:=QJ d6;rw[P]at O;obtain⟨m,hm⟩:∃m:Nat,o.size=m:=⟨o.size.toNat,Z0⟩;obtain⟨pt,a8⟩:∃pt:Nat,o.Y=pt:=⟨o.Y.toNat,Z0⟩;rw[hm]at O L c0;rw[a8]at O c0;have e1:=ZhK O;have HO:=ZhK<|And.intro a1<|And.intro a0<|And.intro hm<|And.intro a8<|And.intro t1<|And.intro ho<|And.intro b7 b8;have b0:=ZhK L;have b1:=ZhK<|And.intro X Y;have d8:=ZhK b5;have q1:IntKind.i64.wrap ((m:Int)+1)=((m+1:Nat):Int):=ZgR;clear O N t1 a1 a0 P hu d6 a4 e3 hm a8 L ho a3 M a6 d5 S r X Y b7 b8 b5;gi_wp2
   refine⟨trivial,λh=>ZgY,(ZjQ.2<|e1.out _).mono ?_⟩;rintro e w1 ⟨rfl,b3⟩;have a9:=ZhK b3;clear b3;gi_wp2
   have f8:=a9.out.size;have Z:wr.grownBy (w1.alloc<|.cells #[.int .i64 m,.int .i64 pt] 34) U:=Si (Te a9.out U)<|Zj2 _ _ _;have HA:=ZhK<|And.intro (hJ _ _ _ _ b1.out.1 Z<|λr e=>by cases e)<|And.intro (b1.out.2.grown Z)<|And.intro (Zi7 w1<|.cells #[.int .i64 m,.int .i64 pt] 34) Z.size;have hT:xz (xj W)<=xz (xj w1):=by have:=HO.out.2.2.2.2.2.2.2;omega
   have C:=e7 (A:=w1) Z0;have f4:xz (xj W)<=xz (xj<|w1.alloc<|.cells #[.int .i64 m,.int .i64 pt] 34):=ZgJ;clear Z;generalize f7:w1.alloc (.cells #[.int .i64 m,.int .i64 pt] 34)=w2 at*;have d7:=b0.out;have f1:=d8.out;gi_loopw [30] (λiv wi=>∃i:Nat,iv=.int .i64 i/\Hid (∃(f:List<|Nat×Bool) (Q:Pts) (r':Zk),h f wi/\KnI B b bk Q wi/\xz (xj w2)<=xz (xj wi)/\Q.H=q.H++r'/\I f=a+i/\i<=m+1/\wi.heap[xz<|xj w1]?=J (.cells #[.int .i64 m,.int .i64 pt] 34 (0,0)))) (λiv _=>m+1- (intOf iv).toNat)
   case atStart=>exact⟨0,rfl,ZhK ⟨pre,q,[],HA.out.1,HA.out.2.1,ZhL _,Z1,by have:=HO.out.2.2.2.2.2.2.1;omega,Z0,HA.out.2.2.1⟩⟩
   case round=>
    obtain⟨i,rfl,HJ⟩:=hrel;obtain⟨f,Q,r',H,z,b9,F,a2,e4,D⟩:=HJ.out;have d0:wr.cell? ⟨xz<|xj w1,0,U⟩=J (.int .i64 m):=by rw[ZhQ _ _ _ _ _ _ D];rfl
    have d1:wr.cell? ⟨xz<|xj w1,1,U⟩=J (.int .i64 pt):=by rw[ZhQ _ _ _ _ _ _ D];rfl
    by_cases e6:i=m+1
    .subst e6;have e5:(((m+1:Nat):Int)< (m:Int)+1)=False:=Zjv Z0;have q2:IntKind.i64.wrap ((a:Int)+((m:Int)+1))=((a+(m+1):Nat):Int):=ZgR;clear z D H;gi_wp2
     obtain⟨k1,k2,k3,k4,k5,k6,k7⟩:=HO.out;obtain⟨f,Q,r',H,z,b9,F,a2,e4,D⟩:=HJ.out;have b4:n1+1<=I q.H:=by have:=(ZhH.1 k6).1;omega
     refine⟨⟨a+(m+1),Z1,ZhK ⟨f,Q,n1+1,H,z,Z0,by rw[F,Zin];omega,?_,Z0⟩⟩,by simp[intOf];omega⟩;rw[F,List.take_append_of_le_length b4,Zbg k6,k3];have:=k5.place k6;omega
    .have e5:((i:Int)< (m:Int)+1)=True:=Zk3 Z0;obtain⟨k1,k2,k3,k4,k5,k6,k7,k8⟩:=HO.out;have hx:EI B b f (a+i,Vn Q.H ((a+i:Nat):Int)) wr:=⟨Q,z.nj,by rw[a2]⟩;obtain⟨fn,f0,assign,e9,hy,hR⟩:=hY f _ wr H hx Z0;have hq:Vn Q.H ((a+i:Nat):Int)=(decide (0<i)&&decide (i<=pt)):=by
      obtain⟨g',x',_,_,r2⟩:=z.nj;have t2:=r2.am 1 Z0;simp only[VH,Pts.mf]at t2;rw[Z5K t2 (o:=o) (by rw[F];exact Zj8 _ k1) Z0 Z0,k2,k4];congr 1;exact decide_eq_decide.2 Z0;exact decide_eq_decide.2 Z0
     unfold BA at hy;simp only[hq]at hy;have HQ:=ZhK<|And.intro hq<|And.intro hR<|And.intro b9<|And.intro F<|And.intro a2<|And.intro D z;have q2:IntKind.i64.wrap ((a:Int)+(i:Int))=((a+i:Nat):Int):=ZgR;have q3:IntKind.i64.wrap ((i:Int)+1)=((i+1:Nat):Int):=ZgR;clear hx H z hq hR D k1 k2 k3 k4 k5 k6 k7 k8 F a2;have h3:(i=0/\(0<i)=False)\/(((0:Int)< (i:Int))=True/\(0<i)=True/\((i:Int)<=(pt:Int))=True/\(i<=pt)=True)\/(((0:Int)< (i:Int))=True/\(0<i)=True/\((i:Int)<=(pt:Int))=False/\(i<=pt)=False):=by
      by_cases h0:i=0;exact .inl ⟨h0,Zjv Z0⟩;by_cases h1:i<=pt;exact .inr<|.inl ⟨Zk3 Z0,Zk3 Z0,Zk3 Z0,Zk3 h1⟩;exact .inr<|.inr ⟨Zk3 Z0,Zk3 Z0,Zjv Z0,Zjv h1⟩
     obtain⟨h0,h1⟩|⟨h0,h1,h2,h3⟩|⟨h0,h1,h2,h3⟩:=h3
     .subst h0;simp only[h1,ZlW,Zlg,ZlX,Zkz,ZkN,ZkO,Zjn,ZlH]at hy;gi_wp2
      refine⟨λh=>ZgY,HQ.out.2.1.mono ?_⟩;rintro e W3 (⟨rfl,t,y⟩|⟨rfl,k⟩)
      .have d:=ZhK<|And.intro t y;clear t y;gi_wp2
       obtain⟨c1,c2,c3,c4,c5,c6,c7⟩:=HQ.out;obtain⟨R,T,i1,i2⟩:=d.out.2.H Q c7.nj;refine⟨⟨1,Z1,ZhK ⟨f++[_],R,r'++T,d.out.1,⟨d.out.2.same _ _ c7.bx rfl a7 K,i1⟩,Zif c3 d.out.2.size,by rw[i2,c4,Ziw],by simp<;>omega,Z0,d.out.2.same _ _ c6 rfl C.1 C.2⟩⟩,by simp[intOf]<;>omega⟩
      .have G:=ZhK k;clear k;gi_wp2
       refine Zie (results_none rfl _ _ _) rfl ?_;exact⟨⟨_,rfl⟩,.inr ⟨_,G.out⟩⟩
     .simp only[h1,h3,ZlW,Zlg,ZlX,Zkz,ZkN,ZkO,Zjn,ZlH]at hy;gi_wp2
      refine⟨λh=>ZgY,HQ.out.2.1.mono ?_⟩;rintro e W3 (⟨rfl,t,y⟩|⟨rfl,k⟩)
      .have d:=ZhK<|And.intro t y;clear t y;gi_wp2
       obtain⟨c1,c2,c3,c4,c5,c6,c7⟩:=HQ.out;obtain⟨R,T,i1,i2⟩:=d.out.2.H Q c7.nj;refine⟨⟨i+1,Z1,ZhK ⟨f++[_],R,r'++T,d.out.1,⟨d.out.2.same _ _ c7.bx rfl a7 K,i1⟩,Zif c3 d.out.2.size,by rw[i2,c4,Ziw],by simp<;>omega,Z0,d.out.2.same _ _ c6 rfl C.1 C.2⟩⟩,by simp[intOf];omega⟩
      .have G:=ZhK k;clear k;gi_wp2
       refine Zie (results_none rfl _ _ _) rfl ?_;exact⟨⟨_,rfl⟩,.inr ⟨_,G.out⟩⟩
     .simp only[h1,h3,ZlW,Zlg,ZlX,Zkz,ZkN,ZkO,Zjn,ZlH]at hy;gi_wp2
      refine⟨λh=>ZgY,HQ.out.2.1.mono ?_⟩;rintro e W3 (⟨rfl,t,y⟩|⟨rfl,k⟩)
      .have d:=ZhK<|And.intro t y;clear t y;gi_wp2
       obtain⟨c1,c2,c3,c4,c5,c6,c7⟩:=HQ.out;obtain⟨R,T,i1,i2⟩:=d.out.2.H Q c7.nj;refine⟨⟨i+1,Z1,ZhK ⟨f++[_],R,r'++T,d.out.1,⟨d.out.2.same _ _ c7.bx rfl a7 K,i1⟩,Zif c3 d.out.2.size,by rw[i2,c4,Ziw],by simp<;>omega,Z0,d.out.2.same _ _ c6 rfl C.1 C.2⟩⟩,by simp[intOf];omega⟩
      .have G:=ZhK k;clear k;gi_wp2
       refine Zie (results_none rfl _ _ _) rfl ?_;exact⟨⟨_,rfl⟩,.inr ⟨_,G.out⟩⟩
  .have b6:((a:Int)< (I g.H:Int))=False:=Zjv Z0;have HE:Hid<|h pre wr/\SN B b pre wr:=ZhK ⟨X,g,x,S,Z0⟩;clear N X S;gi_wp2
   go_end0
   exact⟨⟨_,rfl⟩,.inl ⟨pre,HE.out.2,HE.out.1⟩⟩
end Vm
end
section
namespace Vm
open Go Go.Proofs Go.RowKit
def B7{g:Hp}{x:Z5}(h:∀j,j<5->∃a q,x j=.slice a (I<|Zu g j) q):∃(a:Nat->Option Addr) (q:Zj),Yn g x=#[.int .u64 g.base,.int .i64 g.cap,.int .i64 g.to,.bool g.M,.int .i64 g.Z,.slice (a 0) (I<|Zu g 0)<|q 0,.slice (a 1) (I<|Zu g 1)<|q 1,.slice (a 2) (I<|Zu g 2)<|q 2,.slice (a 3) (I<|Zu g 3)<|q 3,.slice (a 4) (I<|Zu g 4)<|q 4]/\∀j,j<5->x j=.slice (a j) (I<|Zu g j) (q j):=by
 have:∀j,∃p:Option Addr×Nat,j<5->x j=.slice p.1 (I<|Zu g j) p.2:=λj=>by
  by_cases d:j<5;obtain⟨a,q,e⟩:=h j d;exact⟨(a,q),λ_=>e⟩;exact⟨(U,0),λh=>absurd h d⟩
 obtain⟨f,e⟩:=Zk6 this;exact⟨λj=>(f j).1,λj=>(f j).2,by simp[Yn,e],e⟩
def Z12(w:Z3)(G:Z4)(hG:∀b,G b->b<xz (xj w))(h:Hp)(hh:h.ok)(Q:Z5)(hs:∀j,j<5->Rd w G (.sl<|(Zu h j).map vu) (Q j)){p:Pts}(r:Rt h p)(hc:h.M=xw):
  Calls xP 17 #[ZA h Q] w (S8 w (Ys h,0)):=by
 have hR:∀W,Below (xz<|xj w) w W->Calls xP 8 #[ZA h Q] W λe w'=>e=.returned (.bool<|Yk h)/\Below (xz<|xj W) W w':=λW B=>
  JJ (w:=W) (G:=G) (x:=Q) hh (λb X=>ZhO (hG b X) B.size) (λj n=>(hs j n).keep (λb X=>B.block b<|hG b X) λ_ q=>q)
 rw[r.right]at hR;unfold ZA at hR;rw[hc]at hR;have HR:=ZhK hR;have HS:=ZhK hs;have HH:=ZhK hh;have d7:=ZhK r;have M:=ZhK hc;have h7:h.to=0\/h.to=1:=by have:=XH.1 r.bc;exact this.2.2.2.2.1
 have l3:=Zx (1-h.to) Z0 Z0;clear hR hs hh r h7;unfold ZA;rw[hc];clear hc;go_enter zI,Tryz.ntmps17;go_wp2;refine Zae 0 (λa W=>∃(c k:Nat) (x:Z5),a.defers=[]/\a.tmps.size=72/\a.tmps.getD 2 xy=.pointer (J ⟨xz (xj w)+1,0,U⟩)/\a.tmps.getD 4 xy=.pointer (J ⟨c,0,U⟩)/\a.tmps.getD 5 xy=.int .i64 k/\k<=xq h.E/\FlI w W c (VS (WE h) k) x) (λa _=>xq h.E- (intOf<|a.tmps.getD 5 xy).toNat) rfl ?_ ?_
 .rintro a W ⟨c,k,x,hd,d5,h2,h4,h5,hk,HI⟩;obtain⟨t,d⟩:=a;simp only at hd d5 h2 h4 h5;subst hd;obtain⟨u,hu⟩:∃u:Z5,∀i,t.getD i xy=u i:=⟨λi=>t.getD i xy,λ_=>rfl⟩
  have et:t=#[u 0,u 1,u 2,u 3,u 4,u 5,u 6,u 7,u 8,u 9,u 10,u 11,u 12,u 13,u 14,u 15,u 16,u 17,u 18,u 19,u 20,u 21,u 22,u 23,u 24,u 25,u 26,u 27,u 28,u 29,u 30,u 31,u 32,u 33,u 34,u 35,u 36,u 37,u 38,u 39,u 40,u 41,u 42,u 43,u 44,u 45,u 46,u 47,u 48,u 49,u 50,u 51,u 52,u 53,u 54,u 55,u 56,u 57,u 58,u 59,u 60,u 61,u 62,u 63,u 64,u 65,u 66,u 67,u 68,u 69,u 70,u 71]:=(Z2m d5).trans (by
   have A:(λi=>t.getD i xy)=u:=funext hu;rw[A];rfl)
  rw[hu]at h2 h4 h5;rw[h2,h4,h5]at et;clear hu d5 h2 h4 h5;subst et;have D:=ZhK HI;clear HI;by_cases b9:k<xq h.E
  .have h7:h.to=0\/h.to=1:=by have:=XH.1 d7.out.bc;exact this.2.2.2.2.1
   obtain⟨q,I⟩:=yt d7.out M.out k Z0;obtain⟨⟨T,H,q',f⟩,_⟩:=H8 d7.out b9 I;have g5:=AQ HH.out h7 k;have a6:(VS (WE h) k).E[k]?=J h.E[k]:=by rw[I.rest k<|ZhL _];exact ZhG b9
   have d0:VS (WE h) (k+1)= {H with E:=H.E.set k T}:=by
    show Q5 (VS (WE h) k) k=_;unfold Q5;rw[a6,Zih,f.fwd]
   have Y:(VS (WE h) k).E.length=xq h.E:=I.len;have er:H.E=(VS (WE h) k).E:=f.ext.E;have f2:H.ok/\ZB T:=by have:=yA g5<|HH.out.df _<|Zi5 b9;rw[f.fwd]at this;exact this
   have f3:=f.fwd;have k5:=HH.out.df _<|Zi5 b9;clear I f;generalize VS (WE h) k=g at*;generalize h.E[k]=u0 at*;obtain⟨gb,go,cap,e9,g7,i6⟩:=JF (D.out.rd 4 Z0) a6;rw[show xq (Zu g 4)=(xq g.E) from rfl,Y]at e9;have hF:∀W',Below (xz<|xj W) W W'->Calls xP 39 #[.agg #[.int .u64 g.base,.int .i64 g.cap,.int .i64 g.to,.bool g.M,.int .i64 g.Z,x 0,x 1,x 2,x 3,.slice (J ⟨gb,go,U⟩) (xq h.E) cap],.int .u64 u0] W' (FwdPost W' (T,H,0)):=λW' B=>by
    have:=Ew W' (λb=>xz (xj w)+2<=b/\b<xz (xj W)/\b≠c) (λb X=>ZhO X.2.1 B.size) g g5 x (λj n=>(D.out.rd j n).keep (λb X=>B.block b X.2.1) λ_ q=>q) u0 k5;rw[f3]at this;unfold ZA at this;rw[e9]at this;exact this
   have HF:=ZhK hF;have R:=D.out.nb;unfold Yn at R;rw[e9]at R;have yc:∀j,W.cell? ⟨c,j,U⟩=(#[.int .u64 g.base,.int .i64 g.cap,.int .i64 g.to,.bool g.M,.int .i64 g.Z,x 0,x 1,x 2,x 3,.slice (J ⟨gb,go,U⟩) (xq h.E) cap]:Array Value)[j]? :=λj=>ZhQ _ _ _ _ _ _ R;have g8:=Y1 R;have k7:((k:Int)< (xq h.E:Int))=True:=Zk3 Z0;have HM:=ZhK<|And.intro d0<|And.intro er<|And.intro f2<|And.intro i6<|And.intro R Y;clear hF R Y e9 d0 er f2 a6 f3 g5 i6;go_upto_region 8 with fail;refine OJ [39,40,41,42,43,44,45,38,46,47,48,7,6,8] (FrC W (frE c g (λj=>if j=4 then .slice (J ⟨gb,go,U⟩) (xq h.E) cap else x j) k (.pointer<|J ⟨gb,go+k,U⟩) u0) T H) follows Z2 ⟨u,ZgU,?_⟩ ?_ ?_;exact⟨(ZhY _ _).drew,λi _ _ _ h=>ZgY,λh=>ZgY,λh=>ZgY,λh=>ZgY⟩
   .intro L i o v W1 ho hi n C;have N:=ZhK C;have hz:xz (xj W)<=xz (xj W1):=C.b.size;have yd:∀j,W1.cell? ⟨c,j,U⟩=(#[.int .u64 g.base,.int .i64 g.cap,.int .i64 g.to,.bool g.M,.int .i64 g.Z,x 0,x 1,x 2,x 3,.slice (J ⟨gb,go,U⟩) (xq h.E) cap]:Array Value)[j]? :=λj=>(C.b.cell (p:=⟨c,j,U⟩) g8).trans<|yc j;have j4:W1.cell? ⟨gb,go+k,U⟩=J (.int .u64 u0):=(C.b.cell (p:=⟨gb,go+k,U⟩) HM.out.2.2.2.1.2.1).trans g7;clear C;have k9:i<15:=(ZhN.1 ho).1;simp only[Tq,Qv,Zii,Zj9,ZjG,Zlk,ZjJ,ZkE,Zkf];have:i=0\/i=1\/i=2\/i=3\/i=4\/i=5\/i=6\/i=7\/i=8\/i=9\/i=10\/i=11\/i=12\/i=13\/i=14:=Z0;obtain rfl|rfl|rfl|rfl|rfl|rfl|rfl|rfl|rfl|rfl|rfl|rfl|rfl|rfl|rfl:=this<;>cases ho
    .go_wp2;try simp only[QN]
     exact⟨_,rfl,N.out.pe 0 Z0 rfl⟩
    .go_wp2;try simp only[QN]
     exact⟨_,rfl,N.out.pe 1 Z0 rfl⟩
    .have e1:v 40=.pointer (J ⟨c,9,U⟩):=N.out.e 1 Z0<|n 1 ZgV;go_wp2;try simp only[QN]
     exact⟨_,by rw[<-e1];rfl,N.out.pe 2 Z0 rfl⟩
    .go_wp2;try simp only[QN]
     exact⟨_,rfl,N.out.pe 3 Z0 rfl⟩
    .have e2:v 41=.slice (J ⟨gb,go,U⟩) (xq h.E) cap:=N.out.e 2 Z0<|n 2 ZgV;have e3:v 42=.int .i64 k:=N.out.e 3 Z0<|n 3 ZgV;go_wp2;try simp only[QN]
     exact⟨_,by rw[<-e2,<-e3];rfl,N.out.pe 4 Z0 rfl⟩
    .have e4:v 43=.pointer (J ⟨gb,go+k,U⟩):=N.out.e 4 Z0<|n 4 ZgV;go_wp2;try simp only[QN]
     exact⟨_,by rw[<-e4];rfl,N.out.pe 5 Z0 rfl⟩
    .have A:v 39=.agg #[.int .u64 g.base,.int .i64 g.cap,.int .i64 g.to,.bool g.M,.int .i64 g.Z,x 0,x 1,x 2,x 3,.slice (J ⟨gb,go,U⟩) (xq h.E) cap]:=N.out.e 0 Z0<|n 0 ZgV;have e5:v 44=.int .u64 u0:=N.out.e 5 Z0<|n 5 ZgV;go_wp2_with (go_at_call 39;refine(HF.out _ N.out.b).mono ?_;rintro e w9 ⟨x9,rfl,b7,j0⟩;have b1:=ZhK<|And.intro b7 j0;clear b7 j0)
     try simp only[QN]
     exact⟨_,by rw[<-A,<-e5];rfl,N.out.call b1.out.1 b1.out.2⟩
    .obtain⟨x9,A,o9⟩:=N.out.t 6 (.inl rfl)<|n 6 ZgV;have A:v 45=KQ T H x9:=A;have O9:=ZhK o9;clear o9;go_wp2;try simp only[QN]
     exact⟨_,by rw[<-A];rfl,N.out.pt O9.out⟩
    iterate 3
     focus
      obtain⟨x9,A,o9⟩:=N.out.t 7 (.inr rfl)<|n 7 ZgV;have A:v 38=.tuple #[.int .u64 T,.agg<|Yn H x9,.int .i64 0]:=A;have O9:=ZhK o9;clear o9;go_wp2;try simp only[QN]
      first
      |exact⟨_,by rw[<-A];rfl,N.out.pf 8 (.inl rfl) rfl⟩
      |exact⟨_,by rw[<-A];rfl,N.out.pa O9.out⟩
      |exact⟨_,by rw[<-A];rfl,N.out.pz 10 (.inl rfl) rfl⟩
    .go_wp2;try simp only[QN]
     exact⟨_,rfl,N.out.alloc hi⟩
    .have A:v 46=.int .u64 T:=N.out.f 8 (.inl rfl)<|n 8 ZgV;go_wp2;try simp only[QN]
     exact⟨_,by rw[<-A];rfl,N.out.pf 12 (.inr rfl) rfl⟩
    .obtain⟨c7,e7,d9,j9,O⟩:=N.out.new<|n 11 ZgV;obtain⟨x9,i2,o9⟩:=N.out.a<|n 9 ZgV;have O:=O hi;have y4:∀j,W1.cell? ⟨c7,j,U⟩=ZL[j]? :=λj=>ZhQ _ _ _ _ _ _ O;unfold ZL at y4;have y5:∀j,W1.frozen? ⟨c7,j,U⟩=xw:=λj=>Yh O;have H3:=ZhK O;obtain⟨a,q,K,_⟩:=B7 λj n=>Xl<|o9.own.own j n;rw[K]at i2;have d6:=ZhK<|And.intro K o9;clear O o9 K;go_wp2;try simp only[QN]
     exact⟨_,by rw[<-e7,<-i2],N.out.store e7 d6.out.2 (n 11 ZgV) hi H3.out (λb B=>Vq B) Zhl (by rw[d6.out.1];exact LH H3.out)<|WP (ZhY _ _) d9⟩
    .have A:v 48=.int .i64 0:=N.out.z 10 (.inl rfl)<|n 10 ZgV;go_wp2;try simp only[QN]
     exact⟨_,by rw[<-A];rfl,N.out.pz 14 (.inr rfl) rfl⟩
   .intro L v W1 hL C;have e6:v 6=.int .u64 T:=C.f 12 (.inr rfl)<|hL 12 ZgV;have e8:v 8=.int .i64 0:=C.z 14 (.inr rfl)<|hL 14 ZgV;obtain⟨c7,x9,e7,g6,o9⟩:=C.put<|hL 13 ZgV;have a7:=C.b;have d5:=a7.size;have b8:xq H.E=xq h.E:=by rw[HM.out.2.1,HM.out.2.2.2.2.2]
    obtain⟨a,q,K,f4⟩:=B7 λj n=>Xl<|o9.own.own j n;have f4:=f4 4 Z0;have i5:xq (Zu H 4)=xq h.E:=b8;obtain⟨g4,i4⟩:=JA (o9.own.own 4 Z0) f4 Z0;rw[i4,i5]at f4 K;rw[K]at g6;have d8:=(a7.block c g8).trans HM.out.2.2.2.2.1;have y7:=λj=>ZhQ _ _ j _ _ _ g6;have yd:=λj=>ZhQ _ _ j _ _ _ d8;have fd:∀j,W1.frozen? ⟨c,j,U⟩=xw:=λj=>Yh d8;have HO:=ZhK<|And.intro o9.own<|And.intro a7<|And.intro K<|And.intro f4<|And.intro b8 d8;have i4:xz (xj W)<=g4/\g4<xz (xj W1):=(o9.own.own 4 Z0).lt g4 (by rw[f4];rfl);clear C o9 a7 K f4 b8 g6 d8 hL;simp only[Tq,Qv,Zii,Zj9,ZjG,Zlk,ZjJ,ZkE,Zkf];go_upto_region 12 with fail;obtain⟨W2,a2⟩:∃W2,W2=Tr W1 c (.int .u64 H.base) (.int .i64 H.cap) (.int .i64 H.to) (.bool H.M) (.int .i64 H.Z) (.slice (a 0) (xq<|Zu H 0)<|q 0) (.slice (a 1) (xq<|Zu H 1)<|q 1) (.slice (a 2) (xq<|Zu H 2)<|q 2) (.slice (a 3) (xq<|Zu H 3)<|q 3) (.slice (J ⟨g4,0,U⟩) (xq h.E)<|q 4):=⟨_,rfl⟩;unfold Tr at a2;rw[<-a2];have b6:W2.heap[c]?=J (.cells (Yn H x9) 30 (0,0)):=by rw[HO.out.2.2.1,a2];exact Oq HO.out.2.2.2.2.2
    have c0:∀b,b≠c->W2.heap[b]?=W1.heap[b]? :=λb B=>by rw[a2];exact Vq B
    have h8:xz (xj W2)=xz (xj W1):=by rw[a2];simp[World.setCell]
    have a8:Below (xz<|xj w) W1 W2:=by rw[a2];exact WP (ZhY _ _) (by have:=D.out.le;omega)
    clear a2;have P:HOwn (xz<|xj W) W2 H x9:=⟨λj n=>Xm (HO.out.1.own j n) λb B=>c0 b (by have:=((HO.out.1.own j n).lt b B).1;omega),HO.out.1.apart⟩;have a4:=P.own 4 Z0;rw[HO.out.2.2.2.1,show xq (Zu H 4)=(xq h.E) from HO.out.2.2.2.2.1]at a4;have y2:=λj=>ZhQ _ _ j _ _ _ b6;rw[HO.out.2.2.1]at y2;obtain⟨z0,j3⟩:∃z0,H.E[k]?=J z0:=⟨_,ZhG (by rw[HO.out.2.2.2.2.1];exact b9)⟩;have ec:W2.cell? ⟨g4,k,U⟩=J (.int .u64 z0):=by
     rw[a4.cellAt k Z0];simp[Yd,Zu,j3]
    have ef:W2.frozen? ⟨g4,k,U⟩=xw:=a4.frozenAt k;have wk:=Zx ((k:Int)+1) (by have:=HH.out.E;omega) (by have:=HH.out.E;omega);have HQ:=ZhK<|And.intro b6<|And.intro c0<|And.intro h8<|And.intro a8<|And.intro P a4;clear b6 c0 h8 a8 P a4 y7 yd fd j3;go_wp2;go_step3
    simp only[Exit.then,Exit.inBlock];refine⟨rfl,⟨c,k+1,x9,rfl,rfl,rfl,rfl,?_,Z0,?_⟩,?_⟩;show Value.int .i64 ((k:Int)+1)=_;congr 1;rw[HM.out.1];obtain⟨b6,c0,h8,a8,P,a4⟩:=HQ.out;obtain⟨j2,l1⟩:=a4.stored k<|.int .u64 T;have k6:g4≠c:=Z0;have Z:∀b,b≠g4->(W2.setCell ⟨g4,k,U⟩<|.int .u64 T).heap[b]?=W2.heap[b]? :=λb B=>Zi0 _ _ _ _ B;have f1:xz (xj<|W2.setCell ⟨g4,k,U⟩<|.int .u64 T)=xz (xj W2):=Zhl;have i8:=D.out.le;have a5:=D.out.rb;refine⟨(D.out.below.trans<|(HO.out.2.1.mono D.out.below.size).trans a8).setCell (by show xz (xj w)<=g4;have:=D.out.below.size;omega) _,?_,i8,?_,λj n=> ?_⟩;have:=Y1 a5;rw[Z _ Z0,c0 _ Z0,HO.out.2.1.block _ this];exact a5;rw[Z c Z0,b6];rfl;have i7:∀b,xz (xj W)<=b->b< xz (xj<|W2.setCell ⟨g4,k,U⟩<|.int .u64 T)->xz (xj w)+2<=b/\b< xz (xj<|W2.setCell ⟨g4,k,U⟩<|.int .u64 T)/\b≠c:=λb h1 h2=>⟨Z0,h2,Z0⟩;by_cases e:j=4;subst e;have hn:Yd .u64 (H.E.set k T)=(Yd .u64<|Zu H 4).set k (.int .u64 T):=Js _ _ _ _;rw[<-hn]at j2;show Rd _ _ (.sl<|(H.E.set k T).map vu)<|x9 4;rw[HO.out.2.2.2.1];have k3:xq h.E=xq (H.E.set k T):=by rw[Zjs,HO.out.2.2.2.2.1]
    have k4:(W2.setCell ⟨g4,k,U⟩<|.int .u64 T).ownsRow (xz<|xj W) 24 1 (.slice (J ⟨g4,0,U⟩) (xq h.E)<|q 4) (xq<|H.E.set k T)<|Yd .u64<|H.E.set k T:=by rw[<-k3];exact j2
    exact Tn k4 i7;have k0:Zu {H with E:=H.E.set k T} j=Zu H j:=by
     have:j=0\/j=1\/j=2\/j=3:=Z0;obtain rfl|rfl|rfl|rfl:=this<;>rfl
    rw[k0];refine Tn (Xm (P.own j n) λb B=>Z b λe2=> ?_) i7;exact P.apart j 4 Z0 Z0 b B (by rw[e2,HO.out.2.2.2.1];rfl);simp[intOf];omega
  .have k2:k=xq h.E:=Z0;subst k2;obtain⟨q,I⟩:=yt d7.out M.out (xq h.E)<|ZhL _;have Y:(VS (WE h)<|xq h.E).E.length=xq h.E:=I.len;clear I;have K:Ys h=Un (VS (WE h)<|xq h.E):=rfl;rw[K];clear K;generalize VS (WE h) (xq h.E)=g at*;obtain⟨a,q,h6,f0⟩:=B7 (g:=g) (x:=x) λj n=>by simpa using Rd.bu (D.out.rd j n)
   have Y:xq (Zu g 4)=xq h.E:=Y;rw[Y]at h6;have R:=D.out.nb;rw[h6]at R;have a5:=D.out.rb;have i8:=D.out.le;have g8:=Y1 R;have yc:=λj=>ZhQ _ _ j _ _ _ R;have fc:∀j,W.frozen? ⟨c,j,U⟩=xw:=λj=>Yh R;have yz:∀j,W.cell? ⟨xz (xj w)+1,j,U⟩=ZL[j]? :=λj=>ZhQ _ _ _ _ _ _ a5;unfold ZL at yz;have fz:∀j,W.frozen? ⟨xz (xj w)+1,j,U⟩=xw:=λj=>Yh a5;have i9:¬xz (xj w)+1=c:=Z0;have k8:¬c=xz (xj w)+1:=Z0;have HP:=ZhK<|And.intro a5<|And.intro f0 Y;clear h6 R a5 f0 Y;by_cases b0:0<xq g.H
   .have h0:(0< xq (Zu g 0))=True:=Zk3 b0;go_wp2;simp only[Exit.jump];obtain⟨W3,S⟩:∃W3,W3=W.setCell ⟨c,3,U⟩ (.bool xk):=⟨_,rfl⟩;rw[<-S];have Z:∀b,b≠c->W3.heap[b]?=W.heap[b]? :=λb B=>by
     rw[S];simp[World.setCell,Zij,Zju B]
    have f1:xz (xj W3)=xz (xj W):=by rw[S];simp[World.setCell]
    have b4:Below (xz<|xj w) W W3:=by
     rw[S];exact(ZhY _ _).setCell Zhx _
    have y:=U4<|(Z _ i9).trans HP.out.1;have A:=HP.out.2.1 0 Z0;have e1:=HP.out.2.1 1 Z0;have e2:=HP.out.2.1 2 Z0;have e3:=HP.out.2.1 3 Z0;have e4:=HP.out.2.1 4 Z0;rw[HP.out.2.2]at e4;have g9:Un g= {g with M:=xk}:=ZhS b0;rw[g9];clear S;refine Zie (v:=.tuple #[ZA {g with M:=xk} x,.int .i64 0]) ?_ rfl ⟨x,rfl,WP (D.out.below.trans b4) Z0,λj n=> ?_⟩
    .simp[results,Tryz.results17,go_sem,y,ZA,A,e1,e2,e3,e4]
    have hl:Zu {g with M:=xk} j=Zu g j:=rfl;rw[hl];exact(D.out.rd j n).keep (λb B=>(Vq (by have:=B.1;omega)).trans<|Z b B.2.2) λb B=>⟨by have:=B.1;omega,by simp[World.setCell,f1];exact B.2.1⟩
   .have h0:(0< xq (Zu g 0))=False:=Zjv b0;go_wp2;simp only[Exit.jump];obtain⟨W3,S⟩:∃W3,W3=((W.setCell ⟨c,3,U⟩<|.bool xw).setCell ⟨c,7,U⟩<|.slice U 0 0).setCell ⟨c,8,U⟩ (.slice U 0 0):=⟨_,rfl⟩;rw[<-S];have Z:∀b,b≠c->W3.heap[b]?=W.heap[b]? :=λb B=>by
     rw[S];simp[World.setCell,Zij,Zju B]
    have f1:xz (xj W3)=xz (xj W):=by rw[S];simp[World.setCell]
    have b4:Below (xz<|xj w) W W3:=by
     rw[S];exact(((ZhY _ _).setCell Zhx _).setCell Zhx _).setCell Zhx _
    have y:=U4<|(Z _ i9).trans HP.out.1;have A:=HP.out.2.1 0 Z0;have e1:=HP.out.2.1 1 Z0;have e4:=HP.out.2.1 4 Z0;rw[HP.out.2.2]at e4;have g9:Un g= {g with M:=xw,ah:=[],ak:=[]}:=ZhP b0;rw[g9];clear S;refine Zie (v:=.tuple #[ZA {g with M:=xw,ah:=[],ak:=[]} (λj=>if j=2\/j=3 then .slice U 0 0 else x j),.int .i64 0]) ?_ rfl ⟨_,rfl,WP (D.out.below.trans b4) Z0,λj n=> ?_⟩
    .simp[results,Tryz.results17,go_sem,y,ZA,A,e1,e4]
    have:j=2\/j=3\/(j≠2/\j≠3):=Z0;obtain rfl|rfl|⟨h2,h3⟩:=this;exact .nil _ _ ZgX;exact .nil _ _ ZgX;have hl:Zu {g with M:=xw,ah:=[],ak:=[]} j=Zu g j:=by
     have:j=0\/j=1\/j=4:=Z0;obtain rfl|rfl|rfl:=this<;>rfl
    rw[hl];simp only[h2,h3,or_self,ZiF];exact(D.out.rd j n).keep (λb B=>(Vq (by have:=B.1;omega)).trans<|Z b B.2.2) λb B=>⟨by have:=B.1;omega,by simp[World.setCell,f1];exact B.2.1⟩
 intro c1
 go_upto_region 5 with (first
  | (go_at_call 8;refine(HR.out _ ?_).mono ?_;rotate_left;rintro e wa ⟨rfl,a3⟩
     have bA:wa.heap[xz<|xj w]?=J (.cells #[.int .u64 h.base,.int .i64 h.cap,.int .i64 h.to,.bool xw,.int .i64 h.Z,Q 0,Q 1,Q 2,Q 3,Q 4] 30 (0,0)):=(a3.block _ ZgJ).trans<|(ZhU _ _ _ Z1).trans<|Zi7 w _;have bZ:wa.heap[xz (xj w)+1]?=J (.cells ZL 30 (0,0)):=(a3.block _ Z1).trans<|En w _;have ya:=λj=>ZhQ _ _ j _ _ _ bA;have f6:=ZhK a3;have j6:=ZhK<|And.intro bA bZ;clear a3 bA bZ))
 case refine_1=>exact((ZhY _ w).alloc (ZhL _) _).alloc Z1 _
 have a3:Below (xz<|xj w) w wa:=Below.trans (((ZhY _ w).alloc (ZhL _) _).alloc Z1 _)<|f6.out.mono ZgJ;have l2:xz (xj w)+2<=xz (xj wa):=by have:=f6.out.size;simp at this;omega
 have i1:=ZhK a3;clear a3 f6;have f8:=ZhK (λ(W:Z3) (hW:Below (xz<|xj wa) wa W) (j:Nat) (n:j<5)=>(HS.out j n).keep (λb X=>(hW.block b (by have:=hG b X;omega)).trans<|i1.out.block b<|hG b X) λ_ q=>q);refine OJ [16,17,18,19,20,21,22,23,24,25,26,27,28,29,30,31,32,4] (FlC wa (xz<|xj w) h Q) follows Z2 ⟨λ_=>xy,ZgU,?_⟩ ?_ ?_;exact⟨(ZhY _ _).drew,λi _ h=>ZgY,λi _ h=>ZgY,λh=>ZgY,λh=>ZgY,λh=>ZgY,λh=>ZgY⟩
 .intro L i o v W ho hi n C;have M:=ZhK C;have hz:xz (xj wa)<=xz (xj W):=C.b.size;have ya:=λj=>(C.b.cell (p:=⟨xz<|xj w,j,U⟩) (by show xz (xj w)<xz (xj wa);omega)).trans<|ya j;clear C;have l0:i<19:=(ZhN.1 ho).1;simp only[Tq,Qv,Zii,Zj9,ZjG,Zlk,ZjJ,ZkE,Zkf];have:i=0\/i=2\/i=4\/i=7\/i=10\/i=13\/i=1\/i=3\/i=5\/i=6\/i=8\/i=11\/i=14\/i=9\/i=12\/i=15\/i=16\/i=17\/i=18:=Z0;obtain rfl|rfl|rfl|rfl|rfl|rfl|rfl|rfl|rfl|rfl|rfl|rfl|rfl|rfl|rfl|rfl|rfl|rfl|rfl:=this<;>cases ho
  iterate 6
   focus
    go_wp2;try simp only[QN]
    exact⟨_,rfl,M.out.pure (by unfold Wb;omega) rfl rfl⟩
  iterate 7
   focus
    first
    |have A:=M.out.eq 0 (by unfold Wb;omega)<|n 0 (by decide)
    |have A:=M.out.eq 2 (by unfold Wb;omega)<|n 2 (by decide)
    |have A:=M.out.eq 4 (by unfold Wb;omega)<|n 4 (by decide)
    |have A:=M.out.eq 5 (by unfold Wb;omega)<|n 5 (by decide)
    |have A:=M.out.eq 7 (by unfold Wb;omega)<|n 7 (by decide)
    |have A:=M.out.eq 10 (by unfold Wb;omega)<|n 10 (by decide)
    |have A:=M.out.eq 13 (by unfold Wb;omega)<|n 13 (by decide)
    simp only[Tc]at A;go_wp2;try simp only[QN]
    exact⟨_,by rw[<-A];rfl,M.out.pure (by unfold Wb;omega) rfl rfl⟩
  iterate 3
   focus
    first
    |(have A:=M.out.eq 8 (by unfold Wb;omega)<|n 8 (by decide);have F:=AX W (l:=h.H) (G:=G) HH.out.H<|f8.out _ M.out.b 0 (by omega))
    |(have A:=M.out.eq 11 (by unfold Wb;omega)<|n 11 (by decide);have F:=AX W (l:=h.aa) (G:=G) HH.out.aa<|f8.out _ M.out.b 1 (by omega))
    |(have A:=M.out.eq 14 (by unfold Wb;omega)<|n 14 (by decide);have F:=AX W (l:=h.E) (G:=G) HH.out.E<|f8.out _ M.out.b 4 (by omega))
    have HF:=ZhK F;clear F;simp only[Tc]at A;go_wp2_with (go_at_call 38;refine HF.out.mono ?_;rintro e w9 ⟨y,rfl,b7,j1⟩;have b1:=ZhK<|And.intro b7 j1;clear b7 j1)
    try simp only[QN]
    exact⟨_,by rw[<-A];rfl,M.out.call Zhf rfl b1.out.1 b1.out.2⟩
  .have A:=M.out.eq 1 (by unfold Wb;omega)<|n 1 ZgV;have E0:=ZhK A;simp only[Tc]at A;have e1:=M.out.eq 3 (by unfold Wb;omega)<|n 3 ZgV;have E1:=ZhK e1;simp only[Tc]at e1;have e2:=M.out.eq 6 (by unfold Wb;omega)<|n 6 ZgV;have E2:=ZhK e2;simp only[Tc]at e2;obtain⟨a9,c9,f9⟩:=Rd.bu<|M.out.rd 9 Zhf<|n 9 ZgV;rw[show xq (List.map vu<|UI h 9)=(xq h.H) from Zia _]at f9;simp only[Nat.reduceAdd]at f9;have F9:=ZhK f9;obtain⟨b2,RU,a0⟩:=Rd.bu<|M.out.rd 12 Zhf<|n 12 ZgV;rw[show xq (List.map vu<|UI h 12)=(xq h.aa) from Zia _]at a0;simp only[Nat.reduceAdd]at a0;have h9:=ZhK a0;obtain⟨b3,b5,a1⟩:=Rd.bu<|M.out.rd 15 Zhf<|n 15 ZgV;rw[show xq (List.map vu<|UI h 15)=(xq h.E) from Zia _]at a1;simp only[Nat.reduceAdd]at a1;have i0:=ZhK a1;go_wp2;try simp only[QN]
   refine⟨Xf (Xf (Xf (Xf (Xf (Xf (Xf v 17<|Tc (xz<|xj w) h Q 1) 19<|Tc (xz<|xj w) h Q 3) 22<|Tc (xz<|xj w) h Q 6) 25<|.slice a9 (xq h.H) c9) 28<|.slice b2 (xq h.aa) RU) 31<|.slice b3 (xq h.E) b5) 32<|.agg #[.int .u64 h.base,.int .i64 h.cap,.int .i64<|1-h.to,.bool xw,.int .i64 0,.slice U 0 0,.slice U 0 0,.slice a9 (xq h.H) c9,.slice b2 (xq h.aa) RU,.slice b3 (xq h.E) b5],rfl,?_⟩;rw[JP (v:=v) E0.out,JP (v:=v) E1.out,JP (v:=v) E2.out,JP (v:=v) F9.out,JP (v:=v) h9.out,JP (v:=v) i0.out];have hx:((.agg #[.int .u64 h.base,.int .i64 h.cap,.int .i64<|1-h.to,.bool xw,.int .i64 0,.slice U 0 0,.slice U 0 0,.slice a9 (xq h.H) c9,.slice b2 (xq h.aa) RU,.slice b3 (xq h.E) b5]):Value)=.agg (Uk h λi=>v<|16+i):=by
    unfold Uk;simp only[Nat.reduceAdd];rw[F9.out,h9.out,i0.out]
   rw[hx];exact M.out.built (n 9 ZgV) (n 12 ZgV)<|n 15 ZgV
  .go_wp2;try simp only[QN]
   exact⟨_,rfl,M.out.alloc hi⟩
  .obtain⟨c,e4,d9,j9,O⟩:=M.out.new<|n 17 ZgV;obtain⟨y,g3,hy⟩:=M.out.agg<|n 16 ZgV;have O:=O hi;have y4:∀j,W.cell? ⟨c,j,U⟩=ZL[j]? :=λj=>ZhQ _ _ _ _ _ _ O;unfold ZL at y4;have y5:∀j,W.frozen? ⟨c,j,U⟩=xw:=λj=>Yh O;have H3:=ZhK O;have j5:=ZhK g3;obtain⟨a9,c9,f9⟩:=Rd.bu<|hy 9 Zhf;obtain⟨b2,RU,a0⟩:=Rd.bu<|hy 12 Zhf;obtain⟨b3,b5,a1⟩:=Rd.bu<|hy 15 Zhf;rw[show xq (List.map vu<|UI h 9)=(xq h.H) from Zia _]at f9;rw[show xq (List.map vu<|UI h 12)=(xq h.aa) from Zia _]at a0;rw[show xq (List.map vu<|UI h 15)=(xq h.E) from Zia _]at a1;have K:Uk h y=#[.int .u64 h.base,.int .i64 h.cap,.int .i64<|1-h.to,.bool xw,.int .i64 0,.slice U 0 0,.slice U 0 0,.slice a9 (xq h.H) c9,.slice b2 (xq h.aa) RU,.slice b3 (xq h.E) b5]:=by
    unfold Uk;rw[f9,a0,a1]
   rw[K]at g3;have d6:=ZhK K;clear O hy f9 a0 a1 K;go_wp2;try simp only[QN]
   exact⟨_,by rw[<-e4,<-g3],M.out.store e4 j5.out (n 17 ZgV) (n 16 ZgV) hi H3.out (λb B=>Vq B) Zhl (by rw[d6.out];exact LH H3.out)<|WP (ZhY _ _) d9⟩
 .intro L v W hL C;obtain⟨c,y,e4,d9,i3,hy⟩:=C.put<|hL 18 ZgV;have f7:=ZhK C.b;have HY:=ZhK<|And.intro i3 hy;have j7:=ZhK c1;have f5:=ZhK<|And.intro (hL 17 ZgV) e4;clear C i3 hy hL c1;simp only[Tq,Qv,Zii,Zj9,ZjG,Zlk,ZjJ,ZkE,Zkf];go_wp2;go_step3
  simp only[Exit.then];rename_i j8;refine j8 _ _<|j7.out _ _ ?_;refine⟨c,0,λj=>if j=2 then y 9 else if j=3 then y 12 else if j=4 then y 15 else .slice U 0 0,rfl,rfl,rfl,f5.out.2,rfl,ZiZ _,?_⟩;have d5:=f7.out.size;have hG:∀b,V9 wa W L v b->xz (xj w)+2<=b/\b<xz (xj W)/\b≠c:=λb B=>⟨by have:=B.1;omega,B.2.1,λe=>B.2.2 f5.out.1 (by rw[e];exact f5.out.2)⟩;refine⟨i1.out.trans<|f7.out.mono Z0,(f7.out.block _ Z0).trans j6.out.2,Z0,HY.out.1,λj n=> ?_⟩;have:j=0\/j=1\/j=2\/j=3\/j=4:=Z0;obtain rfl|rfl|rfl|rfl|rfl:=this;exact .nil _ _ ZgX;exact .nil _ _ ZgX;exact(HY.out.2 9 Zhf).mono hG;exact(HY.out.2 12 Zhf).mono hG;exact(HY.out.2 15 Zhf).mono hG
end Vm
end
section

end
section
namespace Vm
open Go Go.Proofs Go.RowKit
def Z13(w:Z3)(G:Z4)(g:∀b,G b->b<xz (xj w))(h:Hp)(k:h.ok)(a:Z5)(l:∀j,j<5->Rd w G (.sl<|(Zu h j).map vu) (a j)):
  Calls xP 17 #[ZA h a] w (S8 w<|Sf h):=by
 cases d:Yk h with
 |false=>
  rw[show Sf h=(Hp.zero,1)by unfold Sf;rw[ZhS d]];exact Z10 w G g h k a l d
 |true=>
  cases f:h.M with
  |true=>
   rw[show Sf h=(Hp.zero,10)by unfold Sf;rw[ZhP (by rw[d];simp),ZhS f]];exact Z11 w G g h k a l d f
  |false=>
   obtain⟨p,r⟩:=Rx.1 d;rw[show Sf h=(Ys h,0)by unfold Sf;rw[ZhP (by rw[d];simp),ZhP (by rw[f];simp)]];exact Z12 w G g h k a l r f
end Vm
end
section
namespace Vm
open Go Go.Proofs
def Na:Fn:=⟨6,[0,1,2,4,5,12],pQ [pR [(2,pS 0 10),(3,pZ),pV 4<|pI 0],pQ [.ao ⟨[.lt 6 []<|pl (.s 1)<|pI 0,.call 7 [(6,xw)] (.id 8) xw xw [.mm 2 0 10]],[([(6,xw)],.un .not<|.s 7)],[pV 5<|.ite (.s 6) pT<|.un .not<|.s 7]⟩]<|pw (.s 5)<|pQ [.ao ⟨[],[([],pY)],[(3,pZ),pV 4<|pI 1]⟩] .ret,pC [pK 8 40 [.mm 2 0 10,.s 1]] [(3,pM (.sz (.ext (.s 8) 0) 10) 10),pV 4<|.ext (.s 8) 1]] .ret,[(3,(.ag 10)),(4,.v)]⟩
def c18:ZN xP fresh sig [.fz,.fz] [] Tryz.f18=J Na:=Z2
def Nx:Fn:=⟨3,[0,1,2],pQ [pR [(1,pS 0 10),(2,pZ)],pC [pK 3 80 [.m 1 5],pK 4 80 [.m 1 6]] [(1,.m [.m 1 0,.m 1 1,.m 1 2,.m 1 3,.m 1 4,.one<|.s 3,.one<|.s 4,.m 1 7,.m 1 8,.m 1 9])],pC [pK 5 80 [.m 1 7],pK 6 80 [.m 1 8]] [(1,.m [.m 1 0,.m 1 1,.m 1 2,.m 1 3,.m 1 4,.m 1 5,.m 1 6,.one<|.s 5,.one<|.s 6,.m 1 9])],pC [pK 7 80 [.m 1 9]] [(1,.m [.m 1 0,.m 1 1,.m 1 2,.m 1 3,.m 1 4,.m 1 5,.m 1 6,.m 1 7,.m 1 8,.one<|.s 7])]]<|px [(2,pM (.mm 1 0 10) 10)],[(2,(.ag 10))]⟩
def c61:ZN xP fresh sig [.fz] [] Tryz.f61=J Nx:=Z2
end Vm
end
section
namespace Vm
open Go Go.Proofs Go.RowKit
def Kb{l:Z9}(n:I l<=1000000):VC xP 80 xw [.sl<|l.map vu]<|.sl<|l.map vu:=by
 refine⟨Z2,λw G vs h f g=> ?_⟩;have r0:=g 0 _ rfl;have j:vs=#[vs.getD 0 xy]:=by
  have a:vs.size=1:=f;apply Zka;simp[a];intro i p q;have k:i<1:=Z0
  match i,k with
  |0,_=>simp[Array.getD,a]
 rw[j];refine(Z0V w h n r0).mono ?_;rintro e r ⟨v,rfl,d,o⟩;exact⟨v,rfl,d,o.mono λb d=>.inr d⟩
def Z7T{h:Hp}(a:h.ok):VC xP 61 xw [ZE h]<|ZE h:=by
 refine ZT Fc follows Z2 c61 rfl ?_;have d:=Kb a.H;have f:=Kb a.aa;have g:=Kb a.ah;have j:=Kb a.ak;have k:=Kb a.E;simp[Nx,ZE];refine Zy d Z1 ?_;simp;refine Zy f Z1 ?_;simp;refine Zy g Z1 ?_;simp;refine Zy j Z1 ?_;simp;refine Zy k Z1 ?_;simp
def Z7S(w:Z3)(G:Z4)(k:∀b,G b->b<xz (xj w))(h:Hp)(l:h.ok)(a:Z5)(p:∀j,j<5->Rd w G (.sl<|(Zu h j).map vu) (a j)):
  Calls xP 61 #[ZA h a] w λe f=>∃x,e=.returned (ZA h x)/\Below (xz<|xj w) w f/\∀j,j<5->Rd f (λc=>G c\/(xz (xj w)<=c/\c<xz (xj f))) (.sl<|(Zu h j).map vu) (x j):=by
 refine((Z7T l).2 w G #[ZA h a] k rfl λi x d=> ?_).mono ?_
 match i,d with
 |0,d=>cases d;exact Sj p
 rintro e f ⟨v,rfl,g,o⟩;obtain⟨x,rfl,d⟩:=KU o;exact⟨x,rfl,g,λj n=>(d j n).mono λb g=>g.imp (λq=>q.2) id⟩
end Vm
end
section
namespace Vm
open Go Go.Proofs
def EL:Prop:=∀(h:Hp) (p:Pts) (k:Int),h.ok->Rt h p->0<=k->Yf k->VC xP 40 xw [ZE h,vi k] (.al [ZE<|Y9 h k.toNat,vi 0])
def LK(h:Hp)(k:Int):Hp×Int:=if k<0\/Yk h=xw then(Hp.zero,1)else(Y9 h k.toNat,0)
def Z1g(j:EL){h:Hp}(f:h.ok){k:Int}(l:Yf k):VC xP 18 xw [ZE h,vi k]<|.al [ZE (LK h k).1,vi (LK h k).2]:=by
 refine ZT EW follows Z2 c18 rfl ?_;have k1:=zy f;simp only[ZE]at k1;unfold LK;simp[Na];by_cases a:0<=k;case neg=>simp[a,show k<0 by omega,ZE,Hp.zero]
 have d:¬k<0:=Z0;simp only[a,d,ZiC,false_or];refine Zy k1 Z1 ?_;cases n:Yk h;simp[ZE,Hp.zero];obtain⟨p,r⟩:=Rx.1 n;have g:=j h p k f r Z0 l;simp only[ZE]at g⊢;simp;refine Zy g Z1 ?_;simp
def Z8N{h:Hp}{p:Pts}(r:Rt h p)(k:Nat):LK h k=(Y9 h k,0):=by
 unfold LK;rw[ZhP (by rw[r.right];simp),Zi1]
end Vm
end
section
namespace Vm
open Go Go.Proofs Go.RowKit
def EO(w:Z3)(g j l m k:Nat)(e:Ending)(w':Z3):Prop:=∃f a h p2 d c2,e=.returned (.tuple #[.slice f a h,.slice p2 d c2,.int .i64 0])/\a=m/\d=k/\(0<m->f=J ⟨g,j,U⟩)/\(0<k->p2=J ⟨g,l,U⟩)/\Below (xz<|xj w) w w'
def ZaL(w:Z3)(G:Z4)(T:∀b,G b->b<xz (xj w))(h:Hp)(P:h.ok)(x:Z5)(hs:∀j,j<5->Rd w G (.sl<|(Zu h j).map vu) (x j))(hl:ZI (Zv h)=xk)
  {j a n m:Nat} (Q:j=0\/j=1) {u:Int} (hu:(Zu h j)[a]?=J u) (a2:ZR u=((n:Int),(m:Int),0)) (a7:m<=n) (a5:a+n< I (Zu h j)) (hw:ZB<|ZX (Zv h) (j+1) a) {g off cap:Nat} (hx:x j=.slice (J ⟨g,off,U⟩) (I<|Zu h j) cap) (l:w.cell? ⟨g,off+a,U⟩=J (.int .u64 u)) (hg:G g) (N:I (Zu h j)<=cap/\cap<=maxLen):
  Calls xP 121 #[ZA h x,.int .u64<|ZX (Zv h) (j+1) a] w (EO w g (off+(a+1)) (off+(a+1+m)) m<|n-m):=by
 have M:=UB hl (k:=(j:Int)+1) (a:=a) Z0;have a1:YI (Zv h) ((j:Int)+1)=I (Zu h j):=by
  obtain rfl|rfl:=Q;rfl;rfl
 have a4:a< I (Zu h j):=Z0;have O:=Rb hl (k:=(j:Int)+1) (a:=a) Z0 Z0;have C:=A6 hw;rw[M]at C;simp only at C;have a6:=Su P j;have a3:ZB u:=by
  obtain rfl|rfl:=Q;exact P.ex u<|ZhR hu;exact P.eu u<|ZhR hu
 have HS:=ZhK hs;have HH:=ZhK P;have Y:=T g hg;clear hs P;generalize hA:ZC (Zv h) ((j:Int)+1)+a=A at*;generalize hW:ZX (Zv h) ((j:Int)+1) a=W at*;unfold ZA;have HC:=ZhK<|And.intro l<|And.intro Y<|And.intro N hx;clear l hA hW hu hx a1;obtain⟨f,X⟩:∃f:Nat,a+1=f:=⟨_,rfl⟩;obtain⟨q,D⟩:∃e:Nat,f+m=e:=⟨_,rfl⟩;obtain⟨L,F⟩:∃e:Nat,f+n=e:=⟨_,rfl⟩;have wf:IntKind.i64.wrap ((a:Int)+1)=(f:Int):=ZgR;have b3:IntKind.i64.wrap ((f:Int)+(m:Int))=(q:Int):=ZgR;have b4:IntKind.i64.wrap ((f:Int)+(n:Int))=(L:Int):=ZgR;have HF:=ZhK<|And.intro X<|And.intro D F;have o1:f<=q:=Z0;have o2:q<=L:=Z0;have o3:L<=cap:=Z0;have o4:f<=L:=Z0;have o5:q<=cap:=Z0;clear X D F;obtain rfl|rfl:=Q;all_goals
  simp at O;go_enter Kj,Tryz.ntmps121
  go_wp2_with (first
   |(go_at_call 46;go_loud (refine(TE hw _).mono ?_;rintro e w1 ⟨rfl,r⟩;rw[M];dsimp only;have p1:=(r.block (xz<|xj w)<|by simp).trans<|Zi7 w _;have x1:=λj=>ZhQ _ _ j _ _ _ p1;have Z:=r.size;simp at Z;have H:=ZhK<|((ZhY _ w).alloc (ZhL _) _).trans<|r.mono (by simp);clear r))
   |(go_at_call 20;go_loud (refine(Ke (h:=h) (x:=x) (G:=G) (λc hc=>by have:=T c hc;omega)<|λj Q=>(HS.out j Q).keep (λb hb=>H.out.block b<|T b hb) (λ_ h=>h)).mono ?_;rintro e w2 ⟨rfl,y⟩;unfold Ti;have p2:=(y.block (xz<|xj w)<|by omega).trans p1;have x2:=λj=>ZhQ _ _ j _ _ _ p2;have a8:=y.size;have R:=ZhK<|H.out.trans<|y.mono (by omega);clear y))
   |(go_at_call 56;go_loud (refine(GO HH.out.bc C _).mono ?_;rintro e w3 ⟨rfl,d⟩;rw[O];dsimp only;have p3:=λo=>(ZhU w3 o (xz<|xj w) (by have:=d.size;omega)).trans<|(d.block (xz<|xj w)<|by omega).trans p2;have x3:=λo j=>ZhQ _ _ j _ _ _<|p3 o;have k3:=λ(S:Za) (t:Zd) (j:Nat)=>ZhQ _ _ j _ _ _<|Zi7 w3<|.cells S t;have a9:=d.size;have B:=ZhK<|R.out.trans<|d.mono (by omega);have b1:=B.out.size;have c3:=λo=>(Zj7 w3 o ⟨g,off+a,U⟩ (by show g<xz (xj w3);omega)).trans<|(B.out.cell (p:=⟨g,off+a,U⟩) (by show g<xz (xj w);omega)).trans HC.out.1;have hx:=HC.out.2.2.2;clear d x1 x2 p1 p2))
   |(go_at_call 58;go_loud (refine(QJ a3 _).mono ?_;rintro e w4 ⟨rfl,z⟩;rw[a2];dsimp only;have a0:=z.size;simp at a0;have q4:=λo=>(ZhU w4 o (xz<|xj w3)<|by omega).trans<|(z.block (xz<|xj w3)<|by simp).trans<|Zi7 w3 _;have b2:=λo j=>ZhQ _ _ j _ _ _<|q4 o;have s4:=λ(S:Za) (t:Zd) (j:Nat)=>ZhQ _ _ j _ _ _<|Zi7 w4<|.cells S t;have K:=ZhK<|B.out.trans<|(((ZhY _ w3).alloc (ZhL _) _).trans<|z.mono (by simp)).mono (by omega);clear z x3 p3 k3 c3 q4)))
  go_region;all_goals
   go_wp2;all_goals
    obtain⟨X,D,F⟩:=HF.out;have hm:m=q-f:=Z0;have hn:n-m=L-q:=Z0;rw[hn,hm];have hz:cap=f->q-f=0:=λ_=>Z0;have b0:f=q->q-f=0:=λ_=>Z0;refine Zie (v:= ?_) ?_ rfl ?_;rotate_left 1
    .simp[results,Tryz.results121,go_sem];exact rfl
    refine⟨_,_,_,_,_,_,rfl,?_,?_,λh=> ?_,λh=> ?_,(K.out.alloc (by have:=K.out.size;omega) _).drew⟩;all_goals first
     |omega
     |(exfalso;omega)
     |(congr 2;omega)
     |(congr 2;congr 1;omega)
def Xg(k r s i z p v:Int):Array Value:=#[.int .i64 k,.int .i64 r,.int .i64 s,.int .i64 i,.int .i64 z,.int .i64 p,.int .u64 v]
def Wx(k:Int):TypeId:=if k=1 then 130 else if k=2 then 131 else if k=3 then 132 else if k=4 then 133 else if k=5 then 134 else if k=6 then 135 else 136
def So(k r s i z p v:Int):Value:=if 1<=k/\k<=7 then .iface (Wx k) (.agg<|Xg k r s i z p v)else .nilIface
def ID(w:Z3)(k r s i z p v:Int):Calls xP 25 #[.agg<|Xg k r s i z p v] w λe f=>e=.returned (So k r s i z p v)/\Below (xz<|xj w) w f:=by
 have a:k=1\/k=2\/k=3\/k=4\/k=5\/k=6\/k=7\/¬(1<=k/\k<=7):=Z0;unfold Xg;obtain rfl|rfl|rfl|rfl|rfl|rfl|rfl|a:=a;case inr.inr.inr.inr.inr.inr.inr=>
  have g:(k==1)=xw:=ZgJ;have h:(k==2)=xw:=ZgJ;have j:(k==3)=xw:=ZgJ;have l:(k==4)=xw:=ZgJ;have n:(k==5)=xw:=ZgJ;have o:(k==6)=xw:=ZgJ;have q:(k==7)=xw:=ZgJ;have d:So k r s i z p v=.nilIface:=by unfold So;rw[ZhP a]
  rw[d];clear a d;go_enter jW,Tryz.ntmps25;go_wp2;exact Zie (v:=.nilIface) (by simp[results,Tryz.results25,go_sem]) rfl ⟨rfl,(ZhY _ _).alloc (ZhL _) _⟩
 all_goals
  go_enter jW,Tryz.ntmps25;go_wp2;exact Zie (by simp[results,Tryz.results25,go_sem];rfl) rfl ⟨rfl,(ZhY _ _).alloc (ZhL _) _⟩
def Z9Z{P:Z6}(w:Z3)(v:Zb)(d T:Zd){fs:Array Field}(a:P.underlying T=J (.struct fs)):(Instr.typeAssert (.iface T v) d T xk).run P w=.ok (.tuple #[v,.bool xk]) w:=by
 simp[Instr.typeAssert,Zip a]
def Za0{P:Z6}(w:Z3)(v z:Zb)(g t T:Zd){fs:Array Field}(a:P.underlying T=J (.struct fs))(f:(zeroValue T).run P w=.ok z w)(d:t≠T):(Instr.typeAssert (.iface t v) g T xk).run P w=.ok (.tuple #[z,.bool xw]) w:=by
 simp[Instr.typeAssert,Zip a,d,f]
def A4:Value:=.agg #[.int .i64 0,.int .i64 0,.int .i64 0,.int .i64 0,.int .i64 0,.int .i64 0,.int .u64 0]
def QI(w:Z3)(v:Zb)(t T:Zd)(f:T∈[130,131,132,133,134,135,136]):
  (Instr.typeAssert (.iface t v) 74 T xk).run xP w=.ok (if t=T then .tuple #[v,.bool xk]else .tuple #[A4,.bool xw]) w:=by
 have h:(∃a,xP.underlying T=J (.struct a))/\(zeroValue T).run xP w=.ok A4 w:=by
  simp only[Zi6,Zjf,ZkH]at f;obtain rfl|rfl|rfl|rfl|rfl|rfl|rfl:=f;all_goals exact⟨⟨_,rfl⟩,rfl⟩
 obtain⟨⟨a,d⟩,g⟩:=h;by_cases e:t=T;subst e;rw[ZhS rfl];exact Z9Z w v _ _ d;rw[ZhP e];exact Za0 w v _ _ _ _ d g e
def u9(w:Z3)(d a:Obj):((w.alloc d).alloc a).heap[xz (xj w)+1]?=J a:=by
 have:=Zi7 (w.alloc d) a;rwa[ZjM]at this
def Ur(k r s:Int):List Int:=if k=1\/k=7 then [r]else if k=3\/k=5 then [s]else [r,s]
def Z6V(w:Z3)(k r s i z p v:Int)(d:1<=k/\k<=7):Calls xP 26 #[So k r s i z p v] w λe f=>∃g,e=.returned (.slice (J ⟨g,0,U⟩) (I<|Ur k r s)<|I<|Ur k r s)/\Below (xz<|xj w) w f/\xz (xj w)<=g/\∀j u,(Ur k r s)[j]?=J u->f.cell? ⟨g,j,U⟩=J (.int .i64 u):=by
 have d:k=1\/k=2\/k=3\/k=4\/k=5\/k=6\/k=7:=Z0;obtain rfl|rfl|rfl|rfl|rfl|rfl|rfl:=d;all_goals
  unfold So;rw[ZhS Z0];simp only[Wx];have h:=λt w v=>QI w v t 130 Z1;have l:=λt w v=>QI w v t 136 Z1;have n:=λt w v=>QI w v t 132 Z1;have o:=λt w v=>QI w v t 134 Z1;have q:=λt w v=>QI w v t 131 Z1;have x:=λt w v=>QI w v t 133 Z1;have y:=λt w v=>QI w v t 135 Z1;unfold Xg;unfold A4 at h l n o q x y;go_enter F0,Tryz.ntmps26;go_wp2;refine Zie (by simp[results,Tryz.results26,go_sem];rfl) rfl ⟨xz (xj w)+1,rfl,((ZhY _ _).alloc (ZhL _) _).alloc Z1 _,Z0,λj u a=> ?_⟩;rw[ZhQ _ _ _ _ _ _<|u9 _ _ _];simp[Ur]at a;first
  | (match j,a with
     |0,a=>simp at a;subst a;rfl
     |j+1,a=>simp at a;done)
  | (match j,a with
     |0,a=>simp at a;subst a;rfl
     |1,a=>simp at a;subst a;rfl
     |j+2,a=>simp at a)
def V4(h:Hp)(j i:Nat)(v:Int):Hp:=
 if j=0 then {h with H:=h.H.set i v}else if j=1 then {h with aa:=h.aa.set i v}else if j=2 then {h with ah:=h.ah.set i v}else if j=3 then {h with ak:=h.ak.set i v}else {h with E:=h.E.set i v}
def Z6f(h:Hp){j k:Nat}(i:Nat)(v:Int)(f:j<5)(g:k<5):Zu (V4 h j i v) k=if k=j then(Zu h j).set i v else Zu h k:=by
 have a:j=0\/j=1\/j=2\/j=3\/j=4:=Z0;have d:k=0\/k=1\/k=2\/k=3\/k=4:=Z0;obtain rfl|rfl|rfl|rfl|rfl:=a<;>obtain rfl|rfl|rfl|rfl|rfl:=d<;>rfl
def jt(h:Hp)(j i:Nat)(v:Int):(V4 h j i v).base=h.base/\(V4 h j i v).cap=h.cap/\(V4 h j i v).to=h.to/\(V4 h j i v).M=h.M/\(V4 h j i v).Z=h.Z:=by
 unfold V4;split;exact⟨rfl,rfl,rfl,rfl,rfl⟩;split;exact⟨rfl,rfl,rfl,rfl,rfl⟩;split;exact⟨rfl,rfl,rfl,rfl,rfl⟩;split<;>exact⟨rfl,rfl,rfl,rfl,rfl⟩
def Hx(h:Hp)(j i:Nat)(v:Int)(x:Z5):ZA (V4 h j i v) x=ZA h x:=by
 obtain⟨a,d,f,g,k⟩:=jt h j i v;unfold ZA;rw[a,d,f,g,k]
theorem HOwn.put{B:Nat}{W:Z3}{h:Hp}{x:Z5}(d:HOwn B W h x){j i:Nat}(p:j<5){g cap:Nat}(hx:x j=.slice (J ⟨g,0,U⟩) (I<|Zu h j) cap)(v:Int):HOwn B (W.setCell ⟨g,i,U⟩<|.int .u64 v) (V4 h j i v) x:=by
 refine⟨λk f=> ?_,d.apart⟩;rw[Z6f h i v p f];by_cases e:k=j;subst e;rw[ZhS rfl,Zjs];have l:=d.own k f;rw[hx]at l⊢;have a:=(l.stored i<|.int .u64 v).1;rw[Js];exact a;rw[ZhP e];refine ownsRow_setCell_other (d.own k f) (λn=> ?_) _;have o:(x j).ownBlock=J g:=by rw[hx];rfl
 obtain a|a:=Zkg e;exact d.apart k j a p g n o;exact d.apart j k a f g o n
structure MSt (w W:World) (ta:TypeId) (act:Array Value) (h:Hp) (y:Nat->Value) (nb:Nat):Prop where
 act:W.heap[xz<|xj w]?=J (.cells act ta (0,0))
 cx:W.heap[xz (xj w)+2]?=J (.cells ZL 30 (0,0))
 cz:W.heap[nb]?=J (.cells #[.int .u64 h.base,.int .i64 h.cap,.int .i64 h.to,.bool h.M,.int .i64 h.Z,y 0,y 1,y 2,y 3,y 4] 30 (0,0))
 own:HOwn (xz (xj w)+3) W h y
 ak:∀j,j<5->∀c,(y j).ownBlock=J c->c≠nb
 bp:Below (xz<|xj w) w W
 nB:xz (xj w)+3<=nb
def MSt.below{w W W':Z3}{k:Zd}{a:Za}{h:Hp}{y:Z5}{g:Nat}(s:MSt w W k a h y g)(d:Below (xz<|xj W) W W'):MSt w W' k a h y g:=
 ⟨(d.block _<|Y1 s.act).trans s.act,(d.block _<|Y1 s.cx).trans s.cx,(d.block _<|Y1 s.cz).trans s.cz,⟨λj f=>Xm (s.own.own j f) λc l=>d.block _ ((s.own.own j f).lt c l).2,s.own.apart⟩,s.ak,s.bp.trans<|d.mono s.bp.size,s.nB⟩
def MSt.drew{w W:Z3}{f:Zd}{a:Za}{h:Hp}{y:Z5}{d:Nat}(s:MSt w W f a h y d):MSt w W.drew f a h y d:=
 ⟨s.act,s.cx,s.cz,⟨λj g=>Xm (s.own.own j g) λc k=>rfl,s.own.apart⟩,s.ak,s.bp.drew,s.nB⟩
def MSt.F{w W:Z3}{f:Zd}{a:Za}{h:Hp}{y:Z5}{d:Nat}(s:MSt w W f a h y d):(∀j,W.cell? ⟨xz<|xj w,j,U⟩=a[j]?)/\(∀j,W.cell? ⟨d,j,U⟩=(#[.int .u64 h.base,.int .i64 h.cap,.int .i64 h.to,.bool h.M,.int .i64 h.Z,y 0,y 1,y 2,y 3,y 4]:Array Value)[j]?):=
 ⟨λj=>ZhQ _ _ _ _ _ _ s.act,λj=>ZhQ _ _ _ _ _ _ s.cz⟩
theorem MSt.put{w W:Z3}{n:Zd}{a:Za}{h:Hp}{y:Z5}{l:Nat}(s:MSt w W n a h y l){j i:Nat}(d:j<5){g cap:Nat}(hx:y j=.slice (J ⟨g,0,U⟩) (I<|Zu h j) cap)(v:Int):MSt w (W.setCell ⟨g,i,U⟩<|.int .u64 v) n a (V4 h j i v) y l:=by
 have k:(y j).ownBlock=J g:=by rw[hx];rfl
 have x:=((s.own.own j d).lt g k).1;have f:∀c,c≠g->(W.setCell ⟨g,i,U⟩<|.int .u64 v).heap[c]?=W.heap[c]? :=λc u=>Zi0 _ _ _ _ u;obtain⟨o,p,q,r,t⟩:=jt h j i v;refine⟨(f _ Z0).trans s.act,(f _ Z0).trans s.cx,?_,s.own.put d hx v,s.ak,s.bp.setCell (by show xz (xj w)<=g;omega) _,s.nB⟩;rw[f _ (λe=>s.ak j d g k e.symm),o,p,q,r,t];exact s.cz
def ZaM(w:Z3)(h:Hp)(x:Z5){w0:Int}(g:w0=0):Calls xP 121 #[ZA h x,.int .u64 w0] w λe j=>e=.returned (.tuple #[.slice U 0 0,.slice U 0 0,.int .i64 6])/\Below (xz<|xj w) w j:=by
 subst g;unfold ZA;have f:adr 0=(0,6):=ZgK;go_enter Kj,Tryz.ntmps121
 go_wp2_with (first
  |(go_at_call 46;go_loud (refine(TE (by unfold ZB;omega) _).mono ?_;rintro e w1 ⟨rfl,a⟩;rw[f];dsimp only;have d:=ZhK a;clear a)))
 exact Zie (v:=.tuple #[.slice U 0 0,.slice U 0 0,.int .i64 6]) (by simp[results,Tryz.results121,go_sem]) rfl ⟨rfl,((ZhY _ w).alloc (ZhL _) _).trans<|d.out.mono Z1⟩
structure ObAt (h:Hp) (w:Int) (j a n m:Nat) (u:Int):Prop where
 np:j=0\/j=1
 eq:w=ZX (Zv h) (j+1) a
 u64:ZB w
 ab:(Zu h j)[a]?=J u
 un:ZR u=((n:Int),(m:Int),0)
 mn:m<=n
 an:a+n< I (Zu h j)
def Z0p(w:Z3){i:Int}(j:Yf i){p:Option Addr}{n c:Nat}(k:n<=1000000):Calls xP 122 #[.int .i64 i,.slice p n c] w λe h=>e=.returned (.bool<|decide (0<=i/\i<n))/\Below (xz<|xj w) w h:=by
 by_cases a:0<=i
 .have f:(i≥0)=True:=Zk3 a;by_cases d:i<n
  .have g:(i< (n:Int))=True:=Zk3 d;go_enter Kk,Tryz.ntmps122;go_wp2;exact Zie (v:=.bool xk) (by simp[results,Tryz.results122,go_sem]) rfl ⟨by simp[a,d],ZhY _ _⟩
  .have g:(i< (n:Int))=False:=Zjv d;go_enter Kk,Tryz.ntmps122;go_wp2;exact Zie (v:=.bool xw) (by simp[results,Tryz.results122,go_sem]) rfl ⟨by simp[d],ZhY _ _⟩
 .have f:(i≥0)=False:=Zjv a;go_enter Kk,Tryz.ntmps122;go_wp2;exact Zie (v:=.bool xw) (by simp[results,Tryz.results122,go_sem]) rfl ⟨by simp[a],ZhY _ _⟩
def Mm{w k o:Z3}{T:Zd}{a cs:Za}{h:Hp}{y:Z5}(f:Below (xz<|xj<|((w.alloc<|.cells a T).alloc<|.cells cs 30).alloc<|.cells ZL 30) (((w.alloc<|.cells a T).alloc<|.cells cs 30).alloc<|.cells ZL 30) k)
  (d:HOwn (xz<|xj<|((w.alloc<|.cells a T).alloc<|.cells cs 30).alloc<|.cells ZL 30) k h y) (r:k.alloc (.cells #[.int .u64 h.base,.int .i64 h.cap,.int .i64 h.to,.bool h.M,.int .i64 h.Z,y 0,y 1,y 2,y 3,y 4] 30)=o):MSt w o T a h y<|xz<|xj k:=by
 have t:xz (xj<|((w.alloc<|.cells a T).alloc<|.cells cs 30).alloc<|.cells ZL 30)=xz (xj w)+3:=Z1;have p:(((w.alloc<|.cells a T).alloc<|.cells cs 30).alloc<|.cells ZL 30).heap[xz<|xj w]?=J (.cells a T (0,0)):=by
  rw[ZhU _ _ _ ZgJ,ZhU _ _ _ Z1];exact Zi7 _ _
 have q:(((w.alloc<|.cells a T).alloc<|.cells cs 30).alloc<|.cells ZL 30).heap[xz (xj w)+2]?=J (.cells ZL 30 (0,0)):=by
  have:=Zi7 ((w.alloc<|.cells a T).alloc<|.cells cs 30)<|.cells ZL 30;simpa using this
 have l:Below (xz<|xj w) w<|((w.alloc<|.cells a T).alloc<|.cells cs 30).alloc<|.cells ZL 30:=(((ZhY _ _).alloc (ZhL _) _).alloc Z1 _).alloc ZgJ _;generalize ((w.alloc<|.cells a T).alloc<|.cells cs 30).alloc (.cells ZL 30)=w3 at*;have u:=f.size;subst r;rw[t]at d;refine⟨(ZhU _ _ _ Z0).trans<|(f.block _ Z0).trans p,(ZhU _ _ _ Z0).trans<|(f.block _ Z0).trans q,Zi7 _ _,⟨λj g=>Xm (d.own j g) λc n=>ZhU _ _ _ ((d.own j g).lt c n).2,d.apart⟩,λj g c n=> ?_,(l.trans<|f.mono Z0).alloc Z0 _,Z0⟩;have:=((d.own j g).lt c n).2;omega
def Cj{w:Z3}{B g cap n:Nat}{e:Zd}{z:Nat}{xs:Zm}(h:w.ownsRow B e z (.slice (J ⟨g,0,U⟩) n cap) n xs)(o:0<n){i:Nat}:w.frozen? ⟨g,i,U⟩=xw:=by
 obtain⟨f,_⟩|⟨l,a,d,j,_,k,_⟩:=h.2;cases f;cases j;exact Yh k
def MSt.R{w W:Z3}{f:Zd}{a:Za}{h:Hp}{y:Z5}{d:Nat}(s:MSt w W f a h y d):(∀j,W.cell? ⟨xz (xj w)+1+1,j,U⟩=(#[.int .u64 0,.int .i64 0,.int .i64 0,.bool xw,.int .i64 0,.slice U 0 0,.slice U 0 0,.slice U 0 0,.slice U 0 0,.slice U 0 0]:Array Value)[j]?)/\∀j,W.frozen? ⟨xz (xj w)+1+1,j,U⟩=xw:=
 ⟨λj=>ZhQ _ _ _ _ _ _ s.cx,λj=>Yh s.cx⟩
def Gj{w W:Z3}{n:Zd}{a:Za}{g:Hp}{y:Z5}{l:Nat}(s:MSt w W n a g y l){v0 v1 o p v4 q v6 r t u:Zb}:S8 w (g,0) (.returned<|.tuple #[ZA g y,.int .i64 0])<|(((((((((W.setCell ⟨xz (xj w)+1+1,0,U⟩ v0).setCell ⟨xz (xj w)+1+1,1,U⟩ v1).setCell ⟨xz (xj w)+1+1,2,U⟩ o).setCell ⟨xz (xj w)+1+1,3,U⟩ p).setCell ⟨xz (xj w)+1+1,4,U⟩ v4).setCell ⟨xz (xj w)+1+1,5,U⟩ q).setCell ⟨xz (xj w)+1+1,6,U⟩ v6).setCell ⟨xz (xj w)+1+1,7,U⟩ r).setCell ⟨xz (xj w)+1+1,8,U⟩ t).setCell ⟨xz (xj w)+1+1,9,U⟩ u:=by
 refine⟨y,rfl,WP s.bp Z0,λj d=> ?_⟩;refine Tn (k:=.u64) (Xm (s.own.own j d) λc h=>Vq (by have:=((s.own.own j d).lt c h).1;omega)) λc x f=>⟨Z0,f⟩
def Az{w W:Z3}(a:Below (xz<|xj w) w W)(e:Int){v0 v1 d f v4 g v6 h j k:Zb}:S8 w (Hp.zero,e) (.returned<|.tuple #[.agg ZL,.int .i64 e])<|(((((((((W.setCell ⟨xz (xj w)+1+1,0,U⟩ v0).setCell ⟨xz (xj w)+1+1,1,U⟩ v1).setCell ⟨xz (xj w)+1+1,2,U⟩ d).setCell ⟨xz (xj w)+1+1,3,U⟩ f).setCell ⟨xz (xj w)+1+1,4,U⟩ v4).setCell ⟨xz (xj w)+1+1,5,U⟩ g).setCell ⟨xz (xj w)+1+1,6,U⟩ v6).setCell ⟨xz (xj w)+1+1,7,U⟩ h).setCell ⟨xz (xj w)+1+1,8,U⟩ j).setCell ⟨xz (xj w)+1+1,9,U⟩ k:=
 ⟨λ_=>.slice U 0 0,rfl,WP a Z0,K5 _ _⟩
def ZaN{w W:Z3}{T:Zd}{p:Za}{h:Hp}{y:Z5}{H:Nat}(st:MSt w W T p h y H)(C:h.ok)(G:ZI (Zv h)=xk){w0 u:Int}{j a n m:Nat}(O:ObAt h w0 j a n m u):
  Calls xP 121 #[ZA h y,.int .u64 w0] W λe x=>∃g gc,y j=.slice (J ⟨g,0,U⟩) (I<|Zu h j) gc/\EO W g (a+1) (a+1+m) m (n-m) e x:=by
 have F:j<5:=by obtain rfl|rfl:=O.np<;>omega
 have f:=st.own.own j F;obtain⟨L,K,l⟩:=Xl f;obtain⟨g,B⟩:=JA f l (by have:=O.an;omega);subst B;have d:=f;rw[l]at d;have r:=f.lt g (by rw[l];rfl);have q:=Lq d O.ab;have o:=MV d (by have:=O.an;omega);rw[O.eq];refine(ZaL W (λc=>xz (xj w)+3<=c/\c<xz (xj W)) (λc q=>q.2) h C y (λi D=>Tn (k:=.u64) (st.own.own i D) λc z A=>⟨z,A⟩) G O.np O.ab O.un O.mn O.an (by rw[<-O.eq];exact O.u64) (off:=0) l (by rw[Zit];exact q) r o).mono ?_;rintro e x t;rw[Zit,Zit]at t;exact⟨g,K,l,t⟩
def Zak(w:Z3)(G:Z4)(hG:∀b,G b->b<xz (xj w))(h:Hp)(hh:h.ok)(a6:Z5)(hs:∀j,j<5->Rd w G (.sl<|(Zu h j).map vu) (a6 j))(hl:ZI (Zv h)=xk){k rr z pp v i w0:Int}{s:Nat}(hr:h.E[s]?=J w0)(hv:ZB v)(hi:Yf i)
  {res:Hp×Int} (hO:(w0=0/\res=(Hp.zero,6))\/∃j a n m u,ObAt h w0 j a n m u/\((0<=i/\i< (n-m:Nat)/\res=(V4 h j (a+1+m+i.toNat) v,0))\/(¬(0<=i/\i< (n-m:Nat))/\res=(Hp.zero,1)))):
  Calls xP 126 #[.agg<|Xg k rr s i z pp v,ZA h a6] w (S8 w res):=by
 obtain⟨h0,l⟩|⟨j,a,n,m,u,O,Q⟩:=hO;case' inl=>have H0:=ZhK h0
 case' inl=>have D:=ZhK l
 case' inl=>clear h0 l
 case' inr=>have HO:=ZhK O
 case' inr=>have a9:=ZhK Q
 case' inr=>clear O Q
 all_goals
  have HS:=ZhK hs;have HH:=ZhK hh;have HR:=ZhK hr;clear hs hh hr;unfold ZA Xg;go_enter Z1m,Tryz.ntmps126
  go_wp2_with (first
   |(go_at_call 15;go_loud (refine(zB _ G (λb hb=>by have:=hG b hb;simp;omega) h HH.out a6 (λj hj=>(HS.out j hj).keep (λb hb=>by have:=hG b hb;rw[ZhU _ _ _ ZgJ,ZhU _ _ _ ZgJ,ZhU _ _ _ Z0])<|λ_ h=>h)).mono ?_;rintro e w5 ⟨y,rfl,b1,x⟩;obtain⟨a0,q0,e0⟩:=Xl<|x.own 0 Z0;obtain⟨a1,q1,e1⟩:=Xl<|x.own 1 Z0;obtain⟨a2,q2,e2⟩:=Xl<|x.own 2 Z0;obtain⟨a3,q3,e3⟩:=Xl<|x.own 3 Z0;obtain⟨a4,q4,P⟩:=Xl<|x.own 4 Z0;have a8:=ZhK<|And.intro b1 x;clear b1 x;unfold ZA;rw[e0,e1,e2,e3,P])))
  obtain⟨W6,a5⟩:∃W6,w5.alloc (.cells #[.int .u64 h.base,.int .i64 h.cap,.int .i64 h.to,.bool h.M,.int .i64 h.Z,.slice a0 (I<|Zu h 0) q0,.slice a1 (I<|Zu h 1) q1,.slice a2 (I<|Zu h 2) q2,.slice a3 (I<|Zu h 3) q3,.slice a4 (I<|Zu h 4) q4] 30)=W6:=⟨_,rfl⟩;have a7:MSt w W6 134 #[.int .i64 k,.int .i64 rr,.int .i64 s,.int .i64 i,.int .i64 z,.int .i64 pp,.int .u64 v] h y (xz<|xj w5):=Mm a8.out.1 a8.out.2 (by rw[e0,e1,e2,e3,P];exact a5);have e9:s< I (Zu h 4):=(ZhH.1 HR.out).1;obtain⟨g4,d5⟩:=JA (a7.own.own 4 Z0) P Z0;subst d5;have E:=ZhK<|And.intro e0<|And.intro e1<|And.intro e2<|And.intro e3 P
  have Z:∀u,MSt w u 134 #[.int .i64 k,.int .i64 rr,.int .i64 s,.int .i64 i,.int .i64 z,.int .i64 pp,.int .u64 v] h y (xz<|xj w5)->
    (λL=>(∀j,L.cell? ⟨xz<|xj w,j,U⟩=(#[.int .i64 k,.int .i64 rr,.int .i64 s,.int .i64 i,.int .i64 z,.int .i64 pp,.int .u64 v]:Array Value)[j]?)/\(∀j,L.cell? ⟨xz<|xj w5,j,U⟩=(#[.int .u64 h.base,.int .i64 h.cap,.int .i64 h.to,.bool h.M,.int .i64 h.Z,.slice a0 (I<|Zu h 0) q0,.slice a1 (I<|Zu h 1) q1,.slice a2 (I<|Zu h 2) q2,.slice a3 (I<|Zu h 3) q3,.slice (J ⟨g4,0,U⟩) (I<|Zu h 4) q4]:Array Value)[j]?)/\
     L.cell? ⟨g4,s,U⟩=J (.int .u64 w0)/\MSt w L 134 #[.int .i64 k,.int .i64 rr,.int .i64 s,.int .i64 i,.int .i64 z,.int .i64 pp,.int .u64 v] h y (xz<|xj w5)) u:=λu st=>by
   obtain⟨f1,f2⟩:=st.F;obtain⟨e0,e1,e2,e3,P⟩:=E.out;rw[e0,e1,e2,e3,P]at f2;have h4:=st.own.own 4 Z0;rw[P]at h4;exact⟨f1,f2,Lq h4 HR.out,st⟩
  have b0:=ZhK Z;have C:=Z W6.drew a7.drew;rw[a5];clear a7 Z e0 e1 e2 e3 P a5
  go_region_held3 (λL=>(∀j,L.cell? ⟨xz<|xj w,j,U⟩=(#[.int .i64 k,.int .i64 rr,.int .i64 s,.int .i64 i,.int .i64 z,.int .i64 pp,.int .u64 v]:Array Value)[j]?)/\(∀j,L.cell? ⟨xz<|xj w5,j,U⟩=(#[.int .u64 h.base,.int .i64 h.cap,.int .i64 h.to,.bool h.M,.int .i64 h.Z,.slice a0 (I<|Zu h 0) q0,.slice a1 (I<|Zu h 1) q1,.slice a2 (I<|Zu h 2) q2,.slice a3 (I<|Zu h 3) q3,.slice (J ⟨g4,0,U⟩) (I<|Zu h 4) q4]:Array Value)[j]?)/\
     L.cell? ⟨g4,s,U⟩=J (.int .u64 w0)/\MSt w L 134 #[.int .i64 k,.int .i64 rr,.int .i64 s,.int .i64 i,.int .i64 z,.int .i64 pp,.int .u64 v] h y (xz<|xj w5)) (first|exact C|assumption)
   (first
    |(go_at_call 121;have A:=ZaM (w0:=w0) W6.drew h y H0.out;unfold ZA at A;rw[E.out.1,E.out.2.1,E.out.2.2.1,E.out.2.2.2.1,E.out.2.2.2.2]at A;refine A.mono ?_;rintro e e5 ⟨rfl,q⟩;have Y:=b0.out _<|C.2.2.2.below q)
    |(go_at_call 121;have A:=ZaN C.2.2.2 HH.out hl HO.out;unfold ZA at A;rw[E.out.1,E.out.2.1,E.out.2.2.1,E.out.2.2.2.1,E.out.2.2.2.2]at A;refine A.mono ?_;rintro e e5 ⟨g,gc,b2,p1,l1,c1,p2,l2,c2,rfl,d8,d9,b8,b9,q⟩;have Y:=b0.out _<|C.2.2.2.below q))
 .obtain⟨f1,f2,f3,f⟩:=Y;have o:=ZhK f;have S:=ZhK<|And.intro b2<|And.intro b8<|And.intro b9<|And.intro d8 d9;clear C f b2 b8 b9 q f3;rename_i t;clear t;have b6:n-m<=1000000:=by have:=Su HH.out j;have:=HO.out.an;omega
  obtain⟨b3,d6,l⟩|⟨b7,l⟩:=a9.out
  .have T:=λW=>Z0p W hi (p:=p2) (n:=n-m) (c:=c2) b6;rw[Zlp<|And.intro b3 d6]at T;have X:=ZhK T;obtain⟨i',rfl⟩:=ZhW b3;have c0:p2=J ⟨g,a+1+m,U⟩:=S.out.2.2.1 Z0;subst c0;clear T;obtain⟨idx,b4⟩:∃idx,a+1+m+i'=idx:=⟨_,rfl⟩;have d7:idx< I (Zu h j):=by have:=HO.out.an;have:=HO.out.mn;omega
   have b5:j<5:=by obtain rfl|rfl:=HO.out.np<;>omega
   rw[show a+1+m+Int.toNat (i':Int)=idx by omega]at l;have D:=ZhK l;have c7:=ZhK b4;clear l
   go_wp2_with (first
    |(go_at_call 122;go_loud (refine(X.out _).mono ?_;rintro e e6 ⟨rfl,r⟩;have d:=o.out.below r;obtain⟨k1,k2⟩:=d.F;have K:=d.own.own j b5;rw[S.out.1]at K;have e7:=Lq K<|ZhG d7;have e8:=Cj K (i:=idx) (by omega);have B:=d.put b5 (i:=idx) S.out.1 v;obtain⟨k3,k4⟩:=B.F;obtain⟨r3,r4⟩:=B.R;obtain⟨s1,s2,s3,s4,s5⟩:=jt h j idx v;rw[s1,s2,s3,s4,s5,E.out.1,E.out.2.1,E.out.2.2.1,E.out.2.2.2.1,E.out.2.2.2.2]at k4;have N:=ZhK B;clear d B r K s1 s2 s3 s4 s5 k2)))
   rw[D.out];have d0:=Hx h j idx v y;have H:=U4 N.out.cx (.int .u64 h.base) (.int .i64 h.cap) (.int .i64 h.to) (.bool h.M) (.int .i64 h.Z) (.slice a0 (I<|Zu h 0) q0) (.slice a1 (I<|Zu h 1) q1) (.slice a2 (I<|Zu h 2) q2) (.slice a3 (I<|Zu h 3) q3)<|.slice (J ⟨g4,0,U⟩) (I<|Zu h 4) q4;refine Zie (v:=.tuple #[ZA (V4 h j idx v) y,.int .i64 0]) ?_ rfl ?_
   .rw[d0];unfold ZA;rw[E.out.1,E.out.2.1,E.out.2.2.1,E.out.2.2.2.1,E.out.2.2.2.2];simp[results,Tryz.results126,go_sem,H,c7.out]
   exact Gj N.out
  .have T:=λW=>Z0p W hi (p:=p2) (n:=n-m) (c:=c2) b6;rw[decide_eq_false b7]at T;have X:=ZhK T;have D:=ZhK l;clear T l b7
   go_wp2_with (first
    |(go_at_call 122;go_loud (refine(X.out _).mono ?_;rintro e e6 ⟨rfl,r⟩;have d:=o.out.below r;obtain⟨k1,k2⟩:=d.F;obtain⟨r3,r4⟩:=d.R;have M:=ZhK d;clear d r)))
   rw[D.out];have H:=U4 M.out.cx (.int .u64 0) (.int .i64 0) (.int .i64 0) (.bool xw) (.int .i64 0) (.slice U 0 0) (.slice U 0 0) (.slice U 0 0) (.slice U 0 0)<|.slice U 0 0;refine Zie (v:=.tuple #[.agg ZL,.int .i64 1]) ?_ rfl ?_
   .simp[results,Tryz.results126,go_sem,H,ZL]
   exact Az M.out.bp 1
 .obtain⟨f1,f2,f3,f⟩:=Y;obtain⟨r3,r4⟩:=f.R;have o:=ZhK f;clear C f q f3;rename_i t;clear t;go_wp2;rw[D.out];have H:=U4 o.out.cx (.int .u64 0) (.int .i64 0) (.int .i64 0) (.bool xw) (.int .i64 0) (.slice U 0 0) (.slice U 0 0) (.slice U 0 0) (.slice U 0 0)<|.slice U 0 0;refine Zie (v:=.tuple #[.agg ZL,.int .i64 6]) ?_ rfl ?_
  .simp[results,Tryz.results126,go_sem,H,ZL]
  exact Az o.out.bp 6
end Vm
end
section
namespace Vm
open Go Go.Proofs
def p4:Fn:=⟨26,[0,1,3,2,4,6,5,7,9,8,10,12,11,13,15,14,16,18,17,19,21,20,22,24,23,25],pQ [pR [pV 0 pF],.ao ⟨[],[([],.ag [pU 10,pI 5,pI 0,pF,pI 0,pN,pN,pN,pN,.lit [pU 0]])],[(1,.m [pU 10,pI 5,pI 0,pF,pI 0,pN,pN,pN,pN,.lit [pU 0]])]⟩,pC [pK 26 10 [.mm 1 0 10,.ag [pI 1,pI 0,pI 0,pI 0,.ae (.ag [pI 2,pI 1]) 0,.ae (.ag [pI 2,pI 1]) 1,pU 0]]] [(2,pM (.sz (.ext (.s 26) 1) 10) 10),pV 3<|.fl<|.ext (.s 26) 0,pV 4<|.fl<|.ext (.s 26) 2],pC [pK 27 10 [.mm 2 0 10,.ag [pI 5,pI 0,pI 0,pI 0,pI 0,pI 0,pU 9]]] [(5,pM (.sz (.ext (.s 27) 1) 10) 10),pV 6<|.ext (.s 27) 0,pV 7<|.ext (.s 27) 2],pC [pK 28 10 [.mm 5 0 10,.ag [pI 3,pI 0,pI 0,pI 0,pI 0,pI 0,pU 0]]] [(8,pM (.sz (.ext (.s 28) 1) 10) 10),pV 9<|.ext (.s 28) 0,pV 10<|.ext (.s 28) 2],pC [pK 29 10 [.mm 2 0 10,.ag [pI 1,pI 0,pI 0,pI 0,.ae (.ag [pI 2,pI 0]) 0,.ae (.ag [pI 2,pI 0]) 1,pU 0]]] [(11,pM (.sz (.ext (.s 29) 1) 10) 10),pV 12<|.ext (.s 29) 0,pV 13<|.ext (.s 29) 2],pC [pK 30 10 [.mm 1 0 10,.ag [pI 3,pI 0,pI 0,pI 0,pI 0,pI 0,pU 0]]] [(14,pM (.sz (.ext (.s 30) 1) 10) 10),pV 15<|.ext (.s 30) 0,pV 16<|.ext (.s 30) 2],pC [pK 31 10 [.mm 1 0 10,.ag [pI 0,pI 0,pI 0,pI 0,pI 0,pI 0,pU 0]]] [(17,pM (.sz (.ext (.s 31) 1) 10) 10),pV 18<|.ext (.s 31) 0,pV 19<|.ext (.s 31) 2],pC [pK 32 7 [.mm 1 0 10,.ag [pI 4,pI 0]]] [(20,pM (.sz (.ext (.s 32) 1) 10) 10),pV 21<|.ext (.s 32) 0,pV 22<|.ext (.s 32) 2],pC [pK 33 7 [.mm 1 0 10,.ag [pI 5,pI 0]]] [(23,pM (.sz (.ext (.s 33) 1) 10) 10),pV 24<|.ext (.s 33) 0,pV 25<|.ext (.s 33) 2],.ao ⟨[.lt 34 []<|pe (.s 4)<|pI 0,.call 35 [(34,xk)] (.id 11) xw xw [.mm 2 0 10,.ag [pU 10,pI 5,pI 0,pF,pI 0,pN,.lit [pU 131076,pU 0,pU 0],pN,pN,.lit [pU 25]]],.lt 36 []<|.ite (.s 34) (.s 35) pF,.lt 37 []<|.ite (.s 36) (pe (.s 7)<|pI 0) pF,.lt 38 []<|.ite (.s 37) (pe (.s 10)<|pI 0) pF,.lt 39 []<|.ite (.s 38) (pe (.s 9)<|pU 9) pF,.lt 40 []<|.ite (.s 39) (pe (.s 13)<|pI 7) pF,.lt 41 []<|.ite (.s 40) (pe (.s 16)<|pI 6) pF,.lt 42 []<|.ite (.s 41) (pe (.s 19)<|pI 1) pF,.lt 43 []<|.ite (.s 42) (pe (.s 22)<|pI 0) pF,.lt 44 []<|.ite (.s 43) (pe (.s 21)<|pU 21) pF],[([(36,xk)],pe (.s 7)<|pI 0),([(37,xk)],pe (.s 10)<|pI 0),([(38,xk)],pe (.s 9)<|pU 9),([(39,xk)],pe (.s 13)<|pI 7),([(40,xk)],pe (.s 16)<|pI 6),([(41,xk)],pe (.s 19)<|pI 1),([(42,xk)],pe (.s 22)<|pI 0),([(43,xk)],pe (.s 21)<|pU 21),([(44,xk)],pe (.s 25)<|pI 7)],[pV 0<|.ite (.s 44) (pe (.s 25)<|pI 7) pF]⟩] .ret,[(0,.v)]⟩
def c4:ZN xP fresh sig [] [] Tryz.f4=J p4:=Z2
def p6:Fn:=⟨4,[0,1,4,6],pQ [pR [pV 2<|pI 0],pi 3 (pl (.s 0)<|pI 0)<|pR [pV 0<|.un .neg<|pa (.s 0)<|pI 1]]<|px [pV 2<|.bn .rem (.s 0)<|.s 1],[(2,.v)]⟩
def c6:ZN xP fresh sig [.fz,.fz] [] Tryz.f6=J p6:=Z2
def N4:Fn:=⟨5,[0,1,2,3,6],pQ [pR [(1,pS 0 2),pV 2<|pU 0,pV 3<|pI 0],pQ [pC [pK 5 35 [.mm 1 0 2]] [pV 4<|.un .not<|.s 5]]<|pw (.s 4)<|px [pV 2<|pU 0,pV 3<|pI 1]]<|px [pV 2<|pa (.bn .shl (.conv .u64<|.m 1 0)<|pU 1)<|.bn .shl (.conv .u64<|.m 1 1)<|pU 17,pV 3<|pI 0],[(2,.v),(3,.v)]⟩
def c14:ZN xP fresh sig [.fz] [] Tryz.f14=J N4:=Z2
def N5:Fn:=⟨4,[0,1,2,4],pQ [pR [(2,pS 0 10),pV 3 pF],pC [pK 4 37 [.mm 2 0 10]] [pV 3<|pL (pa (pa (pa (.len<|.m 2 5)<|.len<|.m 2 6)<|.s 4)<|.s 1)<|.m 2 1]] .ret,[(3,.v)]⟩
def c16:ZN xP fresh sig [.fz,.fz] [] Tryz.f16=J N5:=Z2
def Cn:Fn:=⟨15,[0,1,2,4,5,6,7,18,8,28,9,34,10,47,11],pQ [pR [(2,pS 0 10),pV 3 pN,pV 4 pN,pV 5<|pI 0],pC [pK 15 46 [.s 1]] [pV 5<|.ext (.s 15) 1,pV 6<|.ext (.s 15) 0],pi 7 (pn (.s 5)<|pI 0)<|px [],pC [pK 16 20 [.mm 2 0 10],pK 17 56 [.s 16,.s 6]] [pV 5<|.ext (.s 17) 1,(8,pM (.sz (.ext (.s 17) 0) 2) 2)],pi 9 (pn (.s 5)<|pI 0)<|px [],pR [pV 10<|.m 2 5],pi 11 (pe (.m 8 0)<|pI 2)<|pR [pV 10<|.m 2 6],pC [pK 18 58 [.ae (.az (.s 10) (.m 8 1) 1) 0]] [pV 5<|.ext (.s 18) 1,(12,pM (.sz (.ext (.s 18) 0) 2) 2)],pi 13 (pn (.s 5)<|pI 0)<|px [],pR [pV 14<|pa (.m 8 1)<|pI 1]]<|px [pV 3<|.fu (.s 10) (.s 14) (pa (.s 14)<|.m 12 1) 1,pV 4<|.fu (.s 10) (pa (.s 14)<|.m 12 1) (pa (.s 14)<|.m 12 0) 1,pV 5<|pI 0],[(3,.v),(4,.v),(5,.v)]⟩
def G0:ZN xP fresh sig [.fz,.fz] [] Tryz.f121=J Cn:=Z2
def N0:Fn:=⟨3,[0,1,4],pQ [pR [pV 2 pF],.ao ⟨[.lt 3 []<|pg (.s 0)<|pI 0],[([(3,xk)],pl (.s 0)<|.len<|.s 1)],[pV 2<|.ite (.s 3) (pl (.s 0)<|.len<|.s 1) pF]⟩] .ret,[(2,.v)]⟩
def Z2Z:ZN xP fresh sig [.fz,.fz] [] Tryz.f122=J N0:=Z2
def N1:Fn:=⟨11,[0,1,2,3,4,5,6,7,8,23,31],pQ [pR [(2,pS 0 7),(3,pS 1 10),(4,pZ),pV 5<|pI 0],pC [pK 11 121 [.mm 3 0 10,.ae (.az (.m 3 9) (.m 2 2) 1) 0]] [pV 6<|.ext (.s 11) 0,pV 7<|.ext (.s 11) 1,pV 8<|.ext (.s 11) 2],pi 9 (pn (.s 8)<|pI 0)<|pQ [.ao ⟨[],[([],pY)],[(4,pZ),pV 5<|.s 8]⟩] .ret,pQ [pC [pK 12 122 [.m 2 3,.s 7]] [pV 10<|.un .not<|.s 12]]<|pw (.s 10)<|pQ [.ao ⟨[],[([],pY)],[(4,pZ),pV 5<|pI 1]⟩] .ret,pC [pK 13 15 [.mm 3 0 10]] [(4,pS 13 10),pV 5<|pI 0]] .ret,[(4,(.ag 10)),(5,.v)]⟩
def Z30:ZN xP fresh sig [.fz,.fz] [] Tryz.f123=J N1:=Z2
def N2:Fn:=⟨9,[0,1,2,3,4,5,6,7,22],pQ [pR [(2,pS 0 7),(3,pS 1 10),pV 4<|pU 0],pC [pK 9 121 [.mm 3 0 10,.ae (.az (.m 3 9) (.m 2 2) 1) 0]] [pV 5<|.ext (.s 9) 0,pV 6<|.ext (.s 9) 1,pV 7<|.ext (.s 9) 2],pi 8 (pn (.s 7)<|pI 0)<|px [pV 4<|pU 0]]<|px [pV 4<|.ae (.az (.s 6) (.m 2 3) 1) 0],[(4,.v)]⟩
def Z31:ZN xP fresh sig [.fz,.fz] [] Tryz.f124=J N2:=Z2
def Z4s{s p:Int}:VC xP 14 xw [Uz s p]<|.al [vu (Xa s p).1,vi (Xa s p).2]:=by
 refine ZT ET follows Z2 c14 rfl ?_;simp[N4];refine Zy Dh Z1 ?_;cases h:Yv s p;simp[Xa,h];obtain⟨q,r,t,u⟩:=Yz.1 h;have a:=ZS s Z0 Z0;have d:=ZS p Z0 Z0;have n:(2:Int) ^ min 1 IntKind.u64.bits=2:=ZgV;have o:(2:Int) ^ min 17 IntKind.u64.bits=131072:=ZgV;have f:=ZS (p*131072) Z0 Z0;have g:=ZS (s*2) Z0 Z0;have j:=ZS (s*2+p*131072) Z0 Z0;have k:s*2+p*131072=2*(s+65536*p):=Z0;have l:=ZS (2*(s+65536*p)) Z0 Z0;simp[Xa,h,Xb,a,d,n,o,f,g,j,k,l]
def Xn(h:Hp)(p:Pts)(n:Int):Bool:=decide ((I h.H:Int)+I h.aa+YK p+n<=h.cap)
def Rt.oe{h:Hp}{p:Pts}(r:Rt h p):h.cap<=4096:=by
 exact(XH.1 r.bc).2.1
def Z9A{h:Hp}(g:h.ok){p:Pts}(r:Rt h p){n:Int}(l:0<=n/\n<=1000):VC xP 16 xw [ZE h,vi n]<|.bool<|Xn h p n:=by
 refine ZT EV follows Z2 c16 rfl ?_;have k1:=Z0R g;rw[r.nf]at k1;have j:=r.room;have k:=r.oe;simp only[ZE]at k1⊢;simp[N5];refine Zy k1 Z1 ?_;have a:=Zx ((I h.H:Int)+I h.aa) Z0 Z0;have d:=Zx ((I h.H:Int)+I h.aa+(YK p:Nat)) Z0 Z0;have f:=Zx ((I h.H:Int)+I h.aa+(YK p:Nat)+n) Z0 Z0;simp[a,d,f,Xn]
def ZbN{i:Int}{l:Z9}:VC xP 122 xw [vi i,.sl<|l.map vu]<|.bool<|decide (0<=i/\i<I l):=by
 refine ZT Kk follows Z2 Z2Z rfl ?_;by_cases a:0<=i<;>by_cases d:i<I l<;>simp[N0,a,d]
def NZ{c n:Int}(hc:Yf c)(f:0<n):VC xP 6 xw [vi c,vi n]<|vi<|pick c n:=by
 refine ZT Z1P follows Z2 c6 rfl ?_;obtain⟨a,d⟩:=hc;by_cases h:c<0;simp[p6,h];simp(disch:=omega) only[Zx];refine⟨Z0,?_⟩;unfold pick;rw[ZhS h,ZiL Z0];simp[p6,h];refine⟨Z0,?_⟩;unfold pick;rw[ZhP h,ZiL Z0]
def PC(h:Hp)(j a m:Nat):List Int:=((Zu h j).take<|a+1+m).drop<|a+1
def QE(h:Hp)(j a n m:Nat):List Int:=((Zu h j).take<|a+1+n).drop<|a+1+m
def PG{h:Hp}(l:h.ok)(w:ZI (Zv h)=xk){w0 u:Int}{j a n m:Nat}(O:ObAt h w0 j a n m u):
  VC xP 121 xw [ZE h,vu w0] (.al [.sl<|(PC h j a m).map vu,.sl<|(QE h j a n m).map vu,vi 0]):=by
 refine ZT Kj follows Z2 G0 rfl ?_;have A:=O.an;have F:YI (Zv h) ((j:Int)+1)=I (Zu h j):=by
  obtain rfl|rfl:=O.np<;>rfl
 have o:=UB w (k:=(j:Int)+1) (a:=a) Z0;have r:=Rb w (k:=(j:Int)+1) (a:=a) (by have:=O.np;omega) Z0;have k1:=RR O.u64;have g:=A6 O.u64;rw[O.eq,o]at k1 g;have y:=GP l.bc g;rw[r]at y;have t:ZB u:=by
  obtain rfl|rfl:=O.np;exact l.ex u<|ZhR O.ab;exact l.eu u<|ZhR O.ab
 have z:=DX t;rw[O.un]at z;have x:=jT (h:=h);have C:=Su l j;have D:=O.mn;have w1:IntKind.i64.wrap ((a:Int)+1)=((a+1:Nat):Int):=Zx _ Z0 Z0;have w2:IntKind.i64.wrap (((a+1:Nat):Int)+m)=((a+1+m:Nat):Int):=Zx _ Z0 Z0;have w3:IntKind.i64.wrap (((a+1:Nat):Int)+n)=((a+1+n:Nat):Int):=Zx _ Z0 Z0;generalize B:a+1=f at w1 w2 w3⊢;generalize p:f+m=G at w2⊢;generalize q:f+n=H at w3⊢;rw[O.eq];simp only[ZE]at x⊢;simp[Cn];refine Zy k1 Z1 ?_;simp;refine Zy x Z1 ?_;simp;refine Zy y Z1 ?_;have d:=O.ab;unfold PC QE;obtain rfl|rfl:=O.np;all_goals
  simp[Zu]at d A⊢;have K:=Yl d;simp[d];refine Zy z Z1 ?_;simp[w1,w2,w3];subst B p q;exact⟨Z0,Z0,rfl,rfl⟩
def ZaJ{h:Hp}:VC xP 121 xw [ZE h,vu 0]<|.al [.sl [],.sl [],vi 6]:=by
 refine ZT Kj follows Z2 G0 rfl ?_;have k1:=RR (w:=0) (by unfold ZB;omega);rw[show adr 0=(0,6)by decide+kernel]at k1;simp[Cn,ZE];refine Zy k1 Z1 ?_;simp
def Z7P{h:Hp}(t:h.ok):VC xP 15 xw [ZE h]<|ZE h:=by
 refine⟨Z2,λw G vs p d f=> ?_⟩;have r0:=f 0 _ rfl;have r:vs=#[vs.getD 0 xy]:=by
  have a:vs.size=1:=d;apply Zka;simp[a];intro i l n;have u:i<1:=Z0
  match i,u with
  |0,_=>simp[Array.getD,a]
 obtain⟨g,o,A⟩:=KU r0;rw[r,o];refine(zB w G p h t g A).mono ?_;rintro e B ⟨x,rfl,q,z⟩;exact⟨_,rfl,q,Sj λj y=>Tn (k:=.u64) (z.own j y) λc l n=>.inr ⟨l,n⟩⟩
def VN(k r s i z p v:Int):V:=.agg [vi k,vi r,vi s,vi i,vi z,vi p,vu v]
def Z4h{h:Hp}(o:h.ok)(A:ZI (Zv h)=xk){k r i z p v w0:Int}{s:Nat}(q:h.E[s]?=J w0)
  {res:Hp×Int} (y:(w0=0/\res=(Hp.zero,6))\/∃j a n m u,ObAt h w0 j a n m u/\((0<=i/\i< (n-m:Nat)/\res=(h,0))\/(¬(0<=i/\i< (n-m:Nat))/\res=(Hp.zero,1)))):
  VC xP 123 xw [VN k r s i z p v,ZE h] (.al [ZE res.1,vi res.2]):=by
 refine ZT Z1k follows Z2 Z30 rfl ?_;have B:=(ZhH.1 q).1;have C:=o.E;simp[N1,ZE,VN,q];obtain⟨rfl,rfl⟩|⟨j,a,n,m,u,O,f⟩:=y;have k1:=ZaJ (h:=h);simp only[ZE]at k1;refine Zy k1 Z1 ?_;simp[Hp.zero];have k1:=PG o A O;simp only[ZE]at k1;refine Zy k1 Z1 ?_;simp;have d:I (QE h j a n m)=n-m:=by have:=O.an;have:=O.mn;simp[QE];omega
 have t:=ZbN (i:=i) (l:=QE h j a n m);rw[d]at t;refine Zy t Z1 ?_;obtain⟨g,x,rfl⟩|⟨g,rfl⟩:=f;rw[Zlp<|And.intro g x];have w:=Z7P o;simp only[ZE]at w;simp;refine Zy w Z1 ?_;simp;rw[decide_eq_false g];simp[Hp.zero]
def Zbq{h:Hp}(l:h.ok)(o:ZI (Zv h)=xk){k r z p v w0 u y:Int}{s i j a n m:Nat}(f:h.E[s]?=J w0)(O:ObAt h w0 j a n m u)(t:(Zu h j)[a+1+m+i]?=J y)(w:i<n-m):
  VC xP 124 xw [VN k r s i z p v,ZE h] (vu y):=by
 refine ZT Z1l follows Z2 Z31 rfl ?_;have q:=(ZhH.1 f).1;simp[N2,ZE,VN,f];have k1:=PG l o O;simp only[ZE]at k1;refine Zy k1 Z1 ?_;have d:(QE h j a n m)[i]?=J y:=by
  unfold QE;rw[Zil,Zim,ZhS Z0];exact t
 have g:=(ZhH.1 d).1;simp[d]
end Vm
end
section
namespace Vm
open Go Go.Proofs Go.RowKit Go.Shelf
section
attribute [local go_sem] Oper.semAt_some
def ZbU{n P c Q a w}(h:c.wpIn Fence.wide n P (Exit.noGoto Q) a w):(Code.scope c).wpIn Fence.wide n P Q a w:=
 wpIn_wide.2 (wp_scope_straight<|wpIn_wide.1 h)
def Z8Y{W W'}{B:Z4}{b r}{l:Z9}{y}(h:Rd W (λc=>B c/\c<xz (xj W)/\c≠b) (.sl<|l.map vu) y)(d:W.grownBy W'<|J r)(f:¬B r):
  Rd W' (λc=>B c/\c<xz (xj W')/\c≠b) (.sl<|l.map vu) y:=
 (h.keep (λc a=>d.block c a.2.1 λe=>ZgI) λc a=>a).mono λc a=>⟨a.1,ZhO a.2.1 d.size,a.2.2⟩
theorem NowI.kept{B W W' b r g x}(S:NowI B W b g x)(a:W.grownBy W'<|J r)(d:¬B r):NowI B W' b g x:=
 ⟨S.le,(a.block b (Y1 S.nb) λe=>by cases e;exact d S.le).trans S.nb,λj f=>Z8Y (S.rd j f) a d⟩
def K0:Array Value:=#[.int .u64 0,.int .i64 0,.int .i64 0,.bool xw,.int .i64 0,.slice U 0 0,.slice U 0 0,.slice U 0 0,.slice U 0 0,.slice U 0 0]
structure ScI (B:Nat->Prop) (w:World) (b:Nat) (h:Hp) (k done:Nat) (W:World):Prop where
 cz:∃x,NowI B W b (Y9 h done) x
 le:done<=k
 kb:W.heap[xz (xj w)+1]?=J (.cells #[.int .i64<|(k:Int) - (done:Nat)] 3 (0,0))
 r0:W.heap[xz (xj w)+2]?=J (.cells K0 30 (0,0))
 r1:W.heap[xz (xj w)+3]?=J (.cells #[.int .i64 0] 35 (0,0))
 fn:W.heap[b+1]?=J (.cells #[.func (.func 62) #[] #[.pointer<|J ⟨b,0,U⟩]] 150 (0,0))
 gr:w.grownBy W U
def ScI.dq{B w b h k done W W' row}(S:ScI B w b h k done W)(a:W.grownBy W' row)(j:∀r,row=J r->xz (xj w)<=r/\∃o,W.heap[r]?=J o/\o.isCells=xw):ScI B w b h k done W':=by
 let⟨x,n⟩:=S.cz
 have q:∀c (o:Obj),W.heap[c]?=J o->o.isCells=xk->W'.heap[c]?=J o:=λc o d l=>(a.block c ZgH λe=>by
  let⟨_,p,f,g⟩:=j c e.symm;rw[d]at f;cases f;rw[l]at g;cases g).trans d
 exact⟨⟨x,n.dq a λr e=>(j r e).2⟩,S.le,q _ _ S.kb rfl,q _ _ S.r0 rfl,q _ _ S.r1 rfl,q _ _ S.fn rfl,Tf S.gr a λr e=>ZgI⟩
def Z5S(W:Z3)(b:Nat):Calls xP 63 #[.pointer<|J ⟨b,0,U⟩] W λe d=>e=.returned (.func (.func 81) #[] #[.pointer<|J ⟨xz<|xj W,0,U⟩])/\d=W.alloc (.cells #[.pointer<|J ⟨b,0,U⟩] 154):=by
 have a:∀(fn:Go.Fn) (first cap:Za) (w:Z3),(Instr.makeFunc fn first cap).run xP w=.ok (.func fn first cap) w:=λ_ _ _ _=>rfl;go_enter Fd,Tryz.ntmps63;go_wp2;exact Zie (v:=.func (.func 81) #[] #[.pointer<|J ⟨xz<|xj W,0,U⟩]) (by simp[results,Tryz.results63,go_sem]) rfl ⟨rfl,rfl⟩
def Z49(w:Z3)d a f g:∃W,(((w.alloc d).alloc a).alloc f).alloc g=W/\xz (xj W)=xz (xj w)+4/\w.grownBy W U/\W.heap[xz (xj w)+1]?=J a/\W.heap[xz (xj w)+2]?=J f/\W.heap[xz (xj w)+3]?=J g:=by
 refine⟨_,rfl,Z1,⟨rfl,rfl,rfl,ZgJ,λk h _=> ?_⟩,?_,?_,?_⟩;rw[ZhU _ _ _ ZgJ,ZhU _ _ _ ZgJ,ZhU _ _ _ ZgJ,ZhU _ _ _ h];rw[ZhU _ _ _ Z1,ZhU _ _ _ Z1];have:=ZiU (w.alloc d) a;rwa[ZjM]at this;rw[ZhU _ _ _ Z1];have:=ZiU ((w.alloc d).alloc a) f;simpa using this;have:=ZiU (((w.alloc d).alloc a).alloc f) g;simpa using this
def Zab{w w0 w1:Z3}{G:Z4}(u:∀b,G b->b<xz (xj w)){h:Hp}(A:h.ok){p:Pts}(r:Rt h p){k:Nat}{d:Z5}(H:xz (xj w0)=xz (xj w)+4)(n:w.grownBy w0 U)
  (k1:w0.heap[xz (xj w)+1]?=J (.cells #[.int .i64 k] 3 (0,0))) (K:w0.heap[xz (xj w)+2]?=J (.cells K0 30 (0,0))) (L:w0.heap[xz (xj w)+3]?=J (.cells #[.int .i64 0] 35 (0,0)))
  (l:Below (xz<|xj w0) w0 w1) (hx:∀j,j<5->Rd w1 (λc=>G c\/(xz (xj w0)<=c/\c<xz (xj w1))) (.sl<|(Zu h j).map vu) (d j)):
  ∃w3,((w1.alloc<|.cells (Yn h d) 30).alloc<|.cells #[.func (.func 62) #[] #[.pointer<|J ⟨xz<|xj w1,0,U⟩]] 150).alloc (.cells #[.pointer<|J ⟨xz<|xj w1,0,U⟩] 154)=w3/\
   xz (xj w3)=xz (xj w1)+3/\xz (xj w0)<=xz (xj w1)/\ScI (λc=>G c\/xz (xj w)+4<=c) w (xz<|xj w1) h k 0 w3/\KnI (λc=>G c\/xz (xj w)+4<=c) (xz<|xj w1) (xz (xj w1)+2) p w3:=by
 refine⟨_,rfl,Z1,l.size,?_⟩;have g:∀c,c<xz (xj w1)->(((w1.alloc<|.cells (Yn h d) 30).alloc<|.cells #[.func (.func 62) #[] #[.pointer<|J ⟨xz<|xj w1,0,U⟩]] 150).alloc<|.cells #[.pointer<|J ⟨xz<|xj w1,0,U⟩] 154).heap[c]?=w1.heap[c]? :=λc a=>by
  rw[ZhU _ _ _ ZgJ,ZhU _ _ _ ZgJ,ZhU _ _ _ a]
 have F:xz (xj<|((w1.alloc<|.cells (Yn h d) 30).alloc<|.cells #[.func (.func 62) #[] #[.pointer<|J ⟨xz<|xj w1,0,U⟩]] 150).alloc<|.cells #[.pointer<|J ⟨xz<|xj w1,0,U⟩] 154)=xz (xj w1)+3:=Z1;have x:(((w1.alloc<|.cells (Yn h d) 30).alloc<|.cells #[.func (.func 62) #[] #[.pointer<|J ⟨xz<|xj w1,0,U⟩]] 150).alloc<|.cells #[.pointer<|J ⟨xz<|xj w1,0,U⟩] 154).heap[xz<|xj w1]?=J (.cells (Yn h d) 30 (0,0)):=by
  rw[ZhU _ _ _ ZgJ,ZhU _ _ _ Z1];exact ZiU _ _
 have y:(((w1.alloc<|.cells (Yn h d) 30).alloc<|.cells #[.func (.func 62) #[] #[.pointer<|J ⟨xz<|xj w1,0,U⟩]] 150).alloc<|.cells #[.pointer<|J ⟨xz<|xj w1,0,U⟩] 154).heap[xz (xj w1)+1]?=J (.cells #[.func (.func 62) #[] #[.pointer<|J ⟨xz<|xj w1,0,U⟩]] 150 (0,0)):=by
  rw[ZhU _ _ _ Z1];have:=ZiU (w1.alloc<|.cells (Yn h d) 30)<|.cells #[.func (.func 62) #[] #[.pointer<|J ⟨xz<|xj w1,0,U⟩]] 150;rwa[ZjM]at this
 have z:(((w1.alloc<|.cells (Yn h d) 30).alloc<|.cells #[.func (.func 62) #[] #[.pointer<|J ⟨xz<|xj w1,0,U⟩]] 150).alloc<|.cells #[.pointer<|J ⟨xz<|xj w1,0,U⟩] 154).heap[xz (xj w1)+2]?=J (.cells #[.pointer<|J ⟨xz<|xj w1,0,U⟩] 154 (0,0)):=by
  have:=ZiU ((w1.alloc<|.cells (Yn h d) 30).alloc<|.cells #[.func (.func 62) #[] #[.pointer<|J ⟨xz<|xj w1,0,U⟩]] 150)<|.cells #[.pointer<|J ⟨xz<|xj w1,0,U⟩] 154;simpa using this
 have D:=l.size;have t:w1.grownBy (((w1.alloc<|.cells (Yn h d) 30).alloc<|.cells #[.func (.func 62) #[] #[.pointer<|J ⟨xz<|xj w1,0,U⟩]] 150).alloc<|.cells #[.pointer<|J ⟨xz<|xj w1,0,U⟩] 154) U:=⟨rfl,rfl,rfl,Z0,λc a _=>g c a⟩;generalize ((w1.alloc<|.cells (Yn h d) 30).alloc<|.cells #[.func (.func 62) #[] #[.pointer<|J ⟨xz<|xj w1,0,U⟩]] 150).alloc (.cells #[.pointer<|J ⟨xz<|xj w1,0,U⟩] 154)=w3 at*;have f:NowI (λc=>G c\/xz (xj w)+4<=c) w3 (xz<|xj w1) h d:=by
  refine⟨.inr Z0,x,λj B=>((hx j B).keep (λc a=>g c ?_) λc a=>a).mono λc a=> ?_⟩;obtain a|a:=a;have:=u c a;omega;exact a.2;obtain a|a:=a;have:=u c a;exact⟨.inl a,Z0,Z0⟩;exact⟨.inr Z0,Z0,Z0⟩
 have q:∀c o,w0.heap[c]?=J o->w3.heap[c]?=J o:=λc o a=>by
  have C:=Y1 a;rw[g c Z0,l.block c C];exact a
 exact⟨⟨⟨d,f⟩,ZiZ _,by rw[q _ _ k1];simp,q _ _ K,q _ _ L,y,Si n<|Si (Te l U) t⟩,z,h,d,f,A,r⟩
def ScI.step{B w b h p q k done W W'}(z:h.ok)(r:Rt h p)(S:ScI B w b h k done W)(A:Rt (Y9 h done) q)(hc:(Y9 h done).M=xk)(G:¬B (xz (xj w)+1))(Q:xz (xj w)+4<=b)(R:done<k)(a:W.grownBy W'<|J b)(H:∃x,NowI B W' b (WK<|Y9 h done) x):
  ScI B w b h k (done+1) (W'.setCell ⟨xz (xj w)+1,0,U⟩<|.int .i64<|k-done-1)/\KpN B b (xz (xj w)+1) W (W'.setCell ⟨xz (xj w)+1,0,U⟩<|.int .i64<|k-done-1)/\
   W.grownBy W' (J b)/\W'.grownBy (W'.setCell ⟨xz (xj w)+1,0,U⟩<|.int .i64<|k-done-1) (J<|xz (xj w)+1):=by
 have d:=Zkb W' (xz (xj w)+1)<|.int .i64<|k-done-1;let⟨x,K⟩:=H;have u:=K.kept d G;have C:Y9 h (done+1)=WK (Y9 h done):=by rw[QC,hc];simp
 have l:∀c o,W.heap[c]?=J o->c≠b->c≠xz (xj w)+1->(W'.setCell ⟨xz (xj w)+1,0,U⟩<|.int .i64<|k-done-1).heap[c]?=J o:=λc o D P F=>
  (Zi0 _ _ _ _ F).trans ((a.block c ZgH ZgI).trans D)
 have j:=(a.block _ (Y1 S.kb) ZgH).trans S.kb;refine⟨⟨ZgH,Z0,?_,l _ _ S.r0 Z0 Z0,l _ _ S.r1 Z0 Z0,l _ _ S.fn Z0 Z0,?_⟩,⟨Zif a.size d.size,ZgI,λT n=> ?_⟩,a,d⟩
 .have:k- ((done+1:Nat):Int)=k-done-1:=Z0;rw[this];simp[World.setCell,Zij,j]
 exact Tf (Tf S.gr a λr e=>.inr (by cases e;omega)) d λr e=>.inr (by cases e;omega)
 .let⟨y,L⟩:=S.cz;have g:InBox B b q W:=⟨_,y,L,QB z r done,A⟩;let⟨O,M,f⟩:=A.Z hc;let⟨N,t⟩:=f.gx;refine⟨M,N,⟨_,x,u,?_,?_⟩,?_⟩
  .have:=QB z r<|done+1;rwa[C]at this
  rw[f.eq];exact f.rt;rw[t,g.H n]
def jV(w:Z3)(G:Z4)(g:Hp)(e:Ending)(w':Z3):Prop:=∃x,e=.returned (.tuple #[ZA g x,.int .i64 0])/\Below (xz<|xj w) w w'/\∀j,j<5->Rd w' (λc=>G c\/(xz (xj w)<=c/\c<xz (xj w'))) (.sl<|(Zu g j).map vu) (x j)
def Za9{B G:Z4}{w:Z3}{b:Nat}{h g:Hp}{k done:Nat}{W W8:Z3}{y:Z5}{D:Nat}(S:ScI B w b h k done W)(O:Y9 h done=g)(M:done=k\/(Y9 h done).M=xw)(hn:NowI B W b g y)(hB:B=λc=>G c\/xz (xj w)+4<=c)(hG:∀c,G c->c<xz (xj w))
  (hD:xz (xj w)+4<=D) (A:W.heap[D]?=J (.deferred<|J [])) (X:Below (xz<|xj w) W W8) (Y:xz (xj W8)=xz (xj W)) (F:∀c,c≠xz (xj w)+1+1->W8.heap[c]?=W.heap[c]?) (h8:W8.heap[xz (xj w)+1+1]?=J (.cells (Yn g y) 30 (0,0))):
  (W8.setCell ⟨xz (xj w)+1+1+1,0,U⟩<|.int .i64 0).heap[D]?=J (.deferred<|J [])/\(∀j,((W8.setCell ⟨xz (xj w)+1+1+1,0,U⟩<|.int .i64 0).putObj D<|.deferred U).cell? ⟨xz (xj w)+1+1,j,U⟩=(Yn g y)[j]?)/\((W8.setCell ⟨xz (xj w)+1+1+1,0,U⟩<|.int .i64 0).putObj D<|.deferred U).cell? ⟨xz (xj w)+1+1+1,0,U⟩=J (.int .i64 0)/\
   jV w G (Y9 h k) (.returned<|.tuple #[ZA g y,.int .i64 0]) ((W8.setCell ⟨xz (xj w)+1+1+1,0,U⟩<|.int .i64 0).putObj D<|.deferred U):=by
 have p:=Zkb W8 (xz (xj w)+1+1+1)<|.int .i64 0;have C:=S.r1;have e1:(W8.setCell ⟨xz (xj w)+1+1+1,0,U⟩<|.int .i64 0).heap[xz (xj w)+1+1+1]?=J (.cells #[.int .i64 0] 35 (0,0)):=
  Boxed.set _ (show Boxed W8 (xz (xj w)+1+1+1) 35 (.int .i64 0)from(F _ Z0).trans C)
 have e0:(W8.setCell ⟨xz (xj w)+1+1+1,0,U⟩<|.int .i64 0).heap[xz (xj w)+1+1]?=J (.cells (Yn g y) 30 (0,0)):=(Zi0 _ _ _ _ (by show xz (xj w)+1+1≠xz (xj w)+1+1+1;omega)).trans h8;have x:∀c,c≠xz (xj w)+1+1->c≠xz (xj w)+1+1+1->(W8.setCell ⟨xz (xj w)+1+1+1,0,U⟩<|.int .i64 0).heap[c]?=W.heap[c]? :=λc z T=>(Zi0 _ _ _ _ T).trans<|F c z;have a3:xz (xj<|W8.setCell ⟨xz (xj w)+1+1+1,0,U⟩<|.int .i64 0)=xz (xj W):=by rw[<-Y];simp[World.setCell]
 have R:Below (xz<|xj w) W<|W8.setCell ⟨xz (xj w)+1+1+1,0,U⟩<|.int .i64 0:=X.trans ⟨p.os,p.tape,p.output,p.size,λc f=>p.block c (by have:=Y1 C;omega) (λe=>by cases e;omega)⟩;generalize W8.setCell ⟨xz (xj w)+1+1+1,0,U⟩ (.int .i64 0)=t at*;have Z:t.heap[D]?=J (.deferred<|J []):=(x D Z0 Z0).trans A;have a4:=S.gr.size;have a2:=Y1 C;have f0:(t.putObj D<|.deferred U).heap[xz (xj w)+1+1]?=J (.cells (Yn g y) 30 (0,0)):=(Ziq Z0).trans e0;have f1:(t.putObj D<|.deferred U).heap[xz (xj w)+1+1+1]?=J (.cells #[.int .i64 0] 35 (0,0)):=(Ziq Z0).trans e1;have N:=ZkA t D<|.deferred U;have heq:Y9 h k=g:=by
  obtain e|e:=M;rw[<-e,O]
  .obtain⟨d,hd⟩:∃d,k=done+d:=⟨k-done,by have:=S.le;omega⟩;rw[hd,Pj,JN e,O]
 have P:∀c,c≠xz (xj w)+1+1->c≠xz (xj w)+1+1+1->c≠D->(t.putObj D<|.deferred U).heap[c]?=W.heap[c]? :=λc z T h3=>(Ziq Z0).trans<|x c z T;refine⟨Z,λj=>ZhQ _ _ j _ _ _ f0,by rw[ZhQ _ _ _ _ _ _ f1];rfl,y,by rw[heq],⟨?_,?_,?_,?_,λc f=> ?_⟩,λj hj=> ?_⟩;rw[N.os,R.os];exact S.gr.os;rw[N.tape,R.tape];exact S.gr.tape;rw[N.output,R.output];exact S.gr.output;have:=N.size;omega;rw[P c Z0 Z0 Z0];exact S.gr.block c f Z1;rw[heq];have z:=hn.rd j hj;have hW:xz (xj W)<=xz (xj<|t.putObj D<|.deferred U):=by have:=N.size;omega
 generalize hL:(Zu g j).map vu=L at z⊢;generalize y j=yj at z⊢;cases z with
 |nil a cap f=>exact .nil a cap f
 |sl _ d o cap Q vs q1 q2 q3 q4 q5 q6=>
  have r:G d\/xz (xj w)+4<=d:=by have:=q3.1;rw[hB]at this;exact this
  have H:G d->d<xz (xj w):=hG d;have l:∀i c,(flat L)[i]?=J c->Rd (t.putObj D<|.deferred U) (λc=>G c\/(xz (xj w)<=c/\c< xz (xj<|t.putObj D<|.deferred U))) c (vs i):=λi c f=>by
   have h7:=q6 i c f;rw[<-hL,yq,Zi8]at f;cases hu:(Zu g j)[i]? with
   |none=>rw[hu]at f;cases f
   |some u=>
    rw[hu]at f;cases f;rw[TY h7];exact .int _ _
  by_cases K:d=D;subst K;have a0:I L*Q=0:=by
   cases a1:I L*Q with
   |zero=>rfl
   |succ n=>
    have:=q5 0 Z0;unfold World.cell? at this;rw[A]at this;cases this
  refine .sl _ d o cap Q vs q1 q2 ?_ q4 (λi hi=>Z0) l;obtain q|q:=r;exact .inl q;exact .inr ⟨Z0,by have:=Y1 A;omega⟩;refine .sl _ d o cap Q vs q1 q2 ?_ q4 (λi hi=> ?_) l;obtain q|q:=r;exact .inl q;exact .inr ⟨Z0,by have:=q3.2.1;omega⟩;rw[<-q5 i hi];refine Ziz (a:=⟨d,o+i,U⟩)<|P d ?_ ?_ K;obtain q|q:=r;have:=H q;omega;omega;obtain q|q:=r;have:=H q;omega;omega
def Pk{B G:Z4}{w:Z3}{b:Nat}{h g:Hp}{k done:Nat}{W:Z3}{y:Z5}{D:Nat}(S:ScI B w b h k done W)(f:Y9 h done=g)(a:done=k\/(Y9 h done).M=xw)(q:NowI B W b g y)(l:B=λc=>G c\/xz (xj w)+4<=c)(o:∀c,G c->c<xz (xj w))
  (n:xz (xj w)+4<=D) (d:W.heap[D]?=J (.deferred<|J [])):
  ((RM W (xz (xj w)+1+1) g y).setCell ⟨xz (xj w)+1+1+1,0,U⟩<|.int .i64 0).heap[D]?=J (.deferred<|J [])/\(∀j,(((RM W (xz (xj w)+1+1) g y).setCell ⟨xz (xj w)+1+1+1,0,U⟩<|.int .i64 0).putObj D<|.deferred U).cell? ⟨xz (xj w)+1+1,j,U⟩=(Yn g y)[j]?)/\(((RM W (xz (xj w)+1+1) g y).setCell ⟨xz (xj w)+1+1+1,0,U⟩<|.int .i64 0).putObj D<|.deferred U).cell? ⟨xz (xj w)+1+1+1,0,U⟩=J (.int .i64 0)/\
    jV w G (Y9 h k) (.returned<|.tuple #[ZA g y,.int .i64 0]) (((RM W (xz (xj w)+1+1) g y).setCell ⟨xz (xj w)+1+1+1,0,U⟩<|.int .i64 0).putObj D<|.deferred U):=by
 exact Za9 (W8:=RM W (xz (xj w)+1+1) g y) S f a q l o n d (WP (ZhY (xz<|xj w) W) Z0) Zhl (λc p=>Vq p)<|LH S.r0
def Zad(w:Z3)(G:Z4)(hG:∀b,G b->b<xz (xj w))(h:Hp)(hh:h.ok)(a:Z5)(hs:∀j,j<5->Rd w G (.sl<|(Zu h j).map vu) (a j)){p:Pts}(r:Rt h p){k:Nat}(hk:(k:Int)<9223372036854775808):
  Calls xP 40 #[ZA h a,.int .i64 k] w (jV w G<|Y9 h k):=by
 refine(ZjQ (n:=5)).1 ?_;have i7:∀(fn:Go.Fn) (first cap:Za) (w:Z3),(Instr.makeFunc fn first cap).run xP w=.ok (.func fn first cap) w:=λ_ _ _ _=>rfl;refine callsIn_of_wp_marks Z1A rfl trivial ?_ rfl;simp only[Tryz.ntmps40,Zja,ZiW,ZiQ,Nat.reduceAdd,Nat.reduceSub,Zjx,Zjy,Zk1,ZjF,ZiB,Zj5];have HO:=λW (hb:Below (xz<|xj w) w W)=>Z7S W G (λb q=>ZhO (hG b q) hb.size) h hh a λj hj=>(hs j hj).keep (λb g6=>hb.block b<|hG b g6) λ_ q=>q;have b3:=ZhK HO;clear HO;unfold ZA;gi_wp2
 refine ZbU ?_;gi_wp2
 refine⟨trivial,(ZjQ.2<|b3.out _<|((((ZhY _ _).alloc (ZhL _) _).alloc Z1 _).alloc ZgJ _).alloc ZgJ _).mono ?_⟩;rintro e w1 ⟨x1,rfl,b9,F⟩;obtain⟨a0,c0,e0⟩:=Rd.bu<|F 0 Z0;obtain⟨a1,c1,e1⟩:=Rd.bu<|F 1 Z0;obtain⟨a2,c2,e2⟩:=Rd.bu<|F 2 Z0;obtain⟨a3,c3,e3⟩:=Rd.bu<|F 3 Z0;obtain⟨a4,c4,e4⟩:=Rd.bu<|F 4 Z0;have b1:=ZhK<|And.intro b9 F;clear b9 F;unfold ZA;gi_wp2
 refine wpIn_label ?_;gi_wp2
 refine⟨trivial,(ZjQ.2<|Z5S _ _).mono ?_⟩;rintro e w3 ⟨rfl,e6⟩;obtain⟨w0,a9,h7,g8,k1,R,T⟩:=Z49 w (.cells #[.int .u64 h.base,.int .i64 h.cap,.int .i64 h.to,.bool h.M,.int .i64 h.Z,a 0,a 1,a 2,a 3,a 4] 30) (.cells #[.int .i64 k] 3) (.cells K0 30)<|.cells #[.int .i64 0] 35;have hC:Yn h x1=#[.int .u64 h.base,.int .i64 h.cap,.int .i64 h.to,.bool h.M,.int .i64 h.Z,.slice a0 (I<|Zu h 0) c0,.slice a1 (I<|Zu h 1) c1,.slice a2 (I<|Zu h 2) c2,.slice a3 (I<|Zu h 3) c3,.slice a4 (I<|Zu h 4) c4]:=by
  simp only[Yn,e0,e1,e2,e3,e4,Zia]
 have N:=b1.out;unfold K0 at a9;rw[a9]at N;obtain⟨j0,L,h8,i8,b8,b7⟩:=Zab hG hh r h7 g8 k1 R T N.1 N.2;rw[hC]at L;rw[L]at e6;subst e6;clear b1 N L hC e0 e1 e2 e3 e4 a9 k1 R T b3;simp only[ZjM];gi_wp2
 have g7:xz (xj w)+4<=xz (xj w1):=Z0;have b5:¬(G (xz (xj w)+1)\/xz (xj w)+4<=xz (xj w)+1):=λh=>by
  obtain h|h:=h;have:=hG _ h;omega;omega
 generalize i5:xz (xj w1)=b at*;obtain⟨B,hB⟩:∃B:Z4,B=λc=>G c\/xz (xj w)+4<=c:=⟨_,rfl⟩;rw[<-hB]at b8 b7;have b6:¬B (xz (xj w)+1):=by rw[hB];exact b5
 have f9:∀c,xz (xj w)+4<=c->B c:=λc hc=>by rw[hB];exact .inr hc
 have b2:=ZhK hB;clear hB b5;have d9:=Z5R 4 (B:=B) (b:=b) (bk:=b+2) (kb:=xz (xj w)+1) b7 Z0 Z0 Z0 Z0
 refine ZbT rfl Z0 (gf:=81) (lb:=#[.pointer<|J ⟨b+2,0,U⟩]) ?hg trivial (enters_of Fj Z2 rfl)
  d9 KpN.trans (λW l o o' _ h2 h3 _=>KpN.put o' h2 h3) (ZhY _ _) (λ_=>rfl)
  (λpre W=>∃done,ScI B w b h k done W/\(I pre:Int)<=(Y9 h done).Z)
  (λc pre W=>c=.exit 0/\∃done,ScI B w b h k done W/\(done=k\/(Y9 h done).M=xw))
  ?hI (λ_ _ _=>trivial) ?hIx ?hPx ?hS ⟨0,b8,by have:=r.ip;show((0:Nat):Int)<=h.Z;omega⟩
  (fun x=> {tmps:=#[.agg #[.int .u64 h.base,.int .i64 h.cap,.int .i64 h.to,.bool h.M,.int .i64 h.Z,a 0,a 1,a 2,a 3,a 4],.int .i64 k,.pointer<|J ⟨xz<|xj w,0,U⟩,.pointer<|J ⟨xz (xj w)+1,0,U⟩,.pointer<|J ⟨xz (xj w)+1+1,0,U⟩,.pointer<|J ⟨xz (xj w)+1+1+1,0,U⟩,.pointer<|J ⟨b,0,U⟩,.pointer<|J ⟨b+1,0,U⟩,.int .i64 (x.1:Nat),.bool x.2,xy,
    .agg #[.int .u64 h.base,.int .i64 h.cap,.int .i64 h.to,.bool h.M,.int .i64 h.Z,a 0,a 1,a 2,a 3,a 4],.agg #[.int .u64 h.base,.int .i64 h.cap,.int .i64 h.to,.bool h.M,.int .i64 h.Z,.slice a0 (I<|Zu h 0) c0,.slice a1 (I<|Zu h 1) c1,.slice a2 (I<|Zu h 2) c2,.slice a3 (I<|Zu h 3) c3,.slice a4 (I<|Zu h 4) c4],
    .func (.func 62) #[] #[.pointer<|J ⟨b,0,U⟩],.func (.func 81) #[] #[.pointer<|J ⟨b+2,0,U⟩],.int .i64 (x.1:Nat),.bool x.2,xy,xy,xy,xy,xy,xy,xy,xy,xy,xy,xy,xy,xy,xy,xy,xy,xy,xy,xy,xy,xy,xy,xy],defers:=[]})
  ?assign ?body ?done ?stop
 case hg=>rfl
 case hI=>
  rintro pre X Y row ⟨done,S,hl⟩ hg Q;exact⟨done,S.dq hg λr e=>⟨by have:=(Q r e).1;omega,(Q r e).2⟩,hl⟩
 case hIx=>
  rintro c pre X Y row ⟨hc,done,S,hl⟩ hg Q;exact⟨hc,done,S.dq hg λr e=>⟨by have:=(Q r e).1;omega,(Q r e).2⟩,hl⟩
 case hPx=>
  rintro pre x _ X Y row ⟨p',h4,hx⟩ hg Q;exact⟨p',h4.dq hg λr e=>(Q r e).2,hx⟩
 case hS=>
  rintro xs X Y row ⟨g,x,hx,hl⟩ hg Q;exact⟨g,x,hx.dq hg λr e=>(Q r e).2,hl⟩
 case assign=>
  rintro l x W K2 g5;simp only[List.zip_cons_cons,Array.zip,BA];gi_wp2
  exact g5
 case body=>
  rintro l pre x W ⟨done,S,a7⟩ ⟨p',P,hx⟩ i3;obtain⟨q,sc⟩:=r.fe done;have b4:=QB hh r done;obtain⟨y,t⟩:=S.cz;have rq:Rt (Y9 h done) p'/\x=(I pre,Vn p'.H<|I pre):=by
   obtain⟨g',x',h1,h2,h3⟩:=P;have:=t.gh h1;subst this;exact⟨h3,hx⟩
  obtain⟨rg,h6⟩:=rq;subst h6;obtain⟨g,H⟩:∃g,Y9 h done=g:=⟨_,rfl⟩;have d:=t.nb;have z:=Z1a W B b (λc hc=>f9 c (by have:=Y1 d;omega)) _ y t b4 rg;rw[H]at a7 b4 rg d z;unfold Yn at d;have yb:∀j,W.cell? ⟨b,j,U⟩=(#[.int .u64 g.base,.int .i64 g.cap,.int .i64 g.to,.bool g.M,.int .i64 g.Z,y 0,y 1,y 2,y 3,y 4]:Array Value)[j]? :=λj=>ZhQ _ _ _ _ _ _ d;have i0:=ZhQ _ _ 0 _ _ _ S.kb;have h9:=ZhQ _ _ 0 _ _ _ S.fn;simp only[Zjg,Zk9]at i0 h9;have i4:W.frozen? ⟨xz (xj w)+1,0,U⟩=xw:=Yh S.kb;by_cases A:done=k\/g.M=xw
  .have HE:=ZhK<|And.intro S<|And.intro A H;have h0:((k:Int) - (done:Nat)==0)=xk\/(((k:Int) - (done:Nat)==0)=xw/\g.M=xw):=by
    obtain e|e:=A;exact .inl ZgJ
    .by_cases e2:done=k;exact .inl ZgJ;exact .inr ⟨ZgJ,e⟩
   clear t S d A H P z;obtain hq|⟨hq,i6⟩:=h0
   .gi_wp2
    exact⟨ZlR _ _,rfl,done,HE.out.1,by rw[HE.out.2.2];exact HE.out.2.1⟩
   .gi_wp2
    exact⟨ZlR _ _,rfl,done,HE.out.1,by rw[HE.out.2.2];exact HE.out.2.1⟩
  .have hd:done<k:=by have:=S.le;omega
   have O:g.M=xk:=by cases c7:g.M<;>simp_all
   have hq:((k:Int) - (done:Nat)==0)=xw:=ZgJ;have h5:=rg.ku;have HH:=ZhK<|And.intro S<|And.intro t<|And.intro H<|And.intro rg hd;have e8:=ZhK<|z O;have Z:=t.rd 0 Z0;by_cases d5:I pre<g.Z
   .have d6:((I pre:Int)<g.Z)=True:=Zk3 d5;clear t S d A H P z rg Z;gi_wp2
    exact⟨ZlR _ _,⟨ZhL _,λ_ _ h _ _ _=>h,λp hp=>⟨p,[],hp,Z1⟩⟩,done,HH.out.1,by rw[HH.out.2.2.1];simp;omega⟩
   .have d6:((I pre:Int)<g.Z)=False:=Zjv d5;have d8:(I pre:Int)=g.Z:=Z0;clear t S d A H P z rg Z;gi_wp2
    refine⟨trivial,(CallsIn.inRound l<|ZjQ.2 e8.out).mono ?_⟩;rintro e W2 ⟨rfl,a6,a8⟩;have i9:=Zx ((k:Int) - (done:Nat) -1) Z0 Z0;obtain⟨s1,s2,s3,s4,s5⟩:=HH.out;rw[<-s3]at a8;have e5:=s1.step hh r (by rw[s3];exact s4) (by rw[s3];exact O) b6 g7 s5 a6 a8;have K:W2.heap[xz (xj w)+1]?=J (.cells #[.int .i64<|(k:Int) - (done:Nat)] 3 (0,0)):=(a6.block _ (Y1 s1.kb) (λe=>by cases e;omega)).trans s1.kb;have e7:=ZhQ _ _ 0 _ _ _ K;simp only[Zjg,Zk9]at e7;have i2:W2.frozen? ⟨xz (xj w)+1,0,U⟩=xw:=Yh K;have f5:=ZhK e5;have e9:=ZhK d8;clear s1 s2 s3 s4 s5 a6 a8 e5 K d8;gi_wp2
    obtain⟨t1,t2,t3,t4⟩:=f5.out;obtain⟨s1,s2,s3,s4,s5⟩:=HH.out;have h8:=s1.gr.size;refine⟨(KeepsFrom.of_grownBy t3 λj e=>by cases e;omega).trans (KeepsFrom.of_grownBy t4 λj e=>by cases e;omega),t2,done+1,t1,?_⟩;obtain⟨g',q',f⟩:=s4.Z O;rw[QC,s3,O];simp only[ZiC];rw[f.eq,f.num.2.2.2];have:=e9.out;simp;omega
 case done=>
  rintro D xs W hD ⟨g0,x0,d7,g9⟩ ⟨done,S,a7⟩ a5;have u:done=k\/(Y9 h done).M=xw:=by
   obtain⟨q,sc⟩:=r.fe done;obtain⟨y,t⟩:=S.cz;have:=t.gh d7;subst this;cases c7:(Y9 h done).M with
   |false=>exact .inr rfl
   |true=>have:=sc.rt.kz c7;omega
  obtain⟨y,t⟩:=S.cz;have HF:=ZhK<|And.intro S<|And.intro u t;have d:=t.nb;obtain⟨d0,f0,C⟩:=Rd.bu<|t.rd 0 Z0;obtain⟨d1,f1,g1⟩:=Rd.bu<|t.rd 1 Z0;obtain⟨d2,f2,g2⟩:=Rd.bu<|t.rd 2 Z0;obtain⟨d3,f3,g3⟩:=Rd.bu<|t.rd 3 Z0;obtain⟨d4,f4,g4⟩:=Rd.bu<|t.rd 4 Z0;unfold Yn at d;rw[C,g1,g2,g3,g4]at d;have yb:∀j,W.cell? ⟨b,j,U⟩=_:=λj=>ZhQ _ _ _ _ _ _ d;have b0:∀j,W.cell? ⟨xz (xj w)+1+1,j,U⟩=_:=λj=>ZhQ _ _ _ _ _ _ S.r0;have i1:∀j,W.cell? ⟨xz (xj w)+1+1+1,j,U⟩=_:=λj=>ZhQ _ _ _ _ _ _ S.r1;have f7:∀j,W.frozen? ⟨xz (xj w)+1+1,j,U⟩=xw:=λj=>Yh S.r0;have f8:∀j,W.frozen? ⟨xz (xj w)+1+1+1,j,U⟩=xw:=λj=>Yh S.r1;unfold K0 at b0;have M:=Pk (G:=G) S rfl u t b2.out hG Z0 a5;unfold RM Tr at M;unfold Yn ZA at M;rw[C,g1,g2,g3,g4]at M;simp only[Zia]at M;obtain⟨k1,R,k4,T⟩:=M;have HK:=ZhK T;clear d7 g9 a7 u t d S C g1 g2 g3 g4 T;gi_wp2
  refine⟨Z1,.inl ⟨D,_,rfl,ZkV k1,?_⟩⟩;refine⟨_,?_,HK.out⟩;clear HK HF k1;generalize World.putObj _ D (.deferred U)=f6 at R k4⊢;simp[results,Tryz.results40,go_sem,R,k4]
 case stop=>
  rintro D c pre W hD ⟨rfl,done,S,u⟩ a5;obtain⟨y,t⟩:=S.cz;have HF:=ZhK<|And.intro S<|And.intro u t;have d:=t.nb;obtain⟨d0,f0,C⟩:=Rd.bu<|t.rd 0 Z0;obtain⟨d1,f1,g1⟩:=Rd.bu<|t.rd 1 Z0;obtain⟨d2,f2,g2⟩:=Rd.bu<|t.rd 2 Z0;obtain⟨d3,f3,g3⟩:=Rd.bu<|t.rd 3 Z0;obtain⟨d4,f4,g4⟩:=Rd.bu<|t.rd 4 Z0;unfold Yn at d;rw[C,g1,g2,g3,g4]at d;have yb:∀j,W.cell? ⟨b,j,U⟩=_:=λj=>ZhQ _ _ _ _ _ _ d;have b0:∀j,W.cell? ⟨xz (xj w)+1+1,j,U⟩=_:=λj=>ZhQ _ _ _ _ _ _ S.r0;have i1:∀j,W.cell? ⟨xz (xj w)+1+1+1,j,U⟩=_:=λj=>ZhQ _ _ _ _ _ _ S.r1;have f7:∀j,W.frozen? ⟨xz (xj w)+1+1,j,U⟩=xw:=λj=>Yh S.r0;have f8:∀j,W.frozen? ⟨xz (xj w)+1+1+1,j,U⟩=xw:=λj=>Yh S.r1;unfold K0 at b0;have M:=Pk (G:=G) S rfl u t b2.out hG Z0 a5;unfold RM Tr at M;unfold Yn ZA at M;rw[C,g1,g2,g3,g4]at M;simp only[Zia]at M;obtain⟨k1,R,k4,T⟩:=M;have HK:=ZhK T;clear u t d S C g1 g2 g3 g4 T;gi_wp2
  refine⟨Z1,.inl ⟨D,_,rfl,ZkV k1,?_⟩⟩;refine⟨_,?_,HK.out⟩;clear HK HF k1;generalize World.putObj _ D (.deferred U)=f6 at R k4⊢;simp[results,Tryz.results40,go_sem,R,k4]
end
end Vm
end
section
namespace Vm
open Go Go.Proofs Go.RowKit
def Zac:EL:=by
 intro h p k D r K C;obtain⟨n,rfl⟩:=ZhW K;rw[Zi1];refine⟨Z2,λw G vs z l d=> ?_⟩;have r0:=d 0 _ rfl;have N:=d 1 _ rfl;have B:vs=#[vs.getD 0 xy,vs.getD 1 xy]:=by
  have a:vs.size=2:=l;apply Zka;simp[a];intro i O P;have F:i<2:=Z0
  match i,F with
  |0,_=>simp[Array.getD,a]
  |1,_=>simp[Array.getD,a]
 obtain⟨o,t,M⟩:=KU r0;have u:=TY N;rw[B,t,u];refine(Zad w G z h D o M r (by have:=C.2;omega)).mono ?_;rintro e Q ⟨x,rfl,g,L⟩;refine⟨_,rfl,g,?_⟩;refine .al _ _ rfl ?_;intro i y f
 match i,f with
 |0,f=>cases f;exact Sj λj H=>(L j H).mono λb A=>A.imp (λq=>⟨rfl,q⟩) id
 |1,f=>cases f;exact .int _ _
def Hz{W:Z3}{G:Z4}{g:Hp}{e:Int}{v:Zb}(r:Rd W G (.al [ZE g,vi e]) v):∃x,v=.tuple #[ZA g x,.int .i64 e]/\∀j,j<5->Rd W G (.sl<|(Zu g j).map vu) (x j):=by
 cases r with
 |al _ vs l h=>
  obtain⟨x,d,n⟩:=KU<|h 0 _ rfl;have f:=TY<|h 1 _ rfl;refine⟨x,?_,n⟩;congr 1;have a:vs.size=2:=ZhD;apply Zka;simp[a];intro i o p;have k:i<2:=Z0
  match i,k with
  |0,_=>simp[Array.getD,a]at d;simpa using d
  |1,_=>simp[Array.getD,a]at f;simpa using f
def Kd(G:Z4)(W:Z3)(r:Hp×Int)(e:Ending)(W':Z3):Prop:=
 ∃x,e=.returned (.tuple #[ZA r.1 x,.int .i64 r.2])/\Below (xz<|xj W) W W'/\∀j,j<5->Rd W' (λc=>G c\/(xz (xj W)<=c/\c<xz (xj W'))) (.sl<|(Zu r.1 j).map vu) (x j)
def Z4x{f:Zn}{h g:Hp}{k n:Int}(l:VC xP f xw [ZE h,vi k]<|.al [ZE g,vi n]){W:Z3}{G:Z4}{x:Z5}(o:∀b,G b->b<xz (xj W))(r:∀j,j<5->Rd W G (.sl<|(Zu h j).map vu) (x j)):
  Calls xP f #[ZA h x,.int .i64 k] W (Kd G W (g,n)):=by
 refine ZjL (l.2 W G _ o rfl ?_) ?_;intro i y a
 match i,a with
 |0,a=>cases a;exact Sj r
 |1,a=>cases a;exact .int _ _
 rintro e w ⟨v,rfl,p,l⟩;obtain⟨u,rfl,t⟩:=Hz l;exact⟨u,rfl,p,λj q=>(t j q).mono λb d=>ZgW⟩
def P1{h:Hp}(k:h.ok){p:Pts}(r:Rt h p){n:Int}(l:0<=n/\n<=1000){W:Z3}{G:Z4}{x:Z5}(f:∀b,G b->b<xz (xj W))(o:∀j,j<5->Rd W G (.sl<|(Zu h j).map vu) (x j)):
  Calls xP 16 #[ZA h x,.int .i64 n] W λe d=>e=.returned (.bool<|Xn h p n)/\Below (xz<|xj W) W d:=by
 refine ZjL ((Z9A k r l).2 W G _ f rfl ?_) ?_;intro i y a
 match i,a with
 |0,a=>cases a;exact Sj o
 |1,a=>cases a;exact .int _ _
 rintro e d ⟨v,rfl,g,q⟩;exact⟨by rw[D8 q],g⟩
def Z7W{s p:Int}(w:Z3):Calls xP 14 #[.agg #[.int .i64 s,.int .i64 p]] w λe a=>e=.returned (.tuple #[.int .u64 (Xa s p).1,.int .i64 (Xa s p).2])/\Below (xz<|xj w) w a:=
 TH (Z4s (s:=s) (p:=p)) rfl rfl w
def X9(g:Hp)(x:Z5):Array Value:=#[.int .u64 g.base,.int .i64 g.cap,.int .i64 g.to,.bool g.M,.int .i64 g.Z,x 0,x 1,x 2,x 3,x 4]
structure PSt (w W:World) (nb:Nat) (g:Hp) (x:Nat->Value) (Q:Prop):Prop where
 cx:W.heap[xz (xj w)+2]?=J (.cells ZL 30 (0,0))
 cz:W.heap[nb]?=J (.cells (X9 g x) 30 (0,0))
 rd:∀j,j<5->Rd W (λc=>xz (xj w)+3<=c/\c<xz (xj W)/\c≠nb) (.sl<|(Zu g j).map vu) (x j)
 bp:Below (xz<|xj w) w W
 nB:xz (xj w)+3<=nb
 own:Q->HOwn (xz (xj w)+3) W g x/\∀j,j<5->∀c,(x j).ownBlock=J c->c≠nb
def PSt.below{w W W':Z3}{h:Nat}{g:Hp}{x:Z5}{Q:Prop}(s:PSt w W h g x Q)(a:Below (xz<|xj W) W W'):PSt w W' h g x Q:=by
 have k:=Y1 s.cz;have l:=Y1 s.cx;have o:=a.size;refine⟨(a.block _ l).trans s.cx,(a.block _ k).trans s.cz,λj d=>((s.rd j d).keep (λb f=>a.block b f.2.1) λ_ q=>q).mono λb q=>⟨q.1,Z0,q.2.2⟩,s.bp.trans<|a.mono s.bp.size,s.nB,λq=>⟨⟨λj d=>Xm ((s.own q).1.own j d) λc n=>a.block _ (((s.own q).1.own j d).lt c n).2,(s.own q).1.apart⟩,(s.own q).2⟩⟩
def PSt.F{w W:Z3}{a:Nat}{g:Hp}{x:Z5}{Q:Prop}(s:PSt w W a g x Q):(∀j,W.cell? ⟨a,j,U⟩=(#[.int .u64 g.base,.int .i64 g.cap,.int .i64 g.to,.bool g.M,.int .i64 g.Z,x 0,x 1,x 2,x 3,x 4]:Array Value)[j]?)/\∀j,W.frozen? ⟨a,j,U⟩=xw:=
 ⟨λj=>ZhQ _ _ _ _ _ _ s.cz,λj=>Yh s.cz⟩
def PSt.R{w W:Z3}{a:Nat}{g:Hp}{x:Z5}{Q:Prop}(s:PSt w W a g x Q):(∀j,W.cell? ⟨xz (xj w)+1+1,j,U⟩=(#[.int .u64 0,.int .i64 0,.int .i64 0,.bool xw,.int .i64 0,.slice U 0 0,.slice U 0 0,.slice U 0 0,.slice U 0 0,.slice U 0 0]:Array Value)[j]?)/\∀j,W.frozen? ⟨xz (xj w)+1+1,j,U⟩=xw:=
 ⟨λj=>ZhQ _ _ _ _ _ _ s.cx,λj=>Yh s.cx⟩
def V2(W:Z3)(b:Nat)(v0 v1 a d v4 f v6 g h j:Zb):World:=(((((((((W.setCell ⟨b,0,U⟩ v0).setCell ⟨b,1,U⟩ v1).setCell ⟨b,2,U⟩ a).setCell ⟨b,3,U⟩ d).setCell ⟨b,4,U⟩ v4).setCell ⟨b,5,U⟩ f).setCell ⟨b,6,U⟩ v6).setCell ⟨b,7,U⟩ g).setCell ⟨b,8,U⟩ h).setCell ⟨b,9,U⟩ j
def qT{W:Z3}{a:Nat}{g:Hp}{x:Z5}{T:Zd}(d:W.heap[a]?=J (.cells (X9 g x) T (0,0)))(v0 v1 f h v4 j v6 k l n:Zb):(V2 W a v0 v1 f h v4 j v6 k l n).heap[a]?=J (.cells #[v0,v1,f,h,v4,j,v6,k,l,n] T (0,0)):=by
 unfold X9 at d;unfold V2;simp[World.setCell,Zij,d]
def qU(W:Z3)(a:Nat)(v0 v1 d f v4 g v6 h j k:Zb):xz (xj<|V2 W a v0 v1 d f v4 g v6 h j k)=xz (xj W):=by
 unfold V2;simp[World.setCell]
def PSt.store{w W d:Z3}{f:Nat}{g g2:Hp}{x a:Z5}{Q:Prop}(s:PSt w W f g x Q)(l:Below (xz<|xj W) W d)
  (p:∀j,j<5->Rd d (λc=>(xz (xj w)+3<=c/\c<xz (xj W)/\c≠f)\/(xz (xj W)<=c/\c<xz (xj d))) (.sl<|(Zu g2 j).map vu) (a j)):
  PSt w (V2 d f (.int .u64 g2.base) (.int .i64 g2.cap) (.int .i64 g2.to) (.bool g2.M) (.int .i64 g2.Z) (a 0) (a 1) (a 2) (a 3)<|a 4) f g2 a False:=by
 have k:=s.below l;have t:=Y1 s.cz;have u:=l.size;have r:=s.bp.size;have o:=s.nB;refine⟨(Vq Z0).trans k.cx,qT k.cz _ _ _ _ _ _ _ _ _ _,λj n=>((p j n).keep (λb h=> ?_) λ_ q=>q).mono λb q=> ?_,WP k.bp Z0,o,λq=>q.elim⟩;exact Vq (by obtain q|q:=h<;>omega);rw[qU];obtain q|q:=q;exact⟨q.1,Z0,q.2.2⟩;exact⟨Z0,q.2,Z0⟩
def QR(w:Z3)(r:Int×Hp×Int)(Q:Prop)(e:Ending)(w':Z3):Prop:=
 ∃x,e=.returned (.tuple #[.int .u64 r.1,ZA r.2.1 x,.int .i64 r.2.2])/\Below (xz<|xj w) w w'/\(∀j,j<5->Rd w' (λc=>xz (xj w)<=c/\c<xz (xj w')) (.sl<|(Zu r.2.1 j).map vu) (x j))/\(Q->HOwn (xz<|xj w) w' r.2.1 x)
def Yt(g:Hp)(wd:Int)(n:Nat):Hp:= {g with aa:=(wd::List.replicate n 0)++g.aa}
structure Tri (w W:World) (o0 o1:Obj):Prop where
 b0:W.heap[xz<|xj w]?=J o0
 b1:W.heap[xz (xj w)+1]?=J o1
 b2:W.heap[xz (xj w)+2]?=J (.cells ZL 30 (0,0))
 bp:Below (xz<|xj w) w W
def jK(w:Z3)(a d:Obj):∃W,((w.alloc a).alloc d).alloc (.cells #[.int .u64 0,.int .i64 0,.int .i64 0,.bool xw,.int .i64 0,.slice U 0 0,.slice U 0 0,.slice U 0 0,.slice U 0 0,.slice U 0 0] 30)=W/\xz (xj W)=xz (xj w)+3/\Tri w W a d:=by
 refine⟨_,rfl,Z1,?_,?_,?_,(((ZhY _ _).alloc (ZhL _) _).alloc Z1 _).alloc ZgJ _⟩;rw[ZhU _ _ _ ZgJ,ZhU _ _ _ Z1];exact Zi7 _ _;rw[ZhU _ _ _ Z1];exact u9 _ _ _;have:=Zi7 ((w.alloc a).alloc d)<|.cells ZL 30;simpa[ZL]using this
def Tri.below{w W W':Z3}{d f:Obj}(s:Tri w W d f)(a:Below (xz<|xj W) W W'):Tri w W' d f:=
 ⟨(a.block _<|Y1 s.b0).trans s.b0,(a.block _<|Y1 s.b1).trans s.b1,(a.block _<|Y1 s.b2).trans s.b2,s.bp.trans<|a.mono s.bp.size⟩
def Tri.F{w W:Z3}{c0 a:Za}{t0 d:Zd}(s:Tri w W (.cells c0 t0)<|.cells a d):(∀j,W.cell? ⟨xz<|xj w,j,U⟩=c0[j]?)/\(∀j,W.cell? ⟨xz (xj w)+1,j,U⟩=a[j]?)/\(∀j,W.cell? ⟨xz (xj w)+1+1,j,U⟩=ZL[j]?)/\∀j,W.frozen? ⟨xz (xj w)+1+1,j,U⟩=xw:=
 ⟨λj=>ZhQ _ _ _ _ _ _ s.b0,λj=>ZhQ _ _ _ _ _ _ s.b1,λj=>ZhQ _ _ _ _ _ _ s.b2,λj=>Yh s.b2⟩
def Z8z{w w2 d l:Z3}{C D:Obj}{h:Hp}{y:Z5}(s:Tri w w2 C D)(A:xz (xj w)+3<=xz (xj w2))(z:Below (xz<|xj w2) w2 d)
  (o:HOwn (xz<|xj w2) d h y) (f:d.alloc (.cells (X9 h y) 30)=l):PSt w l (xz<|xj d) h y True:=by
 have p:=s.below z;have F:=z.size;have x:∀j,j<5->∀c,(y j).ownBlock=J c->xz (xj w2)<=c/\c<xz (xj d):=λj a c g=>((o.own j a).lt c g);have B:xz (xj l)=xz (xj d)+1:=by rw[<-f];simp
 have n:=Y1 s.b2;have t:HOwn (xz (xj w)+3) l h y:=⟨λj a=>Lr (Xm (o.own j a) λc g=>by rw[<-f];exact ZhU _ _ _ (x j a c g).2) λc u n=>⟨Z0,n⟩,o.apart⟩;refine⟨by rw[<-f];exact(ZhU _ _ _<|Y1 p.b2).trans p.b2,by rw[<-f];exact Zi7 _ _,λj a=> ?_,by rw[<-f];exact p.bp.alloc p.bp.size _,Z0,λ_=>⟨t,λj a c g=>by have:=(x j a c g).2;omega⟩⟩;refine((Tn (k:=.u64) (o.own j a) (G:=λc=>xz (xj w2)<=c/\c<xz (xj d)) λc u n=>⟨u,n⟩).keep (λb r=>by rw[<-f];exact ZhU _ _ _ r.2) λ_ q=>q).mono λb q=>⟨Z0,Z0,Z0⟩
def XG{W:Z3}{G:Z4}{l:Z9}{y:Zb}(h:Rd W G (.sl<|l.map vu) y):∃a c,y=.slice a (I l) c:=by
 generalize g:l.map vu=L at h;have d:I L=I l:=by rw[<-g,Zia]
 cases h with
 |nil a c f=>exact⟨_,_,by rw[<-d];rfl⟩
 |sl _ b o cap k vs f j=>exact⟨_,_,by rw[d]⟩
def PSt.imp{w W:Z3}{a:Nat}{g:Hp}{x:Z5}{Q Q':Prop}(s:PSt w W a g x Q)(h:Q'->Q):PSt w W a g x Q':=⟨s.cx,s.cz,s.rd,s.bp,s.nB,λq=>s.own<|h q⟩
def PSt.place{w W W':Z3}{t:Nat}{g:Hp}{x:Z5}{Q:Prop}(s:PSt w W t g x Q){l:Z9}{v:Zb}(F:xz (xj W)<=xz (xj W'))(y:∀b,b<xz (xj W)->b≠t->W'.heap[b]?=W.heap[b]?)
  (B:W'.heap[t]?=J (.cells (X9 {g with aa:=l}<|λj=>if j=1 then v else x j) 30 (0,0))) (r:W'.ownsRow (xz<|xj W) 24 1 v (I l)<|Yd .u64 l) (o:Below (xz<|xj w) w W'):PSt w W' t {g with aa:=l} (λj=>if j=1 then v else x j) Q:=by
 have C:=s.bp.size;have z:=s.nB;have p:∀j,j<5->j≠1->Zu {g with aa:=l} j=Zu g j:=λj h a=>by
  have:j=0\/j=2\/j=3\/j=4:=Z0;obtain rfl|rfl|rfl|rfl:=this<;>rfl
 have D:xz (xj w)+3<=xz (xj W):=by have:=Y1 s.cz;omega
 refine⟨(y _ (Y1 s.cx) Z0).trans s.cx,B,λj h=> ?_,o,z,λq=>⟨⟨λj h=> ?_,λi j u h c d f=> ?_⟩,λj h c d=> ?_⟩⟩;by_cases a:j=1;subst a;rw[ZhS rfl];exact Tn (k:=.u64) r λc a n=>⟨Z0,n,by have:=Y1 s.cz;omega⟩;rw[ZhP a,p j h a];exact((s.rd j h).keep (λb A=>y b A.2.1 A.2.2) λ_ q=>q).mono λb q=>⟨q.1,Z0,q.2.2⟩;by_cases a:j=1;subst a;rw[ZhS rfl];exact Lr r λc a n=>⟨Z0,n⟩;rw[ZhP a,p j h a];exact Xm ((s.own q).1.own j h) λc d=>y c (((s.own q).1.own j h).lt c d).2<|(s.own q).2 j h c d;by_cases a:i=1;subst a;rw[ZhS rfl]at d;rw[ZhP Z0]at f;have:=(r.lt c d).1;have:=(((s.own q).1.own j h).lt c f).2;omega;rw[ZhP a]at d;by_cases n:j=1;subst n;rw[ZhS rfl]at f;have:=(r.lt c f).1;have:=(((s.own q).1.own i Z0).lt c d).2;omega;rw[ZhP n]at f;exact(s.own q).1.apart i j u h c d f;by_cases a:j=1;subst a;rw[ZhS rfl]at d;have:=(r.lt c d).1;have:=Y1 s.cz;omega;rw[ZhP a]at d;exact(s.own q).2 j h c d
def Z8r{W:Z3}{G:Z4}{B p n K:Nat}{l h:Z9}{y:Zb}(w:B<=xz (xj W))(o:W.ownsRow B 24 1 (.slice (J ⟨p,0,U⟩) n K) n<|Yd .u64 l)(z:Rd W G (.sl<|h.map vu) y)(A:n+I h<=2000000)(ty:Zd):
  ∃a c g,(Builtin.append_ #[28,28] ty #[.slice (J ⟨p,0,U⟩) n K,y]).run xP W=.ok (.slice a (n+I h) c) g/\g.ownsRow B 24 1 (.slice a (n+I h) c) (I<|l++h) (Yd .u64<|l++h)/\W.grownBy g (J p):=by
 have x:=SZ;rw[<-T8]at o;obtain⟨C,g,f,q,d,r,_,_,t⟩:=LW (P:=xP) (ty:=ty) x J3 o w z (by rw[T8];exact zd _) (by simp only[Y4,Zia];omega);rw[T8]at d;have k:I l=n:=by have:=o.1;rw[T8]at this;simpa[Yd]using this
 have j:I f=I h:=by have:=d.1;simp[Yd]at this;omega
 have u:=qi t j;obtain⟨a,c,e⟩:=Xl d;subst e;rw[u]at d;simp only[Zia]at d q;refine⟨a,c,g,q,?_,r⟩;rw[Zin,k];simpa[Yd]using d
def Z6n{m K:Nat}(l:m<=K)(k:K<=4096)(W:Z3):(Instr.makeSlice 28 (.int .i64 (m:Int))<|.int .i64 (K:Int)).run xP W=.ok (.slice (J ⟨xz<|xj W,0,U⟩) m K) (W.alloc<|.cells (madeCells #[.int .u64 0] K) 24):=by
 have a:(xP.info? 24).map (λi=>(i.zero,i.size,i.bytes))=J (J<|.int .u64 0,1,8):=Z2;obtain⟨i,g,d⟩:=ZhI.1 a;simp only[ZhX]at d;obtain⟨j,h,f⟩:=d;have:=run_make (P:=xP) (w:=W) 28 24 i (.int .u64 0) SZ g j .i64 .i64 m K Z0 Z0 (by rw[f];omega) Z0;simpa[h,Value.cells]using this
def Z6m{W:Z3}{B m K:Nat}(d:B<=xz (xj W))(a:m<=K)(f:K<=4096):(W.alloc<|.cells (madeCells #[.int .u64 0] K) 24).ownsRow B 24 1 (.slice (J ⟨xz<|xj W,0,U⟩) m K) m<|Yd .u64<|List.replicate m 0:=by
 refine⟨by simp[Yd],.inr ⟨_,K,_,rfl,d,Zi7 _ _,a,ZgX,by rw[size_madeCells];simp,?_⟩⟩;rw[toList_madeCells_one];simp[Yd,List.take_replicate,Zl7 a]
def Oa{g:Hp}{wd:Int}{n m:Nat}(p:ZI (Zv g)=xk)(u:n+1=m)(t:(I g.H:Int)+I g.aa+m<=g.cap):ZI (Zv<|Yt g wd n)=xk:=by
 obtain⟨d,f,h,j,k,⟨l,q,o,r⟩,a⟩:=XH.1 p;refine XH.2 ⟨d,f,h,j,k,⟨l,?_,o,?_⟩,a⟩;show(0:Int)<=(I ((wd::List.replicate n 0)++g.aa):Nat);omega;show((I ((wd::List.replicate n 0)++g.aa):Nat):Int)<=g.cap-I g.H;simp;omega
def O7{g:Hp}{wd:Int}{n:Nat}(a:g.ok)(f:ZB wd)(h:n+1+I g.aa<=1000000):(Yt g wd n).ok:=by
 refine⟨a.base,a.cap,a.to,a.Z,a.H,?_,a.ah,a.ak,a.E,a.ex,λx d=> ?_,a.ls,a.lc,a.df⟩;simp[Yt];omega;simp only[Yt,Zj5,Zi6,Zib,List.mem_replicate]at d;obtain rfl|⟨_,rfl⟩|d:=d;exact f;unfold ZB;omega;exact a.eu x d
def Z8t{g:Hp}{wd:Int}{n:Nat}(d:ZI (Zv<|Yt g wd n)=xk):Y3 (Zv<|Yt g wd n) 2 0=(ZC (Zv<|Yt g wd n) 2,0)/\ZB (ZC (Zv<|Yt g wd n) 2)/\Xr (ZC (Zv<|Yt g wd n) 2)=(ZX (Zv<|Yt g wd n) 2 0,0):=by
 have f:YI (Zv<|Yt g wd n) 2=(n+1+I g.aa:Nat):=by
  show((I ((wd::List.replicate n 0)++g.aa):Nat):Int)=_;simp;omega
 obtain⟨h,j,l,o⟩:=Va d 2;refine⟨?_,⟨Z0,Z0⟩,?_⟩;have:=R0 d (k:=2) (a:=0) Z0 Z0;simpa using this;unfold Xr ZX;rw[ZhP Z0,Int.add_zero]
def Z8s{w W:Z3}{u:Nat}{g:Hp}{x:Z5}{Q:Prop}(s:PSt w W u g x Q)(v:Int){v0 v1 f h v4 k v6 l n o:Zb}:QR w (v,g,0) Q (.returned<|.tuple #[.int .u64 v,ZA g x,.int .i64 0]) ((((((((((W.setCell ⟨xz (xj w)+1+1,0,U⟩ v0).setCell ⟨xz (xj w)+1+1,1,U⟩ v1).setCell ⟨xz (xj w)+1+1,2,U⟩ f).setCell ⟨xz (xj w)+1+1,3,U⟩ h).setCell ⟨xz (xj w)+1+1,4,U⟩ v4).setCell ⟨xz (xj w)+1+1,5,U⟩ k).setCell ⟨xz (xj w)+1+1,6,U⟩ v6).setCell ⟨xz (xj w)+1+1,7,U⟩ l).setCell ⟨xz (xj w)+1+1,8,U⟩ n).setCell ⟨xz (xj w)+1+1,9,U⟩ o).drew:=by
 have r:=qU W (xz (xj w)+1+1) v0 v1 f h v4 k v6 l n o;have p:∀c,c≠xz (xj w)+1+1->_:=λc d=> @Z8G W (xz (xj w)+1+1) c d v0 v1 f h v4 k v6 l n o;unfold V2 at r;refine⟨x,rfl,(WP s.bp Z0).drew,λj a=>((s.rd j a).keep (λb z=>p b Z0) λ_ q=>q).mono λb q=>⟨Z0,?_⟩,λq=>⟨λj a=>Lr (Xm ((s.own q).1.own j a) λc d=>p c ?_) λc y t=>⟨Z0,t⟩,(s.own q).1.apart⟩⟩;rw[Gm,r];exact q.2.1;have:=(((s.own q).1.own j a).lt c d).1;omega
def Z1f(w:Z3)(G:Z4)(hG:∀b,G b->b<xz (xj w))(h:Hp)(hh:h.ok)(d6:Z5)(hs:∀j,j<5->Rd w G (.sl<|(Zu h j).map vu) (d6 j))(n m:Nat)(pt wd:Int)(hn:n<=255)(hm:n+1=m)(n0:Xa n pt=(wd,0)){p q p8:Pts}(r:Rt h p){g h8:Hp}(hg:g.ok)(rg:Rt g q)(o8:h8.ok)(r8:Rt h8 p8)
  (hd:(h.M=xk/\h8=h)\/(h.M=xw/\Xn h p m=xk/\h8=h)\/(h.M=xw/\Xn h p m=xw/\h8=Ys h)) (m9:g=Y9 h8 m)
  {res:Int×Hp×Int} (j2:res=if Xn g q m then(ZX (Zv<|Yt g wd n) 2 0,Yt g wd n,0)else(0,Hp.zero,7)) {Q:Prop} (hQ:Q->h.M=xw/\Xn h p m=xk):
  Calls xP 7 #[ZA h d6,.agg #[.int .i64 (n:Nat),.int .i64 pt]] w (QR w res Q):=by
 have HS:=ZhK hs;have HH:=ZhK hh;have r9:1<=m/\m<=256:=Z0;have HD:=ZhK hd;have i3:=ZhK j2;have HQ:=ZhK hQ;have HR:∀W,Below (xz<|xj w) w W->Calls xP 8 #[ZA h d6] W λe w'=>e=.returned (.bool<|Yk h)/\Below (xz<|xj W) W w':=λW C=>
  JJ (w:=W) (G:=G) (x:=d6) hh (λb A=>ZhO (hG b A) C.size) (λj hj=>(hs j hj).keep (λb A=>C.block b<|hG b A) λ_ q=>q)
 rw[r.right]at HR;have l4:=ZhK<|Z7W (s:=(n:Int)) (p:=pt);have n7:=ZhK HR;have wn:IntKind.i64.wrap ((n:Int)+1)=(m:Int):=ZgR;have HN:=ZhK<|And.intro hm m9;obtain⟨W0,j5,s3,k7⟩:=jK w (.cells (X9 h d6) 30)<|.cells #[.int .i64 (n:Nat),.int .i64 pt] 34;have n8:=ZhK k7;have r3:=ZhK j5;obtain⟨p0,s0,_,_⟩:=k7.F;unfold X9 at j5 p0;clear hs HR hd j2 hQ k7 m9;unfold ZA;go_enter Fe,Tryz.ntmps7
 go_upto_region 6 with (first
  |(go_at_call 14;go_loud (refine(l4.out W0).mono ?_;rintro e w1 ⟨rfl,j7⟩;rw[n0];dsimp only;have k8:=n8.out.below j7;have s4:=j7.size;obtain⟨p1,s1,_,_⟩:=k8.F;unfold X9 at p1;have l5:=ZhK k8;clear j7 k8 j5 l4 p0 s0))
  |(go_at_call 8;go_loud (refine(n7.out _ l5.out.bp).mono ?_;rintro e w2 ⟨rfl,j8⟩;have k9:=l5.out.below j8;have s5:=j8.size;obtain⟨p2,s2,_,_⟩:=k9.F;unfold X9 at p2;have l7:=ZhK k9;clear j8 k9 p1 s1))
  |(go_at_call 15;go_loud (refine(zB _ G (λb C=>by have:=hG b C;omega) h HH.out d6<|λj hj=>(HS.out j hj).keep (λb C=>l7.out.bp.block b<|hG b C) (λ_ h=>h)).mono ?_;rintro e Z ⟨y,rfl,m5,a6⟩;obtain⟨a0,q0,e0⟩:=Xl<|a6.own 0 Z0;obtain⟨a1,q1,e1⟩:=Xl<|a6.own 1 Z0;obtain⟨a2,q2,e2⟩:=Xl<|a6.own 2 Z0;obtain⟨a3,q3,e3⟩:=Xl<|a6.own 3 Z0;obtain⟨a4,q4,e4⟩:=Xl<|a6.own 4 Z0;have l3:=ZhK<|And.intro m5 a6;clear m5 a6;unfold ZA;rw[e0,e1,e2,e3,e4])))
 obtain⟨W6,j6⟩:∃W6,Z.alloc (.cells #[.int .u64 h.base,.int .i64 h.cap,.int .i64 h.to,.bool h.M,.int .i64 h.Z,.slice a0 (I<|Zu h 0) q0,.slice a1 (I<|Zu h 1) q1,.slice a2 (I<|Zu h 2) q2,.slice a3 (I<|Zu h 3) q3,.slice a4 (I<|Zu h 4) q4] 30)=W6:=⟨_,rfl⟩;have i2:PSt w W6 (xz<|xj Z) h y True:=Z8z l7.out Z0 l3.out.1 l3.out.2 (by unfold X9;rw[e0,e1,e2,e3,e4];exact j6);rw[j6];obtain⟨y6,f6⟩:=i2.F;rw[e0,e1,e2,e3,e4]at y6;have a5:=ZhK i2;have m3:∀W,Below (xz<|xj W6) W6 W->Calls xP 16 #[.agg #[.int .u64 h.base,.int .i64 h.cap,.int .i64 h.to,.bool h.M,.int .i64 h.Z,.slice a0 (I<|Zu h 0) q0,.slice a1 (I<|Zu h 1) q1,.slice a2 (I<|Zu h 2) q2,.slice a3 (I<|Zu h 3) q3,.slice a4 (I<|Zu h 4) q4],.int .i64 (m:Nat)] W λe w'=>e=.returned (.bool<|Xn h p m)/\Below (xz<|xj W) W w':=λW C=>by
  have:=P1 hh r (n:=(m:Int)) Z0 (W:=W) (λb A=>A.2.1) (i2.below C).rd;unfold ZA at this;rw[e0,e1,e2,e3,e4]at this;exact this
 have t:=ZhK m3;have E:=ZhK<|And.intro e0<|And.intro e1<|And.intro e2<|And.intro e3 e4;clear i2 m3 p2 s2 j6 e0 e1 e2 e3 e4 wn;have m2:∀(W2:Z3) (x2:Z5) (W7:Z3),PSt w W7 (xz<|xj Z) h y True->Below (xz<|xj W7) W7 W2->(∀j,j<5->Rd W2 (λc=>(xz (xj w)+3<=c/\c<xz (xj W7)/\c≠xz (xj Z))\/(xz (xj W7)<=c/\c<xz (xj W2))) (.sl<|(Zu (Ys h) j).map vu) (x2 j))->PSt w (V2 W2 (xz<|xj Z) (.int .u64 (Ys h).base) (.int .i64 (Ys h).cap) (.int .i64 (Ys h).to) (.bool (Ys h).M) (.int .i64 (Ys h).Z) (x2 0) (x2 1) (x2 2) (x2 3)<|x2 4) (xz<|xj Z) (Ys h) x2 False:=λW2 x2 W7 s C hr=>s.store C hr;have n6:=ZhK m2;clear m2;obtain⟨hc,rfl⟩|⟨hc,f5,rfl⟩|⟨hc,f5,rfl⟩:=HD.out;all_goals have HC:=ZhK hc
 case' inl=>
  go_upto_region 10 with fail;have o:=ZhK (a5.out.imp (Q':=Q) λq=>trivial);have u:=ZhK E.out
 case' inr.inl=>
  have t:=t.out;rw[hc]at t;have t:=ZhK t
  go_upto_region 10 with (first
   |(go_at_call 16;go_loud (refine(t.out _<|ZhY _ _).mono ?_;rintro e w7 ⟨rfl,e7⟩;rw[f5];have a9:=a5.out.below e7;obtain⟨y7,f7⟩:=a9.F;rw[E.out.1,E.out.2.1,E.out.2.2.1,E.out.2.2.2.1,E.out.2.2.2.2]at y7;have o:=ZhK (a9.imp (Q':=Q) λq=>trivial);clear e7 a9)))
  have u:=ZhK E.out
 case' inr.inr=>
  have t:=t.out;rw[hc]at t;have t:=ZhK t
  go_upto_region 10 with (first
   |(go_at_call 16;go_loud (refine(t.out _<|ZhY _ _).mono ?_;rintro e w7 ⟨rfl,e7⟩;rw[f5];have a9:=a5.out.below e7;obtain⟨y7,f7⟩:=a9.F;rw[E.out.1,E.out.2.1,E.out.2.2.1,E.out.2.2.2.1,E.out.2.2.2.2]at y7;have j4:=ZhK a9;clear e7 a9))
   |(go_at_call 17;go_loud (have h3:=Z13 w7 _ (λb A=>A.2.1) h HH.out y j4.out.rd;unfold ZA at h3;rw[hc,E.out.1,E.out.2.1,E.out.2.2.1,E.out.2.2.2.1,E.out.2.2.2.2,show Sf h=(Ys h,0)by unfold Sf;rw[ZhP (by rw[r.right];simp),ZhP (by rw[HC.out];simp)]]at h3;refine h3.mono ?_;clear h3;rintro e w8 ⟨x8,rfl,j9,a7⟩;obtain⟨v8,g8⟩:=(j4.out.below j9).F;rw[E.out.1,E.out.2.1,E.out.2.2.1,E.out.2.2.2.1,E.out.2.2.2.2]at v8;have b5:=n6.out w8 x8 w7 j4.out j9 (λj hj=>(a7 j hj).mono λb q=>.inr q);obtain⟨b0,k0,f0⟩:=XG<|a7 0 (by omega);obtain⟨b1,k1,f1⟩:=XG<|a7 1 (by omega);obtain⟨b2,k2,f2⟩:=XG<|a7 2 (by omega);obtain⟨b3,k3,f3⟩:=XG<|a7 3 (by omega);obtain⟨b4,k4,f4⟩:=XG<|a7 4 (by omega);unfold ZA;rw[f0,f1,f2,f3,f4];have z8:=b5.F.1;unfold V2 at z8;rw[f0,f1,f2,f3,f4]at z8;have n9:=ZhK b5;have u:=ZhK<|And.intro f0<|And.intro f1<|And.intro f2<|And.intro f3 f4;clear j9 a7 b5 f0 f1 f2 f3 f4)))
 case' inl=>
  obtain⟨W8,rfl⟩:∃W8,W8=W6:=⟨_,rfl⟩;have d8:=HC;have h0:=hc;clear y6
 case' inr.inl=>
  obtain⟨W8,rfl⟩:∃W8,W8=w7:=⟨_,rfl⟩;have d8:=HC;have h0:=hc;clear y6 y7
 case' inr.inr=>
  obtain⟨W8,g5⟩:∃W8,V2 w8 (xz<|xj Z) (.int .u64 (Ys h).base) (.int .i64 (Ys h).cap) (.int .i64 (Ys h).to) (.bool (Ys h).M) (.int .i64 (Ys h).Z) (.slice b0 (I<|Zu (Ys h) 0) k0) (.slice b1 (I<|Zu (Ys h) 1) k1) (.slice b2 (I<|Zu (Ys h) 2) k2) (.slice b3 (I<|Zu (Ys h) 3) k3) (.slice b4 (I<|Zu (Ys h) 4) k4)=W8:=⟨_,rfl⟩;have b5:=n9.out;rw[u.out.1,u.out.2.1,u.out.2.2.1,u.out.2.2.2.1,u.out.2.2.2.2,g5]at b5;have o:=ZhK (b5.imp (Q':=Q) λq=>by have:=(HQ.out q).2;rw[f5]at this;cases this);unfold V2 at g5;rw[g5];clear y6 y7 z8 g5 b5 v8 g8;cases h0:(Ys h).M;all_goals have d8:=ZhK h0
 all_goals
  obtain⟨y8,f8⟩:=o.out.F;rw[u.out.1,u.out.2.1,u.out.2.2.1,u.out.2.2.2.1,u.out.2.2.2.2]at y8;first
  | (have e9:=Z4x (Z1g Zac o8 (k:=(m:Int)) ⟨by omega,by omega⟩) (λb A=>A.2.1) o.out.rd
     rw[Z8N r8,<-HN.out.2]at e9;unfold ZA at e9;rw[u.out.1,u.out.2.1,u.out.2.2.1,u.out.2.2.2.1,u.out.2.2.2.2,show _=xk from d8.out]at e9
     go_upto_region 14 with (first
      |(go_at_call 18;go_loud (refine e9.mono ?_;clear e9;rintro e w9 ⟨x9,rfl,k5,a8⟩;obtain⟨v9,g9⟩:=(o.out.below k5).F;rw[u.out.1,u.out.2.1,u.out.2.2.1,u.out.2.2.2.1,u.out.2.2.2.2]at v9;have b6:=o.out.store k5 a8;obtain⟨b0,k0,f0⟩:=XG<|a8 0 (by omega);obtain⟨b1,k1,f1⟩:=XG<|a8 1 (by omega);obtain⟨b2,k2,f2⟩:=XG<|a8 2 (by omega);obtain⟨b3,k3,f3⟩:=XG<|a8 3 (by omega);obtain⟨b4,k4,f4⟩:=XG<|a8 4 (by omega);unfold ZA;rw[f0,f1,f2,f3,f4];rw[f0,f1,f2,f3,f4]at b6;have l8:=ZhK b6;clear k5 a8 b6 f0 f1 f2 f3 f4))))
  |go_upto_region 14 with fail
 all_goals
  first
  | (obtain⟨W9,g6⟩:∃W9,V2 w9 (xz<|xj Z) (.int .u64 g.base) (.int .i64 g.cap) (.int .i64 g.to) (.bool g.M) (.int .i64 g.Z) (.slice b0 (I<|Zu g 0) k0) (.slice b1 (I<|Zu g 1) k1) (.slice b2 (I<|Zu g 2) k2) (.slice b3 (I<|Zu g 3) k3) (.slice b4 (I<|Zu g 4) k4)=W9:=⟨_,rfl⟩
     have b6:=l8.out;rw[g6]at b6;have d7:=ZhK (b6.imp (Q':=Q) λq=>by have h1:=(HQ.out q).1;have h2:=(HQ.out q).2;first|(rw[HC.out]at h1;cases h1;done)|(rw[f5]at h2;cases h2;done));unfold V2 at g6;rw[g6];clear y8 v9 g9 g6 b6 l8)
  | (obtain⟨W9,rfl⟩:∃W9,W9=W8:=⟨_,rfl⟩
     have m8:=HN.out.2.trans<|JN d8.out m;have d:=o.out;rw[<-m8]at d;have d7:=ZhK d;clear y8 d m8)
 all_goals
  clear o u a5 E d8 HC h0 hc;obtain⟨x9,d⟩:∃x9,PSt w W9 (xz<|xj Z) g x9 Q:=⟨_,d7.out⟩;obtain⟨c0,d0,e0⟩:=XG<|d.rd 0 Z0;obtain⟨c1,d1,e1⟩:=XG<|d.rd 1 Z0;obtain⟨c2,d2,e2⟩:=XG<|d.rd 2 Z0;obtain⟨c3,d3,e3⟩:=XG<|d.rd 3 Z0;obtain⟨c4,d4,e4⟩:=XG<|d.rd 4 Z0;obtain⟨y9,o1⟩:=d.F;rw[e0,e1,e2,e3,e4]at y9;have Y:=P1 hg rg (n:=(m:Int)) Z0 (W:=W9) (λb A=>A.2.1) d.rd;unfold ZA at Y;rw[e0,e1,e2,e3,e4]at Y;have E:=ZhK<|And.intro e0<|And.intro e1<|And.intro e2<|And.intro e3 e4;have a5:=ZhK d;clear d7 d e0 e1 e2 e3 e4;cases f9:Xn g q m;case false=>
   have k6:res=(0,Hp.zero,7):=by rw[i3.out,f9];rfl
   rw[f9]at Y;subst k6
   go_wp2_with (first
    |(go_at_call 16;go_loud (refine Y.mono ?_;clear Y;rintro e f ⟨rfl,S⟩;have B:=a5.out.below S;obtain⟨s6,r1⟩:=B.R;have a:=ZhK B;clear S B)))
   have q8:=U4 a.out.cx (.int .u64 0) (.int .i64 0) (.int .i64 0) (.bool xw) (.int .i64 0) (.slice U 0 0) (.slice U 0 0) (.slice U 0 0) (.slice U 0 0)<|.slice U 0 0;refine Zie (v:=.tuple #[.int .u64 0,.agg ZL,.int .i64 7]) ?_ rfl ?_
   .simp[results,Tryz.results7,go_sem,q8,ZL]
   exact⟨λ_=>.slice U 0 0,rfl,WP a.out.bp Z0,K5 _ _,λ_=>Z0H _ _⟩
  case true=>
   have o5:I (Zu g 1)=I g.aa:=rfl;have g7:(I g.H:Int)+I g.aa+YK q+m<=g.cap:=by simpa[Xn]using f9
   have i9:=rg.oe;obtain⟨K,hK⟩:∃K,m+I (Zu g 1)=K:=⟨_,rfl⟩;have m1:K<=4096:=Z0;have wk:IntKind.i64.wrap ((m:Int)+(I (Zu g 1):Int))=(K:Int):=ZgR;have o6:=Z6n (m:=m) (K:=K) Z0 Z0;have r4:((0:Int)< (m:Int))=True:=Zk3 Z0;have HB:=ZhK<|And.intro g7<|And.intro i9<|And.intro hK m1;rw[f9]at Y;clear g7 i9 hK m1 o5
   go_upto_region 17 with (first
    |(go_at_call 16;go_loud (refine Y.mono ?_;clear Y;rintro e f ⟨rfl,S⟩;have B:=a5.out.below S;obtain⟨n4,l9⟩:=B.F;rw[E.out.1,E.out.2.1,E.out.2.2.1,E.out.2.2.2.1,E.out.2.2.2.2]at n4;have a:=ZhK B;clear S B y9 o1)))
   obtain⟨O,D⟩:∃O,f.alloc (.cells (madeCells #[.int .u64 0] K) 24)=O:=⟨_,rfl⟩;rw[D];have b8:O.ownsRow (xz<|xj f) 24 1 (.slice (J ⟨xz<|xj f,0,U⟩) m K) m<|Yd .u64<|List.replicate m 0:=by rw[<-D];exact Z6m (ZhL _) (by have:=HB.out.2.2.1;omega) HB.out.2.2.2
   have j3:xz (xj O)=xz (xj f)+1:=by rw[<-D];simp
   have j0:∀b,b<xz (xj f)->O.heap[b]?=f.heap[b]? :=λb C=>by rw[<-D];exact ZhU _ _ _ C
   have m6:O.cell? ⟨xz<|xj f,0,U⟩=J (.int .u64 0):=by rw[b8.cellAt 0 Z0];simp[Yd,show 0<m by omega]
   have m7:=Cj b8 (i:=0) Z0;have X:=(b8.stored 0<|.int .u64 wd).1;have i5:Below (xz<|xj w) w O:=by rw[<-D];exact a.out.bp.alloc a.out.bp.size _
   have HO:=ZhK<|And.intro X<|And.intro j3<|And.intro j0 i5;clear b8 X j0 i5 D n4 l9 o6 wk j3;go_upto_region 18 with fail;obtain⟨P,H⟩:∃P,O.setCell ⟨xz<|xj f,0,U⟩ (.int .u64 wd)=P:=⟨_,rfl⟩;rw[H];have n2:xz (xj P)=xz (xj f)+1:=by rw[<-H];simpa[World.setCell]using HO.out.2.1
   have b7:∀b,b<xz (xj f)->P.heap[b]?=f.heap[b]? :=λb C=>by rw[<-H];exact(Zi0 _ _ _ _ (by show b≠xz (xj f);omega)).trans (HO.out.2.2.1 b C)
   have e6:Below (xz<|xj w) w P:=by rw[<-H];exact HO.out.2.2.2.setCell (by have:=a.out.bp.size;exact this) _
   have o7:=Y1 a.out.cz;have g3:=(b7 _ o7).trans a.out.cz;unfold X9 at g3;rw[E.out.1,E.out.2.1,E.out.2.2.1,E.out.2.2.2.1,E.out.2.2.2.2]at g3;have q5:∀j,P.cell? ⟨xz<|xj Z,j,U⟩=(#[.int .u64 g.base,.int .i64 g.cap,.int .i64 g.to,.bool g.M,.int .i64 g.Z,.slice c0 (I<|Zu g 0) d0,.slice c1 (I<|Zu g 1) d1,.slice c2 (I<|Zu g 2) d2,.slice c3 (I<|Zu g 3) d3,.slice c4 (I<|Zu g 4) d4]:Array Value)[j]? :=λj=>ZhQ _ _ _ _ _ _ g3;have j1:Rd P (λc=>xz (xj w)+3<=c/\c<xz (xj f)/\c≠xz (xj Z)) (.sl<|g.aa.map vu)<|.slice c1 (I<|Zu g 1) d1:=by
    have:=a.out.rd 1 Z0;rw[E.out.2.1]at this;exact this.keep (λb C=>b7 b C.2.1) λ_ q=>q
   have X:P.ownsRow (xz<|xj f) 24 1 (.slice (J ⟨xz<|xj f,0,U⟩) m K) m<|Yd .u64<|wd::List.replicate n 0:=by
    have:=HO.out.1;rw[H,<-Js]at this;rw[show wd::List.replicate n 0=(List.replicate m 0).set 0 wd by rw[<-hm,List.replicate_succ];rfl];exact this
   obtain⟨e5,g4,l0,m4,e8,T⟩:=Z8r Z0 X j1 (by have:=HB.out;have:I (Zu g 1)=I g.aa:=rfl;omega) 28;obtain⟨M,d5⟩:∃M,Yt g wd n=M:=⟨_,rfl⟩;obtain⟨N,hx⟩:∃N:Z5,(λj=>if j=1 then .slice e5 (m+I g.aa) g4 else x9 j)=N:=⟨_,rfl⟩;have i1:=(T.block _ Z0 ZgJ).trans g3;have q6:∀j,l0.cell? ⟨xz<|xj Z,j,U⟩=(#[.int .u64 g.base,.int .i64 g.cap,.int .i64 g.to,.bool g.M,.int .i64 g.Z,.slice c0 (I<|Zu g 0) d0,.slice c1 (I<|Zu g 1) d1,.slice c2 (I<|Zu g 2) d2,.slice c3 (I<|Zu g 3) d3,.slice c4 (I<|Zu g 4) d4]:Array Value)[j]? :=λj=>ZhQ _ _ _ _ _ _ i1;have o0:∀j,l0.frozen? ⟨xz<|xj Z,j,U⟩=xw:=λj=>Yh i1;obtain⟨d9,L⟩:∃d9,l0.setCell ⟨xz<|xj Z,6,U⟩ (.slice e5 (m+I g.aa) g4)=d9:=⟨_,rfl⟩;have h5:N 0=.slice c0 (I<|Zu g 0) d0:=by rw[<-hx];exact E.out.1
   have h6:N 1=.slice e5 (m+I g.aa) g4:=by rw[<-hx];rfl
   have h7:N 2=.slice c2 (I<|Zu g 2) d2:=by rw[<-hx];exact E.out.2.2.1
   have h9:N 3=.slice c3 (I<|Zu g 3) d3:=by rw[<-hx];exact E.out.2.2.2.1
   have i0:N 4=.slice c4 (I<|Zu g 4) d4:=by rw[<-hx];exact E.out.2.2.2.2
   have n3:=T.size;have b9:PSt w d9 (xz<|xj Z) M N Q:=by
    have:=a.out.place (W':=d9) (l:=(wd::List.replicate n 0)++g.aa) (v:=.slice e5 (m+I g.aa) g4) ?_ ?_ ?_ ?_ ?_;rw[<-d5,<-hx];exact this;rw[<-L];simp[World.setCell];omega;intro b C o3;rw[<-L];exact(Zi0 _ _ _ _ o3).trans ((T.block _ Z0 ZgJ).trans<|b7 b C);rw[<-L];unfold X9;have e0:=E.out.1;have e2:=E.out.2.2.1;have e3:=E.out.2.2.2.1;have e4:=E.out.2.2.2.2;simp[World.setCell,Zij,i1,e0,e2,e3,e4];rw[<-L];refine Xm e8 λb C=>Zi0 _ _ _ _ ?_;have:=(e8.lt b C).1;show b≠xz (xj Z);omega;rw[<-L];exact(Below.grown e6 T e6.size (λr hr=>by cases hr;have:=a.out.bp.size;omega)).setCell (by show xz (xj w)<=xz (xj Z);have:=a.out.nB;omega) _
   go_upto_region 19 with (at_builtin;refine Lib.wpList_append_run _ rfl _ _ 28 28 rfl _ _ rfl rfl _ _ m4 ?_);have g7:(I g.H:Int)+I g.aa+m<=g.cap:=by have:=HB.out.1;omega
   have o4:ZI (Zv M)=xk:=by rw[<-d5];exact Oa rg.bc hm g7
   have hu:ZB wd:=by
    have:=NS n pt;rw[n0]at this;unfold ZB;dsimp only at this;omega
   have o2:M.ok:=by rw[<-d5];exact O7 hg hu (by have:=HB.out;have:I (Zu g 1)=I g.aa:=rfl;omega)
   have n1:Y3 (Zv M) 2 0=(ZC (Zv M) 2,0)/\ZB (ZC (Zv M) 2)/\Xr (ZC (Zv M) 2)=(ZX (Zv M) 2 0,0):=by
    have:=Z8t (g:=g) (wd:=wd) (n:=n) (by rw[d5];exact o4);rw[d5]at this;exact this
   obtain⟨n5,m0⟩:=b9.F;rw[h5,h6,h7,h9,i0]at n5;have h4:=Ke (w:=d9) (λb C=>C.2.1) b9.rd;unfold ZA at h4;rw[h5,h6,h7,h9,i0]at h4;have l6:=ZhK b9;have HX:=ZhK<|And.intro h5<|And.intro h6<|And.intro h7<|And.intro h9 i0;have HP:=ZhK<|And.intro n1 o2;clear g3 q5 j1 X m4 e8 T i1 q6 o0 L b9 h5 h6 h7 h9 i0 n1 n3 H b7 e6 n2 m6 m7 hx
   go_upto_region 25 with (first
    |(go_at_call 20;go_loud (refine h4.mono ?_;clear h4;rintro e o9 ⟨rfl,i6⟩;unfold Ti;have l1:=ZhK i6;clear i6))
    |(go_at_call 19;go_loud (refine(A5 HP.out.2.bc 2 0 o9).mono ?_;rintro e p7 ⟨rfl,i7⟩;rw[HP.out.1.1];dsimp only;have l2:=ZhK i7;clear i7))
    |(go_at_call 21;go_loud (refine(Oj HP.out.1.2.1 p7).mono ?_;rintro e s8 ⟨rfl,i8⟩;rw[HP.out.1.2.2];dsimp only;have c7:=((l6.out.below l1.out).below l2.out).below i8;obtain⟨q7,q9⟩:=c7.F;rw[HX.out.1,HX.out.2.1,HX.out.2.2.1,HX.out.2.2.2.1,HX.out.2.2.2.2]at q7;obtain⟨s7,r2⟩:=c7.R;have i4:=ZhK c7;clear i8 c7 n5 m0)))
   have k6:res=(ZX (Zv M) 2 0,M,0):=by rw[i3.out,f9,d5];rfl
   subst k6;go_region;all_goals
    go_wp2;try simp only[Exit.inBlock,Exit.then]
    have z:=U4 i4.out.cx (.int .u64 M.base) (.int .i64 M.cap) (.int .i64 M.to) (.bool M.M) (.int .i64 M.Z) (.slice c0 (I<|Zu g 0) d0) (.slice e5 (m+I g.aa) g4) (.slice c2 (I<|Zu g 2) d2) (.slice c3 (I<|Zu g 3) d3)<|.slice c4 (I<|Zu g 4) d4;refine Zie (v:=.tuple #[.int .u64<|ZX (Zv M) 2 0,ZA M N,.int .i64 0]) ?_ rfl ?_
    .unfold ZA;rw[HX.out.1,HX.out.2.1,HX.out.2.2.1,HX.out.2.2.2.1,HX.out.2.2.2.2];simp[results,Tryz.results7,go_sem,z]
    exact Z8s i4.out _
end Vm
end
section
namespace Vm
open Go Go.Proofs
def H1{h:Hp}(y:h.ok)(z:h.to=0\/h.to=1):(Ys h).ok:=by
 have:=AQ y z<|I h.E;unfold Ys Un;obtain⟨d,f,g,j,k,l,r,t,n,o,p,u,x,q⟩:=this;split;exact⟨d,f,g,j,k,l,r,t,n,o,p,u,x,q⟩;exact⟨d,f,g,j,k,l,ZiZ _,ZiZ _,n,o,p,λw a=>(by cases a),λw a=>(by cases a),q⟩
end Vm
end
section
namespace Vm
open Go Go.Proofs Go.RowKit
def YQ(h:Hp)(p:Pts)(n:Nat):Hp:=Y9 (if h.M=xw/\Xn h p (n+1:Nat)=xw then Ys h else h)<|n+1
def WH(h:Hp)(p q:Pts)(n:Nat)(wd:Int):Int×Hp×Int:=if Xn (YQ h p n) q (n+1:Nat)then(ZX (Zv<|Yt (YQ h p n) wd n) 2 0,Yt (YQ h p n) wd n,0)else(0,Hp.zero,7)
def H7{h:Hp}{p:Pts}(r:Rt h p)(hc:h.M=xw):∃q,Rt (Ys h) q:=by
 obtain⟨g,q,_,e,a,_⟩:=H2 r hc;exact⟨_,by rw[e];exact a⟩
def EE(w:Z3)(G:Z4)(z:∀b,G b->b<xz (xj w))(h:Hp)(t:h.ok)(a:Z5)(C:∀j,j<5->Rd w G (.sl<|(Zu h j).map vu) (a j))(n:Nat)(pt wd:Int)(B:n<=255)(x:Xa n pt=(wd,0)){p:Pts}(r:Rt h p):
  ∃q,Rt (YQ h p n) q/\(YQ h p n).ok/\Calls xP 7 #[ZA h a,.agg #[.int .i64 (n:Nat),.int .i64 pt]] w (QR w (WH h p q n wd)<|h.M=xw/\Xn h p (n+1:Nat)=xk):=by
 have key:∀d p8,d.ok->Rt d p8->(if h.M=xw/\Xn h p (n+1:Nat)=xw then Ys h else h)=d->((h.M=xk/\d=h)\/(h.M=xw/\Xn h p (n+1:Nat)=xk/\d=h)\/(h.M=xw/\Xn h p (n+1:Nat)=xw/\d=Ys h))->∃q,Rt (YQ h p n) q/\(YQ h p n).ok/\Calls xP 7 #[ZA h a,.agg #[.int .i64 (n:Nat),.int .i64 pt]] w (QR w (WH h p q n wd)<|h.M=xw/\Xn h p (n+1:Nat)=xk):=by
  intro d p8 o y e A;obtain⟨q,sc⟩:=y.fe<|n+1;have u:YQ h p n=Y9 d (n+1):=by unfold YQ;rw[e]
  have k:(YQ h p n).ok:=by rw[u];exact QB o y _
  have l:Rt (YQ h p n) q:=by rw[u];exact sc.rt
  exact⟨q,l,k,Z1f w G z h t a C n (n+1) pt wd B rfl x r k l o y A u rfl<|λq=>q⟩
 by_cases f:h.M=xk;exact key h p t r (by rw[f];simp)<|.inl ⟨f,rfl⟩;have f:h.M=xw:=ZgZ;by_cases g:Xn h p (n+1:Nat)=xk;exact key h p t r (by rw[g];simp)<|.inr<|.inl ⟨f,g,rfl⟩;have g:Xn h p (n+1:Nat)=xw:=ZhC;obtain⟨q,F⟩:=H7 r f;have D:h.to=0\/h.to=1:=(XH.1 r.bc).2.2.2.2.1;exact key (Ys h) q (H1 t D) F (by rw[g,f];simp)<|.inr<|.inr ⟨f,g,rfl⟩
def Z70(w:Z3)(h:Hp)(H:Z5){k s i z pp v v' er:Int}{r':Nat}{g:Hp}{Q:Prop}
  (hP:∀W,Below (xz<|xj w) w W->Calls xP 7 #[ZA h H,.agg #[.int .i64 z,.int .i64 pp]] W (QR W (v',g,er) Q))
  {res:Hp×Int} (he:(¬er=0/\res=(Hp.zero,er))\/(er=0/\Q/\r'<I g.E/\res=(V4 g 4 r' v',0))):
  Calls xP 119 #[.agg<|Xg k r' s i z pp v,ZA h H] w (S8 w res):=by
 have HP:=ZhK hP;have HE:=ZhK he;obtain⟨W0,D,b0,u⟩:=jK w (.cells (Xg k r' s i z pp v) 130)<|.cells (X9 h H) 30;obtain⟨p0,s0,_,_⟩:=u.F;have Y:=ZhK u;have N:=ZhK D;unfold X9 Xg at D;unfold X9 at s0;unfold Xg at p0;have C:=hP W0 u.bp;unfold ZA at C;clear hP u he;unfold ZA Xg;go_enter Z1i,Tryz.ntmps119
 go_upto_region 2 with (first
  |(go_at_call 7;go_loud (refine C.mono ?_;clear C;rintro e w5 ⟨y,rfl,G,a,f⟩;dsimp only at G a f;obtain⟨a0,q0,n⟩:=XG<|a 0 (by omega);obtain⟨a1,q1,o⟩:=XG<|a 1 (by omega);obtain⟨a2,q2,p⟩:=XG<|a 2 (by omega);obtain⟨a3,q3,q⟩:=XG<|a 3 (by omega);obtain⟨a4,q4,d⟩:=XG<|a 4 (by omega);dsimp only;unfold ZA;rw[n,o,p,q,d];have A:=ZhK<|And.intro G f;clear G a f p0 s0)))
 obtain⟨O,r⟩:∃O,w5.alloc (.cells #[.int .u64 g.base,.int .i64 g.cap,.int .i64 g.to,.bool g.M,.int .i64 g.Z,.slice a0 (I<|Zu g 0) q0,.slice a1 (I<|Zu g 1) q1,.slice a2 (I<|Zu g 2) q2,.slice a3 (I<|Zu g 3) q3,.slice a4 (I<|Zu g 4) q4] 30)=O:=⟨_,rfl⟩;rw[r];have E:=ZhK<|And.intro n<|And.intro o<|And.intro p<|And.intro q d;have K:=((Y.out.below A.out.1).below (W':=O) (by rw[<-r];exact(ZhY _ _).alloc (ZhL _) _));have B:=ZhK K;have b1:O.heap[xz (xj w)+1]?=_:=K.b1;have X:=ZhK r;clear K r n o p q d b1 D;obtain⟨a6,rfl⟩|⟨rfl,hQ,P,rfl⟩:=HE.out
 .have a7:=Zjv a6;obtain⟨r6,_,z6,f6⟩:=B.out.F;unfold ZL at z6;go_wp2;have L:=U4 B.out.b2 (.int .u64 0) (.int .i64 0) (.int .i64 0) (.bool xw) (.int .i64 0) (.slice U 0 0) (.slice U 0 0) (.slice U 0 0) (.slice U 0 0)<|.slice U 0 0;refine Zie (v:=.tuple #[.agg ZL,.int .i64 er]) ?_ rfl ?_
  .simp[results,Tryz.results119,go_sem,L,ZL]
  exact Az B.out.bp er
 .have l:MSt w O 130 (Xg k r' s i z pp v) g y<|xz<|xj w5:=Mm (by have:=A.out.1;rw[<-N.out]at this;exact this) (by have:=A.out.2 hQ;rw[<-N.out]at this;exact this) (by rw[E.out.1,E.out.2.1,E.out.2.2.1,E.out.2.2.2.1,E.out.2.2.2.2];exact X.out);obtain⟨n,o,p,q,d⟩:=E.out;obtain⟨g4,a5⟩:=JA (l.own.own 4 Z0) d (by show 0<I g.E;omega);subst a5;have t:=l.own.own 4 Z0;rw[d]at t;have S:r'< I (Zu g 4):=P;obtain⟨rv,T⟩:∃rv,(Zu g 4)[r']?=J rv:=⟨_,ZhG S⟩;have a8:=Lq t T;have a9:=Cj t (i:=r') Z0;have x:=l.put (j:=4) (i:=r') Z0 d v';obtain⟨f1,f2⟩:=l.F;rw[n,o,p,q,d]at f2;obtain⟨f3,f4⟩:=x.F;obtain⟨s1,s2,s3,s4,s5⟩:=jt g 4 r' v';rw[s1,s2,s3,s4,s5,n,o,p,q,d]at f4;obtain⟨r3,r4⟩:=x.R;unfold Xg at f1 f3;have M:=ZhK x;clear l x t T s1 s2 s3 s4 s5 n o p q d HE P;go_wp2;obtain⟨n,o,p,q,d⟩:=E.out;have Z:=Hx g 4 r' v' y;have L:=U4 M.out.cx (.int .u64 g.base) (.int .i64 g.cap) (.int .i64 g.to) (.bool g.M) (.int .i64 g.Z) (.slice a0 (I<|Zu g 0) q0) (.slice a1 (I<|Zu g 1) q1) (.slice a2 (I<|Zu g 2) q2) (.slice a3 (I<|Zu g 3) q3)<|.slice (J ⟨g4,0,U⟩) (I<|Zu g 4) q4;refine Zie (v:=.tuple #[ZA (V4 g 4 r' v') y,.int .i64 0]) ?_ rfl ?_
  .rw[Z];unfold ZA;rw[n,o,p,q,d];simp[results,Tryz.results119,go_sem,L]
  exact Gj M.out
def P8{P:Z6}{f:Zn}(a:Wu P f=xk)(args:Za)(W:Z3):(callFunc f args).run P W=.ok (.enter f args) W:=by
 unfold Wu at a;split at a;rename_i fn d;simp only[ZhJ,ZiY,Zkv,Zm1]at a;obtain⟨g,h⟩:=a;obtain⟨code,j⟩:=ZiK.1 h;simp[callFunc,d,g,j];cases a
def DoPost(G:Z4)(w:Z3)(r:Int×Hp×Int)(e:Ending)(w':Z3):Prop:=
 ∃x,e=.returned (.tuple #[.int .u64 r.1,ZA r.2.1 x,.int .i64 r.2.2])/\Below (xz<|xj w) w w'/\∀j,j<5->Rd w' (λc=>G c\/(xz (xj w)<=c/\c<xz (xj w'))) (.sl<|(Zu r.2.1 j).map vu) (x j)
def yf{w W:Z3}{G:Z4}(p:∀b,G b->b<xz (xj w)){g:Hp}{x:Z5}(a:Below (xz<|xj w) w W)(rd:∀j,j<5->Rd W (λc=>G c\/(xz (xj w)+3<=c/\c<xz (xj W))) (.sl<|(Zu g j).map vu) (x j))(v e:Int){v0 v1 f h v4 k v6 l n o:Zb}:DoPost G w (v,g,e) (.returned<|.tuple #[.int .u64 v,ZA g x,.int .i64 e])<|(((((((((W.setCell ⟨xz (xj w)+1+1,0,U⟩ v0).setCell ⟨xz (xj w)+1+1,1,U⟩ v1).setCell ⟨xz (xj w)+1+1,2,U⟩ f).setCell ⟨xz (xj w)+1+1,3,U⟩ h).setCell ⟨xz (xj w)+1+1,4,U⟩ v4).setCell ⟨xz (xj w)+1+1,5,U⟩ k).setCell ⟨xz (xj w)+1+1,6,U⟩ v6).setCell ⟨xz (xj w)+1+1,7,U⟩ l).setCell ⟨xz (xj w)+1+1,8,U⟩ n).setCell ⟨xz (xj w)+1+1,9,U⟩ o:=by
 have d:=qU W (xz (xj w)+1+1) v0 v1 f h v4 k v6 l n o;unfold V2 at d;refine⟨x,rfl,WP a Z0,λj t=>((rd j t).keep (λb r=>Vq ?_) λ_ q=>q).mono λb q=>q.imp (λq=>q) λq=>⟨Z0,?_⟩⟩;obtain q|q:=r;have:=p b q;omega;omega;rw[d];exact q.2
def DoPost.drew{G:Z4}{w W:Z3}{r:Int×Hp×Int}{e:Ending}(h:DoPost G w r e W):DoPost G w r e W.drew:=by
 obtain⟨x,a,d,f⟩:=h;exact⟨x,a,d.drew,λj g=>(f j g).keep (λb _=>rfl) λ_ q=>q⟩
def Z0W(w:Z3)(G:Z4)(P:∀b,G b->b<xz (xj w))(h:Hp)(hh:h.ok)(a:Z5)(hs:∀j,j<5->Rd w G (.sl<|(Zu h j).map vu) (a j))(hr:Yk h=xk){k rr s i z pp v vv er:Int}{g:Hp}(hk:1<=k/\k<=7)(b6:∀u∈Ur k rr s,0<=u/\u<I h.E)
  {F:Zn} (a9:Wu xP F=xk) (hM:∀(n:Nat) (W:Z3) (x:Zb),0<n->(method n (Wx k) x "cromlech/mutator.do").run xP W=.ok (F,x) W)
  (hF:∀W,Below (xz<|xj w) w W->Calls xP F #[.agg<|Xg k rr s i z pp v,ZA h a] W (Kd G W (g,er)))
  (hE:(¬er=0/\vv=0/\g=Hp.zero)\/(er=0/\vv=0/\∀(W:Z3) (x:Zb),(Instr.typeAssert (.iface (Wx k) x) 74 78 xk).run xP W=.ok (.tuple #[.nilIface,.bool xw]) W)\/
   (er=0/\(∀(W:Z3) (x:Zb),(Instr.typeAssert (.iface (Wx k) x) 74 78 xk).run xP W=.ok (.tuple #[.iface (Wx k) x,.bool xk]) W)/\∃Fo,Wu xP Fo=xk/\(∀(n:Nat) (W:Z3) (x:Zb),0<n->(method n (Wx k) x "cromlech/mutator.told").run xP W=.ok (Fo,x) W)/\
    ∀W,Below (xz<|xj w) w W->Calls xP Fo #[.agg<|Xg k rr s i z pp v,ZA h a] W λe w'=>e=.returned (.int .u64 vv)/\Below (xz<|xj W) W w'))
  :Calls xP 10 #[ZA h a,.agg<|Xg k rr s i z pp v] w (DoPost G w (vv,g,er)):=by
 have HR:∀W,Below (xz<|xj w) w W->Calls xP 8 #[ZA h a] W λe w'=>e=.returned (.bool<|Yk h)/\Below (xz<|xj W) W w':=λW hb=>
  JJ (w:=W) (G:=G) (x:=a) hh (λb Q=>ZhO (P b Q) hb.size) (λj hj=>(hs j hj).keep (λb Q=>hb.block b<|P b Q) λ_ q=>q)
 rw[hr]at HR;have d6:=ZhK HR;obtain⟨a4,q4,e4⟩:=XG<|hs 4 Z0;have g9:=hh.E;obtain⟨W0,a5,h4,S⟩:=jK w (.cells (X9 h a) 30)<|.cells (Xg k rr s i z pp v) 43;obtain⟨p0,s0,_,_⟩:=S.F;have a3:=ZhK S;have b7:So k rr s i z pp v=.iface (Wx k) (.agg<|Xg k rr s i z pp v):=by unfold So;rw[ZhS hk]
 have a1:=ZhK (λW=>ID W k rr s i z pp v);have a2:=ZhK (λW=>Z6V W k rr s i z pp v hk);rw[b7]at a1 a2;have C:=d6.out W0 a3.out.bp;unfold X9 Xg at a5;unfold X9 at p0;unfold Xg at s0;unfold ZA at C;rw[show Zu h 4=h.E from rfl]at e4;rw[e4]at p0 a5 C;have d5:=ZhK C;have E4:=ZhK e4;have d0:=ZhK b6;have HF:=ZhK hF;have HE:=ZhK hE;have g4:=P8 a9;clear HR hs S b7 b6 C hF a9 hE;unfold ZA;rw[e4];clear e4;unfold Xg;have f6:∀(W:Z3) (t:Zd) (u:Zb),(binOp .eql 74 (.iface t u) .nilIface).run xP W=.ok (.bool xw) W:=λW t u=>Zhw;have e1:I (Ur k rr s)<=2:=by
  unfold Ur;split;simp;split<;>simp
 obtain⟨L,hL⟩:∃L,I (Ur k rr s)=L:=⟨_,rfl⟩;rw[hL]at e1;go_enter EQ,Tryz.ntmps10
 go_wp2_with (first
  |(go_at_call 8;go_loud (refine d5.out.mono ?_;rintro e w1 ⟨rfl,a6⟩;have T:=a3.out.below a6;obtain⟨p1,s1,_,_⟩:=T.F;unfold X9 at p1;unfold Xg at s1;rw[E4.out]at p1;have d8:=ZhK T;clear a6 T p0 s0))
  |(go_at_call 25;go_loud (refine(a1.out w1).mono ?_;rintro e w2 ⟨rfl,a7⟩;have X:=d8.out.below a7;obtain⟨p2,s2,_,_⟩:=X.F;unfold X9 at p2;rw[E4.out]at p2;have d9:=ZhK X;clear a7 X p1 s1))
  |(go_at_call 26;go_loud (refine(a2.out w2).mono ?_;rintro e w3 ⟨gn,rfl,a8,g6,A⟩;rw[hL];have Y:=d9.out.below a8;obtain⟨p3,s3,r3,e6⟩:=Y.F;unfold X9 at p3;unfold ZL at r3;rw[E4.out]at p3;have N:=ZhK Y;have HC:=ZhK A;clear a8 Y p2 s2 A)))
 go_loop [4,24] (λv4 i=>v4=.int .u64 0/\∃k:Nat,i=.int .i64 k/\k<=L) (λ_ i=>L- (intOf i).toNat)
 case atStart=>exact⟨rfl,0,rfl,Z0⟩
 case round=>
  obtain⟨rfl,M,rfl,g7⟩:=hrel;by_cases b8:M<L
  .obtain⟨u,hu⟩:∃u,(Ur k rr s)[M]?=J u:=⟨_,ZhG Z0⟩;have g5:=HC.out M u hu;obtain⟨h1,h2⟩:=d0.out u<|ZhR hu;have f8:(u<0)=False:=Zjv Z0;have f9:(u≥(I h.E:Int))=False:=Zjv Z0;have g3:((I h.E:Int)<=u)=False:=Zjv Z0;have e9:((M:Int)< (L:Int))=True:=Zk3 Z0;have HU:=ZhK<|And.intro hu<|And.intro hL b8;clear hu hL h1 h2 b8;go_wp2;go_round
   case rel=>exact⟨rfl,M+1,by go_num,(by have h9:M<L:=HU.out.2.2;omega)⟩
   case measure=>have h9:M<L:=HU.out.2.2;simp[intOf];omega
  .obtain rfl:M=L:=Z0;have D:=HF.out w3 N.out.bp;unfold ZA at D;rw[show a 4=_ from E4.out]at D;have c7:=ZhK D;clear D
   go_upto_region 13 with (first
    |(refine c7.out.mono ?_;rintro e w4 ⟨y,rfl,R,f⟩;dsimp only at f;obtain⟨b0,k0,f0⟩:=XG<|f 0 (by omega);obtain⟨b1,k1,f1⟩:=XG<|f 1 (by omega);obtain⟨b2,k2,f2⟩:=XG<|f 2 (by omega);obtain⟨b3,k3,f3⟩:=XG<|f 3 (by omega);obtain⟨b4,k4,f4⟩:=XG<|f 4 (by omega);dsimp only;unfold ZA;rw[f0,f1,f2,f3,f4];have Z:=N.out.below R;obtain⟨_,_,r4,e7⟩:=Z.F;unfold ZL at r4;have O:=ZhK Z;have a0:=ZhK<|And.intro R f;clear R f Z p3 s3 r3 e6))
   obtain⟨p,d⟩:∃p,V2 w4 (xz (xj w)+1+1) (.int .u64 g.base) (.int .i64 g.cap) (.int .i64 g.to) (.bool g.M) (.int .i64 g.Z) (.slice b0 (I<|Zu g 0) k0) (.slice b1 (I<|Zu g 1) k1) (.slice b2 (I<|Zu g 2) k2) (.slice b3 (I<|Zu g 3) k3) (.slice b4 (I<|Zu g 4) k4)=p:=⟨_,rfl⟩;have e5:xz (xj p)=xz (xj w4):=by rw[<-d];exact qU _ _ _ _ _ _ _ _ _ _ _ _
   unfold V2 at d;rw[d];have n5:p.heap[xz (xj w)+2]?=J (.cells (X9 g y) 30 (0,0)):=by
    rw[<-d];unfold X9;rw[f0,f1,f2,f3,f4];exact LH O.out.b2
   have K:Below (xz<|xj w) w p:=by rw[<-d];exact WP O.out.bp Z0
   have h5:p.heap[xz<|xj w]?=J (.cells (X9 h a) 30 (0,0)):=by rw[<-d];exact(Vq Z0).trans O.out.b0
   have c0:∀j,j<5->Rd p (λc=>G c\/(xz (xj w)+3<=c/\c<xz (xj p))) (.sl<|(Zu g j).map vu) (y j):=λj hj=>by
    have h3:=a0.out.1.size;have h0:=Y1 N.out.b2;exact((a0.out.2 j hj).keep (λb hb=>by rw[<-d];exact Vq (by obtain q|q:=hb;have:=P b q;omega;omega)) λ_ q=>q).mono λb q=>q.imp (λq=>q) λq=>⟨Z0,Z0⟩
   have y5:∀j,p.cell? ⟨xz (xj w)+1+1,j,U⟩=(#[.int .u64 g.base,.int .i64 g.cap,.int .i64 g.to,.bool g.M,.int .i64 g.Z,.slice b0 (I<|Zu g 0) k0,.slice b1 (I<|Zu g 1) k1,.slice b2 (I<|Zu g 2) k2,.slice b3 (I<|Zu g 3) k3,.slice b4 (I<|Zu g 4) k4]:Array Value)[j]? :=λj=>by
    have:=ZhQ _ _ j _ _ _ n5;unfold X9 at this;rw[f0,f1,f2,f3,f4]at this;exact this
   have e0:∀j,p.frozen? ⟨xz (xj w)+1+1,j,U⟩=xw:=λj=>Yh n5;have o:=ZhK<|And.intro n5<|And.intro K<|And.intro h5 c0;have F:=ZhK<|And.intro f0<|And.intro f1<|And.intro f2<|And.intro f3 f4;clear n5 K h5 c0 r4 e7 d e5 f0 f1 f2 f3 f4;obtain⟨e2,rfl,rfl⟩|⟨rfl,rfl,e3⟩|⟨rfl,e3,Fo,b5,g8,b9⟩:=HE.out
   .have f5:=Zjv e2;go_wp2;have l:=qT o.out.1 (.int .u64 0) (.int .i64 0) (.int .i64 0) (.bool xw) (.int .i64 0) (.slice U 0 0) (.slice U 0 0) (.slice U 0 0) (.slice U 0 0)<|.slice U 0 0;unfold V2 at l;have B:=λj=>ZhQ _ _ j _ _ _ l;refine Zie (v:=.tuple #[.int .u64 0,.agg ZL,.int .i64 er]) ?_ rfl ?_
    .simp[results,Tryz.results10,go_sem,B,ZL]
    exact yf P (x:=λ_=>.slice U 0 0) o.out.2.1 (K5 _ _) _ _
   .go_upto_region 18 with fail;go_region;all_goals
     go_wp2;try simp only[Exit.inBlock,Exit.then]
     have l:=qT o.out.1 (.int .u64 g.base) (.int .i64 g.cap) (.int .i64 g.to) (.bool g.M) (.int .i64 g.Z) (.slice b0 (I<|Zu g 0) k0) (.slice b1 (I<|Zu g 1) k1) (.slice b2 (I<|Zu g 2) k2) (.slice b3 (I<|Zu g 3) k3)<|.slice b4 (I<|Zu g 4) k4;unfold V2 at l;have B:=λj=>ZhQ _ _ j _ _ _ l;refine Zie (v:=.tuple #[.int .u64 0,ZA g y,.int .i64 0]) ?_ rfl ?_
     .unfold ZA;rw[F.out.1,F.out.2.1,F.out.2.2.1,F.out.2.2.2.1,F.out.2.2.2.2];simp[results,Tryz.results10,go_sem,B]
     exact(yf P o.out.2.1 o.out.2.2.2 _ _).drew
   .have e8:=P8 b5;have H:=b9 p o.out.2.1;unfold ZA at H;rw[show a 4=_ from E4.out]at H;have p5:=λj=>ZhQ _ _ j _ _ _ o.out.2.2.1;unfold X9 at p5;rw[E4.out]at p5;have d7:=ZhK H;clear H b9 b5
    go_upto_region 18 with (first
     |(refine d7.out.mono ?_;rintro e w6 ⟨rfl,r⟩;have n6:=(r.block _<|Y1 o.out.1).trans o.out.1;have y6:=λj=>ZhQ _ _ j _ _ _ n6;unfold X9 at y6;rw[F.out.1,F.out.2.1,F.out.2.2.1,F.out.2.2.2.1,F.out.2.2.2.2]at y6;have f7:∀j,w6.frozen? ⟨xz (xj w)+1+1,j,U⟩=xw:=λj=>Yh n6;have c1:∀j,j<5->Rd w6 (λc=>G c\/(xz (xj w)+3<=c/\c<xz (xj w6))) (.sl<|(Zu g j).map vu) (y j):=λj hj=>(((o.out.2.2.2 j hj).keep (λb hb=>r.block b (by have:=o.out.2.1.size;obtain q|q:=hb;have:=P b q;omega;exact q.2)) λ_ q=>q).mono λb q=>q.imp (λq=>q) λq=>⟨q.1,by have:=r.size;omega⟩);have H6:=ZhK<|And.intro n6<|And.intro (o.out.2.1.trans<|r.mono o.out.2.1.size) c1;clear n6 c1 r y5 e0 p5))
    go_region;all_goals
     go_wp2;try simp only[Exit.inBlock,Exit.then]
     have l:=qT H6.out.1 (.int .u64 g.base) (.int .i64 g.cap) (.int .i64 g.to) (.bool g.M) (.int .i64 g.Z) (.slice b0 (I<|Zu g 0) k0) (.slice b1 (I<|Zu g 1) k1) (.slice b2 (I<|Zu g 2) k2) (.slice b3 (I<|Zu g 3) k3)<|.slice b4 (I<|Zu g 4) k4;unfold V2 at l;have B:=λj=>ZhQ _ _ j _ _ _ l;refine Zie (v:=.tuple #[.int .u64 vv,ZA g y,.int .i64 0]) ?_ rfl ?_
     .unfold ZA;rw[F.out.1,F.out.2.1,F.out.2.2.1,F.out.2.2.2.1,F.out.2.2.2.2];simp[results,Tryz.results10,go_sem,B]
     exact(yf P H6.out.2.1 H6.out.2.2 _ _).drew
def E7{f:Zn}(n:Wu xP f=xk){h:Hp}{y:V}(a:Ul y=xk){r:Int×Hp×Int}
  (hc:∀(w:Z3) (G:Z4) (d:Z5),(∀b,G b->b<xz (xj w))->(∀j,j<5->Rd w G (.sl<|(Zu h j).map vu) (d j))->Calls xP f #[ZA h d,Ta y] w (DoPost G w r)):
  VC xP f xw [ZE h,y] (.al [vu r.1,ZE r.2.1,vi r.2.2]):=by
 refine⟨n,λw G vs q o k=> ?_⟩;have r0:=k 0 _ rfl;have C:=Au a<|k 1 _ rfl;have t:vs=#[vs.getD 0 xy,vs.getD 1 xy]:=by
  have g:vs.size=2:=o;apply Zka;simp[g];intro i D F;have u:i<2:=Z0
  match i,u with
  |0,_=>simp[Array.getD,g]
  |1,_=>simp[Array.getD,g]
 obtain⟨d,p,B⟩:=KU r0;rw[t,p,C];refine(hc w G d q B).mono ?_;rintro e H ⟨x,rfl,l,A⟩;refine⟨_,rfl,l,.al _ _ rfl ?_⟩;intro i y a
 match i,a with
 |0,a=>cases a;exact .int _ _
 |1,a=>cases a;exact Sj λj z=>(A j z).mono λb l=>ZhD
 |2,a=>cases a;exact .int _ _
def ZbB{f:Zn}(g:Wu xP f=xk){h:Hp}{y:V}(q:Ul y=xk){r:Int×Hp×Int}{Q:Prop}
  (hc:∀(w:Z3) (G:Z4) (a:Z5),(∀b,G b->b<xz (xj w))->(∀j,j<5->Rd w G (.sl<|(Zu h j).map vu) (a j))->Calls xP f #[ZA h a,Ta y] w (QR w r Q)):
  VC xP f xw [ZE h,y] (.al [vu r.1,ZE r.2.1,vi r.2.2]):=by
 refine E7 g q λw G a l p=>(hc w G a l p).mono ?_;rintro e t ⟨x,k,d,o,_⟩;exact⟨x,k,d,λj n=>(o j n).mono λb d=>.inr d⟩
def Ki{h:Hp}(g:h.ok){p:Pts}(r:Rt h p){n:Nat}{pt wd:Int}(z:n<=255)(j:Xa n pt=(wd,0)):∃q,Rt (YQ h p n) q/\(YQ h p n).ok/\VC xP 7 xw [ZE h,Uz n pt] (.al [vu (WH h p q n wd).1,ZE (WH h p q n wd).2.1,vi (WH h p q n wd).2.2]):=by
 obtain⟨t,x⟩:∃t,YQ h p n=t:=⟨_,rfl⟩;have key:∃q,Rt (YQ h p n) q/\(YQ h p n).ok:=by
  by_cases a:h.M=xw/\Xn h p (n+1:Nat)=xw;obtain⟨q,d⟩:=H7 r a.1;have B:h.to=0\/h.to=1:=(XH.1 r.bc).2.2.2.2.1;obtain⟨f,sc⟩:=d.fe<|n+1;unfold YQ;rw[ZhS a];exact⟨f,sc.rt,QB (H1 g B) d _⟩;obtain⟨f,sc⟩:=r.fe<|n+1;unfold YQ;rw[ZhP a];exact⟨f,sc.rt,QB g r _⟩
 obtain⟨q,d,k⟩:=key;refine⟨q,d,k,ZbB Z2 (y:=Uz n pt) rfl (Q:=h.M=xw/\Xn h p (n+1:Nat)=xk) λw G o u A=> ?_⟩;obtain⟨f,l,_,a⟩:=EE w G u h g o A n pt wd z j r;rw[d.gh l]at a;exact a
def Z6v:∀(n:Nat) (W:Z3) (x:Zb),0<n->(method n (Wx 1) x "cromlech/mutator.do").run xP W=.ok (119,x) W
 |n+1,W,x,_=>Z2
def Z6w:∀(n:Nat) (W:Z3) (x:Zb),0<n->(method n (Wx 3) x "cromlech/mutator.do").run xP W=.ok (123,x) W
 |n+1,W,x,_=>Z2
def Z6x:∀(n:Nat) (W:Z3) (x:Zb),0<n->(method n (Wx 5) x "cromlech/mutator.do").run xP W=.ok (126,x) W
 |n+1,W,x,_=>Z2
def Z6y:∀(n:Nat) (W:Z3) (x:Zb),0<n->(method n (Wx 3) x "cromlech/mutator.told").run xP W=.ok (124,x) W
 |n+1,W,x,_=>Z2
def IM:∀ {l:List String},l≠[]->∃m,Instr.least l=J m
 | [],h=>absurd rfl h
 |_::_,_=>⟨_,rfl⟩
def Z6A(p:String->Bool)(f:String->String):∀l:List String,l≠[]->∃m,(Instr.least (l.partition p).2<|>Instr.least ((l.partition p).1.map f))=J m
 | [],h=>absurd rfl h
 |x::r,_=>by
  rw[List.partition_eq_filter_filter];cases d:p x with
  |true=>
   obtain⟨m,a⟩:=IM (l:=((x::r).filter p).map f) (by rw[Zlu d];simp);dsimp only;rw[a];cases Instr.least ((x::r).filter<|not∘p)<;>simp
  |false=>
   obtain⟨m,a⟩:=IM (l:=(x::r).filter<|not∘p) (by rw[Zlu (by simp[d])];simp);dsimp only;rw[a];simp
def Z6B{want:Array (String×TypeId)}{got:Array Method}(h:(want.toList.filter λ(name,sig)=> !got.any λm=>m.name==name&&m.sig==sig).isEmpty=xw):∃m,Instr.missingMethod want got=J m:=by
 unfold Instr.missingMethod;exact Z6A _ _ _ λe=>by
  rw[List.map_eq_nil_iff]at e;rw[e]at h;cases h
noncomputable def lacksTold (T:Zd):Bool:=
 match xP.underlying 78,xP.info? T with
 |some (.interface a),J d=> !(a.toList.filter λ(name,sig)=> !d.methods.any λm=>m.name==name&&m.sig==sig).isEmpty
 |_,_=>xw
def PX{T:Zd}(h:lacksTold T=xk)(W:Z3)(x:Zb):(Instr.typeAssert (.iface T x) 74 78 xk).run xP W=.ok (.tuple #[.nilIface,.bool xw]) W:=by
 unfold lacksTold at h;split at h;rename_i want j f a;obtain⟨m,d⟩:=Z6B (want:=want) (got:=j.methods) Zhv;have g:(zeroValue 78).run xP W=.ok .nilIface W:=Z2;simp[Instr.typeAssert,Zip f,typeInfo,a,d,g];cases h
def Zbk:∀(W:Z3) (x:Zb),(Instr.typeAssert (.iface (Wx 1) x) 74 78 xk).run xP W=.ok (.tuple #[.nilIface,.bool xw]) W:=PX Z2
def Zbm:∀(W:Z3) (x:Zb),(Instr.typeAssert (.iface (Wx 5) x) 74 78 xk).run xP W=.ok (.tuple #[.nilIface,.bool xw]) W:=PX Z2
def Zbl:∀(W:Z3) (x:Zb),(Instr.typeAssert (.iface (Wx 3) x) 74 78 xk).run xP W=.ok (.tuple #[.iface (Wx 3) x,.bool xk]) W:=λ_ _=>Z2
def Hy{w:Z3}{G:Z4}{r:Hp×Int}(e:Ending)(w':Z3)(h:S8 w r e w'):Kd G w r e w':=by
 obtain⟨x,a,d,f⟩:=h;exact⟨x,a,d,λj g=>(f j g).mono λb q=>.inr q⟩
def jS{h:Hp}(Q:h.ok)(T:Yk h=xk){k rr s i z pp v vv er:Int}{g:Hp}(S:1<=k/\k<=7)(C:∀u∈Ur k rr s,0<=u/\u<I h.E)
  {F:Zn} (B:Wu xP F=xk) (P:∀(n:Nat) (W:Z3) (x:Zb),0<n->(method n (Wx k) x "cromlech/mutator.do").run xP W=.ok (F,x) W)
  (O:∀(w:Z3) (G:Z4) (a:Z5),(∀b,G b->b<xz (xj w))->(∀j,j<5->Rd w G (.sl<|(Zu h j).map vu) (a j))->Calls xP F #[.agg<|Xg k rr s i z pp v,ZA h a] w (Kd G w (g,er)))
  (N:(¬er=0/\vv=0/\g=Hp.zero)\/(er=0/\vv=0/\∀(W:Z3) (x:Zb),(Instr.typeAssert (.iface (Wx k) x) 74 78 xk).run xP W=.ok (.tuple #[.nilIface,.bool xw]) W)\/
   (er=0/\(∀(W:Z3) (x:Zb),(Instr.typeAssert (.iface (Wx k) x) 74 78 xk).run xP W=.ok (.tuple #[.iface (Wx k) x,.bool xk]) W)/\∃Fo,Wu xP Fo=xk/\(∀(n:Nat) (W:Z3) (x:Zb),0<n->(method n (Wx k) x "cromlech/mutator.told").run xP W=.ok (Fo,x) W)/\
    VC xP Fo xw [VN k rr s i z pp v,ZE h] (vu vv))):
  VC xP 10 xw [ZE h,VN k rr s i z pp v] (.al [vu vv,ZE g,vi er]):=by
 refine E7 Z2 (y:=VN k rr s i z pp v) rfl (r:=(vv,g,er)) λw G a A D=> ?_;have p:∀W,Below (xz<|xj w) w W->∀j,j<5->Rd W G (.sl<|(Zu h j).map vu) (a j):=λW d j R=>(D j R).keep (λb f=>d.block b<|A b f) λ_ q=>q;have o:∀W,Below (xz<|xj w) w W->∀b,G b->b<xz (xj W):=λW d b f=>ZhO (A b f) d.size;refine Z0W w G A h Q a D T S C B P (λW d=>O W G a (o W d)<|p W d) ?_;obtain l|l|⟨l,H,Fo,K,L,M⟩:=N;exact .inl l;exact .inr<|.inl l;refine .inr<|.inr ⟨l,H,Fo,K,L,λW d=>ZjL (M.2 W G _ (o W d) rfl ?_) ?_⟩;intro i y t
 match i,t with
 |0,t=>cases t;exact D9 rfl
 |1,t=>cases t;exact Sj<|p W d
 rintro e Y ⟨v,rfl,d,X⟩;exact⟨by rw[TY X],d⟩
def Z3y{h:Hp}(k:h.ok)(l:Yk h=xk){rr z pp v i w0:Int}{s:Nat}(d:h.E[s]?=J w0)(A:ZB v)(q:Yf i){res:Hp×Int}
  (g:(w0=0/\res=(Hp.zero,6))\/∃j a n m u,ObAt h w0 j a n m u/\((0<=i/\i< (n-m:Nat)/\res=(V4 h j (a+1+m+i.toNat) v,0))\/(¬(0<=i/\i< (n-m:Nat))/\res=(Hp.zero,1)))):
  VC xP 10 xw [ZE h,VN 5 rr s i z pp v] (.al [vu 0,ZE res.1,vi res.2]):=by
 obtain⟨p,r⟩:=Rx.1 l;have t:=(ZhH.1 d).1;refine jS k l Z0 (λu y=>by simp[Ur]at y;omega) (F:=126) Z2 Z6x (λw G f o x=>(Zak w G o h k f x r.bc d A q g).mono Hy) ?_;obtain⟨_,rfl⟩|⟨j,a,n,m,u,O,⟨_,_,rfl⟩|⟨_,rfl⟩⟩:=g;exact .inl ⟨ZgV,rfl,rfl⟩;exact .inr<|.inl ⟨rfl,rfl,Zbm⟩;exact .inl ⟨ZgV,rfl,rfl⟩
def Z4y{F:Zn}{a:V}{h:Hp}{r:Hp×Int}(n:Ul a=xk)(k:VC xP F xw [a,ZE h]<|.al [ZE r.1,vi r.2])(w:Z3)(G:Z4)(f:Z5)(l:∀b,G b->b<xz (xj w))(q:∀j,j<5->Rd w G (.sl<|(Zu h j).map vu) (f j)):
  Calls xP F #[Ta a,ZA h f] w (Kd G w r):=by
 refine ZjL (k.2 w G _ l rfl ?_) ?_;intro i y d
 match i,d with
 |0,d=>cases d;exact D9 n
 |1,d=>cases d;exact Sj q
 rintro e x ⟨v,rfl,o,k⟩;obtain⟨u,rfl,t⟩:=Hz k;exact⟨u,rfl,o,λj p=>(t j p).mono λb g=>ZhC⟩
def Gk{h:Hp}(k:h.ok)(t:Yk h=xk){rr z pp v i w0 vv:Int}{s:Nat}(d:h.E[s]?=J w0){res:Hp×Int}
  (o:(w0=0/\res=(Hp.zero,6)/\vv=0)\/∃(f j a n m:Nat) (u:Int),i=f/\ObAt h w0 j a n m u/\f<n-m/\(Zu h j)[a+1+m+f]?=J vv/\res=(h,0)):
  VC xP 10 xw [ZE h,VN 3 rr s i z pp v] (.al [vu vv,ZE res.1,vi res.2]):=by
 obtain⟨p,r⟩:=Rx.1 t;have A:=(ZhH.1 d).1;refine jS k t Z0 (λu C=>by simp[Ur]at C;omega) (F:=123) Z2 Z6w (λw G l y B=>Z4y (a:=VN 3 rr s i z pp v) rfl (Z4h k r.bc d ?_) w G l y B) ?_;obtain⟨x,g,_⟩|⟨f,j,a,n,m,u,rfl,O,q,_,g⟩:=o;exact .inl ⟨x,g⟩;exact .inr ⟨j,a,n,m,u,O,.inl ⟨Z0,Z0,g⟩⟩;obtain⟨_,rfl,rfl⟩|⟨f,j,a,n,m,u,rfl,O,q,D,rfl⟩:=o;exact .inl ⟨ZgV,rfl,rfl⟩;exact .inr<|.inr ⟨rfl,Zbl,124,Z2,Z6y,Zbq k r.bc d O D q⟩
def Gl{h:Hp}(D:h.ok){p q:Pts}(r:Rt h p){r' n:Nat}(t:r'<I h.E){s i pt wd v:Int}(L:n<=255)(o:Xa n pt=(wd,0))(x:Rt (YQ h p n) q){res:Hp×Int}
  (a:(Xn (YQ h p n) q (n+1:Nat)=xw/\res=(Hp.zero,7))\/(h.M=xw/\Xn h p (n+1:Nat)=xk/\res=(V4 (Yt h wd n) 4 r'<|ZX (Zv<|Yt h wd n) 2 0,0))):
  VC xP 10 xw [ZE h,VN 1 r' s i n pt v] (.al [vu 0,ZE res.1,vi res.2]):=by
 refine jS D r.right Z0 (λu N=>by simp[Ur]at N;omega) (F:=119) Z2 Z6v (λw G f z M=> ?_) ?_;refine ZjL (Z70 w h f (v':=(WH h p q n wd).1) (g:=(WH h p q n wd).2.1) (er:=(WH h p q n wd).2.2) (Q:=h.M=xw/\Xn h p (n+1:Nat)=xk) (res:=res) (λW A=> ?_) ?_) Hy;obtain⟨O,y,_,B⟩:=EE W G (λb d=>ZhO (z b d) A.size) h D f (λj K=>(M j K).keep (λb d=>A.block b<|z b d) λ_ q=>q) n pt wd L o r;rw[x.gh y]at B;exact B;obtain⟨k,l⟩|⟨k,l,H⟩:=a;left;unfold WH;rw[k,l];exact⟨Z1,rfl⟩;right;have C:YQ h p n=h:=by
  unfold YQ;rw[ZhP (by rw[l];simp),JN k]
 rw[C]at x;rw[r.gh x];unfold WH;rw[C,l,H];exact⟨rfl,⟨k,rfl⟩,t,rfl⟩;obtain⟨_,rfl⟩|⟨_,_,rfl⟩:=a;exact .inl ⟨ZgV,rfl,rfl⟩;exact .inr<|.inl ⟨rfl,rfl,Zbk⟩
def Z0X(w:Z3)(G:Z4)(D:∀b,G b->b<xz (xj w))(h:Hp)(T:h.ok)(a:Z5)(N:∀j,j<5->Rd w G (.sl<|(Zu h j).map vu) (a j))(Z:Yk h=xk){k rr s i z pp v:Int}(Y:¬(1<=k/\k<=7)):
  Calls xP 10 #[ZA h a,.agg<|Xg k rr s i z pp v] w (DoPost G w (0,Hp.zero,1)):=by
 have A:∀W,Below (xz<|xj w) w W->Calls xP 8 #[ZA h a] W λe w'=>e=.returned (.bool<|Yk h)/\Below (xz<|xj W) W w':=λW L=>
  JJ (w:=W) (G:=G) (x:=a) T (λb f=>ZhO (D b f) L.size) (λj X=>(N j X).keep (λb f=>L.block b<|D b f) λ_ q=>q)
 rw[Z]at A;obtain⟨S,H,a0,g⟩:=jK w (.cells (X9 h a) 30)<|.cells (Xg k rr s i z pp v) 43;obtain⟨O,Q,_,_⟩:=g.F;have p:=ZhK g;have y:So k rr s i z pp v=.nilIface:=by unfold So;rw[ZhP Y]
 have o:=ZhK (λW=>ID W k rr s i z pp v);rw[y]at o;have d:=A S p.out.bp;unfold X9 Xg at H;unfold X9 at O;unfold Xg at Q;unfold ZA at d;have B:=ZhK d;clear A N g y d;unfold ZA Xg;have M:∀(W:Z3),(binOp .eql 74 .nilIface .nilIface).run xP W=.ok (.bool xk) W:=λW=>Zhw;go_enter EQ,Tryz.ntmps10
 go_wp2_with (first
  |(go_at_call 8;go_loud (refine B.out.mono ?_;rintro e w1 ⟨rfl,t⟩;have l:=p.out.below t;obtain⟨P,R,_,_⟩:=l.F;unfold X9 at P;unfold Xg at R;have C:=ZhK l;clear t l O Q))
  |(go_at_call 25;go_loud (refine(o.out w1).mono ?_;rintro e w2 ⟨rfl,u⟩;have n:=C.out.below u;obtain⟨_,_,r2,a1⟩:=n.F;unfold ZL at r2;have r:=ZhK n;clear u n P R)))
 have K:=U4 r.out.b2 (.int .u64 0) (.int .i64 0) (.int .i64 0) (.bool xw) (.int .i64 0) (.slice U 0 0) (.slice U 0 0) (.slice U 0 0) (.slice U 0 0)<|.slice U 0 0;refine Zie (v:=.tuple #[.int .u64 0,.agg ZL,.int .i64 1]) ?_ rfl ?_
 .simp[results,Tryz.results10,go_sem,K,ZL]
 exact yf D (x:=λ_=>.slice U 0 0) r.out.bp (K5 _ _) _ _
def Z3x{h:Hp}(f:h.ok)(j:Yk h=xk){k rr s i z pp v:Int}(g:¬(1<=k/\k<=7)):VC xP 10 xw [ZE h,VN k rr s i z pp v]<|.al [vu 0,ZE Hp.zero,vi 1]:=
 E7 Z2 (y:=VN k rr s i z pp v) rfl (r:=(0,Hp.zero,1)) λw G a d l=>Z0X w G d h f a l j g
def Xk:Hp:=⟨10,5,0,xw,0,[],[],[],[],[0]⟩
def Vb:Hp:=⟨10,5,0,xw,0,[],[131076,0,0],[],[],[25]⟩
def Qd:Hp:=⟨10,5,0,xw,0,[],[131076,0,9],[],[],[25]⟩
def Jd:Xk.ok:=by refine⟨?_,?_,?_,?_,?_,?_,?_,?_,?_,?_,?_,?_,?_,?_⟩<;>simp[Xk,ZB,Yf]
def yB:Vb.ok:=by refine⟨?_,?_,?_,?_,?_,?_,?_,?_,?_,?_,?_,?_,?_,?_⟩<;>simp[Vb,ZB,Yf]
def Z5P:Qd.ok:=by refine⟨?_,?_,?_,?_,?_,?_,?_,?_,?_,?_,?_,?_,?_,?_⟩<;>simp[Qd,ZB,Yf]
def JL{h:Hp}{p:Pts}(r:Rt h p)(n:Int):Xn h p n=decide ((I h.H:Int)+I h.aa+Uc h+n<=h.cap):=by unfold Xn;rw[r.nf]
def O6{h:Hp}{p:Pts}(r:Rt h p){n:Nat}(a:h.M=xw)(h2:decide ((I h.H:Int)+I h.aa+Uc h+(n+1:Nat)<=h.cap)=xk):YQ h p n=h:=by
 unfold YQ;rw[ZhP (by rw[JL r,h2];simp),JN a]
def CZ{h:Hp}{p:Pts}(r:Rt h p){n:Nat}(a:h.M=xw)(h2:decide ((I h.H:Int)+I h.aa+Uc h+(n+1:Nat)<=h.cap)=xw):YQ h p n=Y9 (Ys h) (n+1):=by
 unfold YQ;rw[ZhS ⟨a,by rw[JL r,h2]⟩]
def Z7f:ObAt Vb 25 1 0 2 1 131076:=⟨.inr rfl,ZgK,by unfold ZB;omega,rfl,ZgK,Z0,ZgV⟩
def Z7g:ObAt Qd 25 1 0 2 1 131076:=⟨.inr rfl,ZgK,by unfold ZB;omega,rfl,ZgK,Z0,ZgV⟩
def Z2D:VC xP 4 xw []<|.bool xk:=by
 refine ZT Z1z follows Z2 c4 rfl ?_;have t:Yk Xk=xk:=ZgK;have G:Yk Vb=xk:=ZgK;have W:Yk Qd=xk:=ZgK;obtain⟨D,d⟩:=Rx.1 t;obtain⟨p2,q⟩:=Rx.1 G;have u:Xa (2:Nat) 1=(131076,0):=ZgK;have w:Xa (2:Nat) 0=(4,0):=ZgK;have H:Xa (4:Nat) 0=(8,0):=ZgK;have K:Xa (5:Nat) 0=(10,0):=ZgK;have L:decide ((I Xk.H:Int)+I Xk.aa+Uc Xk+(2+1:Nat)<=Xk.cap)=xk:=ZgK;have M:decide ((I Vb.H:Int)+I Vb.aa+Uc Vb+(2+1:Nat)<=Vb.cap)=xw:=ZgK;have x:decide ((I Xk.H:Int)+I Xk.aa+Uc Xk+(4+1:Nat)<=Xk.cap)=xk:=ZgK;have N:decide ((I Xk.H:Int)+I Xk.aa+Uc Xk+(5+1:Nat)<=Xk.cap)=xw:=ZgK;have O:decide (((Y9 (Ys Vb) 3).H.length:Int)+(Y9 (Ys Vb) 3).aa.length+Uc (Y9 (Ys Vb) 3)+(2+1:Nat)<=(Y9 (Ys Vb) 3).cap)=xw:=ZgK;have P:decide (((Y9 (Ys Xk) 6).H.length:Int)+(Y9 (Ys Xk) 6).aa.length+Uc (Y9 (Ys Xk) 6)+(5+1:Nat)<=(Y9 (Ys Xk) 6).cap)=xw:=ZgK;obtain⟨X,r,_,_⟩:=Ki Jd d (n:=2) Z0 u;obtain⟨Y,f,_,_⟩:=Ki yB q (n:=2) Z0 w;obtain⟨S,g,_,o⟩:=Ki Jd d (n:=4) Z0 H;obtain⟨T,h,_,p⟩:=Ki Jd d (n:=5) Z0 K;have j:=Gl (v:=0) (s:=0) (i:=0) (r':=0) Jd d ZgV Z0 u r<|.inr ⟨rfl,by rw[JL d,L],rfl⟩;rw[show V4 (Yt Xk 131076 2) 4 0 (ZX (Zv<|Yt Xk 131076 2) 2 0)=Vb by decide+kernel]at j;have l:=Z3y (rr:=0) (z:=0) (pp:=0) (v:=9) (i:=0) (s:=0) yB G rfl (by unfold ZB;omega) ⟨Z0,Z0⟩<|.inr ⟨1,0,2,1,131076,Z7f,.inl ⟨Z0,Z0,rfl⟩⟩;rw[show V4 Vb 1 (0+1+1+Int.toNat 0) 9=Qd by decide+kernel]at l;have y:=Gk (rr:=0) (z:=0) (pp:=0) (v:=0) (i:=0) (s:=0) (vv:=9) (res:=(Qd,0)) Z5P W rfl<|.inr ⟨0,1,0,2,1,131076,rfl,Z7g,Z0,rfl,rfl⟩;have A:=Gl (v:=0) (s:=0) (i:=0) (r':=0) yB q ZgV Z0 w f<|.inl ⟨by rw[JL f,CZ q rfl M];exact O,rfl⟩;have B:=Gk (rr:=0) (z:=0) (pp:=0) (v:=0) (i:=0) (s:=0) Jd t rfl<|.inl ⟨rfl,rfl,rfl⟩;have C:=Z3x (rr:=0) (z:=0) (pp:=0) (v:=0) (i:=0) (s:=0) (k:=0) Jd t Z0;have Q:WH Xk D S 4 8=(21,Yt Xk 8 4,0):=by
  unfold WH;rw[O6 d rfl x]at g⊢;rw[JL g,x,ZhS rfl];rw[show ZX (Zv<|Yt Xk 8 4) 2 0=21 by decide+kernel]
 have R:WH Xk D T 5 10=(0,Hp.zero,7):=by
  unfold WH;rw[CZ d rfl N]at h⊢;rw[JL h,P];rfl
 rw[Q]at o;rw[R]at p;have F:=Za4 (a:=Vb) (b:=Vb) yB;simp only[ZE,Xk,Vb,Qd,Hp.zero,VN,Zii,Zj9]at j l y A B C o p F;simp[p4];refine Zy j Z1 ?_;simp;refine Zy l Z1 ?_;simp;refine Zy y Z1 ?_;simp;refine Zy A Z1 ?_;simp;refine Zy B Z1 ?_;simp;refine Zy C Z1 ?_;simp;refine Zy o Z1 ?_;simp;refine Zy p Z1 ?_;simp;refine Zy F Z1 ?_;simp
end Vm
end
section
namespace Vm
open Go Go.Proofs
section
def Qj(k:Nat)(o:Ob):Ob:= {o with ab:=o.ab+(k:Int)}
def Zb0{ws r:Z9}{old:Bool}{o:Ob}(s:Stands ws old o):Stands (r++ws) old<|Qj (I r) o:=by
 obtain⟨a,f⟩:=ZhW s.gl;have e:(o.ab+(I r:Int)).toNat=I r+a:=by rw[f];omega
 have d:o.ab.toNat=a:=by rw[f];rfl
 refine⟨by show 0<=o.ab+(I r:Int);have:=s.gl;omega,s.shape,?_,?_,?_⟩;show o.ab+(I r:Int)+1+o.size<=(I (r++ws):Nat);have:=s.an;rw[Zin];omega;have:=s.ff;show Xw (((r++ws).drop<|(o.ab+(I r:Int)).toNat+1).take o.size.toNat) o.gone o.Y 0=xk;rw[e,ZiS,<-List.drop_drop,List.drop_left,<-d];exact this;obtain⟨w,g,h⟩:=s.word;refine⟨w,?_,h⟩;show(r++ws)[(o.ab+(I r:Int)).toNat]?=J w;rw[e,Zi3 Z0,ZjB,<-d];exact g
def t8{ws r:Z9}{old:Bool}:∀ {a:Nat} {l:Zk},Tiles ws old a l->Tiles (r++ws) old (I r+a) (l.map<|Qj<|I r)
 |a,[],h=>by
  show I (r++ws)<=I r+a;have:I ws<=a:=h;rw[Zin];omega
 |a,o::l,⟨g,d,f⟩=>by
  refine⟨by show o.ab+(I r:Int)=((I r+a:Nat):Int);omega,Zb0 d,?_⟩;have:=t8 (r:=r) f;rw[show I r+a+1+(Qj (I r) o).size.toNat=I r+(a+1+o.size.toNat)by show I r+a+1+o.size.toNat=_;omega];exact this
def TX(p:Pts)(n:Nat)(m:Int):Pts:= {p with aa:=⟨0,(n:Int),m,xw,0⟩::p.aa.map (Qj<|n+1)}
section
variable {g:Hp}{p:Pts}{wd m:Int}{n:Nat}
def qR(wd:Int)(n:Nat)(k:Int):ZC (Zv<|Yt g wd n) k=if k=2 then ZC (Zv g) 2- ((n+1:Nat):Int)else ZC (Zv g) k:=by
 have f:(Zv<|Yt g wd n).aa=(Zv g).aa+((n+1:Nat):Int):=by
  show((I ((wd::List.replicate n 0)++g.aa):Nat):Int)=(I g.aa:Int)+_;simp;omega
 unfold ZC;rw[f];by_cases d:k=1;subst d;rfl;by_cases a:k=2;subst a;show(Zv g).base+(Zv g).to*(Zv g).cap+((Zv g).cap- ((Zv g).aa+((n+1:Nat):Int)))=(Zv g).base+(Zv g).to*(Zv g).cap+((Zv g).cap- (Zv g).aa) - ((n+1:Nat):Int);omega;rw[ZhP d,ZhP a,ZhP a,ZhP d,ZhP a];rfl
def LB(k:Int):(TX p n m).at k=if k=2 then⟨0,(n:Int),m,xw,0⟩::p.aa.map (Qj<|n+1)else p.at k:=by
 unfold TX Pts.at;by_cases d:k=1;subst d;rfl;by_cases a:k=2;subst a;rfl;rw[ZhP d,ZhP a,ZhP a,ZhP d,ZhP a]
def Oc(k:Int):Zz (Yt g wd n) k=if k=2 then(wd::List.replicate n 0)++g.aa else Zz g k:=by
 unfold Zz Yt;by_cases d:k=1;subst d;rfl;by_cases a:k=2;subst a;rfl;rw[ZhP d,ZhP a,ZhP a,ZhP d,ZhP a]
def LC{w i j:Int}(h:Gos g p w i j):Gos (Yt g wd n) (TX p n m) w i j:=by
 obtain l|⟨k,o,d,f,e⟩:=h;exact .inl l;right;by_cases a:k=2;subst a;refine⟨2,Qj (n+1) o,d,?_,?_⟩;rw[LB,ZhS rfl];exact Zio _<|Zjr f;rw[e];unfold ZX;rw[qR,ZhS rfl];show _=2*(ZC (Zv g) 2- ((n+1:Nat):Int)+(o.ab+((n+1:Nat):Int)))+1;omega;refine⟨k,o,d,by rw[LB,ZhP a];exact f,?_⟩;rw[e];unfold ZX;rw[qR,ZhP a]
def Od{k:Int}{i:Nat}{w:Int}(h:Xx g p k i w):Xx (Yt g wd n) (TX p n m) k i w:=by
 unfold Xx at h⊢;show if 2<k then Gos (Yt g wd n) (TX p n m) w 3 4 else if k=1/\g.Z<=(i:Int)then Gos (Yt g wd n) (TX p n m) w 1 2\/Gos (Yt g wd n) (TX p n m) w 3 4 else Gos (Yt g wd n) (TX p n m) w 1 2;split;rw[ZhS (by assumption)]at h;exact LC h;rw[ZhP (by assumption)]at h;by_cases a:k=1/\g.Z<=(i:Int);rw[ZhS a]at h;rw[ZhS a];exact h.imp LC LC;rw[ZhP a]at h;rw[ZhP a];exact LC h
def Rt.place(r:Rt g p)(D:Xa n m=(wd,0))(Q:(I g.H:Int)+I g.aa+YK p+(n+1:Nat)<=g.cap):Rt (Yt g wd n)<|TX p n m:=by
 have x:Yv n m=xk:=by
  unfold Xa at D;split at D;assumption;cases D
 obtain⟨R,S,T,W⟩:=Yz.1 x;have G:ZR wd=((n:Int),m,0):=by
  have:=Z06 x;rw[D]at this;exact this
 have f:I (wd::List.replicate n 0)=n+1:=Z1;have F:Stands ((wd::List.replicate n 0)++g.aa) xw ⟨0,(n:Int),m,xw,0⟩:=by
  refine⟨Int.le_refl _,x,?_,?_,⟨wd,rfl,?_⟩⟩;rw[Zin,f];show(0:Int)+1+(n:Int)<=_;omega
  show Xw ((((wd::List.replicate n 0)++g.aa).drop 1).take n) xw m 0=xk;rw[show((wd::List.replicate n 0)++g.aa).drop 1=List.replicate n 0++g.aa from rfl,ZlN Z1];refine SM λj w u=>⟨λh=>ZgY,λ_=> ?_⟩;rw[ZkB]at u;split at u;cases u;rfl;cases u;rw[ZhP Z1];exact⟨λh=>ZgY,G,rfl⟩
 refine⟨⟨⟨Oa r.bc rfl Z0,λk z=> ?_⟩,λk z o l C=> ?_,λk z o l C j u w d=> ?_,?_⟩,r.fh,r.ip,r.ku,r.kz,r.rest,λO o l=> ?_,λw d=>LC<|r.E w d⟩;rw[Oc,LB];by_cases t:k=2;subst t;rw[ZhS rfl,ZhS rfl];have:=t8 (r:=wd::List.replicate n 0)<|r.am 2 Z0;rw[f]at this;refine⟨rfl,F,?_⟩;show Tiles _ _ (0+1+n) _;rw[show 0+1+n=n+1+0 by omega];exact this;rw[ZhP t,ZhP t];exact r.am k z;have t:¬k=2:=Z0;rw[LB,ZhP t]at l;obtain⟨q,L,B,M⟩:=r.gone k z o l C;exact⟨q,L,by rw[qR,ZhP Z0];exact B,M⟩;rw[LB]at l;rw[Oc]at d;by_cases t:k=2;subst t;rw[ZhS rfl]at l d;obtain rfl|l:=Zi6.1 l;have P:(j:Int)<m:=u;have:((wd::List.replicate n 0)++g.aa)[0+1+j]?=J 0:=by
  rw[Zig (by rw[f];omega),show 0+1+j=j+1 by omega,Zk8,ZkB,ZhS Z0]
 have e:w=0:=by
  have K:((wd::List.replicate n 0)++g.aa)[0+1+j]?=J w:=d;rw[this]at K;exact(Zjj K).symm
 rw[e];exact EH _ _;obtain⟨y,A,rfl⟩:=Zi4.1 l;obtain⟨a,N⟩:=ZhW ((r.am 2 Z0).ba y A).1.gl;have e:(Qj (n+1) y).ab.toNat+1+j=(n+1)+(y.ab.toNat+1+j):=by
  show(y.ab+((n+1:Nat):Int)).toNat+1+j=_;rw[N];omega
 rw[e]at d⊢;have H:g.aa[y.ab.toNat+1+j]?=J w:=by
  rw[Zi3 (by rw[f];omega),f,ZjB]at d;exact d
 have:=r.ptr 2 Z0 y A C j u w H;have B:Xx (Yt g wd n) (TX p n m) 2 (y.ab.toNat+1+j) w:=Od this;unfold Xx at B⊢;simpa using B;rw[ZhP t]at l d;exact Od<|r.ptr k z o l C j u w d;show(I g.H:Int)+((I ((wd::List.replicate n 0)++g.aa):Nat):Int)+(YK p:Nat)<=g.cap;rw[Zin,f];omega;rw[qR,ZhP Z0];exact r.ga O o l
end
end
section
section
variable {h:Hp}{p q:Pts}{n:Nat}{m wd:Int}
def Rt.lu(r:Rt h p)(hc:h.M=xw)(s:Rt (YQ h p n) q)(d:(I h.H:Int)+I h.aa+(n+1:Nat)<=h.cap):
  WH h p q n wd=(2*(h.base+h.to*h.cap+(h.cap- ((n+1+I h.aa:Nat):Int))+0)+1,Yt h wd n,0):=by
 have a:=r.kw hc;have e:=O6 (n:=n) r hc (by rw[r.nf,a];simp;omega);unfold WH;rw[e]at s⊢;have w1:=s.kw hc;rw[ZhS (by unfold Xn;rw[w1];simp;omega)];simp only[ZX,ZC,Zv,Yt];simp;omega
def Rt.kr(r:Rt h p)(hc:h.M=xw)(B:Xa n m=(wd,0))(A:ZB wd)(s:Rt (YQ h p n) q)(ok:(YQ h p n).ok)(D:¬(xq h.H:Int)+xq h.aa+(n+1:Nat)<=h.cap):
  WH h p q n wd=(0,Hp.zero,7)\/∃w g t,WH h p q n wd=(w,g,0)/\g.ok/\Rt g t/\g.to=1-h.to/\xq g.aa=n+1/\(g.M=xk->g.Z=(n+1:Nat)):=by
 have C:=r.kw hc;have e:=CZ (n:=n) r hc (by rw[r.nf,C];simp;omega);obtain⟨f,b,I,a,t,_⟩:=H2 r hc;rw[<-a]at t;obtain⟨_,S⟩:=t.fe<|n+1;have x:(Ys h).aa=[]:=by
  rw[a];unfold Un;split<;>exact I.ext.aa
 have y:(Ys h).to=1-h.to:=by
  rw[a];unfold Un;split<;>exact I.ext.rm
 have z:(Ys h).Z=0:=by
  rw[a];unfold Un;split<;>exact I.ext.Z
 have l:=S.aa;have o:=S.num.2.2;have u:=S.kz;rw[<-e]at l o u;unfold WH;by_cases j:Xn (YQ h p n) q (n+1:Nat)=xk;right;rw[ZhS j];have k:((YQ h p n).H.length:Int)+(YQ h p n).aa.length+YK q+(n+1:Nat)<=(YQ h p n).cap:=by simpa[Xn]using j
 refine⟨_,_,_,rfl,O7 ok A ?_,s.place B k,o.trans y,?_,λd=> ?_⟩;have:=s.oe;omega;simp[Yt,l,x];rw[show(Yt (YQ h p n) wd n).Z=(YQ h p n).Z from rfl,(u d).2.1,z];omega;left;rw[ZhP j]
end
end
def p3:Fn:=⟨14,[0,1,2,3,6,7,8,9,10,12,11,13,47,106],pQ [pR [(3,pS 0 7),pV 4 pF],pC [pK 14 4 []] [pV 5<|.s 14],pC [pK 15 5 [.mm 3 0 7]] [(6,pS 15 10)],pC [pK 16 6 [.s 1,pI 20]] [(7,pM (.ag [.one<|.s 16,pI 0]) 2)],pC [pK 17 6 [.s 2,pa (.m 7 0)<|pI 1]] [(7,.m [.m 7 0,.one<|.s 17])],pR [pV 8<|pa (pI 1)<|.m 7 0],pC [pK 18 7 [.mm 6 0 10,.mm 7 0 2]] [(9,pM (.sz (.ext (.s 18) 1) 10) 10),pV 10<|.ext (.s 18) 0,pV 11<|.ext (.s 18) 2],pi 12 (pL (pa (pa (.len<|.m 6 5)<|.len<|.m 6 6)<|.s 8)<|.m 6 1)<|pQ [.ao ⟨[.lt 19 []<|.s 5,.lt 20 []<|.ite (.s 19) (pe (.s 11)<|pI 0) pF,.lt 21 []<|.ite (.s 20) (pe (.m 9 2)<|.m 6 2) pF,.lt 22 []<|.ite (.s 21) (pe (.len<|.m 9 6)<|pa (.len<|.m 6 6)<|.s 8) pF,.lt 23 []<|.ite (.s 22) (pe (.len<|.m 9 5)<|.len<|.m 6 5) pF,.lt 24 []<|.ite (.s 23) (.un .not<|.m 9 3) pF],[([(19,xk)],pe (.s 11)<|pI 0),([(20,xk)],pe (.m 9 2)<|.m 6 2),([(21,xk)],pe (.len<|.m 9 6)<|pa (.len<|.m 6 6)<|.s 8),([(22,xk)],pe (.len<|.m 9 5)<|.len<|.m 6 5),([(23,xk)],.un .not<|.m 9 3),([(24,xk)],pe (.s 10)<|pa (pm (pU 2)<|pa (.m 6 0)<|.conv .u64<|pb (pm (pa (.m 6 2)<|pI 1)<|.m 6 1)<|.len<|.m 9 6)<|pU 1)],[pV 4<|.ite (.s 24) (pe (.s 10)<|pa (pm (pU 2)<|pa (.m 6 0)<|.conv .u64<|pb (pm (pa (.m 6 2)<|pI 1)<|.m 6 1)<|.len<|.m 9 6)<|pU 1) pF]⟩] .ret,pi 13 (pe (.s 11)<|pI 0)<|pQ [.ao ⟨[.lt 25 []<|.s 5,.lt 26 []<|.ite (.s 25) (pn (.m 9 2)<|.m 6 2) pF,.lt 27 []<|.ite (.s 26) (pe (.len<|.m 9 6)<|.s 8) pF,.lt 28 [(27,xk)]<|.un .not<|.m 9 3,.lt 29 []<|.ite (.s 27) (.ite (.s 28) pT<|pe (.m 9 4)<|.s 8) pF,.call 30 [(29,xk)] (.id 8) xw xw [.mm 9 0 10]],[([(25,xk)],pn (.m 9 2)<|.m 6 2),([(26,xk)],pe (.len<|.m 9 6)<|.s 8),([(27,xk),(28,xw)],pe (.m 9 4)<|.s 8),([(27,xk)],.ite (.s 28) pT<|pe (.m 9 4)<|.s 8)],[pV 4<|.ite (.s 29) (.s 30) pF]⟩] .ret,.ao ⟨[.lt 31 []<|.s 5,.lt 32 []<|.ite (.s 31) (pe (.s 11)<|pI 7) pF,.lt 33 []<|.ite (.s 32) (pe (.s 10)<|pU 0) pF,.lt 34 []<|.ite (.s 33) (pe (.m 9 1)<|pI 0) pF,.call 35 [(34,xk)] (.id 9) xw xw [.mm 6 0 10],.lt 36 [(34,xk)]<|pj (pa (.s 35)<|.s 8)<|.m 6 1],[([(31,xk)],pe (.s 11)<|pI 7),([(32,xk)],pe (.s 10)<|pU 0),([(33,xk)],pe (.m 9 1)<|pI 0),([(34,xk),(36,xw)],pj (pa (.len<|.m 6 5)<|.len<|.m 6 6)<|pI 0),([(34,xk)],.ite (.s 36) pT<|pj (pa (.len<|.m 6 5)<|.len<|.m 6 6)<|pI 0)],[pV 4<|.ite (.s 34) (.ite (.s 36) pT<|pj (pa (.len<|.m 6 5)<|.len<|.m 6 6)<|pI 0) pF]⟩] .ret,[(4,.v)]⟩
def c3:ZN (YY Tryz.prog) fresh sig [.fz,.fz,.fz] [] Tryz.f3=J p3:=Z2
def Z76(n m:Int):NoM<|Uz n m:=.agg _ λc a=>by
 simp only[Zi6,Zjf,ZkH]at a;obtain rfl|rfl:=a<;>exact .int _ _
def Z77(u:Int)(g:Hp)(e:Int):NoM<|.al [vu u,ZE g,vi e]:=.al _ λc a=>by
 simp only[Zi6,Zjf,ZkH]at a;obtain rfl|rfl|rfl:=a;exact .int _ _;exact Ld _;exact .int _ _
instance fitR16:FitF (YY Tryz.prog) 3:=GU (P:=Tryz.prog) Tryz.func3 rfl Z2
def Z5U{x:Rw}(hx:x.ok){n m:Int}(hn:Yf n)(hm:Yf m):VC (YY Tryz.prog) 3 xw [WS x,vi n,vi m]<|.bool xk:=by
 refine ZT (P:=YY Tryz.prog) Tryz.func3 AW Z2 c3 rfl ?_;simp[p3];refine Zy (up Z2D nofun (.bool _)) Z1 ?_;simp;have S:=up (Z2j hx) (C8<|Z75 x)<|Ld _;unfold WS at S;refine Zy S Z1 ?_;obtain⟨Q,B,_⟩:=Zbc hx;obtain⟨p,r⟩:=Rx.1<|Zbd hx;generalize QH x=h at*;simp;have u:=UR (c:=n) (n:=20) Z0;have R:=up (NZ hn (n:=20) Z0) (C9 (.int _ _)<|.int _ _)<|.int _ _;obtain⟨a,ha⟩:=ZhW u.1;rw[ha]at u R;refine Zy R Z1 ?_;have wa:=Zx ((a:Int)+1) Z0 Z0;have a1:=UR (c:=m) (n:=(a:Int)+1) Z0;have k3:=up (NZ hm (n:=(a:Int)+1) Z0) (C9 (.int _ _)<|.int _ _)<|.int _ _;generalize pick m ((a:Int)+1)=b at*;simp[wa];refine Zy k3 Z1 ?_;have hs:Yv a b=xk:=Yz.2 ⟨Z0,Z0,Z0,Z0⟩;have y:Xa a b=(2*((a:Int)+65536*b),0):=by unfold Xa;rw[ZhS hs]
 have hu:ZB<|2*((a:Int)+65536*b):=by unfold ZB;omega
 obtain⟨q,T,H,kp⟩:=Ki Q r (n:=a) Z0 y;have f:=up kp (C9 (Ld h)<|Z76 _ _)<|Z77 _ _ _;obtain⟨t1,t2,t3,t4,X,Y,_⟩:=XH.1 r.bc;have t7:(0:Int)<=I h.aa/\(I h.H:Int)<=h.cap/\(I h.aa:Int)<=h.cap-I h.H:=⟨Z0,Y.2.2.1,Y.2.2.2⟩;simp only[Zv]at t1 t2 t3 t4 X;have w1:=Zx ((I h.H:Int)+I h.aa) Z0 Z0;have w2:=Zx ((I h.H:Int)+I h.aa+(1+(a:Int))) Z0 Z0;have w3:=Zx (1+(a:Int)) Z0 Z0;by_cases O:(I h.H:Int)+I h.aa+(a+1:Nat)<=h.cap;rw[r.lu B T O]at f;have hH:(Yt h (2*((a:Int)+65536*b)) a).aa.length=a+1+I h.aa:=by simp[Yt];omega
 obtain⟨K,N⟩:∃K,(h.to+1)*h.cap=K:=⟨_,rfl⟩;have C:h.to*h.cap+h.cap=K:=by rw[<-N,Int.add_mul,Int.one_mul]
 have a0:0<=K-h.cap/\K<=2*h.cap:=by
  obtain t|t:=X<;>rw[t]at C<;>omega
 have w4:=Zx (h.to+1) Z0 Z0;have w5:=Zx K Z0 Z0;have w6:=Zx (K- ((a:Int)+1+I h.aa)) Z0 Z0;have w7:=ZS (K- ((a:Int)+1+I h.aa)) Z0 Z0;have w8:=ZS (h.base+(K- ((a:Int)+1+I h.aa))) Z0 Z0;have w9:=ZS (2*(h.base+(K- ((a:Int)+1+I h.aa)))) Z0 Z0;have L:=ZS (2*(h.base+(K- ((a:Int)+1+I h.aa)))+1) Z0 Z0;have k:=Zx ((I h.aa:Int)+(1+(a:Int))) Z0 Z0;have hv:2*(h.base+h.to*h.cap+(h.cap- ((a+1+I h.aa:Nat):Int))+0)+1=2*(h.base+(K- ((a:Int)+1+I h.aa)))+1:=Z0;rw[hv]at f;have Z:(Yt h (2*((a:Int)+65536*b)) a).to=h.to:=rfl;have b3:(Yt h (2*((a:Int)+65536*b)) a).M=h.M:=rfl;have b5:(Yt h (2*((a:Int)+65536*b)) a).H=h.H:=rfl;simp only[ZE,Uz,Z,b3,b5]at f;generalize Yt h (2*((a:Int)+65536*b)) a=g at*;simp[w3];refine Zy f Z1 ?_;have d:(I h.H:Int)+I h.aa+(1+(a:Int))<=h.cap:=Z0;simp[w1,w2,w3,d,B,hH];rw[k,w4,N,w5,w6,w7,w8,w9,L];exact⟨Z0,rfl⟩;have F:=Z16 Q;rw[r.ov]at F;have D:=r.ox;rw[r.kw B]at D;have j:=r.kr B y hu T H O;generalize WH h p q a (2*((a:Int)+65536*b))=P at*;generalize words (VB<|vg h)=W at*;have k:=Zx ((W:Int)+(1+(a:Int))) Z0 Z0;have d:¬(I h.H:Int)+I h.aa+(1+(a:Int))<=h.cap:=Z0;obtain rfl|⟨w,g,t,rfl,G,rt,g1,g2,g3⟩:=j;simp only[ZE,Uz,Hp.zero]at f F;simp[w3];refine Zy f Z1 ?_;simp[w1,w2,w3,d];refine Zy F Z1 ?_;simp[w1,w2,w3,k];omega;have A:=Z0P G rt;simp only[ZE,Uz]at f A;simp[w3];refine Zy f Z1 ?_;have z:¬g.to=h.to:=Z0;have l:(a:Int)+1=1+a:=Z0;cases o:g.M;simp only[o]at A;simp[w1,w2,w3,d,z,g2,o,l];refine Zy A Z1 ?_;simp;have M:g.Z=1+(a:Int):=by rw[g3 o];omega
 simp only[o,M]at A;simp[w1,w2,w3,d,z,g2,o,l,M];refine Zy A Z1 ?_;simp
end Vm
end
section
namespace Go.Proofs.YthdflnfincieaaaGreat
open Vm Go.ChangeShapes Go.WideShapes Go.ChangeAt Go.RowKit
def mutatorRoom_law(xs:List V)(d:I xs=Tryz.f3.params.toList.length)(a:∀(i:Nat) (t:TypeId) (x:V),Tryz.f3.params.toList[i]?=J t->xs[i]?=J x->Xo Tryz.prog 8 t x):
  VC (YY Tryz.prog) 3 xw xs (.bool xk):=by
 rw[Tryz.params3]at d a
 match xs,d with
 | [j,k,l],_=>
   obtain⟨x,rfl,h⟩:=Zbt<|a 0 _ j rfl rfl;obtain⟨n,rfl,g⟩:=JT<|a 1 _ k rfl rfl;obtain⟨m,rfl,f⟩:=JT<|a 2 _ l rfl rfl;exact Z5U h g f
def mutatorRoom_lifted(j:Os)(a:j.Started)(H:Type)(enc:TypeId×Value->H):
  ReturnsInLeavingWide {} Tryz.checked j 3 .any (Rows.mutatorRoomSpec.pre6 enc Tryz.prog Tryz.f3 Rows.mutatorRoomRow.domain xw) (Rows.mutatorRoomSpec.post enc Tryz.prog Tryz.f3 xw xk xw xw):=by
 refine returnsInLeavingWide_of_change_sized (C:=Tryz.checked) own a Tryz.func3
  (ChangeSpec.witness6 (enc:=enc) (C:=Tryz.checked) xw ⟨#[], #[.agg #[.slice U 0 0,.slice U 0 0,.slice U 0 0,.int .u64 0,.int .i64 0,.int .i64 0,.int .i64 0],.int .i64 0,.int .i64 0],[]⟩ 8 Z2 Z2 Z2 Z2) ?_
 intro W base args g gs d f k _ _ _
 exact Z4o (P:=Tryz.prog) Z2 (Z5V (P:=YY Tryz.prog) (tb:=4) 8 laidOut Z2 Z2 rfl Z2 Tryz.underlying4 (λH g h=>by
  rw[Tryz.params3]at h
  match g,h with
  | [_,_,_],_=>rfl) mutatorRoom_law H enc W base args g gs d f k)
theorem mutatorRoom_holds:Rows.MutatorRoomSaid:=
 OpenClaim.holds_of_wide_leaving 3 Tryz.f3 rfl rfl rfl rfl rfl rfl rfl ⟨rfl,rfl,rfl,rfl,rfl⟩ rfl rfl rfl rfl rfl Z2 Tryz.func3 Z2
  (Zko Z2) (by unfold Func.isWrapper;first|(rw[ZhS ZgK];kernel_rfl)|(rw[ZhP ZgK];exact⟨rfl,rfl⟩))
  (λf a H d _=>mutatorRoom_lifted f a H d)
#print axioms mutatorRoom_holds
end Go.Proofs.YthdflnfincieaaaGreat
end
