import Derived.Deep.DeepCutAuto
import Derived.Laws.EntriesVeiled
import Derived.Conc.SmallLaws
import Derived.Test.YtccfecikcmjnfaaSMeasureFits5
set_option linter.unusedSimpArgs false
set_option linter.unusedVariables false
set_option linter.defProp false
open Option renaming some→J,none→U
open Bool renaming true→xk,false→xw
open Go renaming undef→xy
open List renaming length→I
open Array renaming size→xz
open Go.World renaming heap→xj
open List renaming length→xq
open Array renaming size→xz
open Go.World renaming heap→xj
set_option maxHeartbeats 40000000
set_option maxRecDepth 100000
theorem ZgZ{p:Prop}(h:p:=by simp[World.setCell]):p:=h
theorem ZgX{p:Prop}(h:p:=by simp[results,Try.results52,go_sem]):p:=h
theorem Zgy{p:Prop}(h:p:=by simp only[To,QG,List.map_cons,List.map_nil,List.foldl_cons,List.foldl_nil,List.setIfInBounds_toArray,List.set_cons_succ,List.set_cons_zero]):p:=h
theorem Zh9{p:Prop}(h:p:=by show xz (xj w)≤c;omega):p:=h
theorem ZgT{p:Prop}(h:p:=by unfold Xy;omega):p:=h
theorem ZgH{p:Prop}(h:p:=by have:=f.c2;rw[A.out.1,A.out.2.1,A.out.2.2.1,A.out.2.2.2]at this;grind [cell_of_row]):p:=h
theorem Zgo{p:Prop}(h:p:=by decide+kernel):p:=h
theorem ZgS{p:Prop}(h:p:=by obtain⟨y,_,rfl⟩:=List.mem_map.1 d;rfl):p:=h
def Zlw:=@Go.wp_scope_jumps
def Zl9:=@Go.grownBy_keeps
def ZkC:=@List.take_append_of_le_length
def ZlC:=@Bool.and_true
def Zll:=@Int.natCast_add
def Zl1:=@List.foldl_nil
def Zjn:=@List.setIfInBounds_toArray
def Zkg:=@List.set_cons_succ
def Zlu:=@Go.KeepsFrom.refl
def ZjY:=@List.all_eq_false
section
namespace Vm
open Go Go.Proofs Go.RowKit
def zy(w:Z3)(r:Hp×Int)(e:Ending)(w':Z3):Prop:=
 ∃x,e=.returned (.tuple #[ZC r.1 x,.int .i64 r.2])/\Below (xz<|xj w) w w'/\∀j,j<5->Rd w' (λc=>xz (xj w)<=c/\c<xz (xj w')) (.sl<|(Zu r.1 j).map vu) (x j)
def LT{w:Z3}{G:Z4}{h:Hp}{x:Z5}(k:h.ok)(f:∀b,G b->b<xz (xj w))(l:∀j,j<5->Rd w G (.sl<|(Zu h j).map vu) (x j)):
  Calls xP 13 #[ZC h x] w λe d=>e=.returned (.bool<|Yv h)/\Below (xz<|xj w) w d:=by
 refine ZjX ((QU k).2 w G _ f rfl ?_) ?_;intro i y a
 match i,a with
 |0,a=>cases a;exact Jn l
 rintro e d ⟨v,rfl,g,n⟩;exact⟨by rw[Dc n],g⟩
def Z0W(w:Z3)(G:Z4)(r:∀b,G b->b<xz (xj w))(h:Hp)(A:h.ok)(a:Z5)(y:∀j,j<5->Rd w G (.sl<|(Zu h j).map vu) (a j))(u:Yv h=xw):
  Calls xP 21 #[ZC h a] w (zy w (Hp.zero,1)):=by
 have p:∀W,Below (xz<|xj w) w W->Calls xP 13 #[ZC h a] W λe D=>e=.returned (.bool<|Yv h)/\Below (xz<|xj W) W D:=λW t=>
  LT (w:=W) (G:=G) (x:=a) A (λb f=>Zhr (r b f) t.size) (λj B=>(y j B).keep (λb f=>t.block b<|r b f) λ_ q=>q)
 rw[u]at p;have z:=Zhp p;clear p;clear y u;unfold ZC;go_enter zI,Try.ntmps21;go_wp2;refine Zlw 0 (λ_ _=>False) (λ_ _=>0) rfl ?_ (λ_ _ h=>h.elim)
 go_upto_region 2 with (first
  | (go_at_call 13;refine(z.out _ ?_).mono ?_;rotate_left;rintro e g ⟨rfl,d⟩
     have o:g.heap[xz<|xj w]?=J (.cells #[.int .u64 h.base,.int .i64 h.cap,.int .i64 h.to,.bool h.Y,.int .i64 h.aa,a 0,a 1,a 2,a 3,a 4] 30 (0,0)):=(d.block _ Zgn).trans<|(Zhz _ _ _ Z1).trans<|ZhT w _;have k:g.heap[xz (xj w)+1]?=J (.cells ZX 30 (0,0)):=(d.block _ Z1).trans<|Eo w _;have H:∀j,g.cell? ⟨xz<|xj w,j,U⟩=(#[.int .u64 h.base,.int .i64 h.cap,.int .i64 h.to,.bool h.Y,.int .i64 h.aa,a 0,a 1,a 2,a 3,a 4]:Array Value)[j]? :=λj=>Zhv _ _ _ _ _ _ o;have F:∀j,g.cell? ⟨xz (xj w)+1,j,U⟩=ZX[j]? :=λj=>Zhv _ _ _ _ _ _ k;unfold ZX at F;have fz:∀j,g.frozen? ⟨xz (xj w)+1,j,U⟩=xw:=λj=>Yp k;have l:=Zhp d;have n:=Zhp<|And.intro o k;clear d o k))
 case refine_1=>exact((ZhH _ w).alloc (Zhm _) _).alloc Z1 _
 go_wp2;simp only[Exit.jump];have C:=Sv n.out.2 (.int .u64 0) (.int .i64 0) (.int .i64 0) (.bool xw) (.int .i64 0) (.slice U 0 0) (.slice U 0 0) (.slice U 0 0) (.slice U 0 0)<|.slice U 0 0;refine Zi8 (v:=.tuple #[.agg ZX,.int .i64 1]) ?_ rfl ?_
 .simp[results,Try.results21,go_sem,C,ZX]
 exact⟨λ_=>.slice U 0 0,rfl,Vq (Below.trans (((ZhH _ w).alloc (Zhm _) _).alloc Z1 _)<|l.out.mono Zgn) Z0,jW _ _⟩
def Z0X(w:Z3)(G:Z4)(r:∀b,G b->b<xz (xj w))(h:Hp)(A:h.ok)(a:Z5)(y:∀j,j<5->Rd w G (.sl<|(Zu h j).map vu) (a j))(u:Yv h=xk)(hc:h.Y=xk):
  Calls xP 21 #[ZC h a] w (zy w (Hp.zero,10)):=by
 have g:∀W,Below (xz<|xj w) w W->Calls xP 13 #[ZC h a] W λe D=>e=.returned (.bool<|Yv h)/\Below (xz<|xj W) W D:=λW t=>
  LT (w:=W) (G:=G) (x:=a) A (λb f=>Zhr (r b f) t.size) (λj B=>(y j B).keep (λb f=>t.block b<|r b f) λ_ q=>q)
 rw[u]at g;unfold ZC at g;rw[hc]at g;have z:=Zhp g;clear g;clear y u;unfold ZC;rw[hc];clear hc;go_enter zI,Try.ntmps21;go_wp2;refine Zlw 0 (λ_ _=>False) (λ_ _=>0) rfl ?_ (λ_ _ h=>h.elim)
 go_upto_region 4 with (first
  | (go_at_call 13;refine(z.out _ ?_).mono ?_;rotate_left;rintro e k ⟨rfl,d⟩
     have p:k.heap[xz<|xj w]?=J (.cells #[.int .u64 h.base,.int .i64 h.cap,.int .i64 h.to,.bool xk,.int .i64 h.aa,a 0,a 1,a 2,a 3,a 4] 30 (0,0)):=(d.block _ Zgn).trans<|(Zhz _ _ _ Z1).trans<|ZhT w _;have l:k.heap[xz (xj w)+1]?=J (.cells ZX 30 (0,0)):=(d.block _ Z1).trans<|Eo w _;have H:∀j,k.cell? ⟨xz<|xj w,j,U⟩=(#[.int .u64 h.base,.int .i64 h.cap,.int .i64 h.to,.bool xk,.int .i64 h.aa,a 0,a 1,a 2,a 3,a 4]:Array Value)[j]? :=λj=>Zhv _ _ _ _ _ _ p;have F:∀j,k.cell? ⟨xz (xj w)+1,j,U⟩=ZX[j]? :=λj=>Zhv _ _ _ _ _ _ l;unfold ZX at F;have fz:∀j,k.frozen? ⟨xz (xj w)+1,j,U⟩=xw:=λj=>Yp l;have n:=Zhp d;have o:=Zhp<|And.intro p l;clear d p l))
 case refine_1=>exact((ZhH _ w).alloc (Zhm _) _).alloc Z1 _
 go_wp2;simp only[Exit.jump];have C:=Sv o.out.2 (.int .u64 0) (.int .i64 0) (.int .i64 0) (.bool xw) (.int .i64 0) (.slice U 0 0) (.slice U 0 0) (.slice U 0 0) (.slice U 0 0)<|.slice U 0 0;refine Zi8 (v:=.tuple #[.agg ZX,.int .i64 10]) ?_ rfl ?_
 .simp[results,Try.results21,go_sem,C,ZX]
 exact⟨λ_=>.slice U 0 0,rfl,Vq (Below.trans (((ZhH _ w).alloc (Zhm _) _).alloc Z1 _)<|n.out.mono Zgn) Z0,jW _ _⟩
section
def Za8{P a w Q c rest}l k(μ:Act->World->Nat)(j:findLabel c l=J (.seq .skip rest))
  (pass:∀a w,k a w->rest.wp P (Exit.jump l (λd g=>k d g/\μ d g<μ a w) Q) a w)
  (first:(∀a w,k a w->rest.wp P (Exit.jump l k Q) a w)->c.wp P (Exit.jump l k Q) a w):=
 Zlw l k μ j (first λa w f=>Code.wp_mono (λe d g h=>by
  cases e<;>first
   |exact h
   |exact⟨h.1,h.2.1⟩) (pass a w f)) λa w f=>wp_seq<|wp_skip<|pass a w f
def Z2o{t n}(h:t.size=n):t=((List.range n).map λi=>t.getD i xy).toArray:=by
 apply ZjR;simp[h];intro i a d;simp[a]
def Om{w2:Z3}{b T k l n o p q r t u w}(x:w2.heap[b]?=J (.cells #[k,l,n,o,p,q,r,t,u,w] T (0,0))){v0 v1 a d v4 f v6 g h j}:((((((((((w2.setCell ⟨b,0,U⟩ v0).setCell ⟨b,1,U⟩ v1).setCell ⟨b,2,U⟩ a).setCell ⟨b,3,U⟩ d).setCell ⟨b,4,U⟩ v4).setCell ⟨b,5,U⟩ f).setCell ⟨b,6,U⟩ v6).setCell ⟨b,7,U⟩ g).setCell ⟨b,8,U⟩ h).setCell ⟨b,9,U⟩ j).heap[b]?=J (.cells #[v0,v1,a,d,v4,f,v6,g,h,j] T (0,0)):=by
 simp[World.setCell,ZhW,x]
def Yq(h:Hp)(x:Z5):Array Value:=#[.int .u64 h.base,.int .i64 h.cap,.int .i64 h.to,.bool h.Y,.int .i64 h.aa,x 0,x 1,x 2,x 3,x 4]
structure FlI (w W:World) (c:Nat) (g:Hp) (x:Nat->Value):Prop where
 below:Below (xz<|xj w) w W
 rb:W.heap[xz (xj w)+1]?=J (.cells ZX 30 (0,0))
 le:xz (xj w)+2<=c
 nb:W.heap[c]?=J (.cells (Yq g x) 30 (0,0))
 rd:∀j,j<5->Rd W (λb=>xz (xj w)+2<=b/\b<xz (xj W)/\b≠c) (.sl<|(Zu g j).map vu) (x j)
def Z3U{n}(h:n=0\/n=1):Ym<|1-n:=by unfold Ym;omega
def Z44{h}(p:h.ok)(q:h.to=0\/h.to=1):(YO h).ok:=by
 let⟨d,f,r,t,g,j,u,x,k,l,n,y,z,o⟩:=p;exact⟨d,f,Z3U q,⟨by show _<=(0:Int);omega,by show(0:Int)<=_;omega⟩,Zis _,Zis _,g,j,k,λw a=>(by cases a),λw a=>(by cases a),l,n,o⟩
def Z9z{h:Hp}(z:h.ok){k v}(A:ZB v):({h with E:=h.E.set k v}:Hp).ok:=by
 let⟨d,f,g,j,l,n,o,p,q,r,t,u,x,y⟩:=z;refine⟨d,f,g,j,l,n,o,p,by simp[Zjl];exact q,r,t,u,x,λw a=> ?_⟩;obtain a|rfl:=ZiS a;exact y w a;exact A
def Z4g{l:Z8}(h:∀w∈l,ZB w)(i:Nat):ZB<|(l[i]?).getD 0:=by
 cases e:l[i]? with
 |none=>exact⟨ZgB,ZgB⟩
 |some x=>exact h x Zgl
def AS{h}(a:h.ok)(d:h.to=0\/h.to=1):∀k,(Xk (YO h) k).ok
 |0=>Z44 a d
 |k+1=>by
  have g:=AS a d k;have f:=yB g<|Z4g g.dj k;exact Z9z f.1 f.2
def VN(i:Nat):Nat:=if i<7 then 39+i else if i=7 then 38 else if i=8 then 46 else if i=9 then 47 else if i=10 then 48 else if i=11 then 7 else if i=12 then 6 else if i=14 then 8 else 0
def DW:∀i,i<15->∀j,j<15->i≠j->VN i≠VN j:=ZgB
def frE(c:Nat)(g:Hp)(x:Z5)(k:Nat)(a:Ze)(u:Int):Nat->Value
 |0=>.agg<|Yq g x
 |1=>.pointer<|J ⟨c,9,U⟩
 |2=>x 4
 |3=>.int .i64 k
 |4=>a
 |_=>.int .u64 u
def KS(fv:Int)(g':Hp)(a:Z5):Value:=.tuple #[.int .u64 fv,.agg<|Yq g' a,.int .i64 0]
def FrV(E:Z5)(fv:Int)(g':Hp)(O:(Nat->Value)->Prop)(i:Nat)(val:Ze):Prop:=
 if i<6 then val=E i else if i=6\/i=7 then ∃a,val=KS fv g' a/\O a else if i=9 then ∃a,val=.agg (Yq g' a)/\O a else if i=8\/i=12 then val=.int .u64 fv else val=.int .i64 0
def FrV.mono{E fv g' O a i val}(h:FrV E fv g' O i val)(d:∀x,O x->a x):FrV E fv g' a i val:=by
 unfold FrV at*;split;rename_i c;rw[Zht c]at h;exact h;rename_i c;rw[Zhs c]at h;split;rename_i c;rw[Zht c]at h;let⟨x,e,o⟩:=h;exact⟨x,e,d x o⟩
 rename_i c;rw[Zhs c]at h;split;rename_i c;rw[Zht c]at h;let⟨x,e,o⟩:=h;exact⟨x,e,d x o⟩
 rename_i c;rw[Zhs c]at h;exact h
structure FrO (W0 W:World) (L:Nat->Bool) (v:Nat->Value) (g':Hp) (x':Nat->Value):Prop where
 own:HOwn (xz<|xj W0) W g' x'
 al:∀j,j<5->∀b,(x' j).ownBlock=J b->L 11=xk->v 7≠.pointer (J ⟨b,0,U⟩)
structure FrC (W0:World) (E:Nat->Value) (fv:Int) (g':Hp) (L:Nat->Bool) (v:Nat->Value) (W:World):Prop where
 b:Below (xz<|xj W0) W0 W
 val:∀i,i<15->i≠11->i≠13->L i=xk->FrV E fv g' (FrO W0 W L v g') i (v<|VN i)
 new:L 11=xk->∃c,v 7=.pointer (J ⟨c,0,U⟩)/\xz (xj W0)<=c/\c<xz (xj W)/\(L 13=xw->W.heap[c]?=J (.cells ZX 30 (0,0)))
 put:L 13=xk->∃c x',v 7=.pointer (J ⟨c,0,U⟩)/\W.heap[c]?=J (.cells (Yq g' x') 30 (0,0))/\FrO W0 W L v g' x'
 c13:L 13=xk->L 11=xk
section
variable {W0 W W':Z3}{E:Z5}{fv:Int}{g':Hp}{L:Zgk}{v:Z5}
def FrO.keep{d v' a}(o:FrO W0 W L v g' a)(k:∀j,j<5->∀b,(a j).ownBlock=J b->W'.heap[b]?=W.heap[b]?)(l:xz (xj W)<=xz (xj W'))
  (f:∀j,j<5->∀b,(a j).ownBlock=J b->d 11=xk->v' 7≠.pointer (J ⟨b,0,U⟩)):FrO W0 W' d v' g' a:=
 ⟨⟨λj g=>XM (o.own.own j g) λb h=>Zgl,o.own.apart⟩,f⟩
def FrC.step(C:FrC W0 E fv g' L v W){i s}(z:i<15)(D:i≠11)(F:i≠13)(G:s=VN i){x}(l:Below (xz<|xj W) W W')
  (H:FrV E fv g' (FrO W0 W' L v g') i x):FrC W0 E fv g' (add L i) (Xi v s x) W':=by
 subst G;have g:add L i 11=L 11:=WM Z0;have k:add L i 13=L 13:=WM Z0;have p:Xi v _ x 7=v 7:=TZ v x (show VN 11≠VN i from DW 11 Z0 i z Z0);have A:∀f,FrO W0 W L v g' f->FrO W0 W' (add L i) (Xi v _ x) g' f:=λf o=>o.keep (λj h b d=>l.block b ((o.own.own j h).lt b d).2) l.size (λj h b d=>by rw[g,p];exact o.al j h b d);have w:∀f,FrO W0 W' L v g' f->FrO W0 W' (add L i) (Xi v _ x) g' f:=λf o=>o.keep Z1 Z0 (λj h b d=>by rw[g,p];exact o.al j h b d);refine⟨C.b.trans<|l.mono C.b.size,λj h t u a=> ?_,λa=> ?_,λa=> ?_,λa=> ?_⟩;by_cases e:j=i;subst e;rw[RE];exact H.mono w;rw[WM e]at a;rw[TZ v x<|DW j h i z e];exact(C.val j h t u a).mono A;rw[g]at a;let⟨c,q,r,n,B⟩:=C.new a;refine⟨c,by rw[p];exact q,r,Zhr n l.size,λy=> ?_⟩;rw[k]at y;exact(l.block c n).trans (B y);rw[k]at a;let⟨c,f,q,r,n⟩:=C.put a;exact⟨c,f,by rw[p];exact q,(l.block c Zgl).trans r,A f n⟩;rw[k]at a;rw[g];exact C.c13 a
def FrC.call(C:FrC W0 E fv g' L v W){g}(o:Below (xz<|xj W) W W')(f:HOwn (xz<|xj W) W' g' g):FrC W0 E fv g' (add L 6) (Xi v 45<|KS fv g' g) W':=by
 refine C.step Z0 Z0 Z0 rfl o ?_;unfold FrV;rw[Zhs Z0,Zht<|.inl rfl];refine⟨g,rfl,⟨λj d=>Lq (f.own j d) λb k l=>⟨ZhU C.b.size k,l⟩,f.apart⟩,λj d b a n e=> ?_⟩;let⟨c,h,_,p,_⟩:=C.new n;rw[h]at e;cases e;have:=((f.own j d).lt b a).1;omega
def FrC.alloc(C:FrC W0 E fv g' L v W)(h:L 11=xw):FrC W0 E fv g' (add L 11) (Xi v 7<|.pointer<|J ⟨xz<|xj W,0,U⟩)<|W.alloc<|.cells ZX 30:=by
 have k:L 13=xw:=by
  cases e:L 13 with
  |false=>rfl
  |true=>have:=C.c13 e;rw[h]at this;cases this
 have l:Below (xz<|xj W) W<|W.alloc<|.cells ZX 30:=(ZhH _ _).alloc (Zhm _) _;have r:xz (xj<|W.alloc<|.cells ZX 30)=xz (xj W)+1:=Z1
 have q:∀p,FrO W0 W L v g' p->FrO W0 (W.alloc<|.cells ZX 30) (add L 11) (Xi v 7<|.pointer<|J ⟨xz<|xj W,0,U⟩) g' p:=λp o=>o.keep (λj g b d=>l.block b ((o.own.own j g).lt b d).2) l.size (λj g b d _=>by
  rw[RE];intro e;cases e;have:=((o.own.own j g).lt _ d).2;omega)
 refine⟨C.b.trans<|l.mono C.b.size,λj g f n a=> ?_,λa=> ?_,λa=> ?_,λa=> ?_⟩;rw[WM f]at a;rw[TZ v _ (s:=7) (t:=VN j) (show VN j≠7 from DW j g 11 Z0 f)];exact(C.val j g f n a).mono q;exact⟨xz<|xj W,RE _ _ _,C.b.size,Z0,λ_=>ZhT W _⟩;rw[WM Z0,k]at a;cases a;exact zK _ _
def FrC.store(C:FrC W0 E fv g' L v W){c:Nat}(hc:v 7=.pointer (J ⟨c,0,U⟩)){y:Z5}(z:FrO W0 W L v g' y)(a:L 11=xk)(D:L 13=xw)(G:W.heap[c]?=J (.cells ZX 30 (0,0)))
  (u:∀b,b≠c->W'.heap[b]?=W.heap[b]?) (F:xz (xj W')=xz (xj W)) (x:W'.heap[c]?=J (.cells (Yq g' y) 30 (0,0))) (w:Below (xz<|xj W0) W W'):FrC W0 E fv g' (add L 13) v W':=by
 have k:add L 13 11=L 11:=WM Z0;have r:∀n,FrO W0 W L v g' n->FrO W0 W' (add L 13) v g' n:=λn o=>o.keep (λj g b d=>u b (λe=>by subst e;exact o.al j g b d a hc)) Z0 (λj g b d _=>o.al j g b d a);obtain⟨A,p,t,B,_⟩:=C.new a;rw[hc]at p;cases p;refine⟨C.b.trans w,λj g l h f=> ?_,λf=> ?_,λf=> ?_,λf=>by rw[k];exact a⟩;rw[WM h]at f;exact(C.val j g l h f).mono r;refine⟨c,hc,t,Z0,λq=> ?_⟩;rw[zK]at q;cases q;exact⟨c,y,hc,x,r y z⟩
def FrC.e(C:FrC W0 E fv g' L v W)i(d:i<6)(a:L i=xk):v (VN i)=E i:=by
 have:=C.val i Z0 Z0 Z0 a;unfold FrV at this;rwa[Zht d]at this
def FrC.t(C:FrC W0 E fv g' L v W)i(f:i=6\/i=7)(d:L i=xk):∃a,v (VN i)=KS fv g' a/\FrO W0 W L v g' a:=by
 have:=C.val i Z0 Z0 Z0 d;unfold FrV at this;rwa[Zhs Z0,Zht f]at this
def FrC.a(C:FrC W0 E fv g' L v W)(f:L 9=xk):∃d,v 47=.agg (Yq g' d)/\FrO W0 W L v g' d:=by
 have:=C.val 9 Z0 Z0 Z0 f;unfold FrV at this;rwa[Zhs Z0,Zhs Z0,Zht rfl]at this
def FrC.f(C:FrC W0 E fv g' L v W)i(d:i=8\/i=12)(a:L i=xk):v (VN i)=.int .u64 fv:=by
 have:=C.val i Z0 Z0 Z0 a;unfold FrV at this;rwa[Zhs Z0,Zhs Z0,Zhs Z0,Zht d]at this
def FrC.z(C:FrC W0 E fv g' L v W)i(d:i=10\/i=14)(a:L i=xk):v (VN i)=.int .i64 0:=by
 have:=C.val i Z0 Z0 Z0 a;unfold FrV at this;rwa[Zhs Z0,Zhs Z0,Zhs Z0,Zhs Z0]at this
def FrC.pe(C:FrC W0 E fv g' L v W)i(a:i<6){s}(d:s=VN i):=
 C.step Z0 Z0 Z0 d (ZhH _ _) (by unfold FrV;rw[Zht a])
def FrC.pt(C:FrC W0 E fv g' L v W){a}(o:FrO W0 W L v g' a):FrC W0 E fv g' (add L 7) (Xi v 38<|KS fv g' a) W:=
 C.step Z0 Z0 Z0 rfl (ZhH _ _) (by unfold FrV;rw[Zhs Z0,Zht<|.inr rfl];exact⟨a,rfl,o⟩)
def FrC.pa(C:FrC W0 E fv g' L v W){a}(o:FrO W0 W L v g' a):FrC W0 E fv g' (add L 9) (Xi v 47<|.agg<|Yq g' a) W:=
 C.step Z0 Z0 Z0 rfl (ZhH _ _) (by unfold FrV;rw[Zht rfl];exact⟨a,rfl,o⟩)
def FrC.pf(C:FrC W0 E fv g' L v W)i(a:i=8\/i=12){s}(d:s=VN i):=
 C.step Z0 Z0 Z0 d (ZhH _ _) (by unfold FrV;rw[Zhs Z0,Zhs Z0,Zhs Z0,Zht a])
def FrC.pz(C:FrC W0 E fv g' L v W)i(d:i=10\/i=14){s}(a:s=VN i):=
 C.step Z0 Z0 Z0 a (ZhH _ _) (by unfold FrV;rw[Zhs Z0,Zhs Z0,Zhs Z0,Zhs Z0])
end
def JN{W G}{l:Z8}{y}(h:Rd W G (.sl<|l.map vu) y){k u}(j:l[k]?=J u):∃b o cap,y=.slice (J ⟨b,o,U⟩) (I l) cap/\W.cell? ⟨b,o+k,U⟩=J (.int .u64 u)/\G b:=by
 have g:=(Zhj.1 j).1;generalize a:l.map vu=L at h;cases h with
 |nil=>simp at a;subst a;simp at g
 |sl _ b o cap w vs x z n p q r=>
  have d:I L=I l:=by rw[<-a,ZhN]
  have f:w=1:=by
   have:=(p _ (by rw[<-a];exact Zj3<|Zhq j)).1;simpa using this.symm
  subst f;refine⟨b,o,cap,by rw[d],?_,n⟩;rw[q k Z0];have t:(flat L)[k]?=J (vu u):=by rw[<-a,yr,ZhG,j];rfl
  rw[Sw<|r k _ t]
end
end Vm
end
section
namespace Vm
open Go Go.Proofs
section
def WY(l:Zi)(i:Int):Bool:=l.any λo=>decide (o.Z<i)&&decide (i<=o.Z+o.M)
def X0(g:Hp):Hp:=if g.aa=(I g.H) then {g with Y:=xw,ah:=[],al:=[]}else g
def WL(h:Hp):Hp:=
 X0 (if WY (ZN h.H [] xw).1 h.aa=xk then
  {(fwd h<|(h.H[h.aa.toNat]?).getD 0).2.1 with H:=(fwd h<|(h.H[h.aa.toNat]?).getD 0).2.1.H.set h.aa.toNat (fwd h<|(h.H[h.aa.toNat]?).getD 0).1,aa:=h.aa+1}
 else {h with aa:=h.aa+1})
def Y6(h:Hp):Nat->Hp
 |0=>h
 |k+1=>if h.Y then Y6 (WL h) k else h
section
variable {h g:Hp}{p q:Pts}
def Qm{l:Zi}{i:Int}:WY l i=xk↔ ∃o∈l,o.Z<i/\i<=o.Z+o.M:=by
 unfold WY;simp
def Rt.mi(r:Rt h p):ZN h.H [] xw=(p.H,0):=by
 have t:=r.ak 1 Z0;simp only[Vo,Pts.ml]at t;refine zp t ?_;unfold VV;have:p.H.filter (λo=>o.gone)=[]:=by
  rw[Zko];intro o a;rw[t.cw o a];simp
 rw[this];rfl
def Z5N(t:Tld h p){w:Int}(f:Gos h p w 1 2):VZ w=xk:=by
 unfold VZ;obtain a|⟨k,_,_,_,o,_,d,_⟩:=f.vd t Z0 Z0;simp[a];simp[d]
def Body.re(b:Body g q){i:Nat}(hs:g.aa=i)(K:i<I g.H){v:Int}(M:Gos g q v 1 2)(H:WY q.H i=xk):Body {g with H:=g.H.set i v,aa:=(i:Int)+1} q:=by
 obtain⟨o,L,h1,h2⟩:=Qm.1 H;obtain⟨a,n,m,Y,Z,em,F,_,W⟩:=b.toTld.ob (k:=1) Z0 L;simp only[Vo]at F;have G:Zv {g with H:=g.H.set i v,aa:=(i:Int)+1}=Zv g:=by
  unfold Zv;simp
 have f:∀ {w N O},Gos {g with H:=g.H.set i v,aa:=(i:Int)+1} q w N O↔Gos g q w N O:=EE G;have z:=b.ak 1 Z0;simp only[Vo,Pts.ml]at z;have u:∀x∈q.H,∀j:Nat,(j:Int)<=x.size->x.Z.toNat+j=i->x=o/\0<j/\(j:Int)<=x.M:=by
  intro x r j p e;obtain⟨c,d,P,Q,R,D,_⟩:=b.toTld.ob (k:=1) Z0 r;obtain C|C|C:=z.apart x r o L;subst C;exact⟨rfl,Z0,Z0⟩;omega;omega
 refine⟨⟨by rw[G];exact b.bd,λk B=> ?_⟩,by rw[G];exact b.gone,λk B x r A j p w t=> ?_,?_⟩;by_cases k1:k=1;subst k1;show Tiles (g.H.set i v) _ 0 q.H;refine z.congr Z1 λx r=> ?_;have l:=(z.ba x r).1;have X:=Yy.1 l.shape;obtain⟨c,d,P,Q,R,D,T,_⟩:=b.toTld.ob (k:=1) Z0 r;have A:=z.cw x r;have S:(g.H.set i v)[x.Z.toNat]?=g.H[x.Z.toNat]? :=by
  refine Zin λe=> ?_;have:=(u x r 0 Z0 Z0).2.1;omega
 refine⟨l.iz,l.shape,by simpa using l.au,RH λj w p=>⟨λh=>(by rw[A]at h;cases h),λH=> ?_⟩,by rw[S];exact l.word⟩;have y:j<x.size.toNat:=by
  have:=(Zhj.1 p).1;simp at this;omega
 rw[ZhY y,ZhM]at p;by_cases e:x.Z.toNat+1+j=i;rw[e,Zix K]at p;cases p;exact Z5N b.toTld M;rw[Zin (λh=>e h.symm)]at p;refine(zf l.gj j w ?_).2 H;rw[ZhY y,ZhM];exact p;have:=b.ak k B;have e:Zw {g with H:=g.H.set i v,aa:=(i:Int)+1} k=Zw g k:=by unfold Zw;rw[Zhs k1,Zhs k1]
 rw[e];exact this;unfold Wi;by_cases k1:k=1;subst k1;simp only[Vo]at t;rw[Zhs Z0];by_cases e:x.Z.toNat+1+j=i;rw[e,Zix K]at t;cases t;rw[Zhs (by rw[e];simp only;omega)];exact f.2 M;rw[Zin (λh=>e h.symm)]at t;have:=b.ptr 1 B x r A j p w t;unfold Wi at this;rw[Zhs Z0]at this;by_cases c:g.aa<=((x.Z.toNat+1+j:Nat):Int);rw[Zht ⟨rfl,c⟩]at this;rw[Zht ⟨rfl,by simp only;omega⟩];exact this.imp f.2 f.2;rw[Zhs (λh=>c h.2)]at this;rw[Zhs (by simp only;omega)];exact f.2 this;have e:Zw {g with H:=g.H.set i v,aa:=(i:Int)+1} k=Zw g k:=by unfold Zw;rw[Zhs k1,Zhs k1]
 rw[e]at t;have:=b.ptr k B x r A j p w t;unfold Wi at this;by_cases c:2<k;rw[Zht c]at this⊢;exact f.2 this;rw[Zhs c,Zhs (λh=>k1 h.1)]at this;rw[Zhs c,Zhs (λh=>k1 h.1)];exact f.2 this;have:=b.room;simpa using this
def Body.ur(b:Body g q){i:Nat}(z:g.aa=i)(r:¬WY q.H i=xk):Body {g with aa:=(i:Int)+1} q:=by
 refine⟨⟨b.bd,b.ak⟩,b.gone,λk o x d f j l w t=> ?_,b.room⟩;have:=b.ptr k o x d f j l w t;unfold Wi at this⊢;by_cases c:2<k;rw[Zht c]at this⊢;exact this;rw[Zhs c]at this⊢;by_cases k1:k=1;subst k1;by_cases c:g.aa<=((x.Z.toNat+1+j:Nat):Int);rw[Zht ⟨rfl,c⟩]at this
 have p:x.Z.toNat+1+j≠i:=λe=>r (Qm.2 ⟨x,d,by
  obtain⟨a,n,m,u,y,em,_⟩:=b.toTld.ob (k:=1) Z0 d;omega⟩)
 rw[Zht ⟨rfl,by simp only;omega⟩];exact this;rw[Zhs (λh=>c h.2)]at this;rw[Zhs (by simp only;omega)];exact this;rw[Zhs (λh=>k1 h.1)]at this⊢;exact this
def Body.stop(b:Body g q)(F:g.aa=I g.H):Body {g with Y:=xw,ah:=[],al:=[]} ⟨q.H,q.ab,[],[]⟩:=by
 have A:=XO.1 b.bd;have z:∀k a:Int,(k=1\/k=2)->ZP (Zv {g with Y:=xw,ah:=[],al:=[]}) k a=ZP (Zv g) k a:=λk a d=>by
  obtain rfl|rfl:=d<;>rfl
 have f:∀ {w:Int},Gos g q w 1 2->Gos {g with Y:=xw,ah:=[],al:=[]} ⟨q.H,q.ab,[],[]⟩ w 1 2:=λ{w} p=>by
  obtain rfl|⟨k,o,d,t,rfl⟩:=p;exact .inl rfl;refine .inr ⟨k,o,d,?_,(z k _ d).symm⟩;obtain rfl|rfl:=d<;>exact t
 refine⟨⟨XO.2 ?_,λk d=> ?_⟩,λk d o t=> ?_,λk d x l p j u w y=> ?_,?_⟩;simp only[Zv,Ziu]at A⊢;omega;have h:k=1\/k=2\/k=3\/k=4:=Z0;obtain rfl|rfl|rfl|rfl:=h;exact b.ak 1 Z0;exact b.ak 2 Z0;exact Zhm 0;exact Zhm 0;have h:k=3\/k=4:=Z0;obtain rfl|rfl:=h<;>cases t
 have h:k=1\/k=2\/k=3\/k=4:=Z0;obtain rfl|rfl|rfl|rfl:=h;have:=b.ptr 1 Z0 x l p j u w y;obtain⟨a,n,m,C,D,em,r,_,B⟩:=b.toTld.ob (k:=1) Z0 l;simp only[Vo]at r;unfold Wi at this⊢;rw[Zhs Z0,Zhs Z0]at this;rw[Zhs Z0,Zhs (by simp only;omega)];exact f this;have:=b.ptr 2 Z0 x l p j u w y;unfold Wi at this⊢;rw[Zhs Z0,Zhs Z0]at this⊢;exact f this;cases l;cases l;have:=b.room;show(I g.H:Int)+I g.ab+YF ⟨q.H,q.ab,[],[]⟩<=g.cap;simp[YF,Y1];omega
structure ScanTo (h:Hp) (p:Pts) (g:Hp) (q:Pts):Prop where
 eq:WL h=g
 rt:Rt g q
 H:∃ws,I g.H=I h.H+ws/\∀j:Nat,(j:Int)<h.aa->g.H[j]?=h.H[j]?
 ab:g.ab=h.ab
 E:g.E=h.E
 num:g.base=h.base/\g.cap=h.cap/\g.to=h.to/\g.aa=h.aa+1
 ig:∃r,q.H=p.H++r
 ie:q.ab=p.ab
 room:g.Y=xk->(I g.H:Int)+YF q=I h.H+YF p
 rc:(I g.H:Int)<=I h.H+YF p
 via:∃(i:Nat) (w v:Int) (f:Hp) (s:Pts),h.aa=i/\h.H[i]?=J w/\g=X0 {f with H:=f.H.set i v,aa:=(i:Int)+1}/\(q.H=s.H/\q.ab=s.ab)/\(g.Y=xk->q=s)/\((v=w/\f=h/\s=p)\/(WY s.H i=xk/\(Gos h p w 1 2\/Gos h p w 3 4)/\FwdTo h p w v f s))
def Rt.aa(r:Rt h p)(hc:h.Y=xk):∃g q,ScanTo h p g q:=by
 obtain⟨i,u⟩:=Zhy r.gi;have T:i<I h.H:=by have:=r.lj hc;omega
 have G:=r.mi;have fin:∀(f:Hp) (s:Pts),Body f s->Ty f s->f.aa=(i:Int)+1->f.Y=xk->(i:Int)+1<=I f.H->(∀w∈f.E,Gos f s w 1 2)->I f.E<=16->∃q,Rt (X0 f) q/\(q.H=s.H/\q.ab=s.ab)/\((X0 f).Y=xk->q=s):=by
  intro f s b o hs x X Z Y;unfold X0;by_cases e:f.aa=I f.H;rw[Zht e];have b':=b.stop e;refine⟨_,⟨b',Y,by show 0<=f.aa;omega,by show f.aa<=I f.H;omega,λh=>ZgA,λ_=>⟨e,rfl,rfl⟩,λh=>ZgA,λw l=> ?_⟩,⟨rfl,rfl⟩,λh=>ZgA⟩;obtain rfl|⟨k,o,W,A,rfl⟩:=Z w l;exact .inl rfl;refine .inr ⟨k,o,W,?_,?_⟩;obtain rfl|rfl:=W<;>exact A;obtain rfl|rfl:=W<;>rfl;rw[Zhs e];exact⟨s,⟨b,Y,Z0,Z0,λ_=>Z0,λh=>(by rw[x]at h;cases h),λ_=>o,Z⟩,⟨rfl,rfl⟩,λ_=>rfl⟩
 have t:∀f:Hp,(X0 f).H=f.H/\(X0 f).ab=f.ab/\(X0 f).E=f.E/\(X0 f).base=f.base/\(X0 f).cap=f.cap/\(X0 f).to=f.to/\(X0 f).aa=f.aa:=λf=>by
  unfold X0;split<;>exact⟨rfl,rfl,rfl,rfl,rfl,rfl,rfl⟩
 have l:h.H[i]?=J h.H[i]:=Zhi T;generalize h.H[i]=w at l;by_cases S:WY p.H i=xk;obtain⟨o,A,h1,h2⟩:=Qm.1 S;obtain⟨a,n,m,ea,en,em,a0,_⟩:=r.toTld.ob (k:=1) Z0 A;have B:Gos h p w 1 2\/Gos h p w 3 4:=by
  have t1:=r.ak 1 Z0;have:=r.ptr 1 Z0 o A (t1.cw o A) (i-a-1) Z0 w (by simp only[Vo];rw[ea,show(a:Int).toNat+1+(i-a-1)=i by omega];exact l);unfold Wi at this;rw[Zhs Z0,Zht ⟨rfl,Z0⟩]at this;exact this
 obtain⟨v,g,q,f⟩:=r.toBody.fm r.dy B;have hs:g.aa=i:=f.ext.aa.trans u;obtain⟨ws,y⟩:=f.ext.H;obtain⟨rs,F⟩:=f.ext.ig;have C:i<I g.H:=by rw[y,Zi3];omega
 have D:WY q.H i=xk:=Qm.2 ⟨o,by rw[F];exact ZiA _ A,h1,h2⟩;have b:=f.body.re hs C f.vl D;have eq:WL h=X0 {g with H:=g.H.set i v,aa:=(i:Int)+1}:=by
  unfold WL;rw[G,u,Zht S];simp only[ZhA,l,ZhP,f.fwd]
 have x:g.Y=xk:=f.ext.Y.trans hc;have X:Zv {g with H:=g.H.set i v,aa:=(i:Int)+1}=Zv g:=by unfold Zv;simp
 have on:Ty {g with H:=g.H.set i v,aa:=(i:Int)+1} q:=by
  have:=f.ff<|r.ff hc;unfold Ty at this⊢;rw[X];exact this
 obtain⟨s,P,⟨Q,R⟩,z⟩:=fin _ q b on rfl x Zgn (λw l=>(EE X).2<|f.ext.kz Z0 Z0<|r.E w (by rw[<-f.ext.E];exact l)) (by show I g.E<=16;rw[f.ext.E];exact r.fu);obtain⟨k1,H,K,L,M,N,O⟩:=t {g with H:=g.H.set i v,aa:=(i:Int)+1};rw[<-eq]at P k1 H K L M N O z;have d:(WL h).H.length=I g.H:=by rw[k1];simp
 refine⟨_,s,rfl,P,⟨I ws,by rw[d,y,Zi3],λj hj=> ?_⟩,H.trans f.ext.ab,K.trans f.ext.E,⟨L.trans f.ext.base,M.trans f.ext.cap,N.trans f.ext.si,by rw[O,u]⟩,⟨rs,by rw[Q,F]⟩,R.trans f.ext.ie,λh=> ?_,?_,i,w,v,g,q,u,l,eq,⟨Q,R⟩,z,.inr ⟨D,B,f⟩⟩;rw[k1];simp only;rw[Zin Z0,y,ZhQ Z0];rw[z h,d];exact f.ext.room;rw[d];have:=f.ext.room;omega;have b:=r.toBody.ur u S;have eq:WL h=X0 {h with aa:=(i:Int)+1}:=by
  unfold WL;rw[G,u,Zhs S]
 obtain⟨s,P,⟨Q,R⟩,z⟩:=fin _ p b (r.ff hc) rfl hc (by simp only;omega) r.E r.fu;obtain⟨k1,H,K,L,M,N,O⟩:=t {h with aa:=(i:Int)+1};rw[<-eq]at P k1 H K L M N O z;refine⟨_,s,rfl,P,⟨0,by rw[k1];rfl,λj hj=>by rw[k1]⟩,H,K,⟨L,M,N,by rw[O,u]⟩,⟨[],by rw[Q,ZiE]⟩,R,λh=> ?_,?_,i,w,w,h,p,u,l,?_,⟨Q,R⟩,z,.inl ⟨rfl,rfl,rfl⟩⟩;rw[z h,k1];rw[k1];simp only;omega;obtain⟨_,e⟩:=Zhj.1 l;rw[eq,<-e,List.set_getElem_self]
end
end
end Vm
end
section
namespace Vm
open Go Go.Proofs Go.RowKit
structure NowI (B:Nat->Prop) (W:World) (b:Nat) (g:Hp) (x:Nat->Value):Prop where
 le:B b
 nb:W.heap[b]?=J (.cells (Yq g x) 30 (0,0))
 rd:∀j,j<5->Rd W (λc=>B c/\c<xz (xj W)/\c≠b) (.sl<|(Zu g j).map vu) (x j)
def Km(B:Z4)(W:Z3)(b:Nat)(g':Hp)(e:Ending)(W':Z3):Prop:=e=.returned (.int .i64 0)/\W.grownBy W' (J b)/\∃a,NowI B W' b g' a
def EK(W:Z3)(B:Z4)(b:Nat)(g:Hp)(x:Z5)(S:NowI B W b g x)(A:g.ok)(i:Nat)(F:g.aa=i)(G:i<I g.H)(pt:Bool)(K:pt=xw\/g.H[i]?=J 0):
  Calls xP 52 #[.bool pt,.pointer<|J ⟨b,0,U⟩] W (Km B W b<|X0 {g with aa:=(i:Int)+1}):=by
 obtain⟨u,M⟩:∃u,g.H[i]?=J u:=⟨_,Zhi G⟩;obtain⟨N,go,cap,n,C,r⟩:=JN (S.rd 0 Z0) M;rw[show I (Zu g 0)=(I g.H) from rfl]at n;have f:=S.nb;unfold Yq at f;rw[n,F]at f;have Y:∀j,W.cell? ⟨b,j,U⟩=(#[.int .u64 g.base,.int .i64 g.cap,.int .i64 g.to,.bool g.Y,.int .i64 i,.slice (J ⟨N,go,U⟩) (I g.H) cap,x 1,x 2,x 3,x 4]:Array Value)[j]? :=λj=>Zhv _ _ _ _ _ _ f;have T:∀j,W.frozen? ⟨b,j,U⟩=xw:=λj=>Yp f;have R:=A.H;have X:=Zy ((i:Int)+1) Z0 Z0;have L:((i:Int)< (I g.H:Int))=True:=ZjW Z0;have y:=Zhp S;have w:=Zhp<|And.intro f<|And.intro n<|And.intro r F;have q:pt=xw\/pt=xk/\u=0:=by
  obtain h|h:=K;exact .inl h;rw[M]at h;cases pt;exact .inl rfl;exact .inr ⟨rfl,Zj6 h⟩
 clear S f n r K F;go_enter A1,Try.ntmps52;have p:∀c v,xz (xj<|W.setCell c v)=xz (xj W):=λc v=>ZgZ;by_cases d:i+1=I g.H
 .have o:((i:Int)+1==(I g.H:Int))=xk:=Zgn;have k:=Zhp d;clear d;have fin:Km B W b (X0 {g with aa:=(i:Int)+1}) (.returned<|.int .i64 0)<|(((W.setCell ⟨b,4,U⟩<|.int .i64<|(i:Int)+1).setCell ⟨b,3,U⟩<|.bool xw).setCell ⟨b,7,U⟩<|.slice U 0 0).setCell ⟨b,8,U⟩<|.slice U 0 0:=by
   have D:X0 {g with aa:=(i:Int)+1}= {g with aa:=(i:Int)+1,Y:=xw,ah:=[],al:=[]}:=by
    unfold X0;rw[Zht (by show(i:Int)+1=(I g.H:Int);have:=k.out;omega)]
   rw[D];have l:∀c,c≠b->((((W.setCell ⟨b,4,U⟩<|.int .i64<|(i:Int)+1).setCell ⟨b,3,U⟩<|.bool xw).setCell ⟨b,7,U⟩<|.slice U 0 0).setCell ⟨b,8,U⟩<|.slice U 0 0).heap[c]?=W.heap[c]? :=λc a=>by
    simp[World.setCell,ZhW,Zj5 a]
   have t:xz (xj<|(((W.setCell ⟨b,4,U⟩<|.int .i64<|(i:Int)+1).setCell ⟨b,3,U⟩<|.bool xw).setCell ⟨b,7,U⟩<|.slice U 0 0).setCell ⟨b,8,U⟩<|.slice U 0 0)=xz (xj W):=ZgZ;refine⟨rfl,⟨rfl,rfl,rfl,Nat.le_of_eq t.symm,λc _ a=>l c<|λe=>a (by rw[e])⟩,λj=>if j=2\/j=3 then .slice U 0 0 else x j,y.out.le,?_,λj H=> ?_⟩;have:=w.out.1;have z:=w.out.2.1;simp[World.setCell,ZhW,this,Yq,z];have:j=2\/j=3\/(j≠2/\j≠3):=Z0;obtain rfl|rfl|⟨O,P⟩:=this;exact .nil _ _ ZgC;exact .nil _ _ ZgC;have Q:Zu {g with aa:=(i:Int)+1,Y:=xw,ah:=[],al:=[]} j=Zu g j:=by
    have:j=0\/j=1\/j=4:=Z0;obtain rfl|rfl|rfl:=this<;>rfl
   rw[Q];simp only[O,P,or_self,Zij];exact(y.out.rd j H).keep (λc a=>l c a.2.2) λc a=>⟨a.1,by rw[t];exact a.2.1,a.2.2⟩
  obtain rfl|⟨rfl,rfl⟩:=q;all_goals
   go_wp2;exact Zi8 (v:=.int .i64 0) ZgX rfl fin
 .have o:((i:Int)+1==(I g.H:Int))=xw:=Zgn;have k:=Zhp d;clear d;have fin:Km B W b (X0 {g with aa:=(i:Int)+1}) (.returned<|.int .i64 0)<|W.setCell ⟨b,4,U⟩<|.int .i64<|(i:Int)+1:=by
   have D:X0 {g with aa:=(i:Int)+1}= {g with aa:=(i:Int)+1}:=by
    unfold X0;rw[Zhs (by show ¬(i:Int)+1=(I g.H:Int);have:=k.out;omega)]
   rw[D];have l:∀c,c≠b->(W.setCell ⟨b,4,U⟩<|.int .i64<|(i:Int)+1).heap[c]?=W.heap[c]? :=λc a=>ZhD _ _ _ _ a;have t:=p ⟨b,4,U⟩<|.int .i64<|(i:Int)+1;refine⟨rfl,⟨rfl,rfl,rfl,Nat.le_of_eq t.symm,λc _ a=>l c<|λe=>a (by rw[e])⟩,x,y.out.le,?_,λj H=> ?_⟩;have:=w.out.1;have z:=w.out.2.1;simp[World.setCell,ZhW,this,Yq,z];exact(y.out.rd j H).keep (λc a=>l c a.2.2) λc a=>⟨a.1,by rw[t];exact a.2.1,a.2.2⟩
  obtain rfl|⟨rfl,rfl⟩:=q;all_goals
   go_wp2;exact Zi8 (v:=.int .i64 0) ZgX rfl fin
def Mr{B W b g x}(S:NowI B W b g x)n:W.grownBy (W.setCell ⟨b,4,U⟩<|.int .i64 n) (J b)/\NowI B (W.setCell ⟨b,4,U⟩<|.int .i64 n) b {g with aa:=n} x:=by
 have d:∀c,c≠b->(W.setCell ⟨b,4,U⟩<|.int .i64 n).heap[c]?=W.heap[c]? :=λc a=>ZhD _ _ _ _ a;have h:xz (xj<|W.setCell ⟨b,4,U⟩<|.int .i64 n)=xz (xj W):=Z1;refine⟨⟨rfl,rfl,rfl,Z0,Zgl⟩,S.le,?_,λj f=> ?_⟩;have:=S.nb;simp[World.setCell,ZhW,this,Yq];exact(S.rd j f).keep (λc a=>d c a.2.2) λc a=>Zgm
def Z76{B W b g x}(S:NowI B W b g x):W.grownBy (((W.setCell ⟨b,3,U⟩<|.bool xw).setCell ⟨b,7,U⟩<|.slice U 0 0).setCell ⟨b,8,U⟩<|.slice U 0 0) (J b)/\
  NowI B (((W.setCell ⟨b,3,U⟩<|.bool xw).setCell ⟨b,7,U⟩<|.slice U 0 0).setCell ⟨b,8,U⟩<|.slice U 0 0) b {g with Y:=xw,ah:=[],al:=[]} (λj=>if j=2\/j=3 then .slice U 0 0 else x j):=by
 have d:∀c,c≠b->(((W.setCell ⟨b,3,U⟩<|.bool xw).setCell ⟨b,7,U⟩<|.slice U 0 0).setCell ⟨b,8,U⟩<|.slice U 0 0).heap[c]?=W.heap[c]? :=λc a=>by
  simp[World.setCell,ZhW,Zj5 a]
 have n:xz (xj<|((W.setCell ⟨b,3,U⟩<|.bool xw).setCell ⟨b,7,U⟩<|.slice U 0 0).setCell ⟨b,8,U⟩<|.slice U 0 0)=xz (xj W):=Z1;refine⟨⟨rfl,rfl,rfl,Z0,Zgl⟩,S.le,?_,λj k=> ?_⟩;have:=S.nb;simp[World.setCell,ZhW,this,Yq];have:j=2\/j=3\/(j≠2/\j≠3):=Z0;obtain rfl|rfl|⟨f,h⟩:=this;exact .nil _ _ ZgC;exact .nil _ _ ZgC;have l:Zu {g with Y:=xw,ah:=[],al:=[]} j=Zu g j:=by
  have:j=0\/j=1\/j=4:=Z0;obtain rfl|rfl|rfl:=this<;>rfl
 rw[l];simp[f,h,or_self,Zij];exact(S.rd j k).keep (λc a=>d c a.2.2) λc a=>Zgm
def Z1b(W:Z3)(B:Z4)(b:Nat)(b4:∀c,xz (xj W)<=c->B c)(g:Hp)(x:Z5)(S:NowI B W b g x)(Z:g.ok)(i:Nat)(hi:g.aa=i)(f8:i<I g.H){u:Int}(hu:g.H[i]?=J u)(g5:¬u=0){v:Int}{g1:Hp}(hf:fwd g u=(v,g1,0))(d7:i<I g1.H)(d8:g1.aa=i):
  Calls xP 52 #[.bool xk,.pointer<|J ⟨b,0,U⟩] W (Km B W b<|X0 {g1 with H:=g1.H.set i v,aa:=(i:Int)+1}):=by
 obtain⟨gb,go,cap,G,e0,b9⟩:=JN (S.rd 0 Z0) hu;rw[show I (Zu g 0)=(I g.H) from rfl]at G;have w:=S.nb;unfold Yq at w;rw[G,hi]at w;have yb:∀j,W.cell? ⟨b,j,U⟩=(#[.int .u64 g.base,.int .i64 g.cap,.int .i64 g.to,.bool g.Y,.int .i64 i,.slice (J ⟨gb,go,U⟩) (I g.H) cap,x 1,x 2,x 3,x 4]:Array Value)[j]? :=λj=>Zhv _ _ _ _ _ _ w;have f9:=Z.H;have uu:=Z.gm u<|Zhq hu;have wi:=Zy ((i:Int)+1) Z0 Z0;have e8:((i:Int)< (I g.H:Int))=True:=ZjW Z0;have hF:∀W',Below (xz<|xj W) W W'->Calls xP 41 #[.agg #[.int .u64 g.base,.int .i64 g.cap,.int .i64 g.to,.bool g.Y,.int .i64 i,.slice (J ⟨gb,go,U⟩) (I g.H) cap,x 1,x 2,x 3,x 4],.int .u64 u] W' (FwdPost W' (v,g1,0)):=λW' hb=>by
  have:=ED W' (λc=>B c/\c<xz (xj W)/\c≠b) (λc f=>Zhr f.2.1 hb.size) g Z x (λj P=>(S.rd j P).keep (λc f=>hb.block c f.2.1) λ_ q=>q) u uu;rw[hf]at this;unfold ZC at this;rw[G,hi]at this;exact this
 have HF:=Zhp hF;have d5:=Zhp b4;have HS:=Zhp S;have HN:=Zhp<|And.intro w<|And.intro G<|And.intro b9 hi;have C:=(yB Z uu);rw[hf]at C;have e9:=Zhp C;have d9:=Y7 w;clear S w G b9 hi hF hf C b4;go_enter A1,Try.ntmps52;go_upto_region 6 with (go_at_call 41;refine(HF.out _<|ZhH _ _).mono ?_;rintro e w9 ⟨x9,rfl,b7,h⟩;obtain⟨a0,H,f0⟩:=Wc<|h.own 0 Z0;obtain⟨L,Q,f1⟩:=Wc<|h.own 1 Z0;obtain⟨M,R,f2⟩:=Wc<|h.own 2 Z0;obtain⟨N,T,f3⟩:=Wc<|h.own 3 Z0;obtain⟨O,X,f4⟩:=Wc<|h.own 4 Z0;obtain⟨a,rfl⟩:=Cr (h.own 0 Z0) f0 (by show 0<I g1.H;omega);rw[show I (Zu g1 0)=(I g1.H) from rfl]at f0;unfold ZC;rw[f0,f1,f2,f3,f4];have k:=Zhp<|And.intro b7<|And.intro h<|And.intro f0<|And.intro f1<|And.intro f2<|And.intro f3 f4;clear b7 h f0 f1 f2 f3 f4);have e6:=k.out.1.size;have a7:Below (xz<|xj W) W<|w9.alloc<|.cells #[.int .u64 g1.base,.int .i64 g1.cap,.int .i64 g1.to,.bool g1.Y,.int .i64 i,.slice (J ⟨a,0,U⟩) (I g1.H) H,.slice L (I<|Zu g1 1) Q,.slice M (I<|Zu g1 2) R,.slice N (I<|Zu g1 3) T,.slice O (I<|Zu g1 4) X] 30:=k.out.1.alloc e6 _;have a9:=ZhT w9<|.cells #[.int .u64 g1.base,.int .i64 g1.cap,.int .i64 g1.to,.bool g1.Y,.int .i64 i,.slice (J ⟨a,0,U⟩) (I g1.H) H,.slice L (I<|Zu g1 1) Q,.slice M (I<|Zu g1 2) R,.slice N (I<|Zu g1 3) T,.slice O (I<|Zu g1 4) X] 30;have b3:xz (xj<|w9.alloc<|.cells #[.int .u64 g1.base,.int .i64 g1.cap,.int .i64 g1.to,.bool g1.Y,.int .i64 i,.slice (J ⟨a,0,U⟩) (I g1.H) H,.slice L (I<|Zu g1 1) Q,.slice M (I<|Zu g1 2) R,.slice N (I<|Zu g1 3) T,.slice O (I<|Zu g1 4) X] 30)=xz (xj w9)+1:=Z1;have l:HOwn (xz<|xj W) (w9.alloc<|.cells #[.int .u64 g1.base,.int .i64 g1.cap,.int .i64 g1.to,.bool g1.Y,.int .i64 i,.slice (J ⟨a,0,U⟩) (I g1.H) H,.slice L (I<|Zu g1 1) Q,.slice M (I<|Zu g1 2) R,.slice N (I<|Zu g1 3) T,.slice O (I<|Zu g1 4) X] 30) g1 x9:=⟨λj P=>XM (k.out.2.1.own j P) λc f=>Zhz w9 _ c ((k.out.2.1.own j P).lt c f).2,k.out.2.1.apart⟩;have f6:xz (xj W)<=a/\a<xz (xj w9):=(k.out.2.1.own 0 Z0).lt a (by rw[k.out.2.2.1];rfl);obtain⟨K,b5⟩:∃K,K=w9.alloc (.cells #[.int .u64 g1.base,.int .i64 g1.cap,.int .i64 g1.to,.bool g1.Y,.int .i64 i,.slice (J ⟨a,0,U⟩) (I g1.H) H,.slice L (I<|Zu g1 1) Q,.slice M (I<|Zu g1 2) R,.slice N (I<|Zu g1 3) T,.slice O (I<|Zu g1 4) X] 30):=⟨_,rfl⟩;rw[<-b5]at a7 a9 b3 l⊢;clear b5;have a5:=(a7.block b d9).trans HN.out.1;have y7:∀j,K.cell? ⟨xz<|xj w9,j,U⟩=(#[.int .u64 g1.base,.int .i64 g1.cap,.int .i64 g1.to,.bool g1.Y,.int .i64 i,.slice (J ⟨a,0,U⟩) (I g1.H) H,.slice L (I<|Zu g1 1) Q,.slice M (I<|Zu g1 2) R,.slice N (I<|Zu g1 3) T,.slice O (I<|Zu g1 4) X]:Array Value)[j]? :=λj=>Zhv _ _ _ _ _ _ a9;have e7:∀j,K.cell? ⟨b,j,U⟩=(#[.int .u64 g.base,.int .i64 g.cap,.int .i64 g.to,.bool g.Y,.int .i64 i,.slice (J ⟨gb,go,U⟩) (I g.H) cap,x 1,x 2,x 3,x 4]:Array Value)[j]? :=λj=>Zhv _ _ _ _ _ _ a5;have d6:∀j,K.frozen? ⟨b,j,U⟩=xw:=λj=>Yp a5;have z:=Zhp<|And.intro a7<|And.intro l<|And.intro b3 a5;clear a7 l b3 a5 a9;go_upto_region 7 with fail;obtain⟨d,t⟩:∃d,d=((((((((((K.setCell ⟨b,0,U⟩<|.int .u64 g1.base).setCell ⟨b,1,U⟩<|.int .i64 g1.cap).setCell ⟨b,2,U⟩<|.int .i64 g1.to).setCell ⟨b,3,U⟩<|.bool g1.Y).setCell ⟨b,4,U⟩<|.int .i64 i).setCell ⟨b,5,U⟩<|.slice (J ⟨a,0,U⟩) (I g1.H) H).setCell ⟨b,6,U⟩<|.slice L (I<|Zu g1 1) Q).setCell ⟨b,7,U⟩<|.slice M (I<|Zu g1 2) R).setCell ⟨b,8,U⟩<|.slice N (I<|Zu g1 3) T).setCell ⟨b,9,U⟩<|.slice O (I<|Zu g1 4) X):=⟨_,rfl⟩;rw[<-t];have b0:d.heap[b]?=J (.cells #[.int .u64 g1.base,.int .i64 g1.cap,.int .i64 g1.to,.bool g1.Y,.int .i64 i,.slice (J ⟨a,0,U⟩) (I g1.H) H,.slice L (I<|Zu g1 1) Q,.slice M (I<|Zu g1 2) R,.slice N (I<|Zu g1 3) T,.slice O (I<|Zu g1 4) X] 30 (0,0)):=by rw[t];exact Om z.out.2.2.2
 have p:∀c,c≠b->d.heap[c]?=K.heap[c]? :=λc f=>by rw[t];exact UM f
 have c8:xz (xj d)=xz (xj K):=by rw[t];simp[World.setCell]
 have a6:Below 0 K d:=by rw[t];exact Vq (ZhH _ _)<|Zis _
 have a8:K.grownBy d<|J b:=⟨a6.os,a6.tape,a6.output,a6.size,λc _ f=>p c<|λe=>f (by rw[e])⟩;clear t;have n:HOwn (xz<|xj W) d g1 x9:=⟨λj P=>XM (z.out.2.1.own j P) λc f=>p c (by have:=((z.out.2.1.own j P).lt c f).1;omega),z.out.2.1.apart⟩;have F:=n.own 0 Z0;rw[k.out.2.2.1,show I (Zu g1 0)=(I g1.H) from rfl]at F;obtain⟨z0,c1⟩:∃z0,g1.H[i]?=J z0:=⟨_,Zhi d7⟩;have ec:d.cell? ⟨a,i,U⟩=J (.int .u64 z0):=by
  rw[F.cellAt i Z0];simp[Ye,Zu,c1]
 have ef:d.frozen? ⟨a,i,U⟩=xw:=F.frozenAt i;have y3:∀j,d.cell? ⟨b,j,U⟩=(#[.int .u64 g1.base,.int .i64 g1.cap,.int .i64 g1.to,.bool g1.Y,.int .i64 i,.slice (J ⟨a,0,U⟩) (I g1.H) H,.slice L (I<|Zu g1 1) Q,.slice M (I<|Zu g1 2) R,.slice N (I<|Zu g1 3) T,.slice O (I<|Zu g1 4) X]:Array Value)[j]? :=λj=>Zhv _ _ _ _ _ _ b0;have f7:((i:Int)< (I g1.H:Int))=True:=ZjW Z0;have A:=Zhp<|And.intro b0<|And.intro p<|And.intro c8<|And.intro a8<|And.intro n F;clear b0 p c8 a8 n F y7 e7 d6 c1;go_upto_region 8 with fail;have b8:a≠b:=Z0;obtain⟨b2,e4⟩:=A.out.2.2.2.2.2.stored i<|.int .u64 v;have r:∀c,c≠a->(d.setCell ⟨a,i,U⟩<|.int .u64 v).heap[c]?=d.heap[c]? :=λc f=>ZhD _ _ _ _ f;have d0:xz (xj<|d.setCell ⟨a,i,U⟩<|.int .u64 v)=xz (xj d):=ZgZ;have D:=(r b<|Zj5 b8).trans A.out.1;have S4:NowI B (d.setCell ⟨a,i,U⟩<|.int .u64 v) b {g1 with H:=g1.H.set i v} x9:=by
  refine⟨HS.out.le,?_,λj P=> ?_⟩;rw[D];unfold Yq;rw[k.out.2.2.1,k.out.2.2.2.1,k.out.2.2.2.2.1,k.out.2.2.2.2.2.1,k.out.2.2.2.2.2.2];simp only[d8];have c0:∀c,xz (xj W)<=c->c< xz (xj<|d.setCell ⟨a,i,U⟩<|.int .u64 v)->B c/\c< xz (xj<|d.setCell ⟨a,i,U⟩<|.int .u64 v)/\c≠b:=λc h1 h2=>⟨d5.out c h1,h2,Z0⟩;by_cases e:j=0;subst e;have hn:Ye .u64 (g1.H.set i v)=(Ye .u64<|Zu g1 0).set i (.int .u64 v):=Lj _ _ _ _;rw[<-hn]at b2;show Rd _ _ (.sl<|(g1.H.set i v).map vu)<|x9 0;rw[k.out.2.2.1];have e3:I g1.H=I (g1.H.set i v):=by rw[Zjl]
  have e5:(d.setCell ⟨a,i,U⟩<|.int .u64 v).ownsRow (xz<|xj W) 24 1 (.slice (J ⟨a,0,U⟩) (I g1.H) H) (I<|g1.H.set i v)<|Ye .u64<|g1.H.set i v:=by rw[<-e3];exact b2
  exact Rq e5 c0;have e1:Zu {g1 with H:=g1.H.set i v} j=Zu g1 j:=by
   have:j=1\/j=2\/j=3\/j=4:=Z0;obtain rfl|rfl|rfl|rfl:=this<;>rfl
  rw[e1];refine Rq (XM (A.out.2.2.2.2.1.own j P) λc f=>r c λe2=> ?_) c0;exact A.out.2.2.2.2.1.apart 0 j Z0 P c (by rw[e2,k.out.2.2.1];rfl) f
 have G4:W.grownBy (d.setCell ⟨a,i,U⟩<|.int .u64 v)<|J b:=by
  have g2:=Tc z.out.1<|J b;have g3:=Sf g2 A.out.2.2.2.1;refine⟨g3.os,g3.tape,g3.output,by rw[d0];exact g3.size,λc f hn=> ?_⟩;rw[r c Z0];exact g3.block c f hn
 obtain⟨W4,b6⟩:∃W4,W4=d.setCell ⟨a,i,U⟩ (.int .u64 v):=⟨_,rfl⟩;rw[<-b6]at S4 G4 D⊢;clear b6 r d0 b2 e4;have y4:∀j,W4.cell? ⟨b,j,U⟩=(#[.int .u64 g1.base,.int .i64 g1.cap,.int .i64 g1.to,.bool g1.Y,.int .i64 i,.slice (J ⟨a,0,U⟩) (I g1.H) H,.slice L (I<|Zu g1 1) Q,.slice M (I<|Zu g1 2) R,.slice N (I<|Zu g1 3) T,.slice O (I<|Zu g1 4) X]:Array Value)[j]? :=λj=>Zhv _ _ _ _ _ _ D;have f5:∀j,W4.frozen? ⟨b,j,U⟩=xw:=λj=>Yp D;have Y:=Zhp<|And.intro S4 G4;clear S4 G4 D ec ef y3;by_cases o:i+1=I g1.H
 .have b1:((i:Int)+1==(I g1.H:Int))=xk:=Zgn;have y:=Zhp o;clear o;go_wp2;refine Zi8 (v:=.int .i64 0) ZgX rfl ?_;have he:X0 {g1 with H:=g1.H.set i v,aa:=(i:Int)+1}= {g1 with H:=g1.H.set i v,aa:=(i:Int)+1,Y:=xw,ah:=[],al:=[]}:=by
   unfold X0;rw[Zht (by show(i:Int)+1=(I (g1.H.set i v):Int);rw[Zjl];have:=y.out;omega)]
  rw[he];obtain⟨p1,p2⟩:=Mr Y.out.1<|(i:Int)+1;obtain⟨p3,p4⟩:=Z76 p2;exact⟨rfl,Sf (Sf Y.out.2 p1) p3,_,p4⟩
 .have b1:((i:Int)+1==(I g1.H:Int))=xw:=Zgn;have y:=Zhp o;clear o;go_wp2;refine Zi8 (v:=.int .i64 0) ZgX rfl ?_;have he:X0 {g1 with H:=g1.H.set i v,aa:=(i:Int)+1}= {g1 with H:=g1.H.set i v,aa:=(i:Int)+1}:=by
   unfold X0;rw[Zhs (by show ¬(i:Int)+1=(I (g1.H.set i v):Int);rw[Zjl];have:=y.out;omega)]
  rw[he];obtain⟨p1,p2⟩:=Mr Y.out.1<|(i:Int)+1;exact⟨rfl,Sf Y.out.2 p1,_,p2⟩
def Za5{g:Hp}{p:Pts}(r:Rt g p){i:Nat}(B:g.aa=i)(w:WY p.H i=xk){u:Int}(x:g.H[i]?=J u):Gos g p u 1 2\/Gos g p u 3 4:=by
 obtain⟨o,d,z,A⟩:=Qm.1 w;obtain⟨a,n,m,f,y,em,l,_,t⟩:=r.toTld.ob (k:=1) Z0 d;have q:o.gone=xw:=(r.ak 1 Z0).cw o d;obtain⟨j,h⟩:∃j,i=a+1+j:=⟨i-a-1,Z0⟩;have:=r.ptr 1 Z0 o d q j Z0 u (by rw[f,ZhA,<-h];exact x);unfold Wi at this;rw[Zhs Z0,Zht ⟨rfl,by rw[f,ZhA,<-h];omega⟩]at this;exact this
def Zaf{l:Z8}{i:Nat}{u:Int}(h:l[i]?=J u):l.set i u=l:=by
 apply ZiO;intro j;rw[List.getElem?_set];by_cases e:i=j;subst e;rw[Zht rfl,h,Zht (Zhj.1 h).1];rw[Zhs e]
def Z1a(W:Z3)(B:Z4)(b:Nat)(n:∀c,xz (xj W)<=c->B c)(g:Hp)(x:Z5)(S:NowI B W b g x)(h:g.ok){p:Pts}(r:Rt g p)(hc:g.Y=xk):
  Calls xP 52 #[.bool<|WY p.H g.aa,.pointer<|J ⟨b,0,U⟩] W (Km B W b<|WL g):=by
 obtain⟨i,a⟩:=Zhy r.gi;have d:i<I g.H:=by have:=r.lj hc;omega
 have w:=r.mi;obtain⟨u,j⟩:∃u,g.H[i]?=J u:=⟨_,Zhi d⟩;have o:(g.H[g.aa.toNat]?).getD 0=u:=by rw[a,ZhA,j];rfl
 cases q:WY p.H g.aa with
 |false=>
  have l:WL g=X0 {g with aa:=(i:Int)+1}:=by
   unfold WL;rw[w,Zhs (by rw[q];simp),a]
  rw[l];exact EK W B b g x S h i a d xw<|.inl rfl
 |true=>
  have l:WL g=X0 {(fwd g u).2.1 with H:=(fwd g u).2.1.H.set i (fwd g u).1,aa:=(i:Int)+1}:=by
   unfold WL;rw[w,Zht q,o,a,ZhA]
  by_cases k:u=0;subst k;have:WL g=X0 {g with aa:=(i:Int)+1}:=by
   rw[l,Hl r.bd];simp only;rw[Zaf j]
  rw[this];exact EK W B b g x S h i a d xk<|.inr j;obtain⟨v,g1,y,f⟩:=r.toBody.fm r.dy<|Za5 r a (by rw[<-a];exact q) j;rw[l,f.fwd];obtain⟨z,t⟩:=f.ext.H;exact Z1b W B b n g x S h i a d j k f.fwd (by rw[t,Zi3];omega) (by rw[f.ext.aa];exact a)
section
def EW{α:Type}(F:Fence)(n:Nat)(P:Z6)(g:Nat)(lb:Zb)(d:α->Array Value)(Kp:World->World->Prop)(o:List α->α->World->Prop)(S:List α->World->Prop)(N:Nat)(k:List α->World->Prop)(w:Z3):Prop:=
 ∀(l:Nat) (p h:List α->World->Prop) (W:Z3),Below (xz<|xj w) w W->(∀pre W,p pre W->k pre W)->AbidesFrom (xz<|xj W) p->AbidesFrom (xz<|xj W) h->
  (∀pre x f,p pre f->o pre x f->I pre<N->YieldAt F (n-1) P l (d x) f λe a=>
   (e=.returned (.bool xk)/\p (pre++[x]) a/\Kp f a)\/(e=.returned (.bool xw)/\h (pre++[x]) a))->
  p [] W->
  CallsIn F n P g (#[.func (.yield l) #[] #[]]++lb) W λe a=>(∃v,e=.returned v)/\((∃j,S j a/\p j a)\/(∃pre,h pre a))
variable {F:Fence}{n:Nat}{P:Z6}
def ZbE{α:Type}{g:Operand}{ps:Array Tmp}{assign body:Code}{Q:Zh}{a:Act}{w:Z3}
  (d7:F.round=U) (h1:1<=n) {gf:Nat} {lb:Zb} (hg:a.eval g=.func (.func gf) #[] lb) (b3:F.fn gf) (eg:∀args w,(callFunc gf args).run P w=.ok (.enter gf args) w)
  {M:α->Array Value} {Kp:World->World->Prop} {Px:List α->α->World->Prop} {S:List α->World->Prop} {N:Nat} {Ex:List α->World->Prop} {w0:Z3} (b1:EW F (n-1) P gf lb M Kp Px S N Ex w0)
  (a5:∀ {A B C:Z3},Kp A B->Kp B C->Kp A C) (a4:∀(W:Z3) (l:Nat) (o o':Obj),xz (xj w)<=l->W.heap[l]?=J o->o.isCells=xw->o.isWalk=xw->Kp W (W.putObj l o')) (a6:Below (xz<|xj w0) w0 w) (d5:∀x,(M x).size=ps.size)
  (I:List α->World->Prop) (Ix:Code->List α->World->Prop) (hI:OwnFrom (xz<|xj w) I) (b2:∀pre W,I pre W->Ex pre W) (X:∀c,OwnFrom (xz<|xj w)<|Ix c) (b7:∀pre x,OwnFrom (xz<|xj w)<|λ(_:Unit) W=>Px pre x W) (hS:OwnFrom (xz<|xj w) S) (h0:I [] w) (a₁:α->Act)
  (Y:∀(l:Nat) (x:α) (W:Z3) (K:Zq),K (a₁ x) W->
   assign.wpIn (F.inRound l) (n-1-1) P (Exit.then K<|λ_ _ _=>False) {tmps:=(ps.zip<|M x).foldl (λt (p,v)=>t.setIfInBounds p v) a.tmps,defers:=[]} W)
  (a0:∀(l:Nat) (pre:List α) (x:α) (W:Z3),I pre W->Px pre x W->xq pre<N->body.wpIn (F.inRound l) (n-1-1) P (ownPostG (xz<|xj w) Kp I Ix (pre++[x]) W) (a₁ x) W)
  (a1:∀(D:Nat) (xs:List α) (W:Z3),xz (xj w)<=D->S xs W->I xs W->W.heap[D]?=J (.deferred<|J [])->Q .normal {a with defers:= {target:=.collected D,args:=#[]}::a.defers} W)
  (a2:∀(D:Nat) (c:Code) (pre:List α) (W:Z3),xz (xj w)<=D->Ix c pre W->W.heap[D]?=J (.deferred<|J [])->c.wpIn F n P Q {a with defers:= {target:=.collected D,args:=#[]}::a.defers} W):
  (Code.rangeFunc g ps assign body).wpIn F n P Q a w:=by
 refine wpIn_rangeFunc λfn c0=> ?_;rw[d7];obtain⟨f,j⟩:∃f:LoopState->Option Code->Loop,f=λst pe=> {state:=st,pending:=pe,fn,tmps:=a.tmps,params:=ps,assign,body,defers:=xz (xj w)}:=⟨_,rfl⟩;obtain⟨T,O⟩:∃T,(w.alloc<|.deferred<|J []).alloc (.loop<|f .ready U)=T:=⟨_,rfl⟩;have b6:T.heap[xz (xj w)+1]?=J (.loop<|f .ready U):=by
  have:=Ziz (w.alloc<|.deferred<|J [])<|.loop<|f .ready U;rw[Zjp]at this;rw[<-O];exact this
 have b5:T.heap[xz<|xj w]?=J (.deferred<|J []):=by
  rw[<-O];exact(Zhz _ _ _ Z1).trans (Ziz w _)
 have b4:I [] T:=by rw[<-O];exact hI.alloc _<|hI.alloc _ h0
 have b9:Below (xz<|xj w0) w0 T:=by
  rw[<-O];exact a6.trans<|(((ZhH _ w).alloc (Zhm _) _).alloc Z1 _).mono a6.size
 refine⟨xz (xj w)+1,[{target:=.collected<|xz<|xj w,args:=#[]}],T,{target:=.fn (.func gf) lb,args:=#[.func (.yield<|xz (xj w)+1) #[] #[]]},T,gf,
  #[.func (.yield<|xz (xj w)+1) #[] #[]]++lb,T,?_,?_,?_,?_,λ_=>h1,?_⟩
 rw[<-O,j];exact run_enterLoop_outer _ _ _ _ _
 .simp only[resolve,hg];simp[go_sem]
 intro f' a7;simp[Target.leads]at a7;subst a7;exact b3
 .simp[invoke,go_sem,eg]
 have b0:∀ {A B:Z3} {row:Option Nat},(∀r,row=J r->xz (xj T)<=r/\∃o:Obj,A.heap[r]?=J o/\o.isWalk=xk)->(∀r,row=J r->xz (xj w)<=r/\∃o:Obj,A.heap[r]?=J o/\o.isCells=xw):=
  λu r e=>by obtain⟨hB,o,ho,hw⟩:=u r e;exact⟨by rw[<-O]at hB;simp at hB;omega,o,ho,Obj.not_cells_of_walk hw⟩
 refine(b1 (xz (xj w)+1)
  (λpre W=>I pre W/\W.heap[xz (xj w)+1]?=J (.loop<|f .ready U)/\W.heap[xz<|xj w]?=J (.deferred<|J []))
  (λpre W=>∃c,Ix c pre W/\W.heap[xz (xj w)+1]?=J (.loop<|f .done<|J c)/\W.heap[xz<|xj w]?=J (.deferred<|J []))
  T b9 (λpre W h=>b2 pre W h.1)
  (λs A B row hs z u=>⟨hI s A B row hs.1 z<|b0 (B:=B) u,(Zl9 z (λr e=>(u r e).2) hs.2.1 rfl).trans hs.2.1,(Zl9 z (λr e=>(u r e).2) hs.2.2 rfl).trans hs.2.2⟩)
  (λs A B row hs z u=>by
   obtain⟨c,hc,y,Z⟩:=hs;exact⟨c,X c s A B row hc z<|b0 (B:=B) u,(Zl9 z (λr e=>(u r e).2) y rfl).trans y,(Zl9 z (λr e=>(u r e).2) Z rfl).trans Z⟩)
  ?_ ⟨b4,b6,b5⟩).mono ?_
 rintro pre x W ⟨hi,y,Z⟩ d6 a9;have d0:xz (xj w)+1<xz (xj W):=(Zho.1 y).1;have hy:=run_yield (P:=P) (args:=M x) y (by rw[j];exact d5 x);rw[j]at hy;refine⟨fn,_,assign,body,hy,roundIn_of_wpIn c0<|Y _ x W _ ⟨_,run_beginRound y (by rw[j]),?_⟩⟩;have c8:(W.putObj (xz (xj w)+1)<|.loop {f .ready U with state:=.busy}).heap[xz (xj w)+1]?=J (.loop {f .ready U with state:=.busy}):=ZjO d0;have c1:(W.putObj (xz (xj w)+1)<|.loop {f .ready U with state:=.busy}).heap[xz<|xj w]?=J (.deferred<|J []):=(ZhZ Z0).trans Z;have d8:Kp W<|W.putObj (xz (xj w)+1)<|.loop {f .ready U with state:=.busy}:=a4 _ _ _ _ Z0 y rfl rfl;refine wpIn_mono (a0 _ pre x _ (hI.putObj _ hi Z0 y rfl) ((b7 pre x).putObj (s:=()) _ d6 Z0 y rfl) a9) ?_
 have fin:∀(d:Option Code) (R:Z3),KeepsFrom (xz<|xj w) (W.putObj (xz (xj w)+1)<|.loop {f .ready U with state:=.busy}) R->
   (Instr.endRound (xz (xj w)+1) d).run P R=.ok (.bool d.isNone) (R.putObj (xz (xj w)+1)<|.loop<|f (if d.isNone then .ready else .done) d)/\
   R.heap[xz (xj w)+1]?=J (.loop {f .ready U with state:=.busy})/\
   (R.putObj (xz (xj w)+1)<|.loop<|f (if d.isNone then .ready else .done) d).heap[xz (xj w)+1]?=J (.loop<|f (if d.isNone then .ready else .done) d)/\
   (R.putObj (xz (xj w)+1)<|.loop<|f (if d.isNone then .ready else .done) d).heap[xz<|xj w]?=J (.deferred<|J []):=λd R q=>by
  have k:=q.same _ _ Z0 c8 rfl;have:=run_endRound (P:=P) d k;rw[j]at this⊢;exact⟨this,by rw[j]at k;exact k,ZjO (Zho.1 k).1,(ZhZ Z0).trans<|q.same _ _ (Zhm _) c1 rfl⟩
 rintro e a3 R hp;cases e with
 |normal=>
  obtain⟨q,a8,G⟩:=hp;obtain⟨u,k,L,H⟩:=fin U R q;exact⟨_,_,u,.inl ⟨rfl,⟨hI.putObj _ G Z0 k rfl,L,H⟩,a5 (a5 d8 a8)<|a4 _ _ _ _ Z0 k rfl rfl⟩⟩
 |ret=>
  obtain⟨q,G⟩:=hp;obtain⟨u,k,L,H⟩:=fin (J .ret) R q;exact⟨_,_,u,.inr ⟨rfl,.ret,(X _).putObj _ G Z0 k rfl,L,H⟩⟩
 |exit id=>
  obtain⟨q,G⟩:=hp;obtain⟨u,k,L,H⟩:=fin (J<|.exit id) R q;exact⟨_,_,u,.inr ⟨rfl,.exit id,(X _).putObj _ G Z0 k rfl,L,H⟩⟩
 |goto t=>
  obtain⟨q,G⟩:=hp;obtain⟨u,k,L,H⟩:=fin (J<|.goto t) R q;exact⟨_,_,u,.inr ⟨rfl,.goto t,(X _).putObj _ G Z0 k rfl,L,H⟩⟩
 |panic ch=>exact hp.elim
 |outgrown=>exact hp.elim
 rintro e W2 ⟨⟨v,rfl⟩,(⟨xs,b8,hi,y,Z⟩|⟨pre,c,hi,y,Z⟩)⟩;exact⟨U,_,by have:=run_endLoop (P:=P) y (by rw[j];simp);rw[j]at this;exact this,a1 _ xs _ (Zhm _) (hS.putObj _ b8 Z0 y rfl) (hI.putObj _ hi Z0 y rfl)<|(ZhZ Z0).trans Z⟩;exact⟨J c,_,by have:=run_endLoop (P:=P) y (by rw[j];simp);rw[j]at this;exact this,a2 _ c pre _ (Zhm _) ((X c).putObj _ hi Z0 y rfl)<|(ZhZ Z0).trans Z⟩
end
def Z8X{W:Z3}{G G':Z4}{l j:Z8}{y:Ze}(h:Rd W G (.sl<|l.map vu) y)(h':Rd W G' (.sl<|j.map vu) y):l=j:=by
 obtain⟨a,c,e⟩:=Rd.bu h;obtain⟨x,A,n⟩:=Rd.bu h';have C:I l=I j:=by rw[e]at n;simp at n;exact n.2.1
 apply ZiO;intro k;cases p:l[k]? with
 |none=>rw[Zjz]at p;rw[Zib Z0]
 |some u=>
  have B:=(Zhj.1 p).1;obtain⟨r,g⟩:∃r,j[k]?=J r:=⟨_,Zhi Z0⟩;obtain⟨b,o,cap,w,t,_⟩:=JN h p;obtain⟨z,D,q,d,f,_⟩:=JN h' g;rw[w]at d;simp at d;obtain⟨⟨rfl,rfl⟩,_,_⟩:=d;rw[t]at f;cases f;exact g.symm
def Z8R{W W':Z3}{B:Z4}{b:Nat}{row:Option Nat}{l:Z8}{y:Ze}(h:Rd W (λc=>B c/\c<xz (xj W)/\c≠b) (.sl<|l.map vu) y)(j:W.grownBy W' row)(F:∀r,row=J r->∃o:Obj,W.heap[r]?=J o/\o.isCells=xw):
  Rd W' (λc=>B c/\c<xz (xj W')/\c≠b) (.sl<|l.map vu) y:=by
 generalize A:l.map vu=L at h⊢;cases h with
 |nil a cap f=>exact .nil a cap f
 |sl _ d o cap k vs p q g t w x=>
  refine .sl _ d o cap k vs p q ⟨g.1,Zhr g.2.1 j.size,g.2.2⟩ t (λi C=> ?_) (λi c f=> ?_);have f:=w i C;rw[<-f];refine Zie (a:=⟨d,o+i,U⟩) (j.block d g.2.1 λe=> ?_);obtain⟨G,D,H⟩:=F d e.symm;unfold World.cell? at f;rw[D]at f;cases G<;>simp_all [Obj.isCells];have z:=x i c f;rw[<-A,yr,ZhG]at f;cases n:l[i]? with
  |none=>rw[n]at f;cases f
  |some u=>
   rw[n]at f;cases f;rw[Sw z];exact .int _ _
def NowI.dx{B:Z4}{W W':Z3}{b:Nat}{g:Hp}{x:Z5}{row:Option Nat}(S:NowI B W b g x)(a:W.grownBy W' row)(f:∀r,row=J r->∃o:Obj,W.heap[r]?=J o/\o.isCells=xw):NowI B W' b g x:=
 ⟨S.le,(a.block b (Y7 S.nb) λe=>by obtain⟨o,d,k⟩:=f b e.symm;rw[S.nb]at d;cases d;cases k).trans S.nb,λj h=>Z8R (S.rd j h) a f⟩
def NowI.gq{B B':Z4}{W:Z3}{b:Nat}{g g':Hp}{x h:Z5}(S:NowI B W b g x)(a:NowI B' W b g' h):g'=g:=by
 have e:=S.nb.symm.trans a.nb;unfold Yq at e;simp at e;obtain⟨n,o,p,r,t,u,w,y,z,A⟩:=e;have q:∀j,j<5->Zu g' j=Zu g j:=λj f=>by
  have d:=S.rd j f;have l:=a.rd j f;have k:x j=h j:=by
   have:j=0\/j=1\/j=2\/j=3\/j=4:=Z0;obtain rfl|rfl|rfl|rfl|rfl:=this<;>assumption
  rw[k]at d;exact Z8X l d
 have C:=q 0 Z0;have D:=q 1 Z0;have F:=q 2 Z0;have G:=q 3 Z0;have H:=q 4 Z0;cases g;cases g';simp[Zu]at*;simp_all
def InBox(B:Z4)(b:Nat)(p:Pts)(W:Z3):Prop:=∃g x,NowI B W b g x/\g.ok/\Rt g p
def InBox.dx{B:Z4}{W W':Z3}{b:Nat}{p:Pts}{row:Option Nat}(S:InBox B b p W)(h:W.grownBy W' row)(j:∀r,row=J r->∃o:Obj,W.heap[r]?=J o/\o.isCells=xw):InBox B b p W':=by
 obtain⟨g,x,a,d,f⟩:=S;exact⟨g,x,a.dx h j,d,f⟩
def InBox.H{B B':Z4}{W:Z3}{b:Nat}{p f:Pts}(S:InBox B b p W)(h:InBox B' b f W):f.H=p.H:=by
 obtain⟨g,x,j,o,l⟩:=S;obtain⟨n,q,a,k,d⟩:=h;have:=j.gq a;subst this;exact Tiles.tz (l.ak 1 Z0)<|d.ak 1 Z0
structure KpN (B:Nat->Prop) (b kb:Nat) (A C:World):Prop where
 size:xz (xj A)<=xz (xj C)
 same:∀(c:Nat) (o:Obj),A.heap[c]?=J o->o.isCells=xk->c≠b->c≠kb->C.heap[c]?=J o
 H:∀p,InBox B b p A->∃q r,InBox B b q C/\q.H=p.H++r
theorem KpN.trans{B:Z4}{b kb:Nat}{X Y Z:Z3}(h:KpN B b kb X Y)(k:KpN B b kb Y Z):KpN B b kb X Z:=
 ⟨ZhU h.size k.size,λc o d a f g=>k.same c o (h.same c o d a f g) a f g,λp j=>by
  obtain⟨q,r,d,a⟩:=h.H p j;obtain⟨s,t,k1,l⟩:=k.H q d;exact⟨s,r++t,k1,by rw[l,a,Zi7]⟩⟩
theorem KpN.put{B:Z4}{b kb:Nat}{W:Z3}{l:Nat}{o:Obj}(j:Obj)(g:W.heap[l]?=J o)(h:o.isCells=xw):KpN B b kb W<|W.putObj l j:=by
 have f:=Zkb W l j;have n:∀r,J l=J r->∃o:Obj,W.heap[r]?=J o/\o.isCells=xw:=λr e=>by cases e;exact⟨o,g,h⟩
 refine⟨f.size,λc q a d _ _=>(ZhZ<|λe=> ?_).trans a,λp k=>⟨p,[],k.dx f n,Z1⟩⟩;subst e;rw[g]at a;cases a;rw[h]at d;cases d
def Z5M{ws:Z8}{l:Zi}(t:Tiles ws xw 0 l){o:Ob}(a:o∈l){i:Int}(g:o.Z<=i)(h2:i<=o.Z+o.size):WY l i=(decide (o.Z<i)&&decide (i<=o.Z+o.M)):=by
 rw[ZkI,Qm];simp only[Zhl,ZhS];constructor;rintro⟨x,d,k1,f⟩;have j:=Yy.1 (t.ba x d).1.shape;obtain e|e|e:=t.apart x d o a;subst e;exact⟨k1,f⟩;omega;omega;exactλh=>⟨o,a,h⟩
def BE(x:Nat×Bool):Array Value:=#[.int .i64 (x.1:Nat),.bool x.2]
def ER(B:Z4)(b:Nat)(pre:List<|Nat×Bool)(x:Nat×Bool)(W:Z3):Prop:=∃p,InBox B b p W/\x=(I pre,WY p.H<|I pre)
def SN(B:Z4)(b:Nat)(xs:List<|Nat×Bool)(W:Z3):Prop:=∃g x,NowI B W b g x/\I g.H<=I xs
structure KnI (B:Nat->Prop) (b bk:Nat) (q:Pts) (W:World):Prop where
 bx:W.heap[bk]?=J (.cells #[.pointer<|J ⟨b,0,U⟩] 117 (0,0))
 ny:InBox B b q W
def KnI.grown{B:Z4}{b bk:Nat}{q:Pts}{W W':Z3}(h:KnI B b bk q W)(a:W.grownBy W' U):KnI B b bk q W':=
 ⟨(a.block _ (Y7 h.bx) Z1).trans h.bx,h.ny.dx a<|λr e=>by cases e⟩
end Vm
end
section
namespace Vm
open Go Go.Proofs Go.RowKit Go.Shelf
def Z5S(n:Nat){w:Z3}{B:Z4}{b bk kb:Nat}{p0:Pts}(hI:KnI B b bk p0 w)(a7:bk≠b)(K:bk≠kb)(hb:b<xz (xj w))(f4:kb<xz (xj w)):
  EW Fence.wide n xP 78 #[.pointer<|J ⟨bk,0,U⟩] BE (KpN B b kb) (ER B b) (SN B b) 1000001 (λ_ _=>True) w:=by
 intro l h Jx W hW _ hJ f2 hY h0;refine callsIn_of_wp Fm rfl trivial ?_ rfl;simp only[Try.ntmps78,ZiP,ZiD,Ziu,Nat.reduceAdd,Nat.reduceSub,Zja,Zjb,ZjF,Zjh,Zic,ZiC];have d8:=Zhp<|hI.grown<|Tc hW U;have f1:=hW.size;have d9:=Zhp h0;have e6:∀ {A:Z3},xz (xj w)<=xz (xj A)->xz (xj A)≠b/\xz (xj A)≠kb:=λh=>⟨Z0,Z0⟩;clear h0;gi_wp2
 gi_loopw [3] (λp wr=>∃(a:Nat),p=.int .i64 a/\Hid (∃(pre:List<|Nat×Bool) (q:Pts) (n:Nat),h pre wr/\KnI B b bk q wr/\xz (xj W)<=xz (xj wr)/\n<=I q.H/\a=WV (q.H.take n)/\I pre=a))
  (λp _=>1000001- (intOf p).toNat)
 case atStart=>exact⟨0,rfl,Zhp ⟨[],p0,0,d9.out,d8.out,Zhm _,Z0,rfl,rfl⟩⟩
 case round=>
  obtain⟨a,rfl,HI⟩:=hrel;obtain⟨pre,q,n1,X,Y,b8,e7,a6,b7⟩:=HI.out;obtain⟨g,x,S,b2,r⟩:=Y.ny;obtain⟨sa,sc,a4⟩:=Rd.bu<|S.rd 0 Z0;rw[ZhN,show I (Zu g 0)=(I g.H) from rfl]at a4;have N:=S.nb;unfold Yq at N;rw[a4]at N;have y0:wr.cell? ⟨bk,0,U⟩=J (.pointer<|J ⟨b,0,U⟩):=by rw[Zhv _ _ _ _ _ _ Y.bx];rfl
  have yb:∀j,wr.cell? ⟨b,j,U⟩=(#[.int .u64 g.base,.int .i64 g.cap,.int .i64 g.to,.bool g.Y,.int .i64 g.aa,.slice sa (I g.H) sc,x 1,x 2,x 3,x 4]:Array Value)[j]? :=λj=>Zhv _ _ _ _ _ _ N;have t1:=r.ak 1 Z0;simp only[Vo,Pts.ml]at t1;have b5:=b2.H;have c8:=t1.sum<|Zis _;by_cases f5:a<I g.H
  .have b6:((a:Int)< (I g.H:Int))=True:=ZjW Z0;obtain⟨o,ho⟩:∃o,q.H[n1]?=J o:=by
    refine⟨_,Zhi<|Nat.lt_of_le_of_ne e7 λe=> ?_⟩;rw[e,Zj9]at a6;omega
   have a0:=t1.place ho;rw[Zi5,<-a6]at a0;have a1:=Zhq ho;have a3:=(t1.ba o a1).1;have c0:=Yy.1 a3.shape;have M:=t1.cw o a1;have L:=a3.au;obtain⟨u,hu,P⟩:=a3.word;rw[M,Zhs Z1]at P;replace P:=P.2.1;rw[a0,ZhA]at hu;have d5:=b2.gm u<|Zhq hu;obtain⟨gb,go,cap,a5,e1,e2⟩:=JN (S.rd 0 Z0) hu;rw[a4]at a5;rw[show I (Zu g 0)=(I g.H) from rfl]at a5;simp only[Value.slice.injEq,true_and]at a5;obtain⟨rfl,rfl⟩:=a5;have O:=Ka d5;rw[P]at O;obtain⟨m,hm⟩:∃m:Nat,o.size=m:=⟨o.size.toNat,Z0⟩;obtain⟨pt,a8⟩:∃pt:Nat,o.M=pt:=⟨o.M.toNat,Z0⟩;rw[hm]at O L c0;rw[a8]at O c0;have e0:=Zhp O;have HO:=Zhp<|And.intro a1<|And.intro a0<|And.intro hm<|And.intro a8<|And.intro t1<|And.intro ho<|And.intro b7 b8;have b0:=Zhp L;have b1:=Zhp<|And.intro X Y;have d7:=Zhp b5;have q1:IntKind.i64.wrap ((m:Int)+1)=((m+1:Nat):Int):=Zgx;clear O N t1 a1 a0 P hu d5 a4 e2 hm a8 L ho a3 M a6 c8 S r X Y b7 b8 b5;gi_wp2
   refine⟨trivial,λh=>ZgA,(Zjs.2<|e0.out _).mono ?_⟩;rintro e w1 ⟨rfl,b3⟩;have a9:=Zhp b3;clear b3;gi_wp2
   have f7:=a9.out.size;have Z:wr.grownBy (w1.alloc<|.cells #[.int .i64 m,.int .i64 pt] 39) U:=Sf (Tc a9.out U)<|ZiH _ _ _;have HA:=Zhp<|And.intro (hJ _ _ _ _ b1.out.1 Z<|λr e=>by cases e)<|And.intro (b1.out.2.grown Z)<|And.intro (ZhT w1<|.cells #[.int .i64 m,.int .i64 pt] 39) Z.size;have hT:xz (xj W)<=xz (xj w1):=by have:=HO.out.2.2.2.2.2.2.2;omega
   have C:=e6 (A:=w1) Z0;have f3:xz (xj W)<=xz (xj<|w1.alloc<|.cells #[.int .i64 m,.int .i64 pt] 39):=Zgn;clear Z;generalize f6:w1.alloc (.cells #[.int .i64 m,.int .i64 pt] 39)=w2 at*;have d6:=b0.out;have f0:=d7.out;gi_loopw [30] (λiv wi=>∃i:Nat,iv=.int .i64 i/\Hid (∃(f:List<|Nat×Bool) (Q:Pts) (r':Zi),h f wi/\KnI B b bk Q wi/\xz (xj w2)<=xz (xj wi)/\Q.H=q.H++r'/\I f=a+i/\i<=m+1/\wi.heap[xz<|xj w1]?=J (.cells #[.int .i64 m,.int .i64 pt] 39 (0,0)))) (λiv _=>m+1- (intOf iv).toNat)
   case atStart=>exact⟨0,rfl,Zhp ⟨pre,q,[],HA.out.1,HA.out.2.1,Zhm _,Z1,by have:=HO.out.2.2.2.2.2.2.1;omega,Z0,HA.out.2.2.1⟩⟩
   case round=>
    obtain⟨i,rfl,HJ⟩:=hrel;obtain⟨f,Q,r',H,z,b9,F,a2,e3,D⟩:=HJ.out;have d0:wr.cell? ⟨xz<|xj w1,0,U⟩=J (.int .i64 m):=by rw[Zhv _ _ _ _ _ _ D];rfl
    have d1:wr.cell? ⟨xz<|xj w1,1,U⟩=J (.int .i64 pt):=by rw[Zhv _ _ _ _ _ _ D];rfl
    by_cases e5:i=m+1
    .subst e5;have e4:(((m+1:Nat):Int)< (m:Int)+1)=False:=Zk0 Z0;have q2:IntKind.i64.wrap ((a:Int)+((m:Int)+1))=((a+(m+1):Nat):Int):=Zgx;clear z D H;gi_wp2
     obtain⟨k1,k2,k3,k4,k5,k6,k7⟩:=HO.out;obtain⟨f,Q,r',H,z,b9,F,a2,e3,D⟩:=HJ.out;have b4:n1+1<=I q.H:=by have:=(Zhj.1 k6).1;omega
     refine⟨⟨a+(m+1),Z1,Zhp ⟨f,Q,n1+1,H,z,Z0,by rw[F,Zi3];omega,?_,Z0⟩⟩,by simp[intOf];omega⟩;rw[F,ZkC b4,Zb3 k6,k3];have:=k5.place k6;omega
    .have e4:((i:Int)< (m:Int)+1)=True:=ZjW Z0;obtain⟨k1,k2,k3,k4,k5,k6,k7,k8⟩:=HO.out;have hx:ER B b f (a+i,WY Q.H ((a+i:Nat):Int)) wr:=⟨Q,z.ny,by rw[a2]⟩;obtain⟨fn,e9,assign,e8,hy,hR⟩:=hY f _ wr H hx Z0;have hq:WY Q.H ((a+i:Nat):Int)=(decide (0<i)&&decide (i<=pt)):=by
      obtain⟨g',x',_,_,r2⟩:=z.ny;have t2:=r2.ak 1 Z0;simp only[Vo,Pts.ml]at t2;rw[Z5M t2 (o:=o) (by rw[F];exact ZiA _ k1) Z0 Z0,k2,k4];congr 1;exact decide_eq_decide.2 Z0;exact decide_eq_decide.2 Z0
     unfold BE at hy;simp only[hq]at hy;have HQ:=Zhp<|And.intro hq<|And.intro hR<|And.intro b9<|And.intro F<|And.intro a2<|And.intro D z;have q2:IntKind.i64.wrap ((a:Int)+(i:Int))=((a+i:Nat):Int):=Zgx;have q3:IntKind.i64.wrap ((i:Int)+1)=((i+1:Nat):Int):=Zgx;clear hx H z hq hR D k1 k2 k3 k4 k5 k6 k7 k8 F a2;have h3:(i=0/\(0<i)=False)\/(((0:Int)< (i:Int))=True/\(0<i)=True/\((i:Int)<=(pt:Int))=True/\(i<=pt)=True)\/(((0:Int)< (i:Int))=True/\(0<i)=True/\((i:Int)<=(pt:Int))=False/\(i<=pt)=False):=by
      by_cases h0:i=0;exact .inl ⟨h0,Zk0 Z0⟩;by_cases h1:i<=pt;exact .inr<|.inl ⟨ZjW Z0,ZjW Z0,ZjW Z0,ZjW h1⟩;exact .inr<|.inr ⟨ZjW Z0,ZjW Z0,Zk0 Z0,Zk0 h1⟩
     obtain⟨h0,h1⟩|⟨h0,h1,h2,h3⟩|⟨h0,h1,h2,h3⟩:=h3
     .subst h0;simp only[h1,ZlB,ZkX,ZlC,Zk9,Zks,Zkt,ZiZ,Zll]at hy;gi_wp2
      refine⟨λh=>ZgA,HQ.out.2.1.mono ?_⟩;rintro e W3 (⟨rfl,t,y⟩|⟨rfl,k⟩)
      .have d:=Zhp<|And.intro t y;clear t y;gi_wp2
       obtain⟨c1,c2,c3,c4,c5,c6,c7⟩:=HQ.out;obtain⟨R,T,i1,i2⟩:=d.out.2.H Q c7.ny;refine⟨⟨1,Z1,Zhp ⟨f++[_],R,r'++T,d.out.1,⟨d.out.2.same _ _ c7.bx rfl a7 K,i1⟩,ZhU c3 d.out.2.size,by rw[i2,c4,Zi7],by simp<;>omega,Z0,d.out.2.same _ _ c6 rfl C.1 C.2⟩⟩,by simp[intOf]<;>omega⟩
      .have G:=Zhp k;clear k;gi_wp2
       refine Zi8 (results_none rfl _ _ _) rfl ?_;exact⟨⟨_,rfl⟩,.inr ⟨_,G.out⟩⟩
     .simp only[h1,h3,ZlB,ZkX,ZlC,Zk9,Zks,Zkt,ZiZ,Zll]at hy;gi_wp2
      refine⟨λh=>ZgA,HQ.out.2.1.mono ?_⟩;rintro e W3 (⟨rfl,t,y⟩|⟨rfl,k⟩)
      .have d:=Zhp<|And.intro t y;clear t y;gi_wp2
       obtain⟨c1,c2,c3,c4,c5,c6,c7⟩:=HQ.out;obtain⟨R,T,i1,i2⟩:=d.out.2.H Q c7.ny;refine⟨⟨i+1,Z1,Zhp ⟨f++[_],R,r'++T,d.out.1,⟨d.out.2.same _ _ c7.bx rfl a7 K,i1⟩,ZhU c3 d.out.2.size,by rw[i2,c4,Zi7],by simp<;>omega,Z0,d.out.2.same _ _ c6 rfl C.1 C.2⟩⟩,by simp[intOf];omega⟩
      .have G:=Zhp k;clear k;gi_wp2
       refine Zi8 (results_none rfl _ _ _) rfl ?_;exact⟨⟨_,rfl⟩,.inr ⟨_,G.out⟩⟩
     .simp only[h1,h3,ZlB,ZkX,ZlC,Zk9,Zks,Zkt,ZiZ,Zll]at hy;gi_wp2
      refine⟨λh=>ZgA,HQ.out.2.1.mono ?_⟩;rintro e W3 (⟨rfl,t,y⟩|⟨rfl,k⟩)
      .have d:=Zhp<|And.intro t y;clear t y;gi_wp2
       obtain⟨c1,c2,c3,c4,c5,c6,c7⟩:=HQ.out;obtain⟨R,T,i1,i2⟩:=d.out.2.H Q c7.ny;refine⟨⟨i+1,Z1,Zhp ⟨f++[_],R,r'++T,d.out.1,⟨d.out.2.same _ _ c7.bx rfl a7 K,i1⟩,ZhU c3 d.out.2.size,by rw[i2,c4,Zi7],by simp<;>omega,Z0,d.out.2.same _ _ c6 rfl C.1 C.2⟩⟩,by simp[intOf];omega⟩
      .have G:=Zhp k;clear k;gi_wp2
       refine Zi8 (results_none rfl _ _ _) rfl ?_;exact⟨⟨_,rfl⟩,.inr ⟨_,G.out⟩⟩
  .have b6:((a:Int)< (I g.H:Int))=False:=Zk0 Z0;have HE:Hid<|h pre wr/\SN B b pre wr:=Zhp ⟨X,g,x,S,Z0⟩;clear N X S;gi_wp2
   go_end0
   exact⟨⟨_,rfl⟩,.inl ⟨pre,HE.out.2,HE.out.1⟩⟩
end Vm
end
section
namespace Vm
open Go Go.Proofs Go.RowKit
def Ba{g:Hp}{x:Z5}(h:∀j,j<5->∃a q,x j=.slice a (I<|Zu g j) q):∃(a:Nat->Option Addr) (q:Zk),Yq g x=#[.int .u64 g.base,.int .i64 g.cap,.int .i64 g.to,.bool g.Y,.int .i64 g.aa,.slice (a 0) (I<|Zu g 0)<|q 0,.slice (a 1) (I<|Zu g 1)<|q 1,.slice (a 2) (I<|Zu g 2)<|q 2,.slice (a 3) (I<|Zu g 3)<|q 3,.slice (a 4) (I<|Zu g 4)<|q 4]/\∀j,j<5->x j=.slice (a j) (I<|Zu g j) (q j):=by
 have:∀j,∃p:Option Addr×Nat,j<5->x j=.slice p.1 (I<|Zu g j) p.2:=λj=>by
  by_cases d:j<5;obtain⟨a,q,e⟩:=h j d;exact⟨(a,q),λ_=>e⟩;exact⟨(U,0),λh=>absurd h d⟩
 obtain⟨f,e⟩:=ZjJ this;exact⟨λj=>(f j).1,λj=>(f j).2,by simp[Yq,e],e⟩
def Z0Y(w:Z3)(G:Z4)(hG:∀b,G b->b<xz (xj w))(h:Hp)(hh:h.ok)(Q:Z5)(hs:∀j,j<5->Rd w G (.sl<|(Zu h j).map vu) (Q j)){p:Pts}(r:Rt h p)(hc:h.Y=xw):
  Calls xP 21 #[ZC h Q] w (zy w (YT h,0)):=by
 have hR:∀W,Below (xz<|xj w) w W->Calls xP 13 #[ZC h Q] W λe w'=>e=.returned (.bool<|Yv h)/\Below (xz<|xj W) W w':=λW B=>
  LT (w:=W) (G:=G) (x:=Q) hh (λb X=>Zhr (hG b X) B.size) (λj n=>(hs j n).keep (λb X=>B.block b<|hG b X) λ_ q=>q)
 rw[r.right]at hR;unfold ZC at hR;rw[hc]at hR;have HR:=Zhp hR;have HS:=Zhp hs;have HH:=Zhp hh;have d5:=Zhp r;have M:=Zhp hc;have h0:h.to=0\/h.to=1:=by have:=XO.1 r.bd;exact this.2.2.2.2.1
 have l1:=Zy (1-h.to) Z0 Z0;clear hR hs hh r h0;unfold ZC;rw[hc];clear hc;go_enter zI,Try.ntmps21;go_wp2;refine Za8 0 (λa W=>∃(c k:Nat) (x:Z5),a.defers=[]/\a.tmps.size=72/\a.tmps.getD 2 xy=.pointer (J ⟨xz (xj w)+1,0,U⟩)/\a.tmps.getD 4 xy=.pointer (J ⟨c,0,U⟩)/\a.tmps.getD 5 xy=.int .i64 k/\k<=xq h.E/\FlI w W c (Xk (YO h) k) x) (λa _=>xq h.E- (intOf<|a.tmps.getD 5 xy).toNat) rfl ?_ ?_
 .rintro a W ⟨c,k,x,hd,c8,h2,h4,h5,hk,HI⟩;obtain⟨t,d⟩:=a;simp only at hd c8 h2 h4 h5;subst hd;obtain⟨u,hu⟩:∃u:Z5,∀i,t.getD i xy=u i:=⟨λi=>t.getD i xy,λ_=>rfl⟩
  have et:t=#[u 0,u 1,u 2,u 3,u 4,u 5,u 6,u 7,u 8,u 9,u 10,u 11,u 12,u 13,u 14,u 15,u 16,u 17,u 18,u 19,u 20,u 21,u 22,u 23,u 24,u 25,u 26,u 27,u 28,u 29,u 30,u 31,u 32,u 33,u 34,u 35,u 36,u 37,u 38,u 39,u 40,u 41,u 42,u 43,u 44,u 45,u 46,u 47,u 48,u 49,u 50,u 51,u 52,u 53,u 54,u 55,u 56,u 57,u 58,u 59,u 60,u 61,u 62,u 63,u 64,u 65,u 66,u 67,u 68,u 69,u 70,u 71]:=(Z2o c8).trans (by
   have A:(λi=>t.getD i xy)=u:=funext hu;rw[A];rfl)
  rw[hu]at h2 h4 h5;rw[h2,h4,h5]at et;clear hu c8 h2 h4 h5;subst et;have D:=Zhp HI;clear HI;by_cases b8:k<xq h.E
  .have h0:h.to=0\/h.to=1:=by have:=XO.1 d5.out.bd;exact this.2.2.2.2.1
   obtain⟨q,I⟩:=yu d5.out M.out k Z0;obtain⟨⟨T,H,q',f⟩,_⟩:=H8 d5.out b8 I;have f8:=AS HH.out h0 k;have a6:(Xk (YO h) k).E[k]?=J h.E[k]:=by rw[I.rest k<|Zhm _];exact Zhi b8
   have c1:Xk (YO h) (k+1)= {H with E:=H.E.set k T}:=by
    show Se (Xk (YO h) k) k=_;unfold Se;rw[a6,ZhP,f.fwd]
   have Y:(Xk (YO h) k).E.length=xq h.E:=I.len;have er:H.E=(Xk (YO h) k).E:=f.ext.E;have e9:H.ok/\ZB T:=by have:=yB f8<|HH.out.dj _<|ZhE b8;rw[f.fwd]at this;exact this
   have f1:=f.fwd;have k3:=HH.out.dj _<|ZhE b8;clear I f;generalize Xk (YO h) k=g at*;generalize h.E[k]=u0 at*;obtain⟨gb,go,cap,d8,g5,i4⟩:=JN (D.out.rd 4 Z0) a6;rw[show xq (Zu g 4)=(xq g.E) from rfl,Y]at d8;have hF:∀W',Below (xz<|xj W) W W'->Calls xP 41 #[.agg #[.int .u64 g.base,.int .i64 g.cap,.int .i64 g.to,.bool g.Y,.int .i64 g.aa,x 0,x 1,x 2,x 3,.slice (J ⟨gb,go,U⟩) (xq h.E) cap],.int .u64 u0] W' (FwdPost W' (T,H,0)):=λW' B=>by
    have:=ED W' (λb=>xz (xj w)+2<=b/\b<xz (xj W)/\b≠c) (λb X=>Zhr X.2.1 B.size) g f8 x (λj n=>(D.out.rd j n).keep (λb X=>B.block b X.2.1) λ_ q=>q) u0 k3;rw[f1]at this;unfold ZC at this;rw[d8]at this;exact this
   have HF:=Zhp hF;have R:=D.out.nb;unfold Yq at R;rw[d8]at R;have yc:∀j,W.cell? ⟨c,j,U⟩=(#[.int .u64 g.base,.int .i64 g.cap,.int .i64 g.to,.bool g.Y,.int .i64 g.aa,x 0,x 1,x 2,x 3,.slice (J ⟨gb,go,U⟩) (xq h.E) cap]:Array Value)[j]? :=λj=>Zhv _ _ _ _ _ _ R;have g6:=Y7 R;have k5:((k:Int)< (xq h.E:Int))=True:=ZjW Z0;have HM:=Zhp<|And.intro c1<|And.intro er<|And.intro e9<|And.intro i4<|And.intro R Y;clear hF R Y d8 c1 er e9 a6 f1 f8 i4;go_upto_region 8 with fail;refine OH [39,40,41,42,43,44,45,38,46,47,48,7,6,8] (FrC W (frE c g (λj=>if j=4 then .slice (J ⟨gb,go,U⟩) (xq h.E) cap else x j) k (.pointer<|J ⟨gb,go+k,U⟩) u0) T H) follows Z2 ⟨u,Zgy,?_⟩ ?_ ?_;exact⟨(ZhH _ _).drew,λi _ _ _ h=>ZgA,λh=>ZgA,λh=>ZgA,λh=>ZgA⟩
   .intro L i o v W1 ho hi n C;have N:=Zhp C;have hz:xz (xj W)<=xz (xj W1):=C.b.size;have yd:∀j,W1.cell? ⟨c,j,U⟩=(#[.int .u64 g.base,.int .i64 g.cap,.int .i64 g.to,.bool g.Y,.int .i64 g.aa,x 0,x 1,x 2,x 3,.slice (J ⟨gb,go,U⟩) (xq h.E) cap]:Array Value)[j]? :=λj=>(C.b.cell (p:=⟨c,j,U⟩) g6).trans<|yc j;have j2:W1.cell? ⟨gb,go+k,U⟩=J (.int .u64 u0):=(C.b.cell (p:=⟨gb,go+k,U⟩) HM.out.2.2.2.1.2.1).trans g5;clear C;have k7:i<15:=(Zho.1 ho).1;simp only[To,QG,ZhR,ZiN,Zjj,Zl1,Zjn,Zkg,ZjQ];have:i=0\/i=1\/i=2\/i=3\/i=4\/i=5\/i=6\/i=7\/i=8\/i=9\/i=10\/i=11\/i=12\/i=13\/i=14:=Z0;obtain rfl|rfl|rfl|rfl|rfl|rfl|rfl|rfl|rfl|rfl|rfl|rfl|rfl|rfl|rfl:=this<;>cases ho
    .go_wp2;try simp only[QN]
     exact⟨_,rfl,N.out.pe 0 Z0 rfl⟩
    .go_wp2;try simp only[QN]
     exact⟨_,rfl,N.out.pe 1 Z0 rfl⟩
    .have e1:v 40=.pointer (J ⟨c,9,U⟩):=N.out.e 1 Z0<|n 1 ZgB;go_wp2;try simp only[QN]
     exact⟨_,by rw[<-e1];rfl,N.out.pe 2 Z0 rfl⟩
    .go_wp2;try simp only[QN]
     exact⟨_,rfl,N.out.pe 3 Z0 rfl⟩
    .have e2:v 41=.slice (J ⟨gb,go,U⟩) (xq h.E) cap:=N.out.e 2 Z0<|n 2 ZgB;have e3:v 42=.int .i64 k:=N.out.e 3 Z0<|n 3 ZgB;go_wp2;try simp only[QN]
     exact⟨_,by rw[<-e2,<-e3];rfl,N.out.pe 4 Z0 rfl⟩
    .have e4:v 43=.pointer (J ⟨gb,go+k,U⟩):=N.out.e 4 Z0<|n 4 ZgB;go_wp2;try simp only[QN]
     exact⟨_,by rw[<-e4];rfl,N.out.pe 5 Z0 rfl⟩
    .have A:v 39=.agg #[.int .u64 g.base,.int .i64 g.cap,.int .i64 g.to,.bool g.Y,.int .i64 g.aa,x 0,x 1,x 2,x 3,.slice (J ⟨gb,go,U⟩) (xq h.E) cap]:=N.out.e 0 Z0<|n 0 ZgB;have e5:v 44=.int .u64 u0:=N.out.e 5 Z0<|n 5 ZgB;go_wp2_with (go_at_call 41;refine(HF.out _ N.out.b).mono ?_;rintro e w9 ⟨x9,rfl,b6,i8⟩;have b1:=Zhp<|And.intro b6 i8;clear b6 i8)
     try simp only[QN]
     exact⟨_,by rw[<-A,<-e5];rfl,N.out.call b1.out.1 b1.out.2⟩
    .obtain⟨x9,A,o9⟩:=N.out.t 6 (.inl rfl)<|n 6 ZgB;have A:v 45=KS T H x9:=A;have O9:=Zhp o9;clear o9;go_wp2;try simp only[QN]
     exact⟨_,by rw[<-A];rfl,N.out.pt O9.out⟩
    iterate 3
     focus
      obtain⟨x9,A,o9⟩:=N.out.t 7 (.inr rfl)<|n 7 ZgB;have A:v 38=.tuple #[.int .u64 T,.agg<|Yq H x9,.int .i64 0]:=A;have O9:=Zhp o9;clear o9;go_wp2;try simp only[QN]
      first
      |exact⟨_,by rw[<-A];rfl,N.out.pf 8 (.inl rfl) rfl⟩
      |exact⟨_,by rw[<-A];rfl,N.out.pa O9.out⟩
      |exact⟨_,by rw[<-A];rfl,N.out.pz 10 (.inl rfl) rfl⟩
    .go_wp2;try simp only[QN]
     exact⟨_,rfl,N.out.alloc hi⟩
    .have A:v 46=.int .u64 T:=N.out.f 8 (.inl rfl)<|n 8 ZgB;go_wp2;try simp only[QN]
     exact⟨_,by rw[<-A];rfl,N.out.pf 12 (.inr rfl) rfl⟩
    .obtain⟨c7,e7,d7,j7,O⟩:=N.out.new<|n 11 ZgB;obtain⟨x9,i0,o9⟩:=N.out.a<|n 9 ZgB;have O:=O hi;have y4:∀j,W1.cell? ⟨c7,j,U⟩=ZX[j]? :=λj=>Zhv _ _ _ _ _ _ O;unfold ZX at y4;have y5:∀j,W1.frozen? ⟨c7,j,U⟩=xw:=λj=>Yp O;have H3:=Zhp O;obtain⟨a,q,K,_⟩:=Ba λj n=>Wc<|o9.own.own j n;rw[K]at i0;have d0:=Zhp<|And.intro K o9;clear O o9 K;go_wp2;try simp only[QN]
     exact⟨_,by rw[<-e7,<-i0],N.out.store e7 d0.out.2 (n 11 ZgB) hi H3.out (λb B=>UM B) ZgZ (by rw[d0.out.1];exact qX H3.out)<|Vq (ZhH _ _) d7⟩
    .have A:v 48=.int .i64 0:=N.out.z 10 (.inl rfl)<|n 10 ZgB;go_wp2;try simp only[QN]
     exact⟨_,by rw[<-A];rfl,N.out.pz 14 (.inr rfl) rfl⟩
   .intro L v W1 hL C;have e6:v 6=.int .u64 T:=C.f 12 (.inr rfl)<|hL 12 ZgB;have e8:v 8=.int .i64 0:=C.z 14 (.inr rfl)<|hL 14 ZgB;obtain⟨c7,x9,e7,g3,o9⟩:=C.put<|hL 13 ZgB;have a7:=C.b;have c8:=a7.size;have b7:xq H.E=xq h.E:=by rw[HM.out.2.1,HM.out.2.2.2.2.2]
    obtain⟨a,q,K,f4⟩:=Ba λj n=>Wc<|o9.own.own j n;have f4:=f4 4 Z0;have i3:xq (Zu H 4)=xq h.E:=b7;obtain⟨g4,i2⟩:=Cr (o9.own.own 4 Z0) f4 Z0;rw[i2,i3]at f4 K;rw[K]at g3;have d6:=(a7.block c g6).trans HM.out.2.2.2.2.1;have y7:=λj=>Zhv _ _ j _ _ _ g3;have yd:=λj=>Zhv _ _ j _ _ _ d6;have fd:∀j,W1.frozen? ⟨c,j,U⟩=xw:=λj=>Yp d6;have HO:=Zhp<|And.intro o9.own<|And.intro a7<|And.intro K<|And.intro f4<|And.intro b7 d6;have i2:xz (xj W)<=g4/\g4<xz (xj W1):=(o9.own.own 4 Z0).lt g4 (by rw[f4];rfl);clear C o9 a7 K f4 b7 g3 d6 hL;simp only[To,QG,ZhR,ZiN,Zjj,Zl1,Zjn,Zkg,ZjQ];go_upto_region 12 with fail;obtain⟨W2,a2⟩:∃W2,W2=Tp W1 c (.int .u64 H.base) (.int .i64 H.cap) (.int .i64 H.to) (.bool H.Y) (.int .i64 H.aa) (.slice (a 0) (xq<|Zu H 0)<|q 0) (.slice (a 1) (xq<|Zu H 1)<|q 1) (.slice (a 2) (xq<|Zu H 2)<|q 2) (.slice (a 3) (xq<|Zu H 3)<|q 3) (.slice (J ⟨g4,0,U⟩) (xq h.E)<|q 4):=⟨_,rfl⟩;unfold Tp at a2;rw[<-a2];have b5:W2.heap[c]?=J (.cells (Yq H x9) 30 (0,0)):=by rw[HO.out.2.2.1,a2];exact Om HO.out.2.2.2.2.2
    have b9:∀b,b≠c->W2.heap[b]?=W1.heap[b]? :=λb B=>by rw[a2];exact UM B
    have h6:xz (xj W2)=xz (xj W1):=by rw[a2];simp[World.setCell]
    have a8:Below (xz<|xj w) W1 W2:=by rw[a2];exact Vq (ZhH _ _) (by have:=D.out.le;omega)
    clear a2;have P:HOwn (xz<|xj W) W2 H x9:=⟨λj n=>XM (HO.out.1.own j n) λb B=>b9 b (by have:=((HO.out.1.own j n).lt b B).1;omega),HO.out.1.apart⟩;have a4:=P.own 4 Z0;rw[HO.out.2.2.2.1,show xq (Zu H 4)=(xq h.E) from HO.out.2.2.2.2.1]at a4;have y2:=λj=>Zhv _ _ j _ _ _ b5;rw[HO.out.2.2.1]at y2;obtain⟨z0,j1⟩:∃z0,H.E[k]?=J z0:=⟨_,Zhi (by rw[HO.out.2.2.2.2.1];exact b8)⟩;have ec:W2.cell? ⟨g4,k,U⟩=J (.int .u64 z0):=by
     rw[a4.cellAt k Z0];simp[Ye,Zu,j1]
    have ef:W2.frozen? ⟨g4,k,U⟩=xw:=a4.frozenAt k;have wk:=Zy ((k:Int)+1) (by have:=HH.out.E;omega) (by have:=HH.out.E;omega);have HQ:=Zhp<|And.intro b5<|And.intro b9<|And.intro h6<|And.intro a8<|And.intro P a4;clear b5 b9 h6 a8 P a4 y7 yd fd j1;go_wp2;go_step3
    simp only[Exit.then,Exit.inBlock];refine⟨rfl,⟨c,k+1,x9,rfl,rfl,rfl,rfl,?_,Z0,?_⟩,?_⟩;show Value.int .i64 ((k:Int)+1)=_;congr 1;rw[HM.out.1];obtain⟨b5,b9,h6,a8,P,a4⟩:=HQ.out;obtain⟨j0,k9⟩:=a4.stored k<|.int .u64 T;have k4:g4≠c:=Z0;have Z:∀b,b≠g4->(W2.setCell ⟨g4,k,U⟩<|.int .u64 T).heap[b]?=W2.heap[b]? :=λb B=>ZhD _ _ _ _ B;have d9:xz (xj<|W2.setCell ⟨g4,k,U⟩<|.int .u64 T)=xz (xj W2):=ZgZ;have i6:=D.out.le;have a5:=D.out.rb;refine⟨(D.out.below.trans<|(HO.out.2.1.mono D.out.below.size).trans a8).setCell (by show xz (xj w)<=g4;have:=D.out.below.size;omega) _,?_,i6,?_,λj n=> ?_⟩;have:=Y7 a5;rw[Z _ Z0,b9 _ Z0,HO.out.2.1.block _ this];exact a5;rw[Z c Z0,b5];rfl;have i5:∀b,xz (xj W)<=b->b< xz (xj<|W2.setCell ⟨g4,k,U⟩<|.int .u64 T)->xz (xj w)+2<=b/\b< xz (xj<|W2.setCell ⟨g4,k,U⟩<|.int .u64 T)/\b≠c:=λb h1 h2=>⟨Z0,h2,Z0⟩;by_cases e:j=4;subst e;have hn:Ye .u64 (H.E.set k T)=(Ye .u64<|Zu H 4).set k (.int .u64 T):=Lj _ _ _ _;rw[<-hn]at j0;show Rd _ _ (.sl<|(H.E.set k T).map vu)<|x9 4;rw[HO.out.2.2.2.1];have k0:xq h.E=xq (H.E.set k T):=by rw[Zjl,HO.out.2.2.2.2.1]
    have k2:(W2.setCell ⟨g4,k,U⟩<|.int .u64 T).ownsRow (xz<|xj W) 24 1 (.slice (J ⟨g4,0,U⟩) (xq h.E)<|q 4) (xq<|H.E.set k T)<|Ye .u64<|H.E.set k T:=by rw[<-k0];exact j0
    exact Rq k2 i5;have j8:Zu {H with E:=H.E.set k T} j=Zu H j:=by
     have:j=0\/j=1\/j=2\/j=3:=Z0;obtain rfl|rfl|rfl|rfl:=this<;>rfl
    rw[j8];refine Rq (XM (P.own j n) λb B=>Z b λe2=> ?_) i5;exact P.apart j 4 Z0 Z0 b B (by rw[e2,HO.out.2.2.2.1];rfl);simp[intOf];omega
  .have j9:k=xq h.E:=Z0;subst j9;obtain⟨q,I⟩:=yu d5.out M.out (xq h.E)<|Zhm _;have Y:(Xk (YO h)<|xq h.E).E.length=xq h.E:=I.len;clear I;have K:YT h=WF (Xk (YO h)<|xq h.E):=rfl;rw[K];clear K;generalize Xk (YO h) (xq h.E)=g at*;obtain⟨a,q,g9,f0⟩:=Ba (g:=g) (x:=x) λj n=>by simpa using Rd.bu (D.out.rd j n)
   have Y:xq (Zu g 4)=xq h.E:=Y;rw[Y]at g9;have R:=D.out.nb;rw[g9]at R;have a5:=D.out.rb;have i6:=D.out.le;have g6:=Y7 R;have yc:=λj=>Zhv _ _ j _ _ _ R;have fc:∀j,W.frozen? ⟨c,j,U⟩=xw:=λj=>Yp R;have yz:∀j,W.cell? ⟨xz (xj w)+1,j,U⟩=ZX[j]? :=λj=>Zhv _ _ _ _ _ _ a5;unfold ZX at yz;have fz:∀j,W.frozen? ⟨xz (xj w)+1,j,U⟩=xw:=λj=>Yp a5;have i7:¬xz (xj w)+1=c:=Z0;have k6:¬c=xz (xj w)+1:=Z0;have HP:=Zhp<|And.intro a5<|And.intro f0 Y;clear g9 R a5 f0 Y;by_cases b0:0<xq g.H
   .have g8:(0< xq (Zu g 0))=True:=ZjW b0;go_wp2;simp only[Exit.jump];obtain⟨W3,S⟩:∃W3,W3=W.setCell ⟨c,3,U⟩ (.bool xk):=⟨_,rfl⟩;rw[<-S];have Z:∀b,b≠c->W3.heap[b]?=W.heap[b]? :=λb B=>by
     rw[S];simp[World.setCell,ZhW,Zj5 B]
    have d9:xz (xj W3)=xz (xj W):=by rw[S];simp[World.setCell]
    have b4:Below (xz<|xj w) W W3:=by
     rw[S];exact(ZhH _ _).setCell Zh9 _
    have y:=Sv<|(Z _ i7).trans HP.out.1;have A:=HP.out.2.1 0 Z0;have e1:=HP.out.2.1 1 Z0;have e2:=HP.out.2.1 2 Z0;have e3:=HP.out.2.1 3 Z0;have e4:=HP.out.2.1 4 Z0;rw[HP.out.2.2]at e4;have g7:WF g= {g with Y:=xk}:=Zht b0;rw[g7];clear S;refine Zi8 (v:=.tuple #[ZC {g with Y:=xk} x,.int .i64 0]) ?_ rfl ⟨x,rfl,Vq (D.out.below.trans b4) Z0,λj n=> ?_⟩
    .simp[results,Try.results21,go_sem,y,ZC,A,e1,e2,e3,e4]
    have hl:Zu {g with Y:=xk} j=Zu g j:=rfl;rw[hl];exact(D.out.rd j n).keep (λb B=>(UM (by have:=B.1;omega)).trans<|Z b B.2.2) λb B=>⟨by have:=B.1;omega,by simp[World.setCell,d9];exact B.2.1⟩
   .have g8:(0< xq (Zu g 0))=False:=Zk0 b0;go_wp2;simp only[Exit.jump];obtain⟨W3,S⟩:∃W3,W3=((W.setCell ⟨c,3,U⟩<|.bool xw).setCell ⟨c,7,U⟩<|.slice U 0 0).setCell ⟨c,8,U⟩ (.slice U 0 0):=⟨_,rfl⟩;rw[<-S];have Z:∀b,b≠c->W3.heap[b]?=W.heap[b]? :=λb B=>by
     rw[S];simp[World.setCell,ZhW,Zj5 B]
    have d9:xz (xj W3)=xz (xj W):=by rw[S];simp[World.setCell]
    have b4:Below (xz<|xj w) W W3:=by
     rw[S];exact(((ZhH _ _).setCell Zh9 _).setCell Zh9 _).setCell Zh9 _
    have y:=Sv<|(Z _ i7).trans HP.out.1;have A:=HP.out.2.1 0 Z0;have e1:=HP.out.2.1 1 Z0;have e4:=HP.out.2.1 4 Z0;rw[HP.out.2.2]at e4;have g7:WF g= {g with Y:=xw,ah:=[],al:=[]}:=Zhs b0;rw[g7];clear S;refine Zi8 (v:=.tuple #[ZC {g with Y:=xw,ah:=[],al:=[]} (λj=>if j=2\/j=3 then .slice U 0 0 else x j),.int .i64 0]) ?_ rfl ⟨_,rfl,Vq (D.out.below.trans b4) Z0,λj n=> ?_⟩
    .simp[results,Try.results21,go_sem,y,ZC,A,e1,e4]
    have:j=2\/j=3\/(j≠2/\j≠3):=Z0;obtain rfl|rfl|⟨h2,h3⟩:=this;exact .nil _ _ ZgC;exact .nil _ _ ZgC;have hl:Zu {g with Y:=xw,ah:=[],al:=[]} j=Zu g j:=by
     have:j=0\/j=1\/j=4:=Z0;obtain rfl|rfl|rfl:=this<;>rfl
    rw[hl];simp only[h2,h3,or_self,Zij];exact(D.out.rd j n).keep (λb B=>(UM (by have:=B.1;omega)).trans<|Z b B.2.2) λb B=>⟨by have:=B.1;omega,by simp[World.setCell,d9];exact B.2.1⟩
 intro c0
 go_upto_region 5 with (first
  | (go_at_call 13;refine(HR.out _ ?_).mono ?_;rotate_left;rintro e wa ⟨rfl,a3⟩
     have bA:wa.heap[xz<|xj w]?=J (.cells #[.int .u64 h.base,.int .i64 h.cap,.int .i64 h.to,.bool xw,.int .i64 h.aa,Q 0,Q 1,Q 2,Q 3,Q 4] 30 (0,0)):=(a3.block _ Zgn).trans<|(Zhz _ _ _ Z1).trans<|ZhT w _;have bZ:wa.heap[xz (xj w)+1]?=J (.cells ZX 30 (0,0)):=(a3.block _ Z1).trans<|Eo w _;have ya:=λj=>Zhv _ _ j _ _ _ bA;have f3:=Zhp a3;have j4:=Zhp<|And.intro bA bZ;clear a3 bA bZ))
 case refine_1=>exact((ZhH _ w).alloc (Zhm _) _).alloc Z1 _
 have a3:Below (xz<|xj w) w wa:=Below.trans (((ZhH _ w).alloc (Zhm _) _).alloc Z1 _)<|f3.out.mono Zgn;have l0:xz (xj w)+2<=xz (xj wa):=by have:=f3.out.size;simp at this;omega
 have h9:=Zhp a3;clear a3 f3;have f6:=Zhp (λ(W:Z3) (hW:Below (xz<|xj wa) wa W) (j:Nat) (n:j<5)=>(HS.out j n).keep (λb X=>(hW.block b (by have:=hG b X;omega)).trans<|h9.out.block b<|hG b X) λ_ q=>q);refine OH [16,17,18,19,20,21,22,23,24,25,26,27,28,29,30,31,32,4] (FlC wa (xz<|xj w) h Q) follows Z2 ⟨λ_=>xy,Zgy,?_⟩ ?_ ?_;exact⟨(ZhH _ _).drew,λi _ h=>ZgA,λi _ h=>ZgA,λh=>ZgA,λh=>ZgA,λh=>ZgA,λh=>ZgA⟩
 .intro L i o v W ho hi n C;have M:=Zhp C;have hz:xz (xj wa)<=xz (xj W):=C.b.size;have ya:=λj=>(C.b.cell (p:=⟨xz<|xj w,j,U⟩) (by show xz (xj w)<xz (xj wa);omega)).trans<|ya j;clear C;have k8:i<19:=(Zho.1 ho).1;simp only[To,QG,ZhR,ZiN,Zjj,Zl1,Zjn,Zkg,ZjQ];have:i=0\/i=2\/i=4\/i=7\/i=10\/i=13\/i=1\/i=3\/i=5\/i=6\/i=8\/i=11\/i=14\/i=9\/i=12\/i=15\/i=16\/i=17\/i=18:=Z0;obtain rfl|rfl|rfl|rfl|rfl|rfl|rfl|rfl|rfl|rfl|rfl|rfl|rfl|rfl|rfl|rfl|rfl|rfl|rfl:=this<;>cases ho
  iterate 6
   focus
    go_wp2;try simp only[QN]
    exact⟨_,rfl,M.out.pure (by unfold XZ;omega) rfl rfl⟩
  iterate 7
   focus
    first
    |have A:=M.out.eq 0 (by unfold XZ;omega)<|n 0 (by decide)
    |have A:=M.out.eq 2 (by unfold XZ;omega)<|n 2 (by decide)
    |have A:=M.out.eq 4 (by unfold XZ;omega)<|n 4 (by decide)
    |have A:=M.out.eq 5 (by unfold XZ;omega)<|n 5 (by decide)
    |have A:=M.out.eq 7 (by unfold XZ;omega)<|n 7 (by decide)
    |have A:=M.out.eq 10 (by unfold XZ;omega)<|n 10 (by decide)
    |have A:=M.out.eq 13 (by unfold XZ;omega)<|n 13 (by decide)
    simp only[T8]at A;go_wp2;try simp only[QN]
    exact⟨_,by rw[<-A];rfl,M.out.pure (by unfold XZ;omega) rfl rfl⟩
  iterate 3
   focus
    first
    |(have A:=M.out.eq 8 (by unfold XZ;omega)<|n 8 (by decide);have F:=AZ W (l:=h.H) (G:=G) HH.out.H<|f6.out _ M.out.b 0 (by omega))
    |(have A:=M.out.eq 11 (by unfold XZ;omega)<|n 11 (by decide);have F:=AZ W (l:=h.ab) (G:=G) HH.out.ab<|f6.out _ M.out.b 1 (by omega))
    |(have A:=M.out.eq 14 (by unfold XZ;omega)<|n 14 (by decide);have F:=AZ W (l:=h.E) (G:=G) HH.out.E<|f6.out _ M.out.b 4 (by omega))
    have HF:=Zhp F;clear F;simp only[T8]at A;go_wp2_with (go_at_call 40;refine HF.out.mono ?_;rintro e w9 ⟨y,rfl,b6,i9⟩;have b1:=Zhp<|And.intro b6 i9;clear b6 i9)
    try simp only[QN]
    exact⟨_,by rw[<-A];rfl,M.out.call ZgT rfl b1.out.1 b1.out.2⟩
  .have A:=M.out.eq 1 (by unfold XZ;omega)<|n 1 ZgB;have E0:=Zhp A;simp only[T8]at A;have e1:=M.out.eq 3 (by unfold XZ;omega)<|n 3 ZgB;have E1:=Zhp e1;simp only[T8]at e1;have e2:=M.out.eq 6 (by unfold XZ;omega)<|n 6 ZgB;have E2:=Zhp e2;simp only[T8]at e2;obtain⟨a9,c9,f9⟩:=Rd.bu<|M.out.rd 9 ZgT<|n 9 ZgB;rw[show xq (List.map vu<|UA h 9)=(xq h.H) from ZhN _]at f9;simp only[Nat.reduceAdd]at f9;have F9:=Zhp f9;obtain⟨b2,Q2,a0⟩:=Rd.bu<|M.out.rd 12 ZgT<|n 12 ZgB;rw[show xq (List.map vu<|UA h 12)=(xq h.ab) from ZhN _]at a0;simp only[Nat.reduceAdd]at a0;have h7:=Zhp a0;obtain⟨b3,Q3,a1⟩:=Rd.bu<|M.out.rd 15 ZgT<|n 15 ZgB;rw[show xq (List.map vu<|UA h 15)=(xq h.E) from ZhN _]at a1;simp only[Nat.reduceAdd]at a1;have h8:=Zhp a1;go_wp2;try simp only[QN]
   refine⟨Xi (Xi (Xi (Xi (Xi (Xi (Xi v 17<|T8 (xz<|xj w) h Q 1) 19<|T8 (xz<|xj w) h Q 3) 22<|T8 (xz<|xj w) h Q 6) 25<|.slice a9 (xq h.H) c9) 28<|.slice b2 (xq h.ab) Q2) 31<|.slice b3 (xq h.E) Q3) 32<|.agg #[.int .u64 h.base,.int .i64 h.cap,.int .i64<|1-h.to,.bool xw,.int .i64 0,.slice U 0 0,.slice U 0 0,.slice a9 (xq h.H) c9,.slice b2 (xq h.ab) Q2,.slice b3 (xq h.E) Q3],rfl,?_⟩;rw[JX (v:=v) E0.out,JX (v:=v) E1.out,JX (v:=v) E2.out,JX (v:=v) F9.out,JX (v:=v) h7.out,JX (v:=v) h8.out];have hx:((.agg #[.int .u64 h.base,.int .i64 h.cap,.int .i64<|1-h.to,.bool xw,.int .i64 0,.slice U 0 0,.slice U 0 0,.slice a9 (xq h.H) c9,.slice b2 (xq h.ab) Q2,.slice b3 (xq h.E) Q3]):Value)=.agg (Ug h λi=>v<|16+i):=by
    unfold Ug;simp only[Nat.reduceAdd];rw[F9.out,h7.out,h8.out]
   rw[hx];exact M.out.built (n 9 ZgB) (n 12 ZgB)<|n 15 ZgB
  .go_wp2;try simp only[QN]
   exact⟨_,rfl,M.out.alloc hi⟩
  .obtain⟨c,e4,d7,j7,O⟩:=M.out.new<|n 17 ZgB;obtain⟨y,f7,hy⟩:=M.out.agg<|n 16 ZgB;have O:=O hi;have y4:∀j,W.cell? ⟨c,j,U⟩=ZX[j]? :=λj=>Zhv _ _ _ _ _ _ O;unfold ZX at y4;have y5:∀j,W.frozen? ⟨c,j,U⟩=xw:=λj=>Yp O;have H3:=Zhp O;have j3:=Zhp f7;obtain⟨a9,c9,f9⟩:=Rd.bu<|hy 9 ZgT;obtain⟨b2,Q2,a0⟩:=Rd.bu<|hy 12 ZgT;obtain⟨b3,Q3,a1⟩:=Rd.bu<|hy 15 ZgT;rw[show xq (List.map vu<|UA h 9)=(xq h.H) from ZhN _]at f9;rw[show xq (List.map vu<|UA h 12)=(xq h.ab) from ZhN _]at a0;rw[show xq (List.map vu<|UA h 15)=(xq h.E) from ZhN _]at a1;have K:Ug h y=#[.int .u64 h.base,.int .i64 h.cap,.int .i64<|1-h.to,.bool xw,.int .i64 0,.slice U 0 0,.slice U 0 0,.slice a9 (xq h.H) c9,.slice b2 (xq h.ab) Q2,.slice b3 (xq h.E) Q3]:=by
    unfold Ug;rw[f9,a0,a1]
   rw[K]at f7;have d0:=Zhp K;clear O hy f9 a0 a1 K;go_wp2;try simp only[QN]
   exact⟨_,by rw[<-e4,<-f7],M.out.store e4 j3.out (n 17 ZgB) (n 16 ZgB) hi H3.out (λb B=>UM B) ZgZ (by rw[d0.out];exact qX H3.out)<|Vq (ZhH _ _) d7⟩
 .intro L v W hL C;obtain⟨c,y,e4,d7,i1,hy⟩:=C.put<|hL 18 ZgB;have f5:=Zhp C.b;have HY:=Zhp<|And.intro i1 hy;have j5:=Zhp c0;have f2:=Zhp<|And.intro (hL 17 ZgB) e4;clear C i1 hy hL c0;simp only[To,QG,ZhR,ZiN,Zjj,Zl1,Zjn,Zkg,ZjQ];go_wp2;go_step3
  simp only[Exit.then];rename_i j6;refine j6 _ _<|j5.out _ _ ?_;refine⟨c,0,λj=>if j=2 then y 9 else if j=3 then y 12 else if j=4 then y 15 else .slice U 0 0,rfl,rfl,rfl,f2.out.2,rfl,Zis _,?_⟩;have c8:=f5.out.size;have hG:∀b,Va wa W L v b->xz (xj w)+2<=b/\b<xz (xj W)/\b≠c:=λb B=>⟨by have:=B.1;omega,B.2.1,λe=>B.2.2 f2.out.1 (by rw[e];exact f2.out.2)⟩;refine⟨h9.out.trans<|f5.out.mono Z0,(f5.out.block _ Z0).trans j4.out.2,Z0,HY.out.1,λj n=> ?_⟩;have:j=0\/j=1\/j=2\/j=3\/j=4:=Z0;obtain rfl|rfl|rfl|rfl|rfl:=this;exact .nil _ _ ZgC;exact .nil _ _ ZgC;exact(HY.out.2 9 ZgT).mono hG;exact(HY.out.2 12 ZgT).mono hG;exact(HY.out.2 15 ZgT).mono hG
end Vm
end
section

end
section
namespace Vm
open Go Go.Proofs Go.RowKit
def Z0Z(w:Z3)(G:Z4)(g:∀b,G b->b<xz (xj w))(h:Hp)(k:h.ok)(a:Z5)(l:∀j,j<5->Rd w G (.sl<|(Zu h j).map vu) (a j)):
  Calls xP 21 #[ZC h a] w (zy w<|Sd h):=by
 cases d:Yv h with
 |false=>
  rw[show Sd h=(Hp.zero,1)by unfold Sd;rw[Zht d]];exact Z0W w G g h k a l d
 |true=>
  cases f:h.Y with
  |true=>
   rw[show Sd h=(Hp.zero,10)by unfold Sd;rw[Zhs (by rw[d];simp),Zht f]];exact Z0X w G g h k a l d f
  |false=>
   obtain⟨p,r⟩:=JR.1 d;rw[show Sd h=(YT h,0)by unfold Sd;rw[Zhs (by rw[d];simp),Zhs (by rw[f];simp)]];exact Z0Y w G g h k a l r f
end Vm
end
section
namespace Vm
open Go Go.Proofs
def N2:Fn:=⟨5,[0,1,2,3,6],pQ [pR [(1,pS 0 10),(2,pZ),pV 3<|pI 0],pQ [pC [pK 5 13 [.mm 1 0 10]] [pV 4<|.un .not<|.s 5]]<|pw (.s 4)<|pQ [.ao ⟨[],[([],pY)],[(2,pZ),pV 3<|pI 1]⟩] .ret,pC [pK 6 34 [.mm 1 0 10,pI 9223372036854775807]] [(2,pM (.sz (.ext (.s 6) 0) 10) 10),pV 3<|.ext (.s 6) 1]] .ret,[(2,(.ag 10)),(3,.v)]⟩
def c14:ZY [.fz] Try.f14=J N2:=Z2
def Nc:Fn:=⟨6,[0,1,2,4,5,12],pQ [pR [(2,pS 0 10),(3,pZ),pV 4<|pI 0],pQ [.ao ⟨[.lt 6 []<|pl (.s 1)<|pI 0,.call 7 [(6,xw)] (.id 13) xw xw [.mm 2 0 10]],[([(6,xw)],.un .not<|.s 7)],[pV 5<|.ite (.s 6) pT<|.un .not<|.s 7]⟩]<|pw (.s 5)<|pQ [.ao ⟨[],[([],pY)],[(3,pZ),pV 4<|pI 1]⟩] .ret,pC [pK 8 34 [.mm 2 0 10,.s 1]] [(3,pM (.sz (.ext (.s 8) 0) 10) 10),pV 4<|.ext (.s 8) 1]] .ret,[(3,(.ag 10)),(4,.v)]⟩
def c22:ZY [.fz,.fz] Try.f22=J Nc:=Z2
def Nt:Fn:=⟨3,[0,1,2],pQ [pR [(1,pS 0 10),(2,pZ)],pC [pK 3 77 [.m 1 5],pK 4 77 [.m 1 6]] [(1,.m [.m 1 0,.m 1 1,.m 1 2,.m 1 3,.m 1 4,.one<|.s 3,.one<|.s 4,.m 1 7,.m 1 8,.m 1 9])],pC [pK 5 77 [.m 1 7],pK 6 77 [.m 1 8]] [(1,.m [.m 1 0,.m 1 1,.m 1 2,.m 1 3,.m 1 4,.m 1 5,.m 1 6,.one<|.s 5,.one<|.s 6,.m 1 9])],pC [pK 7 77 [.m 1 9]] [(1,.m [.m 1 0,.m 1 1,.m 1 2,.m 1 3,.m 1 4,.m 1 5,.m 1 6,.m 1 7,.m 1 8,.one<|.s 7])]]<|px [(2,pM (.mm 1 0 10) 10)],[(2,(.ag 10))]⟩
def c51:ZY [.fz] Try.f51=J Nt:=Z2
end Vm
end
section
namespace Vm
open Go Go.Proofs Go.RowKit
def Kj{l:Z8}(n:I l<=1000000):VC xP 77 xw [.sl<|l.map vu]<|.sl<|l.map vu:=by
 refine⟨Z2,λw G vs h f g=> ?_⟩;have r0:=g 0 _ rfl;have j:vs=#[vs.getD 0 xy]:=by
  have a:vs.size=1:=f;apply ZjR;simp[a];intro i p q;have k:i<1:=Z0
  match i,k with
  |0,_=>simp[Array.getD,a]
 rw[j];refine(Z0Q w h n r0).mono ?_;rintro e r ⟨v,rfl,d,o⟩;exact⟨v,rfl,d,o.mono λb d=>.inr d⟩
def Z7N{h:Hp}(a:h.ok):VC xP 51 xw [ZE h]<|ZE h:=by
 refine ZR Fd follows Z2 c51 rfl ?_;have d:=Kj a.H;have f:=Kj a.ab;have g:=Kj a.ah;have j:=Kj a.al;have k:=Kj a.E;simp[Nt,ZE];refine Zz d Z1 ?_;simp;refine Zz f Z1 ?_;simp;refine Zz g Z1 ?_;simp;refine Zz j Z1 ?_;simp;refine Zz k Z1 ?_;simp
def Z7J(w:Z3)(G:Z4)(k:∀b,G b->b<xz (xj w))(h:Hp)(l:h.ok)(a:Z5)(p:∀j,j<5->Rd w G (.sl<|(Zu h j).map vu) (a j)):
  Calls xP 51 #[ZC h a] w λe f=>∃x,e=.returned (ZC h x)/\Below (xz<|xj w) w f/\∀j,j<5->Rd f (λc=>G c\/(xz (xj w)<=c/\c<xz (xj f))) (.sl<|(Zu h j).map vu) (x j):=by
 refine((Z7N l).2 w G #[ZC h a] k rfl λi x d=> ?_).mono ?_
 match i,d with
 |0,d=>cases d;exact Jn p
 rintro e f ⟨v,rfl,g,o⟩;obtain⟨x,rfl,d⟩:=yI o;exact⟨x,rfl,g,λj n=>(d j n).mono λb g=>g.imp (λq=>q.2) id⟩
end Vm
end
section
namespace Vm
open Go Go.Proofs
def JV{h:Hp}(hc:h.Y=xw):∀k,Y6 h k=h
 |0=>rfl
 |k+1=>by unfold Y6;rw[hc];simp
def RC(h:Hp):∀k,Y6 h (k+1)=if(Y6 h k).Y then WL (Y6 h k)else Y6 h k
 |0=>by unfold Y6;cases a:h.Y<;>simp[Y6,a]
 |k+1=>by
  cases a:h.Y with
  |false=>rw[JV a,JV a,a];simp
  |true=>
   have e:∀j,Y6 h (j+1)=Y6 (WL h) j:=λj=>by rw[Y6.eq_2,a];simp
   rw[e<|k+1,e k];exact RC (WL h) k
def jv(h:Hp)(a:Nat):∀b,Y6 h (a+b)=Y6 (Y6 h a) b
 |0=>rfl
 |b+1=>by rw[<-Ziw,RC,RC,jv h a b]
structure ScansTo (h:Hp) (p:Pts) (k:Nat) (g:Hp) (q:Pts):Prop where
 rt:Rt g q
 len:I h.H<=I g.H
 keep:∀j:Nat,(j:Int)<h.aa->g.H[j]?=h.H[j]?
 ab:g.ab=h.ab
 E:g.E=h.E
 num:g.base=h.base/\g.cap=h.cap/\g.to=h.to
 aa:h.aa<=g.aa/\g.aa<=h.aa+k
 ig:∃r,q.H=p.H++r
 ie:q.ab=p.ab
 lj:g.Y=xk->h.Y=xk/\g.aa=h.aa+k/\(I g.H:Int)+YF q=I h.H+YF p
 rc:(I g.H:Int)<=I h.H+YF p
 whole:g.Y=xw->h.Y=xk->g.aa=I g.H
def Rt.dh{h:Hp}{p:Pts}(r:Rt h p):∀k,∃q,ScansTo h p k (Y6 h k) q
 |0=>⟨p,r,Zhm _,λ_ _=>rfl,rfl,rfl,⟨rfl,rfl,rfl⟩,⟨by show h.aa<=h.aa;omega,by show h.aa<=h.aa+((0:Nat):Int);omega⟩,⟨[],Z1⟩,rfl,λa=>⟨a,by show h.aa=h.aa+((0:Nat):Int);omega,rfl⟩,by show(I h.H:Int)<=_;omega,λa l=>(by rw[show Y6 h 0=h from rfl,l]at a;cases a)⟩
 |k+1=>by
  obtain⟨q,s⟩:=r.dh k;rw[RC];generalize Y6 h k=g at*;have o:=s.aa.1;have y:=s.aa.2;cases a:g.Y with
  |false=>
   simp only[ZhF,Zij];exact⟨q,s.rt,s.len,s.keep,s.ab,s.E,s.num,⟨o,Z0⟩,s.ig,s.ie,λh=>(by rw[a]at h;cases h),s.rc,λ_ h=>s.whole a h⟩
  |true=>
   simp only[Zig];obtain⟨H,D,f⟩:=s.rt.aa a;obtain⟨t,c2,c3⟩:=s.lj a;rw[f.eq];obtain⟨L,z,n⟩:=f.H;obtain⟨F,u⟩:=s.ig;obtain⟨G,w⟩:=f.ig;obtain⟨A,B,C,K⟩:=f.num;refine⟨D,f.rt,by have:=s.len;omega,λj x=>(n j Z0).trans<|s.keep j x,f.ab.trans s.ab,f.E.trans s.E,⟨A.trans s.num.1,B.trans s.num.2.1,C.trans s.num.2.2⟩,⟨Z0,Z0⟩,⟨F++G,by rw[w,u,Zi7]⟩,f.ie.trans s.ie,λd=>⟨t,Z0,by have:=f.room d;omega⟩,by have:=f.rc;omega,λd _=>(f.rt.rest d).1⟩
def Za2{h:Hp}{p:Pts}(a:h.ok)(r:Rt h p)(hc:h.Y=xk):(WL h).ok:=by
 have t:=r.mi;obtain⟨i,o⟩:=Zhy r.gi;have l:i<I h.H:=by have:=r.lj hc;omega
 obtain⟨u,q⟩:∃u,h.H[i]?=J u:=⟨_,Zhi l⟩;have y:=a.H;have n:∀g:Hp,g.ok->(X0 g).ok:=λg d=>by
  unfold X0;split;exact⟨d.base,d.cap,d.to,d.aa,d.H,d.ab,Z1,Z1,d.E,d.gm,d.gx,Z1,Z1,d.dj⟩;exact d
 have k:Ym<|h.aa+1:=⟨Z0,Z0⟩;unfold WL;rw[o,ZhA,q,ZhP];rw[o]at k;have f:=yB a<|a.gm u<|Zhq q;split;refine n _ ?_;obtain⟨f,x⟩:=f
 exact⟨f.base,f.cap,f.to,k,by simp;exact f.H,f.ab,f.ah,f.al,f.E,λw t=>by
  obtain j|j:=ZiS t;exact f.gm w j;rw[j];exact x,f.gx,f.ma,f.ln,f.dj⟩
 exact n _ ⟨a.base,a.cap,a.to,k,a.H,a.ab,a.ah,a.al,a.E,a.gm,a.gx,a.ma,a.ln,a.dj⟩
def RB{h:Hp}{p:Pts}(a:h.ok)(r:Rt h p):∀k,(Y6 h k).ok
 |0=>a
 |k+1=>by
  obtain⟨q,s⟩:=r.dh k;have:=RB a r k;rw[RC];generalize Y6 h k=g at*;cases d:g.Y with
  |false=>simpa using this
  |true=>simpa using Za2 this s.rt d
end Vm
end
section
namespace Vm
open Go Go.Proofs Go.RowKit Go.Shelf
section
attribute [local go_sem] Oper.semAt_some
def ZbF{n P c Q a w}(h:c.wpIn Fence.wide n P (Exit.noGoto Q) a w):(Code.scope c).wpIn Fence.wide n P Q a w:=
 wpIn_wide.2 (wp_scope_straight<|wpIn_wide.1 h)
def Z8V{W W'}{B:Z4}{b r}{l:Z8}{y}(h:Rd W (λc=>B c/\c<xz (xj W)/\c≠b) (.sl<|l.map vu) y)(d:W.grownBy W'<|J r)(f:¬B r):
  Rd W' (λc=>B c/\c<xz (xj W')/\c≠b) (.sl<|l.map vu) y:=
 (h.keep (λc a=>d.block c a.2.1 λe=>Zgm) λc a=>a).mono λc a=>⟨a.1,Zhr a.2.1 d.size,a.2.2⟩
theorem NowI.kept{B W W' b r g x}(S:NowI B W b g x)(a:W.grownBy W'<|J r)(d:¬B r):NowI B W' b g x:=
 ⟨S.le,(a.block b (Y7 S.nb) λe=>by cases e;exact d S.le).trans S.nb,λj f=>Z8V (S.rd j f) a d⟩
def Kh:Array Value:=#[.int .u64 0,.int .i64 0,.int .i64 0,.bool xw,.int .i64 0,.slice U 0 0,.slice U 0 0,.slice U 0 0,.slice U 0 0,.slice U 0 0]
structure ScI (B:Nat->Prop) (w:World) (b:Nat) (h:Hp) (k done:Nat) (W:World):Prop where
 dq:∃x,NowI B W b (Y6 h done) x
 le:done<=k
 kb:W.heap[xz (xj w)+1]?=J (.cells #[.int .i64<|(k:Int) - (done:Nat)] 3 (0,0))
 r0:W.heap[xz (xj w)+2]?=J (.cells Kh 30 (0,0))
 r1:W.heap[xz (xj w)+3]?=J (.cells #[.int .i64 0] 34 (0,0))
 fn:W.heap[b+1]?=J (.cells #[.func (.func 52) #[] #[.pointer<|J ⟨b,0,U⟩]] 113 (0,0))
 gr:w.grownBy W U
def ScI.dx{B w b h k done W W' row}(S:ScI B w b h k done W)(a:W.grownBy W' row)(j:∀r,row=J r->xz (xj w)<=r/\∃o,W.heap[r]?=J o/\o.isCells=xw):ScI B w b h k done W':=by
 let⟨x,n⟩:=S.dq
 have q:∀c (o:Obj),W.heap[c]?=J o->o.isCells=xk->W'.heap[c]?=J o:=λc o d l=>(a.block c Zgl λe=>by
  let⟨_,p,f,g⟩:=j c e.symm;rw[d]at f;cases f;rw[l]at g;cases g).trans d
 exact⟨⟨x,n.dx a λr e=>(j r e).2⟩,S.le,q _ _ S.kb rfl,q _ _ S.r0 rfl,q _ _ S.r1 rfl,q _ _ S.fn rfl,Td S.gr a λr e=>Zgm⟩
def Z5T(W:Z3)(b:Nat):Calls xP 53 #[.pointer<|J ⟨b,0,U⟩] W λe d=>e=.returned (.func (.func 78) #[] #[.pointer<|J ⟨xz<|xj W,0,U⟩])/\d=W.alloc (.cells #[.pointer<|J ⟨b,0,U⟩] 117):=by
 have a:∀(fn:Go.Fn) (first cap:Zb) (w:Z3),(Instr.makeFunc fn first cap).run xP w=.ok (.func fn first cap) w:=λ_ _ _ _=>rfl;go_enter Fe,Try.ntmps53;go_wp2;exact Zi8 (v:=.func (.func 78) #[] #[.pointer<|J ⟨xz<|xj W,0,U⟩]) (by simp[results,Try.results53,go_sem]) rfl ⟨rfl,rfl⟩
def Z48(w:Z3)d a f g:∃W,(((w.alloc d).alloc a).alloc f).alloc g=W/\xz (xj W)=xz (xj w)+4/\w.grownBy W U/\W.heap[xz (xj w)+1]?=J a/\W.heap[xz (xj w)+2]?=J f/\W.heap[xz (xj w)+3]?=J g:=by
 refine⟨_,rfl,Z1,⟨rfl,rfl,rfl,Zgn,λk h _=> ?_⟩,?_,?_,?_⟩;rw[Zhz _ _ _ Zgn,Zhz _ _ _ Zgn,Zhz _ _ _ Zgn,Zhz _ _ _ h];rw[Zhz _ _ _ Z1,Zhz _ _ _ Z1];have:=Ziz (w.alloc d) a;rwa[Zjp]at this;rw[Zhz _ _ _ Z1];have:=Ziz ((w.alloc d).alloc a) f;simpa using this;have:=Ziz (((w.alloc d).alloc a).alloc f) g;simpa using this
def Za6{w w0 w1:Z3}{G:Z4}(u:∀b,G b->b<xz (xj w)){h:Hp}(A:h.ok){p:Pts}(r:Rt h p){k:Nat}{d:Z5}(H:xz (xj w0)=xz (xj w)+4)(n:w.grownBy w0 U)
  (k1:w0.heap[xz (xj w)+1]?=J (.cells #[.int .i64 k] 3 (0,0))) (K:w0.heap[xz (xj w)+2]?=J (.cells Kh 30 (0,0))) (L:w0.heap[xz (xj w)+3]?=J (.cells #[.int .i64 0] 34 (0,0)))
  (l:Below (xz<|xj w0) w0 w1) (hx:∀j,j<5->Rd w1 (λc=>G c\/(xz (xj w0)<=c/\c<xz (xj w1))) (.sl<|(Zu h j).map vu) (d j)):
  ∃w3,((w1.alloc<|.cells (Yq h d) 30).alloc<|.cells #[.func (.func 52) #[] #[.pointer<|J ⟨xz<|xj w1,0,U⟩]] 113).alloc (.cells #[.pointer<|J ⟨xz<|xj w1,0,U⟩] 117)=w3/\
   xz (xj w3)=xz (xj w1)+3/\xz (xj w0)<=xz (xj w1)/\ScI (λc=>G c\/xz (xj w)+4<=c) w (xz<|xj w1) h k 0 w3/\KnI (λc=>G c\/xz (xj w)+4<=c) (xz<|xj w1) (xz (xj w1)+2) p w3:=by
 refine⟨_,rfl,Z1,l.size,?_⟩;have g:∀c,c<xz (xj w1)->(((w1.alloc<|.cells (Yq h d) 30).alloc<|.cells #[.func (.func 52) #[] #[.pointer<|J ⟨xz<|xj w1,0,U⟩]] 113).alloc<|.cells #[.pointer<|J ⟨xz<|xj w1,0,U⟩] 117).heap[c]?=w1.heap[c]? :=λc a=>by
  rw[Zhz _ _ _ Zgn,Zhz _ _ _ Zgn,Zhz _ _ _ a]
 have F:xz (xj<|((w1.alloc<|.cells (Yq h d) 30).alloc<|.cells #[.func (.func 52) #[] #[.pointer<|J ⟨xz<|xj w1,0,U⟩]] 113).alloc<|.cells #[.pointer<|J ⟨xz<|xj w1,0,U⟩] 117)=xz (xj w1)+3:=Z1;have x:(((w1.alloc<|.cells (Yq h d) 30).alloc<|.cells #[.func (.func 52) #[] #[.pointer<|J ⟨xz<|xj w1,0,U⟩]] 113).alloc<|.cells #[.pointer<|J ⟨xz<|xj w1,0,U⟩] 117).heap[xz<|xj w1]?=J (.cells (Yq h d) 30 (0,0)):=by
  rw[Zhz _ _ _ Zgn,Zhz _ _ _ Z1];exact Ziz _ _
 have y:(((w1.alloc<|.cells (Yq h d) 30).alloc<|.cells #[.func (.func 52) #[] #[.pointer<|J ⟨xz<|xj w1,0,U⟩]] 113).alloc<|.cells #[.pointer<|J ⟨xz<|xj w1,0,U⟩] 117).heap[xz (xj w1)+1]?=J (.cells #[.func (.func 52) #[] #[.pointer<|J ⟨xz<|xj w1,0,U⟩]] 113 (0,0)):=by
  rw[Zhz _ _ _ Z1];have:=Ziz (w1.alloc<|.cells (Yq h d) 30)<|.cells #[.func (.func 52) #[] #[.pointer<|J ⟨xz<|xj w1,0,U⟩]] 113;rwa[Zjp]at this
 have z:(((w1.alloc<|.cells (Yq h d) 30).alloc<|.cells #[.func (.func 52) #[] #[.pointer<|J ⟨xz<|xj w1,0,U⟩]] 113).alloc<|.cells #[.pointer<|J ⟨xz<|xj w1,0,U⟩] 117).heap[xz (xj w1)+2]?=J (.cells #[.pointer<|J ⟨xz<|xj w1,0,U⟩] 117 (0,0)):=by
  have:=Ziz ((w1.alloc<|.cells (Yq h d) 30).alloc<|.cells #[.func (.func 52) #[] #[.pointer<|J ⟨xz<|xj w1,0,U⟩]] 113)<|.cells #[.pointer<|J ⟨xz<|xj w1,0,U⟩] 117;simpa using this
 have D:=l.size;have t:w1.grownBy (((w1.alloc<|.cells (Yq h d) 30).alloc<|.cells #[.func (.func 52) #[] #[.pointer<|J ⟨xz<|xj w1,0,U⟩]] 113).alloc<|.cells #[.pointer<|J ⟨xz<|xj w1,0,U⟩] 117) U:=⟨rfl,rfl,rfl,Z0,λc a _=>g c a⟩;generalize ((w1.alloc<|.cells (Yq h d) 30).alloc<|.cells #[.func (.func 52) #[] #[.pointer<|J ⟨xz<|xj w1,0,U⟩]] 113).alloc (.cells #[.pointer<|J ⟨xz<|xj w1,0,U⟩] 117)=w3 at*;have f:NowI (λc=>G c\/xz (xj w)+4<=c) w3 (xz<|xj w1) h d:=by
  refine⟨.inr Z0,x,λj B=>((hx j B).keep (λc a=>g c ?_) λc a=>a).mono λc a=> ?_⟩;obtain a|a:=a;have:=u c a;omega;exact a.2;obtain a|a:=a;have:=u c a;exact⟨.inl a,Z0,Z0⟩;exact⟨.inr Z0,Z0,Z0⟩
 have q:∀c o,w0.heap[c]?=J o->w3.heap[c]?=J o:=λc o a=>by
  have C:=Y7 a;rw[g c Z0,l.block c C];exact a
 exact⟨⟨⟨d,f⟩,Zis _,by rw[q _ _ k1];simp,q _ _ K,q _ _ L,y,Sf n<|Sf (Tc l U) t⟩,z,h,d,f,A,r⟩
def ScI.step{B w b h p q k done W W'}(z:h.ok)(r:Rt h p)(S:ScI B w b h k done W)(A:Rt (Y6 h done) q)(hc:(Y6 h done).Y=xk)(G:¬B (xz (xj w)+1))(Q:xz (xj w)+4<=b)(R:done<k)(a:W.grownBy W'<|J b)(H:∃x,NowI B W' b (WL<|Y6 h done) x):
  ScI B w b h k (done+1) (W'.setCell ⟨xz (xj w)+1,0,U⟩<|.int .i64<|k-done-1)/\KpN B b (xz (xj w)+1) W (W'.setCell ⟨xz (xj w)+1,0,U⟩<|.int .i64<|k-done-1)/\
   W.grownBy W' (J b)/\W'.grownBy (W'.setCell ⟨xz (xj w)+1,0,U⟩<|.int .i64<|k-done-1) (J<|xz (xj w)+1):=by
 have d:=ZjL W' (xz (xj w)+1)<|.int .i64<|k-done-1;let⟨x,K⟩:=H;have u:=K.kept d G;have C:Y6 h (done+1)=WL (Y6 h done):=by rw[RC,hc];simp
 have l:∀c o,W.heap[c]?=J o->c≠b->c≠xz (xj w)+1->(W'.setCell ⟨xz (xj w)+1,0,U⟩<|.int .i64<|k-done-1).heap[c]?=J o:=λc o D P F=>
  (ZhD _ _ _ _ F).trans ((a.block c Zgl Zgm).trans D)
 have j:=(a.block _ (Y7 S.kb) Zgl).trans S.kb;refine⟨⟨Zgl,Z0,?_,l _ _ S.r0 Z0 Z0,l _ _ S.r1 Z0 Z0,l _ _ S.fn Z0 Z0,?_⟩,⟨ZhU a.size d.size,Zgm,λT n=> ?_⟩,a,d⟩
 .have:k- ((done+1:Nat):Int)=k-done-1:=Z0;rw[this];simp[World.setCell,ZhW,j]
 exact Td (Td S.gr a λr e=>.inr (by cases e;omega)) d λr e=>.inr (by cases e;omega)
 .let⟨y,L⟩:=S.dq;have g:InBox B b q W:=⟨_,y,L,RB z r done,A⟩;let⟨O,M,f⟩:=A.aa hc;let⟨N,t⟩:=f.ig;refine⟨M,N,⟨_,x,u,?_,?_⟩,?_⟩
  .have:=RB z r<|done+1;rwa[C]at this
  rw[f.eq];exact f.rt;rw[t,g.H n]
def A0(w:Z3)(G:Z4)(g:Hp)(e:Ending)(w':Z3):Prop:=∃x,e=.returned (.tuple #[ZC g x,.int .i64 0])/\Below (xz<|xj w) w w'/\∀j,j<5->Rd w' (λc=>G c\/(xz (xj w)<=c/\c<xz (xj w'))) (.sl<|(Zu g j).map vu) (x j)
def Za4{B G:Z4}{w:Z3}{b:Nat}{h g:Hp}{k done:Nat}{W W8:Z3}{y:Z5}{D:Nat}(S:ScI B w b h k done W)(O:Y6 h done=g)(M:done=k\/(Y6 h done).Y=xw)(hn:NowI B W b g y)(hB:B=λc=>G c\/xz (xj w)+4<=c)(hG:∀c,G c->c<xz (xj w))
  (hD:xz (xj w)+4<=D) (A:W.heap[D]?=J (.deferred<|J [])) (X:Below (xz<|xj w) W W8) (Y:xz (xj W8)=xz (xj W)) (F:∀c,c≠xz (xj w)+1+1->W8.heap[c]?=W.heap[c]?) (h8:W8.heap[xz (xj w)+1+1]?=J (.cells (Yq g y) 30 (0,0))):
  (W8.setCell ⟨xz (xj w)+1+1+1,0,U⟩<|.int .i64 0).heap[D]?=J (.deferred<|J [])/\(∀j,((W8.setCell ⟨xz (xj w)+1+1+1,0,U⟩<|.int .i64 0).putObj D<|.deferred U).cell? ⟨xz (xj w)+1+1,j,U⟩=(Yq g y)[j]?)/\((W8.setCell ⟨xz (xj w)+1+1+1,0,U⟩<|.int .i64 0).putObj D<|.deferred U).cell? ⟨xz (xj w)+1+1+1,0,U⟩=J (.int .i64 0)/\
   A0 w G (Y6 h k) (.returned<|.tuple #[ZC g y,.int .i64 0]) ((W8.setCell ⟨xz (xj w)+1+1+1,0,U⟩<|.int .i64 0).putObj D<|.deferred U):=by
 have p:=ZjL W8 (xz (xj w)+1+1+1)<|.int .i64 0;have C:=S.r1;have e1:(W8.setCell ⟨xz (xj w)+1+1+1,0,U⟩<|.int .i64 0).heap[xz (xj w)+1+1+1]?=J (.cells #[.int .i64 0] 34 (0,0)):=
  Boxed.set _ (show Boxed W8 (xz (xj w)+1+1+1) 34 (.int .i64 0)from(F _ Z0).trans C)
 have e0:(W8.setCell ⟨xz (xj w)+1+1+1,0,U⟩<|.int .i64 0).heap[xz (xj w)+1+1]?=J (.cells (Yq g y) 30 (0,0)):=(ZhD _ _ _ _ (by show xz (xj w)+1+1≠xz (xj w)+1+1+1;omega)).trans h8;have x:∀c,c≠xz (xj w)+1+1->c≠xz (xj w)+1+1+1->(W8.setCell ⟨xz (xj w)+1+1+1,0,U⟩<|.int .i64 0).heap[c]?=W.heap[c]? :=λc z T=>(ZhD _ _ _ _ T).trans<|F c z;have a3:xz (xj<|W8.setCell ⟨xz (xj w)+1+1+1,0,U⟩<|.int .i64 0)=xz (xj W):=by rw[<-Y];simp[World.setCell]
 have R:Below (xz<|xj w) W<|W8.setCell ⟨xz (xj w)+1+1+1,0,U⟩<|.int .i64 0:=X.trans ⟨p.os,p.tape,p.output,p.size,λc f=>p.block c (by have:=Y7 C;omega) (λe=>by cases e;omega)⟩;generalize W8.setCell ⟨xz (xj w)+1+1+1,0,U⟩ (.int .i64 0)=t at*;have Z:t.heap[D]?=J (.deferred<|J []):=(x D Z0 Z0).trans A;have a4:=S.gr.size;have a2:=Y7 C;have f0:(t.putObj D<|.deferred U).heap[xz (xj w)+1+1]?=J (.cells (Yq g y) 30 (0,0)):=(ZhZ Z0).trans e0;have f1:(t.putObj D<|.deferred U).heap[xz (xj w)+1+1+1]?=J (.cells #[.int .i64 0] 34 (0,0)):=(ZhZ Z0).trans e1;have N:=Zkb t D<|.deferred U;have heq:Y6 h k=g:=by
  obtain e|e:=M;rw[<-e,O]
  .obtain⟨d,hd⟩:∃d,k=done+d:=⟨k-done,by have:=S.le;omega⟩;rw[hd,jv,JV e,O]
 have P:∀c,c≠xz (xj w)+1+1->c≠xz (xj w)+1+1+1->c≠D->(t.putObj D<|.deferred U).heap[c]?=W.heap[c]? :=λc z T h3=>(ZhZ Z0).trans<|x c z T;refine⟨Z,λj=>Zhv _ _ j _ _ _ f0,by rw[Zhv _ _ _ _ _ _ f1];rfl,y,by rw[heq],⟨?_,?_,?_,?_,λc f=> ?_⟩,λj hj=> ?_⟩;rw[N.os,R.os];exact S.gr.os;rw[N.tape,R.tape];exact S.gr.tape;rw[N.output,R.output];exact S.gr.output;have:=N.size;omega;rw[P c Z0 Z0 Z0];exact S.gr.block c f Z1;rw[heq];have z:=hn.rd j hj;have hW:xz (xj W)<=xz (xj<|t.putObj D<|.deferred U):=by have:=N.size;omega
 generalize hL:(Zu g j).map vu=L at z⊢;generalize y j=yj at z⊢;cases z with
 |nil a cap f=>exact .nil a cap f
 |sl _ d o cap Q vs q1 q2 q3 q4 q5 q6=>
  have r:G d\/xz (xj w)+4<=d:=by have:=q3.1;rw[hB]at this;exact this
  have H:G d->d<xz (xj w):=hG d;have l:∀i c,(flat L)[i]?=J c->Rd (t.putObj D<|.deferred U) (λc=>G c\/(xz (xj w)<=c/\c< xz (xj<|t.putObj D<|.deferred U))) c (vs i):=λi c f=>by
   have h7:=q6 i c f;rw[<-hL,yr,ZhG]at f;cases hu:(Zu g j)[i]? with
   |none=>rw[hu]at f;cases f
   |some u=>
    rw[hu]at f;cases f;rw[Sw h7];exact .int _ _
  by_cases K:d=D;subst K;have a0:I L*Q=0:=by
   cases a1:I L*Q with
   |zero=>rfl
   |succ n=>
    have:=q5 0 Z0;unfold World.cell? at this;rw[A]at this;cases this
  refine .sl _ d o cap Q vs q1 q2 ?_ q4 (λi hi=>Z0) l;obtain q|q:=r;exact .inl q;exact .inr ⟨Z0,by have:=Y7 A;omega⟩;refine .sl _ d o cap Q vs q1 q2 ?_ q4 (λi hi=> ?_) l;obtain q|q:=r;exact .inl q;exact .inr ⟨Z0,by have:=q3.2.1;omega⟩;rw[<-q5 i hi];refine Zie (a:=⟨d,o+i,U⟩)<|P d ?_ ?_ K;obtain q|q:=r;have:=H q;omega;omega;obtain q|q:=r;have:=H q;omega;omega
def Pe{B G:Z4}{w:Z3}{b:Nat}{h g:Hp}{k done:Nat}{W:Z3}{y:Z5}{D:Nat}(S:ScI B w b h k done W)(f:Y6 h done=g)(a:done=k\/(Y6 h done).Y=xw)(q:NowI B W b g y)(l:B=λc=>G c\/xz (xj w)+4<=c)(o:∀c,G c->c<xz (xj w))
  (n:xz (xj w)+4<=D) (d:W.heap[D]?=J (.deferred<|J [])):
  ((RT W (xz (xj w)+1+1) g y).setCell ⟨xz (xj w)+1+1+1,0,U⟩<|.int .i64 0).heap[D]?=J (.deferred<|J [])/\(∀j,(((RT W (xz (xj w)+1+1) g y).setCell ⟨xz (xj w)+1+1+1,0,U⟩<|.int .i64 0).putObj D<|.deferred U).cell? ⟨xz (xj w)+1+1,j,U⟩=(Yq g y)[j]?)/\(((RT W (xz (xj w)+1+1) g y).setCell ⟨xz (xj w)+1+1+1,0,U⟩<|.int .i64 0).putObj D<|.deferred U).cell? ⟨xz (xj w)+1+1+1,0,U⟩=J (.int .i64 0)/\
    A0 w G (Y6 h k) (.returned<|.tuple #[ZC g y,.int .i64 0]) (((RT W (xz (xj w)+1+1) g y).setCell ⟨xz (xj w)+1+1+1,0,U⟩<|.int .i64 0).putObj D<|.deferred U):=by
 exact Za4 (W8:=RT W (xz (xj w)+1+1) g y) S f a q l o n d (Vq (ZhH (xz<|xj w) W) Z0) ZgZ (λc p=>UM p)<|qX S.r0
def Za7(w:Z3)(G:Z4)(hG:∀b,G b->b<xz (xj w))(h:Hp)(hh:h.ok)(a:Z5)(hs:∀j,j<5->Rd w G (.sl<|(Zu h j).map vu) (a j)){p:Pts}(r:Rt h p){k:Nat}(hk:(k:Int)<9223372036854775808):
  Calls xP 34 #[ZC h a,.int .i64 k] w (A0 w G<|Y6 h k):=by
 refine(Zjs (n:=5)).1 ?_;have i7:∀(fn:Go.Fn) (first cap:Zb) (w:Z3),(Instr.makeFunc fn first cap).run xP w=.ok (.func fn first cap) w:=λ_ _ _ _=>rfl;refine callsIn_of_wp_marks Z1A rfl trivial ?_ rfl;simp only[Try.ntmps34,ZiP,ZiD,Ziu,Nat.reduceAdd,Nat.reduceSub,Zja,Zjb,ZjF,Zjh,Zic,ZiC];have HO:=λW (hb:Below (xz<|xj w) w W)=>Z7J W G (λb q=>Zhr (hG b q) hb.size) h hh a λj hj=>(hs j hj).keep (λb g6=>hb.block b<|hG b g6) λ_ q=>q;have b3:=Zhp HO;clear HO;unfold ZC;gi_wp2
 refine ZbF ?_;gi_wp2
 refine⟨trivial,(Zjs.2<|b3.out _<|((((ZhH _ _).alloc (Zhm _) _).alloc Z1 _).alloc Zgn _).alloc Zgn _).mono ?_⟩;rintro e w1 ⟨x1,rfl,b9,F⟩;obtain⟨a0,c0,e0⟩:=Rd.bu<|F 0 Z0;obtain⟨a1,c1,e1⟩:=Rd.bu<|F 1 Z0;obtain⟨a2,c2,e2⟩:=Rd.bu<|F 2 Z0;obtain⟨a3,c3,e3⟩:=Rd.bu<|F 3 Z0;obtain⟨a4,c4,e4⟩:=Rd.bu<|F 4 Z0;have b1:=Zhp<|And.intro b9 F;clear b9 F;unfold ZC;gi_wp2
 refine wpIn_label ?_;gi_wp2
 refine⟨trivial,(Zjs.2<|Z5T _ _).mono ?_⟩;rintro e w3 ⟨rfl,e6⟩;obtain⟨w0,a9,h7,g8,k1,R,T⟩:=Z48 w (.cells #[.int .u64 h.base,.int .i64 h.cap,.int .i64 h.to,.bool h.Y,.int .i64 h.aa,a 0,a 1,a 2,a 3,a 4] 30) (.cells #[.int .i64 k] 3) (.cells Kh 30)<|.cells #[.int .i64 0] 34;have hC:Yq h x1=#[.int .u64 h.base,.int .i64 h.cap,.int .i64 h.to,.bool h.Y,.int .i64 h.aa,.slice a0 (I<|Zu h 0) c0,.slice a1 (I<|Zu h 1) c1,.slice a2 (I<|Zu h 2) c2,.slice a3 (I<|Zu h 3) c3,.slice a4 (I<|Zu h 4) c4]:=by
  simp only[Yq,e0,e1,e2,e3,e4,ZhN]
 have N:=b1.out;unfold Kh at a9;rw[a9]at N;obtain⟨j0,L,h8,i8,b8,b7⟩:=Za6 hG hh r h7 g8 k1 R T N.1 N.2;rw[hC]at L;rw[L]at e6;subst e6;clear b1 N L hC e0 e1 e2 e3 e4 a9 k1 R T b3;simp only[Zjp];gi_wp2
 have g7:xz (xj w)+4<=xz (xj w1):=Z0;have b5:¬(G (xz (xj w)+1)\/xz (xj w)+4<=xz (xj w)+1):=λh=>by
  obtain h|h:=h;have:=hG _ h;omega;omega
 generalize i5:xz (xj w1)=b at*;obtain⟨B,hB⟩:∃B:Z4,B=λc=>G c\/xz (xj w)+4<=c:=⟨_,rfl⟩;rw[<-hB]at b8 b7;have b6:¬B (xz (xj w)+1):=by rw[hB];exact b5
 have f9:∀c,xz (xj w)+4<=c->B c:=λc hc=>by rw[hB];exact .inr hc
 have b2:=Zhp hB;clear hB b5;have d9:=Z5S 4 (B:=B) (b:=b) (bk:=b+2) (kb:=xz (xj w)+1) b7 Z0 Z0 Z0 Z0
 refine ZbE rfl Z0 (gf:=78) (lb:=#[.pointer<|J ⟨b+2,0,U⟩]) ?hg trivial (enters_of Fm Z2 rfl)
  d9 KpN.trans (λW l o o' _ h2 h3 _=>KpN.put o' h2 h3) (ZhH _ _) (λ_=>rfl)
  (λpre W=>∃done,ScI B w b h k done W/\(I pre:Int)<=(Y6 h done).aa)
  (λc pre W=>c=.exit 0/\∃done,ScI B w b h k done W/\(done=k\/(Y6 h done).Y=xw))
  ?hI (λ_ _ _=>trivial) ?hIx ?hPx ?hS ⟨0,b8,by have:=r.gi;show((0:Nat):Int)<=h.aa;omega⟩
  (fun x=> {tmps:=#[.agg #[.int .u64 h.base,.int .i64 h.cap,.int .i64 h.to,.bool h.Y,.int .i64 h.aa,a 0,a 1,a 2,a 3,a 4],.int .i64 k,.pointer<|J ⟨xz<|xj w,0,U⟩,.pointer<|J ⟨xz (xj w)+1,0,U⟩,.pointer<|J ⟨xz (xj w)+1+1,0,U⟩,.pointer<|J ⟨xz (xj w)+1+1+1,0,U⟩,.pointer<|J ⟨b,0,U⟩,.pointer<|J ⟨b+1,0,U⟩,.int .i64 (x.1:Nat),.bool x.2,xy,
    .agg #[.int .u64 h.base,.int .i64 h.cap,.int .i64 h.to,.bool h.Y,.int .i64 h.aa,a 0,a 1,a 2,a 3,a 4],.agg #[.int .u64 h.base,.int .i64 h.cap,.int .i64 h.to,.bool h.Y,.int .i64 h.aa,.slice a0 (I<|Zu h 0) c0,.slice a1 (I<|Zu h 1) c1,.slice a2 (I<|Zu h 2) c2,.slice a3 (I<|Zu h 3) c3,.slice a4 (I<|Zu h 4) c4],
    .func (.func 52) #[] #[.pointer<|J ⟨b,0,U⟩],.func (.func 78) #[] #[.pointer<|J ⟨b+2,0,U⟩],.int .i64 (x.1:Nat),.bool x.2,xy,xy,xy,xy,xy,xy,xy,xy,xy,xy,xy,xy,xy,xy,xy,xy,xy,xy,xy,xy,xy,xy,xy],defers:=[]})
  ?assign ?body ?done ?stop
 case hg=>rfl
 case hI=>
  rintro pre X Y row ⟨done,S,hl⟩ hg Q;exact⟨done,S.dx hg λr e=>⟨by have:=(Q r e).1;omega,(Q r e).2⟩,hl⟩
 case hIx=>
  rintro c pre X Y row ⟨hc,done,S,hl⟩ hg Q;exact⟨hc,done,S.dx hg λr e=>⟨by have:=(Q r e).1;omega,(Q r e).2⟩,hl⟩
 case hPx=>
  rintro pre x _ X Y row ⟨p',h4,hx⟩ hg Q;exact⟨p',h4.dx hg λr e=>(Q r e).2,hx⟩
 case hS=>
  rintro xs X Y row ⟨g,x,hx,hl⟩ hg Q;exact⟨g,x,hx.dx hg λr e=>(Q r e).2,hl⟩
 case assign=>
  rintro l x W K2 g5;simp only[List.zip_cons_cons,Array.zip,BE];gi_wp2
  exact g5
 case body=>
  rintro l pre x W ⟨done,S,a7⟩ ⟨p',P,hx⟩ i3;obtain⟨q,sc⟩:=r.dh done;have b4:=RB hh r done;obtain⟨y,t⟩:=S.dq;have rq:Rt (Y6 h done) p'/\x=(I pre,WY p'.H<|I pre):=by
   obtain⟨g',x',h1,h2,h3⟩:=P;have:=t.gq h1;subst this;exact⟨h3,hx⟩
  obtain⟨rg,h6⟩:=rq;subst h6;obtain⟨g,H⟩:∃g,Y6 h done=g:=⟨_,rfl⟩;have d:=t.nb;have z:=Z1a W B b (λc hc=>f9 c (by have:=Y7 d;omega)) _ y t b4 rg;rw[H]at a7 b4 rg d z;unfold Yq at d;have yb:∀j,W.cell? ⟨b,j,U⟩=(#[.int .u64 g.base,.int .i64 g.cap,.int .i64 g.to,.bool g.Y,.int .i64 g.aa,y 0,y 1,y 2,y 3,y 4]:Array Value)[j]? :=λj=>Zhv _ _ _ _ _ _ d;have i0:=Zhv _ _ 0 _ _ _ S.kb;have h9:=Zhv _ _ 0 _ _ _ S.fn;simp only[ZiV,ZjK]at i0 h9;have i4:W.frozen? ⟨xz (xj w)+1,0,U⟩=xw:=Yp S.kb;by_cases A:done=k\/g.Y=xw
  .have HE:=Zhp<|And.intro S<|And.intro A H;have h0:((k:Int) - (done:Nat)==0)=xk\/(((k:Int) - (done:Nat)==0)=xw/\g.Y=xw):=by
    obtain e|e:=A;exact .inl Zgn
    .by_cases e2:done=k;exact .inl Zgn;exact .inr ⟨Zgn,e⟩
   clear t S d A H P z;obtain hq|⟨hq,i6⟩:=h0
   .gi_wp2
    exact⟨Zlu _ _,rfl,done,HE.out.1,by rw[HE.out.2.2];exact HE.out.2.1⟩
   .gi_wp2
    exact⟨Zlu _ _,rfl,done,HE.out.1,by rw[HE.out.2.2];exact HE.out.2.1⟩
  .have hd:done<k:=by have:=S.le;omega
   have O:g.Y=xk:=by cases c8:g.Y<;>simp_all
   have hq:((k:Int) - (done:Nat)==0)=xw:=Zgn;have h5:=rg.dy;have HH:=Zhp<|And.intro S<|And.intro t<|And.intro H<|And.intro rg hd;have e8:=Zhp<|z O;have Z:=t.rd 0 Z0;by_cases d5:I pre<g.aa
   .have d6:((I pre:Int)<g.aa)=True:=ZjW d5;clear t S d A H P z rg Z;gi_wp2
    exact⟨Zlu _ _,⟨Zhm _,λ_ _ h _ _ _=>h,λp hp=>⟨p,[],hp,Z1⟩⟩,done,HH.out.1,by rw[HH.out.2.2.1];simp;omega⟩
   .have d6:((I pre:Int)<g.aa)=False:=Zk0 d5;have d8:(I pre:Int)=g.aa:=Z0;clear t S d A H P z rg Z;gi_wp2
    refine⟨trivial,(CallsIn.inRound l<|Zjs.2 e8.out).mono ?_⟩;rintro e W2 ⟨rfl,a6,a8⟩;have i9:=Zy ((k:Int) - (done:Nat) -1) Z0 Z0;obtain⟨s1,s2,s3,s4,s5⟩:=HH.out;rw[<-s3]at a8;have e5:=s1.step hh r (by rw[s3];exact s4) (by rw[s3];exact O) b6 g7 s5 a6 a8;have K:W2.heap[xz (xj w)+1]?=J (.cells #[.int .i64<|(k:Int) - (done:Nat)] 3 (0,0)):=(a6.block _ (Y7 s1.kb) (λe=>by cases e;omega)).trans s1.kb;have e7:=Zhv _ _ 0 _ _ _ K;simp only[ZiV,ZjK]at e7;have i2:W2.frozen? ⟨xz (xj w)+1,0,U⟩=xw:=Yp K;have f5:=Zhp e5;have e9:=Zhp d8;clear s1 s2 s3 s4 s5 a6 a8 e5 K d8;gi_wp2
    obtain⟨t1,t2,t3,t4⟩:=f5.out;obtain⟨s1,s2,s3,s4,s5⟩:=HH.out;have h8:=s1.gr.size;refine⟨(KeepsFrom.of_grownBy t3 λj e=>by cases e;omega).trans (KeepsFrom.of_grownBy t4 λj e=>by cases e;omega),t2,done+1,t1,?_⟩;obtain⟨g',q',f⟩:=s4.aa O;rw[RC,s3,O];simp only[Zig];rw[f.eq,f.num.2.2.2];have:=e9.out;simp;omega
 case done=>
  rintro D xs W hD ⟨g0,x0,d7,g9⟩ ⟨done,S,a7⟩ a5;have u:done=k\/(Y6 h done).Y=xw:=by
   obtain⟨q,sc⟩:=r.dh done;obtain⟨y,t⟩:=S.dq;have:=t.gq d7;subst this;cases c8:(Y6 h done).Y with
   |false=>exact .inr rfl
   |true=>have:=sc.rt.lj c8;omega
  obtain⟨y,t⟩:=S.dq;have HF:=Zhp<|And.intro S<|And.intro u t;have d:=t.nb;obtain⟨d0,f0,C⟩:=Rd.bu<|t.rd 0 Z0;obtain⟨d1,f1,g1⟩:=Rd.bu<|t.rd 1 Z0;obtain⟨d2,f2,g2⟩:=Rd.bu<|t.rd 2 Z0;obtain⟨d3,f3,g3⟩:=Rd.bu<|t.rd 3 Z0;obtain⟨d4,f4,g4⟩:=Rd.bu<|t.rd 4 Z0;unfold Yq at d;rw[C,g1,g2,g3,g4]at d;have yb:∀j,W.cell? ⟨b,j,U⟩=_:=λj=>Zhv _ _ _ _ _ _ d;have b0:∀j,W.cell? ⟨xz (xj w)+1+1,j,U⟩=_:=λj=>Zhv _ _ _ _ _ _ S.r0;have i1:∀j,W.cell? ⟨xz (xj w)+1+1+1,j,U⟩=_:=λj=>Zhv _ _ _ _ _ _ S.r1;have f7:∀j,W.frozen? ⟨xz (xj w)+1+1,j,U⟩=xw:=λj=>Yp S.r0;have f8:∀j,W.frozen? ⟨xz (xj w)+1+1+1,j,U⟩=xw:=λj=>Yp S.r1;unfold Kh at b0;have M:=Pe (G:=G) S rfl u t b2.out hG Z0 a5;unfold RT Tp at M;unfold Yq ZC at M;rw[C,g1,g2,g3,g4]at M;simp only[ZhN]at M;obtain⟨k1,R,k4,T⟩:=M;have HK:=Zhp T;clear d7 g9 a7 u t d S C g1 g2 g3 g4 T;gi_wp2
  refine⟨Z1,.inl ⟨D,_,rfl,ZkA k1,?_⟩⟩;refine⟨_,?_,HK.out⟩;clear HK HF k1;generalize World.putObj _ D (.deferred U)=f6 at R k4⊢;simp[results,Try.results34,go_sem,R,k4]
 case stop=>
  rintro D c pre W hD ⟨rfl,done,S,u⟩ a5;obtain⟨y,t⟩:=S.dq;have HF:=Zhp<|And.intro S<|And.intro u t;have d:=t.nb;obtain⟨d0,f0,C⟩:=Rd.bu<|t.rd 0 Z0;obtain⟨d1,f1,g1⟩:=Rd.bu<|t.rd 1 Z0;obtain⟨d2,f2,g2⟩:=Rd.bu<|t.rd 2 Z0;obtain⟨d3,f3,g3⟩:=Rd.bu<|t.rd 3 Z0;obtain⟨d4,f4,g4⟩:=Rd.bu<|t.rd 4 Z0;unfold Yq at d;rw[C,g1,g2,g3,g4]at d;have yb:∀j,W.cell? ⟨b,j,U⟩=_:=λj=>Zhv _ _ _ _ _ _ d;have b0:∀j,W.cell? ⟨xz (xj w)+1+1,j,U⟩=_:=λj=>Zhv _ _ _ _ _ _ S.r0;have i1:∀j,W.cell? ⟨xz (xj w)+1+1+1,j,U⟩=_:=λj=>Zhv _ _ _ _ _ _ S.r1;have f7:∀j,W.frozen? ⟨xz (xj w)+1+1,j,U⟩=xw:=λj=>Yp S.r0;have f8:∀j,W.frozen? ⟨xz (xj w)+1+1+1,j,U⟩=xw:=λj=>Yp S.r1;unfold Kh at b0;have M:=Pe (G:=G) S rfl u t b2.out hG Z0 a5;unfold RT Tp at M;unfold Yq ZC at M;rw[C,g1,g2,g3,g4]at M;simp only[ZhN]at M;obtain⟨k1,R,k4,T⟩:=M;have HK:=Zhp T;clear u t d S C g1 g2 g3 g4 T;gi_wp2
  refine⟨Z1,.inl ⟨D,_,rfl,ZkA k1,?_⟩⟩;refine⟨_,?_,HK.out⟩;clear HK HF k1;generalize World.putObj _ D (.deferred U)=f6 at R k4⊢;simp[results,Try.results34,go_sem,R,k4]
end
end Vm
end
section
namespace Vm
open Go Go.Proofs
section
structure Made (b:Bt) (x:Rw):Prop where
 pl:Placed b x
 bd:ZJ (Zv b.h)=xk
 su:∀n∈b.g.nodes,ZL n<=9
 lj:b.h.Y=xk->∀i,i<I b.g.nodes->(ZD b i).part=1->(Y8 b i).part≠0
 aa:0<=b.h.aa/\b.h.aa<=I b.h.H/\(if b.h.Y then b.h.aa<(I b.h.H) else b.h.aa=I b.h.H/\b.h.ah=[]/\b.h.al=[])
 room:(I b.h.H:Int)+I b.h.ab+((Y1 (obs b 3)+Y1 (obs b 4):Nat):Int)<=b.h.cap
 lp:Ym b.h.aa
def QF(b:Bt):Pts:=⟨obs b 1,obs b 2,obs b 3,obs b 4⟩
theorem D6(b:Bt){k:Int}(d:1<=k/\k<=4):(QF b).at k=obs b k:=by
 have a:k=1\/k=2\/k=3\/k=4:=Z0;obtain rfl|rfl|rfl|rfl:=a<;>rfl
section
variable {b:Bt}{x:Rw}
def Made.fill(m:Made b x):(Yx x b).ok/\Zv (Yx x b)=Zv b.h/\(Yx x b).aa=b.h.aa/\(Yx x b).Y=b.h.Y:=GM m.pl.ok m.lp
def Made.ak(m:Made b x){k:Int}(a:1<=k/\k<=4):Tiles (Zw (Yx x b) k) (decide (2<k)) 0<|obs b k:=Z7e m.pl m.bd m.su a
def Made.start(m:Made b x){k a:Int}(f:1<=k/\k<=4)(d:0<=a/\a<YS (Zv b.h) k):YZ (Yx x b) k a=fstL (Zv b.h) k+a:=by
 unfold YZ;rw[m.fill.2.1,SY m.bd f d]
def jH(n:Nd):1<=ZL n:=by grind [ZL]
def Made.ly(m:Made b x){i:Nat}(a:i<I b.g.nodes)(d:(ZD b i).part≠0):∃o∈obs b (ZD b i).part,o.Z=(ZD b i).Z/\o.size=((ZO b i).M.length:Int)+(ZO b i).data.length/\o.M=(ZO b i).M.length/\o.gone=xw:=
 ⟨_,Jy.2 ⟨i,a,by unfold Xg;rw[Zht rfl];exact .head _⟩,rfl,rfl,rfl,rfl⟩
def Made.rz(m:Made b x){i:Nat}(f:i<I b.g.nodes)(h:(Y8 b i).part≠0):∃o∈obs b (Y8 b i).part,o.Z=(Y8 b i).Z:=by
 obtain⟨j,k,l,n⟩:=m.pl.di f h;have a:¬(ZD b i).part=(Y8 b i).part:=by
  by_cases d:(ZD b i).part=0;omega;have:=(m.pl.ct f d).1;omega
 by_cases d:(ZD b i).part=0;exact⟨_,Jy.2 ⟨i,f,by unfold Xg;rw[Zhs a,Zht rfl,Zht d];exact .head _⟩,rfl⟩;exact⟨_,Jy.2 ⟨i,f,by unfold Xg;rw[Zhs a,Zht rfl,Zhs d];exact .head _⟩,rfl⟩
def Made.mf(m:Made b x){i:Nat}(d:i<I b.g.nodes):Xz (Yx x b) (QF b) (YJ b.h<|ZD b i) 1 2=xk:=by
 by_cases a:(ZD b i).part=0;simp_all[YJ,ZD,Zht,Xz];obtain⟨k,l,n⟩:=m.pl.ct d a;have p:=jH<|ZO b i;obtain⟨o,j,f,_⟩:=m.ly d a;rw[m.pl.fw m.bd d a];unfold Xz;rw[Ut m.bd Z0];have:(YG (Yx x b) (ZD b i).part (obs b (ZD b i).part)<|fstL (Zv b.h) (ZD b i).part+(ZD b i).Z).isSome=xk:=by
  refine Ah.2 ⟨o,j,?_⟩;rw[f,m.start Z0 ⟨Z0,Z0⟩]
 grind [D6]
def Made.sg(m:Made b x){i:Nat}(d:i<I b.g.nodes):Xz (Yx x b) (QF b) (YJ b.h<|Y8 b i) 3 4=xk:=by
 by_cases a:(Y8 b i).part=0;simp_all[YJ,Y8,Zht,Xz];obtain⟨k,l,_,n⟩:=m.pl.di d a;have p:=jH<|ZO b i;obtain⟨o,j,f⟩:=m.rz d a;rw[m.pl.ra m.bd d a];unfold Xz;rw[Ut m.bd Z0];have:(YG (Yx x b) (Y8 b i).part (obs b (Y8 b i).part)<|fstL (Zv b.h) (Y8 b i).part+(Y8 b i).Z).isSome=xk:=by
  refine Ah.2 ⟨o,j,?_⟩;rw[f,m.start Z0 ⟨Z0,Z0⟩]
 grind [D6]
def Made.cx(m:Made b x){k:Int}(j:1<=k/\k<=4){o q:Ob}(f:o∈obs b k)(g:q∈obs b k)(h:q.Z=o.Z):q=o:=by
 have d:=m.ak j;obtain a|a|a:=d.apart q g o f;exact a;have:=Yy.1 (d.ba q g).1.shape;omega;have:=Yy.1 (d.ba o f).1.shape;omega
def Made.ld(m:Made b x){k:Int}(d:1<=k/\k<=4){o:Ob}(f:o∈obs b k):0<=o.Z/\o.Z<YS (Zv b.h) k:=by
 have a:=((m.ak d).ba o f).1;have g:=Yy.1 a.shape;have j:=a.au;have l:=a.iz;have:YS (Zv b.h) k=I (Zw (Yx x b) k):=by rw[<-m.fill.2.1,Pu _ d]
 omega
def Made.find(m:Made b x){k:Int}(a:1<=k/\k<=4){o:Ob}(d:o∈obs b k):YG (Yx x b) k (obs b k) (fstL (Zv b.h) k+o.Z)=J o:=by
 rw[<-m.start a (m.ld a d)];refine FX d λq f e=>m.cx a d f ?_;rw[m.start a<|m.ld a d,m.start a<|m.ld a f]at e;omega
def Z6u{k:Int}{i:Nat}{o:Ob}(h:o∈Xg b k i)(a:o.gone=xk):¬(ZD b i).part=k/\(Y8 b i).part=k/\¬(ZD b i).part=0/\o=⟨(Y8 b i).Z,((ZO b i).M.length:Int)+(ZO b i).data.length,(ZO b i).M.length,xk,(adr<|YJ b.h<|ZD b i).1⟩:=by
 grind [Xg]
def Made.gone(m:Made b x){k:Int}(y:3<=k/\k<=4):QX (Yx x b) (obs b 1)<|obs b k:=by
 intro o n j;obtain⟨i,d,g⟩:=Jy.1 n;obtain⟨u,w,f,rfl⟩:=Z6u g j;obtain⟨z,A,B⟩:=m.pl.ct d f;have l:=(m.pl.di d Z0).2.2.1;have a:(ZD b i).part=1:=Z0;obtain⟨q,h,p,r,t,_⟩:=m.ly d f;rw[a]at h;refine⟨q,?_,r,t⟩;simp only;rw[m.pl.fw m.bd d f,Ut m.bd Z0,a,<-p];exact m.find Z0 h
def Made.fp(m:Made b x):XE (Yx x b)=J (QF b):=
 NW (m.ak (k:=1) Z0) (m.ak (k:=2) Z0) (m.ak (k:=3) Z0) (m.ak (k:=4) Z0) (m.gone Z0) (m.gone Z0)
def PS(l r:Zi)(a:Int):X9 (l++r) a=X9 l a+X9 r a:=by simp[X9]
def PU(b:Bt)(k:Int)(j:Nat)(a:Int):X9 (Xg b k j) a=if ¬(ZD b j).part=k/\(Y8 b j).part=k/\¬(ZD b j).part=0/\(adr<|YJ b.h<|ZD b j).1=a then 1 else 0:=by
 unfold Xg;by_cases d:(ZD b j).part=k;simp_all[Zht,Zhs,X9];rw[Zhs d];by_cases f:(Y8 b j).part=k;rw[Zht f];by_cases g:(ZD b j).part=0;simp_all[Zht,Zhs,X9];rw[Zhs g];by_cases l:(adr<|YJ b.h<|ZD b j).1=a;simp_all[Zht,X9];simp_all[Zhs,X9];simp_all[Zhs,X9]
def Made.ff(m:Made b x)(hc:b.h.Y=xk){i:Nat}(n:i<I b.g.nodes)(q:(ZD b i).part=1):US (QF b) (fstL (Zv b.h) 1+(ZD b i).Z)=1:=by
 have key:∀j,j<=I b.g.nodes->X9 ((List.range j).flatMap<|Xg b 3) (fstL (Zv b.h) 1+(ZD b i).Z)+X9 ((List.range j).flatMap<|Xg b 4) (fstL (Zv b.h) 1+(ZD b i).Z)=if i<j then 1 else 0:=by
  intro j;induction j with
  |zero=>grind [X9]
  |succ j t=>
   intro G;have t:=t Z0;have a:j<I b.g.nodes:=Z0;rw[ZjG,Zji,Zji,PS,PS];simp only[Zl6,List.flatMap_nil,ZiE];have p:X9 (Xg b 3 j) (fstL (Zv b.h) 1+(ZD b i).Z)+X9 (Xg b 4 j) (fstL (Zv b.h) 1+(ZD b i).Z)=if j=i then 1 else 0:=by
    rw[PU,PU];by_cases l:(ZD b j).part=0;grind;obtain⟨H,C,K⟩:=m.pl.ct a l;by_cases d:(ZD b j).part=1;have y:=m.lj hc j a d;obtain⟨v1,_⟩:=m.pl.di a y;have B:(adr<|YJ b.h<|ZD b j).1=fstL (Zv b.h) 1+(ZD b j).Z:=by rw[m.pl.fw m.bd a l,Ut m.bd Z0,d]
    have heq:(fstL (Zv b.h) 1+(ZD b j).Z=fstL (Zv b.h) 1+(ZD b i).Z)↔j=i:=by
     constructor;intro e;obtain⟨w1,w2,w3⟩:=m.pl.ct n Z0;rw[d]at C;rw[q]at w2;have z:=jH<|ZO b i;have A:=jH<|ZO b j;have D:I (YV b x 1 i)=ZL (ZO b i):=by unfold YV;rw[Zht q];exact UG _ _ _ _
     have F:I (YV b x 1 j)=ZL (ZO b j):=by unfold YV;rw[Zht d];exact UG _ _ _ _
     by_cases w:j<i;obtain⟨r,k⟩:=Kx b x 1 (Z0:j+1<=i);rw[Ud]at k;grind;by_cases u:i<j;obtain⟨r,k⟩:=Kx b x 1 (Z0:i+1<=j);rw[Ud]at k;grind;omega;simp_all
    grind;have f:(ZD b j).part=2:=Z0;have o:(Y8 b j).part=0:=by
     by_cases h:(Y8 b j).part=0;exact h;exact absurd f (m.pl.di a h).2.2.1
    grind
   grind
 have:=key (I b.g.nodes)<|Zhm _;rw[Zht n]at this;exact this
end
end
section
section
variable {b:Bt}{x:Rw}
def Made.word(m:Made b x){k:Int}(a:1<=k/\k<=4){i t:Nat}(d:i<I b.g.nodes)(h:t< I (YV b x k i)):(Zw (Yx x b) k)[I (X2 b x k i)+t]?=(YV b x k i)[t]? :=by
 rw[GN m.pl a];obtain⟨r,f⟩:=Kx b x k (Z0:i+1<=I b.g.nodes);simp_all[Ud,Zi7,ZhJ,Zkh,ZhQ]
def IC{p:Pl}{n:Nd}{tw:Int}{j:Nat}(a:j<I n.M):∃q∈n.M,(XU b p n tw)[1+j]?=J (Vt b ⟨p.part,((p.Z.toNat+1+j:Nat):Int)⟩ q<|IntKind.i64.wrap<|tw+j):=by
 refine⟨n.M[j],ZhE a,?_⟩;simp_all[XU,Zky,Zkd,ZhQ,XP]
theorem B5(h:Hp)(p:Pts)(k j:Int):Xz h p 0 k j=xk:=Zhb
def Made.nj(m:Made b x)(r:∀n∈b.g.nodes,∀q∈n.M,-1<=q/\q< (I b.g.nodes:Int)){i:Nat}(y:i<I b.g.nodes){k:Int}{p:Pl}(o:p.part=k){a:Nat}{d tw:Int}(f:d∈(ZO b i).M)(u:((Zw (Yx x b) k)[a]?).getD 0=Vt b ⟨p.part,(a:Int)⟩ d tw):Up (Yx x b) (QF b) k a=xk:=by
 have w:=r (ZO b i) (by simp_all[ZO,Zhi,ZhE]) d f;unfold Up;simp only[u];unfold Vt;rw[o];by_cases l:d<0;simp_all[Zht,B5];obtain⟨t,rfl⟩:=Zhy (Z0:0<=d);have j:t<I b.g.nodes:=Z0;rw[Zhs l];have g1:=m.mf (i:=t) j;have g2:=m.sg (i:=t) j;unfold ZD at g1;unfold Y8 at g2;simp only[ZhA];by_cases h:2<k;simp_all;rw[Zhs h,Zhs h];rw[m.fill.2.2.1];grind
def Made.M(m:Made b x)(C:∀n∈b.g.nodes,∀q∈n.M,-1<=q/\q< (I b.g.nodes:Int)){k:Int}(u:1<=k/\k<=4):WJ (Yx x b) (QF b) k=xk:=by
 unfold WJ;rw[D6 b u,Zhw];intro o D;obtain⟨i,d,a⟩:=Jy.1 D;unfold qv;rw[Zhw];intro j h;rw[Zk3]at h;unfold Xg at a;split at a;rename_i f;simp at a;subst a;simp only[ZhA]at h;obtain⟨_,B,_⟩:=m.pl.ct d Z0;rw[f]at B;have r:YV b x k i=XU b (ZD b i) (ZO b i) (IntKind.i64.wrap<|x.bc+i):=by unfold YV;rw[Zht f]
 obtain⟨q,z,A⟩:=IC (b:=b) (p:=ZD b i) (tw:=IntKind.i64.wrap<|x.bc+i) h;have w:=m.word u d (t:=1+j) Zgl;rw[r,A]at w;simp only;refine m.nj C d f (tw:=IntKind.i64.wrap<|IntKind.i64.wrap (x.bc+i)+j) z ?_;grind;rename_i f;split at a;rename_i l;obtain⟨_,B,_⟩:=m.pl.di d Z0;rw[l]at B;split at a;rename_i y;simp at a;subst a;simp only[ZhA]at h;have r:YV b x k i=XU b (Y8 b i) (ZO b i) 0:=by unfold YV;rw[Zhs f,Zht l,Zht y]
 obtain⟨q,z,A⟩:=IC (b:=b) (p:=Y8 b i) (tw:=0) h;have w:=m.word u d (t:=1+j) Zgl;rw[r,A]at w;simp only;refine m.nj C d l (tw:=IntKind.i64.wrap<|0+j) z ?_;grind;rename_i y;simp at a;subst a;simp only[ZhA]at h;have r:YV b x k i=VU b (ZD b i) (ZO b i):=by unfold YV;rw[Zhs f,Zht l,Zhs y]
 have w:=m.word u d (t:=1+j) (by grind [Qj,ZL]);have F:(VU b (ZD b i)<|ZO b i)[1+j]?=J 0:=by
  unfold VU;rw[Zky 1 j,Zkd,List.getElem?_replicate,Zht (by grind [ZL])]
 grind [Up,Int.toNat_natCast,X2,B5];grind
theorem Made.right(m:Made b x)(z:∀n∈b.g.nodes,∀q∈n.M,-1<=q/\q< (I b.g.nodes:Int)):Yv (Yx x b)=xk:=by
 have j:=m.fill.2.1;have a:(Yx x b).H.length=I b.h.H:=by have:=Zit Ly.H j;simp only[Zv]at this;omega
 have d:(Yx x b).ab.length=I b.h.ab:=by have:=Zit Ly.ab j;simp only[Zv]at this;omega
 have u:(Yx x b).ah.length=I b.h.ah:=by have:=Zit Ly.ah j;simp only[Zv]at this;omega
 have p:(Yx x b).al.length=I b.h.al:=by have:=Zit Ly.al j;simp only[Zv]at this;omega
 have l:(Yx x b).cap=b.h.cap:=Zit Ly.cap j;refine OU ?_ m.fp ?_;unfold TT;have O:=m.aa;have y:=m.pl.ok.rl;have M:(Yx x b).E.length<=5:=by simp only[Yx,ZhN];exact y
 rw[j,m.bd,m.fill.2.2.1,m.fill.2.2.2,a,u,p];grind;unfold SD;simp only[Zhl,ZhS];refine⟨⟨⟨⟨⟨⟨?_,?_⟩,m.M z Z0⟩,m.M z Z0⟩,m.M z Z0⟩,m.M z Z0⟩,?_⟩;rw[m.fill.2.2.2];cases K:b.h.Y;rfl;simp only[Zk8,ZkD,Zhw];intro o G;obtain⟨i,F,f⟩:=Jy.1 G;have D:(ZD b i).part=1/\o.Z=(ZD b i).Z:=by
  unfold Xg at f;split at f;simp_all;split at f;rename_i N;have:=(m.pl.di F Z0).1;omega;grind
 have A:=m.ld (k:=1) Z0 G;unfold RJ;rw[m.start Z0 A,D.2,ZhS];exact m.ff K F D.1;rw[Zhw];intro w H;simp only[Yx,ZhC]at H;obtain⟨r,L,rfl⟩:=H;have y:=m.pl.ok.uv r L;by_cases C:0<=r;rw[Zht C];have B:=L6 (x:=x) m.pl.ok (I b.g.nodes)<|Zhm _;rw[Df B];obtain⟨t,rfl⟩:=Zhy C;exact m.mf (i:=t) Z0;simp_all[Zhs,B5];rw[a,d,l];exact m.room
end
end
section
def Z0w(l r:Zi):Y1 (l++r)=Y1 l+Y1 r:=by simp[Y1]
section
variable {x:Rw}{c:Bool}
def ZbO{b:Bt}(f:Placed b x){i:Nat}(p:i<I b.g.nodes):Y1 (Xg b 3 i)+Y1 (Xg b 4 i)=if(ZD b i).part=0 then ZL (ZO b i)else 0:=by
 have q:((1:Nat)+(((ZO b i).M.length:Int)+(ZO b i).data.length).toNat)=ZL (ZO b i):=by unfold ZL;omega
 obtain⟨l,k,a,d⟩|⟨l,_⟩:=f.aw i p;have j:(ZD b i).part=0:=by rw[l]
 rw[Zht j];obtain rfl|rfl:=a<;>simp[Xg,j,d,Y1,Wh,q];have h:¬(ZD b i).part=0:=Z0;have n:¬(ZD b i).part=3:=Z0;have o:¬(ZD b i).part=4:=Z0;have:∀k:Int,¬(ZD b i).part=k->Y1 (Xg b k i)=0:=λk a=>by
  unfold Xg;rw[Zhs a,Zhs h];split<;>simp[Y1,Wh]
 rw[Zhs h,this 3 n,this 4 o]
def Z0B(hx:x.ok):∀j,j<=(ZW x.nodes x.E).nodes.length->Y1 ((List.range j).flatMap<|Xg (Yz x c) 3)+Y1 ((List.range j).flatMap<|Xg (Yz x c) 4)=(Y5 x c (ZW x.nodes x.E) j).wt
 |0,_=>rfl
 |j+1,g=>by
  have h:=Z0B hx j Z0;have a:=ZbO (PH (c:=c) hx) (i:=j) (by rw[RI];omega);rw[KU Z0]at a;have f:ZO (Yz x c) j=((ZW x.nodes x.E).nodes[j]?).getD default:=rfl;rw[f]at a;rw[ZjG,Zji,Zji,Z0w,Z0w,Y5];simp only[Zl6,List.flatMap_nil,ZiE];generalize ((ZW x.nodes x.E).nodes[j]?).getD default=n at*;unfold Qk at a;simp only[X8];obtain d|d|⟨d,rfl⟩:=R5 x j c;simp[d]at a⊢;omega;simp[d]at a⊢;omega;simp[d]at a⊢;omega
def Z6B(x:Rw)(c:Bool):∀n∈(Yz x c).g.nodes,∀q∈n.M,-1<=q/\q< ((Yz x c).g.nodes.length:Int):=by
 rw[RI];exact M8 x.nodes x.E
def Mk(hc:c=xw):∀j,(Y5 x c (ZW x.nodes x.E) j).n3=0/\(Y5 x c (ZW x.nodes x.E) j).n4=0
 |0=>⟨rfl,rfl⟩
 |j+1=>by
  have:=Mk hc j;subst hc;simpa[Y5,X8]using this
def M1(hx:x.ok)(hc:c=xk->(Yz x xk).h.H.length≠0):Made (Yz x c) x:=by
 obtain⟨k1,y,z⟩:=zh hx c;refine⟨PH hx,z,?_,?_,?_,?_,y⟩;rw[RI];exact DT x;intro a i l j;have k:c=xk:=a;subst k;rw[RI]at l;rw[KU l]at j;rw[qC l];unfold Qk at j;unfold JG;obtain f|f|⟨f,_⟩:=R5 x i xk;simp[f]at j;simp[f];cases WB x i<;>simp;simp[f]at j;have d:(Yz x c).h.H.length=(Y5 x c (ZW x.nodes x.E) (ZW x.nodes x.E).nodes.length).n1:=by simp[Yz]
 cases c;obtain⟨p,q⟩:=Mk (x:=x) (c:=xw) rfl (ZW x.nodes x.E).nodes.length;rw[d];have o:(Yz x xw).h.aa=((Y5 x xw (ZW x.nodes x.E) (ZW x.nodes x.E).nodes.length).n1:Int):=by simp[Yz]
 have a:(Yz x xw).h.Y=xw:=rfl;rw[o,a];simp only[ZhF,Zij];refine⟨Z0,Z0,trivial,?_,?_⟩<;>simp[Yz,p,q];have f:=hc rfl;rw[d]at f;rw[d];have o:(Yz x xk).h.aa=pick x.aa (Y5 x xk (ZW x.nodes x.E) (ZW x.nodes x.E).nodes.length).n1:=by
  simp only[Yz];rw[Zht ⟨trivial,Z0⟩]
 have a:(Yz x xk).h.Y=xk:=rfl;have u:=UK (c:=x.aa) (n:=((Y5 x xk (ZW x.nodes x.E) (ZW x.nodes x.E).nodes.length).n1:Int)) Z0;rw[o,a];simp only[Zig];omega;have w:=Z0B (c:=c) hx (ZW x.nodes x.E).nodes.length<|Zhm _;have t:(Yz x c).h.H.length=(Y5 x c (ZW x.nodes x.E) (ZW x.nodes x.E).nodes.length).n1:=by simp[Yz]
 have r:(Yz x c).h.ab.length=(Y5 x c (ZW x.nodes x.E) (ZW x.nodes x.E).nodes.length).n2:=by simp[Yz]
 have g:(Yz x c).h.cap=max (((Y5 x c (ZW x.nodes x.E) (ZW x.nodes x.E).nodes.length).n1:Int)+(Y5 x c (ZW x.nodes x.E) (ZW x.nodes x.E).nodes.length).n2+(Y5 x c (ZW x.nodes x.E) (ZW x.nodes x.E).nodes.length).wt) (((Y5 x c (ZW x.nodes x.E) (ZW x.nodes x.E).nodes.length).n3:Int)+(Y5 x c (ZW x.nodes x.E) (ZW x.nodes x.E).nodes.length).n4)+pick x.bc 12:=rfl;have u:=UK (c:=x.bc) (n:=12) Z0;unfold obs;rw[RI,w,t,r,g];omega
def Z4s(hx:x.ok):∃c,Te x=Yx x (Yz x c)/\Made (Yz x c) x:=by
 unfold Te;by_cases h:(Yz x xk).h.H.length=0;rw[Zht h];exact⟨xw,rfl,M1 hx Z1⟩;rw[Zhs h];exact⟨xk,rfl,M1 hx λ_=>h⟩
def Z4u(hx:x.ok):Yv (Te x)=xk:=by
 obtain⟨c,h,m⟩:=Z4s hx;rw[h];exact m.right<|Z6B x c
end
end
def RV:Prop:=∀(h:Hp) (p:Pts) (k:Int),h.ok->Rt h p->0<=k->Ym k->VC xP 34 xw [ZE h,vi k] (.am [ZE<|Y6 h k.toNat,vi 0])
def LH(h:Hp)(k:Int):Hp×Int:=if k<0\/Yv h=xw then(Hp.zero,1)else(Y6 h k.toNat,0)
def ym(h:Hp):Hp×Int:=if Yv h=xw then(Hp.zero,1)else(Y6 h 9223372036854775807,0)
def Z1l(j:RV){h:Hp}(f:h.ok){k:Int}(l:Ym k):VC xP 22 xw [ZE h,vi k]<|.am [ZE (LH h k).1,vi (LH h k).2]:=by
 refine ZR F3 follows Z2 c22 rfl ?_;have k1:=QU f;simp only[ZE]at k1;unfold LH;simp[Nc];by_cases a:0<=k;case neg=>simp[a,show k<0 by omega,ZE,Hp.zero]
 have d:¬k<0:=Z0;simp only[a,d,Zig,false_or];refine Zz k1 Z1 ?_;cases n:Yv h;simp[ZE,Hp.zero];obtain⟨p,r⟩:=JR.1 n;have g:=j h p k f r Z0 l;simp only[ZE]at g⊢;simp;refine Zz g Z1 ?_;simp
def Z0V(f:RV){h:Hp}(a:h.ok):VC xP 14 xw [ZE h]<|.am [ZE (ym h).1,vi (ym h).2]:=by
 refine ZR Z1p follows Z2 c14 rfl ?_;have k1:=QU a;simp only[ZE]at k1;unfold ym;simp[N2];refine Zz k1 Z1 ?_;cases g:Yv h;simp[ZE,Hp.zero];obtain⟨p,r⟩:=JR.1 g;have d:=f h p 9223372036854775807 a r Z0 ⟨Z0,Z0⟩;simp only[ZE]at d⊢;simp;refine Zz d Z1 ?_;simp
def TH:Hp:=⟨10,5,1,xk,0,[2,6],[],[31,0],[],[31]⟩
def Jb:Hp:=⟨10,5,1,xw,2,[2,6],[],[],[],[31]⟩
def AI:TH.ok:=by refine⟨?_,?_,?_,?_,?_,?_,?_,?_,?_,?_,?_,?_,?_,?_⟩<;>simp[TH,ZB,Ym]
def Z0C:Hp.zero.ok:=by refine⟨?_,?_,?_,?_,?_,?_,?_,?_,?_,?_,?_,?_,?_,?_⟩<;>simp[Hp.zero,ZB,Ym]
def Z8J{h:Hp}{p:Pts}(r:Rt h p)(k:Nat):LH h k=(Y6 h k,0):=by
 unfold LH;rw[Zhs (by rw[r.right];simp),ZhA]
end Vm
end
section
namespace Vm
open Go Go.Proofs Go.RowKit
def Pf:RV:=by
 intro h p k D r K C;obtain⟨n,rfl⟩:=Zhy K;rw[ZhA];refine⟨Z2,λw G vs z l d=> ?_⟩;have r0:=d 0 _ rfl;have N:=d 1 _ rfl;have B:vs=#[vs.getD 0 xy,vs.getD 1 xy]:=by
  have a:vs.size=2:=l;apply ZjR;simp[a];intro i O P;have F:i<2:=Z0
  match i,F with
  |0,_=>simp[Array.getD,a]
  |1,_=>simp[Array.getD,a]
 obtain⟨o,t,M⟩:=yI r0;have u:=Sw N;rw[B,t,u];refine(Za7 w G z h D o M r (by have:=C.2;omega)).mono ?_;rintro e Q ⟨x,rfl,g,L⟩;refine⟨_,rfl,g,?_⟩;refine .am _ _ rfl ?_;intro i y f
 match i,f with
 |0,f=>cases f;exact Jn λj H=>(L j H).mono λb A=>A.imp (λq=>⟨rfl,q⟩) id
 |1,f=>cases f;exact .int _ _
end Vm
end
section
namespace Vm
open Go Go.Conc Go.ConcN
section
section
variable {P:Z6}{Stop:Z9}{b:Zg}{k:Zn}{cs:Z7}{a:Act}{w:Z3}
def Walk.cy{x y:Code}(h:Walk P Stop (b.at a<|.code x:: .code y::k) cs w):Walk P Stop (b.at a<|.code (.seq x y)::k) cs w:=.go (λw=>stepG_seq) h
def Walk.region{id:Nat}{ops:Zl}(h:Walk P Stop (b.at a<|.inRegion ops (List.range ops.size)::k) cs w):Walk P Stop (b.at a<|.code (.region id ops xw)::k) cs w:=.go (λw=>stepG_region) h
def Walk.gn{ops:Zl}(h:Walk P Stop (b.at a k) cs w):Walk P Stop (b.at a<|.inRegion ops []::k) cs w:=.go (λw=>stepG_region_end) h
def Walk.val{ops:Zl}{i:Nat}{rest:Za}{o:Oper}{v:Ze}(q:ops[i]?=J o)(r:Region.wanted o (yielded ops a.tmps)=xk)(p:b.kind≠.early)(n:J4 P o.op=xk)(j:∀g:Z3,g.heap=w.heap->(execOp a.eval o).run P g=.ok (.value v) g)
  (h:Walk P Stop (b.at (a.put o.dst v)<|.inRegion ops rest::k) cs w):Walk P Stop (b.at a<|.inRegion ops (i::rest)::k) cs w:=by
 refine .one λd=> ?_;have f:EvsB (xz<|xj<|Yf<|(execOp a.eval o).run P<|w.at d)<|listed P b.fn a o<|w.at d:=λe l=>GF n a (w.at d) e<|mem_listed l;rw[j (w.at d) rfl]at f;exact⟨_,_,_,_,stepG_value q r p<|j (w.at d) rfl,Zhm _,f,h.at d⟩
def Walk.chan{ops:Zl}{i:Nat}{rest:Za}{o:Oper}{t p:Zf}{dir:ChanDir}{inf:TypeInfo}{f:IntKind}(z:ops[i]?=J o)(B:Region.wanted o (yielded ops a.tmps)=xk)(y:b.kind≠.early)(j:o.op=.makeChan t (.const<|.int f 0))(l:P.underlying t=J (.chan dir p))(g:P.info? p=J inf)
  (h:Walk P Stop (b.at (a.put o.dst<|.chan<|J<|xz<|xj w)<|.inRegion ops rest::k) cs<|w.alloc<|.chan 0 #[] xw 0 0 xw):Walk P Stop (b.at a<|.inRegion ops (i::rest)::k) cs w:=by
 refine .one λd=> ?_;have n:execOp a.eval o=(do pure (.value<|<-Instr.makeChan t (.int f (0:Nat))):Sem Next):=by unfold execOp;simp only[j];rfl
 have A:(execOp a.eval o).run P (w.at d)=.ok (.value<|.chan<|J<|xz<|xj w) ((w.alloc<|.chan 0 #[] xw 0 0 xw).at d):=by
  rw[n];simp only[Zi4,run_makeChan (w:=w.at d) l g f 0 Z0 Z0,Zi2];rfl
 have x:(execOp a.eval o).events P (w.at d) #[]=#[]:=by
  rw[n];have q:=events_makeChan (P:=P) (w:=w.at d) l g f 0 Z0 Z0 #[];have r:(Instr.makeChan t<|.int f (0:Nat)).runT P (w.at d) #[]=(.ok (.chan<|J<|xz<|xj w)<|(w.alloc<|.chan 0 #[] xw 0 0 xw).at d, #[]):=by
   refine ZjZ ?_ q;rw[Zjr];exact run_makeChan (w:=w.at d) l g f 0 Z0 Z0
  show((Sem.bind _ _).runT P (w.at d) #[]).2=_;rw[Zjx,r];rfl
 refine⟨_,_,_,_,stepG_value z B y A,by show xz (xj w)<=xz (xj<|w.alloc _);simp,λe u=> ?_,h.at d⟩;have:=mem_listed u;simp_all
def Walk.ui{fr B:Zg}{f:Zj}(T:∀w:Z3,stepG P xk (G fr cs) w=.spawn (G B cs) f w #[])
  (H:∀(n d:Nat) (gs:Zd) (sl:Option<|Nat×Nat) (t:Trace) (q:Zk),0<n->gs.size=n+1->gs[0]?=J (G B cs)->gs[n]?=J f->YN P n gs q->(∀Z OB M,TI n Z OB M (xz<|xj w) t)->Win P (Ew P Stop) gs (w.at d) sl t):Walk P Stop fr cs w:=by
 intro d0 gs sl t q hl N o;have R:∀(a:Zd) g,a[a.size]? ≠J g:=λa g e=>by
  simp_all
 refine skip hl (λi g O r=> ?_) ⟨0,_,.inl rfl,N,rfl⟩ λa d L q' i g a1 z Q O a2 a0=> ?_;obtain rfl|rfl:=O;rw[N]at r;cases r;exact⟨awake_of<|.inl rfl,λg1 g2 d=>woken_run rfl⟩;simp_all;obtain rfl|rfl:=O;have C:a[0]?=J (G fr cs):=by rw[z 0<|.inl rfl];exact N
 have F:0<a.size:=(Zho.1 C).1;have u:=runT_crowd_spawn (P:=P) (sl:=L) (i:=0) (w:=w.at d) C<|T<|w.at d;refine⟨_,_,_,_,u,?_⟩;generalize hx:({g:=0,fn:=(G fr cs).frame.fn,pos:=(G fr cs).frame.place,act:=.go a.size}:MemOp)=x;generalize hy:({g:=a.size,fn:=f.frame.fn,pos:=(G fr cs).frame.place,act:=.start}:MemOp)=y;have D:((MemOp.ofEvents 0 (G fr cs).frame.fn (G fr cs).frame.place #[]).push x).push y=#[x,y]:=by simp[MemOp.ofEvents]
 rw[D];have W:x.g=0/\x.act=.go a.size:=by rw[<-hx];exact⟨rfl,rfl⟩
 have X:y.g=a.size/\y.act=.start:=by rw[<-hy];exact⟨rfl,rfl⟩
 refine H a.size d _ L _ q' F Z1 ?_ Zgl (λj g hj a3 r=> ?_) λZ OB M=> ?_;grind;rw[ZjH]at r;simp only[ZjD]at r;rw[Zhs Z0,Zif Z0]at r;exact Q j g hj Z0 r;have t0:TI a.size (λ_=>True) (λ_=>False) M (xz<|xj w) t:=⟨o.gd,o.dp,o.H,λi op x l k A=>.inl<|o.iq i op x l k A,λi op x l k A=>.inr<|.inr ⟨λ_=>by simp_all[M6,trivial],λb _ h=>h⟩⟩
 have Y:=t0.comm (Zhm _) #[x,y] (λop S=>by
  have:op=x\/op=y:=by simpa using S
  obtain rfl|rfl:=this;simp_all[MemAct.touch?];simp_all[MemAct.touch?])
 have K:∀(i:Nat) (op:MemOp) (p:Touch),(t++ #[x,y])[i]?=J op->op.act.touch?=J p->t[i]?=J op:=λi op p l k=>by
  obtain⟨_,h⟩|⟨_,h⟩:=getElem?_append_cases l;exact h;have:op=x\/op=y:=Zhe;obtain rfl|rfl:=this;simp_all[MemAct.touch?];simp_all[MemAct.touch?]
 refine⟨Y.gd,Y.dp,Y.H,λi op p l k A=>.inl<|(o.iq i op p (K i op p l k) k A).app _,λi op p l k A=>.inr<|.inl ?_⟩;exact fork_knows W X (o.dp 0) (o.dp _)<|o.iq i op p (K i op p l k) k A;simp_all
def Walk.uk{fr o:Zg}{f:Zj}{c:Nat}{KA KB OA0:Z4}{StopA:(Nat->Prop)->Goroutine->World->Prop}{vs:Zm}{z:Ze}(C:∀w:Z3,stepG P xk (G fr cs) w=.spawn (G o cs) f w #[])
  (Q:Play P xk c KA StopA (vs.map .recv++[.closed z]) OA0 (G o cs) w) (R:Play P xw c KB (UU P c) (vs.map .send) (λ_=>False) f w) (p:w.heap[c]?=J (.chan 0 #[] xw 0 0 xw))
  (la:∀b,OA0 b->b<xz (xj w)) (ka:∀b,KA b->b<xz (xj w)) (kb:∀b,KB b->b<xz (xj w)) (H:∀b,OA0 b->¬KB b) (N:¬OA0 c) (x:¬KA c) (y:¬KB c)
  (r:∀u a j,StopA u a j->xz (xj w)<=xz (xj j)->j.tape=w.tape->(j.os,j.output)=(w.os,w.output)->(∀b,u b->(OA0 b\/xz (xj w)<=b)/\b<xz (xj j))->(∀b,b<xz (xj w)->¬OA0 b->b≠c->j.heap[b]?=w.heap[b]?)->∃l k,a=G l k/\Walk P Stop l k j):Walk P Stop fr cs w:=by
 refine .ui C λn d gs sl t q X D O B W F=> ?_;have S:Cfg P n c KA KB OA0 (w.at d) OA0 (λ_=>False) gs (w.at d) t q:=
  ⟨X,W,F _ _ _,la,λ_ h=>h.elim,ka,kb,λ_ _ h=>h,H,N,x,y,(Zho.1 p).1,Zhm _,rfl,rfl,λ_ h=>.inl h,λ_ h=>h.elim,λ_ _ _ _=>rfl⟩
 have Y:=(Z7W (P:=P) (n:=n) (KB:=KB) (OA0:=OA0) (w0:=w.at d) Q).tj vs z (λ_=>False) f gs (w.at d) sl t q 0 0 xw rfl S D O B (Rely.at _ _ _ d) (.run<|R.gp<|Rely.at _ _ _ d) p;refine Y.bind λA w1 K t1 ⟨M,u,OB,q1,Z,k1,k2,g,k4,k5⟩=> ?_;obtain⟨l,k,rfl,T⟩:=r u M w1 k2 g.b0 g.tape g.os (λb L=>⟨g.oa b L,g.la b L⟩) g.fr;exact T w1.drawn A K t1 q1 k4 Z ⟨g.ti.gd,g.ti.dp,g.ti.H,k5⟩
end
end
end Vm
end
section
namespace Vm
open Go Go.Conc
section
section
variable {Q:Z6}{c:Nat}{Post:Z9}{es:List Ev}{fr fr':Zg}{cs cs':Z7}{w w':Z3}
def LS.br:∀ {es:List Ev} {fr fr':Zg} {cs cs':Z7} {w w':Z3},Steps Q (lone fr (cs++[YQ Q]) w) (lone fr' (cs'++[YQ Q]) w')->LS Q c Post es fr' cs' w'->LS Q c Post es fr cs w
 | [],_,_,_,_,_,_,h,⟨n,a,c2,w2,d,f⟩=>let⟨m,g⟩:=Steps.trans h ⟨n,d⟩;⟨m,a,c2,w2,g,f⟩
 |e::es,_,_,_,_,_,_,h,⟨n,a,c2,w2,d,f⟩=>let⟨m,g⟩:=Steps.trans h ⟨n,d⟩;⟨m,a,c2,w2,g,f⟩
def LS.ev{e:Ev}(h:VP Q c e fr)(k:LS Q c Post es (Xw e fr) cs w):LS Q c Post (e::es) fr cs w:=⟨0,fr,cs,w,rfl,h,k⟩
def LS.dq(h:Post fr cs w):LS Q c Post [] fr cs w:=⟨0,fr,cs,w,rfl,h⟩
end
def Eh{P:Z6}{ops:Zl}{w:Z3}{Q Q':Act->Prop}(h:∀a,Q a->Q' a):∀(l:List Oper) (a:Act),wpStill P ops w Q l a->wpStill P ops w Q' l a
 | [],a,d=>h a d
 |o::l,a,d=>by
  simp only[wpStill]at d⊢;split;rename_i f;rw[Zht f]at d;exact Oper.still_mono (λa=>Eh h l a) d;rename_i f;rw[Zhs f]at d;exact Eh h l _ d
def Ys:Code->List Nat->Code
 |c,[]=>c
 |.seq a _,0::l=>Ys a l
 |.seq _ b,_::l=>Ys b l
 |.cond _ a _,0::l=>Ys a l
 |.cond _ _ b,_::l=>Ys b l
 |.block _ a,_::l=>Ys a l
 |.loop a,_::l=>Ys a l
 |.scope a,_::l=>Ys a l
 |c,_=>c
def Lo:Code->Array Oper
 |.region _ ops _=>ops
 |_=> #[]
def jY(Q:Z6)(c:Nat)(Post:Z9)(es:List Ev)(b:Zg)(k:Zn)(cs:Z7):Exit->Act->World->Prop
 |.normal,a,w=>LS Q c Post es (b.at a k) cs w
 |.exit id,a,w=>∃k',exitTo id k=J k'/\LS Q c Post es (b.at a k') cs w
 |.ret,a,w=>∀d,LS Q c Post es {b.at a d with mode:=.returning} cs w
 |_,_,_=>False
def SC(Q:Z6)(c:Nat)(x:Code)(R:List Ev->Exit->Act->World->Prop)(es:List Ev)(a:Act)(w:Z3):Prop:=
 ∀(Post:Z9) (b:Zg) (k:Zn) (cs:Z7),(∀d e f w',R d e f w'->jY Q c Post d b k cs e f w')->LS Q c Post es (b.at a<|.code x::k) cs w
def ST(Q:Z6)(c:Nat)(ops:Zl)(R:List Ev->Exit->Act->World->Prop)(l:Za)(es:List Ev)(a:Act)(w:Z3):Prop:=
 ∀(Post:Z9) (b:Zg) (k:Zn) (cs:Z7),(∀d e f w',R d e f w'->jY Q c Post d b k cs e f w')->LS Q c Post es (b.at a<|.inRegion ops l::k) cs w
section
variable {Q:Z6}{c:Nat}{R R':List Ev->Exit->Act->World->Prop}{es:List Ev}{a:Act}{w:Z3}{x y:Code}
variable {ops:Zl}{l:Za}
def SC.uh{id:Nat}(h:∀t,ST Q c ops R (Region.schedule (Q.follows .mixedOrders) ops t) es a {w with drawn:=w.drawn+1}):SC Q c (.region id ops xk) R es a w:=λPost b k cs d=>LS.br (.one step_region_draw)<|h _ Post b k cs d
def ST.nil(h:R es .normal a w):ST Q c ops R [] es a w:=λPost b k cs d=>LS.br (.one step_region_end)<|d _ _ _ _ h
def ST.ta{i:Nat}(g:((ops[i]?).map (Region.wanted · (yielded ops a.tmps))).getD xw=xw)(f:ST Q c ops R l es (a.put ((ops[i]?).bind (·.dst)) xy) w):ST Q c ops R (i::l) es a w:=λPost b k cs d=>
 LS.br (.one<|step_op_skip g) (f Post b k cs d)
def ST.still{i:Nat}{K:Act->Prop}(h:stOp Q ops w i K a)(t:∀a,K a->ST Q c ops R l es a w):ST Q c ops R (i::l) es a w:=by
 unfold stOp at h;cases q:ops[i]? with
 |none=>
  rw[q]at h;refine .ta (by simp[q]) ?_;simp_all[Option.bind_none,Act.put]
 |some o=>
  rw[q]at h;dsimp only at h;by_cases u:Region.wanted o (yielded ops a.tmps)=xk;rw[Zht u]at h;unfold Oper.still at h;intro Post b k cs r;have A:=stepG_op (P:=Q) (b:=b) (k:=k) (cs:=cs++[YQ Q]) (w:=w) (rest:=l) q u;have y:∀v,(b.at a<|.inRegion ops (i::l)::k).finish v=b.at (a.put o.dst v) (.inRegion ops l::k):=λv=>by grind [Frame.finish_at]
  revert h
  cases B:(execOp a.eval o).run Q w with
  |halt x w'=>exact False.elim
  |ok n w'=>
   cases n<;>first|exact False.elim|skip
   rename_i v;rintro⟨rfl,h⟩;refine LS.br (.one<|ZkU ?_)<|t _ h Post b k cs r;simp_all[stepG.apply];rintro⟨rfl,h⟩;refine LS.br (.one<|ZkU ?_)<|t _ h Post b k cs r;simp_all[stepG.apply];rename_i f args;rintro⟨rfl,v,z,h⟩;obtain⟨e,j,fr,⟨rfl,rfl⟩,g,_,p⟩:=z<|b.at a (.inRegion ops (i::l)::k)::(cs++[YQ Q]);have d:step Q (lone (b.at a<|.inRegion ops (i::l)::k) (cs++[YQ Q]) j)=.next (lone (Frame.enter Q f args .normal) (b.at a (.inRegion ops (i::l)::k)::(cs++[YQ Q])) j):=
    ZkU (by simp_all[stepG.apply,Frame.at])
   refine LS.br (.head d<|g.trans<|.one ?_)<|t _ h Post b k cs r;grind [step_leave_returned]
  rw[Zhs u]at h;refine .ta Zgm ?_;simp_all
def ST.ev{i:Nat}{o:Oper}{e:Ev}(A:ops[i]?=J o)(G:Region.wanted o (yielded ops a.tmps)=xk)(y:match e with
   |.recv _|.closed _=>∃t f d h inf z,o.op=.recv t f xk/\ZZ f=xk/\a.eval f=.chan (J c)/\Q.underlying t=J (.chan d h)/\Q.info? h=J inf/\inf.zero=J z/\∀B,e=.closed B->B=z
   |.send v=>∃f x,o.op=.send f x/\ZZ f=xk/\ZZ x=xk/\a.eval f=.chan (J c)/\a.eval x=v)
  (F:ST Q c ops R l es (a.put o.dst e.val) w):ST Q c ops R (i::l) (e::es) a w:=λPost b k cs D=>by
 refine LS.ev ⟨ops,i,l,k,o,rfl,rfl,A,G,?_⟩ ?_;have g:∀x,(b.at a<|.inRegion ops (i::l)::k).eval x=a.eval x:=Frame.eval_at b a _;cases e with
 |recv v=>obtain⟨t,f,d,h,inf,z,j,n,p,q,r,u,_⟩:=y;exact⟨t,f,d,h,inf,z,j,n,by rw[g];exact p,q,r,u⟩
 |closed v=>obtain⟨t,f,d,h,inf,z,j,n,p,q,r,u,C⟩:=y;exact⟨t,f,d,h,inf,j,n,by rw[g];exact p,q,r,by rw[C v rfl];exact u⟩
 |send v=>obtain⟨f,x,j,n,p,q,r⟩:=y;exact⟨f,x,j,n,p,by rw[g];exact q,by rw[g];exact r⟩
 have:Xw e (b.at a<|.inRegion ops (i::l)::k)=b.at (a.put o.dst e.val) (.inRegion ops l::k):=by
  unfold Xw;rw[ZjU,A];rfl
 rw[this];exact F Post b k cs D
def ST.head{md:Region.Mode}{n g:Nat}{L:Array Bool->Act->Prop}:∀(f t:Nat) (listed:Array Bool) (a:Act),wpAnyL Q md ops w n L f listed a->(∀listed a t,L listed a->ST Q c ops R (Region.linearise.go md ops g t listed []) es a w)->
  ST Q c ops R (Region.linearise.go md ops (f+g) t listed []) es a w
 |0,t,listed,a,h,j=>by rw[Zi5];exact j _ _ _ h
 |f+1,t,listed,a,h,j=>by
  obtain⟨p,q⟩:=h;rw[show f+1+g=(f+g)+1 by omega];simp only[Region.linearise.go]
  change ST Q c ops R (match(Region.ready md ops listed)[t% I (Region.ready md ops listed)]? with
   |some i=>Region.linearise.go md ops (f+g) (t / I (Region.ready md ops listed)) (listed.setIfInBounds i xk) [i]
   |none=>[].reverse) es a w
  cases k:(Region.ready md ops listed)[t% I (Region.ready md ops listed)]? with
  |none=>
   exfalso;have d:0< I (Region.ready md ops listed):=Zjk.2 p;have:=Zjz.1 k;have:=ZkF t d;omega
  |some i=>
   simp only[];rw[linearise_go_acc,Zle,Zlq];exact ST.still (q i<|Zhq k).2 λl o=>ST.head f _ _ l o j
def ST.km{n:Nat}{listed:Array Bool}{t:Nat}(h:Region.seqB .any ops 1 n listed=xk)(d:ST Q c ops R [n] es a w):ST Q c ops R (Region.linearise.go .any ops 1 t listed []) es a w:=by
 simp only[Region.seqB,Zhl,ZhS]at h;simp only[Region.linearise.go]
 change ST Q c ops R (match(Region.ready .any ops listed)[t% I (Region.ready .any ops listed)]? with
   |some i=>[i]
   |none=>[]) es a w
 grind
def SC.km{id n:Nat}{l:List Oper}(B:Q.follows .mixedOrders=xk)(u:Region.lexTailB .any l.toArray n=xk)(q:I l=n+1)(h:wpStill Q l.toArray {w with drawn:=w.drawn+1} (λp=>ST Q c l.toArray R [n] es p {w with drawn:=w.drawn+1}) (l.take n) a):SC Q c (.region id l.toArray xk) R es a w:=by
 refine SC.uh λt=> ?_;simp only[Region.lexTailB,Zhl,ZhS]at u;obtain⟨⟨⟨⟨k,y⟩,D⟩,z⟩,f⟩:=u;have C:n<I l:=by simpa using y
 have r:I (l.take n)=n:=Zgn;have A:l.toArray.size-n=1:=Zgn;rw[A]at f;have o:HeadInv .any l.toArray n<|Array.replicate l.toArray.size xw:=
  ⟨Z1,λj M _ G=>(by grind [getD_replicate_false]),λt _ K=>getD_in Zgl<|getD_replicate_false _ _⟩
 have H:=wpAnyL_lex (md:=.any) (g:=1) k D z y (l.take n) 0 _ a (λj F=>by
  simp_all) Z0 o Zgm h
 simp only[Region.schedule,B,Bool.true_or,Zig,Region.linearise];have e:l.toArray.size=I (l.take n)+1:=by rw[r];simpa using q
 rw[e];exact ST.head (L:=λd p=>Region.seqB .any l.toArray 1 n d=xk/\ST Q c l.toArray R [n] es p {w with drawn:=w.drawn+1}) _ t _ a (by rw[<-e];exact H) λlisted p N x=>ST.km x.1 x.2
end
section
variable {Q:Z6}{c:Nat}{Post:Z9}{es:List Ev}{a:Act}{w:Z3}{x y:Code}{b:Zg}{k k':Zn}{cs:Z7}
def LS.cy(h:LS Q c Post es (b.at a<|.code x:: .code y::k) cs w):LS Q c Post es (b.at a<|.code (.seq x y)::k) cs w:=LS.br (.one step_seq) h
def LS.oq{o:Operand}(hc:a.eval o=.bool xk)(h:LS Q c Post es (b.at a<|.code x::k) cs w):LS Q c Post es (b.at a<|.code (.cond o x y)::k) cs w:=LS.br (.one<|step_cond hc) h
def LS.oo{o:Operand}(hc:a.eval o=.bool xw)(h:LS Q c Post es (b.at a<|.code y::k) cs w):LS Q c Post es (b.at a<|.code (.cond o x y)::k) cs w:=LS.br (.one<|step_cond hc) h
def LS.skip(h:LS Q c Post es (b.at a k) cs w):LS Q c Post es (b.at a<|.code .skip::k) cs w:=LS.br (.one step_skip) h
def LS.block{id:Nat}(h:LS Q c Post es (b.at a<|.code x:: .inBlock id::k) cs w):LS Q c Post es (b.at a<|.code (.block id x)::k) cs w:=LS.br (.one step_block) h
def LS.inBlock{id:Nat}(h:LS Q c Post es (b.at a k) cs w):LS Q c Post es (b.at a<|.inBlock id::k) cs w:=LS.br (.one step_inBlock) h
theorem LS.inLoop(h:LS Q c Post es (b.at a<|.code x:: .inLoop x::k) cs w):LS Q c Post es (b.at a<|.inLoop x::k) cs w:=LS.br (.one step_inLoop) h
def LS.exit{id:Nat}(d:exitTo id k=J k')(h:LS Q c Post es (b.at a k') cs w):LS Q c Post es (b.at a<|.code (.exit id)::k) cs w:=LS.br (.one<|step_exit d) h
def LS.pd(I:Nat->List Ev->Act->World->Prop){n:Nat}(d:I n es a w)(f:∀n es a w,I n es a w->(∀m es a w,m<n->I m es a w->LS Q c Post es (b.at a<|.inLoop x::k) cs w)->LS Q c Post es (b.at a<|.code x:: .inLoop x::k) cs w):LS Q c Post es (b.at a<|.code (.loop x)::k) cs w:=by
 have key:∀n es a w,I n es a w->LS Q c Post es (b.at a<|.code x:: .inLoop x::k) cs w:=by
  intro n;induction n using Nat.strongRecOn with
  |_ n g=>grind [inLoop]
 exact LS.br (.one step_loop)<|key n es a w d
def LS.wp{R:Zh}(h:x.wp Q R a w)(n:∀e f w',R e f w'->jY Q c Post es b k cs e f w'):LS Q c Post es (b.at a<|.code x::k) cs w:=by
 obtain⟨e,f,w',q,r⟩:=h b k<|cs++[YQ Q];have g:=n e f w' q;cases e with
 |normal=>exact LS.br r g
 |exit id=>obtain⟨k',j,l⟩:=g;exact LS.br (r k' j) l
 |ret=>obtain⟨d,r⟩:=r;exact LS.br r<|g d
 |_=>exact g.elim
def LS.dt(h:∀K:Zq,(∀a w,LS Q c Post es (b.at a k) cs w->K a w)->x.wp Q (λe a w=>e=.normal/\K a w) a w):LS Q c Post es (b.at a<|.code x::k) cs w:=
 LS.wp (h _ λ_ _ q=>q) λe g w' ⟨d,f⟩=>by subst d;exact f
def LS.send{id n:Nat}{l:List Oper}{v:Ze}(z:Q.follows .mixedOrders=xk)(x:Region.lexTailB .any l.toArray n=xk)(q:I l=n+1){o:Oper}{g j:Operand}(B:l[n]?=J o)(y:o.guard=U)(p:o.op=.send g j)(u:ZZ g=xk)(h2:ZZ j=xk)
  (h:wpStill Q l.toArray {w with drawn:=w.drawn+1} (λd=>d.eval g=.chan (J c)/\d.eval j=v/\LS Q c Post es (b.at (d.put o.dst xy) k) cs {w with drawn:=w.drawn+1}) (l.take n) a):LS Q c Post (.send v::es) (b.at a<|.code (.region id l.toArray xk)::k) cs w:=
 SC.km (R:=λf e d w'=>e=.normal/\LS Q c Post f (b.at d k) cs w') z x q (Eh (λd ⟨r,t,A⟩=>ST.ev (o:=o) Zgl (by simp[Region.wanted,y]) ⟨g,j,p,u,h2,r,t⟩<|.nil ⟨rfl,A⟩) _ _ h) Post b k cs λf e d w' ⟨r,t⟩=>by subst r;exact t
def LS.region{id:Nat}{ops:Zl}(h:LS Q c Post es (b.at a<|.inRegion ops (List.range ops.size)::k) cs w):LS Q c Post es (b.at a<|.code (.region id ops xw)::k) cs w:=LS.br (.one step_region) h
def LS.value{ops:Zl}{i:Nat}{l:Za}{o:Oper}{v:Ze}{w':Z3}(g:ops[i]?=J o)(j:Region.wanted o (yielded ops a.tmps)=xk)(h:(execOp a.eval o).run Q w=.ok (.value v) w')(f:LS Q c Post es (b.at (a.put o.dst v)<|.inRegion ops l::k) cs w'):LS Q c Post es (b.at a<|.inRegion ops (i::l)::k) cs w:=by
 have d:(b.at a<|.inRegion ops (i::l)::k).finish v=b.at (a.put o.dst v) (.inRegion ops l::k):=by grind [Frame.finish_at]
 refine LS.br (.one<|ZkU ?_) f;simp_all[stepG_op,stepG.apply]
def LS.gn{ops:Zl}(h:LS Q c Post es (b.at a k) cs w):LS Q c Post es (b.at a<|.inRegion ops []::k) cs w:=LS.br (.one step_region_end) h
def LS.tf{ops:Zl}{i:Nat}{l:Za}{o:Oper}{e:Ev}(n:ops[i]?=J o)(p:Region.wanted o (yielded ops a.tmps)=xk)(q:match e with
   |.recv _|.closed _=>∃t f d g inf z,o.op=.recv t f xk/\ZZ f=xk/\a.eval f=.chan (J c)/\Q.underlying t=J (.chan d g)/\Q.info? g=J inf/\inf.zero=J z/\∀h,e=.closed h->h=z
   |.send v=>∃f x,o.op=.send f x/\ZZ f=xk/\ZZ x=xk/\a.eval f=.chan (J c)/\a.eval x=v)
  (r:LS Q c Post es (b.at (a.put o.dst e.val)<|.inRegion ops l::k) cs w):LS Q c Post (e::es) (b.at a<|.inRegion ops (i::l)::k) cs w:=by
 refine LS.ev ⟨ops,i,l,k,o,rfl,rfl,n,p,?_⟩ ?_;have j:∀x,(b.at a<|.inRegion ops (i::l)::k).eval x=a.eval x:=Frame.eval_at b a _;grind;simp_all[Xw,ZjU]
end
end
end Vm
end
section
namespace Vm
open Go Go.Proofs
noncomputable def ofC:Code:=match Try.f36.body with|some c=>c|none=>.skip
def DB(f:Zp):Option<|List OT:=if f=55 then J [.fz,.mem [.fz],.mem [.fz]]else sig f
def Z08:List Nat:=[0,1,2,3,16,4,5,6,7,23,25,8,24,29,9,10,48,47,49,12,46,13]
def Zbp:List Nat:=[15,63,76,79]
def vf(P:Z6):FC:= {P,ix:=pos<|Z08++Zbp,fresh,sig:=DB,tr:=[3],fix:=[4,23],n:=82,keep:=Z08}
def ja:SS:=[(0,.fz)]
def r0N:SS:=[(0,.fz),(1,(.mem [.fz,.fz,.fz,.fz,.fz,.fz,.fz,.fz,.fz,.fz])),(2,(.mem [.nil,.nil])),(3,.fz)]
def r0:Stm:=
(.ao ⟨[],[],[(1,.m [(.ae (.sz (.s 0) 10) 0),(.ae (.sz (.s 0) 10) 1),(.ae (.sz (.s 0) 10) 2),(.ae (.sz (.s 0) 10) 3),(.ae (.sz (.s 0) 10) 4),(.ae (.sz (.s 0) 10) 5),(.ae (.sz (.s 0) 10) 6),(.ae (.sz (.s 0) 10) 7),(.ae (.sz (.s 0) 10) 8),(.ae (.sz (.s 0) 10) 9)]),(2,.m [(.c<|.sl []),(.c<|.sl [])]),(3,.v<|.c<|.int .i64<|0)]⟩)
def r0c:comp (vf<|Yi Try.prog) (Ys ofC [0]) ja=J (r0,⟨J r0N,[],[]⟩):=Z2
def rXS:SS:=[(0,.fz),(1,(.mem [.fz,.fz,.fz,.fz,.fz,.fz,.fz,.fz,.fz,.fz])),(2,(.mem [.nil,.nil])),(3,.fz)]
def Ow:SS:=[(0,.fz),(1,(.mem [.fz,.fz,.fz,.fz,.fz,.fz,.fz,.fz,.fz,.fz])),(2,(.mem [.nil,.nil])),(3,.fz),(16,.fz)]
def Db:SS:=[(0,.fz),(1,(.mem [.fz,.fz,.fz,.fz,.fz,.fz,.fz,.fz,.fz,.fz])),(2,(.mem [.nil,.nil])),(3,.fz),(16,.fz)]
def rX:Stm:=
(.seq
(.ao ⟨[.call 22 [] (.id 13) xw xw [(.mm 1 0 10)]],[],[(4,.v<|.un .not<|.s 22)]⟩)
(.cond (.s 4)
 (.seq
 (.ao ⟨[],[([],(.ag [(.c<|.sl []),(.c<|.sl [])]))],[(2,.m [(.c<|.sl []),(.c<|.sl [])]),(3,.v<|.c<|.int .i64<|1)]⟩)
 .ret)
 .skip))
def rXc:comp (vf<|Yi Try.prog) (Ys ofC [1,0]) rXS=J (rX,⟨J Ow,[],[Db]⟩):=Z2
def LJ:SS:=[(1,(.mem [.fz,.fz,.fz,.fz,.fz,.fz,.fz,.fz,.fz,.fz])),(2,(.mem [.fz,.fz])),(3,.fz)]
def r5N:SS:=[(1,(.mem [.fz,.fz,.fz,.fz,.fz,.fz,.fz,.fz,.fz,.fz])),(2,(.mem [.fz,.fz])),(3,.fz),(5,.nil)]
def r5:Stm:=
(.ao ⟨[],[],[(6,.v<|.c<|.sl [])]⟩)
def r5c:comp (vf<|xP) (Ys ofC [1,1,1,1,0]) LJ=J (r5,⟨J r5N,[],[]⟩):=Z2
def r6S:SS:=[(1,(.mem [.fz,.fz,.fz,.fz,.fz,.fz,.fz,.fz,.fz,.fz])),(2,(.mem [.fz,.fz])),(3,.fz),(5,.nil)]
def r6N:SS:=[(1,(.mem [.fz,.fz,.fz,.fz,.fz,.fz,.fz,.fz,.fz,.fz])),(2,(.mem [.fz,.fz])),(3,.fz),(5,.nil),(6,(.mem [(.own 102)]))]
def r6:Stm:=
(.ao ⟨[],[],[(7,.m [(.c<|.mp 0 [] [])])]⟩)
def r6c:comp (vf<|xP) (Ys ofC [1,1,1,1,1,0]) r6S=J (r6,⟨J r6N,[],[]⟩):=Z2
def r7S:SS:=[(1,(.mem [.fz,.fz,.fz,.fz,.fz,.fz,.fz,.fz,.fz,.fz])),(2,(.mem [.fz,.fz])),(3,.fz),(5,.nil),(6,(.mem [(.own 102)]))]
def r7N:SS:=[(1,(.mem [.fz,.fz,.fz,.fz,.fz,.fz,.fz,.fz,.fz,.fz])),(2,(.mem [.fz,.fz])),(3,.fz),(5,.nil),(6,(.mem [(.own 102)])),(7,(.mem [(.own 123)]))]
def r7:Stm:=
(.ao ⟨[],[],[(8,.m [(.c<|.mp 0 [] [])])]⟩)
def r7c:comp (vf<|xP) (Ys ofC [1,1,1,1,1,1,0]) r7S=J (r7,⟨J r7N,[],[]⟩):=Z2
def D8:SS:=[(1,(.mem [.fz,.fz,.fz,.fz,.fz,.fz,.fz,.fz,.fz,.fz])),(2,(.mem [.fz,.fz])),(3,.fz),(5,(.own 125)),(6,(.mem [(.own 102)])),(7,(.mem [(.own 123)])),(24,.fz),(25,.fz)]
def rDN:SS:=[(1,(.mem [.fz,.fz,.fz,.fz,.fz,.fz,.fz,.fz,.fz,.fz])),(2,(.mem [.fz,.fz])),(3,.fz),(5,(.own 125)),(6,(.mem [(.own 102)])),(7,(.mem [(.own 123)])),(25,.fz),(8,(.mem [.fz,.fz,.fz,.fz,.fz,.fz,.fz])),(24,.fz),(29,.fz)]
def D9:SS:=[(1,(.mem [.fz,.fz,.fz,.fz,.fz,.fz,.fz,.fz,.fz,.fz])),(2,(.mem [.fz,.fz])),(3,.fz),(5,(.own 125)),(6,(.mem [(.own 102)])),(7,(.mem [(.own 123)])),(24,.fz),(25,.fz)]
def rD:Stm:=
(.seq
(.cond (.s 10)
 .skip
 (.exit 0))
(.block 1
 (.seq
 (.ao ⟨[],[],[(11,.m [(.ae (.sz (.ext (.s 12) 0) 7) 0),(.ae (.sz (.ext (.s 12) 0) 7) 1),(.ae (.sz (.ext (.s 12) 0) 7) 2),(.ae (.sz (.ext (.s 12) 0) 7) 3),(.ae (.sz (.ext (.s 12) 0) 7) 4),(.ae (.sz (.ext (.s 12) 0) 7) 5),(.ae (.sz (.ext (.s 12) 0) 7) 6)])]⟩)
 (.seq
 (.seq
 (.ao ⟨[],[],[(13,.v<|.m 11 3)]⟩)
 (.cond (.s 13)
  (.seq
  (.ao ⟨[],[],[(8,.m [(.dg (.i .u64) (.m 8 0) (.m 11 5)<|.m 11 4)])]⟩)
  (.exit 1))
  .skip))
 (.seq
 (.ao ⟨[],[],[(7,.m [(.dg (.i .u64) (.m 7 0) (.m 11 5)<|.len<|.s 6)])]⟩)
 (.ao ⟨[],[],[(6,.v<|.app (.s 6) (.lit [(.mm 11 0 7)]) 7)]⟩))))))
def Ov:comp (vf<|xP) (Ys ofC [1,1,1,1,1,1,1,0,1,0,0,1]) D8=J (rD,⟨J rDN,[(0,D9)],[]⟩):=Z2
def Ou:SS:=[(1,(.mem [.fz,.fz,.fz,.fz,.fz,.fz,.fz,.fz,.fz,.fz])),(2,(.mem [.fz,.fz])),(3,.fz),(5,.fz),(6,(.mem [.fz])),(7,(.mem [.fz]))]
def D7:SS:=[(1,(.mem [.fz,.fz,.fz,.fz,.fz,.fz,.fz,.fz,.fz,.fz])),(2,(.mem [.fz,.fz])),(3,.fz),(5,.fz),(6,(.mem [.fz])),(7,(.mem [.fz])),(9,(.cq 55 [7,6])),(10,(.mem [.fz,.fz])),(48,.fz),(47,.fz),(49,.fz),(46,.fz)]
def rC:Stm:=
(.seq
(.ao ⟨[],[],[(14,.no)]⟩)
(.seq
(.ao ⟨[],[],[(14,.no),(15,.m [(.c<|.sl []),(.c<|.sl [])])]⟩)
(.seq
(.seq
(.ao ⟨[],[],[(14,.no),(16,.v<|.c<|.int .i64<|0),(17,.v<|.len<|.s 6),(20,.v<|.s 6)]⟩)
(.block 2
 (.loop [1,2,3,6,7,8,14,15,16,17,20]
  (.seq
  (.ao ⟨[],[],[(14,.no),(18,.v<|.bo .lss (.s 16)<|.s 17)]⟩)
  (.seq
  (.cond (.s 18)
   .skip
   (.exit 2))
  (.seq
  (.block 3
   (.seq
   (.ao ⟨[],[],[(14,.no),(19,.m [(.ae (.bb (.az (.s 20) (.s 16) 7) 0 7) 0),(.ae (.bb (.az (.s 20) (.s 16) 7) 0 7) 1),(.ae (.bb (.az (.s 20) (.s 16) 7) 0 7) 2),(.ae (.bb (.az (.s 20) (.s 16) 7) 0 7) 3),(.ae (.bb (.az (.s 20) (.s 16) 7) 0 7) 4),(.ae (.bb (.az (.s 20) (.s 16) 7) 0 7) 5),(.ae (.bb (.az (.s 20) (.s 16) 7) 0 7) 6)])]⟩)
   (.seq
   (.ao ⟨[],[],[(14,.no),(21,.v<|.m 19 2)]⟩)
   (.ao ⟨[.co 23 [] (.id 55) [.fz,(.mem [.fz]),(.mem [.fz])] [(.gz (.m 19 6) (.c<|.int .i64<|0) (.s 21) 1),(.ag [(.m 8 0)]),(.ag [(.m 7 0)])]],[],[(7,.m [(.ae (.ext (.s 23) 2) 0)]),(8,.m [(.ae (.ext (.s 23) 1) 0)]),(14,.no),(15,.m [(.app (.m 15 0) (.lit [(.ag [(.one<|.ext (.s 23) 0),(.fg (.m 19 6) (.s 21) 1)])]) 2),(.m 15 1)])]⟩))))
  (.ao ⟨[],[],[(14,.no),(16,.v<|.bo .add (.s 16)<|.c<|.int .i64<|1)]⟩)))))))
(.seq
(.ao ⟨[.co 24 [] (.id 55) [.fz,(.mem [.fz]),(.mem [.fz])] [(.m 1 9),(.ag [(.m 8 0)]),(.ag [(.m 7 0)])]],[],[(7,.m [(.ae (.ext (.s 24) 2) 0)]),(8,.m [(.ae (.ext (.s 24) 1) 0)]),(14,.no),(15,.m [(.m 15 0),(.one<|.ext (.s 24) 0)])]⟩)
(.seq
(.ao ⟨[.call 25 [] (.id 57) xw xw [(.mm 15 0 2)]],[],[(2,.m [(.ae (.sz (.ext (.s 25) 0) 2) 0),(.ae (.sz (.ext (.s 25) 0) 2) 1)]),(3,.v<|.fl<|.ext (.s 25) 1),(14,.no)]⟩)
.ret)))))
def rCc:comp (vf<|xP) (Ys ofC [1,1,1,1,1,1,1,1]) Ou=J (rC,⟨U,[],[D7]⟩):=Z2
def NS:Fn:=⟨16,[0,1,2,4,5,14,13,15,7,12,19,8,9,10,11,34],
(.seq
(.ao ⟨[],[],[(3,.v<|.c<|.sl [])]⟩)
(.seq
(.ao ⟨[],[],[(4,.v<|.c<|.sl [])]⟩)
(.seq
(.seq
(.ao ⟨[],[],[(5,.v<|.c<|.int .i64<|0),(6,.v<|.len<|.s 0),(9,.v<|.s 0)]⟩)
(.block 0
 (.loop [0,1,2,3,4,5,6,9]
  (.seq
  (.ao ⟨[],[],[(7,.v<|.bo .lss (.s 5)<|.s 6)]⟩)
  (.seq
  (.cond (.s 7)
   .skip
   (.exit 0))
  (.seq
  (.block 1
   (.seq
   (.ao ⟨[],[],[(8,.v<|.ae (.az (.s 9) (.s 5) 1) 0)]⟩)
   (.seq
   (.seq
   (.ao ⟨[],[],[(10,.v<|.bo .eql (.s 8)<|.c<|.int .u64<|0)]⟩)
   (.cond (.s 10)
    (.seq
    (.ao ⟨[],[],[(4,.v<|.app (.s 4) (.lit [(.c<|.int .i64<|-1)]) 1)]⟩)
    (.exit 1))
    .skip))
   (.seq
   (.ao ⟨[.call 16 [] (.id 56) xw xw [(.s 8)]],[],[(11,.v<|.ext (.s 16) 0),(12,.v<|.ext (.s 16) 1)]⟩)
   (.seq
   (.seq
   (.ao ⟨[],[],[(13,.v<|.ext (.lk (.i .u64) (.m 1 0) (.s 11) (.int .u64<|0) xk) 0),(14,.v<|.ext (.lk (.i .u64) (.m 1 0) (.s 11) (.int .u64<|0) xk) 1)]⟩)
   (.seq
   (.ao ⟨[],[],[(15,.v<|.s 14)]⟩)
   (.cond (.s 15)
    (.ao ⟨[],[],[(11,.v<|.s 13)]⟩)
    .skip)))
   (.ao ⟨[],[],[(4,.v<|.app (.s 4) (.lit [(.one<|.lk (.i .u64) (.m 2 0) (.s 11) (.int .i64<|0) xw)]) 1)]⟩))))))
  (.ao ⟨[],[],[(5,.v<|.bo .add (.s 5)<|.c<|.int .i64<|1)]⟩)))))))
(.seq
(.ao ⟨[],[],[(3,.v<|.s 4),(4,.no)]⟩)
.ret)))),
[(3,.v)]⟩
def cTo:WW xP fresh sig [.fz,(.mem [.fz]),(.mem [.fz])] (Rr [.fz,(.mem [.fz]),(.mem [.fz])]) Try.f55=J NS:=Z2
def Nu:Fn:=⟨5,[0,1,2,3,6],pQ [pR [(1,pS 0 2),(2,.m [pN,pN]),pV 3<|pI 0],pQ [pC [pK 5 58 [.mm 1 0 2]] [pV 4<|.un .not<|.s 5]]<|pw (.s 4)<|pQ [.ao ⟨[],[([],.ag [pN,pN])],[(2,.m [pN,pN]),pV 3<|pI 1]⟩] .ret,pC [.co 6 [] (.id 80) [.fz,(.own 150)] [.mm 1 0 2,.c<|.mp 0 [] []]] [(2,pM (.sz (.ext (.s 6) 0) 2) 2),pV 3<|pI 0]] .ret,[(2,(.ag 2)),(3,.v)]⟩
def c57:ZY [.fz] Try.f57=J Nu:=Z2
def Nv:Fn:=⟨11,[0,1,2,9,3,14,13,15,5,12,32],pQ [pR [(1,pS 0 2),pV 2 pF],pi 3 (pj (.len<|.m 1 1)<|pI 16)<|px [pV 2 pF],pR [(4,.no)],pQ [pR [(4,.no),pV 5<|pI 0,pV 6<|.len<|.m 1 0,pV 9<|.m 1 0]]<|.block 0<|.loop [0,1,2,3,4,5,6,9]<|pQ [pR [(4,.no),pV 7<|pl (.s 5)<|.s 6],.cond (.s 7) .skip<|.exit 0,.block 1<|pQ [pR [(4,.no),(8,pM (.bb (.az (.s 9) (.s 5) 2) 0 2) 2)],.ao ⟨[.lt 11 []<|pj (pa (.len<|.m 8 0)<|.len<|.m 8 1)<|pI 255,.co 12 [(11,xw)] (.id 81) [.fz,(.mem [.fz,.fz])] [.m 8 0,.ag [.m 1 0,.m 1 1]]],[([(11,xw)],.un .not<|.ext (.s 12) 0)],[(1,pM (.ext (.s 12) 1) 2),(4,.no),pV 10<|.ite (.s 11) pT<|.un .not<|.ext (.s 12) 0]⟩]<|pw (.s 10)<|px [pV 2 pF,(4,.no)]]<|pR [(4,.no),pV 5<|pa (.s 5)<|pI 1],pC [.co 13 [] (.id 81) [.fz,(.mem [.fz,.fz])] [.m 1 1,.ag [.m 1 0,.m 1 1]]] [(1,pM (.ext (.s 13) 1) 2),pV 2<|.ext (.s 13) 0,(4,.no)]] .ret,[(2,.v)]⟩
def c58:ZY [.fz] Try.f58=J Nv:=Z2
def NI:Fn:=⟨11,[0,1,2,4,5,13,12,14,7,11,8],pQ [pR [(2,pS 0 2),(3,.m [pN,pN])],pR [(4,.m [pN,pN])],pQ [pC [.co 9 [] (.id 93) [.fz,(.own 150)] [.mm 2 0 2,.s 1]] [pV 1<|.ext (.s 9) 1,pV 5<|pI 0,pV 6<|.len<|.ext (.s 9) 0,pV 9<|.ext (.s 9) 0]]<|po [0,1,2,3,4,5,6,9] 7 (pl (.s 5)<|.s 6) (pQ [pR [pV 8<|.ae (.az (.s 9) (.s 5) 1) 0],pR [(10,pM (.bb (.az (.m 2 0) (.s 8) 2) 0 2) 2)]]<|pC [.call 11 [] (.id 94) xk xw [.m 10 0,.s 1]] [(4,.m [.app (.m 4 0) (.lit [.ag [.one<|.s 11,.app pN (.m 10 1) 1]]) 2,.m 4 1])])<|pc 5,pC [.call 12 [] (.id 94) xk xw [.m 2 1,.s 1]] [(4,.m [.m 4 0,.one<|.s 12])]]<|px [(3,pM (.mm 4 0 2) 2)],[(3,(.ag 2))]⟩
def c80:WW xP fresh sig [.fz,(.own 150)] [(1,(.own 150))] Try.f80=J NI:=Z2
def NJ:Fn:=⟨9,[0,1,3,8,7,9,5,6,20],pQ [pR [pV 2 pF],pQ [pR [pV 3<|pI 0,pV 4<|.len<|.s 0,pV 7<|.s 0]]<|po [0,1,2,3,4,7] 5 (pl (.s 3)<|.s 4) (pQ [pR [pV 6<|.ae (.az (.s 7) (.s 3) 1) 0],.ao ⟨[.lt 9 []<|pl (.s 6)<|pI<|-1],[([(9,xw)],pg (.s 6)<|.len<|.m 1 0)],[pV 8<|.ite (.s 9) pT<|pg (.s 6)<|.len<|.m 1 0]⟩]<|pw (.s 8)<|px [pV 2 pF])<|pc 3]<|px [pV 2 pT],[(2,.v)]⟩
def c81:WW xP fresh sig [.fz,(.mem [.fz,.fz])] [(1,(.mem [.fz,.fz]))] Try.f81=J NJ:=Z2
def Lv:Fn:=⟨9,[0,1,2,3,4,5,6,7,17],pQ [pR [(1,.no),(2,pS 0 2),(3,.m [.s 1]),pV 4 pN],pR [(3,.m [.fe<|.m 3 0])],pR [(5,.m [pN])],pR [(6,.no)],pC [.co 9 [] (.id 97) [.fz,(.mem [(.own 150)]),(.mem [(.own 3)])] [.m 2 1,.ag [.m 3 0],.ag [.m 5 0]]] [(3,.m [.ae (.ext (.s 9) 1) 0]),(5,.m [.ae (.ext (.s 9) 2) 0]),(6,.no)],pQ [pR [(6,.no),pV 7<|pI 0]]<|.block 0<|.loop [0,2,3,4,5,6,7]<|pQ [pQ [pR [(6,.no),pV 8<|pl (.s 7)<|.len<|.m 5 0]]<|.cond (.s 8) .skip<|.exit 0,.block 1<|pC [.co 10 [] (.id 97) [.fz,(.mem [(.own 150)]),(.mem [(.own 3)])] [.ae (.az (.m 2 0) (.ae (.az (.m 5 0) (.s 7) 1) 0) 2) 0,.ag [.m 3 0],.ag [.m 5 0]]] [(3,.m [.ae (.ext (.s 10) 1) 0]),(5,.m [.ae (.ext (.s 10) 2) 0]),(6,.no)]]<|pR [(6,.no),pV 7<|pa (.s 7)<|pI 1]]<|px [pV 4<|.m 5 0,(6,.no)],[(4,.v)]⟩
def c93:WW xP fresh sig [.fz,(.own 150)] [(3,(.mem [(.own 150)]))] Try.f93=J Lv:=Z2
def NP:Fn:=⟨10,[0,1,4,5,10,9,11,7,8,15],pQ [pR [pV 2 pN],pR [pV 3 pN],pQ [pR [pV 4<|pI 0,pV 5<|.len<|.s 0,pV 8<|.s 0]]<|po [0,1,2,3,4,5,8] 6 (pl (.s 4)<|.s 5) (pQ [pR [pV 7<|.ae (.az (.s 8) (.s 4) 1) 0],pi 9 (pg (.s 7)<|pI 0)<|pR [pV 7<|.lk (.i .i64) (.s 1) (.s 7) (.int .i64 0) xw]]<|pR [pV 3<|.app (.s 3) (.lit [.one<|.s 7]) 1])<|pc 4]<|px [pV 2<|.s 3,(3,.no)],[(2,.v)]⟩
def c94:WW xP fresh sig [.fz,.fz] [(4,(.own 3))] Try.f94=J NP:=Z2
def NQ:Fn:=⟨11,[0,1,2,10,9,11,5,8,6,7,25],pQ [pR [pV 3<|pI 0,pV 4<|.len<|.s 0,pV 7<|.s 0]]<|po [0,1,2,3,4,7] 5 (pl (.s 3)<|.s 4) (pQ [pR [pV 6<|.ae (.az (.s 7) (.s 3) 1) 0],pR [pV 8<|.fl<|.ext (.lk (.i .i64) (.m 1 0) (.s 6) (.int .i64 0) xk) 0,pV 9<|.fl<|.ext (.lk (.i .i64) (.m 1 0) (.s 6) (.int .i64 0) xk) 1],.ao ⟨[.lt 11 []<|pg (.s 6)<|pI 0],[([(11,xk)],.un .not<|.s 9)],[pV 10<|.ite (.s 11) (.un .not<|.s 9) pF]⟩]<|pw (.s 10)<|pQ [pR [(1,.m [.dg (.i .i64) (.m 1 0) (.s 6)<|.len<|.m 2 0])]]<|pR [(2,.m [.app (.m 2 0) (.lit [.one<|.s 6]) 1])])<|pc 3,[]⟩
def c97:WW xP fresh sig [.fz,(.mem [(.own 150)]),(.mem [(.own 3)])] [(1,(.mem [(.own 150)])),(2,(.mem [(.own 3)]))] Try.f97=J NQ:=Z2
end Vm
end
section
namespace Vm
open Go Go.Proofs
def Gr.sm(g:Gr):Prop:=I g.nodes<=100000/\I g.E<=100000/\∀n∈g.nodes,I n.M<=100000/\I n.data<=100000
def Tf(n:Nat)(p:Int):Bool:=decide (-1<=p/\p<n)
def Rj(k:Nat)(n:Nd):Bool:=decide (I n.M+I n.data<=255)&&n.M.all (Tf k)
def right(g:Gr):Bool:=decide (I g.E<=16)&&g.nodes.all (Rj<|I g.nodes)&&g.E.all (Tf<|I g.nodes)
theorem FE{α:Type}{p}{l:List α}{i x}(h:l[i]?=J x):(l.take<|i+1).all p=((l.take i).all p&&p x):=by
 rw[Zik,h];simp
theorem FA{α:Type}{p}{l:List α}{i:Nat}{x}(h:l[i]?=J x)(a:p x=xw):l.all p=xw:=by
 grind
def GW{l:List Int}{ns:List V}{a:V}(g:I l<=100000)(k:a.one=xk)(j:YU a=J a):
  Vv xP 81 [.fz,.mem [.fz,.fz]] [.sl<|l.map vi,.agg [.sl ns,a]] (.am [.bool<|l.all<|Tf<|I ns,.agg [.sl ns,a]]):=by
 refine Kc Z24 follows Z2 c81 Z2 ?_;simp[-List.all_eq_true,-List.all_eq_false,NJ];refine S6 (λt=>∃i:Nat,i<=I l/\(l.take i).all (Tf<|I ns)=xk/\t=[.v<|.sl<|l.map vi,.m [.sl ns,a],.v<|.bool xw,.v<|vi i,.v<|vi<|I l,.no,.no,.v<|.sl<|l.map vi]) (λt=>match get t 3 with|.v (.int _ n)=>I l-n.toNat|_=>0) ?_ ?_;exact⟨0,Z1,Z1,Z1⟩;rintro t ⟨i,f,d,rfl⟩;by_cases h:i<I l;have o:l[i]?=J l[i]:=Zhi h;simp[-List.all_eq_true,-List.all_eq_false,h];simp(disch:=omega) only[Zy];grind [FA,Tf,FE];have:i=I l:=Z0;simp_all
def OW{g:Gr}(r:g.sm):VC xP 58 xw [YB g]<|.bool<|right g:=by
 obtain⟨u,j,k⟩:=r;refine ZR Z1P follows Z2 c58 rfl ?_;simp[-List.all_eq_true,-List.all_eq_false,Nv];split;grind [List.all_eq_true,List.all_eq_false,right];rename_i h;refine S6 (λt=>∃i:Nat,i<=I g.nodes/\(g.nodes.take i).all (Rj<|I g.nodes)=xk/\t=[.v<|YB g,.m [.sl<|g.nodes.map Yk,.sl<|g.E.map vi],.v<|.bool xw,.v<|.bool xw,.no,.v<|vi i,.v<|vi<|I g.nodes,.no,.no,.v<|.sl<|g.nodes.map Yk]) (λt=>match get t 5 with|.v (.int _ n)=>I g.nodes-n.toNat|_=>0) ?_ ?_;exact⟨0,Z1,Z1,by simp[h]⟩;rintro t ⟨i,z,a,rfl⟩;by_cases d:i<I g.nodes;have A:g.nodes[i]?=J g.nodes[i]:=Zhi d;obtain⟨q,y⟩:=k _<|ZhE d;have p:=Zy ((i:Int)+1) Z0 Z0;simp[-List.all_eq_true,-List.all_eq_false,d,p];simp(disch:=omega) only[Zy];have w:Rj (I g.nodes) g.nodes[i]=xw->right g=xw:=λx=>by grind [List.all_eq_true,List.all_eq_false,right,FA]
 by_cases l:(g.nodes[i].M.length:Int)+(g.nodes[i].data.length:Int)<=255;rw[Zht l];refine Uc (GW q Zhb Zhb) ?_;have f:¬(255:Int)< (g.nodes[i].M.length:Int)+(g.nodes[i].data.length:Int):=Z0;cases o:g.nodes[i].M.all<|Tf<|I g.nodes;simp[-List.all_eq_true,-List.all_eq_false,f,o];simp_all[Zhw,ZjY,Rj];simp[-List.all_eq_true,-List.all_eq_false,f,o,p];grind [FE,List.all_eq_true,List.all_eq_false,Rj];rw[Zhs l];grind [List.all_eq_true,List.all_eq_false,Rj];have:i=I g.nodes:=Z0;subst this;simp[-List.all_eq_true,-List.all_eq_false];refine Uc (GW j Zhb Zhb) ?_;rw[Zj9]at a;simp[-List.all_eq_true,-List.all_eq_false,right,a];omega
end Vm
namespace Vm
open Go Go.Proofs
end Vm
namespace Vm
open Go Go.Proofs
def E4(n:Nat):List V:=(List.range n).map λ(i:Nat)=>vi i
def XG(id:Nat)(l:List Int):V:=.mp id (l.map vi)<|E4<|I l
def Yc:List Int->List Int->List Int
 |a,[]=>a
 |a,x::l=>Yc (if 0<=x/\x∉a then a++[x]else a) l
def AM{x}:∀ {l:List Int},TJ (vi x) (l.map vi)=J (l.findIdx? (· ==x))
 | []=>rfl
 |y::l=>by
  simp only[ZhR,TJ,L5,Zkc];by_cases h:x=y;subst h;simp;have a:(x==y)=xw:=Zhe;have d:(y==x)=xw:=by simpa using Zj5 h
  simp[a,d,AM]
def GS{x}{l:List Int}:l.findIdx? (· ==x)=U↔x∉l:=by
 grind
theorem IP{id l x z ok}:UH (.i .i64) (XG id l) (vi x) z ok=match l.findIdx? (· ==x)with
  |some i=>J (if ok then .am [vi i,.bool xk]else vi i)
  |none=>J (if ok then .am [z,.bool xw]else z):=by
 unfold UH XG;simp[Vl,AM];grind [List.findIdx?_eq_some_iff_getElem,E4]
def Z6M{id l x}(hx:x∉l):Ti (.i .i64) (XG id l) (vi x) (vi<|I l)=J (XG id<|l++[x]):=by
 unfold Ti XG;simp[Vl,AM,GS.2 hx];simp[E4,ZjG]
@[simp]theorem ZeW id l:YU (XG id l)=J (XG id l):=rfl
def Mq{ns acc:List Int}{id:Nat}(q:I ns<=100000)(k:I acc<=1000000):Vv xP 97 [.fz,.mem [.own 150],.mem [.own 3]] [.sl<|ns.map vi,.agg [XG id acc],.agg [.sl<|acc.map vi]]
  (.am [.am [],.agg [XG id<|Yc acc ns],.agg [.sl<|(Yc acc ns).map vi]]):=by
 refine Kc Z2j follows Z2 c97 Z2 ?_;simp[NQ];refine S6 (λt=>∃i l,i<=I ns/\Yc l (ns.drop i)=Yc acc ns/\I l<=1000000+i/\t=[.v<|.sl<|ns.map vi,.m [XG id l],.m [.sl<|l.map vi],.v<|vi (i:Nat),.v<|vi<|I ns,.no,.no,.v<|.sl<|ns.map vi]) (λt=>match get t 3 with|.v (.int _ n)=>I ns-n.toNat|_=>0) ?_ ?_;exact⟨0,acc,Z1,Z1,Z0,Z1⟩;rintro t ⟨i,l,r,f,u,rfl⟩;by_cases h:i<I ns;have p:ns.drop i=ns[i]::ns.drop (i+1):=(Zih h);rw[p,Yc]at f;simp[h,IP];by_cases d:ns[i]∈l;have a:∃j,l.findIdx? (· ==ns[i])=J j:=by
  cases o:l.findIdx? (· ==ns[i])with
  |none=>grind
  |some j=>simp
 obtain⟨j,o⟩:=a;simp[o,WE,V.bf];simp(disch:=omega) only[Zy];grind;simp[GS.2 d,WE,V.bf];simp(disch:=omega) only[Zy];by_cases g:0<=ns[i];rw[Zht g,Z6M d];rw[Zht ⟨g,d⟩]at f;simp;refine⟨by grind [Y4],⟨i+1,Z0,l++[ns[i]],f,Zgn,rfl,Z1,Z1⟩,Z0⟩;grind;have:i=I ns:=Z0;simp_all[Yc]
@[simp]theorem Zd1 id l:(XG id l).cells=[XG id l]:=rfl
def Good(n:Nat)(l:List Int):Prop:=l.Nodup/\∀x∈l,0<=x/\x<n
def Ca:∀(n:Nat) {l:List Int},l.Nodup->(∀x∈l,0<=x/\x<n)->I l<=n
 |0,l,_,h=>by
  obtain _|⟨x,l⟩:=l;simp;have:=h x Z1;omega
 |n+1,l,a,h=>by
  by_cases j:(n:Int)∈l;have g:=Ca n (a.erase (n:Int)) λx d=>by
   have f:=(a.mem_erase_iff).1 d;have:=h x f.2;omega
  rw[List.length_erase_of_mem j]at g;omega;have:=Ca n a λx d=>by
   have g:=h x d;have:x≠n:=Zgl;omega
  omega
def Good.len{n l}(h:Good n l):=Ca n h.1 h.2
def TS{n}:∀ {f a:List Int},Good n a->(∀x∈f,x<n)->Good n (Yc a f)
 | [],a,h,_=>h
 |x::f,a,h,j=>by
  simp[Yc];refine TS ?_ λy d=>Zgm;split;rename_i g;refine⟨?_,λy d=> ?_⟩;rw[Zkr];exact⟨h.1,Z1,Zgl⟩;obtain d|d:=ZhO.1 d;exact h.2 y d;simp at d;subst d;exact⟨g.1,Zgm⟩;exact h
def XK(g:Gr):Nat->Nat->List Int->List Int
 |0,_,l=>l
 |f+1,i,l=>match l[i]? with
  |some x=>XK g f (i+1)<|Yc l ((g.nodes[x.toNat]?).getD default).M
  |none=>l
def order(g:Gr):List Int:=XK g (I g.nodes+1) 0<|Yc [] g.E
def Ir{n p}(h:Tf n p=xk): -1<=p/\p<n:=by grind [Tf]
def QK{g}(a:right g=xk):∀x∈g.E,-1<=x/\x<I g.nodes:=by
 simp[right,Zhw]at a;exactλx d=>Ir Zgm
def Dk{g}(a:right g=xk):∀n∈g.nodes,∀x∈n.M,-1<=x/\x<I g.nodes:=by
 simp[right,Rj]at a;exactλn d x f=>Ir Zgl
def Z7E{g:Gr}(C:g.sm)(B:right g=xk)(id:Nat)(ks vs:List V):
  Yw xP Lv.body [.v<|YB g,.v<|.mp id ks vs] (λs=>get s 4=.v (.sl<|(order g).map vi)/\get s 3=.m [XG id<|order g]) (λ_ _=>False) (λs=>get s 4=.v (.sl<|(order g).map vi)/\get s 3=.m [XG id<|order g]):=by
 obtain⟨D,q,r⟩:=C;simp[Lv];refine Uc (Mq (ns:=g.E) (acc:=[]) (id:=id) q Z1) ?_;simp;have d:=QK B;have j:Good (I g.nodes)<|Yc [] g.E:=TS ⟨Z1,Z1⟩ λx p=>(d x p).2;refine S6 (λt=>∃i l,i<=I l/\Good (I g.nodes) l/\XK g (I g.nodes+1-i) i l=order g/\t=[.v<|YB g,.no,.m [.sl<|g.nodes.map Yk,.sl<|g.E.map vi],.m [XG id l],.v<|.sl [],.m [.sl<|l.map vi],.no,.v<|vi (i:Nat)]) (λt=>match get t 7 with|.v (.int _ n)=>I g.nodes-n.toNat|_=>0) ?_ ?_;exact⟨0,_,Z1,j,rfl,Z1⟩;rintro t ⟨i,l,K,u,A,rfl⟩;have z:=u.len;by_cases h:i<I l;obtain⟨G,M⟩:=u.2 _<|ZhE h;obtain⟨k,w⟩:=Zhy G;have o:k<I g.nodes:=Z0;have p:l[i]?=J (k:Int):=by rw[Zhi h,w]
 simp[h,w,o];refine Uc (Mq (r _<|ZhE o).1 Z0) ?_;simp;simp(disch:=omega) only[Zy];have a:Good (I g.nodes)<|Yc l g.nodes[k].M:=TS u λx p=>(Dk B _ (ZhE o) x p).2;refine⟨⟨i+1,_,?_,a,?_,rfl,rfl,Z1⟩,Z0⟩;have:∀ {ns acc:List Int},I acc<=I (Yc acc ns):=by
  intro ns;induction ns with
  |nil=>simp_all[Yc]
  |cons y ns L=>
   intro acc;simp only[Yc];grind
 grind;rw[show I g.nodes+1-i=(I g.nodes+1- (i+1))+1 by omega,XK,p]at A;simp_all;have:i=I l:=Z0;subst this;have F:l=order g:=by
  rw[<-A];cases H:I g.nodes+1-(I l) with
  |zero=>omega
  |succ f=>simp[XK]
 simp_all
def Z7D{g:Gr}(hg:g.sm)(hr:right g=xk)(id:Nat)(ks vs:List V):Vv xP 93 [.fz,.own 150] [YB g,.mp id ks vs]<|.am [.sl<|(order g).map vi,XG id<|order g]:=by
 refine⟨Z2,λB w h us a9 hA=> ?_⟩;obtain⟨b6,a1,a2⟩:=hA;obtain⟨d7,T,b0⟩:=a2 1 (.own 150) (.mp id ks vs) rfl rfl;simp only[Wu,Zhh]at T;subst T;obtain⟨x1,W,R⟩:=b0;simp only[eval,Zhh]at W;subst W;obtain⟨_,_,hl,_⟩|⟨c8,d5,d9,b,es,Y,he,hv,a5,hB,hid,hh,h1,h2,h3,h4⟩:=R;cases hl;cases he;have a0:zE xP B w h [.fz,.own 150] [YB g,.mp (b+1) ks vs] us:=by
  refine⟨rfl,a1,λi k x f j=> ?_⟩
  match i,f,j with
  |0,f,j=>grind
  |1,f,j=>
   simp at f j;subst f j;exact⟨_,rfl,_,rfl,.inr ⟨b+1,ks,vs,b,es,Y,rfl,hv,a5,hB,.inr rfl,hh,h1,h2,h3,h4⟩⟩
  |i+2,f,j=>simp at f
 refine yw (cf:=Lv) (fin:=[(3,.mem [.own 150])]) (xs:=[YB g,.mp (b+1) ks vs]) (Rt:=λs=>get s 4=.v (.sl<|(order g).map vi)/\get s 3=.m [XG (b+1)<|order g]) Z2h follows c93 (Z7E hg hr (b+1) ks vs) a9 a0 λc s S a w' h' hP b8 O z M r p hK o l=> ?_;rw[<-hP]at l z⊢;simp only[Rm,Zhl,Zhw]at l;obtain⟨A,a7⟩:=l;obtain⟨d,a8⟩:=zG r p a7;have Q:c.ix 3=3:=O 3 ZgB;have hr:Ws s (LP c.P c.ix Try.f93)=J (.sl<|(order g).map vi):=by
  rw[<-z];simp[Lv,M.1]
 obtain⟨v,b1,b4⟩:=LQ (D:=(h'.drop<|Uk S [(3,.mem [.own 150])]).F) r p (λb hb=>.inl hb) (λq hq=>by
  have h1:=A q hq;have h2:=Zhw.1 (Z2:OL Try.f93 [(3,.mem [.own 150])]=xk) q hq;refine⟨h1,λi b hb=>.inr ⟨Rz q,i+1,?_,Z0,hb⟩⟩;simp_all[Uk,Zl5,Rz]) hr
 obtain⟨u,hu,b3,d8,T3,e1,e2,e3,e4,e5⟩:=d.Z 3 (by grind [YA,Yu]) Zhb;obtain⟨X,hX,C⟩:=e5 0 (.own 150,.m (c.ix 3) 0) rfl;have a3:X=XG (b+1) (order g):=by
  simp only[eval,Q,M.2]at hX;simpa using hX.symm
 subst a3;obtain⟨_,_,hl,_⟩|⟨d0,d6,e0,H,Z,L,N,c0,n,b7,b5,a6,q1,q2,q3,q4⟩:=C;cases hl;simp only[XG,V.mp.injEq]at N;obtain⟨rfl,rfl,rfl⟩:=N;have a4:H=b:=Z0;subst a4;obtain⟨r1,r2,r3⟩:=d.ok.an 3 1 H n
 refine⟨v,b1,v,.sl<|(order g).map vi,[.bool xw,XG id<|order g],{F:=(h'.drop<|Uk S [(3,.mem [.own 150])]).F,bl:=λt i=>if t=1/\i=1 then J H else U,K:=h'.K},rfl,o.below,o.same,
  ⟨d.ok.base,d.ok.bn,d.ok.cr,d.ok.fh,λt i x j=> ?_,λt i t' i' x j c1=> ?_,d.ok.cp,λt i x j=> ?_,d.ok.fi⟩,hK,b4,⟨rfl,λi k y f b9 G=> ?_⟩,rfl⟩
 grind;grind;simp only at j;split at j;simp only[Zhh]at j;subst j;exact d.ok.cj 3 1 H n;cases j
 match i,f,G with
 |0,f,G=>grind
 |1,f,G=>
  simp at f G;subst f G;exact⟨_,rfl,_,rfl,.inr ⟨id,_,_,H,Z,L,rfl,hv,Z1,hB,hid,a6,q1,q2,q3,q4⟩⟩
 |i+2,f,G=>simp at f
end Vm
namespace Vm
open Go Go.Proofs
def Q1(l:List Int)(p:Int):Int:=match l.findIdx? (· ==p)with
 |some i=>(i:Nat)
 |none=>0
def WZ(l a:List Int):List Int:=a.map λp=>if 0<=p then Q1 l p else p
def Q5(g:Gr)(l:List Int)(x:Int):Nd:=let n:=(g.nodes[x.toNat]?).getD default;⟨WZ l n.M,n.data⟩
def YD(g:Gr):Gr:=⟨(order g).map<|Q5 g<|order g,WZ (order g) g.E⟩
def Z65{id l x}:UH (.i .i64) (XG id l) (vi x) (vi 0) xw=J (vi<|Q1 l x):=by
 grind [IP,Q1]
def Z42{l:List Int}:∀c∈flat (l.map vi),c.bf=xk:=by
 intro c d;simp[flat,ZhC]at d;obtain⟨y,⟨a,_,rfl⟩,d⟩:=d;have:c=vi a:=by simpa[V.cells]using d
 subst this;rfl
def Me{a l:List Int}{id:Nat}(o:I a<=100000):VC xP 94 xk [.sl<|a.map vi,XG id l]<|.sl<|(WZ l a).map vi:=by
 refine Zbm (t:=4) (ty:=3) Z2i follows Z2 rfl c94 rfl Z42 ?_;simp[NP];refine S6 (λt=>∃i:Nat,i<=I a/\t=[.v<|.sl<|a.map vi,.v<|XG id l,.v<|.sl [],.v<|.sl<|(WZ l<|a.take i).map vi,.v<|vi i,.v<|vi<|I a,.no,.no,.v<|.sl<|a.map vi]) (λt=>match get t 4 with|.v (.int _ n)=>I a-n.toNat|_=>0) ?_ ?_;exact⟨0,Z1,by simp[WZ]⟩;rintro t ⟨i,k,rfl⟩;by_cases h:i<I a;have j:a[i]?=J a[i]:=Zhi h;have d:WZ l (a.take<|i+1)=WZ l (a.take i)++[if 0<=a[i]then Q1 l a[i]else a[i]]:=by
  unfold WZ;rw[Zik,j,Ziv];rfl
 have g:I (WZ l<|a.take i)<=100000:=by simp[WZ];omega
 simp[h];simp(disch:=omega) only[Zy];by_cases f:0<=a[i];simp[f,Z65];refine⟨ZgO,⟨i+1,Z0,by rw[d];simp[f],Z1⟩,Z0⟩;simp[f];refine⟨ZgO,⟨i+1,Z0,by rw[d];simp[f],Z1⟩,Z0⟩;have:i=I a:=Z0;subst this;simp
def MM{g}(d:right g=xk):∀ {f i} {l:List Int},Good (I g.nodes) l->Good (I g.nodes) (XK g f i l)
 |0,i,l,h=>h
 |f+1,i,l,h=>by
  simp[XK];split;rename_i x k;refine MM d (TS h λy j=> ?_);let⟨n,o⟩:=h.2 x Zgl;have a:x.toNat<I g.nodes:=Z0;rw[Zhi a]at j;exact(Dk d _ Z1 y j).2;exact h
def Lp{g}(a:right g=xk):Good (I g.nodes)<|order g:=
 MM a (TS ⟨Z1,Z1⟩ λx d=>(QK a x d).2)
def Z3c{g:Gr}(p:g.sm)(r:right g=xk)(id:Nat)(ks vs:List V):Vv xP 80 [.fz,.own 150] [YB g,.mp id ks vs]<|.am [YB<|YD g,XG id<|order g]:=by
 refine Kc Z23 follows Z2 c80 Z2 ?_;simp[NI];refine Uc (Z7D p r id ks vs) ?_;simp;obtain⟨u,j,o⟩:=p;have a:=Lp r;have f:=a.len;generalize A:order g=l at a f;refine S6 (λt=>∃i:Nat,i<=I l/\t=[.v<|YB g,.v<|XG id l,.m [.sl<|g.nodes.map Yk,.sl<|g.E.map vi],.m [.sl [],.sl []],.m [.sl<|((l.take i).map<|Q5 g l).map Yk,.sl []],.v<|vi i,.v<|vi<|I l,.no,.no,.v<|.sl<|l.map vi]) (λt=>match get t 5 with|.v (.int _ n)=>I l-n.toNat|_=>0) ?_ ?_;exact⟨0,Z1,Z1⟩;rintro t ⟨i,z,rfl⟩;by_cases h:i<I l;have B:l[i]?=J l[i]:=Zhi h;obtain⟨y,D⟩:=a.2 _<|ZhE h;obtain⟨k,q⟩:=Zhy y;have d:k<I g.nodes:=Z0;obtain⟨x,C⟩:=o _<|ZhE d;simp[h,q,d];refine Zz (Me x) Z1 ?_;simp;simp(disch:=omega) only[Zy];have w:V.agg [V.sl<|List.map vi<|WZ l g.nodes[k].M,V.sl<|List.map vu g.nodes[k].data]=Yk (Q5 g l l[i]):=by
  simp[Q5,q,d,Yk]
 refine⟨by grind [Y4],by grind [Y4],⟨i+1,Z0,?_,Z1⟩,Z0⟩;simp_all[Zik,ZhG];have:i=I l:=Z0;simp_all;refine Zz (Me j) Z1 ?_;simp_all[YD,YB]
def Z3b{g}(h:g.sm)(o:right g=xk):(YD g).sm:=by
 let⟨j,k,l⟩:=h;have a:=Lp o;have d:=a.len;refine⟨by grind [YD],by simp_all[YD,WZ],λn f=> ?_⟩;simp[YD]at f;obtain⟨x,p,rfl⟩:=f;let⟨q,r⟩:=a.2 x p;simp_all[ZhE,Q5,WZ]
def UI:Gr:=⟨[],[]⟩
def Vh(g:Gr):V:=if right g=xk then .am [YB<|YD g,vi 0]else .am [YB UI,vi 1]
def Z0O{g:Gr}(a:g.sm):VC xP 57 xw [YB g]<|Vh g:=by
 refine ZR Z1O follows Z2 c57 rfl ?_;simp[Nu];refine Zz (OW a) Z1 ?_;cases d:right g;simp[Vh,d,UI,YB];simp;refine Uc (Z3c a d 0 [] []) ?_;simp_all[Vh,YB]
end Vm
namespace Vm
open Go Go.Proofs
end Vm
end
section
namespace Vm
open Go Go.Proofs
def g0:Gr:=⟨[⟨[],[]⟩,⟨[],[4]⟩,⟨[1],[]⟩,⟨[],[]⟩],[2,0]⟩
def g1:Gr:=⟨[],[0]⟩
def g2:Gr:=⟨[],[-1,-1]⟩
end Vm
end
section

end
section
namespace Vm
open Go Go.Proofs
def outs(g:Gr)(x:Int):List Int:=((g.nodes[x.toNat]?).getD default).M
def Mn:∀(a:Z8) {d b:Z8},Yc d (a++b)=Yc (Yc d a) b
 | [],_,_=>rfl
 |x::a,d,b=>by simp only[ZiC,Yc];exact Mn a
def qr:∀(l:Z8) {acc:Z8},∃t,Yc acc l=acc++t
 | [],acc=>⟨[],by simp[Yc]⟩
 |x::l,acc=>by
  simp only[Yc];obtain⟨t,a⟩:=qr l (acc:=if 0<=x/\x∉acc then acc++[x]else acc);rw[a];split;exact⟨x::t,Z1⟩;exact⟨t,rfl⟩
def Qz:∀ {l d:Z8} {x:Int},x∈Yc d l↔x∈d\/(x∈l/\0<=x)
 | [],d,x=>by simp[Yc]
 |y::l,d,x=>by
  simp only[Yc,Qz (l:=l),ZhK];split;rename_i h;simp only[ZhO,Zim];constructor;rintro((a|rfl)|a);exact .inl a;exact .inr ⟨.inl rfl,h.1⟩;exact .inr ⟨.inr a.1,a.2⟩;rintro(a|⟨rfl|a,f⟩);exact .inl<|.inl a;exact .inl<|.inr rfl;exact .inr ⟨a,f⟩;rename_i h;constructor;rintro(a|a);exact .inl a;exact .inr ⟨.inr a.1,a.2⟩;rintro(a|⟨rfl|a,f⟩);exact .inl a;exact .inl (by by_cases g:x∈d;exact g;exact(h ⟨f,g⟩).elim);exact .inr ⟨a,f⟩
def yD{g:Gr}(f:right g=xk)(x:Int):∀y∈outs g x,-1<=y/\y<I g.nodes:=by
 intro y a;unfold outs at a;cases d:g.nodes[x.toNat]? with
 |none=>rw[d]at a;cases a
 |some n=>rw[d]at a;exact Dk f n (Zhq d) y a
def MO{g:Gr}(n:right g=xk):∀ {f i:Nat} {l:Z8},Good (I g.nodes) l->i<=I l->I g.nodes<f+i->l=Yc [] (g.E++(l.take i).flatMap (outs g))->
  XK g f i l=Yc [] (g.E++(XK g f i l).flatMap (outs g))
 |0,i,l,j,p,o,a=>by have:=j.len;omega
 |f+1,i,l,j,p,o,a=>by
  simp only[XK];cases d:l[i]? with
  |none=>
   have:I l<=i:=Zgz;rw[Ziy this]at a;exact a
  |some x=>
   have q:i<I l:=by
    obtain h|h:=ZlH i<|I l;exact h;rw[Zib h]at d;cases d
   obtain⟨t,k⟩:=qr (outs g x) (acc:=l);refine MO n (TS j λy r=>(yD n x y r).2) ?_ Z0 ?_;show i+1<=I (Yc l<|outs g x);rw[k,Zi3];omega;show Yc l (outs g x)=Yc [] (g.E++((Yc l<|outs g x).take<|i+1).flatMap (outs g));rw[k,ZkC Z0,Zik,d,<-k];simp only[Zji,Option.toList,<-Zi7];rw[Mn,<-a];simp
def MP{g:Gr}(a:right g=xk):order g=Yc [] (g.E++(order g).flatMap (outs g)):=by
 refine MO a (TS ⟨List.nodup_nil,Z1⟩ λy d=>(QK a y d).2) (Zis _) Z0 ?_;simp
def Nl:Fn:=⟨10,[0,1,2,8,3,12,11,13,5,10],pQ [pR [(1,pS 0 2),pV 2<|pI 0],pQ [pC [pK 10 58 [.mm 1 0 2]] [pV 3<|.un .not<|.s 10]]<|pw (.s 3)<|px [pV 2<|pI 0],pR [pV 4<|pI 0],pQ [pR [pV 5<|pI 0,pV 6<|.len<|.m 1 0,pV 9<|.m 1 0]]<|po [0,1,2,3,4,5,6,9] 7 (pl (.s 5)<|.s 6) (pQ [pR [(8,pM (.bb (.az (.s 9) (.s 5) 2) 0 2) 2)]]<|pR [pV 4<|pa (.s 4)<|pa (pa (pI 1)<|.len<|.m 8 0)<|.len<|.m 8 1])<|pc 5]<|px [pV 2<|.s 4],[(2,.v)]⟩
def c37:ZY [.fz] Try.f37=J Nl:=Z2
end Vm
end
section
namespace Vm
open Go Go.Proofs
def Tj(n:Nd):Nat:=1+I n.M+I n.data
def Wy(l:List Nd):Nat:=(l.map Tj).sum
def words(g:Gr):Nat:=if right g=xk then Wy g.nodes else 0
def ZbN{l:List Nd}{i:Nat}{x:Nd}(h:l[i]?=J x):Wy (l.take<|i+1)=Wy (l.take i)+Tj x:=by
 unfold Wy;rw[Zik,h,Ziv,ZkM];simp
def ZbL{l:List Nd}(h:∀n∈l,I n.M<=100000/\I n.data<=100000)(i:Nat):Wy (l.take i)<=I l*200001:=by
 have:∀ {l:List Nd},(∀n∈l,I n.M<=100000/\I n.data<=100000)->Wy l<=I l*200001:=by
  intro l;induction l with
  |nil=>intro _;simp[Wy]
  |cons x l f=>
   intro h;have g:=f λn a=>h n (by simp[a]);have j:=h x Z1;have k:Tj x<=200001:=by unfold Tj;omega
   have d:Wy (x::l)=Tj x+Wy l:=by simp[Wy]
   rw[d,ZiD,ZiG];omega
 refine ZhU (this λn a=>h n<|Zio a)<|Zi1 _ ?_;rw[Zil];omega
def Z2n{g:Gr}(l:g.sm):VC xP 37 xw [YB g]<|vi<|words g:=by
 refine ZR Z1C follows Z2 c37 rfl ?_;simp[Nl];refine Zz (OW l) Z1 ?_;cases p:right g;simp[words,p];obtain⟨d,r,a⟩:=l;simp;refine S6 (λt=>∃i:Nat,i<=I g.nodes/\t=[.v<|YB g,.m [.sl<|g.nodes.map Yk,.sl<|g.E.map vi],.v<|vi 0,.v<|.bool xw,.v<|vi (Wy (g.nodes.take i):Nat),.v<|vi i,.v<|vi<|I g.nodes,.no,.no,.v<|.sl<|g.nodes.map Yk]) (λt=>match get t 5 with|.v (.int _ n)=>I g.nodes-n.toNat|_=>0) ?_ ?_;exact⟨0,Z1,by simp[Wy]⟩;rintro t ⟨i,B,rfl⟩;by_cases h:i<I g.nodes;have y:g.nodes[i]?=J g.nodes[i]:=Zhi h;obtain⟨z,A⟩:=a _<|ZhE h;have q:=ZbN y;have u:=ZbL a<|i+1;have o:I g.nodes*200001<=100000*200001:=Zi1 _ d;simp[h];generalize g.nodes[i]=x at*;have w:=Zy ((i:Int)+1) Z0 Z0;have f:=Zy (1+(I x.M:Int)) Z0 Z0;have j:=Zy (1+(I x.M:Int)+I x.data) Z0 Z0;unfold Tj at q;have k:=Zy ((Wy (g.nodes.take i):Int)+(1+(I x.M:Int)+I x.data)) Z0 Z0;simp[w,f,j,k];exact⟨⟨i+1,Z0,by rw[q];omega,Z1⟩,Z0⟩;have:i=I g.nodes:=Z0;subst this;simp[words,p]
@[simp]theorem ZfT{α β:Type}{f:α->β}{l:List α}:(l.map f).take (I l)=l.map f:=Ziy (by simp)
end Vm
namespace Vm
open Go Go.Proofs
def qs{f:Int->Int}:∀ {o l:List Int},(∀x∈Yc l o,∀y∈Yc l o,f x=f y->x=y)->(∀x∈Yc l o,0<=f x)->(∀x∈o,x<0->f x<0)->Yc (l.map f) (o.map f)=(Yc l o).map f
 | [],l,_,_,_=>rfl
 |y::o,l,d,g,k=>by
  simp only[ZhR,Yc];simp only[Yc]at d g;by_cases j:0<=y/\y∉l;rw[Zht j]at d g⊢;have h:y∈Yc (l++[y]) o:=Qz.2<|.inl Z1
  have a:0<=f y/\f y∉l.map f:=⟨g y h,λu=>by
   obtain⟨z,p,t⟩:=ZhC.1 u;have:=d z (Qz.2<|.inl (by simp[p])) y h t;subst this;exact j.2 p⟩
  rw[Zht a,show l.map f++[f y]=(l++[y]).map f by simp];exact qs d g λx n=>k x (by simp[n]);rw[Zhs j]at d g⊢;have a:¬(0<=f y/\f y∉l.map f):=by
   rintro⟨w,r⟩;by_cases q:0<=y;exact r<|ZhC.2 ⟨y,by by_cases h:y∈l;exact h;exact(j ⟨q,h⟩).elim,rfl⟩;have:=k y Z1 Z0;omega
  rw[Zhs a];exact qs d g λx n=>k x (by simp[n])
def Co{g:Gr}:∀ {F i:Nat} {l:List Int},∃t,XK g F i l=l++t
 |0,i,l=>⟨[],by simp[XK]⟩
 |F+1,i,l=>by
  simp only[XK];cases l[i]? with
  |none=>exact⟨[],Z1⟩
  |some x=>
   obtain⟨t,d⟩:=qr ((g.nodes[x.toNat]?).getD default).M (acc:=l);obtain⟨f,a⟩:=Co (g:=g) (F:=F) (i:=i+1) (l:=Yc l ((g.nodes[x.toNat]?).getD default).M);refine⟨t++f,?_⟩;show XK g F (i+1) (Yc l ((g.nodes[x.toNat]?).getD default).M)=_;rw[a,d,Zi7]
def Cn{g:Gr}(d:right g=xk):∀ {F i:Nat} {l:List Int} (k:Nat),Good (I g.nodes) l->I g.nodes<F+i->XK g (F+k) i l=XK g F i l
 |0,i,l,k,a,f=>by
  have:=a.len;cases k with
  |zero=>rfl
  |succ k=>
   simp only[Zi5,XK];rw[Zib Z0]
 |F+1,i,l,k,a,f=>by
  rw[show F+1+k=(F+k)+1 by omega];simp only[XK];cases j:l[i]? with
  |none=>rfl
  |some x=>
   exact Cn d k (TS a λy h=>(yD d x y h).2) Z0
def MN{g h:Gr}{f:Int->Int}(d:∀x∈order g,(h.nodes[(f x).toNat]?).map (·.M)=J ((outs g x).map f))(n:∀x∈order g,∀y∈outs g x,y<0->f y<0)(k:∀x∈order g,∀y∈order g,f x=f y->x=y)(o:∀x∈order g,0<=f x):
  ∀ {F i:Nat} {l:List Int},(∀x∈XK g F i l,x∈order g)->XK h F i (l.map f)=(XK g F i l).map f
 |0,i,l,_=>rfl
 |F+1,i,l,q=>by
  simp only[XK,ZhG];simp only[XK]at q;cases A:l[i]? with
  |none=>rfl
  |some x=>
   rw[A]at q;simp only[ZhL];simp only at q;have u:x∈order g:=by
    obtain⟨t,C⟩:=qr ((g.nodes[x.toNat]?).getD default).M (acc:=l);obtain⟨G,p⟩:=Co (g:=g) (F:=F) (i:=i+1) (l:=Yc l ((g.nodes[x.toNat]?).getD default).M);refine q x ?_;rw[p,C];simp[Zhq A]
   have r:=d x u;cases z:h.nodes[(f x).toNat]? with
   |none=>rw[z]at r;cases r
   |some H=>
    rw[z]at r;simp only[ZhL,Zhh]at r;simp only[ZhP,r];have j:∀y∈Yc l (outs g x),y∈order g:=λy D=>by
     obtain⟨G,p⟩:=Co (g:=g) (F:=F) (i:=i+1) (l:=Yc l<|outs g x);refine q y ?_;show y∈XK g F (i+1) (Yc l<|outs g x);rw[p];simp[D]
    rw[qs (λa w b B=>k a (j a w) b<|j b B) (λa w=>o a<|j a w)<|n x u];exact MN d n k o q
def yY{g:Gr}(d:right g=xk){x:Int}(hx:x∈g.E)(a:0<=x):x∈order g:=by
 rw[MP d,Qz];exact .inr ⟨by simp[hx],a⟩
def Z64{g:Gr}(d:right g=xk){x y:Int}(hx:x∈order g)(f:y∈outs g x)(a:0<=y):y∈order g:=by
 rw[MP d,Qz];exact .inr ⟨Zju _<|ZjM.2 ⟨x,hx,f⟩,a⟩
def Z2A{L:List Int}{f:Int->Int}{p:Int}(d:∀x∈L,f x=f p->x=p):Q1 (L.map f) (f p)=Q1 L p:=by
 unfold Q1;rw[List.findIdx?_map];have:L.findIdx? ((λx=>x==f p)∘f)=L.findIdx? (λx=>x==p):=by
  induction L with
  |nil=>rfl
  |cons a L k=>
   simp only[Zkc,Function.comp];have g:(f a==f p)=(a==p):=by
    rw[ZkI];simp only[Zia];exact⟨d a Z1,λe=>by rw[e]⟩
   have h:=k λx j=>d x (by simp[j]);simp only[g];rw[h]
 rw[this]
def Z3a{g h:Gr}(o:right g=xk)(L:right h=xk)(f:Int->Int)(P:f (-1)= -1)(q:∀x∈order g,∀y∈order g,f x=f y->x=y)(r:∀x∈order g,0<=f x)
  (n:h.E=g.E.map f) (k:∀x∈order g,h.nodes[(f x).toNat]?=J ⟨(outs g x).map f,((g.nodes[x.toNat]?).getD default).data⟩):
  order h=(order g).map f/\YD h=YD g:=by
 have z:∀x:Int,-1<=x->x<0->f x=x:=λx C D=>by
  have:x= -1:=Z0;subst this;exact P
 have w:∀x∈order g,(h.nodes[(f x).toNat]?).map (·.M)=J ((outs g x).map f):=λx a=>by rw[k x a];rfl
 have G:order h=(order g).map f:=by
  have t:Good (I g.nodes)<|Yc [] g.E:=TS ⟨Z1,Z1⟩ λx a=>(QK o x a).2;have u:Good (I h.nodes)<|Yc [] h.E:=TS ⟨Z1,Z1⟩ λx a=>(QK L x a).2;have C:=Cn o (F:=I g.nodes+1) (i:=0) (I h.nodes) t Z0;have D:=Cn L (F:=I h.nodes+1) (i:=0) (I g.nodes) u Z0;have M:=MN (f:=f) w (λx a y B d=>by rw[z y (yD o x y B).1 d];exact d) q r (F:=I g.nodes+1+I h.nodes) (i:=0) (l:=Yc [] g.E) (λx a=>by rw[C]at a;exact a);have N:Yc [] h.E=(Yc [] g.E).map f:=by
   rw[n];refine qs (l:=[]) (λx a y B=> ?_) (λx a=> ?_) (λx a d=> ?_);rw[Qz]at a B;simp at a B;exact q x (yY o a.1 a.2) y<|yY o B.1 B.2;rw[Qz]at a;simp at a;exact r x<|yY o a.1 a.2;rw[z x (QK o x a).1 d];exact d
  unfold order;rw[<-D,<-C,N,<-M];congr 1;omega
 refine⟨G,?_⟩;have j:∀H:List Int,(∀p∈H,-1<=p/\(0<=p->p∈order g))->WZ (order h) (H.map f)=WZ (order g) H:=by
  intro H K;unfold WZ;rw[Zjt];refine ZiM λp A=> ?_;obtain⟨C,D⟩:=K p A;simp only[Function.comp];by_cases d:0<=p;rw[Zht<|r p<|D d,Zht d,G];exact Z2A λx a O=>q x a p (D d) O;rw[z p C Z0];rw[Zhs d,Zhs d]
 unfold YD;congr 1;rw[G,Zjt];refine ZiM λx a=> ?_;simp only[Function.comp,Q5,k x a,ZhP];congr 1;rw[<-G];exact j _ λp A=>⟨(yD o x p A).1,λd=>Z64 o a A d⟩;rw[n];exact j _ λp A=>⟨(QK o p A).1,λd=>yY o A d⟩
end Vm
end
section

end
section
namespace Vm
open Go Go.Proofs
structure Fo where
 ob:Ob
 ad:Int
 sl:List Int
 deriving Inhabited
def Xl(f:Fo):V:=.agg [vi f.ob.Z,vi f.ob.size,vi f.ob.M,.bool f.ob.gone,vu f.ob.target,vu f.ad,.sl<|f.sl.map vu]
@[simp]theorem Zej(f:Fo):(Xl f).cells=[vi f.ob.Z,vi f.ob.size,vi f.ob.M,.bool f.ob.gone,vu f.ob.target,vu f.ad,.sl<|f.sl.map vu]:=rfl
@[simp]theorem ZfK(f:Fo):VL (Xl f) 7=J (Xl f):=rfl
@[simp]theorem Zec(f:Fo):UC (Xl f) 0 7=J (Xl f):=rfl
@[simp]theorem Zdq(f:Fo):Y0 (Xl f) 0=J (vi f.ob.Z):=rfl
@[simp]theorem Zdr(f:Fo):Y0 (Xl f) 1=J (vi f.ob.size):=rfl
@[simp]theorem Zds(f:Fo):Y0 (Xl f) 2=J (vi f.ob.M):=rfl
@[simp]theorem Zdt(f:Fo):Y0 (Xl f) 3=J (.bool f.ob.gone):=rfl
@[simp]theorem Zdu(f:Fo):Y0 (Xl f) 4=J (vu f.ob.target):=rfl
@[simp]theorem Zdv(f:Fo):Y0 (Xl f) 5=J (vu f.ad):=rfl
@[simp]theorem Zdw(f:Fo):Y0 (Xl f) 6=J (.sl<|f.sl.map vu):=rfl
@[simp]theorem Zfy(l:List Fo):Xv 7 (l.map Xl)=xk:=JY λ_=>rfl
structure Vw where
 ns:List Fo
 nm:List<|Int×Int
 tm:List<|Int×Int
 deriving Inhabited
def Vw.put(s:Vw)(f:Fo):Vw:=if f.ob.gone then {s with tm:=XW s.tm f.ad f.ob.target}else {s with ns:=s.ns++[f],nm:=XW s.nm f.ad (I s.ns)}
def Vw.cz(s:Vw)(w:Int):Int:=if w=0 then-1 else(Y3 s.nm<|(Y3 s.tm (adr w).1).getD (adr w).1).getD 0
def Ul(s:Vw)(f:Fo):Nd:=⟨(f.sl.take f.ob.M.toNat).map s.cz,f.sl.drop f.ob.M.toNat⟩
def Vw.gr(s:Vw)(a:Z8):Gr:=⟨s.ns.map<|Ul s,a.map s.cz⟩
def Fs(s:Vw){ws:Z8}(B:I ws<=1000000)(x:∀w∈ws,ZB w):
  Vv xP 55 [.fz,.mem [.fz],.mem [.fz]] [.sl<|ws.map vu,.agg [Yg vu s.tm],.agg [Yg vi s.nm]] (.am [.sl<|(ws.map s.cz).map vi,.agg [Yg vu s.tm],.agg [Yg vi s.nm]]):=by
 refine Kc Z1N follows Z2 cTo Z2 ?_;simp[NS];refine VO 5 (I ws) (λi=>[(4,.v<|.sl<|((ws.take i).map s.cz).map vi),(5,.v<|vi i)]) (λ_=>True) Z1 Z1 trivial ?_;intro i A _;by_cases h:i<I ws;have y:ws[i]?=J ws[i]:=Zhi h;have r:=x _<|ZhE h;have o:=Zy ((i:Int)+1) Z0 Z0;have q:List.take (i+1) (List.map (vi∘s.cz) ws)=List.take i (List.map (vi∘s.cz) ws)++[vi<|s.cz ws[i]]:=by
  rw[Zik,ZhG,y];rfl
 have a:min i (I ws)+1<=Y4:=by unfold Y4;omega
 simp[h,o,q,a];split;simp_all[Vw.cz];rename_i p;refine Zz (Ko r) Z1 ?_;have j:=Qt (f:=vu) (l:=s.tm) (k:=(adr ws[i]).1) (z:=.int .u64 0) (ok:=xk);cases n:Y3 s.tm (adr ws[i]).1 with
 |none=>
  rw[n]at j;have d:=Qt (f:=vi) (l:=s.nm) (k:=(adr ws[i]).1) (z:=.int .i64 0) (ok:=xw);cases g:Y3 s.nm (adr ws[i]).1 with
  |none=>rw[g]at d;simp[j,d,Vw.cz,p,n,g,o,a]
  |some t=>rw[g]at d;simp[j,d,Vw.cz,p,n,g,o,a]
 |some u=>
  rw[n]at j;have d:=Qt (f:=vi) (l:=s.nm) (k:=u) (z:=.int .i64 0) (ok:=xw);cases g:Y3 s.nm u with
  |none=>rw[g]at d;simp[j,d,Vw.cz,p,n,g,o,a]
  |some t=>rw[g]at d;simp[j,d,Vw.cz,p,n,g,o,a]
 have:i=I ws:=Z0;simp_all
def Z8Q{s:St}{st:Vw}{f:Fo}{N R:St->Prop}{X:Nat->St->Prop}(o:get s 6=.v (.sl<|st.ns.map Xl))(p:get s 7=.m [Yg vi st.nm])(q:get s 8=.m [Yg vu st.tm])(h:get s 12=.v (.am [Xl f,.bool xk]))(g:get s 10=.v (.bool xk))(u:I st.ns<=4000000)
  (r:∀a,get a 6=.v (.sl<|(st.put f).ns.map Xl)->get a 7=.m [Yg vi (st.put f).nm]->get a 8=.m [Yg vu (st.put f).tm]->get a 1=get s 1->get a 2=get s 2->get a 3=get s 3->N a):Yw xP rD s N X R:=by
 have j:=La (f:=vu) (l:=st.tm) (k:=f.ad) (x:=f.ob.target);have n:=La (f:=vi) (l:=st.nm) (k:=f.ad) (x:=(I st.ns:Int));have d:I st.ns+1<=Y4:=by unfold Y4;omega
 cases t:f.ob.gone;simp_all[rD,X1,Vw.put,Xl];simp_all[rD,X1,Vw.put]
def Z8P{s:St}{N R:St->Prop}{X:Nat->St->Prop}(a:get s 10=.v (.bool xw))(d:X 0 s):Yw xP rD s N X R:=by
 simp[rD,a,d]
structure Vw.sm (st:Vw) (roots:List Int):Prop where
 n:I st.ns<=100000
 f:∀f∈st.ns,0<=f.ob.M/\f.ob.M<=I f.sl/\I f.sl<=100000/\∀w∈f.sl,ZB w
 r:I roots<=100000/\∀w∈roots,ZB w
def Vw.sm.gr{st:Vw}{a:Z8}(h:st.sm a):(st.gr a).sm:=by
 refine⟨by simpa[Vw.gr]using h.n,by simpa[Vw.gr]using h.r.1,λn d=> ?_⟩;simp only[Vw.gr,ZhC]at d;obtain⟨f,g,rfl⟩:=d;obtain⟨_,_,j,_⟩:=h.f f g;grind [Ul,List.length_map,List.length_take,List.length_drop]
def Z8O{s:St}{st:Vw}{roots:Z8}{b c t y sc:V}{K L M O:V}{N R:St->Prop}{X:Nat->St->Prop}(k:st.sm roots)(x:get s 1=.m [b,c,t,y,sc,K,L,M,O,.sl<|roots.map vu])(o:get s 6=.v (.sl<|st.ns.map Xl))(z:get s 7=.m [Yg vi st.nm])(A:get s 8=.m [Yg vu st.tm])
  (a:∀D,Ws D [(2,.ag 2),(3,.v)]=J (Vh<|st.gr roots)->R D):Yw xP rC s N X R:=by
 simp[rC,o,X1];refine VO 16 (I st.ns) (λi=>[(15,.m [.sl<|((st.ns.take i).map<|Ul st).map Yk,.sl []]),(16,.v<|vi i)]) (λ_=>True) (by simp[X1]) (by simp[X1]) trivial ?_;intro i Q _;by_cases h:i<I st.ns;have G:st.ns[i]?=J st.ns[i]:=Zhi h;obtain⟨H,T,p2,p3⟩:=k.f _<|ZhE h;have S:=k.n;obtain⟨P,B⟩:=Zhy H;have d:P<=st.ns[i].sl.length:=Z0;have u:=Zy ((i:Int)+1) Z0 Z0;have q:List.take (i+1) (List.map (Yk∘Ul st) st.ns)=List.take i (List.map (Yk∘Ul st) st.ns)++[Yk<|Ul st st.ns[i]]:=by
  rw[Zik,ZhG,G];rfl
 have l:=Fs st (ws:=st.ns[i].sl.take P) Zgn λw u=>p3 w<|Zio u;have j:min i (I st.ns)+1<=Y4:=by unfold Y4;omega
 simp[X1,h,x,o,z,A,B,RF,d];rw[List.map_take]at l;refine Uc l ?_;simp[X1,QP,d,u,q,j,B,Ul,Yk];have:i=I st.ns:=Z0;subst this;simp[X1,x,o,z,A];refine Uc (Fs st (ws:=roots) (by have:=k.r.1;omega) k.r.2) ?_;simp;have C:=Z0O k.gr;simp only[Vw.gr,YB,Zjt]at C;refine Zz C Z1 ?_;have F:Vh (st.gr roots)=Vh {nodes:=List.map (Ul st) st.ns,E:=List.map st.cz roots}:=rfl;rw[F]at a;generalize ({nodes:=List.map (Ul st) st.ns,E:=List.map st.cz roots}:Gr)=g at*;unfold Vh at a⊢;split;rename_i p;rw[Zht p]at a;simp;refine a _ ?_;simp[Ws,U6,Tq,YB];rename_i p;rw[Zhs p]at a;simp[UI,YB];refine a _ ?_;simp[Ws,U6,Tq,UI,YB]
end Vm
end
section
namespace Vm
open Go Go.Proofs Go.RowKit Go.Conc
def FU{t}(h:t.size=71):t=#[t.getD 0 xy,t.getD 1 xy,t.getD 2 xy,t.getD 3 xy,t.getD 4 xy,t.getD 5 xy,t.getD 6 xy,t.getD 7 xy,t.getD 8 xy,t.getD 9 xy,t.getD 10 xy,t.getD 11 xy,t.getD 12 xy,t.getD 13 xy,t.getD 14 xy,t.getD 15 xy,t.getD 16 xy,t.getD 17 xy,t.getD 18 xy,t.getD 19 xy,t.getD 20 xy,t.getD 21 xy,t.getD 22 xy,t.getD 23 xy,t.getD 24 xy,t.getD 25 xy,t.getD 26 xy,t.getD 27 xy,t.getD 28 xy,t.getD 29 xy,t.getD 30 xy,t.getD 31 xy,t.getD 32 xy,t.getD 33 xy,t.getD 34 xy,t.getD 35 xy,t.getD 36 xy,t.getD 37 xy,t.getD 38 xy,t.getD 39 xy,t.getD 40 xy,t.getD 41 xy,t.getD 42 xy,t.getD 43 xy,t.getD 44 xy,t.getD 45 xy,t.getD 46 xy,t.getD 47 xy,t.getD 48 xy,t.getD 49 xy,t.getD 50 xy,t.getD 51 xy,t.getD 52 xy,t.getD 53 xy,t.getD 54 xy,t.getD 55 xy,t.getD 56 xy,t.getD 57 xy,t.getD 58 xy,t.getD 59 xy,t.getD 60 xy,t.getD 61 xy,t.getD 62 xy,t.getD 63 xy,t.getD 64 xy,t.getD 65 xy,t.getD 66 xy,t.getD 67 xy,t.getD 68 xy,t.getD 69 xy,t.getD 70 xy]:=by
 refine ZjR Z0 λi f d=> ?_;have a:i<71:=Zgz;have e:t[i]=t.getD i xy:=by simp[Array.getD,f]
 rw[e]
 revert d
 match i,a with
 |0,_=>simp
 |1,_=>simp
 |2,_=>simp
 |3,_=>simp
 |4,_=>simp
 |5,_=>simp
 |6,_=>simp
 |7,_=>simp
 |8,_=>simp
 |9,_=>simp
 |10,_=>simp
 |11,_=>simp
 |12,_=>simp
 |13,_=>simp
 |14,_=>simp
 |15,_=>simp
 |16,_=>simp
 |17,_=>simp
 |18,_=>simp
 |19,_=>simp
 |20,_=>simp
 |21,_=>simp
 |22,_=>simp
 |23,_=>simp
 |24,_=>simp
 |25,_=>simp
 |26,_=>simp
 |27,_=>simp
 |28,_=>simp
 |29,_=>simp
 |30,_=>simp
 |31,_=>simp
 |32,_=>simp
 |33,_=>simp
 |34,_=>simp
 |35,_=>simp
 |36,_=>simp
 |37,_=>simp
 |38,_=>simp
 |39,_=>simp
 |40,_=>simp
 |41,_=>simp
 |42,_=>simp
 |43,_=>simp
 |44,_=>simp
 |45,_=>simp
 |46,_=>simp
 |47,_=>simp
 |48,_=>simp
 |49,_=>simp
 |50,_=>simp
 |51,_=>simp
 |52,_=>simp
 |53,_=>simp
 |54,_=>simp
 |55,_=>simp
 |56,_=>simp
 |57,_=>simp
 |58,_=>simp
 |59,_=>simp
 |60,_=>simp
 |61,_=>simp
 |62,_=>simp
 |63,_=>simp
 |64,_=>simp
 |65,_=>simp
 |66,_=>simp
 |67,_=>simp
 |68,_=>simp
 |69,_=>simp
 |70,_=>simp
 |i+71,h=>omega
def RG(v:Ze)(a n:Nat):Value:=match v with
 |.slice (J ⟨b,o,q⟩) _ c=>.slice (J<|if c=a then⟨b,o,q⟩else⟨b,o+a,q⟩) n<|c-a
 |v=>v
def UD(h:Hp)(x:Z5)(p:Nat)(o:Ob):Value:=.agg #[.int .i64 o.Z,.int .i64 o.size,.int .i64 o.M,.bool o.gone,.int .u64 o.target,.int .u64 (Y2 (Zv h) ((p:Int)+1) o.Z).1,RG (x p) (o.Z+1).toNat o.size.toNat]
def obP(h:Hp)(p:Nat):List Ob:=(UJ h<|(p:Int)+1).1
def Wx(h:Hp)(x:Z5):Nat->Nat->List Value
 |0,_=>[]
 |n+1,p=>(obP h p).map (UD h x p)++Wx h x n (p+1)
noncomputable def seC:Code:=match Try.f54.body with|some c=>c|none=>.skip
noncomputable def clOps:Array Oper:=Lo<|Ys seC [1,1,1]
def Et(c:Nat)(b:Zg)(d:Z7)(fr:Zg)(cs:Z7)(w:Z3):Prop:=cs=d/\∃a,fr=b.at a [.inRegion clOps [1]]/\a.tmps[70]?=J (.chan<|J c)/\a.defers=[]
def Z8U{w G h x}(d:∀j,j<5->Rd w G (.sl<|(Zu h j).map vu) (x j)):Rd w G (ZE h)<|ZC h x:=by
 refine .agg _ _ rfl Z1 ?_;intro i y a
 match i,a with
 |0,a=>cases a;exact .int _ _
 |1,a=>cases a;exact .int _ _
 |2,a=>cases a;exact .int _ _
 |3,a=>cases a;exact .bool _
 |4,a=>cases a;exact .int _ _
 |5,a=>cases a;exact d 0 Z0
 |6,a=>cases a;exact d 1 Z0
 |7,a=>cases a;exact d 2 Z0
 |8,a=>cases a;exact d 3 Z0
 |9,a=>cases a;exact d 4 Z0
def Z16{w:Z3}{G:Z4}{h:Hp}(u:h.ok){x:Z5}(o:∀b,G b->b<xz (xj w))(z:∀j,j<5->Rd w G (.sl<|(Zu h j).map vu) (x j))(p:Int):
  Calls xP 79 #[ZC h x,.int .i64 p] w λe f=>∃s,e=.returned (.tuple #[s,.int .i64 (UJ h p).2])/\Below (xz<|xj w) w f/\Rd f (λb=>b<xz (xj f)) (.sl<|(UJ h p).1.map ZM) s:=by
 refine ZjX ((Z0I u (k:=p)).2 w G _ o rfl ?_) ?_;intro i y d
 match i,d with
 |0,d=>cases d;exact Z8U z
 |1,d=>cases d;exact .int _ _
 rintro e f ⟨v,rfl,q,A⟩;cases A with
 |am _ vs l n=>
  have t:=n 0 _ rfl;have g:=Sx<|n 1 _ rfl;simp only[ZiD,Ziu]at l;refine⟨vs.getD 0 xy,?_,q,t.mono λb a=> ?_⟩;congr 2;refine ZjR Zhf λi r B=> ?_;have:i=0\/i=1:=by simp at B;omega
  obtain rfl|rfl:=this;simp[Array.getD,r];simp[Array.getD,r]at g;simpa using g;obtain⟨_,a⟩|a:=a;exact Zhr (o b a) q.size;exact a.2
def u71 a b:(#[a,b]:Array Value)++Array.replicate (71- (#[a,b]:Array Value).size) xy=#[a,b,xy,xy,xy,xy,xy,xy,xy,xy,xy,xy,xy,xy,xy,xy,xy,xy,xy,xy,xy,xy,xy,xy,xy,xy,xy,xy,xy,xy,xy,xy,xy,xy,xy,xy,xy,xy,xy,xy,xy,xy,xy,xy,xy,xy,xy,xy,xy,xy,xy,xy,xy,xy,xy,xy,xy,xy,xy,xy,xy,xy,xy,xy,xy,xy,xy,xy,xy,xy,xy]:=Z2
structure SSt (w:World) (h:Hp) (x:Nat->Value) (b4:Nat) (W:World):Prop where
 cm:Below (xz<|xj w) w W
 c2:W.heap[xz<|xj w]?=J (.cells #[.int .u64 h.base,.int .i64 h.cap,.int .i64 h.to,.bool h.Y,.int .i64 h.aa,x 0,x 1,x 2,x 3,x 4] 30 (0,0))
 c4:W.heap[b4]?=J (.cells #[.int .u64 h.base,.int .i64 h.cap,.int .i64 h.to,.int .i64<|I h.H,.int .i64<|I h.ab,.int .i64<|I h.ah,.int .i64<|I h.al] 64 (0,0))
def SSt.below{w W W' h x d}(s:SSt w h x d W)(a:Below (xz<|xj W) W W'):SSt w h x d W':=
 ⟨s.cm.trans<|a.mono s.cm.size,(a.block _<|Y7 s.c2).trans s.c2,(a.block _<|Y7 s.c4).trans s.c4⟩
def LK{W G}{l:Z8}{y}(h:Rd W G (.sl<|l.map vu) y):∃a c,y=.slice a (I l) c:=by
 generalize f:l.map vu=L at h;have j:I L=I l:=by rw[<-f,ZhN]
 cases h with
 |nil a c d=>simp_all
 |sl _ b o cap k vs d g=>simp_all
def Z9U{P W T f}(p:P.underlying T=J (.slice f))(q:(Go.sizeOf f).run P W=.ok 1 W){b o len cap:Nat}{d a:Int}(g:0<=d)(h2:d<=a)(r:a<=cap):
  (Instr.slice T (.slice (J ⟨b,o,U⟩) len cap) (J<|.int .i64 d) (J<|.int .i64 a) U).run P W=.ok (RG (.slice (J ⟨b,o,U⟩) len cap) d.toNat (a-d).toNat) W:=by
 obtain⟨l,rfl⟩:=Zhy g;obtain⟨k,rfl⟩:=Zhy (Z0:0<=a);have h:l<=k:=Z0;have j:k<=cap:=Z0;have n:(k- (l:Int)).toNat=k-l:=Z0;simp[Instr.slice,Instr.sliceBounds,Instr.sliceBound,asIntOf,Zi6 p,q,h,j,n,RG,Addr.add];grind
def Z91{W G}{l:Z8}{y}(h:Rd W G (.sl<|l.map vu) y)(f:0<I l){a n k}(e:y=.slice a n k):∃b o,a=J ⟨b,o,U⟩/\I l<=k/\k<=maxLen:=by
 generalize j:l.map vu=L at h;cases h with
 |nil a c d=>simp_all
 |sl _ b o cap p vs d g=>grind
def Z8Y{W G}{l:Zi}{y}(h:Rd W G (.sl<|l.map ZM) y):∃a c,y=.slice a (I l) c:=by
 generalize f:l.map ZM=L at h;have j:I L=I l:=by rw[<-f,ZhN]
 cases h with
 |nil a c d=>simp_all
 |sl _ b o cap k vs d g=>simp_all
def jx:Try.f54.body=J seC:=Z2
def Z6h{Q c Post es}{fn:Func}{code d a}{b:Zg}{w cs}(f:fn.body=J code)(h2:fn.body=J d)(h:LS Q c Post es (b.at a [.code code]) cs w):LS Q c Post es (b.at a [.code d]) cs w:=by
 simp_all
def Za9(b:Zg)(b7:Z7)(w:Z3)(h:Hp)(hh:h.ok)(x:Z5)(c:Nat)(G:Z4)(hG:∀b,G b->b<xz (xj w))(hr:∀j,j<5->Rd w G (.sl<|(Zu h j).map vu) (x j))
  (d6:∀p,p<4->I (obP h p)<=1000000/\∀o∈obP h p,0<=o.Z/\0<=o.size/\o.Z+1+o.size<=I (Zu h p)):
  LS xP c (Et c b b7) ((Wx h x 4 0).map .send) (b.at {tmps:=#[ZC h x,.chan<|J c]++Array.replicate (71- (#[ZC h x,.chan<|J c]:Array Value).size) xy,defers:=[]} [.code seC]) b7 w:=by
 obtain⟨Q,k0,e0⟩:=LK<|hr 0 Z0;obtain⟨R,k1,e1⟩:=LK<|hr 1 Z0;obtain⟨S,k2,e2⟩:=LK<|hr 2 Z0;obtain⟨T,k3,e3⟩:=LK<|hr 3 Z0;have A:=Zhp<|And.intro e0<|And.intro e1<|And.intro e2 e3;have HL:∀W,Below (xz<|xj w) w W->Calls xP 24 #[ZC h x] W λe w'=>e=.returned (TR<|Zv h)/\Below (xz<|xj W) W w':=λW N=>
  zA (G:=G) (λb P=>Zhr (hG b P) N.size) λj hj=>(hr j hj).keep (λb P=>N.block b<|hG b P) λ_ q=>q
 have HO:∀W,Below (xz<|xj w) w W->∀p,Calls xP 79 #[ZC h x,.int .i64 p] W λe w'=>∃s,e=.returned (.tuple #[s,.int .i64 (UJ h p).2])/\Below (xz<|xj W) W w'/\Rd w' (λb=>b<xz (xj w')) (.sl<|(UJ h p).1.map ZM) s:=λW N p=>
  Z16 hh (G:=G) (λb P=>Zhr (hG b P) N.size) (λj hj=>(hr j hj).keep (λb P=>N.block b<|hG b P) λ_ q=>q) p
 unfold ZC at HL HO;rw[e0,e1,e2,e3]at HL HO;have HL:=Zhp HL;have HO:=Zhp HO;have HF:=Zhp<|And.intro hG hr;have HB:=Zhp d6;clear hG hr d6;unfold ZC;rw[e0,e1,e2,e3];refine Z6h (fn:=Try.f54) rfl jx ?_;rw[u71];refine LS.cy (LS.dt λK u=> ?_);go_wp2;obtain⟨w2,z⟩:∃w2,w2=w.alloc (.cells #[.int .u64 h.base,.int .i64 h.cap,.int .i64 h.to,.bool h.Y,.int .i64 h.aa,.slice Q (I<|Zu h 0) k0,.slice R (I<|Zu h 1) k1,.slice S (I<|Zu h 2) k2,.slice T (I<|Zu h 3) k3,x 4] 30):=⟨_,rfl⟩;rw[<-z];have b2:w2.heap[xz<|xj w]?=J (.cells #[.int .u64 h.base,.int .i64 h.cap,.int .i64 h.to,.bool h.Y,.int .i64 h.aa,.slice Q (I<|Zu h 0) k0,.slice R (I<|Zu h 1) k1,.slice S (I<|Zu h 2) k2,.slice T (I<|Zu h 3) k3,x 4] 30 (0,0)):=by rw[z];exact ZhT ..
 have z2:xz (xj w2)=xz (xj w)+1:=by rw[z];simp
 have q2:Below (xz<|xj w) w w2:=by rw[z];exact(ZhH _ _).alloc (Zhm _) _
 clear z;have y2:∀j,w2.cell? ⟨xz<|xj w,j,U⟩=(#[.int .u64 h.base,.int .i64 h.cap,.int .i64 h.to,.bool h.Y,.int .i64 h.aa,.slice Q (I<|Zu h 0) k0,.slice R (I<|Zu h 1) k1,.slice S (I<|Zu h 2) k2,.slice T (I<|Zu h 3) k3,x 4]:Array Value)[j]? :=λj=>Zhv _ _ _ _ _ _ b2;have d:=Zhp<|And.intro b2<|And.intro z2 q2;clear b2 z2 q2;refine LS.cy (LS.dt λK u=> ?_)
 go_wp2_with (first
  |(go_at_call 24;refine(HL.out _ d.out.2.2).mono ?_;rintro e w3 ⟨rfl,b9⟩;unfold TR Zv;dsimp only;have L:=Zhp b9;clear b9))
 obtain⟨W,N⟩:∃W,W=w3.alloc (.cells #[.int .u64 h.base,.int .i64 h.cap,.int .i64 h.to,.int .i64<|I h.H,.int .i64<|I h.ab,.int .i64<|I h.ah,.int .i64<|I h.al] 64):=⟨_,rfl⟩;obtain⟨X,a8⟩:∃X,X=xz (xj w3):=⟨_,rfl⟩;rw[<-N,<-a8];have f:SSt w h x X W:=by
  have hz:=L.out.size;rw[N,a8];exact⟨(d.out.2.2.trans<|L.out.mono d.out.2.2.size).alloc (by have:=d.out.2.2.size;omega) _,by rw[Zhz _ _ _ (by have:=Y7 d.out.1;omega)];rw[e0,e1,e2,e3];exact(L.out.block _<|Y7 d.out.1).trans d.out.1,ZhT ..⟩
 clear N a8 L d y2 e0 e1 e2 e3;have y2:∀j,W.cell? ⟨xz<|xj w,j,U⟩=(#[.int .u64 h.base,.int .i64 h.cap,.int .i64 h.to,.bool h.Y,.int .i64 h.aa,.slice Q (I<|Zu h 0) k0,.slice R (I<|Zu h 1) k1,.slice S (I<|Zu h 2) k2,.slice T (I<|Zu h 3) k3,x 4]:Array Value)[j]? :=λj=>ZgH;refine LS.cy<|LS.cy (LS.dt λK u=> ?_);go_wp2
 refine LS.block (LS.pd (λn es a W=>∃(p:Nat) (t:Zb),p+n=4/\es=(Wx h x n p).map .send/\a=⟨t,[]⟩/\t.size=71/\t.getD 1 xy=.chan (J c)/\t.getD 2 xy=.pointer (J ⟨xz<|xj w,0,U⟩)/\t.getD 4 xy=.pointer (J ⟨X,0,U⟩)/\
  t.getD 24 xy=.agg #[.slice Q (I<|Zu h 0) k0,.slice R (I<|Zu h 1) k1,.slice S (I<|Zu h 2) k2,.slice T (I<|Zu h 3) k3]/\t.getD 25 xy=.int .i64 p/\SSt w h x X W) (n:=4) ⟨0,_,rfl,rfl,rfl,rfl,rfl,rfl,rfl,rfl,rfl,f⟩ ?_)
 clear f y2 W;rintro n es a W ⟨p,t,hp,rfl,rfl,D,t1,t2,t4,F,H,f⟩ ih;have IH:=Zhp ih;clear ih;rw[FU D,t1,t2,t4,F,H];obtain⟨g,hg⟩:∃g:Z5,∀i,t.getD i xy=g i:=⟨_,λ_=>rfl⟩;simp only[hg];clear hg t1 t2 t4 F H D t;have y2:∀j,W.cell? ⟨xz<|xj w,j,U⟩=(#[.int .u64 h.base,.int .i64 h.cap,.int .i64 h.to,.bool h.Y,.int .i64 h.aa,.slice Q (I<|Zu h 0) k0,.slice R (I<|Zu h 1) k1,.slice S (I<|Zu h 2) k2,.slice T (I<|Zu h 3) k3,x 4]:Array Value)[j]? :=λj=>ZgH;cases n with
 |zero=>
  have d8:((p:Int)<4)=False:=Zk0 Z0;refine LS.cy (LS.dt λK u=> ?_);go_wp2;refine LS.cy<|LS.oo rfl<|LS.exit rfl<|LS.region ?_;refine LS.value (i:=0) (l:=[1]) rfl rfl rfl ?_;exact LS.dq ⟨rfl,_,rfl,rfl,rfl⟩
 |succ n=>
  have d8:((p:Int)<4)=True:=ZjW Z0;have f7:p<4:=Z0;refine LS.cy (LS.dt λK u=> ?_);go_wp2;refine LS.cy<|LS.oq rfl<|LS.skip<|LS.cy<|LS.block<|LS.cy (LS.dt λK u=> ?_);obtain⟨ap,kp,ep⟩:=LK<|HF.out.2 p Z0;have d5:∀W,(Instr.index 146 (.agg #[.slice Q (I<|Zu h 0) k0,.slice R (I<|Zu h 1) k1,.slice S (I<|Zu h 2) k2,.slice T (I<|Zu h 3) k3])<|.int .i64 (p:Int)).run xP W=.ok (.slice ap (I<|Zu h p) kp) W:=by
   intro W;have hT:xP.underlying 146=J (.array 4 28):=Z2;have:p=0\/p=1\/p=2\/p=3:=Z0;rw[<-ep];obtain rfl|rfl|rfl|rfl:=this;rw[A.out.1];rfl;rw[A.out.2.1];rfl;rw[A.out.2.2.1];rfl;rw[A.out.2.2.2];rfl
  have EP:=Zhp ep;clear ep;go_wp2;clear d5;have b6:=Zy ((p:Int)+1) Z0 Z0;refine LS.cy (LS.dt λK u=> ?_);go_wp2;have d:=Zhp f;clear f;refine LS.cy (LS.dt λK u=> ?_)
  go_wp2_with (first
   |(go_at_call 79;refine(HO.out _ d.out.cm _).mono ?_;rintro e W5 ⟨s5,rfl,c0,r⟩;obtain⟨a5,k5,rfl⟩:=Z8Y r;have a4:=Zhp<|And.intro c0 r;clear c0 r))
  refine LS.cy (LS.dt λK u=> ?_);go_wp2;have f:=d.out.below a4.out.1;have r:=a4.out.2;clear d a4 y2 W d8;rename_i W5;rw[show(UJ h<|(p:Int)+1).1=obP h p from rfl]at r⊢;have Z:=Z7d r λb P=>P;obtain⟨f6,d7⟩:=HB.out p f7;have d0:Wx h x (n+1) p=(obP h p).map (UD h x p)++Wx h x n (p+1):=rfl;rw[d0];clear d0 r;have HX:=Zhp<|And.intro Z<|And.intro f6 d7;clear Z d7
  refine LS.block (LS.pd (λm es a W=>∃(i:Nat) (t:Zb),i+m=I (obP h p)/\es=(((obP h p).drop i).map (UD h x p)++Wx h x n (p+1)).map .send/\a=⟨t,[]⟩/\t.size=71/\t.getD 1 xy=.chan (J c)/\t.getD 2 xy=.pointer (J ⟨xz<|xj w,0,U⟩)/\t.getD 4 xy=.pointer (J ⟨X,0,U⟩)/\
   t.getD 6 xy=.slice ap (I<|Zu h p) kp/\t.getD 7 xy=.int .i64 ((p:Int)+1)/\t.getD 24 xy=.agg #[.slice Q (I<|Zu h 0) k0,.slice R (I<|Zu h 1) k1,.slice S (I<|Zu h 2) k2,.slice T (I<|Zu h 3) k3]/\t.getD 25 xy=.int .i64 p/\t.getD 37 xy=.slice a5 (I<|obP h p) k5/\t.getD 38 xy=.int .i64 (I<|obP h p)/\t.getD 39 xy=.int .i64 i/\
   SSt w h x X W/\Below (xz<|xj W5) W5 W) (n:=I<|obP h p) ⟨0,_,Z0,rfl,rfl,rfl,rfl,rfl,rfl,rfl,rfl,rfl,rfl,rfl,rfl,rfl,f,ZhH _ _⟩ ?_)
  clear f g b6;rintro m es a W ⟨i,t,hi,rfl,rfl,D,t1,t2,t4,t6,t7,F,H,f0,f1,f2,f,k⟩ ih;have f3:=Zhp ih;clear ih;rw[FU D,t1,t2,t4,t6,t7,F,H,f0,f1,f2];obtain⟨g,hg⟩:∃g:Z5,∀i,t.getD i xy=g i:=⟨_,λ_=>rfl⟩;simp only[hg];clear hg t1 t2 t4 t6 t7 F H f0 f1 f2 D t;cases m with
  |zero=>
   have b3:((i:Int)< (I (obP h p):Int))=False:=Zk0 Z0;refine LS.cy (LS.dt λK u=> ?_);go_wp2;refine LS.cy<|LS.oo rfl<|LS.exit rfl<|LS.inBlock ?_;have b6:=Zy ((p:Int)+1) Z0 Z0;have C:(obP h p).drop i=[]:=Zkn Z0;rw[C];clear C b3;refine LS.dt λK u=> ?_;go_wp2;exact IH.out n _ _ _ Z0 ⟨p+1,_,Z0,rfl,rfl,rfl,rfl,rfl,rfl,rfl,Z1,f⟩
  |succ m=>
   have b5:i< I (obP h p):=Z0;obtain⟨o,ho⟩:∃o,(obP h p)[i]?=J o:=⟨_,Zhi b5⟩;have b3:((i:Int)< (I (obP h p):Int))=True:=ZjW Z0;obtain⟨g5,o5,f8,e5,c8,g7,f5,B⟩|⟨a9,c9,e9,f4⟩:=HX.out.1;case inr=>rw[f4]at b5;simp at b5
   injection e5 with e5 _ e6;subst e5;subst e6;obtain⟨v0,v1,v2,v3,v4⟩:=B i o ho;have y:=k.block _ f5;have y0:W.cell? ⟨g5,o5+i*5,U⟩=J (.int .i64 o.Z):=by rw[Zie y];exact v0
   have y1:W.cell? ⟨g5,o5+i*5+1,U⟩=J (.int .i64 o.size):=by rw[Zie y];exact v1
   have y2:W.cell? ⟨g5,o5+i*5+2,U⟩=J (.int .i64 o.M):=by rw[Zie y];exact v2
   have y3:W.cell? ⟨g5,o5+i*5+3,U⟩=J (.bool o.gone):=by rw[Zie y];exact v3
   have y4:W.cell? ⟨g5,o5+i*5+4,U⟩=J (.int .u64 o.target):=by rw[Zie y];exact v4
   clear v0 v1 v2 v3 v4 y B;have HC:=Zhp c8;clear c8;refine LS.cy (LS.dt λK u=> ?_);go_wp2;refine LS.cy<|LS.oq rfl<|LS.skip<|LS.cy<|LS.block<|LS.cy (LS.dt λK u=> ?_);go_wp2;obtain⟨W6,O⟩:∃W6,W6=W.alloc (.cells #[.int .i64 o.Z,.int .i64 o.size,.int .i64 o.M,.bool o.gone,.int .u64 o.target] 119):=⟨_,rfl⟩;obtain⟨Y,b1⟩:∃Y,Y=xz (xj W):=⟨_,rfl⟩;rw[<-O,<-b1];have b0:Below (xz<|xj W) W W6:=by rw[O];exact(ZhH _ _).alloc (Zhm _) _
   have q6:W6.heap[Y]?=J (.cells #[.int .i64 o.Z,.int .i64 o.size,.int .i64 o.M,.bool o.gone,.int .u64 o.target] 119 (0,0)):=by rw[O,b1];exact ZhT ..
   have a6:=f.below b0;have b8:=k.trans<|b0.mono k.size;clear O b1 b0 f k y0 y1 y2 y3 y4 W;have z4:∀j,W6.cell? ⟨X,j,U⟩=(#[.int .u64 h.base,.int .i64 h.cap,.int .i64 h.to,.int .i64<|I h.H,.int .i64<|I h.ab,.int .i64<|I h.ah,.int .i64<|I h.al]:Array Value)[j]? :=λj=>Zhv _ _ _ _ _ _ a6.c4;have zo:∀j,W6.cell? ⟨Y,j,U⟩=(#[.int .i64 o.Z,.int .i64 o.size,.int .i64 o.M,.bool o.gone,.int .u64 o.target]:Array Value)[j]? :=λj=>Zhv _ _ _ _ _ _ q6;have d:=Zhp<|And.intro a6<|And.intro b8 q6;clear a6 b8 q6;have HA:=Zhp λW=>A8 hh.bd ((p:Int)+1) o.Z W;unfold TR Zv at HA;dsimp only at HA;refine LS.cy (LS.dt λK u=> ?_)
   go_wp2_with (first
    |(go_at_call 23;refine(HA.out _).mono ?_;rintro e W7 ⟨rfl,c1⟩;have M:=Zhp c1;clear c1))
   have f:=d.out.1.below M.out;have k:=d.out.2.1.trans<|M.out.mono d.out.2.1.size;have q7:=(M.out.block _<|Y7 d.out.2.2).trans d.out.2.2;clear z4 zo d M HA;rename_i W7;clear W6;obtain⟨f9,h2,g6⟩:=HX.out.2.2 o<|Zhq ho;have d9:0< I (Zu h p):=Z0;obtain⟨bw,ow,ew,g3,g8⟩:=Z91 (HF.out.2 p Z0) d9 EP.out;subst ew;have C:(obP h p).drop i=o::(obP h p).drop (i+1):=by
    obtain⟨h1,rfl⟩:=Zhj.1 ho;exact Zih h1
   rw[C];rw[show(((o::(obP h p).drop (i+1)).map (UD h x p)++Wx h x n (p+1)).map Ev.send)=.send (UD h x p o)::(((obP h p).drop<|i+1).map (UD h x p)++Wx h x n (p+1)).map .send from rfl];clear C ho b3;have zo:∀j,W7.drew.cell? ⟨Y,j,U⟩=(#[.int .i64 o.Z,.int .i64 o.size,.int .i64 o.M,.bool o.gone,.int .u64 o.target]:Array Value)[j]? :=λj=>Zhv _ _ _ _ _ _ (show W7.drew.heap[Y]?=_ from q7);have g4:=Jw hh p;have b6:=Zy (o.Z+1) Z0 Z0;have z:=Zy (o.Z+1+o.size) Z0 Z0;have e4:(0:Int)<=o.Z+1:=Z0;have e7:o.Z+1<=o.Z+1+o.size:=Z0;have e8:o.Z+1+o.size<=(kp:Int):=Z0;obtain⟨av,nv,cv,a7⟩:∃av nv cv,.slice av nv cv=RG (x p) (o.Z+1).toNat o.size.toNat:=by rw[EP.out];exact⟨_,_,_,rfl⟩
   have g9:∀W,(Instr.slice 28 (.slice (J ⟨bw,ow,U⟩) (I<|Zu h p) kp) (J<|.int .i64<|o.Z+1) (J<|.int .i64<|o.Z+1+o.size) U).run xP W=.ok (.slice av nv cv) W:=by
    intro W;have hT:xP.underlying 28=J (.slice 24):=Z2;rw[a7,EP.out,Z9U hT Z1 e4 e7 e8,show o.Z+1+o.size- (o.Z+1)=o.size by omega]
   clear e4 e7 e8 zo;have zo:∀j,W7.drew.cell? ⟨Y,j,U⟩=(#[.int .i64 o.Z,.int .i64 o.size,.int .i64 o.M,.bool o.gone,.int .u64 o.target]:Array Value)[j]? :=λj=>Zhv _ _ _ _ _ _ (show W7.drew.heap[Y]?=_ from q7);have HV:=Zhp a7;clear a7;have d:=Zhp<|And.intro f k;clear f k q7;refine LS.send (n:=16) follows Z2 rfl rfl rfl rfl rfl rfl ?_;simp only[ZkN,List.take_zero];change wpStill xP _ W7.drew _ _ _;repeat still_step
   refine wpStill_nil ⟨rfl,?_,?_⟩;unfold UD;rw[<-HV.out];rfl
   .refine LS.inBlock ?_;have h0:=Zy ((i:Int)+1) Z0 Z0;refine LS.dt λK u=> ?_;go_wp2;exact f3.out m _ _ _ Z0 ⟨i+1,_,Z0,rfl,rfl,rfl,rfl,rfl,rfl,rfl,rfl,rfl,rfl,rfl,rfl,Z1,SSt.below d.out.1 (ZhH _ _).drew,d.out.2.drew⟩
end Vm
end
section
namespace Vm
open Go Go.Proofs Go.Conc
open Go.RowKit (Below)
section
section
variable {c:Ctx}{B:Nat}{G Kf:Z4}{s:St}{a:Act}{w w0:Z3}{h:GH}{S:SS}{n0:Nat}{fix:Za}{T0:Zb}{t:Nat}{v:Ze}{x:V}
def WN{p}(d:p≠t):(a.put (J t) v).tmps[p]?=a.tmps[p]? :=by
 simp[Act.put,Zj5 d]
def Q0(d:t<a.tmps.size):(a.put (J t) v).tmps[t]?=J v:=by
 simp[Act.put,d]
theorem R0:(a.put (J t) v).tmps.size=a.tmps.size:=by simp[Act.put]
theorem Z9l{p k u a d}(f:RelK c.P B s w h a p u<|J9 c p k):RelK c.P B s w h d p u<|J9 c p k:=by
 cases k<;>exact f
def RelG.set(j:RelG c B G s a w h<|Yt c S)(n:S.at t=U):RelG c B G s (a.put (J t) v) w h<|Yt c S:=by
 refine⟨j.ok,λp g d=> ?_,λp g=> ?_⟩;by_cases e:p=t;subst e;rw[YA,n]at d;cases d;let⟨u,o,f⟩:=j.Z p g d;refine⟨u,by simp_all[WN],?_⟩;rw[YA]at f⊢;cases l:S.at p with
 |none=>rw[YA,l]at d;cases d
 |some k=>grind [Z9l]
 refine absurd ?_ g;rw[YA];cases S.at p<;>exact VX _
def RelS.set(l:RelS Kf fix T0 c B G w0 n0 s a w S)(k:S.at t=U):RelS Kf fix (a.put (J t) v).tmps c B G w n0 s (a.put (J t) v) w S:=by
 let⟨⟨h,d,f⟩,g,n,o,j⟩:=l;exact⟨⟨h,d.set k,f⟩,g,.refl _ _,by grind [R0],j⟩
def RelS.base(h:RelS Kf fix T0 c B G w0 n0 s a w S):RelS Kf fix a.tmps c B G w n0 s a w S:=by
 let⟨d,f,j,g⟩:=h;exact⟨d,f,.refl _ _,g⟩
theorem RelS.put(C:RelS Kf fix T0 c B G w0 n0 s a w S)(u:S.at t=U)(f:∀y∈S,c.ix y.1≠c.ix t)(A:t<n0)(D:Rd w G x v):RelS Kf fix (a.put (J t) v).tmps c B G w n0 (YI s (c.ix t)<|.v x) (a.put (J t) v) w<|(t,.fz)::S:=by
 let⟨⟨h,j,o⟩,q,H,K,r⟩:=C;refine⟨⟨h,⟨j.ok,λp d g=> ?_,λp d=> ?_⟩,o⟩,λp d=> ?_,.refl _ _,by grind [R0],r⟩;rw[YA]at g⊢;by_cases e:t=p;subst e;simp[SS.at,Zig];exact⟨v,Q0 Z0,x,by simp[eval,X1],D.mono λb z=>GH.bp<|j.ok.fh b z⟩;simp[SS.at,Zhs e]at g⊢;have l:=(j.set (v:=v) u).mj (t:=YI s (c.ix t)<|.v x) λy F=>by rw[X1,Zhs<|f y F]
 cases n:S.at p with
 |none=>rw[n]at g;cases g
 |some k=>
  have:=l.Z p (by grind [YA,VX]) (by simp_all[YA]);simp_all[YA]
 refine absurd ?_ d;rw[YA];split<;>exact VX _;by_cases e:t=p;simp_all[SS.at];simp[SS.at,Zhs e]at d;rw[X1,Zhs<|f _<|J1 d];exact q p d
end
noncomputable def cV:Ctx:= {P:=xP,ix:=(vf xP).ix,own:=λ_=>xw,fresh,sig:=DB,tr:=[3],n:=82}
def qx{code S st fl B G Kf s a w w0 T0 N X Rt}(hc:comp (vf xP) code S=J (st,fl))(g:RelS Kf [4,23] T0 cV B G w0 82 s a w S)(h:Yw xP st s N X Rt):
  code.wp xP (Post Kf [4,23] T0 cV B G w0 82 fl N X Rt) a w:=
 Aw (fc:=vf xP) follows (λp f q j d=>D4 (ZiA _ f) Zgm d) rfl rfl rfl (Zhm _) code (Fz (λ_=>trivial) code) hc g h
noncomputable def bodyC:Code:=Ys ofC [1,1,1,1,1,1,1,0,1,0,0]
noncomputable def ops9:Array Oper:=Lo<|Ys ofC [1,1,1,1,1,1,1,0,1,0,0,0]
def ZcX:bodyC=.seq (.region 9 ops9 xw) (Ys ofC [1,1,1,1,1,1,1,0,1,0,0,1]):=Z2
def Z9p:Ys ofC [1,1,1,1]=.seq (Ys ofC [1,1,1,1,0]) (.seq (Ys ofC [1,1,1,1,1,0])<|.seq (Ys ofC [1,1,1,1,1,1,0])<|.seq (.seq (Ys ofC [1,1,1,1,1,1,1,0,0])<|.block 0<|.loop bodyC)<|Ys ofC [1,1,1,1,1,1,1,1]):=Z2
noncomputable def ops8:Array Oper:=Lo<|Ys ofC [1,1,1,1,1,1,1,0,0]
def Z8N:Ys ofC [1,1,1,1,1,1,1,0,0]=.region 8 ops8 xw:=Z2
def zF:Value:=.agg #[.int .i64 0,.int .i64 0,.int .i64 0,.bool xw,.int .u64 0,.int .u64 0,.slice U 0 0]
def Z7y:∃t a d inf o,ops9[0]?=J o/\o.guard=U/\o.dst=J 24/\o.op=.recv t a xk/\a=.tmp 23/\xP.underlying t=J (.chan d 125)/\xP.info? 125=J inf/\inf.zero=J zF:=
 ⟨_,_,_,_,_,rfl,rfl,rfl,rfl,rfl,rfl,rfl,rfl⟩
def Z7z:∃o,ops9[1]?=J o/\o.guard=U/\o.dst=J 25/\o.op=.extract (.tmp 24) 1:=⟨_,rfl,rfl,rfl,rfl⟩
def Z7A:ops9.size=2:=rfl
def Da:SS:=[(1,.mem [.fz,.fz,.fz,.fz,.fz,.fz,.fz,.fz,.fz,.fz]),(2,.mem [.fz,.fz]),(3,.fz),(5,.own 125),(6,.mem [.own 102]),(7,.mem [.own 123])]
structure AtL (B:Nat) (G:Nat->Prop) (wS:World) (c:Nat) (st:Vw) (hc:List V) (s:St) (a:Act) (w:World):Prop where
 vj:∃T0 w0,RelS G [4,23] T0 cV B G w0 82 s a w Da
 same:Same G wS w
 ch:a.tmps[23]?=J (.chan<|J c)
 s1:get s 1=.m hc
 s6:get s 6=.v (.sl<|st.ns.map Xl)
 s7:get s 7=.m [Yg vi st.nm]
 s8:get s 8=.m [Yg vu st.tm]
theorem AtL.put{B G wS c st hc s a w}(h:AtL B G wS c st hc s a w){v x b}(p:Rd wS G x v):
  ∃g d T0 w0,g=(a.put (J 24)<|.tuple #[v,.bool b]).put (J 25) (.bool b)/\RelS G [4,23] T0 cV B G w0 82 d g w D8/\g.tmps[23]?=J (.chan<|J c)/\get d 1=.m hc/\get d 6=.v (.sl<|st.ns.map Xl)/\get d 7=.m [Yg vi st.nm]/\get d 8=.m [Yg vu st.tm]/\get d 12=.v (.am [x,.bool b])/\get d 10=.v (.bool b):=by
 let⟨T0,w0,o⟩:=h.vj;have j:Rd w G (.am [x,.bool b])<|.tuple #[v,.bool b]:=by
  refine .am _ _ rfl λi c f=> ?_
  match i,f with
  |0,f=>cases f;exact p.keep h.same λ_ q=>q
  |1,f=>cases f;exact .bool _
 have n:=(o.put (t:=24) rfl Zgo Z0 j).put (t:=25) (v:=.bool b) (x:=.bool b) rfl Zgo Z0<|.bool _;have k:cV.ix 24=12:=Zgo;have l:cV.ix 25=10:=Zgo;rw[k,l]at n;refine⟨_,_,_,_,rfl,n.ft (R:=D8) Z2,?_,?_,?_,?_,?_,?_,?_⟩;rw[WN Z0,WN Z0];exact h.ch;all_goals simp[X1,h.s1,h.s6,h.s7,h.s8]
def Z95{B G wS c hc k}{b:Zg}{Post}fin
  (K:Rd wS G (Xl ⟨⟨0,0,0,xw,0⟩,0,[]⟩) zF)
  (a0:∀s a w T0 w0,RelS G [4,23] T0 cV B G w0 82 s a w D9->get s 1=.m hc->get s 6=.v (.sl<|fin.ns.map Xl)->get s 7=.m [Yg vi fin.nm]->get s 8=.m [Yg vu fin.tm]->LS xP c Post [] (b.at a k) [] w):
  ∀(p:List<|Fo×Value) st,(∀y∈p,Rd wS G (Xl y.1) y.2)->I st.ns+I p<=4000000->(p.map (·.1)).foldl Vw.put st=fin->∀s a w,AtL B G wS c st hc s a w->
   LS xP c Post (p.map (λy=>.recv y.2)++[.closed zF]) (b.at a<|.code bodyC:: .inLoop bodyC:: .inBlock 0::k) [] w:=by
 let⟨t,T,d,inf,o,o1,o2,o3,o4,C,o6,o7,o8⟩:=Z7y;let⟨o',p1,p2,p3,p4⟩:=Z7z;have ext:∀(a:Act) w v b,a.tmps[24]?=J (.tuple #[v,.bool b])->(execOp a.eval o').run xP w=.ok _ w:=λa w v b h=>by
  have he:=Act.aj a 24 _ h;unfold execOp;simp[p4,he];rfl
 have enter:∀ {es} {e:Ev} {v:Ze} {fl:Bool} {s:St} {st:Vw} {a:Act} {w:Z3},e.val=.tuple #[v,.bool fl]->((∃v,e=.recv v)\/e=.closed zF)->AtL B G wS c st hc s a w->
   LS xP c Post es (b.at ((a.put (J 24)<|.tuple #[v,.bool fl]).put (J 25)<|.bool fl)<|.code (Ys ofC [1,1,1,1,1,1,1,0,1,0,0,1]):: .inLoop bodyC:: .inBlock 0::k) [] w->
   LS xP c Post (e::es) (b.at a<|.code bodyC:: .inLoop bodyC:: .inBlock 0::k) [] w:=λ{es e v fl s st a w} H F f hk=>by
  let⟨T0,w0,A⟩:=f.vj;have a1:=A.2.2.2.1;rw[show(Item.code bodyC)=.code (.seq (.region 9 ops9 xw)<|Ys ofC [1,1,1,1,1,1,1,0,1,0,0,1])by rfl];refine LS.cy<|LS.region ?_;rw[Z7A,show List.range 2=[0,1]from rfl];refine LS.tf (i:=0) o1 (by simp[Region.wanted,o2]) ?_ ?_;obtain⟨v,rfl⟩|rfl:=F;exact⟨t,T,d,_,inf,zF,o4,by rw[C];rfl,by rw[C];exact Act.aj a 23 _ f.ch,o6,o7,o8,Z1⟩;exact⟨t,T,d,_,inf,zF,o4,by rw[C];rfl,by rw[C];exact Act.aj a 23 _ f.ch,o6,o7,o8,Z1⟩;rw[o3,H];refine LS.value (i:=1) p1 (by simp[Region.wanted,p2]) (ext _ w v fl (Q0 Z0)) ?_;simp_all[LS.gn]
 intro p;induction p with
 |nil=>
  intro st r hn n s a w f;refine enter (v:=zF) (fl:=xw) rfl Z1 f ?_;obtain⟨a2,s2,T0,w0,rfl,A,x,W,Y,Z,h8,u,q⟩:=f.put (b:=xw) K;refine LS.wp (qx Ov A<|Z8P (N:=λ_=>False) (R:=λ_=>False) (X:=λid g=>id=0/\g=s2) q ⟨rfl,rfl⟩) λe S w' j=> ?_;cases e with
  |normal=>let⟨_,_,_,h,_⟩:=j;grind
  |exit id=>
   obtain⟨g,Q,hx,⟨rfl,rfl⟩,l⟩:=j;have D:Q=D9:=by simpa using hx
   subst D;refine⟨k,rfl,?_⟩;grind
  |ret=>let⟨_,_,_,h,_⟩:=j;grind
  |_=>exact j.elim
 |cons y p ih=>
  intro st r hn n s a w f;simp[ZiD]at hn;refine enter (v:=y.2) (fl:=xk) rfl Z1 f ?_;obtain⟨a2,s2,T0,w0,rfl,A,x,W,Y,Z,h8,u,q⟩:=f.put (b:=xk)<|r y Z1;refine LS.wp (qx Ov A.base<|Z8Q (X:=λ_ _=>False) (R:=λ_=>False) (N:=λg=>get g 6=.v _/\get g 7=.m [Yg vi (st.put y.1).nm]/\get g 8=.m [Yg vu (st.put y.1).tm]/\get g 1=.m hc) Y Z h8 u q Z0 λg M O P L _ _=>⟨M,O,P,L.trans W⟩) λe S w' j=> ?_;cases e with
  |normal=>
   let⟨g,Q,D,⟨M,O,P,L⟩,l⟩:=j;cases D;refine LS.inLoop<|ih _ (λz K=>r z<|by simp[K]) ?_ n g S w' ⟨⟨_,_,l.ft (R:=Da) Z2⟩,f.same.trans l.2.2.1.same,?_,L,M,O,P⟩;grind [Vw.put];rw[l.2.2.1.fix 23 Z1];exact x
  |exit id=>let⟨_,_,_,h,_⟩:=j;grind
  |ret=>let⟨_,_,_,h,_⟩:=j;grind
  |_=>exact j.elim
def Eu(b:Zg)(D:World->Nat->Prop)(r:V)(fr:Zg)(cs:Z7)(w:Z3):Prop:=
 cs=[]/\∃(a:Act) (d:Zn),fr= {b.at a d with mode:=.returning}/\a.defers=[]/\∃v,(results Try.f36 a.tmps).run xP w=.ok v w/\Rd w (D w) r v
def Ei{code S st o B G Kf s a w w0 T0 N c f es}{b:Zg}{k}(hc:comp (vf xP) code S=J (st,⟨J o,[],[]⟩))(t:RelS Kf [4,23] T0 cV B G w0 82 s a w S)
  (u:Yw xP st s N (λ_ _=>False)<|λ_=>False) (r:∀l g n,N l->RelS Kf [4,23] T0 cV B G w0 82 l g n o->LS xP c f es (b.at g k) [] n):=
 LS.wp (qx hc t u) λe g n d=>by
  cases e with
  |normal=>let⟨l,x,q,p,j⟩:=d;cases q;exact r _ _ _ p j
  |exit id=>let⟨_,_,_,h,_⟩:=d;grind
  |ret=>let⟨_,_,_,h,_⟩:=d;grind
  |_=>exact d.elim
def Z7w:∃o,ops8[0]?=J o/\o.guard=U/\o.dst=J 23/\o.op=.move (.tmp 4):=⟨_,rfl,rfl,rfl,rfl⟩
def Z7x:ops8.size=1:=rfl
def Z7l{B:Nat}{G:Z4}{c:Nat}{b:Zg}{s:St}{a:Act}{w w0:Z3}{T0:Zb}{W Y Z y sc x5 x6 x7 x8:V}{d:Z8}{fs:List (Fo×Value)}{fin:Vw}(O:RelS G [4,23] T0 cV B G w0 82 s a w LJ)(L:a.tmps[4]?=J (.chan<|J c))(F:get s 1=.m [W,Y,Z,y,sc,x5,x6,x7,x8,.sl<|d.map vu])
  (M:∀y∈fs,Rd w G (Xl y.1) y.2) (hn:I fs<=4000000) (u:(fs.map (·.1)).foldl Vw.put ⟨[],[],[]⟩=fin) (hs:fin.sm d):
  LS xP c (Eu b (λw' x=>G x\/(B<=x/\x<xz (xj w')))<|Vh<|fin.gr d) (fs.map (λy=>.recv y.2)++[.closed zF]) (b.at a [.code<|Ys ofC [1,1,1,1]]) [] w:=by
 rw[Z9p];refine LS.cy (Ei r5c O.base (N:=λj=>get j 6=.v (.sl [])/\get j 1=get s 1) (by simp[r5,X1]) λs1 a1 w1 ⟨q6,q1⟩ l=> ?_);refine LS.cy (Ei r6c l.base (N:=λj=>get j 7=.m [Yg vi []]/\get j 6=.v (.sl [])/\get j 1=get s 1) (by simp[r6,X1,q6,q1];rfl) λs2 a2 w2 ⟨t7,t6,t1⟩ n=> ?_);refine LS.cy (Ei r7c n.base (N:=λj=>get j 8=.m [Yg vu []]/\get j 7=.m [Yg vi []]/\get j 6=.v (.sl [])/\get j 1=get s 1) (by simp[r7,X1,t7,t6,t1];rfl) λs3 C w3 ⟨u8,u7,u6,u1⟩ k=> ?_);have q:C.tmps[4]?=J (.chan<|J c):=by
  rw[k.2.2.1.fix 4 Z1,n.2.2.1.fix 4 Z1,l.2.2.1.fix 4 Z1];exact L
 have p:Same G w w3:=(l.2.2.1.same.trans n.2.2.1.same).trans k.2.2.1.same;refine LS.cy<|LS.cy ?_;rw[Z8N];refine LS.region ?_;rw[Z7x,show List.range 1=[0]from rfl];obtain⟨o,o1,o2,o3,o4⟩:=Z7w;have a0:C.eval (.tmp 4)=.chan (J c):=Act.aj C 4 _ q;refine LS.value (v:=.chan<|J c) (w':=w3) o1 (by simp[Region.wanted,o2]) (by simp_all[execOp])<|LS.gn ?_;rw[o3];have Q:=k.set (t:=23) (v:=.chan<|J c) rfl;have a4:C.tmps.size=82:=k.2.2.2.1;refine LS.block<|LS.br (.one step_loop) ?_;refine Z95 (hc:=[W,Y,Z,y,sc,x5,x6,x7,x8,.sl<|d.map vu]) fin (wS:=w) (B:=B) (G:=G) ?_ ?_ fs ⟨[],[],[]⟩ M Zgl u s3 _ w3 ⟨⟨_,_,Q.ft (R:=Da) Z2⟩,p,Q0 Z0,u1.trans F,u6,u7,u8⟩;refine .agg _ _ rfl Z1 λi x g=> ?_
 match i,g with
 |0,g=>cases g;exact .int _ _
 |1,g=>cases g;exact .int _ _
 |2,g=>cases g;exact .int _ _
 |3,g=>cases g;exact .bool _
 |4,g=>cases g;exact .int _ _
 |5,g=>cases g;exact .int _ _
 |6,g=>cases g;exact .nil _ _<|Zis _
 intro s5 a5 w5 T5 a6 S v1 v6 v7 v8;refine LS.wp (qx rCc ((S.ft (R:=Ou) Z2).base)<|Z8O (N:=λ_=>False) (X:=λ_ _=>False) (R:=λj=>Ws j [(2,.ag 2),(3,.v)]=J (Vh<|fin.gr d)) hs v1 v6 v7 v8 λj h=>h) λe a' w' H=> ?_;cases e with
 |normal=>obtain⟨_,_,_,h,_⟩:=H;grind
 |exit id=>obtain⟨_,_,_,h,_⟩:=H;grind
 |ret=>
  obtain⟨j,S',K,hR,P⟩:=H;have K:S'=D7:=by simpa using K
  subst K;obtain⟨⟨h,k1,k2⟩,k3,k4,k5,k6⟩:=P;intro A
  obtain⟨v,hv,T⟩:=LQ (c:=cV) (f:=Try.f36) (D:=λx=>G x\/(B<=x/\x<xz (xj w'))) k1 k3 (λx z=>by
   obtain F|F:=k1.ok.cr x z;grind;exact .inr ⟨F,k1.ok.bn x z⟩) (λr O=>⟨Zhw.1 (Z2:(Try.f36.results.toList.all<|Rn xP D7)=xk) r O,λi x z=>.inr ⟨(k1.ok.an _ _ x z).1,(k1.ok.an _ _ x z).2.1⟩⟩) (x:=Vh<|fin.gr d) (by rw[<-hR];rfl)
  exact LS.dq ⟨rfl,a',A,rfl,k6,v,hv,T⟩
 |_=>exact H.elim
end
section
def Z3r:∃o a,clOps[1]?=J o/\o.guard=U/\o.dst=U/\o.op=.call ⟨.builtin .close, #[.tmp 70],a⟩:=⟨_,_,rfl,rfl,rfl,rfl⟩
section
variable {b:Zg}{a:Act}{c:Nat}{w:Z3}
def Z3t{cs:Z7}(t:b.fn=54)(x:b.kind≠.early)(q:a.tmps[70]?=J (.chan<|J c)){s r:Nat}{f:Bool}(hc:w.heap[c]?=J (.chan 0 #[] xw s r f)):
  stepG Try.prog xw (G (b.at a [.inRegion clOps [1]]) cs) w=.go (G (b.at a [.inRegion clOps []]) cs) (WO w c<|.chan 0 #[] xk s r f) #[⟨.obj c,xw,xk⟩,⟨.obj c,xk,xk⟩]:=by
 obtain⟨o,d,l,g,n,p⟩:=Z3r;have h:a.eval (.tmp 70)=.chan (J c):=Act.aj a 70 _ q;have j:execOp a.eval o=(do pure (.value<|<-Builtin.close_ d o.type #[.chan<|J c]):Sem Next):=by
  unfold execOp;simp only[p];simp[resolve,builtin,h];rfl
 have y:(execOp a.eval o).run Try.prog w=.ok (.value<|.tuple #[]) (WO w c<|.chan 0 #[] xk s r f):=by
  rw[j];simp only[Zi4,run_close_open d o.type hc,Zi2];rfl
 have u:(execOp a.eval o).events Try.prog w #[]=#[⟨.obj c,xw,xk⟩,⟨.obj c,xk,xk⟩]:=by
  rw[j];have g:(Builtin.close_ d o.type #[.chan<|J c]).runT Try.prog w #[]=(.ok (.tuple #[])<|WO w c<|.chan 0 #[] xk s r f, #[⟨.obj c,xw,xk⟩,⟨.obj c,xk,xk⟩]):=by
   refine ZjZ ?_<|events_close_open d o.type hc;rw[Zjr];exact run_close_open d o.type hc
  show((Sem.bind _ _).runT Try.prog w #[]).2=_;rw[Zjx,g];rfl
 rw[stepG_value l (by simp[Region.wanted,g]) x y];have k:a.put o.dst (.tuple #[])=a:=by rw[n];rfl
 rw[k];unfold listed;rw[u,seen_eq (by rw[t,Try.func54];rfl) Z1]
noncomputable def bornF:Frame:= {(default:Zg)with fn:=Try.prog.funcs.size,defers:=[],mode:=.panicking [goexitEntry]}
def Zaa(d:b= {base 54 with kind:=.deferred})(f:a.defers=[]):QuitsIn Try.prog 4<|G (b.at a [.inRegion clOps []]) [bornF]:=by
 subst d;refine .ctl (g':=G (({base 54 with kind:=.deferred}:Frame).at a []) [bornF]) rfl (λw=>Zhb) ?_;refine .ctl (g':=G {(({base 54 with kind:=.deferred}:Frame).at a [])with mode:=.returning} [bornF]) rfl (λw=>Zhb) ?_;refine .ctl (g':=G bornF []) rfl (λw=> ?_) ?_;have g:=Try.func54;simp[G,stepG,unwind,Frame.at,f,base,g,results,Try.results54,doReturn,bornF,goexitEntry];rfl;refine .ctl (g':= {(G bornF [])with status:=.finished}) rfl (λw=> ?_) rfl;rfl
end
def qq(l:Z8):NoM<|.sl<|l.map vu:=.sl _ λc a=>by
 have:flat (l.map vu)=l.map vu:=Uh λx d=>ZgS;rw[this]at a;obtain⟨y,_,rfl⟩:=ZhC.1 a;exact .int _ _
def Z3W{n:Nat}{v:Ze}(h:FixV n v)(f m:Nat):FixV n<|RG v f m:=by
 intro ρ d;have a:=h ρ d;unfold RG;split;rename_i b o q k c;simp only[Zt,ZhL,ZU,Value.slice.injEq,Zhh,Addr.mk.injEq,and_true]at a;grind [Zt,ZU];exact a
def GY{n:Nat}{h:Hp}{x:Z5}{p:Nat}(hx:FixV n<|x p)(o:Ob):FixV n<|UD h x p o:=by
 intro ρ a;have:=Z3W hx (o.Z+1).toNat o.size.toNat ρ a;simp_all[UD,WK,Wr,Uq]
def B1{h:Hp}{x:Z5}{v:Ze}:∀ {n p:Nat},v∈Wx h x n p->∃q o,q<p+n/\v=UD h x q o
 |0,p,a=>by simp[Wx]at a
 |n+1,p,a=>by
  simp only[Wx,ZhO,ZhC]at a;obtain⟨o,_,rfl⟩|a:=a;exact⟨p,o,Z0,rfl⟩;obtain⟨q,o,f,d⟩:=B1 a;exact⟨q,o,Z0,d⟩
def bD:Frame:= {base 54 with kind:=.deferred}
def AC(args:Zb):Frame.enter Try.prog 54 args .deferred=bD.at {tmps:=args++Array.replicate (71-args.size) xy,defers:=[]} [.code seC]:=by
 simp[Frame.enter,Frame.at,Try.func54,jx,bD,base,Try.ntmps54]
def Pg:YX xP xw seC=xk:=Z2
def Z30:xP.funcs[Try.prog.funcs.size]?=U:=by
 grind [Array.getElem?_eq_none,xP,V6]
def Z3q{c n0:Nat}{h:Hp}{x:Z5}{K:Z4}{w:Z3}(hh:h.ok)(a1:xz (xj w)<=n0)(hc:c<n0)(hK:∀b,K b->∃cs e fr,w.heap[b]?=J (.cells cs e fr))(R:∀b o,w.heap[b]?=J o->K b->Kk n0 o)
  (hx:∀j,j<5->FixV n0 (x j)) (hr:∀j,j<5->Rd w K (.sl<|(Zu h j).map vu) (x j))
  (a2:∀p,p<4->I (obP h p)<=1000000/\∀o∈obP h p,0<=o.Z/\0<=o.size/\o.Z+1+o.size<=I (Zu h p)):
  Play Try.prog xw c K (UU Try.prog c) ((Wx h x 4 0).map .send) (λ_=>False) (born Try.prog {target:=.fn (.func 54) #[],args:=#[ZC h x,.chan<|J c]}) w:=by
 have a6:∀b,K b->b<xz (xj w):=λb k=>Zgl;have C:∀w1:Z3,stepG Try.prog xw (born Try.prog {target:=.fn (.func 54) #[],args:=#[ZC h x,.chan<|J c]}) w1=.go (G (Frame.enter Try.prog 54 #[ZC h x,.chan<|J c] .deferred) [bornF]) w1 #[]:=λw1=>by
  have hn:¬Try.f54.name= "runtime.NumGoroutine" :=by decide+kernel
  have k:¬Try.f54.body=U:=by rw[jx];simp
  simp[stepG,born,unwind,callDeferred,invoke,callFunc,G,bornF,hn,k];rfl
 refine .step (λw1 H=>⟨_,_,_,_,C w1,Zhm _,Zhm _,rfl,rfl,λ_ _ _=>rfl,λe Y=>by simp at Y⟩) λw1 g' w' a4 H e=> ?_;have e:=(C w1).symm.trans e;injection e with M N e3;subst M N;have B:(Vj (λ_=>False) w1 w1:Z4)=λ_=>False:=funext λb=>propext ⟨λk=>by obtain k|k:=k;exact k;omega,λk=>k.elim⟩;rw[B];refine Play.gp ?_ H;let X:Cx:=Sa Try.prog xP n0 K (λ_=>False);have S:X.P=Try.prog:=QY.P n0 K (λ_=>False);have n:∀v∈ #[ZC h x,.chan<|J c],FixV n0 v:=λv hv=>by
  have:v=ZC h x\/v=.chan (J c):=by simpa using hv
  obtain rfl|rfl:=this;intro ρ l;unfold ZC;rw[WK];simp[Wr,Uq,hx 0 Z0 ρ l,hx 1 Z0 ρ l,hx 2 Z0 ρ l,hx 3 Z0 ρ l,hx 4 Z0 ρ l];intro ρ l;simp[Zt,l c hc]
 have z:∀ρ,Zx ρ bornF=bornF:=λρ=>by
  simp[Zx,bornF,Wq,Rx,goexitEntry,SB];exact⟨by show Array.map (Zt ρ) #[]=#[];simp,rfl,rfl⟩
 have hw:=Ee X (QY.ok n0 K<|λ_=>False) (c:=c) (es:=(Wx h x 4 0).map .send) (fr:=Frame.enter Try.prog 54 #[ZC h x,.chan<|J c] .deferred) (cs:=[bornF]) (ds:=[]) (main:=xw) (wc:=w)
  (λe Y=>by
   obtain⟨v,hv,rfl⟩:=ZhC.1 Y;obtain⟨q,o,hq,rfl⟩:=B1 hv;exact⟨GY (hx q Z0) o,hc⟩)
  (λρ=>by
   rw[AC];refine⟨⟨λi hi=> ?_,λd A=>by simp[Frame.at]at A,.inr rfl,.inl ⟨_,seC,Z1M,Try.func54,jx,Pg⟩⟩,λf Z=> ?_,rfl⟩;have:i=.code seC:=by simpa[Frame.at]using hi
   subst this;exact Pg;have:f=bornF:=by simpa using Z
   subst this;exact⟨λi hi=>(by cases hi),λd A=>(by cases A),.inl rfl,.inr<|.inl ⟨Z30,ZjN<|Zhm _⟩⟩)
  (λf Z=>by
   have:f=Frame.enter Try.prog 54 #[ZC h x,.chan<|J c] .deferred\/f=bornF:=by simpa using Z
   obtain rfl|rfl:=this;rw[AC];intro ρ l;have M:(#[ZC h x,.chan<|J c]++Array.replicate (71- (#[ZC h x,.chan<|J c]:Array Value).size) xy).map (Zt ρ)=#[ZC h x,.chan<|J c]++Array.replicate (71- (#[ZC h x,.chan<|J c]:Array Value).size) xy:=by
    rw[Zjo,R9 n ρ l];simp[SB]
   simp_all[Zx,Frame.at,YK,Wq,bD,base];exactλρ _=>z ρ)
  (λb o ho y=>by
   obtain y|y:=y;exact y.elim;exact R b o ho y)
  (Post:=λwl=>Et c bD [bornF])
  (λt=>by
   rw[AC]
   exact Za9 bD [bornF] (X.cl w t) h hh x c K (λb k=>by grind [Cx.cl,Sa,Nat.lt_of_lt_of_le])
    (λj hj=>OC (X:=X) (λb h=>h) (λb c e fr B hc=>B) a1 (hr j hj)<|qq _) a2)
 have hw:Play Try.prog xw c K _ ((Wx h x 4 0).map .send) (λ_=>False) (G (Frame.enter Try.prog 54 #[ZC h x,.chan<|J c] .deferred)<|[bornF]++[]) w:=S▸hw;refine hw.mono λO g w' ⟨ρ,t,a5,a3,a7,fc,cc,B,hid,⟨W,a,a0,Q,A⟩,L⟩=> ?_;subst B W a0;have D:fc=Zx ρ (bD.at a [.inRegion clOps [1]]):=L.be;have F:cc=[bornF].map (Zx ρ)++[]:=L.under;have M:fc=bD.at {tmps:=a.tmps.map<|Zt ρ,defers:=[]} [.inRegion clOps [1]]:=by
  rw[D];simp[Zx,Frame.at,A,Wq,YK,bD,base]
 have N:cc=[bornF]:=by rw[F];simp[z]
 rw[M,N];have u:(a.tmps.map<|Zt ρ)[70]?=J (.chan<|J c):=by
  rw[ZhX,Q];simp[Zt,hid c hc]
 refine⟨rfl,?_,_,4,λs r tm T=>Z3t rfl (by simp[bD]) u T,Zaa rfl rfl⟩;rfl
end
inductive NoZ:V->Prop where
 |int (k:IntKind) (n:Int):NoZ<|.int k n
 |bool (b:Bool):NoZ<|.bool b
 |sl (l:Zr):(∀y∈l,y.cells≠[])->(∀c∈flat l,NoZ c)->NoZ (.sl l)
 |agg (l:Zr):(∀c∈l,NoZ c)->NoZ (.agg l)
 |am (l:Zr):(∀c∈l,NoZ c)->NoZ (.am l)
def NoZ.m{x:V}(h:NoZ x):NoM x:=by
 induction h with
 |int k n=>exact .int k n
 |bool b=>exact .bool b
 |sl l _ _ a=>exact .sl l a
 |agg l _ a=>exact .agg l a
 |am l _ a=>exact .am l a
def Z8W{w:Z3}{D:Z4}{x:V}{v:Ze}(h:Rd w D x v)(d:NoZ x):Rd w (λb=>D b/\b<xz (xj w)) x v:=by
 induction h with
 |int k n=>exact .int k n
 |bool b=>exact .bool b
 |nil a cap A=>exact .nil a cap A
 |sl l b o cap k vs g p z r t C j=>
  cases d with
  |sl _ B d=>
   obtain _|⟨y,l⟩:=l;exact .nil _ cap p;have F:0<k:=by
    rw[<-(r y Z1).1];exact Zjk.2<|B y Z1
   have q:=As<|t 0 Zgm;exact .sl _ b o cap k vs g p ⟨z,q⟩ r t λi c f=>j i c f<|d c<|AQ f
 |agg u vs g p _ j=>
  cases d with
  |agg _ d=>exact .agg u vs g p λi c f=>j i c f<|d c<|Zhq f
 |am l vs g _ j=>
  cases d with
  |am _ d=>exact .am l vs g λi c f=>j i c f<|d c<|Zhq f
 |_=>cases d
def Z8Z{w:Z3}{D:Z4}{x:V}{v:Ze}(h:Rd w D x v)(d:NoZ x):Rd w (λb=>D b/\∃q e r,w.heap[b]?=J (.cells q e r)) x v:=by
 induction h with
 |int k n=>exact .int k n
 |bool b=>exact .bool b
 |nil a cap B=>exact .nil a cap B
 |sl l b o cap k vs g p z t u F j=>
  cases d with
  |sl _ C d=>
   obtain _|⟨y,l⟩:=l;exact .nil _ cap p;have G:0<k:=by
    rw[<-(t y Z1).1];exact Zjk.2<|C y Z1
   obtain⟨_,c,e,r,A,_⟩:=Ky<|u 0 Zgm;exact .sl _ b o cap k vs g p ⟨z,c,e,r,A⟩ t u λi c f=>j i c f<|d c<|AQ f
 |agg q vs g p _ j=>
  cases d with
  |agg _ d=>exact .agg q vs g p λi c f=>j i c f<|d c<|Zhq f
 |am l vs g _ j=>
  cases d with
  |am _ d=>exact .am l vs g λi c f=>j i c f<|d c<|Zhq f
 |_=>cases d
def Mv(l:Z8):NoZ<|.sl<|l.map vu:=.sl _ (λy f=>by obtain⟨z,_,rfl⟩:=ZhC.1 f;simp) λc a=>by
 rw[Uh λx d=>ZgS]at a;obtain⟨y,_,rfl⟩:=ZhC.1 a;exact .int _ _
def Mu(l:Z8):NoZ<|.sl<|l.map vi:=.sl _ (λy f=>by obtain⟨z,_,rfl⟩:=ZhC.1 f;simp) λc a=>by
 rw[Uh λx d=>ZgS]at a;obtain⟨y,_,rfl⟩:=ZhC.1 a;exact .int _ _
def Mt(g:Gr):NoZ<|YB g:=.agg _ λc a=>by
 have:c=.sl (g.nodes.map Yk)\/c=.sl (g.E.map vi):=Zh8;obtain rfl|rfl:=this;refine .sl _ (λy d=>by obtain⟨z,_,rfl⟩:=ZhC.1 d;simp) λc a=> ?_;obtain⟨y,d,a⟩:=ZjM.1 a;obtain⟨n,_,rfl⟩:=ZhC.1 d;have:c=.sl (n.M.map vi)\/c=.sl (n.data.map vu):=Zh8;obtain rfl|rfl:=this;exact Mu _;exact Mv _;exact Mu _
def Ms(g:Gr):NoZ<|Vh g:=by
 unfold Vh;split;all_goals
  refine .am _ λc a=> ?_;simp only[ZhK,ZiU,Zkl]at a;obtain rfl|rfl:=a;exact Mt _;exact .int _ _
def Tk(h:Hp):NoM<|ZE h:=.agg _ λc a=>by
 simp only[ZhK,ZiU,Zkl]at a;obtain rfl|rfl|rfl|rfl|rfl|rfl|rfl|rfl|rfl|rfl:=a;all_goals first|exact .int _ _|exact .bool _|exact qq _
noncomputable def ops4:Array Oper:=Lo<|Ys ofC [1,1,1,0]
def Z7v:(ops4.all λo=>Wa xP xw o.op)=xk:=Z2
def Z9q:YX xP xw (Ys ofC [1,1,1,1])=xk:=Z2
def Z7k:xP.funcs[36]?=J (OG Try.f36):=by
 have:=Try.func36;simp only[xP,V6,Zkv,this,ZhL];rfl
def M3{X:Cx}{w:Z3}{t:Nat->Question->Nat}{b:Nat}{cs:Zb}{T:Zf}(h:w.heap[b]?=J (.cells cs T (0,0)))(a:X.O b)(d:b<X.n0):(X.cl w t).heap[b]?=J (.cells cs T (0,0)):=by
 rw[BT,Zht d,h];unfold Cx.ir;dsimp only;rw[Zht a,Zht ⟨trivial,λc e g f=>Zgl⟩]
def Z9m{B g k:Nat}{a:Act}{A C:Zf}{K:Z4}{h:Hp}{x:Z5}{l:Z3}
  (z:a.tmps.size=82) (Q:a.defers=[]) (T:a.tmps[1]?=J (.pointer<|J ⟨g,0,U⟩)) (W:a.tmps[2]?=J (.pointer<|J ⟨k,0,U⟩)) (X:a.tmps[3]?=J (.int .i64 0))
  (n:l.heap[g]?=J (.cells #[.int .u64 h.base,.int .i64 h.cap,.int .i64 h.to,.bool h.Y,.int .i64 h.aa,x 0,x 1,x 2,x 3,x 4] A (0,0))) (o:l.heap[k]?=J (.cells #[.slice U 0 0,.slice U 0 0] C (0,0)))
  (N:B<=g) (O:B<=k) (M:g≠k) (k1:¬K g) (k2:¬K k) (D:∀b,K b->b<xz (xj l)) (r:∀j,j<5->Rd l K (.sl<|(Zu h j).map vu) (x j)):
  RelS K [4,23] a.tmps cV B K l 82 [.no,.m [vu h.base,vi h.cap,vi h.to,.bool h.Y,vi h.aa,.sl<|h.H.map vu,.sl<|h.ab.map vu,.sl<|h.ah.map vu,.sl<|h.al.map vu,.sl<|h.E.map vu],.m [.sl [],.sl []],.v<|vi 0] a l LJ:=by
 have l1:=(Zho.1 n).1;have l2:=(Zho.1 o).1;have Z:cV.ix 1=1:=Zgo;have i2:cV.ix 2=2:=Zgo;have i3:cV.ix 3=3:=Zgo;refine⟨⟨{F:=K,bl:=λt i=>if t=1/\i=0 then J g else if t=2/\i=0 then J k else U,K:=K},⟨⟨Z0,D,λb f=>.inl f,λb f=>f,λt i b f=> ?_,λt i u j b f P=> ?_,D,λt i b f=> ?_,λb f=>.inl f⟩,λt _ S=> ?_,λt R=> ?_⟩,rfl⟩,λp Y=> ?_,.refl _ _,z,Q⟩;grind;grind;grind;rw[YA]at S⊢;by_cases G:t=1;subst G;refine⟨_,T,g,_,A,rfl,rfl,n,rfl,λi y d=> ?_⟩;have q:i<10:=(Zhj.1 d).1
 match i,q with
 |0,_=>cases d;exact⟨_,Zhb,rfl,.int _ _⟩
 |1,_=>cases d;exact⟨_,Zhb,rfl,.int _ _⟩
 |2,_=>cases d;exact⟨_,Zhb,rfl,.int _ _⟩
 |3,_=>cases d;exact⟨_,Zhb,rfl,.bool _⟩
 |4,_=>cases d;exact⟨_,Zhb,rfl,.int _ _⟩
 |5,_=>cases d;exact⟨_,Zhb,rfl,r 0 Z0⟩
 |6,_=>cases d;exact⟨_,Zhb,rfl,r 1 Z0⟩
 |7,_=>cases d;exact⟨_,Zhb,rfl,r 2 Z0⟩
 |8,_=>cases d;exact⟨_,Zhb,rfl,r 3 Z0⟩
 |9,_=>cases d;exact⟨_,Zhb,rfl,r 4 Z0⟩
 |i+10,h=>omega
 by_cases H:t=2;subst H;refine⟨_,W,k,_,C,rfl,rfl,o,rfl,λi y d=> ?_⟩;have w:i<2:=(Zhj.1 d).1
 match i,w with
 |0,_=>cases d;exact⟨_,Zhb,rfl,.nil _ _<|Zis _⟩
 |1,_=>cases d;exact⟨_,Zhb,rfl,.nil _ _<|Zis _⟩
 |i+2,h=>omega
 by_cases L:t=3;subst L;exact⟨_,X,_,Zhb,.int _ _⟩;simp_all[LJ,SS.at,Zj5,TK.bj];refine absurd ?_ R;rw[YA];split<;>exact VX _;grind [LJ,SS.at]
def Z0T(cs:Z7)(r:V)(D:Z4)(g:Zj)(w:Z3):Prop:=
 ∃a,g=G a cs/\a.fn=36/\a.mode=.returning/\a.defers=[]/\a.kind=.normal/\∀d,∃v,(results Try.f36 a.tmps).run Try.prog (w.at d)=.ok v (w.at d)/\Rd (w.at d) (λb=>D b/\b<xz (xj w)) r v
def Z6o{c n0 B C D:Nat}{a:Act}{T1 T2:Zf}{K:Z4}{h:Hp}{x:Z5}{w:Z3}{cs:Z7}{fs:List (Fo×Value)}{fin:Vw}(hh:h.ok)
  (e3:a.tmps.size=82) (hd:a.defers=[]) (t1:a.tmps[1]?=J (.pointer<|J ⟨C,0,U⟩)) (t2:a.tmps[2]?=J (.pointer<|J ⟨D,0,U⟩)) (t3:a.tmps[3]?=J (.int .i64 0)) (t4:a.tmps[4]?=J (.chan<|J c))
  (S:w.heap[C]?=J (.cells #[.int .u64 h.base,.int .i64 h.cap,.int .i64 h.to,.bool h.Y,.int .i64 h.aa,x 0,x 1,x 2,x 3,x 4] T1 (0,0))) (T:w.heap[D]?=J (.cells #[.slice U 0 0,.slice U 0 0] T2 (0,0)))
  (e9:B<=xz (xj w)) (d0:B<=C) (d5:B<=D) (c1:C≠D) (k1:¬K C) (k2:¬K D) (b4:xz (xj w)<=n0) (hc:c<n0)
  (hK:∀b,K b->∃cs e fr,w.heap[b]?=J (.cells cs e fr)) (a2:∀(b:Nat) (cs:Zb) (e:Zf) (fr:Nat×Nat),w.heap[b]?=J (Obj.cells cs e fr)->Kk n0 (Obj.cells cs e fr)) (e0:∀v∈a.tmps,FixV n0 v) (hx:∀j,j<5->FixV n0 (x j))
  (hr:∀j,j<5->Rd w K (.sl<|(Zu h j).map vu) (x j)) (a5:∀y∈fs,Rd w K (Xl y.1) y.2/\NoM (Xl y.1)) (d9:fs.map (·.2)=Wx h x 4 0) (hn:I fs<=4000000) (b3:(fs.map (·.1)).foldl Vw.put ⟨[],[],[]⟩=fin) (hs:fin.sm h.E):
  Play Try.prog xk c K (λ_=>Z0T cs (Vh<|fin.gr h.E)<|λb=>K b\/B<=b) ((Wx h x 4 0).map .recv++[.closed zF]) (λb=>b=C\/b=D) (G ((base 36).at a [.inRegion ops4 [],.code<|Ys ofC [1,1,1,1]]) cs) w:=by
 have f0:∀b,K b->b<xz (xj w):=λb H=>Zgl;have l1:=(Zho.1 S).1;have l2:=(Zho.1 T).1;let X:Cx:=Sa Try.prog xP n0 K (λb=>b=C\/b=D);have R:∀ρ,(X.at ρ).P=Try.prog:=λρ=>QY.same.symm;have f2:∀t,xz (xj<|X.cl w t)=n0:=λt=>by simp[Cx.cl,X,Sa]
 have d8:(Wx h x 4 0).map Ev.recv=fs.map λy=>.recv y.2:=by rw[<-d9,Zjt];rfl
 have a8:∀b,(b=C\/b=D)->¬K b:=λb H=>Zgl
 have hw:=Ee X (QY.ok n0 K<|λb=>b=C\/b=D) (c:=c) (es:=(Wx h x 4 0).map .recv++[.closed zF]) (fr:=(base 36).at a [.inRegion ops4 [],.code<|Ys ofC [1,1,1,1]]) (cs:=[]) (ds:=cs) (main:=xk) (wc:=w)
  (λe L=>by
   obtain L|L:=ZhO.1 L;obtain⟨v,hv,rfl⟩:=ZhC.1 L;obtain⟨q,o,hq,rfl⟩:=B1 hv;exact⟨GY (hx q Z0) o,hc⟩;have:e=.closed zF:=Zh6;subst this;exact⟨λρ _=>by simp_all[zF,WK,Zt],hc⟩)
  (λρ=>by
   refine⟨⟨λi p=> ?_,λd a4=> ?_,.inl rfl,.inr<|.inr ⟨_,_,Z7k,Try.func36,rfl⟩⟩,λf hf=>by simp at hf,rfl⟩;have:i=.inRegion ops4 []\/i=.code (Ys ofC [1,1,1,1]):=by simpa[Frame.at]using p
   obtain rfl|rfl:=this;exact Z7v;exact Z9q;rw[show((base 36).at a [.inRegion ops4 [],.code<|Ys ofC [1,1,1,1]]).defers=a.defers from rfl,hd]at a4;simp at a4)
  (λf hf=>by
   have:f=(base 36).at a [.inRegion ops4 [],.code<|Ys ofC [1,1,1,1]]:=by simpa using hf
   subst this;intro ρ hρ;simp only[Zx,Frame.at,R9 e0 ρ hρ,hd];rfl)
  (λb o M hO=>by
   obtain hO|hO:=hO;obtain rfl|rfl:=hO;rw[S]at M;cases M;exact a2 _ _ _ _ S;rw[T]at M;cases M;exact a2 _ _ _ _ T;obtain⟨cs,e,fr,L⟩:=hK b hO;rw[M]at L;cases L;exact a2 _ _ _ _ M)
  (Post:=λwl=>Eu (base 36) (λA b=>K b\/(B<=b/\b<xz (xj A)))<|Vh<|fin.gr h.E)
  (λt=>by
   rw[d8];have b5:∀ {y:V} {v:Ze},Rd w K y v->NoM y->Rd (X.cl w t) K y v:=λ{y v} h1 h2=>by
    clear a5;induction h1 with
    |int k n=>exact .int k n
    |bool b=>exact .bool b
    |str s=>exact .str s
    |nil a cap h=>exact .nil a cap h
    |sl l b o cap k vs q1 q2 H hf a3 _ Z=>
     cases h2 with
     |sl _ W=>exact .sl l b o cap k vs q1 q2 H hf (λi p=>qc (λM=>a8 b M H) (λc e fr _=>H) b4<|a3 i p) λi c p=>Z i c p<|W c<|AQ p
    |agg cs vs q1 q2 _ Z=>
     cases h2 with
     |agg _ W=>exact .agg cs vs q1 q2 λi c p=>Z i c p<|W c<|Zhq p
    |am l vs q1 _ Z=>
     cases h2 with
     |am _ W=>exact .am l vs q1 λi c p=>Z i c p<|W c<|Zhq p
    |ptr cs b o vs H q1 a3 _ Z=>
     cases h2 with
     |ptr _ W=>exact .ptr cs b o vs H q1 (λi p=>qc (λM=>a8 b M H) (λc e fr _=>H) b4<|a3 i p) λi c p=>Z i c p<|W c<|Zhq p
    |fn f=>exact .fn f
    |cq f cs vs q1 _ Z=>
     cases h2 with
     |cq _ _ W=>exact .cq f cs vs q1 λi c p=>Z i c p<|W c<|Zhq p
    |ib=>exact .ib
    |ic=>exact .ic
    |lw=>cases h2
    |mp=>cases h2
   refine LS.gn<|Z7l (G:=K) (B:=B) (Z9m e3 hd t1 t2 t3 (M3 S (.inl rfl) (by show C<n0;omega)) (M3 T (.inr rfl) (by show D<n0;omega)) d0 d5 c1 k1 k2 (λb H=>Zgl) λj hj=>b5 (hr j hj)<|qq _) t4 rfl (λy hy=>b5 (a5 y hy).1 (a5 y hy).2) hn b3 hs)
 have hw:Play Try.prog xk c K _ ((Wx h x 4 0).map .recv++[.closed zF]) (λb=>b=C\/b=D) (G ((base 36).at a [.inRegion ops4 [],.code<|Ys ofC [1,1,1,1]])<|[]++cs) w:=(R id)▸hw;refine hw.mono λO g A ⟨ρ,t,e8,e6,a0,fc,cc,hg,hid,⟨d7,N,b9,e1,a4,v,hv,e4⟩,Y⟩=> ?_;subst hg d7 e1;have u:fc=Zx ρ {(base 36).at N b9 with mode:=.returning}:=Y.be;have b6:cc=cs:=Y.under;subst b6;refine⟨fc,rfl,by rw[u];rfl,by rw[u];rfl,by rw[u];show N.defers.map _=_;grind,by rw[u];rfl,λd=> ?_⟩;have b7:(X.at ρ).WR a0<|A.at d:=Fu Y.wr d;have a6:=IW Try.f36<|N.tmps.map<|Zt ρ;have a7:Yf ((results Try.f36<|N.tmps.map<|Zt ρ).run Try.prog<|A.at d)=A.at d:=a6.world _
 have F:=(Bn (X:=X.at ρ) (V:=[]) Try.f36 N.tmps).run a0 (A.at d) #[] b7 (λr hr=>by simp at hr)
  (λj hj=>by
   rw[R ρ]at hj;have e:(Yf<|(results Try.f36<|N.tmps.map<|Zt (X.at ρ).ρ).run Try.prog<|A.at d).drawn=(A.at d).drawn:=Zit World.drawn a7;omega)
  (λj hj=>by
   rw[R ρ]at hj;have e:xz (xj<|Yf<|(results Try.f36<|N.tmps.map<|Zt (X.at ρ).ρ).run Try.prog<|A.at d)=xz (xj<|A.at d):=Zit (λw=>xz<|xj w) a7;omega)
 have c8:(results Try.f36 N.tmps).run (X.at ρ).Q a0=.ok v a0:=hv;rw[c8,R ρ]at F;obtain⟨b,c0,e7,L,d6,f1⟩:=F;have a1:(results Try.f36<|N.tmps.map<|Zt ρ).run Try.prog (A.at d)=.ok b c0:=by
  have:=Zit Prod.fst L;rw[Zjr]at this;exact this
 have e5:c0=A.at d:=by
  have:=a7;rw[a1]at this;exact this
 subst e5;have a9:b=Zt ρ v:=d6;refine⟨b,by rw[u];exact a1,?_⟩;rw[a9];refine(Z8W (Oz b7 e4 (Ms _).m)<|Ms _).mono λb' b0=> ?_;obtain⟨⟨z,hz,rfl⟩,e2⟩:=b0;refine⟨?_,e2⟩;by_cases b8:z<n0;have e:(X.at ρ).ρ z=z:=hid z b8;grind;obtain hz|hz:=hz;grind;right;have:=Y.new z (Nat.le_of_not_lt b8) hz.2;omega
def ZG(h:Hp)(p:Nat)(o:Ob):Fo:=⟨o,(Y2 (Zv h) ((p:Int)+1) o.Z).1,((Zu h p).drop (o.Z+1).toNat).take o.size.toNat⟩
def Xe(h:Hp):Nat->Nat->List Fo
 |0,_=>[]
 |n+1,p=>(obP h p).map (ZG h p)++Xe h n (p+1)
def TN(h:Hp)(x:Z5):Nat->Nat->List (Fo×Value)
 |0,_=>[]
 |n+1,p=>(obP h p).map (λo=>(ZG h p o,UD h x p o))++TN h x n (p+1)
def B0 h x:∀n p,(TN h x n p).map (·.1)=Xe h n p
 |0,p=>rfl
 |n+1,p=>by simp_all[TN,Xe,Ziv,Zjt,B0]
def Hj h x:∀n p,(TN h x n p).map (·.2)=Wx h x n p
 |0,p=>rfl
 |n+1,p=>by simp_all[TN,Wx,Ziv,Zjt,Hj]
def Hi{h x y}:∀ {n p},y∈TN h x n p->∃q o,q<p+n/\o∈obP h q/\y=(ZG h q o,UD h x q o)
 |0,p,a=>by simp[TN]at a
 |n+1,p,a=>by
  simp[TN,ZhC]at a;obtain⟨o,f,rfl⟩|a:=a;exact⟨p,o,Z0,f,rfl⟩;let⟨q,o,g,d⟩:=Hi a;exact⟨q,o,Z0,d⟩
def Yd(h:Hp):Vw:=(Xe h 4 0).foldl Vw.put ⟨[],[],[]⟩
def JD(h:Hp):V:=if Yv h=xk then Vh ((Yd h).gr h.E)else .am [YB UI,vi 1]
structure OfOk (h:Hp):Prop where
 ob:∀p,p<4->I (obP h p)<=1000000/\∀o∈obP h p,0<=o.Z/\0<=o.size/\o.Z+1+o.size<=I (Zu h p)
 n:I (Xe h 4 0)<=4000000
 sm:(Yd h).sm h.E
def Z90{w K}{l:Z8}{v}(h:Rd w K (.sl<|l.map vu) v){d n}(q:0<I l)(N:d+n<=I l):Rd w K (.sl<|((l.drop d).take n).map vu)<|RG v d n:=by
 generalize g:l.map vu=L at h;have p:I L=I l:=by rw[<-g,ZhN]
 cases h with
 |nil a cap H=>simp_all
 |sl _ b o cap k vs C D r t F u=>
  have M:k=1:=by
   have A:vu (l[0]'q)∈L:=by rw[<-g];exact Zj3 Z1
   have:=(t _ A).1;simpa[vu,V.cells]using this.symm
  unfold RG;dsimp only;have z:I (((l.drop d).take n).map vu)=n:=Zgn;by_cases B:n=0;subst B;simp[List.take_zero,ZiN];exact .nil _ _ Z0;rw[Zhs Z0]
  have:=Rd.sl (w:=w) (G:=K) (((l.drop d).take n).map vu) b (o+d) (cap-d) 1 (λi=>vs<|d+i) Z0 Z0 r Zgl
   Zgl
   (λi c f=>by
    rw[Uh λx j=>by obtain⟨y,_,rfl⟩:=ZhC.1 j;rfl,ZhG,ZhV]at f;split at f;rw[ZhM]at f;exact u _ c (by rw[<-g,Uh λx j=>by obtain⟨y,_,rfl⟩:=ZhC.1 j;rfl,ZhG];exact f);cases f)
  simp_all
def Z6V f:NoM<|Xl f:=.agg _ λc a=>by
 simp[Zkl]at a;obtain rfl|rfl|rfl|rfl|rfl|rfl|rfl:=a;all_goals first|exact .int _ _|exact .bool _|exact qq _
def Z4a{w K h x}(d:OfOk h)(r:∀j,j<5->Rd w K (.sl<|(Zu h j).map vu) (x j)):∀y∈TN h x 4 0,Rd w K (Xl y.1) y.2/\NoM (Xl y.1):=by
 intro y g;obtain⟨q,o,p,f,rfl⟩:=Hi g;refine⟨?_,Z6V _⟩;let⟨k,l,n⟩:=(d.ob q Z0).2 o f;refine .agg _ _ rfl Z1 λi c a=> ?_
 match i,a with
 |0,a=>cases a;exact .int _ _
 |1,a=>cases a;exact .int _ _
 |2,a=>cases a;exact .int _ _
 |3,a=>cases a;exact .bool _
 |4,a=>cases a;exact .int _ _
 |5,a=>cases a;exact .int _ _
 |6,a=>cases a;exact Z90 Zgl Z0 Z0
noncomputable def cB:Ctx:= {P:=Yi Try.prog,ix:=(vf<|Yi Try.prog).ix,own:=λ_=>xw,fresh,sig:=DB,tr:=[3],n:=82}
def G9{P}:∀ {c},TE P c=xk->S8 (Lg.lp<|Yi P) c:=by
 intro c;induction c with
 |region id j d=>exactλh o g=>(Zjq.1 h) o g
 |seq x y a f=>intro h;simp[TE]at h;exact⟨a h.1,f h.2⟩
 |cond c x y a f=>intro h;simp[TE]at h;exact⟨a h.1,f h.2⟩
 |block id x a=>exact a
 |loop x a=>exact a
 |scope x a=>exact a
 |_=>intro h;first|trivial|cases h
def Ji:(Yi Try.prog).follows .mixedOrders=xk:=Z2
def Mz{code S st fl B G Kf s a w w0 T0 N X Rt}(f:TE Try.prog code=xk)(hc:comp (vf<|Yi Try.prog) code S=J (st,fl))(h:RelS Kf [4,23] T0 cB B G w0 82 s a w S)(j:Yw (Yi Try.prog) st s N X Rt):
  Tw Try.prog code (Post Kf [4,23] T0 cB B G w0 82 fl N X Rt) a w:=
 letI:Lg (vf<|Yi Try.prog).P:=besI Try.prog
 Aw (fc:=vf<|Yi Try.prog) Ji (λp k q g d=>D4 Zgm (ZiA _ g) d) rfl rfl rfl (Zhm _) code (G9 f) hc h j
def Z7f:Try.f36.body=J ofC:=Z2
def Z7g:ofC=.seq (Ys ofC [0]) (.seq (Ys ofC [1,0])<|.seq (Ys ofC [1,1,0])<|.seq (Ys ofC [1,1,1,0])<|Ys ofC [1,1,1,1]):=Z2
noncomputable def ops3:Array Oper:=Lo<|Ys ofC [1,1,0]
def Z8L:Ys ofC [1,1,0]=.region 3 ops3 xw:=Z2
def Z8M:Ys ofC [1,1,1,0]=.region 4 ops4 xw:=Z2
def Z7q:∃o,ops3[0]?=J o/\o.guard=U/\o.dst=J 18/\o.op=.makeChan 120 (.const<|.int .i64 0):=⟨_,rfl,rfl,rfl,rfl⟩
def Z7r:∃o,ops3[1]?=J o/\o.guard=U/\o.dst=J 4/\o.op=.assign (.tmp 18):=⟨_,rfl,rfl,rfl,rfl⟩
def Z7s:∃o,ops4[0]?=J o/\o.guard=U/\o.dst=J 19/\o.op=.load 30 (.tmp 1):=⟨_,rfl,rfl,rfl,rfl⟩
def Z7t:∃o,ops4[1]?=J o/\o.guard=U/\o.dst=J 20/\o.op=.move (.tmp 4):=⟨_,rfl,rfl,rfl,rfl⟩
def Z7u:∃o a,ops4[2]?=J o/\o.guard=U/\o.dst=U/\o.op=.go ⟨.value<|.func 54, #[.tmp 19,.tmp 20],a⟩:=⟨_,_,rfl,rfl,rfl,rfl⟩
def ML:ops3.size=2/\ops4.size=3:=⟨rfl,rfl⟩
def Z3p:∃d inf,Try.prog.underlying 120=J (.chan d 125)/\Try.prog.info? 125=J inf:=⟨_,_,rfl,rfl⟩
def Z2F{B w w'}(h:Below B w w')d:Below B w<|w'.at d:=⟨h.os,h.tape,h.output,h.size,h.block⟩
def Z4j{b:Zg}{k:Zn}{cs:Z7}{a:Act}{g:Ze}{c:Nat}(l:b.kind≠.early)(d:a.tmps[19]?=J g)(f:a.tmps[20]?=J (.chan<|J c))(w:Z3):
  stepG Try.prog xk (G (b.at a<|.inRegion ops4 [2]::k) cs) w=.spawn (G (b.at a<|.inRegion ops4 []::k) cs) (born Try.prog {target:=.fn (.func 54) #[],args:=#[g,.chan<|J c]}) w #[]:=by
 obtain⟨o,j,n,p,q,r⟩:=Z7u;have t:=Act.aj a 19 _ d;have u:=Act.aj a 20 _ f;have h:execOp a.eval o=(pure (.spawn {target:=.fn (.func 54) #[],args:=#[g,.chan<|J c]}):Sem Next):=by
  unfold execOp;simp only[r];simp[resolve,Deferred.ofValue,Act.eval,d,f]
 have:=stepG_spawn (P:=Try.prog) (main:=xk) (b:=b) (a:=a) (k:=k) (cs:=cs) (w:=w) (i:=2) (rest:=[]) n (by simp[Region.wanted,p]) l (by rw[h];rfl) rfl;rw[q]at this;rw[this];unfold listed;rw[h];rfl
def Z7j{h B G s a w w0 T0}(S:RelS G [4,23] T0 cB B G w0 82 s a w Ow)(q1:get s 1=.m [vu h.base,vi h.cap,vi h.to,.bool h.Y,vi h.aa,.sl<|h.H.map vu,.sl<|h.ab.map vu,.sl<|h.ah.map vu,.sl<|h.al.map vu,.sl<|h.E.map vu])(q3:get s 3=.v (vi 0)):
  ∃(F:Z4) (k l:Nat) (r t:Zf) (x:Z5),(∀b,F b->G b\/B<=b)/\¬F k/\¬F l/\B<=k/\B<=l/\k≠l/\B<=xz (xj w)/\a.tmps[1]?=J (.pointer<|J ⟨k,0,U⟩)/\a.tmps[2]?=J (.pointer<|J ⟨l,0,U⟩)/\a.tmps[3]?=J (.int .i64 0)/\
   w.heap[k]?=J (.cells #[.int .u64 h.base,.int .i64 h.cap,.int .i64 h.to,.bool h.Y,.int .i64 h.aa,x 0,x 1,x 2,x 3,x 4] r (0,0))/\w.heap[l]?=J (.cells #[.slice U 0 0,.slice U 0 0] t (0,0))/\
   (∀j,j<5->Rd w F (.sl<|(Zu h j).map vu) (x j)):=by
 let⟨⟨L,k1,k2⟩,k3,k4,k5,k6⟩:=S;have X:cB.ix 1=1:=Zgo;have Y:cB.ix 3=3:=Zgo;obtain⟨u1,t1,k,d,r,P,rfl,f3,H⟩:=k1.Z 1 (by rw[YA];exact VX _) Zhb;obtain⟨u2,t2,l,f,t,g1,rfl,g3,K⟩:=k1.Z 2 (by rw[YA];exact VX _) Zhb;let⟨u3,t3,u⟩:=k1.Z 3 (by rw[YA];exact VX _) Zhb;obtain⟨y3,o,A⟩:∃y,eval s _=J y/\Rd w _ y u3:=u;rw[Y]at o;simp[eval,q3,Zhh]at o;subst o;have M:=Sx A;subst M;have T:d.size=10:=H.1;have W:f.size=2:=K.1;have g:∀i y,[vu h.base,vi h.cap,vi h.to,.bool h.Y,vi h.aa,.sl<|h.H.map vu,.sl<|h.ab.map vu,.sl<|h.ah.map vu,.sl<|h.al.map vu,.sl<|h.E.map vu][i]?=J y->Rd w L.F y _:=λi y n=>by
  have p:i<10:=(Zhj.1 n).1
  have:=H.2 i (.fz,.m (cB.ix 1) i) (by
   match i,p with
   |0,_=>rfl
   |1,_=>rfl
   |2,_=>rfl
   |3,_=>rfl
   |4,_=>rfl
   |5,_=>rfl
   |6,_=>rfl
   |7,_=>rfl
   |8,_=>rfl
   |9,_=>rfl
   |i+10,h=>omega)
  let⟨z,D,z2,z3⟩:=this;rw[X]at D;simp[eval,q1,n,Zhu]at D;obtain⟨rfl,_⟩:=Ss D;exact z3
 have R:∀i,i<2->f.getD i xy=.slice U 0 0:=λi n=>by
  have:=K.2 i (.nil,.m (cB.ix 2) i) (by
   grind)
  exact this.1
 have N:d=#[.int .u64 h.base,.int .i64 h.cap,.int .i64 h.to,.bool h.Y,.int .i64 h.aa,d.getD 5 xy,d.getD 6 xy,d.getD 7 xy,d.getD 8 xy,d.getD 9 xy]:=by
  refine ZjR Z0 λi q C=> ?_;have n:i<10:=by simpa using C
  have e:d[i]=d.getD i xy:=by simp[Array.getD,q]
  rw[e]
  match i,n with
  |0,_=>exact Sx<|g 0 _ rfl
  |1,_=>exact Sx<|g 1 _ rfl
  |2,_=>exact Sx<|g 2 _ rfl
  |3,_=>exact Oy<|g 3 _ rfl
  |4,_=>exact Sx<|g 4 _ rfl
  |5,_=>rfl
  |6,_=>rfl
  |7,_=>rfl
  |8,_=>rfl
  |9,_=>rfl
  |i+10,h=>omega
 have O:f=#[.slice U 0 0,.slice U 0 0]:=by
  refine ZjR Z0 λi q C=> ?_;have n:i<2:=by simpa using C
  have e:f[i]=f.getD i xy:=by simp[Array.getD,q]
  rw[e,R i n]
  match i,n with
  |0,_=>rfl
  |1,_=>rfl
  |i+2,h=>omega
 let⟨Z,m2,m3⟩:=k1.ok.an 1 0 k P;let⟨n1,n2,n3⟩:=k1.ok.an 2 0 l g1;refine⟨L.F,k,l,r,t,λj=>d.getD (5+j) xy,k1.ok.cr,m3,n3,Z,n1,λe=> ?_,Z0,t1,t2,t3,Zgl,Zgl,λj Q=> ?_⟩;grind
 match j,Q with
 |0,_=>exact g 5 _ rfl
 |1,_=>exact g 6 _ rfl
 |2,_=>exact g 7 _ rfl
 |3,_=>exact g 8 _ rfl
 |4,_=>exact g 9 _ rfl
 |j+5,h=>omega
def EJ{h:Hp}(hh:h.ok)(hk:Yv h=xk->OfOk h):VC (Yi Try.prog) 36 xw [ZE h]<|JD h:=by
 refine⟨Z2,λw G vs hG h3 g8 q C hK=> ?_⟩;have Y:VC (Yi Try.prog) 13 xw [ZE h]<|.bool<|Yv h:=IL QY (QU hh) (λy hy=>by rw[Zim.1 hy];exact Tk h)<|.bool _;have d9:vs.size=1:=h3;have h5:Rd w G (ZE h)<|vs.getD 0 xy:=g8 0 _ rfl;have Z:Frame.enter Try.prog 36 vs .normal=(base 36).at {tmps:=vs++Array.replicate (82-vs.size) xy,defers:=[]} [.code ofC]:=by
  rw[enter_at vs Try.func36 Z7f,Try.ntmps36]
 show Walk Try.prog C (Frame.enter Try.prog 36 vs .normal) q w;rw[Z,Z7g];clear Z;have i0:cB.ix 0=0:=Zgo;generalize a4:({tmps:=vs++Array.replicate (82-vs.size) xy,defers:=[]}:Act)=a0;have t0:a0.tmps[0]?=J (vs.getD 0 xy):=by
  rw[<-a4];simp only;rw[Zjm Z0];simp[Zhn,d9]
 have g7:RelS G [4,23] a0.tmps cB (xz<|xj w) G w 82 [.v<|ZE h] a0 w ja:=by
  refine⟨⟨{F:=G,bl:=λ_ _=>U,K:=G},⟨⟨Zhm _,hG,λb a=>.inl a,λb a=>a,λt i b a=>(by cases a),λt i u j b a=>(by cases a),hG,λt i b a=>(by cases a),λb a=>.inl a⟩,λt _ hk=> ?_,λt hh=> ?_⟩,rfl⟩,λp B=> ?_,.refl _ _,by rw[<-a4];simp[d9],by rw[<-a4]⟩;rw[YA]at hk⊢;by_cases e:t=0;subst e;exact⟨_,t0,ZE h,by rw[i0];rfl,h5.mono λb a=>.inl a⟩;simp[ja,SS.at,Zj5 e,TK.bj]at hk;refine absurd ?_ hh;rw[YA];split<;>exact VX _;simp only[ja,SS.at]at B;split at B<;>cases B
 refine .cy (Mz Z2 r0c g7 (N:=λs'=>get s' 1=.m [vu h.base,vi h.cap,vi h.to,.bool h.Y,vi h.aa,.sl<|h.H.map vu,.sl<|h.ab.map vu,.sl<|h.ah.map vu,.sl<|h.al.map vu,.sl<|h.E.map vu]/\get s' 2=.m [.sl [],.sl []]/\get s' 3=.v (vi 0)) (X:=λ_ _=>False) (Rt:=λ_=>False) (by simp[r0]) (base 36) _ q C (by simp[base]) λe a1 w1 B=> ?_);cases e with
 |exit id=>obtain⟨_,_,_,h,_⟩:=B;exact h.elim
 |ret=>obtain⟨_,_,_,h,_⟩:=B;exact h.elim
 |normal=>
  obtain⟨s1,S1,f8,⟨q1,q2,q3⟩,d7⟩:=B;cases f8;have b6:Below (xz<|xj w) w w1:=d7.2.2.1.below;refine .cy (Mz Z2 rXc d7.base (N:=λs'=>Yv h=xk/\get s' 1=get s1 1/\get s' 3=get s1 3) (X:=λ_ _=>False) (Rt:=λs'=>Yv h=xw/\Ws s' [(2,.ag 2),(3,.v)]=J (.am [YB UI,vi 1])) ?_ (base 36) _ q C (by simp[base]) λe a2 w2 B=> ?_);simp[rX,q1];refine Zz Y Z1 ?_;cases i6:Yv h;simp[X1,Ws,U6,Tq,UI,YB];simp[X1,q1];cases e with
  |exit id=>obtain⟨_,_,_,h,_⟩:=B;exact h.elim
  |ret=>
   obtain⟨s2,S2,L,⟨e1,e2⟩,l⟩:=B;have L:S2=Db:=Zh6;subst L;have a6:Below (xz<|xj w) w w2:=b6.trans l.2.2.1.below;intro i3;refine hK _ w2 rfl ⟨rfl,l.2.2.2.2,rfl,_,Try.func36,λd=> ?_⟩;obtain⟨⟨h2,k1,k2⟩,k3,k4,k5,k6⟩:=l.me d
   obtain⟨v,hv,a9⟩:=LQ (c:=cB) (f:=Try.f36) (D:=λb=>(xw=xw/\G b)\/(xz (xj w)<=b/\b< xz (xj<|w2.at d))) k1 k3 (λb a=>by
    obtain R|R:=k1.ok.cr b a;exact .inl ⟨rfl,R⟩;exact .inr ⟨R,k1.ok.bn b a⟩) (λr hr=>⟨Zhw.1 (Z2:(Try.f36.results.toList.all<|Rn (Yi Try.prog) Db)=xk) r hr,λi b a=>.inr ⟨(k1.ok.an _ _ b a).1,(k1.ok.an _ _ b a).2.1⟩⟩) (x:=.am [YB UI,vi 1]) (by rw[<-e2];exact Zit (Ws s2) Z2)
   refine⟨v,hv,v,rfl,Z2F a6 d,?_⟩;unfold JD;rw[Zhs (by rw[e1];simp)];exact a9
  |normal=>
   obtain⟨s2,S2,L,⟨e1,e2,e3⟩,l⟩:=B;cases L;have a6:Below (xz<|xj w) w w2:=b6.trans l.2.2.1.below;have W:=hk e1;obtain⟨F,Q,b2,T1,T2,x,hF,h6,h7,f6,f7,f5,i4,t1,t2,t3,e4,e5,g9⟩:=Z7j (h:=h) l (e2.trans q1)<|e3.trans q3;have e0:a2.tmps.size=82:=l.2.2.2.1;have g3:a2.defers=[]:=l.2.2.2.2;have l1:=(Zho.1 e4).1;have l2:=(Zho.1 e5).1;obtain⟨o,o1,o2,o3,o4⟩:=Z7q;obtain⟨o',p1,p2,p3,p4⟩:=Z7r;obtain⟨dir,inf,h4,c8⟩:=Z3p;refine .cy ?_;rw[Z8L];refine .region ?_;rw[ML.1,show List.range 2=[0,1]from rfl];refine Walk.chan (i:=0) o1 (by simp[Region.wanted,o2]) (by simp[base]) o4 h4 c8 ?_;rw[o3];generalize hc:xz (xj w2)=c;obtain⟨w3,M⟩:∃w3,w3=w2.alloc (.chan 0 #[] xw 0 0 xw):=⟨_,rfl⟩;rw[<-M];have b4:((a2.put (J 18)<|.chan<|J c).eval<|.tmp 18)=.chan (J c):=Act.aj _ 18 _<|Q0 Z0;refine Walk.val (i:=1) (v:=.chan<|J c) p1 (by simp[Region.wanted,p2]) (by simp[base]) (by rw[p4];rfl) (λw' _=>by unfold execOp;simp only[p4,b4];rfl)<|.gn ?_;rw[p3];have z3:xz (xj w3)=c+1:=by rw[M,<-hc];simp
   have b7:w3.heap[c]?=J (.chan 0 #[] xw 0 0 xw):=by rw[M,<-hc];exact ZhT ..
   have S:∀b,b<c->w3.heap[b]?=w2.heap[b]? :=λb a=>by rw[M];exact Zhz _ _ _ Z0
   have A:Below (xz<|xj w) w w3:=by rw[M];exact a6.alloc Z0 _
   have m1:w3.heap[Q]?=_:=(S Q Z0).trans e4;have m2:w3.heap[b2]?=_:=(S b2 Z0).trans e5;obtain⟨o0,e7,e8,e9,b0⟩:=Z7s;obtain⟨o9,f0,f1,f2,b3⟩:=Z7t;refine .cy ?_;rw[Z8M];refine .region ?_;rw[ML.2,show List.range 3=[0,1,2]from rfl];generalize z:(a2.put (J 18)<|.chan<|J c).put (J 4) (.chan<|J c)=a3;have g1:a3.tmps[1]?=J (.pointer<|J ⟨Q,0,U⟩):=by rw[<-z,WN Z0,WN Z0];exact t1
   have g4:a3.tmps[4]?=J (.chan<|J c):=by rw[<-z];exact Q0 (by rw[R0];omega)
   have gs:a3.tmps.size=82:=by rw[<-z,R0,R0];exact e0
   have f3:a3.eval (.tmp 1)=.pointer (J ⟨Q,0,U⟩):=Act.aj _ 1 _ g1;refine Walk.val (i:=0) (v:=ZC h x) e7 (by simp[Region.wanted,e8]) (by simp[base]) (by rw[b0];rfl) (λw' he=> ?_) ?_
   have hl:=jr (P:=Try.prog) (w:=w') (T:=30) Z2 Z2 (b:=Q) (o:=0) [.int .u64 h.base,.int .i64 h.cap,.int .i64 h.to,.bool h.Y,.int .i64 h.aa,x 0,x 1,x 2,x 3,x 4] Z2 (λi u hi=>by
    rw[Zi5,Zhv w' Q i _ T1 (0,0) (by rw[he];exact m1)];simpa using hi)
   unfold execOp;simp only[b0,f3];rw[Zi4,hl];rfl;rw[e9];have f4:(a3.put (J 19)<|ZC h x).eval (.tmp 4)=.chan (J c):=Act.aj _ 4 _ (by rw[WN Z0];exact g4);refine Walk.val (i:=1) (v:=.chan<|J c) f0 (by simp[Region.wanted,f1]) (by simp[base]) (by rw[b3];rfl) (λw' _=>by unfold execOp;simp only[b3,f4];rfl) ?_;rw[f2];generalize k:(a3.put (J 19)<|ZC h x).put (J 20) (.chan<|J c)=O;have u1:O.tmps[1]?=J (.pointer<|J ⟨Q,0,U⟩):=by rw[<-k,WN Z0,WN Z0];exact g1
   have u4:O.tmps[4]?=J (.chan<|J c):=by rw[<-k,WN Z0,WN Z0];exact g4
   have us:O.tmps.size=82:=by rw[<-k,R0,R0];exact gs
   have u2:O.tmps[2]?=J (.pointer<|J ⟨b2,0,U⟩):=by rw[<-k,WN Z0,WN Z0,<-z,WN Z0,WN Z0];exact t2
   have u3:O.tmps[3]?=J (.int .i64 0):=by rw[<-k,WN Z0,WN Z0,<-z,WN Z0,WN Z0];exact t3
   have i1:O.tmps[19]?=J (ZC h x):=by rw[<-k,WN Z0];exact Q0 Z0
   have i2:O.tmps[20]?=J (.chan<|J c):=by rw[<-k];exact Q0 (by rw[R0];omega)
   have ud:O.defers=[]:=by rw[<-k,<-z];exact g3
   let K:Nat->Prop:=λb=>F b/\∃q e H,w3.heap[b]?=J (.cells q e H);have a7:∀j,j<5->Rd w3 K (.sl<|(Zu h j).map vu) (x j):=λj hj=>by
    have R:=Z8Z (g9 j hj)<|Mv _;refine R.keep (λb a=>S b ?_) λb a=>⟨a.1,?_⟩;obtain⟨_,q,e,H,a⟩:=a;have:=(Zho.1 a).1;omega;obtain⟨_,q,e,H,a⟩:=a;exact⟨q,e,H,by rw[S b (by have:=(Zho.1 a).1;omega)];exact a⟩
   obtain⟨n0,d5,c1,c0⟩:=GZ w3<|O.tmps++ #[x 0,x 1,x 2,x 3,x 4];have hx:∀j,j<5->FixV n0 (x j):=λj hj=>by
    refine c1 _<|ZiT.2<|.inr ?_
    match j,hj with
    |0,_=>simp
    |1,_=>simp
    |2,_=>simp
    |3,_=>simp
    |4,_=>simp
    |j+5,h=>omega
   have b8:c<n0:=Z0;have h8:¬K Q:=λh=>h6 h.1;have h9:¬K b2:=λh=>h7 h.1;have b5:∀b,K b->b<xz (xj w3):=λb ⟨_,_,_,_,a⟩=>(Zho.1 a).1;have e6:¬K c:=λ⟨_,_,_,_,a⟩=>by rw[b7]at a;cases a
   refine Walk.uk (KA:=K) (KB:=K) (OA0:=λb=>b=Q\/b=b2) (c:=c) (λw=>Z4j (by simp[base]) i1 i2 w)
    (Z6o (fs:=TN h x 4 0) (fin:=Yd h) hh us ud u1 u2 u3 u4 m1 m2 Z0 f6 f7 f5 h8 h9 d5 b8 (λb a=>a.2) (λb q e H a=>c0 b q e H a) (λv hv=>c1 v<|ZiT.2<|.inl hv) hx a7 (Z4a W a7) (Hj h x 4 0) (by
     have:=W.n;rw[<-B0 h x 4 0,ZhN]at this;exact this) (by rw[B0];rfl) W.sm)
    (Z3q hh d5 b8 (λb a=>a.2) (λb o ho a=>by
     obtain⟨_,q,e,H,he⟩:=a;rw[ho]at he;cases he;exact c0 b q e H ho) hx a7 W.ob) b7 (λb a=>by obtain rfl|rfl:=a<;>omega) b5 b5 (λb a=>by obtain rfl|rfl:=a<;>assumption) (λa=>by obtain a|a:=a<;>omega) e6 e6 ?_
   rintro OA g w' ⟨H,rfl,b9,hm,hd,g6,d8⟩ h0 a8 d6 i5 g5;refine⟨H,q,rfl,hK H w' b9 ⟨hm,hd,g6,_,by rw[b9];exact Try.func36,λd=> ?_⟩⟩;obtain⟨v,hv,a9⟩:=d8 d;refine⟨v,hv,v,rfl,⟨(Zit Prod.fst d6).trans A.os,a8.trans A.tape,(Zit Prod.snd d6).trans A.output,ZhU A.size h0,λb a=>(g5 b (by have:=A.size;omega) (λf9=>by obtain rfl|rfl:=f9<;>omega) Z0).trans<|A.block b a⟩,?_⟩;unfold JD;rw[Zht e1];refine a9.mono λb a=> ?_;obtain⟨a,d0⟩:=a;obtain a|a:=a;obtain R|R:=hF b a.1;exact .inl ⟨rfl,R⟩;exact .inr ⟨R,d0⟩;exact .inr ⟨a,d0⟩
  |_=>exact B.elim
 |_=>exact B.elim
#print axioms EJ
end Vm
end
section
namespace Vm
open Go Go.Proofs
section
section
variable {h:Hp}{p:Pts}
def VI(h:Hp){q:Nat}(a:q<4):Zw h ((q:Int)+1)=Zu h q:=by
 have:q=0\/q=1\/q=2\/q=3:=Z0;obtain rfl|rfl|rfl|rfl:=this<;>rfl
def Rt.cd(r:Rt h p){q:Nat}(a:q<4):obP h q=p.at ((q:Int)+1):=by
 unfold Vm.obP;rw[r.ul Z0]
def Ta{f:Fo}:∀ {n q:Nat},f∈Xe h n q->∃k o,q<=k/\k<q+n/\o∈obP h k/\f=ZG h k o
 |0,q,a=>by simp[Xe]at a
 |n+1,q,a=>by
  simp only[Xe,ZhO,ZhC]at a;obtain⟨o,g,rfl⟩|a:=a;exact⟨q,o,Z0,Z0,g,rfl⟩;obtain⟨k,o,j,l,d⟩:=Ta a;exact⟨k,o,Z0,Z0,d⟩
def qe{k:Nat}{o:Ob}(a:o∈obP h k):∀ {n q:Nat},q<=k->k<q+n->ZG h k o∈Xe h n q
 |0,q,d,f=>Z0
 |n+1,q,d,f=>by
  simp only[Xe,ZhO,ZhC];by_cases e:k=q;subst e;exact .inl ⟨o,a,rfl⟩;exact .inr<|qe a Z0 Z0
def Z8H(s:Vw)(f:Fo):(s.put f).ns=s.ns++if f.ob.gone then []else [f]:=by
 unfold Vw.put;split<;>simp
def Hd:∀(l:List Fo) (s:Vw),(l.foldl Vw.put s).ns=s.ns++l.filter λf=> !f.ob.gone
 | [],s=>Z1
 |f::l,s=>by
  rw[Zjj,Hd l,Z8H];cases a:f.ob.gone<;>simp[a]
def jQ(h:Hp):(Yd h).ns=(Xe h 4 0).filter λf=> !f.ob.gone:=by
 unfold Yd;rw[Hd];rfl
def Lk(r:Rt h p){q:Nat}(a:q<4):I (obP h q)<=I (Zu h q):=by
 have t:=r.ak ((q:Int)+1) Z0;have:=t.sum<|Zis _;rw[VI h a,<-r.cd a]at this;have d:I (obP h q)<=WV (obP h q):=by
  generalize obP h q=l;induction l with
  |nil=>simp
  |cons o l f=>simp only[WV,ZhR,Zla,ZiD]at f⊢;omega
 omega
def Rt.ls(r:Rt h p){q:Nat}(l:q<4):I (Zu h q)<=4096:=by
 obtain⟨a,d,_,_,_,⟨_,_,f,g⟩,⟨_,_,j,k⟩⟩:=XO.1 r.bd;simp only[Zv]at*;have:q=0\/q=1\/q=2\/q=3:=Z0;obtain rfl|rfl|rfl|rfl:=this;show I h.H<=4096;omega;show I h.ab<=4096;omega;show I h.ah<=4096;omega;show I h.al<=4096;omega
def Rt.oe(r:Rt h p){q:Nat}(f:q<4){o:Ob}(d:o∈obP h q):∃a n m:Nat,o.Z=a/\o.size=n/\o.M=m/\a+(n+1)<=I (Zu h q)/\n<=255/\m<=n:=by
 rw[r.cd f]at d;have:=r.toTld.ob Z0 d;rwa[VI h f]at this
def lsW(a:h.ok){q:Nat}(d:q<4):∀w∈Zu h q,ZB w:=by
 have:q=0\/q=1\/q=2\/q=3:=Z0;obtain rfl|rfl|rfl|rfl:=this;exact a.gm;exact a.gx;exact a.ma;exact a.ln
def Qf(r:Rt h p){q:Nat}(f:q<4){o:Ob}(d:o∈obP h q):(ZG h q o).sl.length=o.size.toNat:=by
 obtain⟨a,n,m,g,j,k,l,_⟩:=r.oe f d;simp only[ZG,Zil,Zj8];omega
def Rt.um(r:Rt h p)(x:h.ok):OfOk h:=by
 have F:I (Xe h 4 0)<=16384:=by
  have A:=Lk r (q:=0) Z0;have j:=Lk r (q:=1) Z0;have l:=Lk r (q:=2) Z0;have t:=Lk r (q:=3) Z0;have G:=r.ls (q:=0) Z0;have k1:=r.ls (q:=1) Z0;have H:=r.ls (q:=2) Z0;have K:=r.ls (q:=3) Z0;simp only[Xe,Zi3,ZhN,Ziu,Zi5,Nat.reduceAdd];omega
 refine⟨λq g=>⟨by have:=Lk r g;have:=r.ls g;omega,λo d=> ?_⟩,Z0,⟨?_,λf u=> ?_,by have:=r.fu;omega,x.dj⟩⟩;obtain⟨a,n,m,j,l,t,y,_⟩:=r.oe g d;omega;rw[jQ];have:=Zkw (λf:Fo=> !f.ob.gone)<|Xe h 4 0;omega;rw[jQ]at u;obtain⟨k,o,_,D,d,rfl⟩:=Ta (ZjE.1 u).1;obtain⟨a,n,m,j,l,t,y,B,C⟩:=r.oe Z0 d;have e:=Qf r Z0 d;refine⟨by show 0<=o.M;omega,by show o.M<=_;rw[e];omega,by rw[e];omega,λw z=>lsW x (q:=k) Z0 w ?_⟩;exact ZjC<|Zio z
def ofOk(a:h.ok)(d:Yv h=xk):OfOk h:=by
 obtain⟨p,r⟩:=JR.1 d;exact r.um a
end
def Z19{h:Hp}(a:h.ok):VC (Yi Try.prog) 36 xw [ZE h]<|JD h:=EJ a<|ofOk a
end
section
structure VwI (d:List Fo) (s:Vw):Prop where
 ns:s.ns=d.filter λf=> !f.ob.gone
 n1:∀a j,Y3 s.nm a=J j->∃i:Nat,j=i/\∃f,s.ns[i]?=J f/\f.ad=a
 n2:∀f∈s.ns,(Y3 s.nm f.ad).isSome=xk
 t1:∀a t,Y3 s.tm a=J t->∃f∈d,f.ob.gone=xk/\f.ad=a/\f.ob.target=t
 t2:∀f∈d,f.ob.gone=xk->(Y3 s.tm f.ad).isSome=xk
def yT{α l k j}{x:α}(h:k=j\/(Y3 l j).isSome=xk):(Y3 (XW l k x) j).isSome=xk:=by
 rw[Jk];split;rfl;rename_i a;obtain h|h:=h;exact absurd h a;exact h
theorem VwI.put{d s f}(i:VwI d s):VwI (d++[f])<|s.put f:=by
 cases l:f.ob.gone;have e:s.put f= {s with ns:=s.ns++[f],nm:=XW s.nm f.ad (I s.ns)}:=by simp[Vw.put,l]
 rw[e];refine⟨by simp[i.ns,l],λa j o=> ?_,λx h=> ?_,λa t n=> ?_,λx h k=> ?_⟩;simp only[Jk]at o;split at o;rename_i r;exact⟨I s.ns,by simpa using o.symm,f,Z1,r⟩;have⟨m,w,g,u,y⟩:=i.n1 a j o;exact⟨m,w,g,by simp only[ZhQ (Zhj.1 u).1,u],y⟩;obtain h|h:=ZhO.1 h;exact yT<|.inr<|i.n2 x h;rw[Zim.1 h];exact yT<|.inl rfl;have⟨g,p,q⟩:=i.t1 a t n;exact⟨g,by simp[p],q⟩;obtain h|h:=ZhO.1 h;exact i.t2 x h k;rw[Zim.1 h,l]at k;exact absurd k Z1;have e:s.put f= {s with tm:=XW s.tm f.ad f.ob.target}:=by simp[Vw.put,l]
 rw[e];refine⟨by simp[i.ns,l],i.n1,i.n2,λa t n=> ?_,λx h k=> ?_⟩;simp only[Jk]at n;split at n;rename_i r;exact⟨f,Z1,l,r,by simpa using n⟩;have⟨g,p,q⟩:=i.t1 a t n;exact⟨g,by simp[p],q⟩;obtain h|h:=ZhO.1 h;exact yT<|.inr<|i.t2 x h k;rw[Zim.1 h];exact yT<|.inl rfl
def VwI.so:∀ {l d} {s:Vw},VwI d s->VwI (d++l) (l.foldl Vw.put s)
 | [],d,s,i=>by simpa using i
 |f::l,d,s,i=>by
  have:=VwI.so (l:=l)<|i.put (f:=f);rwa[Zi7]at this
def SO h:VwI (Xe h 4 0)<|Yd h:=by
 have:VwI [] ⟨[],[],[]⟩:=⟨rfl,by simp[Y3],Z1,by simp[Y3],Z1⟩;exact this.so (l:=Xe h 4 0)
section
variable {h:Hp}{p:Pts}
def Rb(r:Rt h p){q}(d:q<4){o}(f:o∈obP h q):(ZG h q o).ad=fstL (Zv h) (q+1)+o.Z:=by
 have⟨a,n,m,g,j,k,l,_⟩:=r.oe d f;show(Y2 (Zv h) (q+1) o.Z).1=_;rw[SY r.bd Z0 (by rw[Tt Z0,VI h d];omega)]
def KQ(r:Rt h p){f g}(u:f∈Xe h 4 0)(w:g∈Xe h 4 0)(e:f.ad=g.ad):f=g:=by
 obtain⟨k,o,_,z,l,rfl⟩:=Ta u;obtain⟨j,q,_,y,n,rfl⟩:=Ta w;rw[Rb r Z0 l,Rb r Z0 n]at e;have a:=l;have d:=n;rw[r.cd Z0]at a d;have⟨x,t⟩:=r.toTld.inj Z0 Z0 a d (by unfold ZP;omega);have:k=j:=Z0;subst this;rw[t]
def WG{f}:f∈(Yd h).ns↔f∈Xe h 4 0/\f.ob.gone=xw:=by
 rw[(SO h).ns];simp
def Rt.lf(r:Rt h p){f}(d:f∈Xe h 4 0)(n:f.ob.gone=xw):∃i:Nat,Y3 (Yd h).nm f.ad=J (i:Int)/\(Yd h).ns[i]?=J f:=by
 have⟨j,k⟩:=Ziq.1<|(SO h).n2 f<|WG.2 ⟨d,n⟩;obtain⟨i,rfl,g,a,l⟩:=(SO h).n1 _ _ k;have:=KQ r (WG.1<|Zhq a).1 d l;subst this;exact⟨i,k,a⟩
def Rt.rm(r:Rt h p){f}(a:f∈Xe h 4 0)(d:f.ob.gone=xw){w}(q:w≠0)(n:(adr w).1=f.ad):∃i:Nat,(Yd h).cz w=i/\(Yd h).ns[i]?=J f:=by
 have⟨i,k,l⟩:=r.lf a d;refine⟨i,?_,l⟩;have:Y3 (Yd h).tm f.ad=U:=by
  cases o:Y3 (Yd h).tm f.ad with
  |none=>rfl
  |some t=>
   have⟨g,k1,j,u,_⟩:=(SO h).t1 _ _ o;rw[KQ r k1 a u,d]at j;exact absurd j Z1
 unfold Vw.cz;rw[Zhs q,n,this,Zlc,k,ZhP]
def Rt.rj(r:Rt h p){f g}(a:f∈Xe h 4 0)(o:f.ob.gone=xk)(gf:g∈Xe h 4 0)(j:g.ob.gone=xw)(q:f.ob.target=g.ad){w}(u:w≠0)(n:(adr w).1=f.ad):∃i:Nat,(Yd h).cz w=i/\(Yd h).ns[i]?=J g:=by
 have⟨i,k,l⟩:=r.lf gf j;refine⟨i,?_,l⟩;have⟨t,e⟩:=Ziq.1<|(SO h).t2 f a o;have⟨x,k1,z,y,d⟩:=(SO h).t1 _ _ e;rw[KQ r k1 a y,q]at d;unfold Vw.cz;rw[Zhs u,n,e,ZhP,<-d,k,ZhP]
def Rt.ce(r:Rt h p){q}(g:q<2){o}(a:o∈obP h q):o.gone=xw:=by
 rw[r.cd Z0]at a;have⟨w,_,d⟩:=((r.ak (q+1) Z0).ba o a).1.word;cases f:o.gone;rfl;rw[f,Zht rfl]at d;have:=d.1;simp at this;omega
def Rt.kz(r:Rt h p){w i j}(t:1<=i/\i<=4)(u:1<=j/\j<=4)(n:Gos h p w i j)(g:w≠0):∃(q:Nat) (o:Ob),q<4/\((q+1=i)\/(q+1=j))/\o∈obP h q/\w=2*(ZG h q o).ad+1/\(adr w).1=(ZG h q o).ad:=by
 obtain rfl|⟨k,o,l,f,rfl⟩:=n;exact absurd rfl g;obtain⟨q,rfl,d⟩:∃q:Nat,k=q+1/\q<4:=⟨(k-1).toNat,Z0,Z0⟩;have a:o∈obP h q:=by rw[r.cd d];exact f
 refine⟨q,o,d,l,a,?_,?_⟩;rw[Rb r d a];rfl;rw[r.toTld.kw Z0 f,Rb r d a]
def Rt.se(r:Rt h p){w i j}(B:1<=i/\i<=4)(C:1<=j/\j<=4)(H:Gos h p w i j)(k:w≠0):∃(n:Nat),(Yd h).cz w=n/\n< (Yd h).ns.length:=by
 have⟨q,o,F,L,x,_,y⟩:=r.kz B C H k;have z:ZG h q o∈Xe h 4 0:=qe x Z0 Z0;cases d:o.gone;have⟨n,l,u⟩:=r.rm z d k y;exact⟨n,l,(Zhj.1 u).1⟩;have K:2<=q:=by
  by_cases D:q<2;rw[r.ce D x]at d;exact absurd d Z1;omega
 have f:=x;rw[r.cd F]at f;have⟨t,G,A,_⟩:=r.gone (q+1) Z0 o f d;have a:t∈obP h 0:=by rw[r.cd Z0];exact G
 have⟨n,l,u⟩:=r.rj z d (g:=ZG h 0 t) (qe a Z0 Z0) (r.ce Z0 a) (by rw[Rb r Z0 a];exact A) k y;exact⟨n,l,(Zhj.1 u).1⟩
def Rt.rk(r:Rt h p){w i j}(f:1<=i/\i<=4)(g:1<=j/\j<=4)(k:Gos h p w i j):Tf (Yd h).ns.length ((Yd h).cz w)=xk:=by
 by_cases a:w=0;subst a;simp[Vw.cz,Tf];omega;have⟨n,d,l⟩:=r.se f g k a;rw[d];simp[Tf];omega
def qW{k i w}(d:Wi h p k i w):∃a b,(1<=a/\a<=4)/\(1<=b/\b<=4)/\Gos h p w a b:=by
 unfold Wi at d;split at d;exact⟨3,4,Z0,Z0,d⟩;split at d;obtain d|d:=d;exact⟨1,2,Z0,Z0,d⟩;exact⟨3,4,Z0,Z0,d⟩;exact⟨1,2,Z0,Z0,d⟩
def Rt.mg(r:Rt h p){d}(H:I d<=16)(K:∀w∈d,Gos h p w 1 2):Vm.right ((Yd h).gr d)=xk:=by
 simp only[Vm.right,Zhl,Zhw,ZhS,Vw.gr,ZhN,ZhC];refine⟨⟨H,?_⟩,?_⟩;rintro _ ⟨f,C,rfl⟩;have⟨u,D⟩:=WG.1 C;obtain⟨q,o,_,R,x,rfl⟩:=Ta u;have⟨a,n,m,L,M,N,O,P,Q⟩:=r.oe Z0 x;have e:=Qf r Z0 x;simp only[Rj,Ul,Zhl,Zhw,ZhS,ZhN,Zil,Zj8,ZhC];refine⟨Z0,?_⟩;rintro _ ⟨w,z,rfl⟩;have⟨j,g⟩:=ZhI z;have l:=(Zhj.1 g).1;rw[Zil]at l;have y:(ZG h q o).ob.M=o.M:=rfl;rw[y]at g l;rw[ZhY Z0]at g;have t:=x;rw[r.cd Z0]at t;have A:(Zw h<|q+1)[o.Z.toNat+1+j]?=J w:=by
  rw[VI h Z0];simp only[ZG]at g;rw[ZhY Z0,ZhM]at g;rw[<-g];congr 1;omega
 have⟨i,k,F,G,B⟩:=qW<|r.ptr (q+1) Z0 o t D j Z0 w A;exact r.rk F G B;rintro _ ⟨w,z,rfl⟩;exact r.rk Z0 Z0<|K w z
def Lx{s q}:∀ {l},(∀o∈l,(ZG h q o).sl.length=o.size.toNat/\0<=o.size/\o.M<=o.size)->((((l.map<|ZG h q).filter λf=> !f.ob.gone).map<|Ul s).map Tj).sum=Y1 l
 | [],_=>rfl
 |o::l,g=>by
  have j:=Lx (s:=s) (l:=l) λx p=>g x (by simp[p]);have⟨k,r,t⟩:=g o Z1;have n:Y1 (o::l)=Wh o+Y1 l:=by simp[Y1]
  rw[n,ZhR,List.filter_cons];have a:(ZG h q o).ob=o:=rfl;cases d:o.gone;simp only[a,d,Bool.not_false,Zig,ZhR,Zla,j];congr 1;simp only[Tj,Ul,ZhN,Zil,Zj8,Wh,d,a,k,ZhF,Zij];omega;simp only[a,d,Zk8,j,Wh,ZhF,Zig,Zij,Zi5]
def Ek:∀ {l},(∀o∈l,o.gone=xw)->(∀o∈l,0<=o.size)->(Y1 l:Int)=WV l
 | [],_,_=>rfl
 |o::l,d,f=>by
  have j:=Ek (l:=l) (λx a=>d x<|by simp[a]) (λx a=>f x<|by simp[a]);have g:Y1 (o::l)=Wh o+Y1 l:=by simp[Y1]
  have h:WV (o::l)=1+o.size.toNat+WV l:=by simp[WV]
  rw[g,h,Wh,d o Z1];simp;omega
def Rt.mh(r:Rt h p)d:(Wy ((Yd h).gr d).nodes:Int)=I h.H+I h.ab+YF p:=by
 have g:∀q,q<4->∀o∈obP h q,(ZG h q o).sl.length=o.size.toNat/\0<=o.size/\o.M<=o.size:=λq l o f=>by
  have⟨a,n,m,A,B,C,D,F,G⟩:=r.oe l f;exact⟨Qf r l f,Z0,Z0⟩
 have e:Wy ((Yd h).gr d).nodes=Y1 (obP h 0)+(Y1 (obP h 1)+(Y1 (obP h 2)+Y1 (obP h 3))):=by
  unfold Wy Vw.gr;rw[jQ h];simp only[Xe,List.filter_append,Ziv,ZkM,ZiE,Zic,Zi5,Nat.reduceAdd];rw[Lx<|g 0 Z0,Lx<|g 1 Z0,Lx<|g 2 Z0,Lx<|g 3 Z0]
 have x:=(r.ak 1 Z0).sum<|Zis _;have y:=(r.ak 2 Z0).sum<|Zis _;have j:obP h 0=p.at 1:=r.cd Z0;have k:obP h 1=p.at 2:=r.cd Z0;have t:obP h 2=p.at 3:=r.cd Z0;have u:obP h 3=p.at 4:=r.cd Z0;have z:=Ek (λo f=>r.ce (q:=0) Z0 f) (λo f=>(g 0 Z0 o f).2.1);have w1:=Ek (λo f=>r.ce (q:=1) Z0 f) (λo f=>(g 1 Z0 o f).2.1);rw[j]at z;rw[k]at w1;rw[e,j,k,t,u];have w:Zw h 1=h.H:=rfl;have p2:Zw h 2=h.ab:=rfl;rw[w]at x;rw[p2]at y;have:YF p=Y1 (p.at 3)+Y1 (p.at 4):=rfl;omega
end
end
def N5:Fn:=⟨6,[0,1,2,3,4,11],pQ [pR [(1,pS 0 10),pV 2<|pI 0],pC [pK 6 36 [.mm 1 0 10]] [(3,pM (.sz (.ext (.s 6) 0) 2) 2),pV 4<|.ext (.s 6) 1],pi 5 (pn (.s 4)<|pI 0)<|px [pV 2<|pI 0],pC [pK 7 37 [.mm 3 0 2]] [pV 2<|.s 7]] .ret,[(2,.v)]⟩
def c17:WW (Yi Try.prog) fresh sig [.fz] [] Try.f17=J N5:=Z2
theorem yp{P:Z6}{f:Zp}{fn:Func}{c:Code}(j:P.funcs[f]?=J fn)(h2:fn.body=J c)(k:TE P c=xk):FitF (Yi P) f:=⟨λg d h a=>by
 have e:(Yi P).funcs[f]?=P.funcs[f]? :=rfl;rw[e,j]at h;cases h;rw[h2]at a;cases a;exact G9 k⟩
def Mm(l:Z8):NoM<|.sl<|l.map vi:=.sl _ λc a=>by
 have:flat (l.map vi)=l.map vi:=Uh λx d=>ZgS;rw[this]at a;obtain⟨y,_,rfl⟩:=ZhC.1 a;exact .int _ _
def Ml(g:Gr):NoM<|YB g:=(Mt g).m
def Qy{x:V}(h:NoM x):∀y∈[x],NoM y:=λy a=>by rw[Zim.1 a];exact h
def qp{x z:V}(h:NoM x)(k:NoM z):∀y∈[x,z],NoM y:=λy a=>by
 simp only[ZhK,ZiU,Zkl]at a;obtain rfl|rfl:=a;exact h;exact k
def up{f:Zp}{args:Zr}{r:V}(g:VC xP f xw args r)(a:∀x∈args,NoM x)(d:NoM r):VC (Yi Try.prog) f xw args r:=IL QY g a d
def Z2m{g:Gr}(a:g.sm):VC (Yi Try.prog) 37 xw [YB g]<|vi<|words g:=up (Z2n a) (Qy<|Ml g)<|.int _ _
def vg(h:Hp):Gr:=(Yd h).gr h.E
def ofG(h:Hp):Gr×Int:=if Yv h=xk/\right (vg h)=xk then(YD<|vg h,0)else(UI,1)
def Z7i(h:Hp):JD h=.am [YB (ofG h).1,vi (ofG h).2]:=by
 unfold JD ofG Vh vg;by_cases a:Yv h=xk;rw[Zht a];by_cases d:right ((Yd h).gr h.E)=xk;rw[Zht d,Zht ⟨a,d⟩];rw[Zhs d,Zhs λx=>d x.2];rw[Zhs a,Zhs λx=>a x.1]
def Z7h{h:Hp}(a:h.ok):(ofG h).1.sm:=by
 unfold ofG;split;rename_i k;exact Z3b (ofOk a k.1).sm.gr k.2;exact⟨by simp[UI],by simp[UI],by simp[UI]⟩
def Z18{h:Hp}(a:h.ok):VC (Yi Try.prog) 36 xw [ZE h]<|.am [YB (ofG h).1,vi (ofG h).2]:=by
 rw[<-Z7i];exact Z19 a
def liveR(h:Hp):Nat:=if(ofG h).2=0 then words (ofG h).1 else 0
instance fitLive:FitF (Yi Try.prog) 17:=yp (P:=Try.prog) Try.func17 rfl Z2
def Z15{h:Hp}(d:h.ok):VC (Yi Try.prog) 17 xw [ZE h]<|vi<|liveR h:=by
 refine ZR (P:=Yi Try.prog) Try.func17 Ji Z2 c17 rfl ?_;have k:=Z18 d;have f:=Z7h d;unfold liveR;generalize ofG h=g at*;obtain⟨g,e⟩:=g;simp only at k f⊢;simp[N5];refine Zz k Z1 ?_;by_cases a:e=0;simp[a];refine Zz (Z2m f) Z1 ?_;simp;simp[a]
end Vm
end
section

end
section
namespace Vm
open Go Go.Proofs
def Ec(g:Gr)(x:Int):Nat:=Tj<|(g.nodes[x.toNat]?).getD default
def PO(f:Int->Nat):∀ {L l:Z8},L.Nodup->(∀x∈L,x∈l)->(L.map f).sum<=(l.map f).sum
 | [],_,_,_=>Zis _
 |x::L,l,h,a=>by
  obtain⟨k,g⟩:=Zj4.1 h;have j:=((List.perm_cons_erase<|a x<|.head _).map f).sum_nat;have:=PO f g (l:=l.erase x) λy d=>(List.mem_erase_of_ne (by rintro rfl;exact k d)).2<|a y<|.tail _ d;simp only[ZhR,Zla]at j⊢;omega
def ZbM(l:List Nd):Wy l=((List.range<|I l).map λi:Nat=>Tj<|(l[i]?).getD default).sum:=by
 unfold Wy;congr 1;apply ZiO;intro i;rw[ZhG,ZhG];by_cases h:i<I l;simp[h];rw[Zib Z0,Zib Zgn];rfl
def Z3e(G:Gr):Wy (YD G).nodes=((order G).map<|Ec G).sum:=by
 unfold Wy YD;simp only[Zjt];congr 1;refine ZiM λx _=> ?_;simp only[Function.comp,Q5,Tj,Ec,WZ,ZhN]
def Z3d{g:Gr}(a:right g=xk):words (YD g)<=words g:=by
 unfold words;rw[Zht a];split;rw[Z3e,ZbM];have:=PO (Ec g) (l:=(List.range<|I g.nodes).map Int.ofNat) (Lp a).1 λx d=>by
  have:=(Lp a).2 x d;exact ZhC.2 ⟨x.toNat,Zgn,Zgn⟩
 rwa[Zjt]at this;omega
def Mo:∀ {l a:Z8},(∀x∈l,x<0)->Yc a l=a
 | [],a,_=>rfl
 |x::l,a,h=>by
  have f:=h x Z1;simp only[Yc];rw[Zhs Z0];exact Mo λy d=>h y (by simp[d])
def Z7C{g:Gr}(h:∀x∈g.E,x<0):order g=[]:=by
 unfold order;rw[Mo h];simp[XK]
section
def Z6X(l:List Nd):NoM<|.sl<|l.map Yk:=by
 have h:=Ml ⟨l,[]⟩;unfold YB at h;cases h with
 |agg _ h=>exact h _ Z1
def Z6Y(x:Rw):NoM<|Wt x:=.agg _ λc a=>by
 simp only[ZhK,ZiU,Zkl]at a;obtain rfl|rfl|rfl|rfl|rfl|rfl|rfl:=a;all_goals first|exact .int _ _|exact Z6X _|exact Mm _
def Z12{x:Rw}(hx:x.ok):VC (Yi Try.prog) 5 xw [Wt x]<|ZE<|Te x:=up (Z13 hx) (Qy<|Z6Y x)<|Tk _
def Z6W(g:Hp)(e:Int):NoM<|.am [ZE g,vi e]:=.am _ λc a=>by
 simp only[ZhK,ZiU,Zkl]at a;obtain rfl|rfl:=a;exact Tk _;exact .int _ _
def Z0K{h:Hp}{p:Pts}(a:h.ok)(r:Rt h p):VC (Yi Try.prog) 13 xw [ZE h]<|.bool xk:=by
 have:=up (QU a) (Qy<|Tk h)<|.bool _;rwa[r.right]at this
def Z0M{h:Hp}(a:h.ok):VC (Yi Try.prog) 15 xw [ZE h]<|vi<|RO h:=up (Ey a) (Qy<|Tk h)<|.int _ _
section
variable {h:Hp}{p:Pts}
def Rt.dn(r:Rt h p):Vm.right (vg h)=xk:=r.mg r.fu r.E
def Rt.ve(r:Rt h p):ofG h=(YD<|vg h,0):=Zht ⟨r.right,r.dn⟩
def Rt.oy(r:Rt h p):liveR h=words (YD<|vg h):=by
 unfold Vm.liveR;rw[r.ve,Zht rfl]
def Rt.oz(r:Rt h p):(words (YD<|vg h):Int)<=I h.H+I h.ab+YF p:=by
 have a:=Z3d r.dn;have d:=r.mh h.E;have f:words (vg h)=Wy ((Yd h).gr h.E).nodes:=Zht r.dn;omega
end
end
section
section
variable {h:Hp}{p:Pts}
def KR(r:Rt h p){q g:Nat}(l:q<4)(f:g<4){o k:Ob}(j:o∈obP h q)(d:k∈obP h g)(a:q≠g\/o.Z≠k.Z):(ZG h q o).ad≠(ZG h g k).ad:=by
 intro e;rw[Rb r l j,Rb r f d]at e;rw[r.cd l]at j;rw[r.cd f]at d;obtain⟨t,n⟩:=r.toTld.inj Z0 Z0 j d (by unfold ZP;omega);obtain a|a:=a;omega;rw[n]at a;exact a rfl
def Hg(r:Rt h p):∀n q,q+n<=4->(Xe h n q).Pairwise λf g=>f.ad≠g.ad
 |0,q,_=>.nil
 |n+1,q,A=>by
  simp only[Xe];refine List.pairwise_append.2 ⟨?_,Hg r n (q+1) Z0,λf t g u=> ?_⟩;rw[List.pairwise_map];have d:=(r.ak ((q:Int)+1) Z0).eh;rw[<-r.cd Z0]at d;exact d.imp_of_mem λj l w=>KR r Z0 Z0 j l<|.inr Z0;obtain⟨o,x,rfl⟩:=ZhC.1 t;obtain⟨k,B,y,z,a,rfl⟩:=Ta u;exact KR r Z0 Z0 x a<|.inl Z0
def Z77(r:Rt h p){i j:Nat}{f g:Fo}(q:(Yd h).ns[i]?=J f)(t:(Yd h).ns[j]?=J g)(e:f.ad=g.ad):i=j:=by
 have d:(Yd h).ns.Pairwise λf g=>f.ad≠g.ad:=by
  rw[jQ];exact(Hg r 4 0 Z0).filter _
 have d:=List.pairwise_iff_getElem.1 d;obtain⟨k,l⟩:=Zhj.1 q;obtain⟨n,o⟩:=Zhj.1 t;obtain a|a|a:=Nat.lt_trichotomy j i;exact(d j i n k a<|by rw[l,o,e]).elim;exact a.symm;exact(d i j k n a<|by rw[l,o,e]).elim
end
end
section
def U7(h:Hp)(w:Int):Int:=(Y3 (Yd h).tm (adr w).1).getD (adr w).1
def PW(h:Hp){w:Int}(a:w≠0):(Yd h).cz w=(Y3 (Yd h).nm<|U7 h w).getD 0:=by
 unfold Vw.cz U7;rw[Zhs a]
section
variable {h g:Hp}{p q:Pts}
def SF(r:Rt h p){f:Fo}(g:f∈Xe h 4 0)(j:f.ob.gone=xw){w:Int}(d:(adr w).1=f.ad):U7 h w=f.ad:=by
 have:Y3 (Yd h).tm f.ad=U:=by
  cases k:Y3 (Yd h).tm f.ad with
  |none=>rfl
  |some t=>
   obtain⟨x,k1,a,l,_⟩:=(SO h).t1 _ _ k;rw[KQ r k1 g l,j]at a;cases a
 unfold U7;rw[d,this,Zlc]
def SE(r:Rt h p){f:Fo}(a:f∈Xe h 4 0)(j:f.ob.gone=xk){w:Int}(g:(adr w).1=f.ad):U7 h w=f.ob.target:=by
 obtain⟨t,e⟩:=Ziq.1<|(SO h).t2 f a j;obtain⟨x,k1,l,k,d⟩:=(SO h).t1 _ _ e;rw[KQ r k1 a k]at d;unfold U7;rw[g,e,ZhP,d]
def RU{α:Type}(R:α->α->Prop):List α->List α->Prop
 | [],[]=>True
 |a::l,b::m=>R a b/\RU R l m
 |_,_=>False
def A9{α:Type}{R:α->α->Prop}:∀ {l m:List α},I m=I l->(∀(j:Nat) (a b:α),l[j]?=J a->m[j]?=J b->R a b)->RU R l m
 | [],[],_,_=>trivial
 |a::l,b::m,d,h=>⟨h 0 a b rfl rfl,A9 Zgz λj x y f g=>h (j+1) x y ZgD Zhd⟩
 | [],_::_,d,_=>by simp at d
 |_::_,[],d,_=>by simp at d
def SU(h g:Hp)(τ:Int->Int)(w w':Int):Prop:=(w=0/\w'=0)\/(w≠0/\w'≠0/\∃f∈(Yd h).ns,f.ad=U7 h w/\U7 g w'=τ f.ad)
def EA(h g:Hp)(τ:Int->Int)(f a:Fo):Prop:=a.ad=τ f.ad/\a.ob.M=f.ob.M/\a.sl.drop f.ob.M.toNat=f.sl.drop f.ob.M.toNat/\RU (SU h g τ) (f.sl.take f.ob.M.toNat) (a.sl.take f.ob.M.toNat)
def Rl(h g:Hp)(τ:Int->Int)(i:Int):Int:=if 0<=i then(((Yd h).ns[i.toNat]?).bind λf=>Y3 (Yd g).nm<|τ f.ad).getD 0 else i
def Zba(r:Rt h p){τ:Int->Int}{w w':Int}(q:SU h g τ w w'):(Yd g).cz w'=Rl h g τ ((Yd h).cz w):=by
 obtain⟨rfl,rfl⟩|⟨k,l,f,n,d,j⟩:=q;simp[Vw.cz,Rl];obtain⟨a,o⟩:=WG.1 n;obtain⟨i,k1,t⟩:=r.lf a o;rw[PW h k,PW g l,<-d,j,k1];simp[Rl,t]
def BS(r:Rt h p){τ:Int->Int}:∀ {l f:Z8},RU (SU h g τ) l f->f.map (Yd g).cz=(l.map (Yd h).cz).map (Rl h g τ)
 | [],[],_=>rfl
 |a::l,b::m,d=>by rw[ZhR,ZhR,ZhR,Zba r d.1,BS r d.2]
 | [],_::_,d=>d.elim
 |_::_,[],d=>d.elim
def E9(r:Rt h p)(s:Rt g q)(τ:Int->Int)(P:∀f∈(Yd h).ns,∃a∈(Yd g).ns,EA h g τ f a)
  (t:∀f∈(Yd h).ns,∀a∈(Yd h).ns,τ f.ad=τ a.ad->f.ad=a.ad) (B:RU (SU h g τ) h.E g.E):YD (vg g)=YD (vg h):=by
 have key:∀x:Int,x∈order (vg h)->∃(i n:Nat) (f a:Fo),x=i/\(Yd h).ns[i]?=J f/\(Yd g).ns[n]?=J a/\Rl h g τ x=n/\EA h g τ f a:=by
  intro x l;obtain⟨T,Z⟩:=(Lp r.dn).2 x l;have G:(vg h).nodes.length=(Yd h).ns.length:=by simp[vg,Vw.gr]
  have F:x.toNat< (Yd h).ns.length:=Z0;have D:=Zhi F;obtain⟨a,z,d⟩:=P _<|ZhE F;generalize (Yd h).ns[x.toNat]=f at*;obtain⟨A,O⟩:=WG.1 z;obtain⟨n,k1,S⟩:=s.lf A O;refine⟨x.toNat,n,f,a,Z0,D,S,?_,d⟩;unfold Rl;rw[Zht T,D,Zhu,<-d.1,k1];rfl
 refine(Z3a r.dn s.dn (Rl h g τ) (by simp[Rl]) (λx l y Q e=> ?_) (λx l=> ?_) (BS r B) λx l=> ?_).2;obtain⟨i,n,f,a,rfl,o,u,w,C⟩:=key x l;obtain⟨j,m,k,Y,rfl,H,K,X,R⟩:=key y Q;have:n=m:=Z0;subst this;rw[u]at K;cases K;have:=Z77 r o H<|t f (Zhq o) k (Zhq H)<|C.1.symm.trans R.1;omega;obtain⟨i,n,f,a,rfl,o,u,w,C⟩:=key x l;omega;obtain⟨i,n,f,a,rfl,o,u,w,W,L,M,N⟩:=key x l;rw[w];simp only[vg,Vw.gr,outs,ZhG,ZhA,o,u,ZhL,ZhP,Ul,L,M,BS r N]
def Kq{α:Type}{R:α->α->Prop}:∀ {l:List α},(∀a∈l,R a a)->RU R l l
 | [],_=>trivial
 |a::l,h=>⟨h a Z1,Kq λx d=>h x<|by simp[d]⟩
def Wz(r:Rt h p){j:Nat}(a:j<4){x:Ob}(hx:x∈p.at ((j:Int)+1)):(ZG h j x).ad=fstL (Zv h) ((j:Int)+1)+x.Z:=Rb r a (by rw[r.cd a];exact hx)
def Xp(r:Rt h p){j:Nat}(a:j<4){x:Ob}(hx:x∈p.at ((j:Int)+1)):ZG h j x∈Xe h 4 0:=qe (by rw[r.cd a];exact hx) Z0 Z0
end
end
section
section
variable {h g:Hp}{p q:Pts}
def GJ(r:Rt h p)(hc:h.Y=xk)(b:Body g q)(f:Ty g q)(e:Ext h p g q):Rt g q:=by
 obtain⟨n,a⟩:=e.H;have l:I h.H<=I g.H:=by rw[a,Zi3];omega
 have j:=r.dy;have k:=r.lj hc;refine⟨b,by rw[e.E];exact r.fu,by rw[e.aa];exact r.gi,by rw[e.aa];omega,λ_=>by rw[e.aa];omega,λd=> ?_,λ_=>f,λw a=> ?_⟩;rw[e.Y,hc]at d;cases d;rw[e.E]at a;exact e.kz Z0 Z0<|r.E w a
def Ext.fa(e:Ext h p g q){j:Int}(a:1<=j/\j<=4):Vm.fstL (Zv g) j=Vm.fstL (Zv h) j:=by
 have:=e.fst j 0 Z0;grind [ZP]
def Z6K(r:Rt h p)(hc:h.Y=xk){k:Int}(hk:3<=k/\k<=4){o:Ob}(W:o∈p.at k)(hg:o.gone=xw){a n:Nat}(ea:o.Z=a)(en:o.size=n):
  Rt (Yl h k a<|n+1) (p.mv k o (I h.H)<|Vm.fstL (Zv h) 1+I h.H)/\YD (vg<|Yl h k a<|n+1)=YD (vg h):=by
 have e:=r.toBody.ext r.dy hk W hg ea en;have s:=GJ r hc (r.toBody.move r.dy hk W hg ea en) (MF r.toBody (r.ff hc) r.dy hk W hg ea en) e;obtain⟨m1,m2,m3,m4,m5,_⟩:=qj h hk a<|n+1;obtain⟨c1,c2,c3,c4⟩:=JA (p:=p) hk o (I h.H)<|Vm.fstL (Zv h) 1+I h.H;refine⟨s,?_⟩;obtain⟨l,rfl,a0⟩:∃l:Nat,k=(l:Int)+1/\l<4:=⟨(k-1).toNat,Z0,Z0⟩;obtain⟨N,P,m,d8,d9,em,e0,e6,e5⟩:=r.toTld.ob Z0 W;have:N=a:=Z0;subst this;have:P=n:=Z0;subst this;have T:(⟨I h.H,o.size,o.M,xw,0⟩:Ob)∈(p.mv ((l:Int)+1) o (I h.H)<|Vm.fstL (Zv h) 1+I h.H).at (((0:Nat):Int)+1):=by
  show _∈(p.mv _ _ _ _).at 1;rw[c1];exact Zju _<|.head _
 have b3:Vb o.Z (Vm.fstL (Zv h) 1+I h.H) o∈(p.mv ((l:Int)+1) o (I h.H)<|Vm.fstL (Zv h) 1+I h.H).at ((l:Int)+1):=by
  rw[c3];exact Zj3 W
 have K:∀(j:Nat) (x:Ob),j<4->x∈p.at ((j:Int)+1)->(j≠l\/x≠o)->x∈(p.mv ((l:Int)+1) o (I h.H)<|Vm.fstL (Zv h) 1+I h.H).at ((j:Int)+1):=by
  intro j x H C g;by_cases O:j=0;subst O;show _∈(p.mv _ _ _ _).at 1;rw[c1];exact ZiA _ C;by_cases h1:j=1;subst h1;show _∈(p.mv _ _ _ _).at 2;rw[c2];exact C;by_cases M:j=l;subst M;rw[c3];refine ZhC.2 ⟨x,C,Tb λe=> ?_⟩;obtain g|g:=g;exact g rfl;exact g<|r.toTld.cx Z0 W C e;have e7:(j:Int)+1=7- ((l:Int)+1):=Z0;rw[e7]at C⊢;rw[c4];exact C
 generalize hq:p.mv ((l:Int)+1) o (I h.H) (Vm.fstL (Zv h) 1+I h.H)=q at*;have R:∀(j:Nat) (x x':Ob),j<4->x∈p.at ((j:Int)+1)->x'∈q.at ((j:Int)+1)->x'.Z=x.Z->(ZG (Yl h ((l:Int)+1) N<|P+1) j x').ad=(ZG h j x).ad:=by
  intro j x x' H C F e';rw[Wz s H F,Wz r H C,e.fa Z0,e']
 have hA:=Wz r a0 W;have hB:=Wz s Z0 T;rw[e.fa Z0]at hB;obtain⟨A,Q⟩:∃A,A=(ZG h l o).ad:=⟨_,rfl⟩;obtain⟨B,b1⟩:∃B,B=Vm.fstL (Zv h) 1+I h.H:=⟨_,rfl⟩;have b0:(ZG (Yl h ((l:Int)+1) N<|P+1) 0 ⟨I h.H,o.size,o.M,xw,0⟩).ad=B:=by rw[hB,b1];rfl
 have S:∀(j:Nat) (x:Ob),j<4->x∈p.at ((j:Int)+1)->(j≠l\/x≠o)->(ZG h j x).ad≠A:=by
  intro j x H C g;rw[Q];refine KR r H a0 (by rw[r.cd H];exact C) (by rw[r.cd a0];exact W) ?_;obtain g|g:=g;exact .inl g;by_cases M:j=l;subst M;exact .inr λe=>g<|r.toTld.cx Z0 W C e;exact .inl M
 have a4:∀(j:Nat) (x:Ob),j<4->x∈p.at ((j:Int)+1)->(j≠l\/x≠o)->(ZG h j x).ad≠B:=by
  intro j x H C g;have F:=K j x H C g;rw[<-R j x x H C F rfl,<-b0];refine KR s H Z0 (by rw[s.cd H];exact F) (by rw[s.cd Z0];exact T) ?_;by_cases O:j=0;subst O;obtain⟨b,_,_,eb,_,_,hb,_⟩:=r.toTld.ob (k:=((0:Nat):Int)+1) Z0 C;have:Zw h (((0:Nat):Int)+1)=h.H:=rfl;rw[this]at hb;exact .inr (by show x.Z≠(I h.H:Int);omega);exact .inl O
 have hw:∀(j:Nat) (x:Ob),j<4->x∈p.at ((j:Int)+1)->(j≠l\/x≠o)->(ZG (Yl h ((l:Int)+1) N<|P+1) j x).sl=(ZG h j x).sl:=by
  intro j x H C g;obtain⟨b,c,_,eb,ec,_,hb,_⟩:=r.toTld.ob Z0 C;simp only[ZG];rw[<-VI _ H,<-VI _ H];have e1:(x.Z+1).toNat=b+1:=Z0;have e2:x.size.toNat=c:=Z0;rw[e1,e2];have a9:∀i:Nat,i<b+1+c->b+1<=i->(Zw (Yl h ((l:Int)+1) N<|P+1)<|(j:Int)+1)[i]?=(Zw h<|(j:Int)+1)[i]? :=by
   intro i Z e3;by_cases O:j=0;subst O;show(Yl h ((l:Int)+1) N<|P+1).H[i]?=h.H[i]?;have:Zw h (((0:Nat):Int)+1)=h.H:=rfl;rw[this]at hb;rw[m1,ZhQ Z0];by_cases h1:j=1;subst h1;show(Yl h ((l:Int)+1) N<|P+1).ab[i]?=h.ab[i]?;rw[m2];refine C5 hk Z0 Z0 ?_;by_cases M:j=l;subst M;rcases(r.ak ((j:Int)+1) Z0).apart x C o W with e|e|e;obtain g|g:=g;exact(g rfl).elim;exact(g e).elim;exact .inr<|.inl Z0;exact .inr<|.inr Z0;exact .inl Z0
  refine ZiO λi=> ?_;simp only[ZhV,ZhM];split;exact a9 _ Z0 Z0;rfl
 have b7:(ZG (Yl h ((l:Int)+1) N<|P+1) 0 ⟨I h.H,o.size,o.M,xw,0⟩).sl=(ZG h l o).sl:=by
  simp only[ZG];rw[<-VI _ Z0,<-VI _ a0];show(((Yl h ((l:Int)+1) N<|P+1).H).drop _).take _=_;rw[m1,show((I h.H:Int)+1).toNat=I h.H+1 by omega,show(o.Z+1).toNat=N+1 by omega,show o.size.toNat=P by omega,ZkB,Zkn Z0,Zic,show I h.H+1-I h.H=1 by omega,List.drop_drop,List.drop_take,List.take_take];congr 1;omega
 have a5:∀w i j:Int,(1<=i/\i<=4)->(1<=j/\j<=4)->Gos h p w i j->SU h (Yl h ((l:Int)+1) N<|P+1) (λx=>if x=A then B else x) w w:=by
  intro w i j Z H hG;by_cases O:w=0;exact .inl ⟨O,O⟩;obtain⟨z,y,L,_,X,_,ha⟩:=r.kz Z H hG O;rw[r.cd L]at X;refine .inr ⟨O,O,?_⟩;cases G:y.gone;refine⟨ZG h z y,WG.2 ⟨Xp r L X,G⟩,(SF r (Xp r L X) G ha).symm,?_⟩;by_cases a2:z=l/\y=o;obtain⟨rfl,rfl⟩:=a2;dsimp only;rw[Zht Q.symm];have:=SE s (Xp s L b3) (by show(Vb _ _ _).gone=xk;rw[UE rfl]) (w:=w) (by rw[ha,R z y _ L W b3 (Jl _ _ _).1]);rw[this];show(Vb _ _ _).target=B;rw[UE rfl,b1];have g:z≠l\/y≠o:=by
   by_cases D:z=l;exact .inr λe=>a2 ⟨D,e⟩;exact .inl D
  dsimp only;rw[Zhs<|S z y L X g];have Y:=K z y L X g;have e':=R z y y L X Y rfl;rw[<-e'];exact SF s (Xp s L Y) G (by rw[ha,e']);have e9:2<=z:=by
   by_cases hl:z<2;have:=r.ce hl (by rw[r.cd L];exact X);rw[this]at G;cases G;omega
  obtain⟨t,ht,h4,_⟩:=r.gone ((z:Int)+1) Z0 y X G;have a1:t∈p.at (((0:Nat):Int)+1):=ht;have d5:t.gone=xw:=r.ce (q:=0) Z0 (by rw[r.cd Z0];exact a1);have b5:(ZG h 0 t).ad=y.target:=by rw[Wz r Z0 a1,h4];rfl
  have a2:y≠o:=λe=>by rw[e,hg]at G;cases G
  refine⟨ZG h 0 t,WG.2 ⟨Xp r Z0 a1,d5⟩,?_,?_⟩;rw[SE r (Xp r L X) G ha,b5];rfl;dsimp only;rw[Zhs<|S 0 t Z0 a1<|.inl Z0,b5];have Y:=K z y L X<|.inr a2;rw[SE s (Xp s L Y) G (by rw[ha,R z y y L X Y rfl])];rfl
 refine E9 r s (λx=>if x=A then B else x) (λf hf=> ?_) (λf hf f' c8 he=> ?_) ?_;obtain⟨a6,a7⟩:=WG.1 hf;obtain⟨j,x,_,H,C,rfl⟩:=Ta a6;have d6:=C;rw[r.cd Z0]at C;obtain⟨b,c,d,eb,ec,ed,hb,_⟩:=r.toTld.ob Z0 C;have a3:RU (SU h (Yl h ((l:Int)+1) N<|P+1)<|λx=>if x=A then B else x) ((ZG h j x).sl.take (ZG h j x).ob.M.toNat)<|(ZG h j x).sl.take (ZG h j x).ob.M.toNat:=Kq λw a8=>by
  obtain⟨i,Z⟩:=ZhI a8;have b4:=(Zhj.1 Z).1;rw[Zil]at b4;have d0:(ZG h j x).ob.M=x.M:=rfl;rw[d0]at Z b4;rw[ZhY Z0]at Z;have e8:=Qf r Z0 d6;have b6:(Zw h<|(j:Int)+1)[x.Z.toNat+1+i]?=J w:=by
   rw[VI h Z0];simp only[ZG]at Z;rw[ZhY Z0,ZhM]at Z;rw[<-Z];congr 1;omega
  obtain⟨u,v,hu,hv,hG⟩:=qW<|r.ptr ((j:Int)+1) Z0 x C a7 i Z0 w b6;exact a5 w u v hu hv hG
 by_cases b8:j=l/\x=o;obtain⟨rfl,rfl⟩:=b8;refine⟨ZG _ 0 ⟨I h.H,x.size,x.M,xw,0⟩,WG.2 ⟨Xp s Z0 T,rfl⟩,?_,rfl,by rw[b7],by rw[b7];exact a3⟩;dsimp only;rw[Zht Q.symm,b0];have g:j≠l\/x≠o:=by
  by_cases D:j=l;exact .inr λe=>b8 ⟨D,e⟩;exact .inl D
 have F:=K j x Z0 C g;refine⟨ZG _ j x,WG.2 ⟨Xp s Z0 F,a7⟩,?_,rfl,by rw[hw j x Z0 C g],by rw[hw j x Z0 C g];exact a3⟩;dsimp only;rw[Zhs<|S j x Z0 C g,R j x x Z0 C F rfl];obtain⟨a6,a7⟩:=WG.1 hf;obtain⟨b2,d7⟩:=WG.1 c8;obtain⟨j,x,_,H,C,rfl⟩:=Ta a6;obtain⟨j',x',_,e4,F,rfl⟩:=Ta b2;rw[r.cd Z0]at C F
 have b9:(ZG h j x).ad≠A->(ZG h j x).ad≠B:=λhn=>a4 j x Z0 C (by
  by_cases D:j=l;subst D;exact .inr λe=>hn (by rw[e,Q]);exact .inl D)
 have c0:(ZG h j' x').ad≠A->(ZG h j' x').ad≠B:=λhn=>a4 j' x' Z0 F (by
  by_cases D:j'=l;subst D;exact .inr λe=>hn (by rw[e,Q]);exact .inl D)
 split at he<;>split at he;rename_i h1 h2;rw[h1,h2];rename_i h1 h2;exact(c0 h2 he.symm).elim;rename_i h1 h2;exact(b9 h1 he).elim;exact he;rw[m5];exact Kq λw a8=>a5 w 1 2 Z0 Z0<|r.E w a8
def Z4d(r:Rt h p){w:Int}(A:Gos h p w 1 2\/Gos h p w 3 4):∃v g q,FwdTo h p w v g q/\Rt g q/\YD (vg g)=YD (vg h):=by
 obtain⟨v,g,q,f⟩:=r.toBody.fm r.dy A;refine⟨v,g,q,f,?_⟩;obtain⟨rfl,rfl⟩|⟨k,o,a,n,y,j,x,t,u,rfl,rfl,_⟩:=f.uj;exact⟨r,rfl⟩;have d:h.Y=xk:=by
  cases d:h.Y;obtain⟨_,B,C⟩:=r.rest d;have l:=r.ak k Z0;have z:Zw h k=[]:=by
   have:k=3\/k=4:=Z0;obtain rfl|rfl:=this;exact B;exact C
  rw[z]at l;rw[l.nil]at j;cases j;rfl
 exact Z6K r d y j x t u
end
end
end Vm
end
