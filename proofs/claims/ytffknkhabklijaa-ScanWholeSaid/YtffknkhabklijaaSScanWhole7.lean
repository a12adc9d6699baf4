import Derived.Deep.DeepCutAuto
import Derived.Laws.EntriesVeiled
import Derived.Conc.SmallLaws
import Derived.Test.YtffknkhabklijaaSScanWhole6
set_option linter.unusedSimpArgs false
set_option linter.unusedVariables false
set_option linter.defProp false
open Option renaming some→J,none→U
open Bool renaming true→xk,false→xw
open List renaming length→I
open Array renaming size→xz
open Go.World renaming heap→xj
open List renaming length→xq
open Array renaming size→xz
open Go.World renaming heap→xj
set_option maxHeartbeats 40000000
set_option maxRecDepth 100000
theorem ZeL{p:Prop}(h:p:=by simp[World.setCell]):p:=h
theorem ZeJ{p:Prop}(h:p:=by simp[results,Try.results97,go_sem]):p:=h
theorem Zej{p:Prop}(h:p:=by simp only[Ta,Ql,List.map_cons,List.map_nil,List.foldl_cons,List.foldl_nil,List.setIfInBounds_toArray,List.set_cons_succ,List.set_cons_zero]):p:=h
theorem ZeV{p:Prop}(h:p:=by show xz (xj w)≤c;omega):p:=h
theorem ZeF{p:Prop}(h:p:=by unfold Xt;omega):p:=h
theorem Zea{p:Prop}(h:p:=by decide+kernel):p:=h
theorem Zeu{p:Prop}(h:p:=by have:=f.c2;rw[A.out.1,A.out.2.1,A.out.2.2.1,A.out.2.2.2]at this;grind [cell_of_row]):p:=h
theorem ZeE{p:Prop}(h:p:=by obtain⟨y,_,rfl⟩:=List.mem_map.1 d;rfl):p:=h
def Zjh:=@Go.wp_scope_jumps
def Zi1:=@eq_true
def ZiQ:=@Go.grownBy_keeps
def ZiS:=@eq_false
def Zij:=@List.take_append_of_le_length
def Zjm:=@Bool.and_true
def Zj3:=@Int.natCast_add
def ZiI:=@List.foldl_nil
def Zh8:=@List.setIfInBounds_toArray
def ZhW:=@List.set_cons_succ
def Zjf:=@Go.KeepsFrom.refl
def ZhE:=@List.all_eq_false
section
namespace Vm
open Go Go.Proofs Go.RowKit
def zf(w:Z3)(r:Hp×Int)(e:Ending)(w':Z3):Prop:=
 ∃x,e=.returned (.tuple #[ZN r.1 x,.int .i64 r.2])/\Below (xz<|xj w) w w'/\∀j,j<5->Rd w' (λc=>xz (xj w)<=c/\c<xz (xj w')) (.sl<|(Zv r.1 j).map vu) (x j)
def CR{w:Z3}{G:Z4}{h:Hp}{x:Z6}(k:h.ok)(f:∀b,G b->b<xz (xj w))(l:∀j,j<5->Rd w G (.sl<|(Zv h j).map vu) (x j)):
  Calls Sol.prog 25 #[ZN h x] w λe d=>e=.returned (.bool<|YI h)/\Below (xz<|xj w) w d:=by
 refine Zi6 ((JX k).2 w G _ f rfl ?_) ?_;intro i y a
 match i,a with
 |0,a=>cases a;exact yh l
 rintro e d ⟨v,rfl,g,n⟩;exact⟨by rw[Nt n],g⟩
def PR(w:Z3)(G:Z4)(r:∀b,G b->b<xz (xj w))(h:Hp)(A:h.ok)(a:Z6)(y:∀j,j<5->Rd w G (.sl<|(Zv h j).map vu) (a j))(u:YI h=xw):
  Calls Sol.prog 36 #[ZN h a] w (zf w (Hp.zero,1)):=by
 have p:∀W,Below (xz<|xj w) w W->Calls Sol.prog 25 #[ZN h a] W λe D=>e=.returned (.bool<|YI h)/\Below (xz<|xj W) W D:=λW t=>
  CR (w:=W) (G:=G) (x:=a) A (λb f=>Zfb (r b f) t.size) (λj B=>(y j B).keep (λb f=>t.block b<|r b f) λ_ q=>q)
 rw[u]at p;have z:=Zfa p;clear p;clear y u;unfold ZN;go_enter Sol.func36,Try.ntmps36;go_wp2;refine Zjh 0 (λ_ _=>False) (λ_ _=>0) rfl ?_ (λ_ _ h=>h.elim)
 go_upto_region 2 with (first
  | (go_at_call 25;refine(z.out _ ?_).mono ?_;rotate_left;rintro e g ⟨rfl,d⟩
     have o:g.heap[xz<|xj w]?=J (.cells #[.int .u64 h.base,.int .i64 h.cap,.int .i64 h.to,.bool h.Z,.int .i64 h.aa,a 0,a 1,a 2,a 3,a 4] 37 (0,0)):=(d.block _ Ze9).trans<|(Zfp _ _ _ Z1).trans<|ZfG w _;have k:g.heap[xz (xj w)+1]?=J (.cells Ya 37 (0,0)):=(d.block _ Z1).trans<|DV w _;have H:∀j,g.cell? ⟨xz<|xj w,j,U⟩=(#[.int .u64 h.base,.int .i64 h.cap,.int .i64 h.to,.bool h.Z,.int .i64 h.aa,a 0,a 1,a 2,a 3,a 4]:Array Value)[j]? :=λj=>Zfg _ _ _ _ _ _ o;have F:∀j,g.cell? ⟨xz (xj w)+1,j,U⟩=Ya[j]? :=λj=>Zfg _ _ _ _ _ _ k;unfold Ya at F;have fz:∀j,g.frozen? ⟨xz (xj w)+1,j,U⟩=xw:=λj=>Yw k;have l:=Zfa d;have n:=Zfa<|And.intro o k;clear d o k))
 case refine_1=>exact((Zfr _ w).alloc (Zf9 _) _).alloc Z1 _
 go_wp2;simp only[Exit.jump];have C:=Jz n.out.2 (.int .u64 0) (.int .i64 0) (.int .i64 0) (.bool xw) (.int .i64 0) (.slice U 0 0) (.slice U 0 0) (.slice U 0 0) (.slice U 0 0)<|.slice U 0 0;refine ZfV (v:=.tuple #[.agg Ya,.int .i64 1]) ?_ rfl ?_
 .simp[results,Try.results36,go_sem,C,Ya]
 exact⟨λ_=>.slice U 0 0,rfl,Uy (Below.trans (((Zfr _ w).alloc (Zf9 _) _).alloc Z1 _)<|l.out.mono Ze9) Z0,Pz _ _⟩
def PS(w:Z3)(G:Z4)(r:∀b,G b->b<xz (xj w))(h:Hp)(A:h.ok)(a:Z6)(y:∀j,j<5->Rd w G (.sl<|(Zv h j).map vu) (a j))(u:YI h=xk)(hc:h.Z=xk):
  Calls Sol.prog 36 #[ZN h a] w (zf w (Hp.zero,10)):=by
 have g:∀W,Below (xz<|xj w) w W->Calls Sol.prog 25 #[ZN h a] W λe D=>e=.returned (.bool<|YI h)/\Below (xz<|xj W) W D:=λW t=>
  CR (w:=W) (G:=G) (x:=a) A (λb f=>Zfb (r b f) t.size) (λj B=>(y j B).keep (λb f=>t.block b<|r b f) λ_ q=>q)
 rw[u]at g;unfold ZN at g;rw[hc]at g;have z:=Zfa g;clear g;clear y u;unfold ZN;rw[hc];clear hc;go_enter Sol.func36,Try.ntmps36;go_wp2;refine Zjh 0 (λ_ _=>False) (λ_ _=>0) rfl ?_ (λ_ _ h=>h.elim)
 go_upto_region 4 with (first
  | (go_at_call 25;refine(z.out _ ?_).mono ?_;rotate_left;rintro e k ⟨rfl,d⟩
     have p:k.heap[xz<|xj w]?=J (.cells #[.int .u64 h.base,.int .i64 h.cap,.int .i64 h.to,.bool xk,.int .i64 h.aa,a 0,a 1,a 2,a 3,a 4] 37 (0,0)):=(d.block _ Ze9).trans<|(Zfp _ _ _ Z1).trans<|ZfG w _;have l:k.heap[xz (xj w)+1]?=J (.cells Ya 37 (0,0)):=(d.block _ Z1).trans<|DV w _;have H:∀j,k.cell? ⟨xz<|xj w,j,U⟩=(#[.int .u64 h.base,.int .i64 h.cap,.int .i64 h.to,.bool xk,.int .i64 h.aa,a 0,a 1,a 2,a 3,a 4]:Array Value)[j]? :=λj=>Zfg _ _ _ _ _ _ p;have F:∀j,k.cell? ⟨xz (xj w)+1,j,U⟩=Ya[j]? :=λj=>Zfg _ _ _ _ _ _ l;unfold Ya at F;have fz:∀j,k.frozen? ⟨xz (xj w)+1,j,U⟩=xw:=λj=>Yw l;have n:=Zfa d;have o:=Zfa<|And.intro p l;clear d p l))
 case refine_1=>exact((Zfr _ w).alloc (Zf9 _) _).alloc Z1 _
 go_wp2;simp only[Exit.jump];have C:=Jz o.out.2 (.int .u64 0) (.int .i64 0) (.int .i64 0) (.bool xw) (.int .i64 0) (.slice U 0 0) (.slice U 0 0) (.slice U 0 0) (.slice U 0 0)<|.slice U 0 0;refine ZfV (v:=.tuple #[.agg Ya,.int .i64 10]) ?_ rfl ?_
 .simp[results,Try.results36,go_sem,C,Ya]
 exact⟨λ_=>.slice U 0 0,rfl,Uy (Below.trans (((Zfr _ w).alloc (Zf9 _) _).alloc Z1 _)<|n.out.mono Ze9) Z0,Pz _ _⟩
section
def Z7Q{P:Z5}{a:Act}{w:Z3}{Q:Ze}{c rest:Code}(l:Nat)(k:Zn)(μ:Act->World->Nat)(j:findLabel c l=J (.seq .skip rest))
  (pass:∀a w,k a w->rest.wp P (Exit.jump l (λd g=>k d g/\μ d g<μ a w) Q) a w)
  (first:(∀a w,k a w->rest.wp P (Exit.jump l k Q) a w)->c.wp P (Exit.jump l k Q) a w):(Code.scope c).wp P Q a w:=
 Zjh l k μ j (first λa w f=>Code.wp_mono (λe d g h=>by
  cases e<;>first
   |exact h
   |exact⟨h.1,h.2.1⟩) (pass a w f)) λa w f=>wp_seq<|wp_skip<|pass a w f
def u5{t:Zd}{n:Nat}(h:t.size=n):t=((List.range n).map λi=>t.getD i undef).toArray:=by
 apply ZhH;simp[h];intro i a d;simp[Array.getD,a]
def Nj{w2:Z3}{b:Nat}{T:Zi}{k l n o p q r t u w:Zf}(x:w2.heap[b]?=J (.cells #[k,l,n,o,p,q,r,t,u,w] T (0,0))){v0 v1 a d v4 f v6 g h j:Zf}:((((((((((w2.setCell ⟨b,0,U⟩ v0).setCell ⟨b,1,U⟩ v1).setCell ⟨b,2,U⟩ a).setCell ⟨b,3,U⟩ d).setCell ⟨b,4,U⟩ v4).setCell ⟨b,5,U⟩ f).setCell ⟨b,6,U⟩ v6).setCell ⟨b,7,U⟩ g).setCell ⟨b,8,U⟩ h).setCell ⟨b,9,U⟩ j).heap[b]?=J (.cells #[v0,v1,a,d,v4,f,v6,g,h,j] T (0,0)):=by
 simp[World.setCell,ZfH,x]
def Ys(h:Hp)(x:Z6):Array Value:=#[.int .u64 h.base,.int .i64 h.cap,.int .i64 h.to,.bool h.Z,.int .i64 h.aa,x 0,x 1,x 2,x 3,x 4]
structure FlI (w W:World) (c:Nat) (g:Hp) (x:Nat->Value):Prop where
 below:Below (xz<|xj w) w W
 rb:W.heap[xz (xj w)+1]?=J (.cells Ya 37 (0,0))
 le:xz (xj w)+2<=c
 nb:W.heap[c]?=J (.cells (Ys g x) 37 (0,0))
 rd:∀j,j<5->Rd W (λb=>xz (xj w)+2<=b/\b<xz (xj W)/\b≠c) (.sl<|(Zv g j).map vu) (x j)
def Z1S{n:Int}(h:n=0\/n=1):Yr<|1-n:=by unfold Yr;omega
def Z22{h:Hp}(p:h.ok)(q:h.to=0\/h.to=1):(YL h).ok:=by
 obtain⟨d,f,r,t,g,j,u,x,k,l,n,y,z,o⟩:=p;exact⟨d,f,Z1S q,⟨by show _<=(0:Int);omega,by show(0:Int)<=_;omega⟩,Zga _,Zga _,g,j,k,λw a=>(by cases a),λw a=>(by cases a),l,n,o⟩
def Z7f{h:Hp}(z:h.ok){k:Nat}{v:Int}(A:ZB v):({h with E:=h.E.set k v}:Hp).ok:=by
 obtain⟨d,f,g,j,l,n,o,p,q,r,t,u,x,y⟩:=z;refine⟨d,f,g,j,l,n,o,p,by simp only[Zh5];exact q,r,t,u,x,λw a=> ?_⟩;obtain a|rfl:=ZgB a;exact y w a;exact A
def Z2e{l:Z8}(h:∀w∈l,ZB w)(i:Nat):ZB<|(l[i]?).getD 0:=by
 cases e:l[i]? with
 |none=>exact⟨Zeo,Zeo⟩
 |some x=>exact h x<|Zfc e
def Ak{h:Hp}(a:h.ok)(d:h.to=0\/h.to=1):∀k,(Xf (YL h) k).ok
 |0=>Z22 a d
 |k+1=>by
  have g:=Ak a d k;have f:=zX g<|Z2e g.dq k;exact Z7f f.1 f.2
def WZ(i:Nat):Nat:=if i<7 then 39+i else if i=7 then 38 else if i=8 then 46 else if i=9 then 47 else if i=10 then 48 else if i=11 then 7 else if i=12 then 6 else if i=14 then 8 else 0
def Dx:∀i,i<15->∀j,j<15->i≠j->WZ i≠WZ j:=Zeo
def frE(c:Nat)(g:Hp)(x:Z6)(k:Nat)(a:Zf)(u:Int):Nat->Value
 |0=>.agg<|Ys g x
 |1=>.pointer<|J ⟨c,9,U⟩
 |2=>x 4
 |3=>.int .i64 k
 |4=>a
 |_=>.int .u64 u
def Kz(fv:Int)(g':Hp)(a:Z6):Value:=.tuple #[.int .u64 fv,.agg<|Ys g' a,.int .i64 0]
def FrV(E:Z6)(fv:Int)(g':Hp)(O:(Nat->Value)->Prop)(i:Nat)(val:Zf):Prop:=
 if i<6 then val=E i else if i=6\/i=7 then ∃a,val=Kz fv g' a/\O a else if i=9 then ∃a,val=.agg (Ys g' a)/\O a else if i=8\/i=12 then val=.int .u64 fv else val=.int .i64 0
def FrV.mono{E:Z6}{fv:Int}{g':Hp}{O a:(Nat->Value)->Prop}{i:Nat}{val:Zf}(h:FrV E fv g' O i val)(d:∀x,O x->a x):FrV E fv g' a i val:=by
 unfold FrV at*;split;rename_i c;rw[if_pos c]at h;exact h;rename_i c;rw[if_neg c]at h;split;rename_i c;rw[if_pos c]at h;obtain⟨x,e,o⟩:=h;exact⟨x,e,d x o⟩;rename_i c;rw[if_neg c]at h;split;rename_i c;rw[if_pos c]at h;obtain⟨x,e,o⟩:=h;exact⟨x,e,d x o⟩;rename_i c;rw[if_neg c]at h;exact h
structure FrO (W0 W:World) (L:Nat->Bool) (v:Nat->Value) (g':Hp) (x':Nat->Value):Prop where
 own:HOwn (xz<|xj W0) W g' x'
 aj:∀j,j<5->∀b,(x' j).ownBlock=J b->L 11=xk->v 7≠.pointer (J ⟨b,0,U⟩)
structure FrC (W0:World) (E:Nat->Value) (fv:Int) (g':Hp) (L:Nat->Bool) (v:Nat->Value) (W:World):Prop where
 b:Below (xz<|xj W0) W0 W
 val:∀i,i<15->i≠11->i≠13->L i=xk->FrV E fv g' (FrO W0 W L v g') i (v<|WZ i)
 new:L 11=xk->∃c,v 7=.pointer (J ⟨c,0,U⟩)/\xz (xj W0)<=c/\c<xz (xj W)/\(L 13=xw->W.heap[c]?=J (.cells Ya 37 (0,0)))
 put:L 13=xk->∃c x',v 7=.pointer (J ⟨c,0,U⟩)/\W.heap[c]?=J (.cells (Ys g' x') 37 (0,0))/\FrO W0 W L v g' x'
 c13:L 13=xk->L 11=xk
section
variable {W0 W W':Z3}{E:Z6}{fv:Int}{g':Hp}{L:Zs}{v:Z6}
def FrO.keep{d:Zs}{v':Z6}{a:Z6}(o:FrO W0 W L v g' a)(k:∀j,j<5->∀b,(a j).ownBlock=J b->W'.heap[b]?=W.heap[b]?)(l:xz (xj W)<=xz (xj W'))
  (h:∀j,j<5->∀b,(a j).ownBlock=J b->d 11=xk->v' 7≠.pointer (J ⟨b,0,U⟩)):FrO W0 W' d v' g' a:=
 ⟨⟨λj f=>WF (o.own.own j f) λb g=>k j f b g,o.own.apart⟩,h⟩
def FrC.step(C:FrC W0 E fv g' L v W){i s:Nat}(A:i<15)(t:i≠11)(F:i≠13)(G:s=WZ i){x:Zf}(l:Below (xz<|xj W) W W')
  (H:FrV E fv g' (FrO W0 W' L v g') i x):FrC W0 E fv g' (add L i) (X0 v s x) W':=by
 subst G;have g:add L i 11=L 11:=WJ Z0;have k:add L i 13=L 13:=WJ Z0;have q:X0 v (WZ i) x 7=v 7:=TH v x (show WZ 11≠WZ i from Dx 11 Z0 i A<|ZgQ t);have B:∀f,FrO W0 W L v g' f->FrO W0 W' (add L i) (X0 v (WZ i) x) g' f:=λf o=>o.keep (λj h b d=>l.block b ((o.own.own j h).lt b d).2) l.size (λj h b d=>by rw[g,q];exact o.aj j h b d);have y:∀f,FrO W0 W' L v g' f->FrO W0 W' (add L i) (X0 v (WZ i) x) g' f:=λf o=>o.keep (λ_ _ _ _=>rfl) (Zf9 _) (λj h b d=>by rw[g,q];exact o.aj j h b d);refine⟨C.b.trans<|l.mono C.b.size,λj h u w a=> ?_,λa=> ?_,λa=> ?_,λa=> ?_⟩;by_cases e:j=i;subst e;rw[Rp];exact H.mono y;rw[WJ e]at a;rw[TH v x<|Dx j h i A e];exact(C.val j h u w a).mono B;rw[g]at a;obtain⟨c,r,n,p,D⟩:=C.new a;refine⟨c,by rw[q];exact r,n,Zfb p l.size,λz=> ?_⟩;rw[k]at z;exact(l.block c p).trans (D z);rw[k]at a;obtain⟨c,f,r,n,p⟩:=C.put a;exact⟨c,f,by rw[q];exact r,(l.block c<|Yv n).trans n,B f p⟩;rw[k]at a;rw[g];exact C.c13 a
def FrC.call(C:FrC W0 E fv g' L v W){g:Z6}(o:Below (xz<|xj W) W W')(f:HOwn (xz<|xj W) W' g' g):FrC W0 E fv g' (add L 6) (X0 v 45<|Kz fv g' g) W':=by
 refine C.step Z0 Z0 Z0 rfl o ?_;unfold FrV;rw[if_neg Z0,if_pos<|.inl rfl];refine⟨g,rfl,⟨λj d=>IY (f.own j d) λb k l=>⟨ZfB C.b.size k,l⟩,f.apart⟩,λj d b a n e=> ?_⟩;obtain⟨c,h,_,p,_⟩:=C.new n;rw[h]at e;cases e;have:=((f.own j d).lt b a).1;omega
def FrC.alloc(C:FrC W0 E fv g' L v W)(h:L 11=xw):FrC W0 E fv g' (add L 11) (X0 v 7<|.pointer<|J ⟨xz<|xj W,0,U⟩)<|W.alloc<|.cells Ya 37:=by
 have k:L 13=xw:=by
  cases e:L 13 with
  |false=>rfl
  |true=>have:=C.c13 e;rw[h]at this;cases this
 have l:Below (xz<|xj W) W<|W.alloc<|.cells Ya 37:=(Zfr _ _).alloc (Zf9 _) _;have r:xz (xj<|W.alloc<|.cells Ya 37)=xz (xj W)+1:=Z1
 have q:∀p,FrO W0 W L v g' p->FrO W0 (W.alloc<|.cells Ya 37) (add L 11) (X0 v 7<|.pointer<|J ⟨xz<|xj W,0,U⟩) g' p:=λp o=>o.keep (λj g b d=>l.block b ((o.own.own j g).lt b d).2) l.size (λj g b d _=>by
  rw[Rp];intro e;cases e;have:=((o.own.own j g).lt _ d).2;omega)
 refine⟨C.b.trans<|l.mono C.b.size,λj g f n a=> ?_,λa=> ?_,λa=> ?_,λa=> ?_⟩;rw[WJ f]at a;rw[TH v _ (s:=7) (t:=WZ j) (show WZ j≠7 from Dx j g 11 Z0 f)];exact(C.val j g f n a).mono q;exact⟨xz<|xj W,Rp _ _ _,C.b.size,Z0,λ_=>ZfG W _⟩;rw[WJ Z0,k]at a;cases a;exact zl _ _
def FrC.store(C:FrC W0 E fv g' L v W){c:Nat}(hc:v 7=.pointer (J ⟨c,0,U⟩)){y:Z6}(z:FrO W0 W L v g' y)(a:L 11=xk)(D:L 13=xw)(G:W.heap[c]?=J (.cells Ya 37 (0,0)))
  (u:∀b,b≠c->W'.heap[b]?=W.heap[b]?) (F:xz (xj W')=xz (xj W)) (x:W'.heap[c]?=J (.cells (Ys g' y) 37 (0,0))) (w:Below (xz<|xj W0) W W'):FrC W0 E fv g' (add L 13) v W':=by
 have k:add L 13 11=L 11:=WJ Z0;have r:∀n,FrO W0 W L v g' n->FrO W0 W' (add L 13) v g' n:=λn o=>o.keep (λj g b d=>u b (λe=>by subst e;exact o.aj j g b d a hc)) Z0 (λj g b d _=>o.aj j g b d a);obtain⟨A,p,t,B,_⟩:=C.new a;rw[hc]at p;cases p;refine⟨C.b.trans w,λj g l h f=> ?_,λf=> ?_,λf=> ?_,λf=>by rw[k];exact a⟩;rw[WJ h]at f;exact(C.val j g l h f).mono r;refine⟨c,hc,t,Z0,λq=> ?_⟩;rw[zl]at q;cases q;exact⟨c,y,hc,x,r y z⟩
def FrC.e(C:FrC W0 E fv g' L v W)(i:Nat)(d:i<6)(a:L i=xk):v (WZ i)=E i:=by
 have:=C.val i Z0 Z0 Z0 a;unfold FrV at this;rwa[if_pos d]at this
def FrC.t(C:FrC W0 E fv g' L v W)(i:Nat)(f:i=6\/i=7)(d:L i=xk):∃a,v (WZ i)=Kz fv g' a/\FrO W0 W L v g' a:=by
 have:=C.val i Z0 Z0 Z0 d;unfold FrV at this;rwa[if_neg Z0,if_pos f]at this
def FrC.a(C:FrC W0 E fv g' L v W)(f:L 9=xk):∃d,v 47=.agg (Ys g' d)/\FrO W0 W L v g' d:=by
 have:=C.val 9 Z0 Z0 Z0 f;unfold FrV at this;rwa[if_neg Z0,if_neg Z0,if_pos rfl]at this
def FrC.f(C:FrC W0 E fv g' L v W)(i:Nat)(d:i=8\/i=12)(a:L i=xk):v (WZ i)=.int .u64 fv:=by
 have:=C.val i Z0 Z0 Z0 a;unfold FrV at this;rwa[if_neg Z0,if_neg Z0,if_neg Z0,if_pos d]at this
def FrC.z(C:FrC W0 E fv g' L v W)(i:Nat)(d:i=10\/i=14)(a:L i=xk):v (WZ i)=.int .i64 0:=by
 have:=C.val i Z0 Z0 Z0 a;unfold FrV at this;rwa[if_neg Z0,if_neg Z0,if_neg Z0,if_neg Z0]at this
def FrC.pe(C:FrC W0 E fv g' L v W)(i:Nat)(a:i<6){s:Nat}(d:s=WZ i):FrC W0 E fv g' (add L i) (X0 v s<|E i) W:=
 C.step Z0 Z0 Z0 d (Zfr _ _) (by unfold FrV;rw[if_pos a])
def FrC.pt(C:FrC W0 E fv g' L v W){a:Z6}(o:FrO W0 W L v g' a):FrC W0 E fv g' (add L 7) (X0 v 38<|Kz fv g' a) W:=
 C.step Z0 Z0 Z0 rfl (Zfr _ _) (by unfold FrV;rw[if_neg Z0,if_pos<|.inr rfl];exact⟨a,rfl,o⟩)
def FrC.pa(C:FrC W0 E fv g' L v W){a:Z6}(o:FrO W0 W L v g' a):FrC W0 E fv g' (add L 9) (X0 v 47<|.agg<|Ys g' a) W:=
 C.step Z0 Z0 Z0 rfl (Zfr _ _) (by unfold FrV;rw[if_neg Z0,if_neg Z0,if_pos rfl];exact⟨a,rfl,o⟩)
def FrC.pf(C:FrC W0 E fv g' L v W)(i:Nat)(a:i=8\/i=12){s:Nat}(d:s=WZ i):FrC W0 E fv g' (add L i) (X0 v s<|.int .u64 fv) W:=
 C.step Z0 Z0 Z0 d (Zfr _ _) (by unfold FrV;rw[if_neg Z0,if_neg Z0,if_neg Z0,if_pos a])
def FrC.pz(C:FrC W0 E fv g' L v W)(i:Nat)(d:i=10\/i=14){s:Nat}(a:s=WZ i):FrC W0 E fv g' (add L i) (X0 v s<|.int .i64 0) W:=
 C.step Z0 Z0 Z0 a (Zfr _ _) (by unfold FrV;rw[if_neg Z0,if_neg Z0,if_neg Z0,if_neg Z0])
end
def JB{W:Z3}{G:Z4}{l:Z8}{y:Zf}(h:Rd W G (.sl<|l.map vu) y){k:Nat}{u:Int}(j:l[k]?=J u):∃b o cap,y=.slice (J ⟨b,o,U⟩) (I l) cap/\W.cell? ⟨b,o+k,U⟩=J (.int .u64 u)/\G b:=by
 have g:=(Zf3.1 j).1;generalize a:l.map vu=L at h;cases h with
 |nil=>simp at a;subst a;simp at g
 |sl _ b o cap w vs x z n p q r=>
  have d:I L=I l:=by rw[<-a,ZfC]
  have f:w=1:=by
   have:=(p (vu u) (by rw[<-a];exact ZgM<|Zfc j)).1;simpa using this.symm
  subst f;refine⟨b,o,cap,by rw[d],?_,n⟩;rw[q k Z0];have t:(flat L)[k]?=J (vu u):=by rw[<-a,zS,Zfl,j];rfl
  rw[Ri<|r k _ t]
end
end Vm
end
section
namespace Vm
open Go Go.Proofs
section
def Wt(l:Zh)(i:Int):Bool:=l.any λo=>decide (o.Y<i)&&decide (i<=o.Y+o.M)
def YS(g:Hp):Hp:=if g.aa=(I g.H) then {g with Z:=xw,ah:=[],aj:=[]}else g
def WI(h:Hp):Hp:=
 YS (if Wt (ZO h.H [] xw).1 h.aa=xk then
  {(fwd h<|(h.H[h.aa.toNat]?).getD 0).2.1 with H:=(fwd h<|(h.H[h.aa.toNat]?).getD 0).2.1.H.set h.aa.toNat (fwd h<|(h.H[h.aa.toNat]?).getD 0).1,aa:=h.aa+1}
 else {h with aa:=h.aa+1})
def Y3(h:Hp):Nat->Hp
 |0=>h
 |k+1=>if h.Z then Y3 (WI h) k else h
section
variable {h g:Hp}{p q:Pts}
def Tu{l:Zh}{i:Int}:Wt l i=xk↔ ∃o∈l,o.Y<i/\i<=o.Y+o.M:=by
 unfold Wt;simp
def Rt.ml(r:Rt h p):ZO h.H [] xw=(p.H,0):=by
 have t:=r.ak 1 Z0;simp only[Vg,Pts.mq]at t;refine LZ t ?_;unfold VI;have:p.H.filter (λo=>o.gone)=[]:=by
  rw[Zi4];intro o a;rw[t.cw o a];simp
 rw[this];rfl
def Z3G(t:Tld h p){w:Int}(f:Gos h p w 1 2):VM w=xk:=by
 unfold VM;obtain a|⟨k,_,_,_,o,_,d,_⟩:=f.vh t Z0 Z0;simp[a];simp[d]
def Body.pv(b:Body g q){i:Nat}(hs:g.aa=i)(K:i<I g.H){v:Int}(M:Gos g q v 1 2)(H:Wt q.H i=xk):Body {g with H:=g.H.set i v,aa:=(i:Int)+1} q:=by
 obtain⟨o,L,h1,h2⟩:=Tu.1 H;obtain⟨a,n,m,Y,Z,em,F,_,W⟩:=b.toTld.ob (k:=1) Z0 L;simp only[Vg]at F;have G:Zu {g with H:=g.H.set i v,aa:=(i:Int)+1}=Zu g:=by
  unfold Zu;simp
 have f:∀ {w N O},Gos {g with H:=g.H.set i v,aa:=(i:Int)+1} q w N O↔Gos g q w N O:=E8 G;have z:=b.ak 1 Z0;simp only[Vg,Pts.mq]at z;have u:∀x∈q.H,∀j:Nat,(j:Int)<=x.size->x.Y.toNat+j=i->x=o/\0<j/\(j:Int)<=x.M:=by
  intro x r j p e;obtain⟨c,d,P,Q,R,D,_⟩:=b.toTld.ob (k:=1) Z0 r;obtain C|C|C:=z.apart x r o L;subst C;exact⟨rfl,Z0,Z0⟩;omega;omega
 refine⟨⟨by rw[G];exact b.bf,λk B=> ?_⟩,by rw[G];exact b.gone,λk B x r A j p w t=> ?_,?_⟩;by_cases k1:k=1;subst k1;show Tiles (g.H.set i v) _ 0 q.H;refine z.congr Z1 λx r=> ?_;have l:=(z.ba x r).1;have X:=YE.1 l.shape;obtain⟨c,d,P,Q,R,D,T,_⟩:=b.toTld.ob (k:=1) Z0 r;have A:=z.cw x r;have S:(g.H.set i v)[x.Y.toNat]?=g.H[x.Y.toNat]? :=by
  refine Zg6 λe=> ?_;have:=(u x r 0 Z0 Z0).2.1;omega
 refine⟨l.iy,l.shape,by simpa using l.aw,Rs λj w p=>⟨λh=>(by rw[A]at h;cases h),λH=> ?_⟩,by rw[S];exact l.word⟩;have y:j<x.size.toNat:=by
  have:=(Zf3.1 p).1;simp at this;omega
 rw[ZfF y,Zfu]at p;by_cases e:x.Y.toNat+1+j=i;rw[e,Zgd K]at p;cases p;exact Z3G b.toTld M;rw[Zg6 (λh=>e h.symm)]at p;refine(LP l.gd j w ?_).2 H;rw[ZfF y,Zfu];exact p;have:=b.ak k B;have e:Zx {g with H:=g.H.set i v,aa:=(i:Int)+1} k=Zx g k:=by unfold Zx;rw[if_neg k1,if_neg k1]
 rw[e];exact this;unfold XZ;by_cases k1:k=1;subst k1;simp only[Vg]at t;rw[if_neg Z0];by_cases e:x.Y.toNat+1+j=i;rw[e,Zgd K]at t;cases t;rw[if_neg (by rw[e];simp only;omega)];exact f.2 M;rw[Zg6 (λh=>e h.symm)]at t;have:=b.ptr 1 B x r A j p w t;unfold XZ at this;rw[if_neg Z0]at this;by_cases c:g.aa<=((x.Y.toNat+1+j:Nat):Int);rw[if_pos ⟨rfl,c⟩]at this;rw[if_pos ⟨rfl,by simp only;omega⟩];exact this.imp f.2 f.2;rw[if_neg (λh=>c h.2)]at this;rw[if_neg (by simp only;omega)];exact f.2 this;have e:Zx {g with H:=g.H.set i v,aa:=(i:Int)+1} k=Zx g k:=by unfold Zx;rw[if_neg k1,if_neg k1]
 rw[e]at t;have:=b.ptr k B x r A j p w t;unfold XZ at this;by_cases c:2<k;rw[if_pos c]at this⊢;exact f.2 this;rw[if_neg c,if_neg (λh=>k1 h.1)]at this;rw[if_neg c,if_neg (λh=>k1 h.1)];exact f.2 this;have:=b.room;simpa using this
def Body.uv(b:Body g q){i:Nat}(z:g.aa=i)(r:¬Wt q.H i=xk):Body {g with aa:=(i:Int)+1} q:=by
 refine⟨⟨b.bf,b.ak⟩,b.gone,λk o x d f j l w t=> ?_,b.room⟩;have:=b.ptr k o x d f j l w t;unfold XZ at this⊢;by_cases c:2<k;rw[if_pos c]at this⊢;exact this;rw[if_neg c]at this⊢;by_cases k1:k=1;subst k1;by_cases c:g.aa<=((x.Y.toNat+1+j:Nat):Int);rw[if_pos ⟨rfl,c⟩]at this
 have p:x.Y.toNat+1+j≠i:=λe=>r (Tu.2 ⟨x,d,by
  obtain⟨a,n,m,u,y,em,_⟩:=b.toTld.ob (k:=1) Z0 d;omega⟩)
 rw[if_pos ⟨rfl,by simp only;omega⟩];exact this;rw[if_neg (λh=>c h.2)]at this;rw[if_neg (by simp only;omega)];exact this;rw[if_neg (λh=>k1 h.1)]at this⊢;exact this
def Body.stop(b:Body g q)(F:g.aa=I g.H):Body {g with Z:=xw,ah:=[],aj:=[]} ⟨q.H,q.ac,[],[]⟩:=by
 have A:=Ww.1 b.bf;have z:∀k a:Int,(k=1\/k=2)->ZM (Zu {g with Z:=xw,ah:=[],aj:=[]}) k a=ZM (Zu g) k a:=λk a d=>by
  obtain rfl|rfl:=d<;>rfl
 have f:∀ {w:Int},Gos g q w 1 2->Gos {g with Z:=xw,ah:=[],aj:=[]} ⟨q.H,q.ac,[],[]⟩ w 1 2:=λ{w} p=>by
  obtain rfl|⟨k,o,d,t,rfl⟩:=p;exact .inl rfl;refine .inr ⟨k,o,d,?_,(z k _ d).symm⟩;obtain rfl|rfl:=d<;>exact t
 refine⟨⟨Ww.2 ?_,λk d=> ?_⟩,λk d o t=> ?_,λk d x l p j u w y=> ?_,?_⟩;simp only[Zu,Zgc]at A⊢;omega;have h:k=1\/k=2\/k=3\/k=4:=Z0;obtain rfl|rfl|rfl|rfl:=h;exact b.ak 1 Z0;exact b.ak 2 Z0;exact Zf9 0;exact Zf9 0;have h:k=3\/k=4:=Z0;obtain rfl|rfl:=h<;>cases t
 have h:k=1\/k=2\/k=3\/k=4:=Z0;obtain rfl|rfl|rfl|rfl:=h;have:=b.ptr 1 Z0 x l p j u w y;obtain⟨a,n,m,C,D,em,r,_,B⟩:=b.toTld.ob (k:=1) Z0 l;simp only[Vg]at r;unfold XZ at this⊢;rw[if_neg Z0,if_neg Z0]at this;rw[if_neg Z0,if_neg (by simp only;omega)];exact f this;have:=b.ptr 2 Z0 x l p j u w y;unfold XZ at this⊢;rw[if_neg Z0,if_neg Z0]at this⊢;exact f this;cases l;cases l;have:=b.room;show(I g.H:Int)+I g.ac+Xb ⟨q.H,q.ac,[],[]⟩<=g.cap;simp[Xb,Y1];omega
structure ScanTo (h:Hp) (p:Pts) (g:Hp) (q:Pts):Prop where
 eq:WI h=g
 rt:Rt g q
 H:∃ws,I g.H=I h.H+ws/\∀j:Nat,(j:Int)<h.aa->g.H[j]?=h.H[j]?
 ac:g.ac=h.ac
 E:g.E=h.E
 num:g.base=h.base/\g.cap=h.cap/\g.to=h.to/\g.aa=h.aa+1
 gk:∃r,q.H=p.H++r
 gj:q.ac=p.ac
 room:g.Z=xk->(I g.H:Int)+Xb q=I h.H+Xb p
 tv:(I g.H:Int)<=I h.H+Xb p
 via:∃(i:Nat) (w v:Int) (f:Hp) (s:Pts),h.aa=i/\h.H[i]?=J w/\g=YS {f with H:=f.H.set i v,aa:=(i:Int)+1}/\(q.H=s.H/\q.ac=s.ac)/\(g.Z=xk->q=s)/\((v=w/\f=h/\s=p)\/(Wt s.H i=xk/\(Gos h p w 1 2\/Gos h p w 3 4)/\FwdTo h p w v f s))
def Rt.aa(r:Rt h p)(hc:h.Z=xk):∃g q,ScanTo h p g q:=by
 obtain⟨i,u⟩:=Zfi r.gy;have S:i<I h.H:=by have:=r.ld hc;omega
 have G:=r.ml;have fin:∀(f:Hp) (s:Pts),Body f s->Th f s->f.aa=(i:Int)+1->f.Z=xk->(i:Int)+1<=I f.H->(∀w∈f.E,Gos f s w 1 2)->I f.E<=16->∃q,Rt (YS f) q/\(q.H=s.H/\q.ac=s.ac)/\((YS f).Z=xk->q=s):=by
  intro f s b o Z x W Y X;unfold YS;by_cases e:f.aa=I f.H;rw[if_pos e];have b':=b.stop e;refine⟨_,⟨b',X,by show 0<=f.aa;omega,by show f.aa<=I f.H;omega,λh=>Zel,λ_=>⟨e,rfl,rfl⟩,λh=>Zel,λw l=> ?_⟩,⟨rfl,rfl⟩,λh=>Zel⟩;obtain rfl|⟨k,o,T,A,rfl⟩:=Y w l;exact .inl rfl;refine .inr ⟨k,o,T,?_,?_⟩;obtain rfl|rfl:=T<;>exact A;obtain rfl|rfl:=T<;>rfl;rw[if_neg e];exact⟨s,⟨b,X,Z0,Z0,λ_=>Z0,λh=>(by rw[x]at h;cases h),λ_=>o,Y⟩,⟨rfl,rfl⟩,λ_=>rfl⟩
 have t:∀f:Hp,(YS f).H=f.H/\(YS f).ac=f.ac/\(YS f).E=f.E/\(YS f).base=f.base/\(YS f).cap=f.cap/\(YS f).to=f.to/\(YS f).aa=f.aa:=λf=>by
  unfold YS;split<;>exact⟨rfl,rfl,rfl,rfl,rfl,rfl,rfl⟩
 have l:h.H[i]?=J h.H[i]:=Zf4 S;generalize h.H[i]=w at l;by_cases R:Wt p.H i=xk;obtain⟨o,A,h1,h2⟩:=Tu.1 R;obtain⟨a,n,m,ea,en,em,a0,_⟩:=r.toTld.ob (k:=1) Z0 A;have B:Gos h p w 1 2\/Gos h p w 3 4:=by
  have t1:=r.ak 1 Z0;have:=r.ptr 1 Z0 o A (t1.cw o A) (i-a-1) Z0 w (by simp only[Vg];rw[ea,show(a:Int).toNat+1+(i-a-1)=i by omega];exact l);unfold XZ at this;rw[if_neg Z0,if_pos ⟨rfl,Z0⟩]at this;exact this
 obtain⟨v,g,q,f⟩:=r.toBody.fg r.fi B;have Z:g.aa=i:=f.ext.aa.trans u;obtain⟨ws,y⟩:=f.ext.H;obtain⟨rs,F⟩:=f.ext.gk;have C:i<I g.H:=by rw[y,ZfN];omega
 have D:Wt q.H i=xk:=Tu.2 ⟨o,by rw[F];exact Zge _ A,h1,h2⟩;have b:=f.body.pv Z C f.vm D;have eq:WI h=YS {g with H:=g.H.set i v,aa:=(i:Int)+1}:=by
  unfold WI;rw[G,u,if_pos R];simp only[Zfh,l,Zfw,f.fwd]
 have x:g.Z=xk:=f.ext.Z.trans hc;have W:Zu {g with H:=g.H.set i v,aa:=(i:Int)+1}=Zu g:=by unfold Zu;simp
 have on:Th {g with H:=g.H.set i v,aa:=(i:Int)+1} q:=by
  have:=f.eo<|r.eo hc;unfold Th at this⊢;rw[W];exact this
 obtain⟨s,rt,⟨P,Q⟩,z⟩:=fin _ q b on rfl x Ze9 (λw l=>(E8 W).2<|f.ext.iw Z0 Z0<|r.E w (by rw[<-f.ext.E];exact l)) (by show I g.E<=16;rw[f.ext.E];exact r.fk);obtain⟨k1,H,K,L,M,N,O⟩:=t {g with H:=g.H.set i v,aa:=(i:Int)+1};rw[<-eq]at rt k1 H K L M N O z;have d:(WI h).H.length=I g.H:=by rw[k1];simp
 refine⟨_,s,rfl,rt,⟨I ws,by rw[d,y,ZfN],λj hj=> ?_⟩,H.trans f.ext.ac,K.trans f.ext.E,⟨L.trans f.ext.base,M.trans f.ext.cap,N.trans f.ext.rh,by rw[O,u]⟩,⟨rs,by rw[P,F]⟩,Q.trans f.ext.gj,λh=> ?_,?_,i,w,v,g,q,u,l,eq,⟨P,Q⟩,z,.inr ⟨D,B,f⟩⟩;rw[k1];simp only;rw[Zg6 Z0,y,Zfx Z0];rw[z h,d];exact f.ext.room;rw[d];have:=f.ext.room;omega;have b:=r.toBody.uv u R;have eq:WI h=YS {h with aa:=(i:Int)+1}:=by
  unfold WI;rw[G,u,if_neg R]
 obtain⟨s,rt,⟨P,Q⟩,z⟩:=fin _ p b (r.eo hc) rfl hc (by simp only;omega) r.E r.fk;obtain⟨k1,H,K,L,M,N,O⟩:=t {h with aa:=(i:Int)+1};rw[<-eq]at rt k1 H K L M N O z;refine⟨_,s,rfl,rt,⟨0,by rw[k1];rfl,λj hj=>by rw[k1]⟩,H,K,⟨L,M,N,by rw[O,u]⟩,⟨[],by rw[P,Zgl]⟩,Q,λh=> ?_,?_,i,w,w,h,p,u,l,?_,⟨P,Q⟩,z,.inl ⟨rfl,rfl,rfl⟩⟩;rw[z h,k1];rw[k1];simp only;omega;obtain⟨_,e⟩:=Zf3.1 l;rw[eq,<-e,List.set_getElem_self]
end
end
end Vm
end
section
namespace Vm
open Go Go.Proofs Go.RowKit
structure NowI (B:Nat->Prop) (W:World) (b:Nat) (g:Hp) (x:Nat->Value):Prop where
 le:B b
 nb:W.heap[b]?=J (.cells (Ys g x) 37 (0,0))
 rd:∀j,j<5->Rd W (λc=>B c/\c<xz (xj W)/\c≠b) (.sl<|(Zv g j).map vu) (x j)
def K0(B:Z4)(W:Z3)(b:Nat)(g':Hp)(e:Ending)(a:Z3):Prop:=e=.returned (.int .i64 0)/\W.grownBy a (J b)/\∃d,NowI B a b g' d
def Ec(W:Z3)(B:Z4)(b:Nat)(g:Hp)(x:Z6)(S:NowI B W b g x)(A:g.ok)(i:Nat)(F:g.aa=i)(G:i<I g.H)(pt:Bool)(K:pt=xw\/g.H[i]?=J 0):
  Calls Sol.prog 97 #[.bool pt,.pointer<|J ⟨b,0,U⟩] W (K0 B W b<|YS {g with aa:=(i:Int)+1}):=by
 obtain⟨u,M⟩:∃u,g.H[i]?=J u:=⟨_,Zf4 G⟩;obtain⟨N,go,cap,n,C,r⟩:=JB (S.rd 0 Z0) M;rw[show I (Zv g 0)=(I g.H) from rfl]at n;have f:=S.nb;unfold Ys at f;rw[n,F]at f;have Y:∀j,W.cell? ⟨b,j,U⟩=(#[.int .u64 g.base,.int .i64 g.cap,.int .i64 g.to,.bool g.Z,.int .i64 i,.slice (J ⟨N,go,U⟩) (I g.H) cap,x 1,x 2,x 3,x 4]:Array Value)[j]? :=λj=>Zfg _ _ _ _ _ _ f;have T:∀j,W.frozen? ⟨b,j,U⟩=xw:=λj=>Yw f;have R:=A.H;have X:=Zz ((i:Int)+1) Z0 Z0;have L:((i:Int)< (I g.H:Int))=True:=Zi1 Z0;have y:=Zfa S;have w:=Zfa<|And.intro f<|And.intro n<|And.intro r F;have q:pt=xw\/pt=xk/\u=0:=by
  obtain h|h:=K;exact .inl h;rw[M]at h;cases pt;exact .inl rfl;exact .inr ⟨rfl,ZgR h⟩
 clear S f n r K F;go_enter Sol.func97,Try.ntmps97;have p:∀c v,xz (xj<|W.setCell c v)=xz (xj W):=λc v=>ZeL;by_cases d:i+1=I g.H
 .have o:((i:Int)+1==(I g.H:Int))=xk:=Ze9;have k:=Zfa d;clear d;have fin:K0 B W b (YS {g with aa:=(i:Int)+1}) (.returned<|.int .i64 0)<|(((W.setCell ⟨b,4,U⟩<|.int .i64<|(i:Int)+1).setCell ⟨b,3,U⟩<|.bool xw).setCell ⟨b,7,U⟩<|.slice U 0 0).setCell ⟨b,8,U⟩<|.slice U 0 0:=by
   have D:YS {g with aa:=(i:Int)+1}= {g with aa:=(i:Int)+1,Z:=xw,ah:=[],aj:=[]}:=by
    unfold YS;rw[if_pos (by show(i:Int)+1=(I g.H:Int);have:=k.out;omega)]
   rw[D];have l:∀c,c≠b->((((W.setCell ⟨b,4,U⟩<|.int .i64<|(i:Int)+1).setCell ⟨b,3,U⟩<|.bool xw).setCell ⟨b,7,U⟩<|.slice U 0 0).setCell ⟨b,8,U⟩<|.slice U 0 0).heap[c]?=W.heap[c]? :=λc a=>by
    simp[World.setCell,ZfH,ZgQ a]
   have t:xz (xj<|(((W.setCell ⟨b,4,U⟩<|.int .i64<|(i:Int)+1).setCell ⟨b,3,U⟩<|.bool xw).setCell ⟨b,7,U⟩<|.slice U 0 0).setCell ⟨b,8,U⟩<|.slice U 0 0)=xz (xj W):=ZeL;refine⟨rfl,⟨rfl,rfl,rfl,Nat.le_of_eq t.symm,λc _ a=>l c<|λe=>a (by rw[e])⟩,λj=>if j=2\/j=3 then .slice U 0 0 else x j,y.out.le,?_,λj H=> ?_⟩;have:=w.out.1;have z:=w.out.2.1;simp[World.setCell,ZfH,this,Ys,z];have:j=2\/j=3\/(j≠2/\j≠3):=Z0;obtain rfl|rfl|⟨O,P⟩:=this;exact .nil _ _ Zen;exact .nil _ _ Zen;have Q:Zv {g with aa:=(i:Int)+1,Z:=xw,ah:=[],aj:=[]} j=Zv g j:=by
    have:j=0\/j=1\/j=4:=Z0;obtain rfl|rfl|rfl:=this<;>rfl
   rw[Q];simp only[O,P,or_self,Zg3];exact(y.out.rd j H).keep (λc a=>l c a.2.2) λc a=>⟨a.1,by rw[t];exact a.2.1,a.2.2⟩
  obtain rfl|⟨rfl,rfl⟩:=q;all_goals
   go_wp2;exact ZfV (v:=.int .i64 0) ZeJ rfl fin
 .have o:((i:Int)+1==(I g.H:Int))=xw:=Ze9;have k:=Zfa d;clear d;have fin:K0 B W b (YS {g with aa:=(i:Int)+1}) (.returned<|.int .i64 0)<|W.setCell ⟨b,4,U⟩<|.int .i64<|(i:Int)+1:=by
   have D:YS {g with aa:=(i:Int)+1}= {g with aa:=(i:Int)+1}:=by
    unfold YS;rw[if_neg (by show ¬(i:Int)+1=(I g.H:Int);have:=k.out;omega)]
   rw[D];have l:∀c,c≠b->(W.setCell ⟨b,4,U⟩<|.int .i64<|(i:Int)+1).heap[c]?=W.heap[c]? :=λc a=>Zft _ _ _ _ a;have t:=p ⟨b,4,U⟩<|.int .i64<|(i:Int)+1;refine⟨rfl,⟨rfl,rfl,rfl,Nat.le_of_eq t.symm,λc _ a=>l c<|λe=>a (by rw[e])⟩,x,y.out.le,?_,λj H=> ?_⟩;have:=w.out.1;have z:=w.out.2.1;simp[World.setCell,ZfH,this,Ys,z];exact(y.out.rd j H).keep (λc a=>l c a.2.2) λc a=>⟨a.1,by rw[t];exact a.2.1,a.2.2⟩
  obtain rfl|⟨rfl,rfl⟩:=q;all_goals
   go_wp2;exact ZfV (v:=.int .i64 0) ZeJ rfl fin
def Iu{B W b g x}(S:NowI B W b g x)n:W.grownBy (W.setCell ⟨b,4,U⟩<|.int .i64 n) (J b)/\NowI B (W.setCell ⟨b,4,U⟩<|.int .i64 n) b {g with aa:=n} x:=by
 have d:∀c,c≠b->(W.setCell ⟨b,4,U⟩<|.int .i64 n).heap[c]?=W.heap[c]? :=λc a=>Zft _ _ _ _ a;have h:xz (xj<|W.setCell ⟨b,4,U⟩<|.int .i64 n)=xz (xj W):=Z1;refine⟨⟨rfl,rfl,rfl,Z0,Ze7⟩,S.le,?_,λj f=> ?_⟩;have:=S.nb;simp[World.setCell,ZfH,this,Ys];exact(S.rd j f).keep (λc a=>d c a.2.2) λc a=>Ze8
def Z4W{B W b g x}(S:NowI B W b g x):W.grownBy (((W.setCell ⟨b,3,U⟩<|.bool xw).setCell ⟨b,7,U⟩<|.slice U 0 0).setCell ⟨b,8,U⟩<|.slice U 0 0) (J b)/\
  NowI B (((W.setCell ⟨b,3,U⟩<|.bool xw).setCell ⟨b,7,U⟩<|.slice U 0 0).setCell ⟨b,8,U⟩<|.slice U 0 0) b {g with Z:=xw,ah:=[],aj:=[]} (λj=>if j=2\/j=3 then .slice U 0 0 else x j):=by
 have d:∀c,c≠b->(((W.setCell ⟨b,3,U⟩<|.bool xw).setCell ⟨b,7,U⟩<|.slice U 0 0).setCell ⟨b,8,U⟩<|.slice U 0 0).heap[c]?=W.heap[c]? :=λc a=>by
  simp[World.setCell,ZfH,ZgQ a]
 have n:xz (xj<|((W.setCell ⟨b,3,U⟩<|.bool xw).setCell ⟨b,7,U⟩<|.slice U 0 0).setCell ⟨b,8,U⟩<|.slice U 0 0)=xz (xj W):=Z1;refine⟨⟨rfl,rfl,rfl,Z0,Ze7⟩,S.le,?_,λj k=> ?_⟩;have:=S.nb;simp[World.setCell,ZfH,this,Ys];have:j=2\/j=3\/(j≠2/\j≠3):=Z0;obtain rfl|rfl|⟨f,h⟩:=this;exact .nil _ _ Zen;exact .nil _ _ Zen;have l:Zv {g with Z:=xw,ah:=[],aj:=[]} j=Zv g j:=by
  have:j=0\/j=1\/j=4:=Z0;obtain rfl|rfl|rfl:=this<;>rfl
 rw[l];simp[f,h,or_self,Zg3];exact(S.rd j k).keep (λc a=>d c a.2.2) λc a=>Ze8
def l6(W:Z3)(B:Z4)(b:Nat)(b4:∀c,xz (xj W)<=c->B c)(g:Hp)(x:Z6)(S:NowI B W b g x)(Z:g.ok)(i:Nat)(hi:g.aa=i)(f5:i<I g.H){u:Int}(hu:g.H[i]?=J u)(f7:¬u=0){v:Int}{g1:Hp}(hf:fwd g u=(v,g1,0))(d0:i<I g1.H)(d5:g1.aa=i):
  Calls Sol.prog 97 #[.bool xk,.pointer<|J ⟨b,0,U⟩] W (K0 B W b<|YS {g1 with H:=g1.H.set i v,aa:=(i:Int)+1}):=by
 obtain⟨gb,go,cap,G,d7,b9⟩:=JB (S.rd 0 Z0) hu;rw[show I (Zv g 0)=(I g.H) from rfl]at G;have w:=S.nb;unfold Ys at w;rw[G,hi]at w;have yb:∀j,W.cell? ⟨b,j,U⟩=(#[.int .u64 g.base,.int .i64 g.cap,.int .i64 g.to,.bool g.Z,.int .i64 i,.slice (J ⟨gb,go,U⟩) (I g.H) cap,x 1,x 2,x 3,x 4]:Array Value)[j]? :=λj=>Zfg _ _ _ _ _ _ w;have f6:=Z.H;have uu:=Z.gh u<|Zfc hu;have wi:=Zz ((i:Int)+1) Z0 Z0;have e5:((i:Int)< (I g.H:Int))=True:=Zi1 Z0;have hF:∀W',Below (xz<|xj W) W W'->Calls Sol.prog 33 #[.agg #[.int .u64 g.base,.int .i64 g.cap,.int .i64 g.to,.bool g.Z,.int .i64 i,.slice (J ⟨gb,go,U⟩) (I g.H) cap,x 1,x 2,x 3,x 4],.int .u64 u] W' (FwdPost W' (v,g1,0)):=λW' hb=>by
  have:=E7 W' (λc=>B c/\c<xz (xj W)/\c≠b) (λc f=>Zfb f.2.1 hb.size) g Z x (λj P=>(S.rd j P).keep (λc f=>hb.block c f.2.1) λ_ q=>q) u uu;rw[hf]at this;unfold ZN at this;rw[G,hi]at this;exact this
 have HF:=Zfa hF;have c7:=Zfa b4;have HS:=Zfa S;have HN:=Zfa<|And.intro w<|And.intro G<|And.intro b9 hi;have C:=(zX Z uu);rw[hf]at C;have e6:=Zfa C;have d6:=Yv w;clear S w G b9 hi hF hf C b4;go_enter Sol.func97,Try.ntmps97;go_upto_region 6 with (go_at_call 33;refine(HF.out _<|Zfr _ _).mono ?_;rintro e w9 ⟨x9,rfl,b7,h⟩;obtain⟨a0,H,f0⟩:=V6<|h.own 0 Z0;obtain⟨L,Q,f1⟩:=V6<|h.own 1 Z0;obtain⟨M,R,f2⟩:=V6<|h.own 2 Z0;obtain⟨N,T,f3⟩:=V6<|h.own 3 Z0;obtain⟨O,X,f4⟩:=V6<|h.own 4 Z0;obtain⟨a,rfl⟩:=BV (h.own 0 Z0) f0 (by show 0<I g1.H;omega);rw[show I (Zv g1 0)=(I g1.H) from rfl]at f0;unfold ZN;rw[f0,f1,f2,f3,f4];have k:=Zfa<|And.intro b7<|And.intro h<|And.intro f0<|And.intro f1<|And.intro f2<|And.intro f3 f4;clear b7 h f0 f1 f2 f3 f4);have e3:=k.out.1.size;have a7:Below (xz<|xj W) W<|w9.alloc<|.cells #[.int .u64 g1.base,.int .i64 g1.cap,.int .i64 g1.to,.bool g1.Z,.int .i64 i,.slice (J ⟨a,0,U⟩) (I g1.H) H,.slice L (I<|Zv g1 1) Q,.slice M (I<|Zv g1 2) R,.slice N (I<|Zv g1 3) T,.slice O (I<|Zv g1 4) X] 37:=k.out.1.alloc e3 _;have a9:=ZfG w9<|.cells #[.int .u64 g1.base,.int .i64 g1.cap,.int .i64 g1.to,.bool g1.Z,.int .i64 i,.slice (J ⟨a,0,U⟩) (I g1.H) H,.slice L (I<|Zv g1 1) Q,.slice M (I<|Zv g1 2) R,.slice N (I<|Zv g1 3) T,.slice O (I<|Zv g1 4) X] 37;have b3:xz (xj<|w9.alloc<|.cells #[.int .u64 g1.base,.int .i64 g1.cap,.int .i64 g1.to,.bool g1.Z,.int .i64 i,.slice (J ⟨a,0,U⟩) (I g1.H) H,.slice L (I<|Zv g1 1) Q,.slice M (I<|Zv g1 2) R,.slice N (I<|Zv g1 3) T,.slice O (I<|Zv g1 4) X] 37)=xz (xj w9)+1:=Z1;have l:HOwn (xz<|xj W) (w9.alloc<|.cells #[.int .u64 g1.base,.int .i64 g1.cap,.int .i64 g1.to,.bool g1.Z,.int .i64 i,.slice (J ⟨a,0,U⟩) (I g1.H) H,.slice L (I<|Zv g1 1) Q,.slice M (I<|Zv g1 2) R,.slice N (I<|Zv g1 3) T,.slice O (I<|Zv g1 4) X] 37) g1 x9:=⟨λj P=>WF (k.out.2.1.own j P) λc f=>Zfp w9 _ c ((k.out.2.1.own j P).lt c f).2,k.out.2.1.apart⟩;have e8:xz (xj W)<=a/\a<xz (xj w9):=(k.out.2.1.own 0 Z0).lt a (by rw[k.out.2.2.1];rfl);obtain⟨K,b5⟩:∃K,K=w9.alloc (.cells #[.int .u64 g1.base,.int .i64 g1.cap,.int .i64 g1.to,.bool g1.Z,.int .i64 i,.slice (J ⟨a,0,U⟩) (I g1.H) H,.slice L (I<|Zv g1 1) Q,.slice M (I<|Zv g1 2) R,.slice N (I<|Zv g1 3) T,.slice O (I<|Zv g1 4) X] 37):=⟨_,rfl⟩;rw[<-b5]at a7 a9 b3 l⊢;clear b5;have a5:=(a7.block b d6).trans HN.out.1;have y7:∀j,K.cell? ⟨xz<|xj w9,j,U⟩=(#[.int .u64 g1.base,.int .i64 g1.cap,.int .i64 g1.to,.bool g1.Z,.int .i64 i,.slice (J ⟨a,0,U⟩) (I g1.H) H,.slice L (I<|Zv g1 1) Q,.slice M (I<|Zv g1 2) R,.slice N (I<|Zv g1 3) T,.slice O (I<|Zv g1 4) X]:Array Value)[j]? :=λj=>Zfg _ _ _ _ _ _ a9;have e4:∀j,K.cell? ⟨b,j,U⟩=(#[.int .u64 g.base,.int .i64 g.cap,.int .i64 g.to,.bool g.Z,.int .i64 i,.slice (J ⟨gb,go,U⟩) (I g.H) cap,x 1,x 2,x 3,x 4]:Array Value)[j]? :=λj=>Zfg _ _ _ _ _ _ a5;have c8:∀j,K.frozen? ⟨b,j,U⟩=xw:=λj=>Yw a5;have z:=Zfa<|And.intro a7<|And.intro l<|And.intro b3 a5;clear a7 l b3 a5 a9;go_upto_region 7 with fail;obtain⟨d,t⟩:∃d,d=((((((((((K.setCell ⟨b,0,U⟩<|.int .u64 g1.base).setCell ⟨b,1,U⟩<|.int .i64 g1.cap).setCell ⟨b,2,U⟩<|.int .i64 g1.to).setCell ⟨b,3,U⟩<|.bool g1.Z).setCell ⟨b,4,U⟩<|.int .i64 i).setCell ⟨b,5,U⟩<|.slice (J ⟨a,0,U⟩) (I g1.H) H).setCell ⟨b,6,U⟩<|.slice L (I<|Zv g1 1) Q).setCell ⟨b,7,U⟩<|.slice M (I<|Zv g1 2) R).setCell ⟨b,8,U⟩<|.slice N (I<|Zv g1 3) T).setCell ⟨b,9,U⟩<|.slice O (I<|Zv g1 4) X):=⟨_,rfl⟩;rw[<-t];have b0:d.heap[b]?=J (.cells #[.int .u64 g1.base,.int .i64 g1.cap,.int .i64 g1.to,.bool g1.Z,.int .i64 i,.slice (J ⟨a,0,U⟩) (I g1.H) H,.slice L (I<|Zv g1 1) Q,.slice M (I<|Zv g1 2) R,.slice N (I<|Zv g1 3) T,.slice O (I<|Zv g1 4) X] 37 (0,0)):=by rw[t];exact Nj z.out.2.2.2
 have p:∀c,c≠b->d.heap[c]?=K.heap[c]? :=λc f=>by rw[t];exact Si f
 have c5:xz (xj d)=xz (xj K):=by rw[t];simp[World.setCell]
 have a6:Below 0 K d:=by rw[t];exact Uy (Zfr _ _)<|Zga _
 have a8:K.grownBy d<|J b:=⟨a6.os,a6.tape,a6.output,a6.size,λc _ f=>p c<|λe=>f (by rw[e])⟩;clear t;have n:HOwn (xz<|xj W) d g1 x9:=⟨λj P=>WF (z.out.2.1.own j P) λc f=>p c (by have:=((z.out.2.1.own j P).lt c f).1;omega),z.out.2.1.apart⟩;have F:=n.own 0 Z0;rw[k.out.2.2.1,show I (Zv g1 0)=(I g1.H) from rfl]at F;obtain⟨z0,c1⟩:∃z0,g1.H[i]?=J z0:=⟨_,Zf4 d0⟩;have ec:d.cell? ⟨a,i,U⟩=J (.int .u64 z0):=by
  rw[F.cellAt i Z0];simp[Yx,Zv,c1]
 have ef:d.frozen? ⟨a,i,U⟩=xw:=F.frozenAt i;have y3:∀j,d.cell? ⟨b,j,U⟩=(#[.int .u64 g1.base,.int .i64 g1.cap,.int .i64 g1.to,.bool g1.Z,.int .i64 i,.slice (J ⟨a,0,U⟩) (I g1.H) H,.slice L (I<|Zv g1 1) Q,.slice M (I<|Zv g1 2) R,.slice N (I<|Zv g1 3) T,.slice O (I<|Zv g1 4) X]:Array Value)[j]? :=λj=>Zfg _ _ _ _ _ _ b0;have e9:((i:Int)< (I g1.H:Int))=True:=Zi1 Z0;have A:=Zfa<|And.intro b0<|And.intro p<|And.intro c5<|And.intro a8<|And.intro n F;clear b0 p c5 a8 n F y7 e4 c8 c1;go_upto_region 8 with fail;have b8:a≠b:=Z0;obtain⟨b2,e0⟩:=A.out.2.2.2.2.2.stored i<|.int .u64 v;have r:∀c,c≠a->(d.setCell ⟨a,i,U⟩<|.int .u64 v).heap[c]?=d.heap[c]? :=λc f=>Zft _ _ _ _ f;have c6:xz (xj<|d.setCell ⟨a,i,U⟩<|.int .u64 v)=xz (xj d):=ZeL;have D:=(r b<|ZgQ b8).trans A.out.1;have S4:NowI B (d.setCell ⟨a,i,U⟩<|.int .u64 v) b {g1 with H:=g1.H.set i v} x9:=by
  refine⟨HS.out.le,?_,λj P=> ?_⟩;rw[D];unfold Ys;rw[k.out.2.2.1,k.out.2.2.2.1,k.out.2.2.2.2.1,k.out.2.2.2.2.2.1,k.out.2.2.2.2.2.2];simp only[d5];have c0:∀c,xz (xj W)<=c->c< xz (xj<|d.setCell ⟨a,i,U⟩<|.int .u64 v)->B c/\c< xz (xj<|d.setCell ⟨a,i,U⟩<|.int .u64 v)/\c≠b:=λc h1 h2=>⟨c7.out c h1,h2,Z0⟩;by_cases e:j=0;subst e;have hn:Yx .u64 (g1.H.set i v)=(Yx .u64<|Zv g1 0).set i (.int .u64 v):=yV _ _ _ _;rw[<-hn]at b2;show Rd _ _ (.sl<|(g1.H.set i v).map vu)<|x9 0;rw[k.out.2.2.1];have d9:I g1.H=I (g1.H.set i v):=by rw[Zh5]
  have e1:(d.setCell ⟨a,i,U⟩<|.int .u64 v).ownsRow (xz<|xj W) 24 1 (.slice (J ⟨a,0,U⟩) (I g1.H) H) (I<|g1.H.set i v)<|Yx .u64<|g1.H.set i v:=by rw[<-d9];exact b2
  exact Ju e1 c0;have d8:Zv {g1 with H:=g1.H.set i v} j=Zv g1 j:=by
   have:j=1\/j=2\/j=3\/j=4:=Z0;obtain rfl|rfl|rfl|rfl:=this<;>rfl
  rw[d8];refine Ju (WF (A.out.2.2.2.2.1.own j P) λc f=>r c λe2=> ?_) c0;exact A.out.2.2.2.2.1.apart 0 j Z0 P c (by rw[e2,k.out.2.2.1];rfl) f
 have G4:W.grownBy (d.setCell ⟨a,i,U⟩<|.int .u64 v)<|J b:=by
  have g2:=UW z.out.1<|J b;have g3:=TX g2 A.out.2.2.2.1;refine⟨g3.os,g3.tape,g3.output,by rw[c6];exact g3.size,λc f hn=> ?_⟩;rw[r c Z0];exact g3.block c f hn
 obtain⟨W4,b6⟩:∃W4,W4=d.setCell ⟨a,i,U⟩ (.int .u64 v):=⟨_,rfl⟩;rw[<-b6]at S4 G4 D⊢;clear b6 r c6 b2 e0;have y4:∀j,W4.cell? ⟨b,j,U⟩=(#[.int .u64 g1.base,.int .i64 g1.cap,.int .i64 g1.to,.bool g1.Z,.int .i64 i,.slice (J ⟨a,0,U⟩) (I g1.H) H,.slice L (I<|Zv g1 1) Q,.slice M (I<|Zv g1 2) R,.slice N (I<|Zv g1 3) T,.slice O (I<|Zv g1 4) X]:Array Value)[j]? :=λj=>Zfg _ _ _ _ _ _ D;have e7:∀j,W4.frozen? ⟨b,j,U⟩=xw:=λj=>Yw D;have Y:=Zfa<|And.intro S4 G4;clear S4 G4 D ec ef y3;by_cases o:i+1=I g1.H
 .have b1:((i:Int)+1==(I g1.H:Int))=xk:=Ze9;have y:=Zfa o;clear o;go_wp2;refine ZfV (v:=.int .i64 0) ZeJ rfl ?_;have he:YS {g1 with H:=g1.H.set i v,aa:=(i:Int)+1}= {g1 with H:=g1.H.set i v,aa:=(i:Int)+1,Z:=xw,ah:=[],aj:=[]}:=by
   unfold YS;rw[if_pos (by show(i:Int)+1=(I (g1.H.set i v):Int);rw[Zh5];have:=y.out;omega)]
  rw[he];obtain⟨p1,p2⟩:=Iu Y.out.1<|(i:Int)+1;obtain⟨p3,p4⟩:=Z4W p2;exact⟨rfl,TX (TX Y.out.2 p1) p3,_,p4⟩
 .have b1:((i:Int)+1==(I g1.H:Int))=xw:=Ze9;have y:=Zfa o;clear o;go_wp2;refine ZfV (v:=.int .i64 0) ZeJ rfl ?_;have he:YS {g1 with H:=g1.H.set i v,aa:=(i:Int)+1}= {g1 with H:=g1.H.set i v,aa:=(i:Int)+1}:=by
   unfold YS;rw[if_neg (by show ¬(i:Int)+1=(I (g1.H.set i v):Int);rw[Zh5];have:=y.out;omega)]
  rw[he];obtain⟨p1,p2⟩:=Iu Y.out.1<|(i:Int)+1;exact⟨rfl,TX Y.out.2 p1,_,p2⟩
def Z7M{g:Hp}{p:Pts}(r:Rt g p){i:Nat}(B:g.aa=i)(w:Wt p.H i=xk){u:Int}(x:g.H[i]?=J u):Gos g p u 1 2\/Gos g p u 3 4:=by
 obtain⟨o,d,z,A⟩:=Tu.1 w;obtain⟨a,n,m,f,y,em,l,_,t⟩:=r.toTld.ob (k:=1) Z0 d;have q:o.gone=xw:=(r.ak 1 Z0).cw o d;obtain⟨j,h⟩:∃j,i=a+1+j:=⟨i-a-1,Z0⟩;have:=r.ptr 1 Z0 o d q j Z0 u (by rw[f,Zfh,<-h];exact x);unfold XZ at this;rw[if_neg Z0,if_pos ⟨rfl,by rw[f,Zfh,<-h];omega⟩]at this;exact this
def Z7X{l:Z8}{i:Nat}{u:Int}(h:l[i]?=J u):l.set i u=l:=by
 apply Zgx;intro j;rw[List.getElem?_set];by_cases e:i=j;subst e;rw[if_pos rfl,h,if_pos (Zf3.1 h).1];rw[if_neg e]
def l5(W:Z3)(B:Z4)(b:Nat)(n:∀c,xz (xj W)<=c->B c)(g:Hp)(x:Z6)(S:NowI B W b g x)(h:g.ok){p:Pts}(r:Rt g p)(hc:g.Z=xk):
  Calls Sol.prog 97 #[.bool<|Wt p.H g.aa,.pointer<|J ⟨b,0,U⟩] W (K0 B W b<|WI g):=by
 obtain⟨i,a⟩:=Zfi r.gy;have d:i<I g.H:=by have:=r.ld hc;omega
 have w:=r.ml;obtain⟨u,j⟩:∃u,g.H[i]?=J u:=⟨_,Zf4 d⟩;have o:(g.H[g.aa.toNat]?).getD 0=u:=by rw[a,Zfh,j];rfl
 cases q:Wt p.H g.aa with
 |false=>
  have l:WI g=YS {g with aa:=(i:Int)+1}:=by
   unfold WI;rw[w,if_neg (by rw[q];simp),a]
  rw[l];exact Ec W B b g x S h i a d xw<|.inl rfl
 |true=>
  have l:WI g=YS {(fwd g u).2.1 with H:=(fwd g u).2.1.H.set i (fwd g u).1,aa:=(i:Int)+1}:=by
   unfold WI;rw[w,if_pos q,o,a,Zfh]
  by_cases k:u=0;subst k;have:WI g=YS {g with aa:=(i:Int)+1}:=by
   rw[l,Gk r.bf];simp only;rw[Z7X j]
  rw[this];exact Ec W B b g x S h i a d xk<|.inr j;obtain⟨v,g1,y,f⟩:=r.toBody.fg r.fi<|Z7M r a (by rw[<-a];exact q) j;rw[l,f.fwd];obtain⟨z,t⟩:=f.ext.H;exact l6 W B b n g x S h i a d j k f.fwd (by rw[t,ZfN];omega) (by rw[f.ext.aa];exact a)
section
def Ek{α:Type}(F:Fence)(n:Nat)(P:Z5)(g:Nat)(lb:Zd)(d:α->Array Value)(Kp:World->World->Prop)(o:List α->α->World->Prop)(S:List α->World->Prop)(N:Nat)(k:List α->World->Prop)(w:Z3):Prop:=
 ∀(l:Nat) (p h:List α->World->Prop) (W:Z3),Below (xz<|xj w) w W->(∀pre W,p pre W->k pre W)->AbidesFrom (xz<|xj W) p->AbidesFrom (xz<|xj W) h->
  (∀pre x f,p pre f->o pre x f->I pre<N->YieldAt F (n-1) P l (d x) f λe a=>
   (e=.returned (.bool xk)/\p (pre++[x]) a/\Kp f a)\/(e=.returned (.bool xw)/\h (pre++[x]) a))->
  p [] W->
  CallsIn F n P g (#[.func (.yield l) #[] #[]]++lb) W λe a=>(∃v,e=.returned v)/\((∃j,S j a/\p j a)\/(∃pre,h pre a))
variable {F:Fence}{n:Nat}{P:Z5}
def Z9o{α:Type}{g:Operand}{ps:Array Tmp}{assign body:Code}{Q:Ze}{a:Act}{w:Z3}
  (d0:F.round=U) (h1:1<=n) {gf:Nat} {lb:Zd} (hg:a.eval g=.func (.func gf) #[] lb) (b3:F.fn gf) (eg:∀args w,(callFunc gf args).run P w=.ok (.enter gf args) w)
  {M:α->Array Value} {Kp:World->World->Prop} {Px:List α->α->World->Prop} {S:List α->World->Prop} {N:Nat} {Ex:List α->World->Prop} {w0:Z3} (b1:Ek F (n-1) P gf lb M Kp Px S N Ex w0)
  (a5:∀ {A B C:Z3},Kp A B->Kp B C->Kp A C) (a4:∀(W:Z3) (l:Nat) (o o':Obj),xz (xj w)<=l->W.heap[l]?=J o->o.isCells=xw->o.isWalk=xw->Kp W (W.putObj l o')) (a6:Below (xz<|xj w0) w0 w) (c7:∀x,(M x).size=ps.size)
  (I:List α->World->Prop) (Ix:Code->List α->World->Prop) (hI:OwnFrom (xz<|xj w) I) (b2:∀pre W,I pre W->Ex pre W) (X:∀c,OwnFrom (xz<|xj w)<|Ix c) (b7:∀pre x,OwnFrom (xz<|xj w)<|λ(_:Unit) W=>Px pre x W) (hS:OwnFrom (xz<|xj w) S) (h0:I [] w) (a₁:α->Act)
  (Y:∀(l:Nat) (x:α) (W:Z3) (K:Zn),K (a₁ x) W->
   assign.wpIn (F.inRound l) (n-1-1) P (Exit.then K<|λ_ _ _=>False) {tmps:=(ps.zip<|M x).foldl (λt (p,v)=>t.setIfInBounds p v) a.tmps,defers:=[]} W)
  (a0:∀(l:Nat) (pre:List α) (x:α) (W:Z3),I pre W->Px pre x W->xq pre<N->body.wpIn (F.inRound l) (n-1-1) P (ownPostG (xz<|xj w) Kp I Ix (pre++[x]) W) (a₁ x) W)
  (a1:∀(D:Nat) (xs:List α) (W:Z3),xz (xj w)<=D->S xs W->I xs W->W.heap[D]?=J (.deferred<|J [])->Q .normal {a with defers:= {target:=.collected D,args:=#[]}::a.defers} W)
  (a2:∀(D:Nat) (c:Code) (pre:List α) (W:Z3),xz (xj w)<=D->Ix c pre W->W.heap[D]?=J (.deferred<|J [])->c.wpIn F n P Q {a with defers:= {target:=.collected D,args:=#[]}::a.defers} W):
  (Code.rangeFunc g ps assign body).wpIn F n P Q a w:=by
 refine wpIn_rangeFunc λfn c0=> ?_;rw[d0];obtain⟨f,j⟩:∃f:LoopState->Option Code->Loop,f=λst pe=> {state:=st,pending:=pe,fn,tmps:=a.tmps,params:=ps,assign,body,defers:=xz (xj w)}:=⟨_,rfl⟩;obtain⟨T,O⟩:∃T,(w.alloc<|.deferred<|J []).alloc (.loop<|f .ready U)=T:=⟨_,rfl⟩;have b6:T.heap[xz (xj w)+1]?=J (.loop<|f .ready U):=by
  have:=Zgh (w.alloc<|.deferred<|J [])<|.loop<|f .ready U;rw[Zhu]at this;rw[<-O];exact this
 have b5:T.heap[xz<|xj w]?=J (.deferred<|J []):=by
  rw[<-O];exact(Zfp _ _ _ Z1).trans (Zgh w _)
 have b4:I [] T:=by rw[<-O];exact hI.alloc _<|hI.alloc _ h0
 have b9:Below (xz<|xj w0) w0 T:=by
  rw[<-O];exact a6.trans<|(((Zfr _ w).alloc (Zf9 _) _).alloc Z1 _).mono a6.size
 refine⟨xz (xj w)+1,[{target:=.collected<|xz<|xj w,args:=#[]}],T,{target:=.fn (.func gf) lb,args:=#[.func (.yield<|xz (xj w)+1) #[] #[]]},T,gf,
  #[.func (.yield<|xz (xj w)+1) #[] #[]]++lb,T,?_,?_,?_,?_,λ_=>h1,?_⟩
 rw[<-O,j];exact run_enterLoop_outer _ _ _ _ _
 .simp only[resolve,hg];simp[go_sem]
 intro f' a7;simp[Target.leads]at a7;subst a7;exact b3
 .simp[invoke,go_sem,eg]
 have b0:∀ {A B:Z3} {row:Option Nat},(∀r,row=J r->xz (xj T)<=r/\∃o:Obj,A.heap[r]?=J o/\o.isWalk=xk)->(∀r,row=J r->xz (xj w)<=r/\∃o:Obj,A.heap[r]?=J o/\o.isCells=xw):=
  λu r e=>by obtain⟨hB,o,ho,hw⟩:=u r e;exact⟨by rw[<-O]at hB;simp at hB;omega,o,ho,Obj.not_cells_of_walk hw⟩
 refine(b1 (xz (xj w)+1)
  (λpre W=>I pre W/\W.heap[xz (xj w)+1]?=J (.loop<|f .ready U)/\W.heap[xz<|xj w]?=J (.deferred<|J []))
  (λpre W=>∃c,Ix c pre W/\W.heap[xz (xj w)+1]?=J (.loop<|f .done<|J c)/\W.heap[xz<|xj w]?=J (.deferred<|J []))
  T b9 (λpre W h=>b2 pre W h.1)
  (λs A B row hs z u=>⟨hI s A B row hs.1 z<|b0 (B:=B) u,(ZiQ z (λr e=>(u r e).2) hs.2.1 rfl).trans hs.2.1,(ZiQ z (λr e=>(u r e).2) hs.2.2 rfl).trans hs.2.2⟩)
  (λs A B row hs z u=>by
   obtain⟨c,hc,y,Z⟩:=hs;exact⟨c,X c s A B row hc z<|b0 (B:=B) u,(ZiQ z (λr e=>(u r e).2) y rfl).trans y,(ZiQ z (λr e=>(u r e).2) Z rfl).trans Z⟩)
  ?_ ⟨b4,b6,b5⟩).mono ?_
 rintro pre x W ⟨hi,y,Z⟩ c8 a9;have c6:xz (xj w)+1<xz (xj W):=(Zf8.1 y).1;have hy:=run_yield (P:=P) (args:=M x) y (by rw[j];exact c7 x);rw[j]at hy;refine⟨fn,_,assign,body,hy,roundIn_of_wpIn c0<|Y _ x W _ ⟨_,run_beginRound y (by rw[j]),?_⟩⟩;have c5:(W.putObj (xz (xj w)+1)<|.loop {f .ready U with state:=.busy}).heap[xz (xj w)+1]?=J (.loop {f .ready U with state:=.busy}):=Zhx c6;have c1:(W.putObj (xz (xj w)+1)<|.loop {f .ready U with state:=.busy}).heap[xz<|xj w]?=J (.deferred<|J []):=(ZfI Z0).trans Z;have d5:Kp W<|W.putObj (xz (xj w)+1)<|.loop {f .ready U with state:=.busy}:=a4 _ _ _ _ Z0 y rfl rfl;refine wpIn_mono (a0 _ pre x _ (hI.putObj _ hi Z0 y rfl) ((b7 pre x).putObj (s:=()) _ c8 Z0 y rfl) a9) ?_
 have fin:∀(d:Option Code) (R:Z3),KeepsFrom (xz<|xj w) (W.putObj (xz (xj w)+1)<|.loop {f .ready U with state:=.busy}) R->
   (Instr.endRound (xz (xj w)+1) d).run P R=.ok (.bool d.isNone) (R.putObj (xz (xj w)+1)<|.loop<|f (if d.isNone then .ready else .done) d)/\
   R.heap[xz (xj w)+1]?=J (.loop {f .ready U with state:=.busy})/\
   (R.putObj (xz (xj w)+1)<|.loop<|f (if d.isNone then .ready else .done) d).heap[xz (xj w)+1]?=J (.loop<|f (if d.isNone then .ready else .done) d)/\
   (R.putObj (xz (xj w)+1)<|.loop<|f (if d.isNone then .ready else .done) d).heap[xz<|xj w]?=J (.deferred<|J []):=λd R q=>by
  have k:=q.same _ _ Z0 c5 rfl;have:=run_endRound (P:=P) d k;rw[j]at this⊢;exact⟨this,by rw[j]at k;exact k,Zhx (Zf8.1 k).1,(ZfI Z0).trans<|q.same _ _ (Zf9 _) c1 rfl⟩
 rintro e a3 R hp;cases e with
 |normal=>
  obtain⟨q,a8,G⟩:=hp;obtain⟨u,k,L,H⟩:=fin U R q;exact⟨_,_,u,.inl ⟨rfl,⟨hI.putObj _ G Z0 k rfl,L,H⟩,a5 (a5 d5 a8)<|a4 _ _ _ _ Z0 k rfl rfl⟩⟩
 |ret=>
  obtain⟨q,G⟩:=hp;obtain⟨u,k,L,H⟩:=fin (J .ret) R q;exact⟨_,_,u,.inr ⟨rfl,.ret,(X _).putObj _ G Z0 k rfl,L,H⟩⟩
 |exit id=>
  obtain⟨q,G⟩:=hp;obtain⟨u,k,L,H⟩:=fin (J<|.exit id) R q;exact⟨_,_,u,.inr ⟨rfl,.exit id,(X _).putObj _ G Z0 k rfl,L,H⟩⟩
 |goto t=>
  obtain⟨q,G⟩:=hp;obtain⟨u,k,L,H⟩:=fin (J<|.goto t) R q;exact⟨_,_,u,.inr ⟨rfl,.goto t,(X _).putObj _ G Z0 k rfl,L,H⟩⟩
 |panic ch=>exact hp.elim
 |outgrown=>exact hp.elim
 rintro e W2 ⟨⟨v,rfl⟩,(⟨xs,b8,hi,y,Z⟩|⟨pre,c,hi,y,Z⟩)⟩;exact⟨U,_,by have:=run_endLoop (P:=P) y (by rw[j];simp);rw[j]at this;exact this,a1 _ xs _ (Zf9 _) (hS.putObj _ b8 Z0 y rfl) (hI.putObj _ hi Z0 y rfl)<|(ZfI Z0).trans Z⟩;exact⟨J c,_,by have:=run_endLoop (P:=P) y (by rw[j];simp);rw[j]at this;exact this,a2 _ c pre _ (Zf9 _) ((X c).putObj _ hi Z0 y rfl)<|(ZfI Z0).trans Z⟩
end
def Z6D{W:Z3}{G G':Z4}{l j:Z8}{y:Zf}(h:Rd W G (.sl<|l.map vu) y)(h':Rd W G' (.sl<|j.map vu) y):l=j:=by
 obtain⟨a,c,e⟩:=Rd.br h;obtain⟨x,A,n⟩:=Rd.br h';have C:I l=I j:=by rw[e]at n;simp at n;exact n.2.1
 apply Zgx;intro k;cases p:l[k]? with
 |none=>rw[Zhi]at p;rw[Zg4 Z0]
 |some u=>
  have B:=(Zf3.1 p).1;obtain⟨r,g⟩:∃r,j[k]?=J r:=⟨_,Zf4 Z0⟩;obtain⟨b,o,cap,w,t,_⟩:=JB h p;obtain⟨z,D,q,d,f,_⟩:=JB h' g;rw[w]at d;simp at d;obtain⟨⟨rfl,rfl⟩,_,_⟩:=d;rw[t]at f;cases f;exact g.symm
def Z6x{W j:Z3}{B:Z4}{b:Nat}{row:Option Nat}{l:Z8}{y:Zf}(h:Rd W (λc=>B c/\c<xz (xj W)/\c≠b) (.sl<|l.map vu) y)(n:W.grownBy j row)(G:∀r,row=J r->∃o:Obj,W.heap[r]?=J o/\o.isCells=xw):
  Rd j (λc=>B c/\c<xz (xj j)/\c≠b) (.sl<|l.map vu) y:=by
 generalize C:l.map vu=L at h⊢;cases h with
 |nil a cap f=>exact .nil a cap f
 |sl _ d o cap k vs q t g w x z=>
  refine .sl _ d o cap k vs q t ⟨g.1,Zfb g.2.1 n.size,g.2.2⟩ w (λi D=> ?_) (λi c f=> ?_);have f:=x i D;rw[<-f];refine ZfX (a:=⟨d,o+i,U⟩) (n.block d g.2.1 λe=> ?_);obtain⟨H,F,K⟩:=G d e.symm;unfold World.cell? at f;rw[F]at f;cases H<;>simp_all [Obj.isCells];have A:=z i c f;rw[<-C,zS,Zfl]at f;cases p:l[i]? with
  |none=>rw[p]at f;cases f
  |some u=>
   rw[p]at f;cases f;rw[Ri A];exact .int _ _
def NowI.dt{B:Z4}{W a:Z3}{b:Nat}{g:Hp}{x:Z6}{row:Option Nat}(S:NowI B W b g x)(d:W.grownBy a row)(h:∀r,row=J r->∃o:Obj,W.heap[r]?=J o/\o.isCells=xw):NowI B a b g x:=
 ⟨S.le,(d.block b (Yv S.nb) λe=>by obtain⟨o,f,l⟩:=h b e.symm;rw[S.nb]at f;cases f;cases l).trans S.nb,λj k=>Z6x (S.rd j k) d h⟩
def NowI.mh{B B':Z4}{W:Z3}{b:Nat}{g g':Hp}{x h:Z6}(S:NowI B W b g x)(a:NowI B' W b g' h):g'=g:=by
 have e:=S.nb.symm.trans a.nb;unfold Ys at e;simp at e;obtain⟨n,o,p,r,t,u,w,y,z,A⟩:=e;have q:∀j,j<5->Zv g' j=Zv g j:=λj f=>by
  have d:=S.rd j f;have l:=a.rd j f;have k:x j=h j:=by
   have:j=0\/j=1\/j=2\/j=3\/j=4:=Z0;obtain rfl|rfl|rfl|rfl|rfl:=this<;>assumption
  rw[k]at d;exact Z6D l d
 have C:=q 0 Z0;have D:=q 1 Z0;have F:=q 2 Z0;have G:=q 3 Z0;have H:=q 4 Z0;cases g;cases g';simp[Zv]at*;simp_all
def InBox(B:Z4)(b:Nat)(p:Pts)(W:Z3):Prop:=∃g x,NowI B W b g x/\g.ok/\Rt g p
def InBox.dt{B:Z4}{W a:Z3}{b:Nat}{p:Pts}{row:Option Nat}(S:InBox B b p W)(j:W.grownBy a row)(k:∀r,row=J r->∃o:Obj,W.heap[r]?=J o/\o.isCells=xw):InBox B b p a:=by
 obtain⟨g,x,d,f,h⟩:=S;exact⟨g,x,d.dt j k,f,h⟩
def InBox.H{B B':Z4}{W:Z3}{b:Nat}{p f:Pts}(S:InBox B b p W)(h:InBox B' b f W):f.H=p.H:=by
 obtain⟨g,x,j,o,l⟩:=S;obtain⟨n,q,a,k,d⟩:=h;have:=j.mh a;subst this;exact Tiles.ua (l.ak 1 Z0)<|d.ak 1 Z0
structure KpN (B:Nat->Prop) (b kb:Nat) (A C:World):Prop where
 size:xz (xj A)<=xz (xj C)
 same:∀(c:Nat) (o:Obj),A.heap[c]?=J o->o.isCells=xk->c≠b->c≠kb->C.heap[c]?=J o
 H:∀p,InBox B b p A->∃q r,InBox B b q C/\q.H=p.H++r
theorem KpN.trans{B:Z4}{b kb:Nat}{X Y Z:Z3}(h:KpN B b kb X Y)(k:KpN B b kb Y Z):KpN B b kb X Z:=
 ⟨ZfB h.size k.size,λc o d a f g=>k.same c o (h.same c o d a f g) a f g,λp j=>by
  obtain⟨q,r,d,a⟩:=h.H p j;obtain⟨s,t,k1,l⟩:=k.H q d;exact⟨s,r++t,k1,by rw[l,a,ZfM]⟩⟩
theorem KpN.put{B:Z4}{b kb:Nat}{W:Z3}{l:Nat}{o:Obj}(j:Obj)(g:W.heap[l]?=J o)(h:o.isCells=xw):KpN B b kb W<|W.putObj l j:=by
 have f:=ZhS W l j;have n:∀r,J l=J r->∃o:Obj,W.heap[r]?=J o/\o.isCells=xw:=λr e=>by cases e;exact⟨o,g,h⟩
 refine⟨f.size,λc q a d _ _=>(ZfI<|λe=> ?_).trans a,λp k=>⟨p,[],k.dt f n,Z1⟩⟩;subst e;rw[g]at a;cases a;rw[h]at d;cases d
def Z3F{ws:Z8}{l:Zh}(t:Tiles ws xw 0 l){o:Ob}(a:o∈l){i:Int}(g:o.Y<=i)(h2:i<=o.Y+o.size):Wt l i=(decide (o.Y<i)&&decide (i<=o.Y+o.M)):=by
 rw[Ziq,Tu];simp only[Zf6,Zfv];constructor;rintro⟨x,d,k1,f⟩;have j:=YE.1 (t.ba x d).1.shape;obtain e|e|e:=t.apart x d o a;subst e;exact⟨k1,f⟩;omega;omega;exactλh=>⟨o,a,h⟩
def B8(x:Nat×Bool):Array Value:=#[.int .i64 (x.1:Nat),.bool x.2]
def Eg(B:Z4)(b:Nat)(pre:List<|Nat×Bool)(x:Nat×Bool)(W:Z3):Prop:=∃p,InBox B b p W/\x=(I pre,Wt p.H<|I pre)
def SN(B:Z4)(b:Nat)(xs:List<|Nat×Bool)(W:Z3):Prop:=∃g x,NowI B W b g x/\I g.H<=I xs
structure KnI (B:Nat->Prop) (b bk:Nat) (q:Pts) (W:World):Prop where
 bx:W.heap[bk]?=J (.cells #[.pointer<|J ⟨b,0,U⟩] 164 (0,0))
 nx:InBox B b q W
def KnI.grown{B:Z4}{b bk:Nat}{q:Pts}{W a:Z3}(h:KnI B b bk q W)(d:W.grownBy a U):KnI B b bk q a:=
 ⟨(d.block _ (Yv h.bx) Z1).trans h.bx,h.nx.dt d<|λr e=>by cases e⟩
end Vm
end
section
namespace Vm
open Go Go.Proofs Go.RowKit Go.Shelf
def Z3M(n:Nat){w:Z3}{B:Z4}{b bk kb:Nat}{p0:Pts}(hI:KnI B b bk p0 w)(a7:bk≠b)(K:bk≠kb)(hb:b<xz (xj w))(f4:kb<xz (xj w)):
  Ek Fence.wide n Sol.prog 115 #[.pointer<|J ⟨bk,0,U⟩] B8 (KpN B b kb) (Eg B b) (SN B b) 1000001 (λ_ _=>True) w:=by
 intro l h Jx W hW _ hJ f2 hY h0;refine callsIn_of_wp Sol.func115 rfl trivial ?_ rfl;simp only[Try.ntmps115,Zgy,Zgt,Zgc,Nat.reduceAdd,Nat.reduceSub,ZgU,ZgV,Zho,Zh2,ZfU,Zgs];have d8:=Zfa<|hI.grown<|UW hW U;have f1:=hW.size;have d9:=Zfa h0;have e6:∀ {A:Z3},xz (xj w)<=xz (xj A)->xz (xj A)≠b/\xz (xj A)≠kb:=λh=>⟨Z0,Z0⟩;clear h0;gi_wp2
 gi_loopw [3] (λp wr=>∃(a:Nat),p=.int .i64 a/\Hid (∃(pre:List<|Nat×Bool) (q:Pts) (n:Nat),h pre wr/\KnI B b bk q wr/\xz (xj W)<=xz (xj wr)/\n<=I q.H/\a=Wx (q.H.take n)/\I pre=a))
  (λp _=>1000001- (intOf p).toNat)
 case atStart=>exact⟨0,rfl,Zfa ⟨[],p0,0,d9.out,d8.out,Zf9 _,Z0,rfl,rfl⟩⟩
 case round=>
  obtain⟨a,rfl,HI⟩:=hrel;obtain⟨pre,q,n1,X,Y,b8,e7,a6,b7⟩:=HI.out;obtain⟨g,x,S,b2,r⟩:=Y.nx;obtain⟨sa,sc,a4⟩:=Rd.br<|S.rd 0 Z0;rw[ZfC,show I (Zv g 0)=(I g.H) from rfl]at a4;have N:=S.nb;unfold Ys at N;rw[a4]at N;have y0:wr.cell? ⟨bk,0,U⟩=J (.pointer<|J ⟨b,0,U⟩):=by rw[Zfg _ _ _ _ _ _ Y.bx];rfl
  have yb:∀j,wr.cell? ⟨b,j,U⟩=(#[.int .u64 g.base,.int .i64 g.cap,.int .i64 g.to,.bool g.Z,.int .i64 g.aa,.slice sa (I g.H) sc,x 1,x 2,x 3,x 4]:Array Value)[j]? :=λj=>Zfg _ _ _ _ _ _ N;have t1:=r.ak 1 Z0;simp only[Vg,Pts.mq]at t1;have b5:=b2.H;have c8:=t1.sum<|Zga _;by_cases f5:a<I g.H
  .have b6:((a:Int)< (I g.H:Int))=True:=Zi1 Z0;obtain⟨o,ho⟩:∃o,q.H[n1]?=J o:=by
    refine⟨_,Zf4<|Nat.lt_of_le_of_ne e7 λe=> ?_⟩;rw[e,ZgD]at a6;omega
   have a0:=t1.place ho;rw[ZfQ,<-a6]at a0;have a1:=Zfc ho;have a3:=(t1.ba o a1).1;have c0:=YE.1 a3.shape;have M:=t1.cw o a1;have L:=a3.aw;obtain⟨u,hu,P⟩:=a3.word;rw[M,if_neg Z1]at P;replace P:=P.2.1;rw[a0,Zfh]at hu;have d5:=b2.gh u<|Zfc hu;obtain⟨gb,go,cap,a5,e1,e2⟩:=JB (S.rd 0 Z0) hu;rw[a4]at a5;rw[show I (Zv g 0)=(I g.H) from rfl]at a5;simp only[Value.slice.injEq,true_and]at a5;obtain⟨rfl,rfl⟩:=a5;have O:=JO d5;rw[P]at O;obtain⟨m,hm⟩:∃m:Nat,o.size=m:=⟨o.size.toNat,Z0⟩;obtain⟨pt,a8⟩:∃pt:Nat,o.M=pt:=⟨o.M.toNat,Z0⟩;rw[hm]at O L c0;rw[a8]at O c0;have e0:=Zfa O;have HO:=Zfa<|And.intro a1<|And.intro a0<|And.intro hm<|And.intro a8<|And.intro t1<|And.intro ho<|And.intro b7 b8;have b0:=Zfa L;have b1:=Zfa<|And.intro X Y;have d7:=Zfa b5;have q1:IntKind.i64.wrap ((m:Int)+1)=((m+1:Nat):Int):=Zep;clear O N t1 a1 a0 P hu d5 a4 e2 hm a8 L ho a3 M a6 c8 S r X Y b7 b8 b5;gi_wp2
   refine⟨trivial,λh=>Zel,(Zhd.2<|e0.out _).mono ?_⟩;rintro e w1 ⟨rfl,b3⟩;have a9:=Zfa b3;clear b3;gi_wp2
   have f7:=a9.out.size;have Z:wr.grownBy (w1.alloc<|.cells #[.int .i64 m,.int .i64 pt] 52) U:=TX (UW a9.out U)<|Zgq _ _ _;have HA:=Zfa<|And.intro (hJ _ _ _ _ b1.out.1 Z<|λr e=>by cases e)<|And.intro (b1.out.2.grown Z)<|And.intro (ZfG w1<|.cells #[.int .i64 m,.int .i64 pt] 52) Z.size;have hT:xz (xj W)<=xz (xj w1):=by have:=HO.out.2.2.2.2.2.2.2;omega
   have C:=e6 (A:=w1) Z0;have f3:xz (xj W)<=xz (xj<|w1.alloc<|.cells #[.int .i64 m,.int .i64 pt] 52):=Ze9;clear Z;generalize f6:w1.alloc (.cells #[.int .i64 m,.int .i64 pt] 52)=w2 at*;have d6:=b0.out;have f0:=d7.out;gi_loopw [30] (λiv wi=>∃i:Nat,iv=.int .i64 i/\Hid (∃(f:List<|Nat×Bool) (Q:Pts) (r':Zh),h f wi/\KnI B b bk Q wi/\xz (xj w2)<=xz (xj wi)/\Q.H=q.H++r'/\I f=a+i/\i<=m+1/\wi.heap[xz<|xj w1]?=J (.cells #[.int .i64 m,.int .i64 pt] 52 (0,0)))) (λiv _=>m+1- (intOf iv).toNat)
   case atStart=>exact⟨0,rfl,Zfa ⟨pre,q,[],HA.out.1,HA.out.2.1,Zf9 _,Z1,by have:=HO.out.2.2.2.2.2.2.1;omega,Z0,HA.out.2.2.1⟩⟩
   case round=>
    obtain⟨i,rfl,HJ⟩:=hrel;obtain⟨f,Q,r',H,z,b9,F,a2,e3,D⟩:=HJ.out;have d0:wr.cell? ⟨xz<|xj w1,0,U⟩=J (.int .i64 m):=by rw[Zfg _ _ _ _ _ _ D];rfl
    have d1:wr.cell? ⟨xz<|xj w1,1,U⟩=J (.int .i64 pt):=by rw[Zfg _ _ _ _ _ _ D];rfl
    by_cases e5:i=m+1
    .subst e5;have e4:(((m+1:Nat):Int)< (m:Int)+1)=False:=ZiS Z0;have q2:IntKind.i64.wrap ((a:Int)+((m:Int)+1))=((a+(m+1):Nat):Int):=Zep;clear z D H;gi_wp2
     obtain⟨k1,k2,k3,k4,k5,k6,k7⟩:=HO.out;obtain⟨f,Q,r',H,z,b9,F,a2,e3,D⟩:=HJ.out;have b4:n1+1<=I q.H:=by have:=(Zf3.1 k6).1;omega
     refine⟨⟨a+(m+1),Z1,Zfa ⟨f,Q,n1+1,H,z,Z0,by rw[F,ZfN];omega,?_,Z0⟩⟩,by simp[intOf];omega⟩;rw[F,Zij b4,Z8M k6,k3];have:=k5.place k6;omega
    .have e4:((i:Int)< (m:Int)+1)=True:=Zi1 Z0;obtain⟨k1,k2,k3,k4,k5,k6,k7,k8⟩:=HO.out;have hx:Eg B b f (a+i,Wt Q.H ((a+i:Nat):Int)) wr:=⟨Q,z.nx,by rw[a2]⟩;obtain⟨fn,e9,assign,e8,hy,hR⟩:=hY f _ wr H hx Z0;have hq:Wt Q.H ((a+i:Nat):Int)=(decide (0<i)&&decide (i<=pt)):=by
      obtain⟨g',x',_,_,r2⟩:=z.nx;have t2:=r2.ak 1 Z0;simp only[Vg,Pts.mq]at t2;rw[Z3F t2 (o:=o) (by rw[F];exact Zge _ k1) Z0 Z0,k2,k4];congr 1;exact decide_eq_decide.2 Z0;exact decide_eq_decide.2 Z0
     unfold B8 at hy;simp only[hq]at hy;have HQ:=Zfa<|And.intro hq<|And.intro hR<|And.intro b9<|And.intro F<|And.intro a2<|And.intro D z;have q2:IntKind.i64.wrap ((a:Int)+(i:Int))=((a+i:Nat):Int):=Zep;have q3:IntKind.i64.wrap ((i:Int)+1)=((i+1:Nat):Int):=Zep;clear hx H z hq hR D k1 k2 k3 k4 k5 k6 k7 k8 F a2;have h3:(i=0/\(0<i)=False)\/(((0:Int)< (i:Int))=True/\(0<i)=True/\((i:Int)<=(pt:Int))=True/\(i<=pt)=True)\/(((0:Int)< (i:Int))=True/\(0<i)=True/\((i:Int)<=(pt:Int))=False/\(i<=pt)=False):=by
      by_cases h0:i=0;exact .inl ⟨h0,ZiS Z0⟩;by_cases h1:i<=pt;exact .inr<|.inl ⟨Zi1 Z0,Zi1 Z0,Zi1 Z0,Zi1 h1⟩;exact .inr<|.inr ⟨Zi1 Z0,Zi1 Z0,ZiS Z0,ZiS h1⟩
     obtain⟨h0,h1⟩|⟨h0,h1,h2,h3⟩|⟨h0,h1,h2,h3⟩:=h3
     .subst h0;simp only[h1,Zjl,ZiE,Zjm,ZhQ,Zi9,Zia,ZgJ,Zj3]at hy;gi_wp2
      refine⟨λh=>Zel,HQ.out.2.1.mono ?_⟩;rintro e W3 (⟨rfl,t,y⟩|⟨rfl,k⟩)
      .have d:=Zfa<|And.intro t y;clear t y;gi_wp2
       obtain⟨c1,c2,c3,c4,c5,c6,c7⟩:=HQ.out;obtain⟨R,T,i1,i2⟩:=d.out.2.H Q c7.nx;refine⟨⟨1,Z1,Zfa ⟨f++[_],R,r'++T,d.out.1,⟨d.out.2.same _ _ c7.bx rfl a7 K,i1⟩,ZfB c3 d.out.2.size,by rw[i2,c4,ZfM],by simp<;>omega,Z0,d.out.2.same _ _ c6 rfl C.1 C.2⟩⟩,by simp[intOf]<;>omega⟩
      .have G:=Zfa k;clear k;gi_wp2
       refine ZfV (results_none rfl _ _ _) rfl ?_;exact⟨⟨_,rfl⟩,.inr ⟨_,G.out⟩⟩
     .simp only[h1,h3,Zjl,ZiE,Zjm,ZhQ,Zi9,Zia,ZgJ,Zj3]at hy;gi_wp2
      refine⟨λh=>Zel,HQ.out.2.1.mono ?_⟩;rintro e W3 (⟨rfl,t,y⟩|⟨rfl,k⟩)
      .have d:=Zfa<|And.intro t y;clear t y;gi_wp2
       obtain⟨c1,c2,c3,c4,c5,c6,c7⟩:=HQ.out;obtain⟨R,T,i1,i2⟩:=d.out.2.H Q c7.nx;refine⟨⟨i+1,Z1,Zfa ⟨f++[_],R,r'++T,d.out.1,⟨d.out.2.same _ _ c7.bx rfl a7 K,i1⟩,ZfB c3 d.out.2.size,by rw[i2,c4,ZfM],by simp<;>omega,Z0,d.out.2.same _ _ c6 rfl C.1 C.2⟩⟩,by simp[intOf];omega⟩
      .have G:=Zfa k;clear k;gi_wp2
       refine ZfV (results_none rfl _ _ _) rfl ?_;exact⟨⟨_,rfl⟩,.inr ⟨_,G.out⟩⟩
     .simp only[h1,h3,Zjl,ZiE,Zjm,ZhQ,Zi9,Zia,ZgJ,Zj3]at hy;gi_wp2
      refine⟨λh=>Zel,HQ.out.2.1.mono ?_⟩;rintro e W3 (⟨rfl,t,y⟩|⟨rfl,k⟩)
      .have d:=Zfa<|And.intro t y;clear t y;gi_wp2
       obtain⟨c1,c2,c3,c4,c5,c6,c7⟩:=HQ.out;obtain⟨R,T,i1,i2⟩:=d.out.2.H Q c7.nx;refine⟨⟨i+1,Z1,Zfa ⟨f++[_],R,r'++T,d.out.1,⟨d.out.2.same _ _ c7.bx rfl a7 K,i1⟩,ZfB c3 d.out.2.size,by rw[i2,c4,ZfM],by simp<;>omega,Z0,d.out.2.same _ _ c6 rfl C.1 C.2⟩⟩,by simp[intOf];omega⟩
      .have G:=Zfa k;clear k;gi_wp2
       refine ZfV (results_none rfl _ _ _) rfl ?_;exact⟨⟨_,rfl⟩,.inr ⟨_,G.out⟩⟩
  .have b6:((a:Int)< (I g.H:Int))=False:=ZiS Z0;have HE:Hid<|h pre wr/\SN B b pre wr:=Zfa ⟨X,g,x,S,Z0⟩;clear N X S;gi_wp2
   go_end0
   exact⟨⟨_,rfl⟩,.inl ⟨pre,HE.out.2,HE.out.1⟩⟩
end Vm
end
section
namespace Vm
open Go Go.Proofs Go.RowKit
def AE{g:Hp}{x:Z6}(h:∀j,j<5->∃a q,x j=.slice a (I<|Zv g j) q):∃(a:Nat->Option Addr) (q:Zk),Ys g x=#[.int .u64 g.base,.int .i64 g.cap,.int .i64 g.to,.bool g.Z,.int .i64 g.aa,.slice (a 0) (I<|Zv g 0)<|q 0,.slice (a 1) (I<|Zv g 1)<|q 1,.slice (a 2) (I<|Zv g 2)<|q 2,.slice (a 3) (I<|Zv g 3)<|q 3,.slice (a 4) (I<|Zv g 4)<|q 4]/\∀j,j<5->x j=.slice (a j) (I<|Zv g j) (q j):=by
 have:∀j,∃p:Option Addr×Nat,j<5->x j=.slice p.1 (I<|Zv g j) p.2:=λj=>by
  by_cases d:j<5;obtain⟨a,q,e⟩:=h j d;exact⟨(a,q),λ_=>e⟩;exact⟨(U,0),λh=>absurd h d⟩
 obtain⟨f,e⟩:=Zhs this;exact⟨λj=>(f j).1,λj=>(f j).2,by simp[Ys,e],e⟩
def PT(w:Z3)(G:Z4)(hG:∀b,G b->b<xz (xj w))(h:Hp)(hh:h.ok)(Q:Z6)(hs:∀j,j<5->Rd w G (.sl<|(Zv h j).map vu) (Q j)){p:Pts}(r:Rt h p)(hc:h.Z=xw):
  Calls Sol.prog 36 #[ZN h Q] w (zf w (Wr h,0)):=by
 have hR:∀W,Below (xz<|xj w) w W->Calls Sol.prog 25 #[ZN h Q] W λe w'=>e=.returned (.bool<|YI h)/\Below (xz<|xj W) W w':=λW B=>
  CR (w:=W) (G:=G) (x:=Q) hh (λb X=>Zfb (hG b X) B.size) (λj n=>(hs j n).keep (λb X=>B.block b<|hG b X) λ_ q=>q)
 rw[r.right]at hR;unfold ZN at hR;rw[hc]at hR;have HR:=Zfa hR;have HS:=Zfa hs;have HH:=Zfa hh;have d0:=Zfa r;have M:=Zfa hc;have g9:h.to=0\/h.to=1:=by have:=Ww.1 r.bf;exact this.2.2.2.2.1
 have l0:=Zz (1-h.to) Z0 Z0;clear hR hs hh r g9;unfold ZN;rw[hc];clear hc;go_enter Sol.func36,Try.ntmps36;go_wp2;refine Z7Q 0 (λa W=>∃(c k:Nat) (x:Z6),a.defers=[]/\a.tmps.size=72/\a.tmps.getD 2 undef=.pointer (J ⟨xz (xj w)+1,0,U⟩)/\a.tmps.getD 4 undef=.pointer (J ⟨c,0,U⟩)/\a.tmps.getD 5 undef=.int .i64 k/\k<=xq h.E/\FlI w W c (Xf (YL h) k) x) (λa _=>xq h.E- (intOf<|a.tmps.getD 5 undef).toNat) rfl ?_ ?_
 .rintro a W ⟨c,k,x,hd,c6,h2,h4,h5,hk,HI⟩;obtain⟨t,d⟩:=a;simp only at hd c6 h2 h4 h5;subst hd;obtain⟨u,hu⟩:∃u:Z6,∀i,t.getD i undef=u i:=⟨λi=>t.getD i undef,λ_=>rfl⟩
  have et:t=#[u 0,u 1,u 2,u 3,u 4,u 5,u 6,u 7,u 8,u 9,u 10,u 11,u 12,u 13,u 14,u 15,u 16,u 17,u 18,u 19,u 20,u 21,u 22,u 23,u 24,u 25,u 26,u 27,u 28,u 29,u 30,u 31,u 32,u 33,u 34,u 35,u 36,u 37,u 38,u 39,u 40,u 41,u 42,u 43,u 44,u 45,u 46,u 47,u 48,u 49,u 50,u 51,u 52,u 53,u 54,u 55,u 56,u 57,u 58,u 59,u 60,u 61,u 62,u 63,u 64,u 65,u 66,u 67,u 68,u 69,u 70,u 71]:=(u5 c6).trans (by
   have A:(λi=>t.getD i undef)=u:=funext hu;rw[A];rfl)
  rw[hu]at h2 h4 h5;rw[h2,h4,h5]at et;clear hu c6 h2 h4 h5;subst et;have D:=Zfa HI;clear HI;by_cases b9:k<xq h.E
  .have g9:h.to=0\/h.to=1:=by have:=Ww.1 d0.out.bf;exact this.2.2.2.2.1
   obtain⟨q,I⟩:=Ap d0.out M.out k Z0;obtain⟨⟨T,H,q',f⟩,_⟩:=G6 d0.out b9 I;have f7:=Ak HH.out g9 k;have a6:(Xf (YL h) k).E[k]?=J h.E[k]:=by rw[I.rest k<|Zf9 _];exact Zf4 b9
   have c5:Xf (YL h) (k+1)= {H with E:=H.E.set k T}:=by
    show TW (Xf (YL h) k) k=_;unfold TW;rw[a6,Zfw,f.fwd]
   have Y:(Xf (YL h) k).E.length=xq h.E:=I.len;have er:H.E=(Xf (YL h) k).E:=f.ext.E;have d9:H.ok/\ZB T:=by have:=zX f7<|HH.out.dq _<|Zfq b9;rw[f.fwd]at this;exact this
   have e9:=f.fwd;have k2:=HH.out.dq _<|Zfq b9;clear I f;generalize Xf (YL h) k=g at*;generalize h.E[k]=u0 at*;obtain⟨gb,go,cap,d7,g3,i3⟩:=JB (D.out.rd 4 Z0) a6;rw[show xq (Zv g 4)=(xq g.E) from rfl,Y]at d7;have hF:∀W',Below (xz<|xj W) W W'->Calls Sol.prog 33 #[.agg #[.int .u64 g.base,.int .i64 g.cap,.int .i64 g.to,.bool g.Z,.int .i64 g.aa,x 0,x 1,x 2,x 3,.slice (J ⟨gb,go,U⟩) (xq h.E) cap],.int .u64 u0] W' (FwdPost W' (T,H,0)):=λW' B=>by
    have:=E7 W' (λb=>xz (xj w)+2<=b/\b<xz (xj W)/\b≠c) (λb X=>Zfb X.2.1 B.size) g f7 x (λj n=>(D.out.rd j n).keep (λb X=>B.block b X.2.1) λ_ q=>q) u0 k2;rw[e9]at this;unfold ZN at this;rw[d7]at this;exact this
   have HF:=Zfa hF;have R:=D.out.nb;unfold Ys at R;rw[d7]at R;have yc:∀j,W.cell? ⟨c,j,U⟩=(#[.int .u64 g.base,.int .i64 g.cap,.int .i64 g.to,.bool g.Z,.int .i64 g.aa,x 0,x 1,x 2,x 3,.slice (J ⟨gb,go,U⟩) (xq h.E) cap]:Array Value)[j]? :=λj=>Zfg _ _ _ _ _ _ R;have g5:=Yv R;have k4:((k:Int)< (xq h.E:Int))=True:=Zi1 Z0;have HM:=Zfa<|And.intro c5<|And.intro er<|And.intro d9<|And.intro i3<|And.intro R Y;clear hF R Y d7 c5 er d9 a6 e9 f7 i3;go_upto_region 8 with fail;refine NA [39,40,41,42,43,44,45,38,46,47,48,7,6,8] (FrC W (frE c g (λj=>if j=4 then .slice (J ⟨gb,go,U⟩) (xq h.E) cap else x j) k (.pointer<|J ⟨gb,go+k,U⟩) u0) T H) follows Z2 ⟨u,Zej,?_⟩ ?_ ?_;exact⟨(Zfr _ _).drew,λi _ _ _ h=>Zel,λh=>Zel,λh=>Zel,λh=>Zel⟩
   .intro L i o v W1 ho hi n C;have N:=Zfa C;have hz:xz (xj W)<=xz (xj W1):=C.b.size;have yd:∀j,W1.cell? ⟨c,j,U⟩=(#[.int .u64 g.base,.int .i64 g.cap,.int .i64 g.to,.bool g.Z,.int .i64 g.aa,x 0,x 1,x 2,x 3,.slice (J ⟨gb,go,U⟩) (xq h.E) cap]:Array Value)[j]? :=λj=>(C.b.cell (p:=⟨c,j,U⟩) g5).trans<|yc j;have j1:W1.cell? ⟨gb,go+k,U⟩=J (.int .u64 u0):=(C.b.cell (p:=⟨gb,go+k,U⟩) HM.out.2.2.2.1.2.1).trans g3;clear C;have k6:i<15:=(Zf8.1 ho).1;simp only[Ta,Ql,ZfA,Zgn,ZgN,ZiI,Zh8,ZhW,Zhz];have:i=0\/i=1\/i=2\/i=3\/i=4\/i=5\/i=6\/i=7\/i=8\/i=9\/i=10\/i=11\/i=12\/i=13\/i=14:=Z0;obtain rfl|rfl|rfl|rfl|rfl|rfl|rfl|rfl|rfl|rfl|rfl|rfl|rfl|rfl|rfl:=this<;>cases ho
    .go_wp2;try simp only[QN]
     exact⟨_,rfl,N.out.pe 0 Z0 rfl⟩
    .go_wp2;try simp only[QN]
     exact⟨_,rfl,N.out.pe 1 Z0 rfl⟩
    .have e1:v 40=.pointer (J ⟨c,9,U⟩):=N.out.e 1 Z0<|n 1 Zeo;go_wp2;try simp only[QN]
     exact⟨_,by rw[<-e1];rfl,N.out.pe 2 Z0 rfl⟩
    .go_wp2;try simp only[QN]
     exact⟨_,rfl,N.out.pe 3 Z0 rfl⟩
    .have e2:v 41=.slice (J ⟨gb,go,U⟩) (xq h.E) cap:=N.out.e 2 Z0<|n 2 Zeo;have e3:v 42=.int .i64 k:=N.out.e 3 Z0<|n 3 Zeo;go_wp2;try simp only[QN]
     exact⟨_,by rw[<-e2,<-e3];rfl,N.out.pe 4 Z0 rfl⟩
    .have e4:v 43=.pointer (J ⟨gb,go+k,U⟩):=N.out.e 4 Z0<|n 4 Zeo;go_wp2;try simp only[QN]
     exact⟨_,by rw[<-e4];rfl,N.out.pe 5 Z0 rfl⟩
    .have A:v 39=.agg #[.int .u64 g.base,.int .i64 g.cap,.int .i64 g.to,.bool g.Z,.int .i64 g.aa,x 0,x 1,x 2,x 3,.slice (J ⟨gb,go,U⟩) (xq h.E) cap]:=N.out.e 0 Z0<|n 0 Zeo;have e5:v 44=.int .u64 u0:=N.out.e 5 Z0<|n 5 Zeo;go_wp2_with (go_at_call 33;refine(HF.out _ N.out.b).mono ?_;rintro e w9 ⟨x9,rfl,b7,i7⟩;have b1:=Zfa<|And.intro b7 i7;clear b7 i7)
     try simp only[QN]
     exact⟨_,by rw[<-A,<-e5];rfl,N.out.call b1.out.1 b1.out.2⟩
    .obtain⟨x9,A,o9⟩:=N.out.t 6 (.inl rfl)<|n 6 Zeo;have A:v 45=Kz T H x9:=A;have O9:=Zfa o9;clear o9;go_wp2;try simp only[QN]
     exact⟨_,by rw[<-A];rfl,N.out.pt O9.out⟩
    iterate 3
     focus
      obtain⟨x9,A,o9⟩:=N.out.t 7 (.inr rfl)<|n 7 Zeo;have A:v 38=.tuple #[.int .u64 T,.agg<|Ys H x9,.int .i64 0]:=A;have O9:=Zfa o9;clear o9;go_wp2;try simp only[QN]
      first
      |exact⟨_,by rw[<-A];rfl,N.out.pf 8 (.inl rfl) rfl⟩
      |exact⟨_,by rw[<-A];rfl,N.out.pa O9.out⟩
      |exact⟨_,by rw[<-A];rfl,N.out.pz 10 (.inl rfl) rfl⟩
    .go_wp2;try simp only[QN]
     exact⟨_,rfl,N.out.alloc hi⟩
    .have A:v 46=.int .u64 T:=N.out.f 8 (.inl rfl)<|n 8 Zeo;go_wp2;try simp only[QN]
     exact⟨_,by rw[<-A];rfl,N.out.pf 12 (.inr rfl) rfl⟩
    .obtain⟨c7,e7,d6,j6,O⟩:=N.out.new<|n 11 Zeo;obtain⟨x9,h9,o9⟩:=N.out.a<|n 9 Zeo;have O:=O hi;have y4:∀j,W1.cell? ⟨c7,j,U⟩=Ya[j]? :=λj=>Zfg _ _ _ _ _ _ O;unfold Ya at y4;have y5:∀j,W1.frozen? ⟨c7,j,U⟩=xw:=λj=>Yw O;have H3:=Zfa O;obtain⟨a,q,K,_⟩:=AE λj n=>V6<|o9.own.own j n;rw[K]at h9;have c8:=Zfa<|And.intro K o9;clear O o9 K;go_wp2;try simp only[QN]
     exact⟨_,by rw[<-e7,<-h9],N.out.store e7 c8.out.2 (n 11 Zeo) hi H3.out (λb B=>Si B) ZeL (by rw[c8.out.1];exact qx H3.out)<|Uy (Zfr _ _) d6⟩
    .have A:v 48=.int .i64 0:=N.out.z 10 (.inl rfl)<|n 10 Zeo;go_wp2;try simp only[QN]
     exact⟨_,by rw[<-A];rfl,N.out.pz 14 (.inr rfl) rfl⟩
   .intro L v W1 hL C;have e6:v 6=.int .u64 T:=C.f 12 (.inr rfl)<|hL 12 Zeo;have e8:v 8=.int .i64 0:=C.z 14 (.inr rfl)<|hL 14 Zeo;obtain⟨c7,x9,e7,f8,o9⟩:=C.put<|hL 13 Zeo;have a7:=C.b;have c6:=a7.size;have b8:xq H.E=xq h.E:=by rw[HM.out.2.1,HM.out.2.2.2.2.2]
    obtain⟨a,q,K,f4⟩:=AE λj n=>V6<|o9.own.own j n;have f4:=f4 4 Z0;have i2:xq (Zv H 4)=xq h.E:=b8;obtain⟨g4,i1⟩:=BV (o9.own.own 4 Z0) f4 Z0;rw[i1,i2]at f4 K;rw[K]at f8;have d5:=(a7.block c g5).trans HM.out.2.2.2.2.1;have y7:=λj=>Zfg _ _ j _ _ _ f8;have yd:=λj=>Zfg _ _ j _ _ _ d5;have fd:∀j,W1.frozen? ⟨c,j,U⟩=xw:=λj=>Yw d5;have HO:=Zfa<|And.intro o9.own<|And.intro a7<|And.intro K<|And.intro f4<|And.intro b8 d5;have i1:xz (xj W)<=g4/\g4<xz (xj W1):=(o9.own.own 4 Z0).lt g4 (by rw[f4];rfl);clear C o9 a7 K f4 b8 f8 d5 hL;simp only[Ta,Ql,ZfA,Zgn,ZgN,ZiI,Zh8,ZhW,Zhz];go_upto_region 12 with fail;obtain⟨W2,a2⟩:∃W2,W2=TE W1 c (.int .u64 H.base) (.int .i64 H.cap) (.int .i64 H.to) (.bool H.Z) (.int .i64 H.aa) (.slice (a 0) (xq<|Zv H 0)<|q 0) (.slice (a 1) (xq<|Zv H 1)<|q 1) (.slice (a 2) (xq<|Zv H 2)<|q 2) (.slice (a 3) (xq<|Zv H 3)<|q 3) (.slice (J ⟨g4,0,U⟩) (xq h.E)<|q 4):=⟨_,rfl⟩;unfold TE at a2;rw[<-a2];have b6:W2.heap[c]?=J (.cells (Ys H x9) 37 (0,0)):=by rw[HO.out.2.2.1,a2];exact Nj HO.out.2.2.2.2.2
    have c0:∀b,b≠c->W2.heap[b]?=W1.heap[b]? :=λb B=>by rw[a2];exact Si B
    have h0:xz (xj W2)=xz (xj W1):=by rw[a2];simp[World.setCell]
    have a8:Below (xz<|xj w) W1 W2:=by rw[a2];exact Uy (Zfr _ _) (by have:=D.out.le;omega)
    clear a2;have P:HOwn (xz<|xj W) W2 H x9:=⟨λj n=>WF (HO.out.1.own j n) λb B=>c0 b (by have:=((HO.out.1.own j n).lt b B).1;omega),HO.out.1.apart⟩;have a4:=P.own 4 Z0;rw[HO.out.2.2.2.1,show xq (Zv H 4)=(xq h.E) from HO.out.2.2.2.2.1]at a4;have y2:=λj=>Zfg _ _ j _ _ _ b6;rw[HO.out.2.2.1]at y2;obtain⟨z0,j0⟩:∃z0,H.E[k]?=J z0:=⟨_,Zf4 (by rw[HO.out.2.2.2.2.1];exact b9)⟩;have ec:W2.cell? ⟨g4,k,U⟩=J (.int .u64 z0):=by
     rw[a4.cellAt k Z0];simp[Yx,Zv,j0]
    have ef:W2.frozen? ⟨g4,k,U⟩=xw:=a4.frozenAt k;have wk:=Zz ((k:Int)+1) (by have:=HH.out.E;omega) (by have:=HH.out.E;omega);have HQ:=Zfa<|And.intro b6<|And.intro c0<|And.intro h0<|And.intro a8<|And.intro P a4;clear b6 c0 h0 a8 P a4 y7 yd fd j0;go_wp2;go_step3
    simp only[Exit.then,Exit.inBlock];refine⟨rfl,⟨c,k+1,x9,rfl,rfl,rfl,rfl,?_,Z0,?_⟩,?_⟩;show Value.int .i64 ((k:Int)+1)=_;congr 1;rw[HM.out.1];obtain⟨b6,c0,h0,a8,P,a4⟩:=HQ.out;obtain⟨i9,k8⟩:=a4.stored k<|.int .u64 T;have k3:g4≠c:=Z0;have Z:∀b,b≠g4->(W2.setCell ⟨g4,k,U⟩<|.int .u64 T).heap[b]?=W2.heap[b]? :=λb B=>Zft _ _ _ _ B;have d8:xz (xj<|W2.setCell ⟨g4,k,U⟩<|.int .u64 T)=xz (xj W2):=ZeL;have i5:=D.out.le;have a5:=D.out.rb;refine⟨(D.out.below.trans<|(HO.out.2.1.mono D.out.below.size).trans a8).setCell (by show xz (xj w)<=g4;have:=D.out.below.size;omega) _,?_,i5,?_,λj n=> ?_⟩;have:=Yv a5;rw[Z _ Z0,c0 _ Z0,HO.out.2.1.block _ this];exact a5;rw[Z c Z0,b6];rfl;have i4:∀b,xz (xj W)<=b->b< xz (xj<|W2.setCell ⟨g4,k,U⟩<|.int .u64 T)->xz (xj w)+2<=b/\b< xz (xj<|W2.setCell ⟨g4,k,U⟩<|.int .u64 T)/\b≠c:=λb h1 h2=>⟨Z0,h2,Z0⟩;by_cases e:j=4;subst e;have hn:Yx .u64 (H.E.set k T)=(Yx .u64<|Zv H 4).set k (.int .u64 T):=yV _ _ _ _;rw[<-hn]at i9;show Rd _ _ (.sl<|(H.E.set k T).map vu)<|x9 4;rw[HO.out.2.2.2.1];have j9:xq h.E=xq (H.E.set k T):=by rw[Zh5,HO.out.2.2.2.2.1]
    have k0:(W2.setCell ⟨g4,k,U⟩<|.int .u64 T).ownsRow (xz<|xj W) 24 1 (.slice (J ⟨g4,0,U⟩) (xq h.E)<|q 4) (xq<|H.E.set k T)<|Yx .u64<|H.E.set k T:=by rw[<-j9];exact i9
    exact Ju k0 i4;have j7:Zv {H with E:=H.E.set k T} j=Zv H j:=by
     have:j=0\/j=1\/j=2\/j=3:=Z0;obtain rfl|rfl|rfl|rfl:=this<;>rfl
    rw[j7];refine Ju (WF (P.own j n) λb B=>Z b λe2=> ?_) i4;exact P.apart j 4 Z0 Z0 b B (by rw[e2,HO.out.2.2.2.1];rfl);simp[intOf];omega
  .have j8:k=xq h.E:=Z0;subst j8;obtain⟨q,I⟩:=Ap d0.out M.out (xq h.E)<|Zf9 _;have Y:(Xf (YL h)<|xq h.E).E.length=xq h.E:=I.len;clear I;have K:Wr h=Wa (Xf (YL h)<|xq h.E):=rfl;rw[K];clear K;generalize Xf (YL h) (xq h.E)=g at*;obtain⟨a,q,g8,f0⟩:=AE (g:=g) (x:=x) λj n=>by simpa using Rd.br (D.out.rd j n)
   have Y:xq (Zv g 4)=xq h.E:=Y;rw[Y]at g8;have R:=D.out.nb;rw[g8]at R;have a5:=D.out.rb;have i5:=D.out.le;have g5:=Yv R;have yc:=λj=>Zfg _ _ j _ _ _ R;have fc:∀j,W.frozen? ⟨c,j,U⟩=xw:=λj=>Yw R;have yz:∀j,W.cell? ⟨xz (xj w)+1,j,U⟩=Ya[j]? :=λj=>Zfg _ _ _ _ _ _ a5;unfold Ya at yz;have fz:∀j,W.frozen? ⟨xz (xj w)+1,j,U⟩=xw:=λj=>Yw a5;have i6:¬xz (xj w)+1=c:=Z0;have k5:¬c=xz (xj w)+1:=Z0;have HP:=Zfa<|And.intro a5<|And.intro f0 Y;clear g8 R a5 f0 Y;by_cases b0:0<xq g.H
   .have g7:(0< xq (Zv g 0))=True:=Zi1 b0;go_wp2;simp only[Exit.jump];obtain⟨W3,S⟩:∃W3,W3=W.setCell ⟨c,3,U⟩ (.bool xk):=⟨_,rfl⟩;rw[<-S];have Z:∀b,b≠c->W3.heap[b]?=W.heap[b]? :=λb B=>by
     rw[S];simp[World.setCell,ZfH,ZgQ B]
    have d8:xz (xj W3)=xz (xj W):=by rw[S];simp[World.setCell]
    have b4:Below (xz<|xj w) W W3:=by
     rw[S];exact(Zfr _ _).setCell ZeV _
    have y:=Jz<|(Z _ i6).trans HP.out.1;have A:=HP.out.2.1 0 Z0;have e1:=HP.out.2.1 1 Z0;have e2:=HP.out.2.1 2 Z0;have e3:=HP.out.2.1 3 Z0;have e4:=HP.out.2.1 4 Z0;rw[HP.out.2.2]at e4;have g6:Wa g= {g with Z:=xk}:=if_pos b0;rw[g6];clear S;refine ZfV (v:=.tuple #[ZN {g with Z:=xk} x,.int .i64 0]) ?_ rfl ⟨x,rfl,Uy (D.out.below.trans b4) Z0,λj n=> ?_⟩
    .simp[results,Try.results36,go_sem,y,ZN,A,e1,e2,e3,e4]
    have hl:Zv {g with Z:=xk} j=Zv g j:=rfl;rw[hl];exact(D.out.rd j n).keep (λb B=>(Si (by have:=B.1;omega)).trans<|Z b B.2.2) λb B=>⟨by have:=B.1;omega,by simp[World.setCell,d8];exact B.2.1⟩
   .have g7:(0< xq (Zv g 0))=False:=ZiS b0;go_wp2;simp only[Exit.jump];obtain⟨W3,S⟩:∃W3,W3=((W.setCell ⟨c,3,U⟩<|.bool xw).setCell ⟨c,7,U⟩<|.slice U 0 0).setCell ⟨c,8,U⟩ (.slice U 0 0):=⟨_,rfl⟩;rw[<-S];have Z:∀b,b≠c->W3.heap[b]?=W.heap[b]? :=λb B=>by
     rw[S];simp[World.setCell,ZfH,ZgQ B]
    have d8:xz (xj W3)=xz (xj W):=by rw[S];simp[World.setCell]
    have b4:Below (xz<|xj w) W W3:=by
     rw[S];exact(((Zfr _ _).setCell ZeV _).setCell ZeV _).setCell ZeV _
    have y:=Jz<|(Z _ i6).trans HP.out.1;have A:=HP.out.2.1 0 Z0;have e1:=HP.out.2.1 1 Z0;have e4:=HP.out.2.1 4 Z0;rw[HP.out.2.2]at e4;have g6:Wa g= {g with Z:=xw,ah:=[],aj:=[]}:=if_neg b0;rw[g6];clear S;refine ZfV (v:=.tuple #[ZN {g with Z:=xw,ah:=[],aj:=[]} (λj=>if j=2\/j=3 then .slice U 0 0 else x j),.int .i64 0]) ?_ rfl ⟨_,rfl,Uy (D.out.below.trans b4) Z0,λj n=> ?_⟩
    .simp[results,Try.results36,go_sem,y,ZN,A,e1,e4]
    have:j=2\/j=3\/(j≠2/\j≠3):=Z0;obtain rfl|rfl|⟨h2,h3⟩:=this;exact .nil _ _ Zen;exact .nil _ _ Zen;have hl:Zv {g with Z:=xw,ah:=[],aj:=[]} j=Zv g j:=by
     have:j=0\/j=1\/j=4:=Z0;obtain rfl|rfl|rfl:=this<;>rfl
    rw[hl];simp only[h2,h3,or_self,Zg3];exact(D.out.rd j n).keep (λb B=>(Si (by have:=B.1;omega)).trans<|Z b B.2.2) λb B=>⟨by have:=B.1;omega,by simp[World.setCell,d8];exact B.2.1⟩
 intro c1
 go_upto_region 5 with (first
  | (go_at_call 25;refine(HR.out _ ?_).mono ?_;rotate_left;rintro e wa ⟨rfl,a3⟩
     have bA:wa.heap[xz<|xj w]?=J (.cells #[.int .u64 h.base,.int .i64 h.cap,.int .i64 h.to,.bool xw,.int .i64 h.aa,Q 0,Q 1,Q 2,Q 3,Q 4] 37 (0,0)):=(a3.block _ Ze9).trans<|(Zfp _ _ _ Z1).trans<|ZfG w _;have bZ:wa.heap[xz (xj w)+1]?=J (.cells Ya 37 (0,0)):=(a3.block _ Z1).trans<|DV w _;have ya:=λj=>Zfg _ _ j _ _ _ bA;have f2:=Zfa a3;have j3:=Zfa<|And.intro bA bZ;clear a3 bA bZ))
 case refine_1=>exact((Zfr _ w).alloc (Zf9 _) _).alloc Z1 _
 have a3:Below (xz<|xj w) w wa:=Below.trans (((Zfr _ w).alloc (Zf9 _) _).alloc Z1 _)<|f2.out.mono Ze9;have k9:xz (xj w)+2<=xz (xj wa):=by have:=f2.out.size;simp at this;omega
 have h8:=Zfa a3;clear a3 f2;have f5:=Zfa (λ(W:Z3) (hW:Below (xz<|xj wa) wa W) (j:Nat) (n:j<5)=>(HS.out j n).keep (λb X=>(hW.block b (by have:=hG b X;omega)).trans<|h8.out.block b<|hG b X) λ_ q=>q);refine NA [16,17,18,19,20,21,22,23,24,25,26,27,28,29,30,31,32,4] (FlC wa (xz<|xj w) h Q) follows Z2 ⟨λ_=>undef,Zej,?_⟩ ?_ ?_;exact⟨(Zfr _ _).drew,λi _ h=>Zel,λi _ h=>Zel,λh=>Zel,λh=>Zel,λh=>Zel,λh=>Zel⟩
 .intro L i o v W ho hi n C;have M:=Zfa C;have hz:xz (xj wa)<=xz (xj W):=C.b.size;have ya:=λj=>(C.b.cell (p:=⟨xz<|xj w,j,U⟩) (by show xz (xj w)<xz (xj wa);omega)).trans<|ya j;clear C;have k7:i<19:=(Zf8.1 ho).1;simp only[Ta,Ql,ZfA,Zgn,ZgN,ZiI,Zh8,ZhW,Zhz];have:i=0\/i=2\/i=4\/i=7\/i=10\/i=13\/i=1\/i=3\/i=5\/i=6\/i=8\/i=11\/i=14\/i=9\/i=12\/i=15\/i=16\/i=17\/i=18:=Z0;obtain rfl|rfl|rfl|rfl|rfl|rfl|rfl|rfl|rfl|rfl|rfl|rfl|rfl|rfl|rfl|rfl|rfl|rfl|rfl:=this<;>cases ho
  iterate 6
   focus
    go_wp2;try simp only[QN]
    exact⟨_,rfl,M.out.pure (by unfold XR;omega) rfl rfl⟩
  iterate 7
   focus
    first
    |have A:=M.out.eq 0 (by unfold XR;omega)<|n 0 (by decide)
    |have A:=M.out.eq 2 (by unfold XR;omega)<|n 2 (by decide)
    |have A:=M.out.eq 4 (by unfold XR;omega)<|n 4 (by decide)
    |have A:=M.out.eq 5 (by unfold XR;omega)<|n 5 (by decide)
    |have A:=M.out.eq 7 (by unfold XR;omega)<|n 7 (by decide)
    |have A:=M.out.eq 10 (by unfold XR;omega)<|n 10 (by decide)
    |have A:=M.out.eq 13 (by unfold XR;omega)<|n 13 (by decide)
    simp only[UR]at A;go_wp2;try simp only[QN]
    exact⟨_,by rw[<-A];rfl,M.out.pure (by unfold XR;omega) rfl rfl⟩
  iterate 3
   focus
    first
    |(have A:=M.out.eq 8 (by unfold XR;omega)<|n 8 (by decide);have F:=At W (l:=h.H) (G:=G) HH.out.H<|f5.out _ M.out.b 0 (by omega))
    |(have A:=M.out.eq 11 (by unfold XR;omega)<|n 11 (by decide);have F:=At W (l:=h.ac) (G:=G) HH.out.ac<|f5.out _ M.out.b 1 (by omega))
    |(have A:=M.out.eq 14 (by unfold XR;omega)<|n 14 (by decide);have F:=At W (l:=h.E) (G:=G) HH.out.E<|f5.out _ M.out.b 4 (by omega))
    have HF:=Zfa F;clear F;simp only[UR]at A;go_wp2_with (go_at_call 73;refine HF.out.mono ?_;rintro e w9 ⟨y,rfl,b7,i8⟩;have b1:=Zfa<|And.intro b7 i8;clear b7 i8)
    try simp only[QN]
    exact⟨_,by rw[<-A];rfl,M.out.call ZeF rfl b1.out.1 b1.out.2⟩
  .have A:=M.out.eq 1 (by unfold XR;omega)<|n 1 Zeo;have E0:=Zfa A;simp only[UR]at A;have e1:=M.out.eq 3 (by unfold XR;omega)<|n 3 Zeo;have E1:=Zfa e1;simp only[UR]at e1;have e2:=M.out.eq 6 (by unfold XR;omega)<|n 6 Zeo;have E2:=Zfa e2;simp only[UR]at e2;obtain⟨a9,c9,f9⟩:=Rd.br<|M.out.rd 9 ZeF<|n 9 Zeo;rw[show xq (List.map vu<|Ul h 9)=(xq h.H) from ZfC _]at f9;simp only[Nat.reduceAdd]at f9;have F9:=Zfa f9;obtain⟨b2,RL,a0⟩:=Rd.br<|M.out.rd 12 ZeF<|n 12 Zeo;rw[show xq (List.map vu<|Ul h 12)=(xq h.ac) from ZfC _]at a0;simp only[Nat.reduceAdd]at a0;have h6:=Zfa a0;obtain⟨b3,b5,a1⟩:=Rd.br<|M.out.rd 15 ZeF<|n 15 Zeo;rw[show xq (List.map vu<|Ul h 15)=(xq h.E) from ZfC _]at a1;simp only[Nat.reduceAdd]at a1;have h7:=Zfa a1;go_wp2;try simp only[QN]
   refine⟨X0 (X0 (X0 (X0 (X0 (X0 (X0 v 17<|UR (xz<|xj w) h Q 1) 19<|UR (xz<|xj w) h Q 3) 22<|UR (xz<|xj w) h Q 6) 25<|.slice a9 (xq h.H) c9) 28<|.slice b2 (xq h.ac) RL) 31<|.slice b3 (xq h.E) b5) 32<|.agg #[.int .u64 h.base,.int .i64 h.cap,.int .i64<|1-h.to,.bool xw,.int .i64 0,.slice U 0 0,.slice U 0 0,.slice a9 (xq h.H) c9,.slice b2 (xq h.ac) RL,.slice b3 (xq h.E) b5],rfl,?_⟩;rw[JJ (v:=v) E0.out,JJ (v:=v) E1.out,JJ (v:=v) E2.out,JJ (v:=v) F9.out,JJ (v:=v) h6.out,JJ (v:=v) h7.out];have hx:((.agg #[.int .u64 h.base,.int .i64 h.cap,.int .i64<|1-h.to,.bool xw,.int .i64 0,.slice U 0 0,.slice U 0 0,.slice a9 (xq h.H) c9,.slice b2 (xq h.ac) RL,.slice b3 (xq h.E) b5]):Value)=.agg (U1 h λi=>v<|16+i):=by
    unfold U1;simp only[Nat.reduceAdd];rw[F9.out,h6.out,h7.out]
   rw[hx];exact M.out.built (n 9 Zeo) (n 12 Zeo)<|n 15 Zeo
  .go_wp2;try simp only[QN]
   exact⟨_,rfl,M.out.alloc hi⟩
  .obtain⟨c,e4,d6,j6,O⟩:=M.out.new<|n 17 Zeo;obtain⟨y,f6,hy⟩:=M.out.agg<|n 16 Zeo;have O:=O hi;have y4:∀j,W.cell? ⟨c,j,U⟩=Ya[j]? :=λj=>Zfg _ _ _ _ _ _ O;unfold Ya at y4;have y5:∀j,W.frozen? ⟨c,j,U⟩=xw:=λj=>Yw O;have H3:=Zfa O;have j2:=Zfa f6;obtain⟨a9,c9,f9⟩:=Rd.br<|hy 9 ZeF;obtain⟨b2,RL,a0⟩:=Rd.br<|hy 12 ZeF;obtain⟨b3,b5,a1⟩:=Rd.br<|hy 15 ZeF;rw[show xq (List.map vu<|Ul h 9)=(xq h.H) from ZfC _]at f9;rw[show xq (List.map vu<|Ul h 12)=(xq h.ac) from ZfC _]at a0;rw[show xq (List.map vu<|Ul h 15)=(xq h.E) from ZfC _]at a1;have K:U1 h y=#[.int .u64 h.base,.int .i64 h.cap,.int .i64<|1-h.to,.bool xw,.int .i64 0,.slice U 0 0,.slice U 0 0,.slice a9 (xq h.H) c9,.slice b2 (xq h.ac) RL,.slice b3 (xq h.E) b5]:=by
    unfold U1;rw[f9,a0,a1]
   rw[K]at f6;have c8:=Zfa K;clear O hy f9 a0 a1 K;go_wp2;try simp only[QN]
   exact⟨_,by rw[<-e4,<-f6],M.out.store e4 j2.out (n 17 Zeo) (n 16 Zeo) hi H3.out (λb B=>Si B) ZeL (by rw[c8.out];exact qx H3.out)<|Uy (Zfr _ _) d6⟩
 .intro L v W hL C;obtain⟨c,y,e4,d6,i0,hy⟩:=C.put<|hL 18 Zeo;have f3:=Zfa C.b;have HY:=Zfa<|And.intro i0 hy;have j4:=Zfa c1;have f1:=Zfa<|And.intro (hL 17 Zeo) e4;clear C i0 hy hL c1;simp only[Ta,Ql,ZfA,Zgn,ZgN,ZiI,Zh8,ZhW,Zhz];go_wp2;go_step3
  simp only[Exit.then];rename_i j5;refine j5 _ _<|j4.out _ _ ?_;refine⟨c,0,λj=>if j=2 then y 9 else if j=3 then y 12 else if j=4 then y 15 else .slice U 0 0,rfl,rfl,rfl,f1.out.2,rfl,Zga _,?_⟩;have c6:=f3.out.size;have hG:∀b,V2 wa W L v b->xz (xj w)+2<=b/\b<xz (xj W)/\b≠c:=λb B=>⟨by have:=B.1;omega,B.2.1,λe=>B.2.2 f1.out.1 (by rw[e];exact f1.out.2)⟩;refine⟨h8.out.trans<|f3.out.mono Z0,(f3.out.block _ Z0).trans j3.out.2,Z0,HY.out.1,λj n=> ?_⟩;have:j=0\/j=1\/j=2\/j=3\/j=4:=Z0;obtain rfl|rfl|rfl|rfl|rfl:=this;exact .nil _ _ Zen;exact .nil _ _ Zen;exact(HY.out.2 9 ZeF).mono hG;exact(HY.out.2 12 ZeF).mono hG;exact(HY.out.2 15 ZeF).mono hG
end Vm
end
section
namespace Vm
open Go
open Go.Proofs

end Vm
end
section
namespace Vm
open Go Go.Proofs Go.RowKit
def PV(w:Z3)(G:Z4)(g:∀b,G b->b<xz (xj w))(h:Hp)(k:h.ok)(a:Z6)(l:∀j,j<5->Rd w G (.sl<|(Zv h j).map vu) (a j)):
  Calls Sol.prog 36 #[ZN h a] w (zf w<|US h):=by
 cases d:YI h with
 |false=>
  rw[show US h=(Hp.zero,1)by unfold US;rw[if_pos d]];exact PR w G g h k a l d
 |true=>
  cases f:h.Z with
  |true=>
   rw[show US h=(Hp.zero,10)by unfold US;rw[if_neg (by rw[d];simp),if_pos f]];exact PS w G g h k a l d f
  |false=>
   obtain⟨p,r⟩:=LC.1 d;rw[show US h=(Wr h,0)by unfold US;rw[if_neg (by rw[d];simp),if_neg (by rw[f];simp)]];exact PT w G g h k a l r f
def PU{h:Hp}(r:h.ok):VC Sol.prog 36 xw [ZK h]<|.an [ZK (US h).1,vi (US h).2]:=by
 refine⟨Z2,λw G vs o g k=> ?_⟩;have r0:=k 0 _ rfl;have q:vs=#[vs.getD 0 undef]:=by
  have a:vs.size=1:=g;apply ZhH;simp[a];intro i B C;have t:i<1:=Z0
  match i,t with
  |0,_=>simp[Array.getD,a]
 obtain⟨l,n,A⟩:=AF r0;rw[q,n];refine(PV w G o h r l A).mono ?_;rintro e D ⟨x,rfl,f,z⟩;refine⟨_,rfl,f,?_⟩;refine .an _ _ rfl ?_;intro i y d
 match i,d with
 |0,d=>cases d;exact yh λj u=>(z j u).mono λb p=>.inr p
 |1,d=>cases d;exact .int _ _
end Vm
end
section
namespace Vm
open Go
open Go.Proofs
def Mr:Fn:=⟨16,[0,1,2,3,4,5,6,7,8,9,10,11,12,13,14,15],pQ [pR [pV 0 pF],.am ⟨[],[([],.ag [pU 10,pI 5,pI 1,pT,pI 0,.lit [pU 2,pU 6],pN,.lit [pU 31,pU 0],pN,.lit [pU 31]])],[(1,.m [pU 10,pI 5,pI 1,pT,pI 0,.lit [pU 2,pU 6],pN,.lit [pU 31,pU 0],pN,.lit [pU 31]])]⟩,pC [pK 16 39 [.mm 1 0 10,pI 1]] [(2,pM (.sz (.ext (.s 16) 0) 10) 10),pV 3<|.fl<|.ext (.s 16) 1],pC [pK 17 39 [.mm 1 0 10,pI 2]] [(4,pM (.sz (.ext (.s 17) 0) 10) 10),pV 5<|.ext (.s 17) 1],pC [pK 18 41 [.mm 2 0 10]] [(6,pM (.sz (.ext (.s 18) 0) 10) 10),pV 7<|.ext (.s 18) 1],pC [pK 19 39 [.mm 1 0 10,pI<|-1]] [(8,pM (.sz (.ext (.s 19) 0) 10) 10),pV 9<|.ext (.s 19) 1],pC [pK 20 41 [pY]] [(10,pM (.sz (.ext (.s 20) 0) 10) 10),pV 11<|.ext (.s 20) 1],pR [(12,pM (.mm 1 0 10) 10)],pR [(12,.m [.m 12 0,.m 12 1,.m 12 2,.m 12 3,pI 1,.m 12 5,.m 12 6,.m 12 7,.m 12 8,.m 12 9])],.am ⟨[],[([],.ag [pU 10,pI 5,pI 1,pF,pI 2,.lit [pU 2,pU 6],pN,pN,pN,.lit [pU 31]])],[(13,.m [pU 10,pI 5,pI 1,pF,pI 2,.lit [pU 2,pU 6],pN,pN,pN,.lit [pU 31]])]⟩,pC [pK 21 39 [.mm 13 0 10,pI 9]] [(14,pM (.sz (.ext (.s 21) 0) 10) 10),pV 15<|.fl<|.ext (.s 21) 1],.am ⟨[.lt 22 []<|pe (.s 3)<|pI 0,.call 23 [(22,xk)] (.id 40) xw xw [.mm 2 0 10,.mm 12 0 10],.lt 24 []<|.ite (.s 22) (.s 23) pF,.lt 25 []<|.ite (.s 24) (pe (.s 5)<|pI 0) pF,.call 26 [(25,xk)] (.id 40) xw xw [.mm 4 0 10,.mm 13 0 10],.lt 27 []<|.ite (.s 25) (.s 26) pF,.lt 28 []<|.ite (.s 27) (pe (.s 7)<|pI 0) pF,.call 29 [(28,xk)] (.id 40) xw xw [.mm 6 0 10,.mm 13 0 10],.lt 30 []<|.ite (.s 28) (.s 29) pF,.lt 31 []<|.ite (.s 30) (pe (.s 9)<|pI 1) pF,.lt 32 []<|.ite (.s 31) (pe (.s 11)<|pI 1) pF,.lt 33 []<|.ite (.s 32) (pe (.s 15)<|pI 0) pF,.call 34 [(33,xk)] (.id 40) xw xw [.mm 14 0 10,.mm 13 0 10]],[([(24,xk)],pe (.s 5)<|pI 0),([(27,xk)],pe (.s 7)<|pI 0),([(30,xk)],pe (.s 9)<|pI 1),([(31,xk)],pe (.s 11)<|pI 1),([(32,xk)],pe (.s 15)<|pI 0)],[pV 0<|.ite (.s 33) (.s 34) pF]⟩] .ret,[(0,.v)]⟩
def c37:ZL Sol.prog fresh sig [] [] Try.f37=J Mr:=Z2
def Ms:Fn:=⟨6,[0,1,2,4,5,12],pQ [pR [(2,pS 0 10),(3,pZ),pV 4<|pI 0],pQ [.am ⟨[.lt 6 []<|pl (.s 1)<|pI 0,.call 7 [(6,xw)] (.id 25) xw xw [.mm 2 0 10]],[([(6,xw)],.un .not<|.s 7)],[pV 5<|.ite (.s 6) pT<|.un .not<|.s 7]⟩]<|pw (.s 5)<|pQ [.am ⟨[],[([],pY)],[(3,pZ),pV 4<|pI 1]⟩] .ret,pC [pK 8 74 [.mm 2 0 10,.s 1]] [(3,pM (.sz (.ext (.s 8) 0) 10) 10),pV 4<|.ext (.s 8) 1]] .ret,[(3,(.ag 10)),(4,.v)]⟩
def c39:ZL Sol.prog fresh sig [.fz,.fz] [] Try.f39=J Ms:=Z2
def Mu:Fn:=⟨5,[0,1,2,3,6],pQ [pR [(1,pS 0 10),(2,pZ),pV 3<|pI 0],pQ [pC [pK 5 25 [.mm 1 0 10]] [pV 4<|.un .not<|.s 5]]<|pw (.s 4)<|pQ [.am ⟨[],[([],pY)],[(2,pZ),pV 3<|pI 1]⟩] .ret,pC [pK 6 74 [.mm 1 0 10,pI 9223372036854775807]] [(2,pM (.sz (.ext (.s 6) 0) 10) 10),pV 3<|.ext (.s 6) 1]] .ret,[(2,(.ag 10)),(3,.v)]⟩
def c41:ZL Sol.prog fresh sig [.fz] [] Try.f41=J Mu:=Z2
def MO:Fn:=⟨3,[0,1,2],pQ [pR [(1,pS 0 10),(2,pZ)],pC [pK 3 114 [.m 1 5],pK 4 114 [.m 1 6]] [(1,.m [.m 1 0,.m 1 1,.m 1 2,.m 1 3,.m 1 4,.one<|.s 3,.one<|.s 4,.m 1 7,.m 1 8,.m 1 9])],pC [pK 5 114 [.m 1 7],pK 6 114 [.m 1 8]] [(1,.m [.m 1 0,.m 1 1,.m 1 2,.m 1 3,.m 1 4,.m 1 5,.m 1 6,.one<|.s 5,.one<|.s 6,.m 1 9])],pC [pK 7 114 [.m 1 9]] [(1,.m [.m 1 0,.m 1 1,.m 1 2,.m 1 3,.m 1 4,.m 1 5,.m 1 6,.m 1 7,.m 1 8,.one<|.s 7])]]<|px [(2,pM (.mm 1 0 10) 10)],[(2,(.ag 10))]⟩
def c96:ZL Sol.prog fresh sig [.fz] [] Try.f96=J MO:=Z2
end Vm
end
section
namespace Vm
open Go Go.Proofs Go.RowKit
def JY{l:Z8}(n:I l<=1000000):VC Sol.prog 114 xw [.sl<|l.map vu]<|.sl<|l.map vu:=by
 refine⟨Z2,λw G vs h f g=> ?_⟩;have r0:=g 0 _ rfl;have j:vs=#[vs.getD 0 undef]:=by
  have a:vs.size=1:=f;apply ZhH;simp[a];intro i p q;have k:i<1:=Z0
  match i,k with
  |0,_=>simp[Array.getD,a]
 rw[j];refine(PM w h n r0).mono ?_;rintro e r ⟨v,rfl,d,o⟩;exact⟨v,rfl,d,o.mono λb d=>.inr d⟩
def Z5B{h:Hp}(a:h.ok):VC Sol.prog 96 xw [ZK h]<|ZK h:=by
 refine ZW Sol.func96 follows Z2 c96 rfl ?_;have d:=JY a.H;have f:=JY a.ac;have g:=JY a.ah;have j:=JY a.aj;have k:=JY a.E;simp[MO,ZK];refine Zy d Z1 ?_;simp;refine Zy f Z1 ?_;simp;refine Zy g Z1 ?_;simp;refine Zy j Z1 ?_;simp;refine Zy k Z1 ?_;simp
def Z5y(w:Z3)(G:Z4)(k:∀b,G b->b<xz (xj w))(h:Hp)(l:h.ok)(a:Z6)(p:∀j,j<5->Rd w G (.sl<|(Zv h j).map vu) (a j)):
  Calls Sol.prog 96 #[ZN h a] w λe f=>∃x,e=.returned (ZN h x)/\Below (xz<|xj w) w f/\∀j,j<5->Rd f (λc=>G c\/(xz (xj w)<=c/\c<xz (xj f))) (.sl<|(Zv h j).map vu) (x j):=by
 refine((Z5B l).2 w G #[ZN h a] k rfl λi x d=> ?_).mono ?_
 match i,d with
 |0,d=>cases d;exact yh p
 rintro e f ⟨v,rfl,g,o⟩;obtain⟨x,rfl,d⟩:=AF o;exact⟨x,rfl,g,λj n=>(d j n).mono λb g=>g.imp (λq=>q.2) id⟩
end Vm
end
section
namespace Vm
open Go Go.Proofs
def LG{h:Hp}(hc:h.Z=xw):∀k,Y3 h k=h
 |0=>rfl
 |k+1=>by unfold Y3;rw[hc];simp
def Sw(h:Hp):∀k,Y3 h (k+1)=if(Y3 h k).Z then WI (Y3 h k)else Y3 h k
 |0=>by unfold Y3;cases a:h.Z<;>simp[Y3,a]
 |k+1=>by
  cases a:h.Z with
  |false=>rw[LG a,LG a,a];simp
  |true=>
   have e:∀j,Y3 h (j+1)=Y3 (WI h) j:=λj=>by rw[Y3.eq_2,a];simp
   rw[e<|k+1,e k];exact Sw (WI h) k
def D2(h:Hp)(a:Nat):∀b,Y3 h (a+b)=Y3 (Y3 h a) b
 |0=>rfl
 |b+1=>by rw[<-Zgi,Sw,Sw,D2 h a b]
structure ScansTo (h:Hp) (p:Pts) (k:Nat) (g:Hp) (q:Pts):Prop where
 rt:Rt g q
 len:I h.H<=I g.H
 keep:∀j:Nat,(j:Int)<h.aa->g.H[j]?=h.H[j]?
 ac:g.ac=h.ac
 E:g.E=h.E
 num:g.base=h.base/\g.cap=h.cap/\g.to=h.to
 aa:h.aa<=g.aa/\g.aa<=h.aa+k
 gk:∃r,q.H=p.H++r
 gj:q.ac=p.ac
 ld:g.Z=xk->h.Z=xk/\g.aa=h.aa+k/\(I g.H:Int)+Xb q=I h.H+Xb p
 tv:(I g.H:Int)<=I h.H+Xb p
 whole:g.Z=xw->h.Z=xk->g.aa=I g.H
def Rt.gc{h:Hp}{p:Pts}(r:Rt h p):∀k,∃q,ScansTo h p k (Y3 h k) q
 |0=>⟨p,r,Zf9 _,λ_ _=>rfl,rfl,rfl,⟨rfl,rfl,rfl⟩,⟨by show h.aa<=h.aa;omega,by show h.aa<=h.aa+((0:Nat):Int);omega⟩,⟨[],Z1⟩,rfl,λa=>⟨a,by show h.aa=h.aa+((0:Nat):Int);omega,rfl⟩,by show(I h.H:Int)<=_;omega,λa l=>(by rw[show Y3 h 0=h from rfl,l]at a;cases a)⟩
 |k+1=>by
  obtain⟨q,s⟩:=r.gc k;rw[Sw];generalize Y3 h k=g at*;have o:=s.aa.1;have y:=s.aa.2;cases a:g.Z with
  |false=>
   simp only[Zfm,Zg3];exact⟨q,s.rt,s.len,s.keep,s.ac,s.E,s.num,⟨o,Z0⟩,s.gk,s.gj,λh=>(by rw[a]at h;cases h),s.tv,λ_ h=>s.whole a h⟩
  |true=>
   simp only[Zg1];obtain⟨H,D,f⟩:=s.rt.aa a;obtain⟨t,c2,c3⟩:=s.ld a;rw[f.eq];obtain⟨L,z,n⟩:=f.H;obtain⟨F,u⟩:=s.gk;obtain⟨G,w⟩:=f.gk;obtain⟨A,B,C,K⟩:=f.num;refine⟨D,f.rt,by have:=s.len;omega,λj x=>(n j Z0).trans<|s.keep j x,f.ac.trans s.ac,f.E.trans s.E,⟨A.trans s.num.1,B.trans s.num.2.1,C.trans s.num.2.2⟩,⟨Z0,Z0⟩,⟨F++G,by rw[w,u,ZfM]⟩,f.gj.trans s.gj,λd=>⟨t,Z0,by have:=f.room d;omega⟩,by have:=f.tv;omega,λd _=>(f.rt.rest d).1⟩
def Z7J{h:Hp}{p:Pts}(a:h.ok)(r:Rt h p)(hc:h.Z=xk):(WI h).ok:=by
 have t:=r.ml;obtain⟨i,o⟩:=Zfi r.gy;have l:i<I h.H:=by have:=r.ld hc;omega
 obtain⟨u,q⟩:∃u,h.H[i]?=J u:=⟨_,Zf4 l⟩;have y:=a.H;have n:∀g:Hp,g.ok->(YS g).ok:=λg d=>by
  unfold YS;split;exact⟨d.base,d.cap,d.to,d.aa,d.H,d.ac,Z1,Z1,d.E,d.gh,d.gu,Z1,Z1,d.dq⟩;exact d
 have k:Yr<|h.aa+1:=⟨Z0,Z0⟩;unfold WI;rw[o,Zfh,q,Zfw];rw[o]at k;have f:=zX a<|a.gh u<|Zfc q;split;refine n _ ?_;obtain⟨f,x⟩:=f
 exact⟨f.base,f.cap,f.to,k,by simp;exact f.H,f.ac,f.ah,f.aj,f.E,λw t=>by
  obtain j|j:=ZgB t;exact f.gh w j;rw[j];exact x,f.gu,f.ma,f.lj,f.dq⟩
 exact n _ ⟨a.base,a.cap,a.to,k,a.H,a.ac,a.ah,a.aj,a.E,a.gh,a.gu,a.ma,a.lj,a.dq⟩
def LF{h:Hp}{p:Pts}(a:h.ok)(r:Rt h p):∀k,(Y3 h k).ok
 |0=>a
 |k+1=>by
  obtain⟨q,s⟩:=r.gc k;have:=LF a r k;rw[Sw];generalize Y3 h k=g at*;cases d:g.Z with
  |false=>simpa using this
  |true=>simpa using Z7J this s.rt d
end Vm
end
section
namespace Vm
open Go Go.Proofs Go.RowKit Go.Shelf
section
attribute [local go_sem] Oper.semAt_some
def Z9p{n P c Q a w}(h:c.wpIn Fence.wide n P (Exit.noGoto Q) a w):(Code.scope c).wpIn Fence.wide n P Q a w:=
 wpIn_wide.2 (wp_scope_straight<|wpIn_wide.1 h)
def Z6B{W d}{B:Z4}{b r}{l:Z8}{y}(h:Rd W (λc=>B c/\c<xz (xj W)/\c≠b) (.sl<|l.map vu) y)(f:W.grownBy d<|J r)(g:¬B r):
  Rd d (λc=>B c/\c<xz (xj d)/\c≠b) (.sl<|l.map vu) y:=
 (h.keep (λc a=>f.block c a.2.1 λe=>Ze8) λc a=>a).mono λc a=>⟨a.1,Zfb a.2.1 f.size,a.2.2⟩
theorem NowI.kept{B W a b r g x}(S:NowI B W b g x)(d:W.grownBy a<|J r)(f:¬B r):NowI B a b g x:=
 ⟨S.le,(d.block b (Yv S.nb) λe=>by cases e;exact f S.le).trans S.nb,λj h=>Z6B (S.rd j h) d f⟩
def JV:Array Value:=#[.int .u64 0,.int .i64 0,.int .i64 0,.bool xw,.int .i64 0,.slice U 0 0,.slice U 0 0,.slice U 0 0,.slice U 0 0,.slice U 0 0]
structure ScI (B:Nat->Prop) (w:World) (b:Nat) (h:Hp) (k done:Nat) (W:World):Prop where
 ip:∃x,NowI B W b (Y3 h done) x
 le:done<=k
 kb:W.heap[xz (xj w)+1]?=J (.cells #[.int .i64<|(k:Int) - (done:Nat)] 3 (0,0))
 r0:W.heap[xz (xj w)+2]?=J (.cells JV 37 (0,0))
 r1:W.heap[xz (xj w)+3]?=J (.cells #[.int .i64 0] 32 (0,0))
 fn:W.heap[b+1]?=J (.cells #[.func (.func 97) #[] #[.pointer<|J ⟨b,0,U⟩]] 160 (0,0))
 gr:w.grownBy W U
def ScI.dt{B w b h k done W a row}(S:ScI B w b h k done W)(d:W.grownBy a row)(l:∀r,row=J r->xz (xj w)<=r/\∃o,W.heap[r]?=J o/\o.isCells=xw):ScI B w b h k done a:=by
 let⟨x,p⟩:=S.ip
 have q:∀c (o:Obj),W.heap[c]?=J o->o.isCells=xk->a.heap[c]?=J o:=λc o f n=>(d.block c Ze7 λe=>by
  let⟨_,t,g,j⟩:=l c e.symm;rw[f]at g;cases g;rw[n]at j;cases j).trans f
 exact⟨⟨x,p.dt d λr e=>(l r e).2⟩,S.le,q _ _ S.kb rfl,q _ _ S.r0 rfl,q _ _ S.r1 rfl,q _ _ S.fn rfl,UX S.gr d λr e=>Ze8⟩
def Z3N W b:Calls Sol.prog 98 #[.pointer<|J ⟨b,0,U⟩] W λe d=>e=.returned (.func (.func 115) #[] #[.pointer<|J ⟨xz<|xj W,0,U⟩])/\d=W.alloc (.cells #[.pointer<|J ⟨b,0,U⟩] 164):=by
 have a:∀fn first cap w,(Instr.makeFunc fn first cap).run Sol.prog w=.ok _ w:=λ_ _ _ _=>rfl;go_enter Sol.func98,Try.ntmps98;go_wp2;exact ZfV (v:=.func _ #[] #[.pointer _]) (by simp[results,go_sem]) rfl ⟨rfl,rfl⟩
def Z26(w:Z3)d a f g:∃W,(((w.alloc d).alloc a).alloc f).alloc g=W/\xz (xj W)=xz (xj w)+4/\w.grownBy W U/\W.heap[xz (xj w)+1]?=J a/\W.heap[xz (xj w)+2]?=J f/\W.heap[xz (xj w)+3]?=J g:=by
 refine⟨_,rfl,Z1,⟨rfl,rfl,rfl,Ze9,λk h _=> ?_⟩,?_,?_,?_⟩;rw[Zfp _ _ _ Ze9,Zfp _ _ _ Ze9,Zfp _ _ _ Ze9,Zfp _ _ _ h];rw[Zfp _ _ _ Z1,Zfp _ _ _ Z1];have:=Zgh (w.alloc d) a;rwa[Zhu]at this;rw[Zfp _ _ _ Z1];have:=Zgh ((w.alloc d).alloc a) f;simpa using this;have:=Zgh (((w.alloc d).alloc a).alloc f) g;simpa using this
def Z7N{w w0 w1}{G:Z4}(u:∀b,G b->b<xz (xj w)){h:Hp}(A:h.ok){p}(r:Rt h p){k:Nat}{d:Z6}(H:xz (xj w0)=xz (xj w)+4)(n:w.grownBy w0 U)
  (k1:w0.heap[xz (xj w)+1]?=J (.cells #[.int .i64 k] 3 (0,0))) (K:w0.heap[xz (xj w)+2]?=J (.cells JV 37 (0,0))) (L:w0.heap[xz (xj w)+3]?=J (.cells #[.int .i64 0] 32 (0,0)))
  (l:Below (xz<|xj w0) w0 w1) (hx:∀j,j<5->Rd w1 (λc=>G c\/(xz (xj w0)<=c/\c<xz (xj w1))) (.sl<|(Zv h j).map vu) (d j)):
  ∃w3,((w1.alloc<|.cells (Ys h d) 37).alloc<|.cells #[.func (.func 97) #[] #[.pointer<|J ⟨xz<|xj w1,0,U⟩]] 160).alloc (.cells #[.pointer<|J ⟨xz<|xj w1,0,U⟩] 164)=w3/\
   xz (xj w3)=xz (xj w1)+3/\xz (xj w0)<=xz (xj w1)/\ScI (λc=>G c\/xz (xj w)+4<=c) w (xz<|xj w1) h k 0 w3/\KnI (λc=>G c\/xz (xj w)+4<=c) (xz<|xj w1) (xz (xj w1)+2) p w3:=by
 refine⟨_,rfl,Z1,l.size,?_⟩;have g:∀c,c<xz (xj w1)->(((w1.alloc<|.cells (Ys h d) 37).alloc<|.cells #[.func (.func 97) #[] #[.pointer<|J ⟨xz<|xj w1,0,U⟩]] 160).alloc<|.cells #[.pointer<|J ⟨xz<|xj w1,0,U⟩] 164).heap[c]?=w1.heap[c]? :=λc a=>by
  rw[Zfp _ _ _ Ze9,Zfp _ _ _ Ze9,Zfp _ _ _ a]
 have F:xz (xj<|((w1.alloc<|.cells (Ys h d) 37).alloc<|.cells #[.func (.func 97) #[] #[.pointer<|J ⟨xz<|xj w1,0,U⟩]] 160).alloc<|.cells #[.pointer<|J ⟨xz<|xj w1,0,U⟩] 164)=xz (xj w1)+3:=Z1;have x:(((w1.alloc<|.cells (Ys h d) 37).alloc<|.cells #[.func (.func 97) #[] #[.pointer<|J ⟨xz<|xj w1,0,U⟩]] 160).alloc<|.cells #[.pointer<|J ⟨xz<|xj w1,0,U⟩] 164).heap[xz<|xj w1]?=J (.cells (Ys h d) 37 (0,0)):=by
  rw[Zfp _ _ _ Ze9,Zfp _ _ _ Z1];exact Zgh _ _
 have y:(((w1.alloc<|.cells (Ys h d) 37).alloc<|.cells #[.func (.func 97) #[] #[.pointer<|J ⟨xz<|xj w1,0,U⟩]] 160).alloc<|.cells #[.pointer<|J ⟨xz<|xj w1,0,U⟩] 164).heap[xz (xj w1)+1]?=J (.cells #[.func (.func 97) #[] #[.pointer<|J ⟨xz<|xj w1,0,U⟩]] 160 (0,0)):=by
  rw[Zfp _ _ _ Z1];have:=Zgh (w1.alloc<|.cells (Ys h d) 37)<|.cells #[.func (.func 97) #[] #[.pointer<|J ⟨xz<|xj w1,0,U⟩]] 160;rwa[Zhu]at this
 have z:(((w1.alloc<|.cells (Ys h d) 37).alloc<|.cells #[.func (.func 97) #[] #[.pointer<|J ⟨xz<|xj w1,0,U⟩]] 160).alloc<|.cells #[.pointer<|J ⟨xz<|xj w1,0,U⟩] 164).heap[xz (xj w1)+2]?=J (.cells #[.pointer<|J ⟨xz<|xj w1,0,U⟩] 164 (0,0)):=by
  have:=Zgh ((w1.alloc<|.cells (Ys h d) 37).alloc<|.cells #[.func (.func 97) #[] #[.pointer<|J ⟨xz<|xj w1,0,U⟩]] 160)<|.cells #[.pointer<|J ⟨xz<|xj w1,0,U⟩] 164;simpa using this
 have D:=l.size;have t:w1.grownBy (((w1.alloc<|.cells (Ys h d) 37).alloc<|.cells #[.func (.func 97) #[] #[.pointer<|J ⟨xz<|xj w1,0,U⟩]] 160).alloc<|.cells #[.pointer<|J ⟨xz<|xj w1,0,U⟩] 164) U:=⟨rfl,rfl,rfl,Z0,Ze8⟩;generalize ((w1.alloc<|.cells (Ys h d) 37).alloc<|.cells #[.func (.func 97) #[] #[.pointer<|J ⟨xz<|xj w1,0,U⟩]] 160).alloc (.cells #[.pointer<|J ⟨xz<|xj w1,0,U⟩] 164)=w3 at*;have f:NowI (λc=>G c\/xz (xj w)+4<=c) w3 (xz<|xj w1) h d:=by
  refine⟨Z0,x,λj B=>((hx j B).keep (λc a=>g c ?_) λc a=>a).mono λc a=> ?_⟩;obtain a|a:=a;have:=u c a;omega;exact a.2;obtain a|a:=a;have:=u c a;exact⟨.inl a,Z0,Z0⟩;exact⟨Z0,Z0,Z0⟩
 have q:∀c o,w0.heap[c]?=J o->w3.heap[c]?=J o:=λc o a=>by
  have C:=Yv a;rw[g c Z0,l.block c C];exact a
 exact⟨⟨⟨d,f⟩,Zga _,by rw[q _ _ k1];simp,q _ _ K,q _ _ L,y,TX n<|TX (UW l U) t⟩,z,h,d,f,A,r⟩
def ScI.step{B w b h p q k done W a}(A:h.ok)(r:Rt h p)(S:ScI B w b h k done W)(C:Rt (Y3 h done) q)(hc:(Y3 h done).Z=xk)(H:¬B (xz (xj w)+1))(R:xz (xj w)+4<=b)(T:done<k)(d:W.grownBy a<|J b)(K:∃x,NowI B a b (WI<|Y3 h done) x):
  ScI B w b h k (done+1) (a.setCell ⟨xz (xj w)+1,0,U⟩<|.int .i64<|k-done-1)/\KpN B b (xz (xj w)+1) W (a.setCell ⟨xz (xj w)+1,0,U⟩<|.int .i64<|k-done-1)/\
   W.grownBy a (J b)/\a.grownBy (a.setCell ⟨xz (xj w)+1,0,U⟩<|.int .i64<|k-done-1) (J<|xz (xj w)+1):=by
 have g:=Zhv a (xz (xj w)+1)<|.int .i64<|k-done-1;let⟨x,L⟩:=K;have z:=L.kept g H;have D:Y3 h (done+1)=WI (Y3 h done):=by rw[Sw,hc];simp
 have n:∀c o,W.heap[c]?=J o->c≠b->c≠xz (xj w)+1->(a.setCell ⟨xz (xj w)+1,0,U⟩<|.int .i64<|k-done-1).heap[c]?=J o:=λc o F Q G=>
  (Zft _ _ _ _ G).trans ((d.block c Ze7 Ze8).trans F)
 have l:=(d.block _ (Yv S.kb) Ze7).trans S.kb;refine⟨⟨Ze7,Z0,?_,n _ _ S.r0 Z0 Z0,n _ _ S.r1 Z0 Z0,n _ _ S.fn Z0 Z0,?_⟩,⟨ZfB d.size g.size,Ze8,λX t=> ?_⟩,d,g⟩
 .have:k- ((done+1:Nat):Int)=k-done-1:=Z0;rw[this];simp[World.setCell,ZfH,l]
 exact UX (UX S.gr d λr e=>.inr (by cases e;omega)) g λr e=>.inr (by cases e;omega)
 .let⟨y,M⟩:=S.ip;have j:InBox B b q W:=⟨_,y,M,LF A r done,C⟩;let⟨P,N,f⟩:=C.aa hc;let⟨O,u⟩:=f.gk;refine⟨N,O,⟨_,x,z,?_,?_⟩,?_⟩
  .have:=LF A r<|done+1;rwa[D]at this
  rw[f.eq];exact f.rt;rw[u,j.H t]
def jB(w:Z3)(G:Z4)(g:Hp)(e:Ending)(w':Z3):Prop:=∃x,e=.returned (.tuple #[ZN g x,.int .i64 0])/\Below (xz<|xj w) w w'/\∀j,j<5->Rd w' (λc=>G c\/(xz (xj w)<=c/\c<xz (xj w'))) (.sl<|(Zv g j).map vu) (x j)
def Z7L{B G w b h g k done W W8 y D}(S:ScI B w b h k done W)(N:Y3 h done=g)(K:done=k\/(Y3 h done).Z=xw)(hn:NowI B W b g y)(hB:B=λc=>G c\/xz (xj w)+4<=c)(hG:∀c,G c->c<xz (xj w))
  (hD:xz (xj w)+4<=D) (x:W.heap[D]?=J (.deferred<|J [])) (T:Below (xz<|xj w) W W8) (Y:xz (xj W8)=xz (xj W)) (X:∀c,c≠xz (xj w)+1+1->W8.heap[c]?=W.heap[c]?) (h8:W8.heap[xz (xj w)+1+1]?=J (.cells (Ys g y) 37 (0,0))):
  (W8.setCell ⟨xz (xj w)+1+1+1,0,U⟩<|.int .i64 0).heap[D]?=J (.deferred<|J [])/\(∀j,((W8.setCell ⟨xz (xj w)+1+1+1,0,U⟩<|.int .i64 0).putObj D<|.deferred U).cell? ⟨xz (xj w)+1+1,j,U⟩=(Ys g y)[j]?)/\((W8.setCell ⟨xz (xj w)+1+1+1,0,U⟩<|.int .i64 0).putObj D<|.deferred U).cell? ⟨xz (xj w)+1+1+1,0,U⟩=J (.int .i64 0)/\
   jB w G (Y3 h k) (.returned<|.tuple #[ZN g y,.int .i64 0]) ((W8.setCell ⟨xz (xj w)+1+1+1,0,U⟩<|.int .i64 0).putObj D<|.deferred U):=by
 have p:=Zhv W8 (xz (xj w)+1+1+1)<|.int .i64 0;have z:=S.r1;have e1:(W8.setCell ⟨xz (xj w)+1+1+1,0,U⟩ _).heap[xz (xj w)+1+1+1]?=J (.cells #[.int .i64 0] 32 _):=
  Boxed.set _ (show Boxed W8 _ 32 _ from(X _ Z0).trans z)
 have e0:(W8.setCell ⟨xz (xj w)+1+1+1,0,U⟩<|.int .i64 0).heap[xz (xj w)+1+1]?=J _:=(Zft _ _ _ _ (by show xz (xj w)+1+1≠xz (xj w)+1+1+1;omega)).trans h8;have t:∀c,c≠xz (xj w)+1+1->c≠xz (xj w)+1+1+1->(W8.setCell ⟨xz (xj w)+1+1+1,0,U⟩<|.int .i64 0).heap[c]?=W.heap[c]? :=λc C R=>(Zft _ _ _ _ R).trans Ze8;have a3:xz (xj<|W8.setCell ⟨xz (xj w)+1+1+1,0,U⟩<|.int .i64 0)=xz (xj W):=by rw[<-Y];simp
 have Q:=T.trans ⟨p.os,p.tape,p.output,p.size,λc f=>p.block c (by have:=Yv z;omega) (λe=>by cases e;omega)⟩;generalize W8.setCell ⟨xz (xj w)+1+1+1,0,U⟩ _=A at*;have Z:=(t D Z0 Z0).trans x;have a2:=Yv z;have f1:(A.putObj D<|.deferred U).heap[xz (xj w)+1+1+1]?=J (.cells #[.int .i64 0] 32 (0,0)):=(ZfI Z0).trans e1;have M:=ZhS A D<|.deferred U;have heq:Y3 h k=g:=by
  obtain e|e:=K;rw[<-e,N]
  .obtain⟨d,hd⟩:∃d,k=done+d:=⟨k-done,by have:=S.le;omega⟩;rw[hd,D2,LG e,N]
 have O:∀c,c≠xz (xj w)+1+1->c≠xz (xj w)+1+1+1->c≠D->(A.putObj D<|.deferred U).heap[c]?=W.heap[c]? :=λc C R h3=>(ZfI Z0).trans<|t c C R;refine⟨Z,λj=>Zfg _ _ j _ _ _<|(ZfI Z0).trans e0,by rw[Zfg _ _ _ _ _ _ f1];rfl,y,by rw[heq],⟨?_,?_,?_,?_,λc f=> ?_⟩,λj hj=> ?_⟩;rw[M.os,Q.os];exact S.gr.os;rw[M.tape,Q.tape];exact S.gr.tape;rw[M.output,Q.output];exact S.gr.output;have:=M.size;omega;rw[O c Z0 Z0 Z0];exact S.gr.block c f Z1;rw[heq];have C:=hn.rd j hj;have hW:xz (xj W)<=xz (xj<|A.putObj D<|.deferred U):=by have:=M.size;omega
 generalize hL:(Zv g j).map vu=L at C⊢;generalize y j=yj at C⊢;cases C with
 |nil a cap f=>exact .nil a cap f
 |sl _ d o cap P vs q1 q2 q3 q4 q5 q6=>
  have r:G d\/xz (xj w)+4<=d:=by have:=q3.1;rw[hB]at this;exact this
  have F:=hG d;have l:∀i c,(flat L)[i]?=J c->Rd (A.putObj D<|.deferred U) (λc=>G c\/(xz (xj w)<=c/\c< xz (xj<|A.putObj D<|.deferred U))) c (vs i):=λi c f=>by
   have h7:=q6 i c f;rw[<-hL,zS,Zfl]at f;cases hu:(Zv g j)[i]? with
   |none=>rw[hu]at f;cases f
   |some u=>
    rw[hu]at f;cases f;rw[Ri h7];exact .int _ _
  by_cases H:d=D;subst H;have a0:I L*P=0:=by
   cases a1:I L*P with
   |zero=>rfl
   |succ n=>
    have:=q5 0 Z0;unfold World.cell? at this;rw[x]at this;cases this
  refine .sl _ d o cap P vs q1 q2 ?_ q4 Z0 l;obtain q|q:=r;exact .inl q;exact .inr ⟨Z0,by have:=Yv x;omega⟩;refine .sl _ d o cap P vs q1 q2 ?_ q4 (λi hi=> ?_) l;obtain q|q:=r;exact .inl q;exact .inr ⟨Z0,by have:=q3.2.1;omega⟩;rw[<-q5 i hi];refine ZfX (a:=⟨d,o+i,U⟩)<|O d ?_ ?_ H;obtain q|q:=r;have:=F q;omega;omega;obtain q|q:=r;have:=F q;omega;omega
def O3{B G:Z4}{w:Z3}{b:Nat}{h g:Hp}{k done:Nat}{W:Z3}{y:Z6}{D:Nat}(S:ScI B w b h k done W)(f:Y3 h done=g)(a:done=k\/(Y3 h done).Z=xw)(q:NowI B W b g y)(l:B=λc=>G c\/xz (xj w)+4<=c)(o:∀c,G c->c<xz (xj w))
  (n:xz (xj w)+4<=D) (d:W.heap[D]?=J (.deferred<|J [])):
  ((RF W (xz (xj w)+1+1) g y).setCell ⟨xz (xj w)+1+1+1,0,U⟩<|.int .i64 0).heap[D]?=J (.deferred<|J [])/\(∀j,(((RF W (xz (xj w)+1+1) g y).setCell ⟨xz (xj w)+1+1+1,0,U⟩<|.int .i64 0).putObj D<|.deferred U).cell? ⟨xz (xj w)+1+1,j,U⟩=(Ys g y)[j]?)/\(((RF W (xz (xj w)+1+1) g y).setCell ⟨xz (xj w)+1+1+1,0,U⟩<|.int .i64 0).putObj D<|.deferred U).cell? ⟨xz (xj w)+1+1+1,0,U⟩=J (.int .i64 0)/\
    jB w G (Y3 h k) (.returned<|.tuple #[ZN g y,.int .i64 0]) (((RF W (xz (xj w)+1+1) g y).setCell ⟨xz (xj w)+1+1+1,0,U⟩<|.int .i64 0).putObj D<|.deferred U):=by
 exact Z7L (W8:=RF W (xz (xj w)+1+1) g y) S f a q l o n d (Uy (Zfr (xz<|xj w) W) Z0) ZeL (λc p=>Si p)<|qx S.r0
def Z7P w G(hG:∀b,G b->b<xz (xj w))h(hh:h.ok)a(hs:∀j,j<5->Rd w G (.sl<|(Zv h j).map vu) (a j)){p}(r:Rt h p){k:Nat}(hk:(k:Int)<9223372036854775808):
  Calls Sol.prog 74 #[ZN h a,.int .i64 k] w (jB w G<|Y3 h k):=by
 refine(Zhd (n:=5)).1 ?_;have i4:∀(fn:Go.Fn) (first cap:Zd) (w:Z3),(Instr.makeFunc fn first cap).run Sol.prog w=.ok (.func fn first cap) w:=λ_ _ _ _=>rfl;refine callsIn_of_wp_marks Sol.func74 rfl trivial ?_ rfl;simp only[Try.ntmps74,Zgy,Zgt,Zgc,Nat.reduceAdd,Nat.reduceSub,ZgU,ZgV,Zho,Zh2,ZfU,Zgs];have HO:=λW (hb:Below (xz<|xj w) w W)=>Z5y W G (λb q=>Zfb Ze8 hb.size) h hh a λj hj=>(hs j hj).keep (λb i0=>hb.block b Ze8) λ_ q=>q;have b3:=Zfa HO;clear HO;unfold ZN;gi_wp2
 refine Z9p ?_;gi_wp2
 refine⟨trivial,(Zhd.2<|b3.out _<|((((Zfr _ _).alloc Z0 _).alloc Z1 _).alloc Ze9 _).alloc Ze9 _).mono ?_⟩;rintro e w1 ⟨x1,rfl,b9,F⟩;obtain⟨a0,c0,e0⟩:=Rd.br<|F 0 Z0;obtain⟨a1,c1,e1⟩:=Rd.br<|F 1 Z0;obtain⟨a2,c2,e2⟩:=Rd.br<|F 2 Z0;obtain⟨a3,c3,e3⟩:=Rd.br<|F 3 Z0;obtain⟨a4,c4,e4⟩:=Rd.br<|F 4 Z0;have b1:=Zfa<|And.intro b9 F;clear b9 F;unfold ZN;gi_wp2
 refine wpIn_label ?_;gi_wp2
 refine⟨trivial,(Zhd.2<|Z3N _ _).mono ?_⟩;rintro e w3 ⟨rfl,d7⟩;obtain⟨w0,a9,g8,f7,k1,Q,R⟩:=Z26 w (.cells #[.int .u64 h.base,.int .i64 h.cap,.int .i64 h.to,.bool h.Z,.int .i64 h.aa,a 0,a 1,a 2,a 3,a 4] 37) (.cells #[.int .i64 k] 3) (.cells JV 37)<|.cells #[.int .i64 0] 32;have hC:Ys h x1=#[.int .u64 h.base,.int .i64 h.cap,.int .i64 h.to,.bool h.Z,.int .i64 h.aa,.slice a0 (I<|Zv h 0) c0,.slice a1 (I<|Zv h 1) c1,.slice a2 (I<|Zv h 2) c2,.slice a3 (I<|Zv h 3) c3,.slice a4 (I<|Zv h 4) c4]:=by
  simp only[Ys,e0,e1,e2,e3,e4,ZfC]
 have N:=b1.out;unfold JV at a9;rw[a9]at N;obtain⟨i7,L,g9,i5,b8,b7⟩:=Z7N hG hh r g8 f7 k1 Q R N.1 N.2;rw[hC]at L;rw[L]at d7;subst d7;clear b1 N L hC e0 e1 e2 e3 e4 a9 k1 Q R b3;simp only[Zhu];gi_wp2
 have f6:xz (xj w)+4<=xz (xj w1):=Z0;have b5:¬(G (xz (xj w)+1)\/xz (xj w)+4<=xz (xj w)+1):=Ze7;generalize i1:xz (xj w1)=b at*;obtain⟨B,hB⟩:∃B:Z4,B=λc=>G c\/xz (xj w)+4<=c:=⟨_,rfl⟩;rw[<-hB]at b8 b7;have b6:¬B (xz (xj w)+1):=by rw[hB];exact b5
 have h9:∀c,xz (xj w)+4<=c->B c:=Ze8;have b2:=Zfa hB;clear hB b5;have d5:=Z3M 4 (B:=B) (b:=b) (bk:=b+2) (kb:=xz (xj w)+1) b7 Z0 Z0 Z0 Z0
 refine Z9o rfl Z0 (gf:=115) (lb:=#[.pointer<|J ⟨b+2,0,U⟩]) ?hg trivial (enters_of Sol.func115 Z2 rfl)
  d5 KpN.trans (λW l o o' _ h2 h3 _=>KpN.put o' h2 h3) (Zfr _ _) (λ_=>rfl)
  (λpre W=>∃done,ScI B w b h k done W/\(I pre:Int)<=(Y3 h done).aa)
  (λc pre W=>c=.exit 0/\∃done,ScI B w b h k done W/\(done=k\/(Y3 h done).Z=xw))
  ?hI Z1 ?hIx ?hPx ?hS ⟨0,b8,by have:=r.gy;show((0:Nat):Int)<=h.aa;omega⟩
  (fun x=> {tmps:=#[.agg #[.int .u64 h.base,.int .i64 h.cap,.int .i64 h.to,.bool h.Z,.int .i64 h.aa,a 0,a 1,a 2,a 3,a 4],.int .i64 k,.pointer<|J ⟨xz<|xj w,0,U⟩,.pointer<|J ⟨xz (xj w)+1,0,U⟩,.pointer<|J ⟨xz (xj w)+1+1,0,U⟩,.pointer<|J ⟨xz (xj w)+1+1+1,0,U⟩,.pointer<|J ⟨b,0,U⟩,.pointer<|J ⟨b+1,0,U⟩,.int .i64 (x.1:Nat),.bool x.2,undef,
    .agg #[.int .u64 h.base,.int .i64 h.cap,.int .i64 h.to,.bool h.Z,.int .i64 h.aa,a 0,a 1,a 2,a 3,a 4],.agg #[.int .u64 h.base,.int .i64 h.cap,.int .i64 h.to,.bool h.Z,.int .i64 h.aa,.slice a0 (I<|Zv h 0) c0,.slice a1 (I<|Zv h 1) c1,.slice a2 (I<|Zv h 2) c2,.slice a3 (I<|Zv h 3) c3,.slice a4 (I<|Zv h 4) c4],
    .func (.func 97) #[] #[.pointer<|J ⟨b,0,U⟩],.func (.func 115) #[] #[.pointer<|J ⟨b+2,0,U⟩],.int .i64 (x.1:Nat),.bool x.2,undef,undef,undef,undef,undef,undef,undef,undef,undef,undef,undef,undef,undef,undef,undef,undef,undef,undef,undef,undef,undef,undef,undef],defers:=[]})
  ?assign ?body ?done ?stop
 case hg=>rfl
 case hI=>
  rintro pre X Y row ⟨done,S,hl⟩ hg hr;exact⟨done,S.dt hg λr e=>Ze7,hl⟩
 case hIx=>
  rintro c pre X Y row ⟨hc,done,S,hl⟩ hg hr;exact⟨hc,done,S.dt hg λr e=>⟨by have:=(hr r e).1;omega,(hr r e).2⟩,hl⟩
 case hPx=>
  rintro pre x _ X Y row ⟨p',g5,hx⟩ hg hr;exact⟨p',g5.dt hg λr e=>Ze8,hx⟩
 case hS=>
  rintro xs X Y row ⟨g,x,hx,hl⟩ hg hr;exact⟨g,x,hx.dt hg λr e=>Ze8,hl⟩
 case assign=>
  rintro l x W K2 f5;simp only[List.zip_cons_cons,Array.zip,B8];gi_wp2
  exact f5
 case body=>
  rintro l pre x W ⟨done,S,a7⟩ ⟨p',P,hx⟩ h7;obtain⟨q,sc⟩:=r.gc done;have b4:=LF hh r done;obtain⟨y,t⟩:=S.ip;have rq:Rt (Y3 h done) p'/\x=(I pre,Wt p'.H<|I pre):=by
   obtain⟨g',x',h1,h2,h3⟩:=P;have:=t.mh h1;subst this;exact⟨h3,hx⟩
  obtain⟨rg,g7⟩:=rq;subst g7;obtain⟨g,H⟩:∃g,Y3 h done=g:=⟨_,rfl⟩;have d:=t.nb;have z:=l5 W B b Ze7 _ y t b4 rg;rw[H]at a7 b4 rg d z;unfold Ys at d;have yb:∀j,W.cell? ⟨b,j,U⟩=(#[.int .u64 g.base,.int .i64 g.cap,.int .i64 g.to,.bool g.Z,.int .i64 g.aa,y 0,y 1,y 2,y 3,y 4]:Array Value)[j]? :=λj=>Zfg _ _ _ _ _ _ d;have h4:=Zfg _ _ 0 _ _ _ S.kb;have h0:=Zfg _ _ 0 _ _ _ S.fn;simp only[ZgE,Zht]at h4 h0;have h8:W.frozen? ⟨xz (xj w)+1,0,U⟩=xw:=Yw S.kb;by_cases A:done=k\/g.Z=xw
  .have HE:=Zfa<|And.intro S<|And.intro A H;have f9:((k:Int) - (done:Nat)==0)=xk\/(((k:Int) - (done:Nat)==0)=xw/\g.Z=xw):=by
    obtain e|e:=A;exact .inl Ze9
    .by_cases e2:done=k;exact .inl Ze9;exact .inr ⟨Ze9,e⟩
   clear t S d A H P z;obtain hq|⟨hq,i2⟩:=f9
   .gi_wp2
    exact⟨Zjf _ _,rfl,done,HE.out.1,by rw[HE.out.2.2];exact HE.out.2.1⟩
   .gi_wp2
    exact⟨Zjf _ _,rfl,done,HE.out.1,by rw[HE.out.2.2];exact HE.out.2.1⟩
  .have hd:done<k:=by have:=S.le;omega
   have O:g.Z=xk:=by cases c5:g.Z<;>simp_all
   have hq:((k:Int) - (done:Nat)==0)=xw:=Ze9;have g6:=rg.fi;have HH:=Zfa<|And.intro S<|And.intro t<|And.intro H<|And.intro rg hd;have d9:=Zfa<|z O;have T:=t.rd 0 Z0;by_cases i3:I pre<g.aa
   .have c6:((I pre:Int)<g.aa)=True:=Ze8;clear t S d A H P z rg T;gi_wp2
    exact⟨Zjf _ _,⟨Z0,Ze8,λp hp=>⟨p,[],hp,Z1⟩⟩,done,HH.out.1,by rw[HH.out.2.2.1];simp;omega⟩
   .have c6:((I pre:Int)<g.aa)=False:=Ze8;have c8:(I pre:Int)=g.aa:=Z0;clear t S d A H P z rg T;gi_wp2
    refine⟨trivial,(CallsIn.inRound l<|Zhd.2 d9.out).mono ?_⟩;rintro e W2 ⟨rfl,a6,a8⟩;have i6:=Zz ((k:Int) - (done:Nat) -1) Z0 Z0;obtain⟨s1,s2,s3,s4,s5⟩:=HH.out;rw[<-s3]at a8;have d6:=s1.step hh r (by rw[s3];exact s4) (by rw[s3];exact O) b6 f6 s5 a6 a8;have K:W2.heap[xz (xj w)+1]?=J (.cells #[.int .i64<|(k:Int) - (done:Nat)] 3 (0,0)):=(a6.block _ (Yv s1.kb) (λe=>by cases e;omega)).trans s1.kb;have d8:=Zfg _ _ 0 _ _ _ K;simp only[ZgE,Zht]at d8;have h6:W2.frozen? ⟨xz (xj w)+1,0,U⟩=xw:=Yw K;have e6:=Zfa d6;have e5:=Zfa c8;clear s1 s2 s3 s4 s5 a6 a8 d6 K c8;gi_wp2
    obtain⟨t1,t2,t3,t4⟩:=e6.out;obtain⟨s1,s2,s3,s4,s5⟩:=HH.out;have g9:=s1.gr.size;refine⟨(KeepsFrom.of_grownBy t3 λj e=>by cases e;omega).trans (KeepsFrom.of_grownBy t4 λj e=>by cases e;omega),t2,done+1,t1,?_⟩;obtain⟨g',q',f⟩:=s4.aa O;rw[Sw,s3,O];simp only[Zg1];rw[f.eq,f.num.2.2.2];have:=e5.out;simp;omega
 case done=>
  rintro D xs W hD ⟨g0,x0,c7,f8⟩ ⟨done,S,a7⟩ a5;have u:done=k\/(Y3 h done).Z=xw:=by
   obtain⟨q,sc⟩:=r.gc done;obtain⟨y,t⟩:=S.ip;have:=t.mh c7;subst this;cases c5:(Y3 h done).Z with
   |false=>exact .inr rfl
   |true=>have:=sc.rt.ld c5;omega
  obtain⟨y,t⟩:=S.ip;have HF:=Zfa<|And.intro S<|And.intro u t;have d:=t.nb;obtain⟨d0,f0,C⟩:=Rd.br<|t.rd 0 Z0;obtain⟨d1,f1,g1⟩:=Rd.br<|t.rd 1 Z0;obtain⟨d2,f2,g2⟩:=Rd.br<|t.rd 2 Z0;obtain⟨d3,f3,Z⟩:=Rd.br<|t.rd 3 Z0;obtain⟨d4,f4,g4⟩:=Rd.br<|t.rd 4 Z0;unfold Ys at d;rw[C,g1,g2,Z,g4]at d;have yb:∀j,W.cell? ⟨b,j,U⟩=_:=λj=>Zfg _ _ _ _ _ _ d;have b0:∀j,W.cell? ⟨xz (xj w)+1+1,j,U⟩=_:=λj=>Zfg _ _ _ _ _ _ S.r0;have h5:∀j,W.cell? ⟨xz (xj w)+1+1+1,j,U⟩=_:=λj=>Zfg _ _ _ _ _ _ S.r1;have e8:∀j,W.frozen? ⟨xz (xj w)+1+1,j,U⟩=xw:=λj=>Yw S.r0;have e9:∀j,W.frozen? ⟨xz (xj w)+1+1+1,j,U⟩=xw:=λj=>Yw S.r1;unfold JV at b0;have M:=O3 (G:=G) S rfl u t b2.out hG Z0 a5;unfold RF TE at M;unfold Ys ZN at M;rw[C,g1,g2,Z,g4]at M;simp only[ZfC]at M;obtain⟨k1,Q,k4,R⟩:=M;have HK:=Zfa R;clear c7 f8 a7 u t d S C g1 g2 Z g4 R;gi_wp2
  refine⟨Z1,.inl ⟨D,_,rfl,Zih k1,?_⟩⟩;refine⟨_,?_,HK.out⟩;clear HK HF k1;generalize World.putObj _ D (.deferred U)=e7 at Q k4⊢;simp[results,Try.results74,go_sem,Q,k4]
 case stop=>
  rintro D c pre W hD ⟨rfl,done,S,u⟩ a5;obtain⟨y,t⟩:=S.ip;have HF:=Zfa<|And.intro S<|And.intro u t;have d:=t.nb;obtain⟨d0,f0,C⟩:=Rd.br<|t.rd 0 Z0;obtain⟨d1,f1,g1⟩:=Rd.br<|t.rd 1 Z0;obtain⟨d2,f2,g2⟩:=Rd.br<|t.rd 2 Z0;obtain⟨d3,f3,Z⟩:=Rd.br<|t.rd 3 Z0;obtain⟨d4,f4,g4⟩:=Rd.br<|t.rd 4 Z0;unfold Ys at d;rw[C,g1,g2,Z,g4]at d;have yb:∀j,W.cell? ⟨b,j,U⟩=_:=λj=>Zfg _ _ _ _ _ _ d;have b0:∀j,W.cell? ⟨xz (xj w)+1+1,j,U⟩=_:=λj=>Zfg _ _ _ _ _ _ S.r0;have h5:∀j,W.cell? ⟨xz (xj w)+1+1+1,j,U⟩=_:=λj=>Zfg _ _ _ _ _ _ S.r1;have e8:∀j,W.frozen? ⟨xz (xj w)+1+1,j,U⟩=xw:=λj=>Yw S.r0;have e9:∀j,W.frozen? ⟨xz (xj w)+1+1+1,j,U⟩=xw:=λj=>Yw S.r1;unfold JV at b0;have M:=O3 (G:=G) S rfl u t b2.out hG Z0 a5;unfold RF TE at M;unfold Ys ZN at M;rw[C,g1,g2,Z,g4]at M;simp only[ZfC]at M;obtain⟨k1,Q,k4,R⟩:=M;have HK:=Zfa R;clear u t d S C g1 g2 Z g4 R;gi_wp2
  refine⟨Z1,.inl ⟨D,_,rfl,Zih k1,?_⟩⟩;refine⟨_,?_,HK.out⟩;clear HK HF k1;generalize World.putObj _ D (.deferred U)=e7 at Q k4⊢;simp[results,Try.results74,go_sem,Q,k4]
end
end Vm
end
section
namespace Vm
open Go Go.Proofs
section
structure Made (b:Bt) (x:Rw):Prop where
 pl:Placed b x
 bf:ZI (Zu b.h)=xk
 sr:∀n∈b.g.nodes,ZJ n<=9
 ld:b.h.Z=xk->∀i,i<I b.g.nodes->(ZD b i).part=1->(Y6 b i).part≠0
 aa:0<=b.h.aa/\b.h.aa<=I b.h.H/\(if b.h.Z then b.h.aa<(I b.h.H) else b.h.aa=I b.h.H/\b.h.ah=[]/\b.h.aj=[])
 room:(I b.h.H:Int)+I b.h.ac+((Y1 (obs b 3)+Y1 (obs b 4):Nat):Int)<=b.h.cap
 ln:Yr b.h.aa
def Qk(b:Bt):Pts:=⟨obs b 1,obs b 2,obs b 3,obs b 4⟩
theorem CF(b:Bt){k:Int}(d:1<=k/\k<=4):(Qk b).at k=obs b k:=by
 have a:k=1\/k=2\/k=3\/k=4:=Z0;obtain rfl|rfl|rfl|rfl:=a<;>rfl
section
variable {b:Bt}{x:Rw}
def Made.fill(m:Made b x):(YG x b).ok/\Zu (YG x b)=Zu b.h/\(YG x b).aa=b.h.aa/\(YG x b).Z=b.h.Z:=Ab m.pl.ok m.ln
def Made.ak(m:Made b x){k:Int}(a:1<=k/\k<=4):Tiles (Zx (YG x b) k) (decide (2<k)) 0<|obs b k:=Z54 m.pl m.bf m.sr a
def Made.start(m:Made b x){k a:Int}(f:1<=k/\k<=4)(d:0<=a/\a<YP (Zu b.h) k):YW (YG x b) k a=fstL (Zu b.h) k+a:=by
 unfold YW;rw[m.fill.2.1,RH m.bf f d]
def jf(n:Nd):1<=ZJ n:=by grind [ZJ]
def Made.ly(m:Made b x){i:Nat}(a:i<I b.g.nodes)(d:(ZD b i).part≠0):∃o∈obs b (ZD b i).part,o.Y=(ZD b i).Y/\o.size=((ZP b i).M.length:Int)+(ZP b i).data.length/\o.M=(ZP b i).M.length/\o.gone=xw:=
 ⟨_,Jg.2 ⟨i,a,by unfold X9;rw[if_pos rfl];exact .head _⟩,rfl,rfl,rfl,rfl⟩
def Made.rv(m:Made b x){i:Nat}(f:i<I b.g.nodes)(h:(Y6 b i).part≠0):∃o∈obs b (Y6 b i).part,o.Y=(Y6 b i).Y:=by
 obtain⟨j,k,l,n⟩:=m.pl.dg f h;have a:¬(ZD b i).part=(Y6 b i).part:=by
  by_cases d:(ZD b i).part=0;omega;have:=(m.pl.ct f d).1;omega
 by_cases d:(ZD b i).part=0;exact⟨_,Jg.2 ⟨i,f,by unfold X9;rw[if_neg a,if_pos rfl,if_pos d];exact .head _⟩,rfl⟩;exact⟨_,Jg.2 ⟨i,f,by unfold X9;rw[if_neg a,if_pos rfl,if_neg d];exact .head _⟩,rfl⟩
def Made.mf(m:Made b x){i:Nat}(d:i<I b.g.nodes):Xu (YG x b) (Qk b) (YC b.h<|ZD b i) 1 2=xk:=by
 by_cases a:(ZD b i).part=0;simp_all[YC,ZD,if_pos,Xu];obtain⟨k,l,n⟩:=m.pl.ct d a;have p:=jf<|ZP b i;obtain⟨o,j,f,_⟩:=m.ly d a;rw[m.pl.fm m.bf d a];unfold Xu;rw[Ud m.bf Z0];have:(Yz (YG x b) (ZD b i).part (obs b (ZD b i).part)<|fstL (Zu b.h) (ZD b i).part+(ZD b i).Y).isSome=xk:=by
  refine jL.2 ⟨o,j,?_⟩;rw[f,m.start Z0 ⟨Z0,Z0⟩]
 grind [CF]
def Made.sd(m:Made b x){i:Nat}(d:i<I b.g.nodes):Xu (YG x b) (Qk b) (YC b.h<|Y6 b i) 3 4=xk:=by
 by_cases a:(Y6 b i).part=0;simp_all[YC,Y6,if_pos,Xu];obtain⟨k,l,_,n⟩:=m.pl.dg d a;have p:=jf<|ZP b i;obtain⟨o,j,f⟩:=m.rv d a;rw[m.pl.pq m.bf d a];unfold Xu;rw[Ud m.bf Z0];have:(Yz (YG x b) (Y6 b i).part (obs b (Y6 b i).part)<|fstL (Zu b.h) (Y6 b i).part+(Y6 b i).Y).isSome=xk:=by
  refine jL.2 ⟨o,j,?_⟩;rw[f,m.start Z0 ⟨Z0,Z0⟩]
 grind [CF]
def Made.cx(m:Made b x){k:Int}(j:1<=k/\k<=4){o q:Ob}(f:o∈obs b k)(g:q∈obs b k)(h:q.Y=o.Y):q=o:=by
 have d:=m.ak j;obtain a|a|a:=d.apart q g o f;exact a;have:=YE.1 (d.ba q g).1.shape;omega;have:=YE.1 (d.ba o f).1.shape;omega
def Made.lg(m:Made b x){k:Int}(d:1<=k/\k<=4){o:Ob}(f:o∈obs b k):0<=o.Y/\o.Y<YP (Zu b.h) k:=by
 have a:=((m.ak d).ba o f).1;have g:=YE.1 a.shape;have j:=a.aw;have l:=a.iy;have:YP (Zu b.h) k=I (Zx (YG x b) k):=by rw[<-m.fill.2.1,Oi _ d]
 omega
def Made.find(m:Made b x){k:Int}(a:1<=k/\k<=4){o:Ob}(d:o∈obs b k):Yz (YG x b) k (obs b k) (fstL (Zu b.h) k+o.Y)=J o:=by
 rw[<-m.start a (m.lg a d)];refine EV d λq f e=>m.cx a d f ?_;rw[m.start a<|m.lg a d,m.start a<|m.lg a f]at e;omega
def Z4m{k:Int}{i:Nat}{o:Ob}(h:o∈X9 b k i)(a:o.gone=xk):¬(ZD b i).part=k/\(Y6 b i).part=k/\¬(ZD b i).part=0/\o=⟨(Y6 b i).Y,((ZP b i).M.length:Int)+(ZP b i).data.length,(ZP b i).M.length,xk,(adr<|YC b.h<|ZD b i).1⟩:=by
 grind [X9]
def Made.gone(m:Made b x){k:Int}(y:3<=k/\k<=4):QE (YG x b) (obs b 1)<|obs b k:=by
 intro o n j;obtain⟨i,d,g⟩:=Jg.1 n;obtain⟨u,w,f,rfl⟩:=Z4m g j;obtain⟨z,A,B⟩:=m.pl.ct d f;have l:=(m.pl.dg d Z0).2.2.1;have a:(ZD b i).part=1:=Z0;obtain⟨q,h,p,r,t,_⟩:=m.ly d f;rw[a]at h;refine⟨q,?_,r,t⟩;simp only;rw[m.pl.fm m.bf d f,Ud m.bf Z0,a,<-p];exact m.find Z0 h
def Made.gw(m:Made b x):Xp (YG x b)=J (Qk b):=
 MT (m.ak (k:=1) Z0) (m.ak (k:=2) Z0) (m.ak (k:=3) Z0) (m.ak (k:=4) Z0) (m.gone Z0) (m.gone Z0)
def OI(l r:Zh)(a:Int):YX (l++r) a=YX l a+YX r a:=by simp[YX]
def OK(b:Bt)(k:Int)(j:Nat)(a:Int):YX (X9 b k j) a=if ¬(ZD b j).part=k/\(Y6 b j).part=k/\¬(ZD b j).part=0/\(adr<|YC b.h<|ZD b j).1=a then 1 else 0:=by
 unfold X9;by_cases d:(ZD b j).part=k;simp_all[if_pos,if_neg,YX];rw[if_neg d];by_cases f:(Y6 b j).part=k;rw[if_pos f];by_cases g:(ZD b j).part=0;simp_all[if_pos,if_neg,YX];rw[if_neg g];by_cases l:(adr<|YC b.h<|ZD b j).1=a;simp_all[if_pos,YX];simp_all[if_neg,YX];simp_all[if_neg,YX]
def Made.eo(m:Made b x)(hc:b.h.Z=xk){i:Nat}(n:i<I b.g.nodes)(q:(ZD b i).part=1):UE (Qk b) (fstL (Zu b.h) 1+(ZD b i).Y)=1:=by
 have key:∀j,j<=I b.g.nodes->YX ((List.range j).flatMap<|X9 b 3) (fstL (Zu b.h) 1+(ZD b i).Y)+YX ((List.range j).flatMap<|X9 b 4) (fstL (Zu b.h) 1+(ZD b i).Y)=if i<j then 1 else 0:=by
  intro j;induction j with
  |zero=>grind [YX]
  |succ j t=>
   intro G;have t:=t Z0;have a:j<I b.g.nodes:=Z0;rw[Zhp,Zh3,Zh3,OI,OI];simp only[ZiN,List.flatMap_nil,Zgl];have p:YX (X9 b 3 j) (fstL (Zu b.h) 1+(ZD b i).Y)+YX (X9 b 4 j) (fstL (Zu b.h) 1+(ZD b i).Y)=if j=i then 1 else 0:=by
    rw[OK,OK];by_cases l:(ZD b j).part=0;grind;obtain⟨H,C,K⟩:=m.pl.ct a l;by_cases d:(ZD b j).part=1;have y:=m.ld hc j a d;obtain⟨v1,_⟩:=m.pl.dg a y;have B:(adr<|YC b.h<|ZD b j).1=fstL (Zu b.h) 1+(ZD b j).Y:=by rw[m.pl.fm m.bf a l,Ud m.bf Z0,d]
    have heq:(fstL (Zu b.h) 1+(ZD b j).Y=fstL (Zu b.h) 1+(ZD b i).Y)↔j=i:=by
     constructor;intro e;obtain⟨w1,w2,w3⟩:=m.pl.ct n Z0;rw[d]at C;rw[q]at w2;have z:=jf<|ZP b i;have A:=jf<|ZP b j;have D:I (YR b x 1 i)=ZJ (ZP b i):=by unfold YR;rw[if_pos q];exact Us _ _ _ _
     have F:I (YR b x 1 j)=ZJ (ZP b j):=by unfold YR;rw[if_pos d];exact Us _ _ _ _
     by_cases w:j<i;obtain⟨r,k⟩:=Ki b x 1 (Z0:j+1<=i);rw[VY]at k;grind;by_cases u:i<j;obtain⟨r,k⟩:=Ki b x 1 (Z0:i+1<=j);rw[VY]at k;grind;omega;simp_all
    grind;have f:(ZD b j).part=2:=Z0;have o:(Y6 b j).part=0:=by
     by_cases h:(Y6 b j).part=0;exact h;exact absurd f (m.pl.dg a h).2.2.1
    grind
   grind
 have:=key (I b.g.nodes)<|Zf9 _;rw[if_pos n]at this;exact this
end
end
section
section
variable {b:Bt}{x:Rw}
def Made.word(m:Made b x){k:Int}(a:1<=k/\k<=4){i t:Nat}(d:i<I b.g.nodes)(h:t< I (YR b x k i)):(Zx (YG x b) k)[I (X1 b x k i)+t]?=(YR b x k i)[t]? :=by
 rw[FQ m.pl a];obtain⟨r,f⟩:=Ki b x k (Z0:i+1<=I b.g.nodes);simp_all[VY,ZfM,Zfs,ZhX,Zfx]
def Hi{p:Pl}{n:Nd}{tw:Int}{j:Nat}(a:j<I n.M):∃q∈n.M,(XM b p n tw)[1+j]?=J (Vj b ⟨p.part,((p.Y.toNat+1+j:Nat):Int)⟩ q<|IntKind.i64.wrap<|tw+j):=by
 refine⟨n.M[j],Zfq a,?_⟩;simp_all[XM,Zif,ZhU,Zfx,XI]
theorem AA(h:Hp)(p:Pts)(k j:Int):Xu h p 0 k j=xk:=ZeX
def Made.nj(m:Made b x)(r:∀n∈b.g.nodes,∀q∈n.M,-1<=q/\q< (I b.g.nodes:Int)){i:Nat}(y:i<I b.g.nodes){k:Int}{p:Pl}(o:p.part=k){a:Nat}{d tw:Int}(f:d∈(ZP b i).M)(u:((Zx (YG x b) k)[a]?).getD 0=Vj b ⟨p.part,(a:Int)⟩ d tw):U8 (YG x b) (Qk b) k a=xk:=by
 have w:=r (ZP b i) (by simp_all[ZP,Zf4,Zfq]) d f;unfold U8;simp only[u];unfold Vj;rw[o];by_cases l:d<0;simp_all[if_pos,AA];obtain⟨t,rfl⟩:=Zfi (Z0:0<=d);have j:t<I b.g.nodes:=Z0;rw[if_neg l];have g1:=m.mf (i:=t) j;have g2:=m.sd (i:=t) j;unfold ZD at g1;unfold Y6 at g2;simp only[Zfh];by_cases h:2<k;simp_all;rw[if_neg h,if_neg h];rw[m.fill.2.2.1];grind
def Made.M(m:Made b x)(C:∀n∈b.g.nodes,∀q∈n.M,-1<=q/\q< (I b.g.nodes:Int)){k:Int}(u:1<=k/\k<=4):WG (YG x b) (Qk b) k=xk:=by
 unfold WG;rw[CF b u,Zfe];intro o D;obtain⟨i,d,a⟩:=Jg.1 D;unfold yW;rw[Zfe];intro j h;rw[ZhK]at h;unfold X9 at a;split at a;rename_i f;simp at a;subst a;simp only[Zfh]at h;obtain⟨_,B,_⟩:=m.pl.ct d Z0;rw[f]at B;have r:YR b x k i=XM b (ZD b i) (ZP b i) (IntKind.i64.wrap<|x.bc+i):=by unfold YR;rw[if_pos f]
 obtain⟨q,z,A⟩:=Hi (b:=b) (p:=ZD b i) (tw:=IntKind.i64.wrap<|x.bc+i) h;have w:=m.word u d (t:=1+j) Ze7;rw[r,A]at w;simp only;refine m.nj C d f (tw:=IntKind.i64.wrap<|IntKind.i64.wrap (x.bc+i)+j) z ?_;grind;rename_i f;split at a;rename_i l;obtain⟨_,B,_⟩:=m.pl.dg d Z0;rw[l]at B;split at a;rename_i y;simp at a;subst a;simp only[Zfh]at h;have r:YR b x k i=XM b (Y6 b i) (ZP b i) 0:=by unfold YR;rw[if_neg f,if_pos l,if_pos y]
 obtain⟨q,z,A⟩:=Hi (b:=b) (p:=Y6 b i) (tw:=0) h;have w:=m.word u d (t:=1+j) Ze7;rw[r,A]at w;simp only;refine m.nj C d l (tw:=IntKind.i64.wrap<|0+j) z ?_;grind;rename_i y;simp at a;subst a;simp only[Zfh]at h;have r:YR b x k i=VH b (ZD b i) (ZP b i):=by unfold YR;rw[if_neg f,if_pos l,if_neg y]
 have w:=m.word u d (t:=1+j) (by grind [Q2,ZJ]);have F:(VH b (ZD b i)<|ZP b i)[1+j]?=J 0:=by
  unfold VH;rw[Zif 1 j,ZhU,List.getElem?_replicate,if_pos (by grind [ZJ])]
 grind [U8,Int.toNat_natCast,X1,AA];grind
theorem Made.right(m:Made b x)(z:∀n∈b.g.nodes,∀q∈n.M,-1<=q/\q< (I b.g.nodes:Int)):YI (YG x b)=xk:=by
 have j:=m.fill.2.1;have a:(YG x b).H.length=I b.h.H:=by have:=Zgb Ly.H j;simp only[Zu]at this;omega
 have d:(YG x b).ac.length=I b.h.ac:=by have:=Zgb Ly.ac j;simp only[Zu]at this;omega
 have u:(YG x b).ah.length=I b.h.ah:=by have:=Zgb Ly.ah j;simp only[Zu]at this;omega
 have p:(YG x b).aj.length=I b.h.aj:=by have:=Zgb Ly.aj j;simp only[Zu]at this;omega
 have l:(YG x b).cap=b.h.cap:=Zgb Ly.cap j;refine NL ?_ m.gw ?_;unfold Ty;have O:=m.aa;have y:=m.pl.ok.rl;have M:(YG x b).E.length<=5:=by simp only[YG,ZfC];exact y
 rw[j,m.bf,m.fill.2.2.1,m.fill.2.2.2,a,u,p];grind;unfold So;simp only[Zf6,Zfv];refine⟨⟨⟨⟨⟨⟨?_,?_⟩,m.M z Z0⟩,m.M z Z0⟩,m.M z Z0⟩,m.M z Z0⟩,?_⟩;rw[m.fill.2.2.2];cases K:b.h.Z;rfl;simp only[ZhP,Zik,Zfe];intro o G;obtain⟨i,F,f⟩:=Jg.1 G;have D:(ZD b i).part=1/\o.Y=(ZD b i).Y:=by
  unfold X9 at f;split at f;simp_all;split at f;rename_i N;have:=(m.pl.dg F Z0).1;omega;grind
 have A:=m.lg (k:=1) Z0 G;unfold Rz;rw[m.start Z0 A,D.2,Zfv];exact m.eo K F D.1;rw[Zfe];intro w H;simp only[YG,Zfj]at H;obtain⟨r,L,rfl⟩:=H;have y:=m.pl.ok.ux r L;by_cases C:0<=r;rw[if_pos C];have B:=KS (x:=x) m.pl.ok (I b.g.nodes)<|Zf9 _;rw[CN B];obtain⟨t,rfl⟩:=Zfi C;exact m.mf (i:=t) Z0;simp_all[if_neg,AA];rw[a,d,l];exact m.room
end
end
section
def Ps(l r:Zh):Y1 (l++r)=Y1 l+Y1 r:=by simp[Y1]
section
variable {x:Rw}{c:Bool}
def Z9y{b:Bt}(f:Placed b x){i:Nat}(p:i<I b.g.nodes):Y1 (X9 b 3 i)+Y1 (X9 b 4 i)=if(ZD b i).part=0 then ZJ (ZP b i)else 0:=by
 have q:((1:Nat)+(((ZP b i).M.length:Int)+(ZP b i).data.length).toNat)=ZJ (ZP b i):=by unfold ZJ;omega
 obtain⟨l,k,a,d⟩|⟨l,_⟩:=f.ax i p;have j:(ZD b i).part=0:=by rw[l]
 rw[if_pos j];obtain rfl|rfl:=a<;>simp[X9,j,d,Y1,XY,q];have h:¬(ZD b i).part=0:=Z0;have n:¬(ZD b i).part=3:=Z0;have o:¬(ZD b i).part=4:=Z0;have:∀k:Int,¬(ZD b i).part=k->Y1 (X9 b k i)=0:=λk a=>by
  unfold X9;rw[if_neg a,if_neg h];split<;>simp[Y1,XY]
 rw[if_neg h,this 3 n,this 4 o]
def Py(hx:x.ok):∀j,j<=(ZU x.nodes x.E).nodes.length->Y1 ((List.range j).flatMap<|X9 (YQ x c) 3)+Y1 ((List.range j).flatMap<|X9 (YQ x c) 4)=(Y4 x c (ZU x.nodes x.E) j).wt
 |0,_=>rfl
 |j+1,g=>by
  have h:=Py hx j Z0;have a:=Z9y (Oy (c:=c) hx) (i:=j) (by rw[Ru];omega);rw[KG Z0]at a;have f:ZP (YQ x c) j=((ZU x.nodes x.E).nodes[j]?).getD default:=rfl;rw[f]at a;rw[Zhp,Zh3,Zh3,Ps,Ps,Y4];simp only[ZiN,List.flatMap_nil,Zgl];generalize ((ZU x.nodes x.E).nodes[j]?).getD default=n at*;unfold Q3 at a;simp only[X5];obtain d|d|⟨d,rfl⟩:=SQ x j c;simp[d]at a⊢;omega;simp[d]at a⊢;omega;simp[d]at a⊢;omega
def Z4t(x:Rw)(c:Bool):∀n∈(YQ x c).g.nodes,∀q∈n.M,-1<=q/\q< ((YQ x c).g.nodes.length:Int):=by
 rw[Ru];exact Ic x.nodes x.E
def Io(hc:c=xw):∀j,(Y4 x c (ZU x.nodes x.E) j).n3=0/\(Y4 x c (ZU x.nodes x.E) j).n4=0
 |0=>⟨rfl,rfl⟩
 |j+1=>by
  have:=Io hc j;subst hc;simpa[Y4,X5]using this
def Z4f(hx:x.ok)(hc:c=xk->(YQ x xk).h.H.length≠0):Made (YQ x c) x:=by
 obtain⟨k1,y,z⟩:=Rx hx c;refine⟨Oy hx,z,?_,?_,?_,?_,y⟩;rw[Ru];exact Dt x;intro a i l j;have k:c=xk:=a;subst k;rw[Ru]at l;rw[KG l]at j;rw[qb l];unfold Q3 at j;unfold Jq;obtain f|f|⟨f,_⟩:=SQ x i xk;simp[f]at j;simp[f];cases Wz x i<;>simp;simp[f]at j;have d:(YQ x c).h.H.length=(Y4 x c (ZU x.nodes x.E) (ZU x.nodes x.E).nodes.length).n1:=by simp[YQ]
 cases c;obtain⟨p,q⟩:=Io (x:=x) (c:=xw) rfl (ZU x.nodes x.E).nodes.length;rw[d];have o:(YQ x xw).h.aa=((Y4 x xw (ZU x.nodes x.E) (ZU x.nodes x.E).nodes.length).n1:Int):=by simp[YQ]
 have a:(YQ x xw).h.Z=xw:=rfl;rw[o,a];simp only[Zfm,Zg3];refine⟨Z0,Z0,trivial,?_,?_⟩<;>simp[YQ,p,q];have f:=hc rfl;rw[d]at f;rw[d];have o:(YQ x xk).h.aa=pick x.aa (Y4 x xk (ZU x.nodes x.E) (ZU x.nodes x.E).nodes.length).n1:=by
  simp only[YQ];rw[if_pos ⟨trivial,Z0⟩]
 have a:(YQ x xk).h.Z=xk:=rfl;have u:=TC (c:=x.aa) (n:=((Y4 x xk (ZU x.nodes x.E) (ZU x.nodes x.E).nodes.length).n1:Int)) Z0;rw[o,a];simp only[Zg1];omega;have w:=Py (c:=c) hx (ZU x.nodes x.E).nodes.length<|Zf9 _;have t:(YQ x c).h.H.length=(Y4 x c (ZU x.nodes x.E) (ZU x.nodes x.E).nodes.length).n1:=by simp[YQ]
 have r:(YQ x c).h.ac.length=(Y4 x c (ZU x.nodes x.E) (ZU x.nodes x.E).nodes.length).n2:=by simp[YQ]
 have g:(YQ x c).h.cap=max (((Y4 x c (ZU x.nodes x.E) (ZU x.nodes x.E).nodes.length).n1:Int)+(Y4 x c (ZU x.nodes x.E) (ZU x.nodes x.E).nodes.length).n2+(Y4 x c (ZU x.nodes x.E) (ZU x.nodes x.E).nodes.length).wt) (((Y4 x c (ZU x.nodes x.E) (ZU x.nodes x.E).nodes.length).n3:Int)+(Y4 x c (ZU x.nodes x.E) (ZU x.nodes x.E).nodes.length).n4)+pick x.bc 12:=rfl;have u:=TC (c:=x.bc) (n:=12) Z0;unfold obs;rw[Ru,w,t,r,g];omega
def Z8H(hx:x.ok):Made (YQ x xw) x:=Z4f hx Z1
def Z8J(hx:x.ok):YI (Ry x)=xk:=(Z8H hx).right<|Z4t x xw
def Z8I(hx:x.ok):(Ry x).ok/\(Ry x).Z=xw/\(Ry x).E.length<=5:=
 ⟨(Ab (Rx hx xw).1 (Rx hx xw).2.1).1,(Ab (Rx hx xw).1 (Rx hx xw).2.1).2.2.2,by
   have:=(Rx hx xw).1.rl;simp only[Ry,YG,ZfC];exact this⟩
end
end
def SG:Prop:=∀(h:Hp) (p:Pts) (k:Int),h.ok->Rt h p->0<=k->Yr k->VC Sol.prog 74 xw [ZK h,vi k] (.an [ZK<|Y3 h k.toNat,vi 0])
def Tb(h:Hp)(k:Int):Hp×Int:=if k<0\/YI h=xw then(Hp.zero,1)else(Y3 h k.toNat,0)
def SY(h:Hp):Hp×Int:=if YI h=xw then(Hp.zero,1)else(Y3 h 9223372036854775807,0)
def zi(j:SG){h:Hp}(f:h.ok){k:Int}(l:Yr k):VC Sol.prog 39 xw [ZK h,vi k]<|.an [ZK (Tb h k).1,vi (Tb h k).2]:=by
 refine ZW Sol.func39 follows Z2 c39 rfl ?_;have k1:=JX f;simp only[ZK]at k1;unfold Tb;simp[Ms];by_cases a:0<=k;case neg=>simp[a,show k<0 by omega,ZK,Hp.zero]
 have d:¬k<0:=Z0;simp only[a,d,Zg1,false_or];refine Zy k1 Z1 ?_;cases n:YI h;simp[ZK,Hp.zero];obtain⟨p,r⟩:=LC.1 n;have g:=j h p k f r Z0 l;simp only[ZK]at g⊢;simp;refine Zy g Z1 ?_;simp
def jw(f:SG){h:Hp}(a:h.ok):VC Sol.prog 41 xw [ZK h]<|.an [ZK (SY h).1,vi (SY h).2]:=by
 refine ZW Sol.func41 follows Z2 c41 rfl ?_;have k1:=JX a;simp only[ZK]at k1;unfold SY;simp[Mu];refine Zy k1 Z1 ?_;cases g:YI h;simp[ZK,Hp.zero];obtain⟨p,r⟩:=LC.1 g;have d:=f h p 9223372036854775807 a r Z0 ⟨Z0,Z0⟩;simp only[ZK]at d⊢;simp;refine Zy d Z1 ?_;simp
def TS:Hp:=⟨10,5,1,xk,0,[2,6],[],[31,0],[],[31]⟩
def TU:Hp:=⟨10,5,1,xk,1,[2,6],[],[31,0],[],[31]⟩
def UQ:Hp:=⟨10,5,1,xw,2,[2,6],[],[],[],[31]⟩
def A9:TS.ok:=by refine⟨?_,?_,?_,?_,?_,?_,?_,?_,?_,?_,?_,?_,?_,?_⟩<;>simp[TS,ZB,Yr]
def FL:TU.ok:=by refine⟨?_,?_,?_,?_,?_,?_,?_,?_,?_,?_,?_,?_,?_,?_⟩<;>simp[TU,ZB,Yr]
def FM:UQ.ok:=by refine⟨?_,?_,?_,?_,?_,?_,?_,?_,?_,?_,?_,?_,?_,?_⟩<;>simp[UQ,ZB,Yr]
def Z9D:Hp.zero.ok:=by refine⟨?_,?_,?_,?_,?_,?_,?_,?_,?_,?_,?_,?_,?_,?_⟩<;>simp[Hp.zero,ZB,Yr]
def Z0k(a:SG):VC Sol.prog 37 xw []<|.bool xk:=by
 refine ZW Sol.func37 follows Z2 c37 rfl ?_;have p:YI TS=xk:=Zea;have w:YI TU=xk:=Zea;have x:YI Hp.zero=xw:=Zea;have y:YI UQ=xk:=Zea;have q:Tb TS 1=(TU,0):=by
  unfold Tb;rw[p,if_neg Z1];have:Y3 TS (1:Int).toNat=TU:=Zea;rw[this]
 have r:Tb TS 2=(UQ,0):=by
  unfold Tb;rw[p,if_neg Z1];have:Y3 TS (2:Int).toNat=UQ:=Zea;rw[this]
 have t:SY TU=(UQ,0):=by
  unfold SY;rw[w,if_neg Z1,show(9223372036854775807:Nat)=1+9223372036854775806 from rfl,D2];have:Y3 TU 1=UQ:=Zea;rw[this,LG rfl]
 have u:Tb TS (-1)=(Hp.zero,1):=by unfold Tb;rw[if_pos Z1]
 have r5:SY Hp.zero=(Hp.zero,1):=by unfold SY;rw[x,if_pos rfl]
 have r6:Tb UQ 9=(UQ,0):=by
  unfold Tb;rw[y,if_neg Z1,LG rfl]
 have f:=zi a A9 (k:=1) ⟨Z0,Z0⟩;have g:=zi a A9 (k:=2) ⟨Z0,Z0⟩;have h:=jw a FL;have j:=zi a A9 (k:= -1) ⟨Z0,Z0⟩;have l:=jw a Z9D;have n:=zi a FM (k:=9) ⟨Z0,Z0⟩;have o:=O0 (b:=TU) FL;have d:=O0 (b:=UQ) FM;rw[q]at f;rw[r]at g;rw[t]at h;rw[u]at j;rw[r5]at l;rw[r6]at n;simp only[ZK,TS,TU,UQ,Hp.zero,ZfA,Zgn]at f g h j l n o d;simp[Mr];refine Zy f Z1 ?_;simp;refine Zy g Z1 ?_;simp;refine Zy h Z1 ?_;simp;refine Zy j Z1 ?_;simp;refine Zy l Z1 ?_;simp;refine Zy n Z1 ?_;simp;refine Zy o Z1 ?_;simp;refine Zy d Z1 ?_;simp;refine Zy d Z1 ?_;simp;refine Zy d Z1 ?_;simp
end Vm
end
section
namespace Vm
open Go Go.Proofs Go.RowKit
def Z7O:SG:=by
 intro h p k D r K C;obtain⟨n,rfl⟩:=Zfi K;rw[Zfh];refine⟨Z2,λw G vs z l d=> ?_⟩;have r0:=d 0 _ rfl;have N:=d 1 _ rfl;have B:vs=#[vs.getD 0 undef,vs.getD 1 undef]:=by
  have a:vs.size=2:=l;apply ZhH;simp[a];intro i O P;have F:i<2:=Z0
  match i,F with
  |0,_=>simp[Array.getD,a]
  |1,_=>simp[Array.getD,a]
 obtain⟨o,t,M⟩:=AF r0;have u:=Ri N;rw[B,t,u];refine(Z7P w G z h D o M r (by have:=C.2;omega)).mono ?_;rintro e Q ⟨x,rfl,g,L⟩;refine⟨_,rfl,g,?_⟩;refine .an _ _ rfl ?_;intro i y f
 match i,f with
 |0,f=>cases f;exact yh λj H=>(L j H).mono λb A=>A.imp (λq=>⟨rfl,q⟩) id
 |1,f=>cases f;exact .int _ _
end Vm
end
section
namespace Vm
open Go Go.Conc Go.ConcN
section
section
variable {P:Z5}{Stop:Z9}{b:Zg}{k:Zp}{cs:Z7}{a:Act}{w:Z3}
def Walk.cy{x y:Code}(h:Walk P Stop (b.at a<|.code x:: .code y::k) cs w):Walk P Stop (b.at a<|.code (.seq x y)::k) cs w:=.go (λw=>stepG_seq) h
def Walk.region{id:Nat}{ops:Zl}(h:Walk P Stop (b.at a<|.inRegion ops (List.range ops.size)::k) cs w):Walk P Stop (b.at a<|.code (.region id ops xw)::k) cs w:=.go (λw=>stepG_region) h
def Walk.gl{ops:Zl}(h:Walk P Stop (b.at a k) cs w):Walk P Stop (b.at a<|.inRegion ops []::k) cs w:=.go (λw=>stepG_region_end) h
def Walk.val{ops:Zl}{i:Nat}{rest:Za}{o:Oper}{v:Zf}(q:ops[i]?=J o)(r:Region.wanted o (yielded ops a.tmps)=xk)(p:b.kind≠.early)(n:QP P o.op=xk)(j:∀g:Z3,g.heap=w.heap->(execOp a.eval o).run P g=.ok (.value v) g)
  (h:Walk P Stop (b.at (a.put o.dst v)<|.inRegion ops rest::k) cs w):Walk P Stop (b.at a<|.inRegion ops (i::rest)::k) cs w:=by
 refine .one λd=> ?_;have f:EvsB (xz<|xj<|Yd<|(execOp a.eval o).run P<|w.at d)<|listed P b.fn a o<|w.at d:=λe l=>FH n a (w.at d) e<|mem_listed l;rw[j (w.at d) rfl]at f;exact⟨_,_,_,_,stepG_value q r p<|j (w.at d) rfl,Zf9 _,f,h.at d⟩
def Walk.chan{ops:Zl}{i:Nat}{rest:Za}{o:Oper}{t p:Zi}{dir:ChanDir}{inf:TypeInfo}{f:IntKind}(z:ops[i]?=J o)(B:Region.wanted o (yielded ops a.tmps)=xk)(y:b.kind≠.early)(j:o.op=.makeChan t (.const<|.int f 0))(l:P.underlying t=J (.chan dir p))(g:P.info? p=J inf)
  (h:Walk P Stop (b.at (a.put o.dst<|.chan<|J<|xz<|xj w)<|.inRegion ops rest::k) cs<|w.alloc<|.chan 0 #[] xw 0 0 xw):Walk P Stop (b.at a<|.inRegion ops (i::rest)::k) cs w:=by
 refine .one λd=> ?_;have n:execOp a.eval o=(do pure (.value<|<-Instr.makeChan t (.int f (0:Nat))):Sem Next):=by unfold execOp;simp only[j];rfl
 have A:(execOp a.eval o).run P (w.at d)=.ok (.value<|.chan<|J<|xz<|xj w) ((w.alloc<|.chan 0 #[] xw 0 0 xw).at d):=by
  rw[n];simp only[ZfO,run_makeChan (w:=w.at d) l g f 0 Z0 Z0,ZfL];rfl
 have x:(execOp a.eval o).events P (w.at d) #[]=#[]:=by
  rw[n];have q:=events_makeChan (P:=P) (w:=w.at d) l g f 0 Z0 Z0 #[];have r:(Instr.makeChan t<|.int f (0:Nat)).runT P (w.at d) #[]=(.ok (.chan<|J<|xz<|xj w)<|(w.alloc<|.chan 0 #[] xw 0 0 xw).at d, #[]):=by
   refine ZhF ?_ q;rw[Zhc];exact run_makeChan (w:=w.at d) l g f 0 Z0 Z0
  show((Sem.bind _ _).runT P (w.at d) #[]).2=_;rw[Zhg,r];rfl
 refine⟨_,_,_,_,stepG_value z B y A,by show xz (xj w)<=xz (xj<|w.alloc _);simp,λe u=> ?_,h.at d⟩;have:=mem_listed u;simp_all
def Walk.uk{fr B:Zg}{f:Zj}(T:∀w:Z3,stepG P xk (G fr cs) w=.spawn (G B cs) f w #[])
  (H:∀(n d:Nat) (gs:Zc) (sl:Option<|Nat×Nat) (t:Trace) (q:Zk),0<n->gs.size=n+1->gs[0]?=J (G B cs)->gs[n]?=J f->YK P n gs q->(∀Z OB M,TI n Z OB M (xz<|xj w) t)->Win P (E3 P Stop) gs (w.at d) sl t):Walk P Stop fr cs w:=by
 intro d0 gs sl t q hl N o;have R:∀(a:Zc) g,a[a.size]? ≠J g:=λa g e=>by
  simp_all
 refine skip hl (λi g O r=> ?_) ⟨0,_,.inl rfl,N,rfl⟩ λa d L q' i g a1 z Q O a2 a0=> ?_;obtain rfl|rfl:=O;rw[N]at r;cases r;exact⟨awake_of<|.inl rfl,λg1 g2 d=>woken_run rfl⟩;simp_all;obtain rfl|rfl:=O;have C:a[0]?=J (G fr cs):=by rw[z 0<|.inl rfl];exact N
 have F:0<a.size:=(Zf8.1 C).1;have u:=runT_crowd_spawn (P:=P) (sl:=L) (i:=0) (w:=w.at d) C<|T<|w.at d;refine⟨_,_,_,_,u,?_⟩;generalize hx:({g:=0,fn:=(G fr cs).frame.fn,pos:=(G fr cs).frame.place,act:=.go a.size}:MemOp)=x;generalize hy:({g:=a.size,fn:=f.frame.fn,pos:=(G fr cs).frame.place,act:=.start}:MemOp)=y;have D:((MemOp.ofEvents 0 (G fr cs).frame.fn (G fr cs).frame.place #[]).push x).push y=#[x,y]:=by simp[MemOp.ofEvents]
 rw[D];have W:x.g=0/\x.act=.go a.size:=by rw[<-hx];exact⟨rfl,rfl⟩
 have X:y.g=a.size/\y.act=.start:=by rw[<-hy];exact⟨rfl,rfl⟩
 refine H a.size d _ L _ q' F Z1 ?_ Ze7 (λj g hj a3 r=> ?_) λZ OB M=> ?_;grind;rw[Zhq]at r;simp only[Zhm]at r;rw[if_neg Z0,ZfY Z0]at r;exact Q j g hj Z0 r;have t0:TI a.size (λ_=>True) (λ_=>False) M (xz<|xj w) t:=⟨o.fu,o.dk,o.H,λi op x l k A=>.inl<|o.im i op x l k A,λi op x l k A=>.inr<|.inr ⟨λ_=>by simp_all[Ia,trivial],λb _ h=>h⟩⟩
 have Y:=t0.comm (Zf9 _) #[x,y] (λop S=>by
  have:op=x\/op=y:=by simpa using S
  obtain rfl|rfl:=this;simp_all[MemAct.touch?];simp_all[MemAct.touch?])
 have K:∀(i:Nat) (op:MemOp) (p:Touch),(t++ #[x,y])[i]?=J op->op.act.touch?=J p->t[i]?=J op:=λi op p l k=>by
  obtain⟨_,h⟩|⟨_,h⟩:=getElem?_append_cases l;exact h;have:op=x\/op=y:=Zf0;obtain rfl|rfl:=this;simp_all[MemAct.touch?];simp_all[MemAct.touch?]
 refine⟨Y.fu,Y.dk,Y.H,λi op p l k A=>.inl<|(o.im i op p (K i op p l k) k A).app _,λi op p l k A=>.inr<|.inl ?_⟩;exact fork_knows W X (o.dk 0) (o.dk _)<|o.im i op p (K i op p l k) k A;simp_all
def Walk.ul{fr o:Zg}{f:Zj}{c:Nat}{KA KB OA0:Z4}{StopA:(Nat->Prop)->Goroutine->World->Prop}{vs:Zm}{z:Zf}(C:∀w:Z3,stepG P xk (G fr cs) w=.spawn (G o cs) f w #[])
  (Q:Play P xk c KA StopA (vs.map .recv++[.closed z]) OA0 (G o cs) w) (R:Play P xw c KB (UH P c) (vs.map .send) (λ_=>False) f w) (p:w.heap[c]?=J (.chan 0 #[] xw 0 0 xw))
  (la:∀b,OA0 b->b<xz (xj w)) (ka:∀b,KA b->b<xz (xj w)) (kb:∀b,KB b->b<xz (xj w)) (H:∀b,OA0 b->¬KB b) (N:¬OA0 c) (x:¬KA c) (y:¬KB c)
  (r:∀u a j,StopA u a j->xz (xj w)<=xz (xj j)->j.tape=w.tape->(j.os,j.output)=(w.os,w.output)->(∀b,u b->(OA0 b\/xz (xj w)<=b)/\b<xz (xj j))->(∀b,b<xz (xj w)->¬OA0 b->b≠c->j.heap[b]?=w.heap[b]?)->∃l k,a=G l k/\Walk P Stop l k j):Walk P Stop fr cs w:=by
 refine .uk C λn d gs sl t q X D O B W F=> ?_;have S:Cfg P n c KA KB OA0 (w.at d) OA0 (λ_=>False) gs (w.at d) t q:=
  ⟨X,W,F _ _ _,la,λ_ h=>h.elim,ka,kb,λ_ _ h=>h,H,N,x,y,(Zf8.1 p).1,Zf9 _,rfl,rfl,λ_ h=>.inl h,λ_ h=>h.elim,λ_ _ _ _=>rfl⟩
 have Y:=(Z5M (P:=P) (n:=n) (KB:=KB) (OA0:=OA0) (w0:=w.at d) Q).tj vs z (λ_=>False) f gs (w.at d) sl t q 0 0 xw rfl S D O B (Rely.at _ _ _ d) (.run<|R.gm<|Rely.at _ _ _ d) p;refine Y.bind λA w1 K t1 ⟨M,u,OB,q1,Z,k1,k2,g,k4,k5⟩=> ?_;obtain⟨l,k,rfl,T⟩:=r u M w1 k2 g.b0 g.tape g.os (λb L=>⟨g.oa b L,g.la b L⟩) g.fr;exact T w1.drawn A K t1 q1 k4 Z ⟨g.ti.fu,g.ti.dk,g.ti.H,k5⟩
end
end
end Vm
end
section
namespace Vm
open Go Go.Conc
section
section
variable {Q:Z5}{c:Nat}{Post:Z9}{es:List Ev}{fr fr':Zg}{cs cs':Z7}{w w':Z3}
def LS.bq:∀ {es:List Ev} {fr fr':Zg} {cs cs':Z7} {w w':Z3},Steps Q (lone fr (cs++[YN Q]) w) (lone fr' (cs'++[YN Q]) w')->LS Q c Post es fr' cs' w'->LS Q c Post es fr cs w
 | [],_,_,_,_,_,_,h,⟨n,a,c2,w2,d,f⟩=>let⟨m,g⟩:=Steps.trans h ⟨n,d⟩;⟨m,a,c2,w2,g,f⟩
 |e::es,_,_,_,_,_,_,h,⟨n,a,c2,w2,d,f⟩=>let⟨m,g⟩:=Steps.trans h ⟨n,d⟩;⟨m,a,c2,w2,g,f⟩
def LS.ev{e:Ev}(h:VB Q c e fr)(k:LS Q c Post es (Xs e fr) cs w):LS Q c Post (e::es) fr cs w:=⟨0,fr,cs,w,rfl,h,k⟩
def LS.ip(h:Post fr cs w):LS Q c Post [] fr cs w:=⟨0,fr,cs,w,rfl,h⟩
end
def DO{P:Z5}{ops:Zl}{w:Z3}{Q g:Act->Prop}(h:∀a,Q a->g a):∀(l:List Oper) (a:Act),wpStill P ops w Q l a->wpStill P ops w g l a
 | [],a,d=>h a d
 |o::l,a,d=>by
  simp only[wpStill]at d⊢;split;rename_i f;rw[if_pos f]at d;exact Oper.still_mono (λa=>DO h l a) d;rename_i f;rw[if_neg f]at d;exact DO h l _ d
def Yo:Code->List Nat->Code
 |c,[]=>c
 |.seq a _,0::l=>Yo a l
 |.seq _ b,_::l=>Yo b l
 |.cond _ a _,0::l=>Yo a l
 |.cond _ _ b,_::l=>Yo b l
 |.block _ a,_::l=>Yo a l
 |.loop a,_::l=>Yo a l
 |.scope a,_::l=>Yo a l
 |c,_=>c
def Lb:Code->Array Oper
 |.region _ ops _=>ops
 |_=> #[]
def jv(Q:Z5)(c:Nat)(Post:Z9)(es:List Ev)(b:Zg)(k:Zp)(cs:Z7):Exit->Act->World->Prop
 |.normal,a,w=>LS Q c Post es (b.at a k) cs w
 |.exit id,a,w=>∃k',exitTo id k=J k'/\LS Q c Post es (b.at a k') cs w
 |.ret,a,w=>∀d,LS Q c Post es {b.at a d with mode:=.returning} cs w
 |_,_,_=>False
def SC(Q:Z5)(c:Nat)(x:Code)(R:List Ev->Exit->Act->World->Prop)(es:List Ev)(a:Act)(w:Z3):Prop:=
 ∀(Post:Z9) (b:Zg) (k:Zp) (cs:Z7),(∀d e f w',R d e f w'->jv Q c Post d b k cs e f w')->LS Q c Post es (b.at a<|.code x::k) cs w
def ST(Q:Z5)(c:Nat)(ops:Zl)(R:List Ev->Exit->Act->World->Prop)(l:Za)(es:List Ev)(a:Act)(w:Z3):Prop:=
 ∀(Post:Z9) (b:Zg) (k:Zp) (cs:Z7),(∀d e f w',R d e f w'->jv Q c Post d b k cs e f w')->LS Q c Post es (b.at a<|.inRegion ops l::k) cs w
section
variable {Q:Z5}{c:Nat}{R R':List Ev->Exit->Act->World->Prop}{es:List Ev}{a:Act}{w:Z3}{x y:Code}
variable {ops:Zl}{l:Za}
def SC.ui{id:Nat}(h:∀t,ST Q c ops R (Region.schedule (Q.follows .mixedOrders) ops t) es a {w with drawn:=w.drawn+1}):SC Q c (.region id ops xk) R es a w:=λPost b k cs d=>LS.bq (.one step_region_draw)<|h _ Post b k cs d
def ST.nil(h:R es .normal a w):ST Q c ops R [] es a w:=λPost b k cs d=>LS.bq (.one step_region_end)<|d _ _ _ _ h
def ST.su{i:Nat}(g:((ops[i]?).map (Region.wanted · (yielded ops a.tmps))).getD xw=xw)(f:ST Q c ops R l es (a.put ((ops[i]?).bind (·.dst)) undef) w):ST Q c ops R (i::l) es a w:=λPost b k cs d=>
 LS.bq (.one<|step_op_skip g) (f Post b k cs d)
def ST.still{i:Nat}{K:Act->Prop}(h:stOp Q ops w i K a)(t:∀a,K a->ST Q c ops R l es a w):ST Q c ops R (i::l) es a w:=by
 unfold stOp at h;cases q:ops[i]? with
 |none=>
  rw[q]at h;refine .su (by simp[q]) ?_;simp_all[Option.bind_none,Act.put]
 |some o=>
  rw[q]at h;dsimp only at h;by_cases u:Region.wanted o (yielded ops a.tmps)=xk;rw[if_pos u]at h;unfold Oper.still at h;intro Post b k cs r;have A:=stepG_op (P:=Q) (b:=b) (k:=k) (cs:=cs++[YN Q]) (w:=w) (rest:=l) q u;have y:∀v,(b.at a<|.inRegion ops (i::l)::k).finish v=b.at (a.put o.dst v) (.inRegion ops l::k):=λv=>by grind [Frame.finish_at]
  revert h
  cases B:(execOp a.eval o).run Q w with
  |halt x w'=>exact False.elim
  |ok n w'=>
   cases n<;>first|exact False.elim|skip
   rename_i v;rintro⟨rfl,h⟩;refine LS.bq (.one<|ZiA ?_)<|t _ h Post b k cs r;simp_all[stepG.apply];rintro⟨rfl,h⟩;refine LS.bq (.one<|ZiA ?_)<|t _ h Post b k cs r;simp_all[stepG.apply];rename_i f args;rintro⟨rfl,v,z,h⟩;obtain⟨e,j,fr,⟨rfl,rfl⟩,g,_,p⟩:=z<|b.at a (.inRegion ops (i::l)::k)::(cs++[YN Q]);have d:step Q (lone (b.at a<|.inRegion ops (i::l)::k) (cs++[YN Q]) j)=.next (lone (Frame.enter Q f args .normal) (b.at a (.inRegion ops (i::l)::k)::(cs++[YN Q])) j):=
    ZiA (by simp_all[stepG.apply,Frame.at])
   refine LS.bq (.head d<|g.trans<|.one ?_)<|t _ h Post b k cs r;grind [step_leave_returned]
  rw[if_neg u]at h;refine .su Ze8 ?_;simp_all
def ST.ev{i:Nat}{o:Oper}{e:Ev}(A:ops[i]?=J o)(G:Region.wanted o (yielded ops a.tmps)=xk)(y:match e with
   |.recv _|.closed _=>∃t f d h inf z,o.op=.recv t f xk/\ZX f=xk/\a.eval f=.chan (J c)/\Q.underlying t=J (.chan d h)/\Q.info? h=J inf/\inf.zero=J z/\∀B,e=.closed B->B=z
   |.send v=>∃f x,o.op=.send f x/\ZX f=xk/\ZX x=xk/\a.eval f=.chan (J c)/\a.eval x=v)
  (F:ST Q c ops R l es (a.put o.dst e.val) w):ST Q c ops R (i::l) (e::es) a w:=λPost b k cs D=>by
 refine LS.ev ⟨ops,i,l,k,o,rfl,rfl,A,G,?_⟩ ?_;have g:∀x,(b.at a<|.inRegion ops (i::l)::k).eval x=a.eval x:=Frame.eval_at b a _;cases e with
 |recv v=>obtain⟨t,f,d,h,inf,z,j,n,p,q,r,u,_⟩:=y;exact⟨t,f,d,h,inf,z,j,n,by rw[g];exact p,q,r,u⟩
 |closed v=>obtain⟨t,f,d,h,inf,z,j,n,p,q,r,u,C⟩:=y;exact⟨t,f,d,h,inf,j,n,by rw[g];exact p,q,r,by rw[C v rfl];exact u⟩
 |send v=>obtain⟨f,x,j,n,p,q,r⟩:=y;exact⟨f,x,j,n,p,by rw[g];exact q,by rw[g];exact r⟩
 have:Xs e (b.at a<|.inRegion ops (i::l)::k)=b.at (a.put o.dst e.val) (.inRegion ops l::k):=by
  unfold Xs;rw[ZhC,A];rfl
 rw[this];exact F Post b k cs D
def ST.head{md:Region.Mode}{n g:Nat}{L:Array Bool->Act->Prop}:∀(f t:Nat) (listed:Array Bool) (a:Act),wpAnyL Q md ops w n L f listed a->(∀listed a t,L listed a->ST Q c ops R (Region.linearise.go md ops g t listed []) es a w)->
  ST Q c ops R (Region.linearise.go md ops (f+g) t listed []) es a w
 |0,t,listed,a,h,j=>by rw[ZfQ];exact j _ _ _ h
 |f+1,t,listed,a,h,j=>by
  obtain⟨p,q⟩:=h;rw[show f+1+g=(f+g)+1 by omega];simp only[Region.linearise.go]
  change ST Q c ops R (match(Region.ready md ops listed)[t% I (Region.ready md ops listed)]? with
   |some i=>Region.linearise.go md ops (f+g) (t / I (Region.ready md ops listed)) (listed.setIfInBounds i xk) [i]
   |none=>[].reverse) es a w
  cases k:(Region.ready md ops listed)[t% I (Region.ready md ops listed)]? with
  |none=>
   exfalso;have d:0< I (Region.ready md ops listed):=Zh4.2 p;have:=Zhi.1 k;have:=Zin t d;omega
  |some i=>
   simp only[];rw[linearise_go_acc,ZiW,Zj8];exact ST.still (q i<|Zfc k).2 λl o=>ST.head f _ _ l o j
def ST.km{n:Nat}{listed:Array Bool}{t:Nat}(h:Region.seqB .any ops 1 n listed=xk)(d:ST Q c ops R [n] es a w):ST Q c ops R (Region.linearise.go .any ops 1 t listed []) es a w:=by
 simp only[Region.seqB,Zf6,Zfv]at h;simp only[Region.linearise.go]
 change ST Q c ops R (match(Region.ready .any ops listed)[t% I (Region.ready .any ops listed)]? with
   |some i=>[i]
   |none=>[]) es a w
 grind
def SC.km{id n:Nat}{l:List Oper}(B:Q.follows .mixedOrders=xk)(u:Region.lexTailB .any l.toArray n=xk)(q:I l=n+1)(h:wpStill Q l.toArray {w with drawn:=w.drawn+1} (λp=>ST Q c l.toArray R [n] es p {w with drawn:=w.drawn+1}) (l.take n) a):SC Q c (.region id l.toArray xk) R es a w:=by
 refine SC.ui λt=> ?_;simp only[Region.lexTailB,Zf6,Zfv]at u;obtain⟨⟨⟨⟨k,y⟩,D⟩,z⟩,f⟩:=u;have C:n<I l:=by simpa using y
 have r:I (l.take n)=n:=Ze9;have A:l.toArray.size-n=1:=Ze9;rw[A]at f;have o:HeadInv .any l.toArray n<|Array.replicate l.toArray.size xw:=
  ⟨Z1,λj M _ G=>(by grind [getD_replicate_false]),λt _ K=>getD_in Ze7<|getD_replicate_false _ _⟩
 have H:=wpAnyL_lex (md:=.any) (g:=1) k D z y (l.take n) 0 _ a (λj F=>by
  simp_all) Z0 o Ze8 h
 simp only[Region.schedule,B,Bool.true_or,Zg1,Region.linearise];have e:l.toArray.size=I (l.take n)+1:=by rw[r];simpa using q
 rw[e];exact ST.head (L:=λd p=>Region.seqB .any l.toArray 1 n d=xk/\ST Q c l.toArray R [n] es p {w with drawn:=w.drawn+1}) _ t _ a (by rw[<-e];exact H) λlisted p N x=>ST.km x.1 x.2
end
section
variable {Q:Z5}{c:Nat}{Post:Z9}{es:List Ev}{a:Act}{w:Z3}{x y:Code}{b:Zg}{k k':Zp}{cs:Z7}
def LS.cy(h:LS Q c Post es (b.at a<|.code x:: .code y::k) cs w):LS Q c Post es (b.at a<|.code (.seq x y)::k) cs w:=LS.bq (.one step_seq) h
def LS.om{o:Operand}(hc:a.eval o=.bool xk)(h:LS Q c Post es (b.at a<|.code x::k) cs w):LS Q c Post es (b.at a<|.code (.cond o x y)::k) cs w:=LS.bq (.one<|step_cond hc) h
def LS.oj{o:Operand}(hc:a.eval o=.bool xw)(h:LS Q c Post es (b.at a<|.code y::k) cs w):LS Q c Post es (b.at a<|.code (.cond o x y)::k) cs w:=LS.bq (.one<|step_cond hc) h
def LS.skip(h:LS Q c Post es (b.at a k) cs w):LS Q c Post es (b.at a<|.code .skip::k) cs w:=LS.bq (.one step_skip) h
def LS.block{id:Nat}(h:LS Q c Post es (b.at a<|.code x:: .inBlock id::k) cs w):LS Q c Post es (b.at a<|.code (.block id x)::k) cs w:=LS.bq (.one step_block) h
def LS.inBlock{id:Nat}(h:LS Q c Post es (b.at a k) cs w):LS Q c Post es (b.at a<|.inBlock id::k) cs w:=LS.bq (.one step_inBlock) h
theorem LS.inLoop(h:LS Q c Post es (b.at a<|.code x:: .inLoop x::k) cs w):LS Q c Post es (b.at a<|.inLoop x::k) cs w:=LS.bq (.one step_inLoop) h
def LS.exit{id:Nat}(d:exitTo id k=J k')(h:LS Q c Post es (b.at a k') cs w):LS Q c Post es (b.at a<|.code (.exit id)::k) cs w:=LS.bq (.one<|step_exit d) h
def LS.ox(I:Nat->List Ev->Act->World->Prop){n:Nat}(d:I n es a w)(f:∀n es a w,I n es a w->(∀m es a w,m<n->I m es a w->LS Q c Post es (b.at a<|.inLoop x::k) cs w)->LS Q c Post es (b.at a<|.code x:: .inLoop x::k) cs w):LS Q c Post es (b.at a<|.code (.loop x)::k) cs w:=by
 have key:∀n es a w,I n es a w->LS Q c Post es (b.at a<|.code x:: .inLoop x::k) cs w:=by
  intro n;induction n using Nat.strongRecOn with
  |_ n g=>grind [inLoop]
 exact LS.bq (.one step_loop)<|key n es a w d
def LS.wp{R:Ze}(h:x.wp Q R a w)(n:∀e f w',R e f w'->jv Q c Post es b k cs e f w'):LS Q c Post es (b.at a<|.code x::k) cs w:=by
 obtain⟨e,f,w',q,r⟩:=h b k<|cs++[YN Q];have g:=n e f w' q;cases e with
 |normal=>exact LS.bq r g
 |exit id=>obtain⟨k',j,l⟩:=g;exact LS.bq (r k' j) l
 |ret=>obtain⟨d,r⟩:=r;exact LS.bq r<|g d
 |_=>exact g.elim
def LS.dn(h:∀K:Zn,(∀a w,LS Q c Post es (b.at a k) cs w->K a w)->x.wp Q (λe a w=>e=.normal/\K a w) a w):LS Q c Post es (b.at a<|.code x::k) cs w:=
 LS.wp (h _ λ_ _ q=>q) λe g w' ⟨d,f⟩=>by subst d;exact f
def LS.send{id n:Nat}{l:List Oper}{v:Zf}(z:Q.follows .mixedOrders=xk)(x:Region.lexTailB .any l.toArray n=xk)(q:I l=n+1){o:Oper}{g j:Operand}(B:l[n]?=J o)(y:o.guard=U)(p:o.op=.send g j)(u:ZX g=xk)(h2:ZX j=xk)
  (h:wpStill Q l.toArray {w with drawn:=w.drawn+1} (λd=>d.eval g=.chan (J c)/\d.eval j=v/\LS Q c Post es (b.at (d.put o.dst undef) k) cs {w with drawn:=w.drawn+1}) (l.take n) a):LS Q c Post (.send v::es) (b.at a<|.code (.region id l.toArray xk)::k) cs w:=
 SC.km (R:=λf e d w'=>e=.normal/\LS Q c Post f (b.at d k) cs w') z x q (DO (λd ⟨r,t,A⟩=>ST.ev (o:=o) Ze7 (by simp[Region.wanted,y]) ⟨g,j,p,u,h2,r,t⟩<|.nil ⟨rfl,A⟩) _ _ h) Post b k cs λf e d w' ⟨r,t⟩=>by subst r;exact t
def LS.region{id:Nat}{ops:Zl}(h:LS Q c Post es (b.at a<|.inRegion ops (List.range ops.size)::k) cs w):LS Q c Post es (b.at a<|.code (.region id ops xw)::k) cs w:=LS.bq (.one step_region) h
def LS.value{ops:Zl}{i:Nat}{l:Za}{o:Oper}{v:Zf}{w':Z3}(g:ops[i]?=J o)(j:Region.wanted o (yielded ops a.tmps)=xk)(h:(execOp a.eval o).run Q w=.ok (.value v) w')(f:LS Q c Post es (b.at (a.put o.dst v)<|.inRegion ops l::k) cs w'):LS Q c Post es (b.at a<|.inRegion ops (i::l)::k) cs w:=by
 have d:(b.at a<|.inRegion ops (i::l)::k).finish v=b.at (a.put o.dst v) (.inRegion ops l::k):=by grind [Frame.finish_at]
 refine LS.bq (.one<|ZiA ?_) f;simp_all[stepG_op,stepG.apply]
def LS.gl{ops:Zl}(h:LS Q c Post es (b.at a k) cs w):LS Q c Post es (b.at a<|.inRegion ops []::k) cs w:=LS.bq (.one step_region_end) h
def LS.td{ops:Zl}{i:Nat}{l:Za}{o:Oper}{e:Ev}(n:ops[i]?=J o)(p:Region.wanted o (yielded ops a.tmps)=xk)(q:match e with
   |.recv _|.closed _=>∃t f d g inf z,o.op=.recv t f xk/\ZX f=xk/\a.eval f=.chan (J c)/\Q.underlying t=J (.chan d g)/\Q.info? g=J inf/\inf.zero=J z/\∀h,e=.closed h->h=z
   |.send v=>∃f x,o.op=.send f x/\ZX f=xk/\ZX x=xk/\a.eval f=.chan (J c)/\a.eval x=v)
  (r:LS Q c Post es (b.at (a.put o.dst e.val)<|.inRegion ops l::k) cs w):LS Q c Post (e::es) (b.at a<|.inRegion ops (i::l)::k) cs w:=by
 refine LS.ev ⟨ops,i,l,k,o,rfl,rfl,n,p,?_⟩ ?_;have j:∀x,(b.at a<|.inRegion ops (i::l)::k).eval x=a.eval x:=Frame.eval_at b a _;grind;simp_all[Xs,ZhC]
end
end
end Vm
end
section
namespace Vm
open Go
open Go.Proofs
noncomputable def ofC:Code:=match Try.f15.body with|some c=>c|none=>.skip
def Db(f:Zq):Option<|List OT:=if f=43 then J [.fz,.mem [.fz],.mem [.fz]]else sig f
def P4:List Nat:=[0,1,2,3,16,4,5,6,7,23,25,8,24,29,9,10,48,47,49,12,46,13]
def Z96:List Nat:=[15,63,76,79]
def vf(P:Z5):FC:= {P,ix:=pos<|P4++Z96,fresh,sig:=Db,tr:=[3],fix:=[4,23],n:=82,keep:=P4}
def qA:SS:=[(0,.fz)]
def r0N:SS:=[(0,.fz),(1,(.mem [.fz,.fz,.fz,.fz,.fz,.fz,.fz,.fz,.fz,.fz])),(2,(.mem [.nil,.nil])),(3,.fz)]
def r0:Stm:=
(.am ⟨[],[],[(1,.m [(.ae (.sz (.s 0) 10) 0),(.ae (.sz (.s 0) 10) 1),(.ae (.sz (.s 0) 10) 2),(.ae (.sz (.s 0) 10) 3),(.ae (.sz (.s 0) 10) 4),(.ae (.sz (.s 0) 10) 5),(.ae (.sz (.s 0) 10) 6),(.ae (.sz (.s 0) 10) 7),(.ae (.sz (.s 0) 10) 8),(.ae (.sz (.s 0) 10) 9)]),(2,.m [(.c<|.sl []),(.c<|.sl [])]),(3,.v<|.c<|.int .i64<|0)]⟩)
def r0c:comp (vf<|Yl Try.prog) (Yo ofC [0]) qA=J (r0,⟨J r0N,[],[]⟩):=Z2
def rXS:SS:=[(0,.fz),(1,(.mem [.fz,.fz,.fz,.fz,.fz,.fz,.fz,.fz,.fz,.fz])),(2,(.mem [.nil,.nil])),(3,.fz)]
def Nr:SS:=[(0,.fz),(1,(.mem [.fz,.fz,.fz,.fz,.fz,.fz,.fz,.fz,.fz,.fz])),(2,(.mem [.nil,.nil])),(3,.fz),(16,.fz)]
def CJ:SS:=[(0,.fz),(1,(.mem [.fz,.fz,.fz,.fz,.fz,.fz,.fz,.fz,.fz,.fz])),(2,(.mem [.nil,.nil])),(3,.fz),(16,.fz)]
def rX:Stm:=
(.seq
(.am ⟨[.call 22 [] (.id 25) xw xw [(.mm 1 0 10)]],[],[(4,.v<|.un .not<|.s 22)]⟩)
(.cond (.s 4)
 (.seq
 (.am ⟨[],[([],(.ag [(.c<|.sl []),(.c<|.sl [])]))],[(2,.m [(.c<|.sl []),(.c<|.sl [])]),(3,.v<|.c<|.int .i64<|1)]⟩)
 .ret)
 .skip))
def rXc:comp (vf<|Yl Try.prog) (Yo ofC [1,0]) rXS=J (rX,⟨J Nr,[],[CJ]⟩):=Z2
def Lt:SS:=[(1,(.mem [.fz,.fz,.fz,.fz,.fz,.fz,.fz,.fz,.fz,.fz])),(2,(.mem [.fz,.fz])),(3,.fz)]
def r5N:SS:=[(1,(.mem [.fz,.fz,.fz,.fz,.fz,.fz,.fz,.fz,.fz,.fz])),(2,(.mem [.fz,.fz])),(3,.fz),(5,.nil)]
def r5:Stm:=
(.am ⟨[],[],[(6,.v<|.c<|.sl [])]⟩)
def r5c:comp (vf<|Sol.prog) (Yo ofC [1,1,1,1,0]) Lt=J (r5,⟨J r5N,[],[]⟩):=Z2
def r6S:SS:=[(1,(.mem [.fz,.fz,.fz,.fz,.fz,.fz,.fz,.fz,.fz,.fz])),(2,(.mem [.fz,.fz])),(3,.fz),(5,.nil)]
def r6N:SS:=[(1,(.mem [.fz,.fz,.fz,.fz,.fz,.fz,.fz,.fz,.fz,.fz])),(2,(.mem [.fz,.fz])),(3,.fz),(5,.nil),(6,(.mem [(.own 84)]))]
def r6:Stm:=
(.am ⟨[],[],[(7,.m [(.c<|.mp 0 [] [])])]⟩)
def r6c:comp (vf<|Sol.prog) (Yo ofC [1,1,1,1,1,0]) r6S=J (r6,⟨J r6N,[],[]⟩):=Z2
def r7S:SS:=[(1,(.mem [.fz,.fz,.fz,.fz,.fz,.fz,.fz,.fz,.fz,.fz])),(2,(.mem [.fz,.fz])),(3,.fz),(5,.nil),(6,(.mem [(.own 84)]))]
def r7N:SS:=[(1,(.mem [.fz,.fz,.fz,.fz,.fz,.fz,.fz,.fz,.fz,.fz])),(2,(.mem [.fz,.fz])),(3,.fz),(5,.nil),(6,(.mem [(.own 84)])),(7,(.mem [(.own 85)]))]
def r7:Stm:=
(.am ⟨[],[],[(8,.m [(.c<|.mp 0 [] [])])]⟩)
def r7c:comp (vf<|Sol.prog) (Yo ofC [1,1,1,1,1,1,0]) r7S=J (r7,⟨J r7N,[],[]⟩):=Z2
def CG:SS:=[(1,(.mem [.fz,.fz,.fz,.fz,.fz,.fz,.fz,.fz,.fz,.fz])),(2,(.mem [.fz,.fz])),(3,.fz),(5,(.own 87)),(6,(.mem [(.own 84)])),(7,(.mem [(.own 85)])),(24,.fz),(25,.fz)]
def rDN:SS:=[(1,(.mem [.fz,.fz,.fz,.fz,.fz,.fz,.fz,.fz,.fz,.fz])),(2,(.mem [.fz,.fz])),(3,.fz),(5,(.own 87)),(6,(.mem [(.own 84)])),(7,(.mem [(.own 85)])),(25,.fz),(8,(.mem [.fz,.fz,.fz,.fz,.fz,.fz,.fz])),(24,.fz),(29,.fz)]
def CH:SS:=[(1,(.mem [.fz,.fz,.fz,.fz,.fz,.fz,.fz,.fz,.fz,.fz])),(2,(.mem [.fz,.fz])),(3,.fz),(5,(.own 87)),(6,(.mem [(.own 84)])),(7,(.mem [(.own 85)])),(24,.fz),(25,.fz)]
def rD:Stm:=
(.seq
(.cond (.s 10)
 .skip
 (.exit 0))
(.block 1
 (.seq
 (.am ⟨[],[],[(11,.m [(.ae (.sz (.ext (.s 12) 0) 7) 0),(.ae (.sz (.ext (.s 12) 0) 7) 1),(.ae (.sz (.ext (.s 12) 0) 7) 2),(.ae (.sz (.ext (.s 12) 0) 7) 3),(.ae (.sz (.ext (.s 12) 0) 7) 4),(.ae (.sz (.ext (.s 12) 0) 7) 5),(.ae (.sz (.ext (.s 12) 0) 7) 6)])]⟩)
 (.seq
 (.seq
 (.am ⟨[],[],[(13,.v<|.m 11 3)]⟩)
 (.cond (.s 13)
  (.seq
  (.am ⟨[],[],[(8,.m [(.df (.i .u64) (.m 8 0) (.m 11 5)<|.m 11 4)])]⟩)
  (.exit 1))
  .skip))
 (.seq
 (.am ⟨[],[],[(7,.m [(.df (.i .u64) (.m 7 0) (.m 11 5)<|.len<|.s 6)])]⟩)
 (.am ⟨[],[],[(6,.v<|.app (.s 6) (.lit [(.mm 11 0 7)]) 7)]⟩))))))
def Nq:comp (vf<|Sol.prog) (Yo ofC [1,1,1,1,1,1,1,0,1,0,0,1]) CG=J (rD,⟨J rDN,[(0,CH)],[]⟩):=Z2
def Np:SS:=[(1,(.mem [.fz,.fz,.fz,.fz,.fz,.fz,.fz,.fz,.fz,.fz])),(2,(.mem [.fz,.fz])),(3,.fz),(5,.fz),(6,(.mem [.fz])),(7,(.mem [.fz]))]
def No:SS:=[(1,(.mem [.fz,.fz,.fz,.fz,.fz,.fz,.fz,.fz,.fz,.fz])),(2,(.mem [.fz,.fz])),(3,.fz),(5,.fz),(6,(.mem [.fz])),(7,(.mem [.fz])),(9,(.cq 43 [7,6])),(10,(.mem [.fz,.fz])),(48,.fz),(47,.fz),(49,.fz),(46,.fz)]
def rC:Stm:=
(.seq
(.am ⟨[],[],[(14,.no)]⟩)
(.seq
(.am ⟨[],[],[(14,.no),(15,.m [(.c<|.sl []),(.c<|.sl [])])]⟩)
(.seq
(.seq
(.am ⟨[],[],[(14,.no),(16,.v<|.c<|.int .i64<|0),(17,.v<|.len<|.s 6),(20,.v<|.s 6)]⟩)
(.block 2
 (.loop [1,2,3,6,7,8,14,15,16,17,20]
  (.seq
  (.am ⟨[],[],[(14,.no),(18,.v<|.bo .lss (.s 16)<|.s 17)]⟩)
  (.seq
  (.cond (.s 18)
   .skip
   (.exit 2))
  (.seq
  (.block 3
   (.seq
   (.am ⟨[],[],[(14,.no),(19,.m [(.ae (.bb (.ao (.s 20) (.s 16) 7) 0 7) 0),(.ae (.bb (.ao (.s 20) (.s 16) 7) 0 7) 1),(.ae (.bb (.ao (.s 20) (.s 16) 7) 0 7) 2),(.ae (.bb (.ao (.s 20) (.s 16) 7) 0 7) 3),(.ae (.bb (.ao (.s 20) (.s 16) 7) 0 7) 4),(.ae (.bb (.ao (.s 20) (.s 16) 7) 0 7) 5),(.ae (.bb (.ao (.s 20) (.s 16) 7) 0 7) 6)])]⟩)
   (.seq
   (.am ⟨[],[],[(14,.no),(21,.v<|.m 19 2)]⟩)
   (.am ⟨[.co 23 [] (.id 43) [.fz,(.mem [.fz]),(.mem [.fz])] [(.gz (.m 19 6) (.c<|.int .i64<|0) (.s 21) 1),(.ag [(.m 8 0)]),(.ag [(.m 7 0)])]],[],[(7,.m [(.ae (.ext (.s 23) 2) 0)]),(8,.m [(.ae (.ext (.s 23) 1) 0)]),(14,.no),(15,.m [(.app (.m 15 0) (.lit [(.ag [(.one<|.ext (.s 23) 0),(.eu (.m 19 6) (.s 21) 1)])]) 2),(.m 15 1)])]⟩))))
  (.am ⟨[],[],[(14,.no),(16,.v<|.bo .add (.s 16)<|.c<|.int .i64<|1)]⟩)))))))
(.seq
(.am ⟨[.co 24 [] (.id 43) [.fz,(.mem [.fz]),(.mem [.fz])] [(.m 1 9),(.ag [(.m 8 0)]),(.ag [(.m 7 0)])]],[],[(7,.m [(.ae (.ext (.s 24) 2) 0)]),(8,.m [(.ae (.ext (.s 24) 1) 0)]),(14,.no),(15,.m [(.m 15 0),(.one<|.ext (.s 24) 0)])]⟩)
(.seq
(.am ⟨[.call 25 [] (.id 17) xw xw [(.mm 15 0 2)]],[],[(2,.m [(.ae (.sz (.ext (.s 25) 0) 2) 0),(.ae (.sz (.ext (.s 25) 0) 2) 1)]),(3,.v<|.fl<|.ext (.s 25) 1),(14,.no)]⟩)
.ret)))))
def rCc:comp (vf<|Sol.prog) (Yo ofC [1,1,1,1,1,1,1,1]) Np=J (rC,⟨U,[],[No]⟩):=Z2
def MQ:Fn:=⟨16,[0,1,2,4,5,14,13,15,7,12,19,8,9,10,11,34],
(.seq
(.am ⟨[],[],[(3,.v<|.c<|.sl [])]⟩)
(.seq
(.am ⟨[],[],[(4,.v<|.c<|.sl [])]⟩)
(.seq
(.seq
(.am ⟨[],[],[(5,.v<|.c<|.int .i64<|0),(6,.v<|.len<|.s 0),(9,.v<|.s 0)]⟩)
(.block 0
 (.loop [0,1,2,3,4,5,6,9]
  (.seq
  (.am ⟨[],[],[(7,.v<|.bo .lss (.s 5)<|.s 6)]⟩)
  (.seq
  (.cond (.s 7)
   .skip
   (.exit 0))
  (.seq
  (.block 1
   (.seq
   (.am ⟨[],[],[(8,.v<|.ae (.ao (.s 9) (.s 5) 1) 0)]⟩)
   (.seq
   (.seq
   (.am ⟨[],[],[(10,.v<|.bo .eql (.s 8)<|.c<|.int .u64<|0)]⟩)
   (.cond (.s 10)
    (.seq
    (.am ⟨[],[],[(4,.v<|.app (.s 4) (.lit [(.c<|.int .i64<|-1)]) 1)]⟩)
    (.exit 1))
    .skip))
   (.seq
   (.am ⟨[.call 16 [] (.id 44) xw xw [(.s 8)]],[],[(11,.v<|.ext (.s 16) 0),(12,.v<|.ext (.s 16) 1)]⟩)
   (.seq
   (.seq
   (.am ⟨[],[],[(13,.v<|.ext (.lk (.i .u64) (.m 1 0) (.s 11) (.int .u64<|0) xk) 0),(14,.v<|.ext (.lk (.i .u64) (.m 1 0) (.s 11) (.int .u64<|0) xk) 1)]⟩)
   (.seq
   (.am ⟨[],[],[(15,.v<|.s 14)]⟩)
   (.cond (.s 15)
    (.am ⟨[],[],[(11,.v<|.s 13)]⟩)
    .skip)))
   (.am ⟨[],[],[(4,.v<|.app (.s 4) (.lit [(.one<|.lk (.i .u64) (.m 2 0) (.s 11) (.int .i64<|0) xw)]) 1)]⟩))))))
  (.am ⟨[],[],[(5,.v<|.bo .add (.s 5)<|.c<|.int .i64<|1)]⟩)))))))
(.seq
(.am ⟨[],[],[(3,.v<|.s 4),(4,.no)]⟩)
.ret)))),
[(3,.v)]⟩
def cTo:ZL Sol.prog fresh sig [.fz,(.mem [.fz]),(.mem [.fz])] (Rf [.fz,(.mem [.fz]),(.mem [.fz])]) Try.f43=J MQ:=Z2
def Mg:Fn:=⟨5,[0,1,2,3,6],pQ [pR [(1,pS 0 2),(2,.m [pN,pN]),pV 3<|pI 0],pQ [pC [pK 5 19 [.mm 1 0 2]] [pV 4<|.un .not<|.s 5]]<|pw (.s 4)<|pQ [.am ⟨[],[([],.ag [pN,pN])],[(2,.m [pN,pN]),pV 3<|pI 1]⟩] .ret,pC [.co 6 [] (.id 47) [.fz,(.own 97)] [.mm 1 0 2,.c<|.mp 0 [] []]] [(2,pM (.sz (.ext (.s 6) 0) 2) 2),pV 3<|pI 0]] .ret,[(2,(.ag 2)),(3,.v)]⟩
def c17:ZL Sol.prog fresh sig [.fz] [] Try.f17=J Mg:=Z2
def Mh:Fn:=⟨12,[0,1,2,3,4,5,24,6,29,7,8,63],pQ [pR [(2,pS 0 2),(3,pS 1 2),pV 4 pF],pC [pK 12 48 [.m 2 1,.m 3 1]] [pV 5<|.s 12],pQ [.am ⟨[.lt 13 []<|.un .not<|.s 5],[([(13,xw)],pn (.len<|.m 2 0)<|.len<|.m 3 0)],[pV 6<|.ite (.s 13) pT<|pn (.len<|.m 2 0)<|.len<|.m 3 0]⟩]<|pw (.s 6)<|px [pV 4 pF],pQ [pR [pV 7<|pI 0]]<|.block 0<|.loop [0,1,2,3,4,5,6,7]<|pQ [pu 8 (pl (.s 7)<|.len<|.m 2 0) .skip<|.exit 0,.block 1<|pQ [pC [pK 14 48 [.ae (.ao (.m 2 0) (.s 7) 2) 0,.ae (.ao (.m 3 0) (.s 7) 2) 0]] [pV 9<|.s 14],pC [pK 15 49 [.ae (.ao (.m 2 0) (.s 7) 2) 1,.ae (.ao (.m 3 0) (.s 7) 2) 1]] [pV 10<|.s 15],.am ⟨[.lt 16 []<|.un .not<|.s 9],[([(16,xw)],.un .not<|.s 10)],[pV 11<|.ite (.s 16) pT<|.un .not<|.s 10]⟩]<|pw (.s 11)<|px [pV 4 pF]]<|pc 7]<|px [pV 4 pT],[(4,.v)]⟩
def c18:ZL Sol.prog fresh sig [.fz,.fz] [] Try.f18=J Mh:=Z2
def Mi:Fn:=⟨11,[0,1,2,9,3,14,13,15,5,12,32],pQ [pR [(1,pS 0 2),pV 2 pF],pi 3 (pj (.len<|.m 1 1)<|pI 16)<|px [pV 2 pF],pR [(4,.no)],pQ [pR [(4,.no),pV 5<|pI 0,pV 6<|.len<|.m 1 0,pV 9<|.m 1 0]]<|.block 0<|.loop [0,1,2,3,4,5,6,9]<|pQ [pR [(4,.no),pV 7<|pl (.s 5)<|.s 6],.cond (.s 7) .skip<|.exit 0,.block 1<|pQ [pR [(4,.no),(8,pM (.bb (.ao (.s 9) (.s 5) 2) 0 2) 2)],.am ⟨[.lt 11 []<|pj (pa (.len<|.m 8 0)<|.len<|.m 8 1)<|pI 255,.co 12 [(11,xw)] (.id 50) [.fz,(.mem [.fz,.fz])] [.m 8 0,.ag [.m 1 0,.m 1 1]]],[([(11,xw)],.un .not<|.ext (.s 12) 0)],[(1,pM (.ext (.s 12) 1) 2),(4,.no),pV 10<|.ite (.s 11) pT<|.un .not<|.ext (.s 12) 0]⟩]<|pw (.s 10)<|px [pV 2 pF,(4,.no)]]<|pR [(4,.no),pV 5<|pa (.s 5)<|pI 1],pC [.co 13 [] (.id 50) [.fz,(.mem [.fz,.fz])] [.m 1 1,.ag [.m 1 0,.m 1 1]]] [(1,pM (.ext (.s 13) 1) 2),pV 2<|.ext (.s 13) 0,(4,.no)]] .ret,[(2,.v)]⟩
def c19:ZL Sol.prog fresh sig [.fz] [] Try.f19=J Mi:=Z2
def Mx:Fn:=⟨11,[0,1,2,4,5,13,12,14,7,11,8],pQ [pR [(2,pS 0 2),(3,.m [pN,pN])],pR [(4,.m [pN,pN])],pQ [pC [.co 9 [] (.id 80) [.fz,(.own 97)] [.mm 2 0 2,.s 1]] [pV 1<|.ext (.s 9) 1,pV 5<|pI 0,pV 6<|.len<|.ext (.s 9) 0,pV 9<|.ext (.s 9) 0]]<|po [0,1,2,3,4,5,6,9] 7 (pl (.s 5)<|.s 6) (pQ [pR [pV 8<|.ae (.ao (.s 9) (.s 5) 1) 0],pR [(10,pM (.bb (.ao (.m 2 0) (.s 8) 2) 0 2) 2)]]<|pC [.call 11 [] (.id 81) xk xw [.m 10 0,.s 1]] [(4,.m [.app (.m 4 0) (.lit [.ag [.one<|.s 11,.app pN (.m 10 1) 1]]) 2,.m 4 1])])<|pc 5,pC [.call 12 [] (.id 81) xk xw [.m 2 1,.s 1]] [(4,.m [.m 4 0,.one<|.s 12])]]<|px [(3,pM (.mm 4 0 2) 2)],[(3,(.ag 2))]⟩
def c47:ZL Sol.prog fresh sig [.fz,(.own 97)] [(1,(.own 97))] Try.f47=J Mx:=Z2
def C2:Fn:=⟨7,[0,1,4,10,5,14,25],pQ [pR [pV 2 pF],pi 3 (pn (.len<|.s 0)<|.len<|.s 1)<|px [pV 2 pF],pQ [pR [pV 4<|pI 0]]<|.block 0<|.loop [0,1,2,3,4]<|pQ [pu 5 (pl (.s 4)<|.len<|.s 0) .skip<|.exit 0,.block 1<|pi 6 (pn (.ae (.ao (.s 0) (.s 4) 1) 0)<|.ae (.ao (.s 1) (.s 4) 1) 0)<|px [pV 2 pF]]<|pc 4]<|px [pV 2 pT],[(2,.v)]⟩
def c48:ZL Sol.prog fresh sig [.fz,.fz] [] Try.f48=J C2:=Z2
def My:Fn:=⟨9,[0,1,3,8,7,9,5,6,20],pQ [pR [pV 2 pF],pQ [pR [pV 3<|pI 0,pV 4<|.len<|.s 0,pV 7<|.s 0]]<|po [0,1,2,3,4,7] 5 (pl (.s 3)<|.s 4) (pQ [pR [pV 6<|.ae (.ao (.s 7) (.s 3) 1) 0],.am ⟨[.lt 9 []<|pl (.s 6)<|pI<|-1],[([(9,xw)],pg (.s 6)<|.len<|.m 1 0)],[pV 8<|.ite (.s 9) pT<|pg (.s 6)<|.len<|.m 1 0]⟩]<|pw (.s 8)<|px [pV 2 pF])<|pc 3]<|px [pV 2 pT],[(2,.v)]⟩
def c50:ZL Sol.prog fresh sig [.fz,(.mem [.fz,.fz])] [(1,(.mem [.fz,.fz]))] Try.f50=J My:=Z2
def Lh:Fn:=⟨9,[0,1,2,3,4,5,6,7,17],pQ [pR [(1,.no),(2,pS 0 2),(3,.m [.s 1]),pV 4 pN],pR [(3,.m [.ej<|.m 3 0])],pR [(5,.m [pN])],pR [(6,.no)],pC [.co 9 [] (.id 102) [.fz,(.mem [(.own 97)]),(.mem [(.own 3)])] [.m 2 1,.ag [.m 3 0],.ag [.m 5 0]]] [(3,.m [.ae (.ext (.s 9) 1) 0]),(5,.m [.ae (.ext (.s 9) 2) 0]),(6,.no)],pQ [pR [(6,.no),pV 7<|pI 0]]<|.block 0<|.loop [0,2,3,4,5,6,7]<|pQ [pQ [pR [(6,.no),pV 8<|pl (.s 7)<|.len<|.m 5 0]]<|.cond (.s 8) .skip<|.exit 0,.block 1<|pC [.co 10 [] (.id 102) [.fz,(.mem [(.own 97)]),(.mem [(.own 3)])] [.ae (.ao (.m 2 0) (.ae (.ao (.m 5 0) (.s 7) 1) 0) 2) 0,.ag [.m 3 0],.ag [.m 5 0]]] [(3,.m [.ae (.ext (.s 10) 1) 0]),(5,.m [.ae (.ext (.s 10) 2) 0]),(6,.no)]]<|pR [(6,.no),pV 7<|pa (.s 7)<|pI 1]]<|px [pV 4<|.m 5 0,(6,.no)],[(4,.v)]⟩
def c80:ZL Sol.prog fresh sig [.fz,(.own 97)] [(3,(.mem [(.own 97)]))] Try.f80=J Lh:=Z2
def MK:Fn:=⟨10,[0,1,4,5,10,9,11,7,8,15],pQ [pR [pV 2 pN],pR [pV 3 pN],pQ [pR [pV 4<|pI 0,pV 5<|.len<|.s 0,pV 8<|.s 0]]<|po [0,1,2,3,4,5,8] 6 (pl (.s 4)<|.s 5) (pQ [pR [pV 7<|.ae (.ao (.s 8) (.s 4) 1) 0],pi 9 (pg (.s 7)<|pI 0)<|pR [pV 7<|.lk (.i .i64) (.s 1) (.s 7) (.int .i64 0) xw]]<|pR [pV 3<|.app (.s 3) (.lit [.one<|.s 7]) 1])<|pc 4]<|px [pV 2<|.s 3,(3,.no)],[(2,.v)]⟩
def c81:ZL Sol.prog fresh sig [.fz,.fz] [(4,(.own 3))] Try.f81=J MK:=Z2
def M1:Fn:=⟨11,[0,1,2,10,9,11,5,8,6,7,25],pQ [pR [pV 3<|pI 0,pV 4<|.len<|.s 0,pV 7<|.s 0]]<|po [0,1,2,3,4,7] 5 (pl (.s 3)<|.s 4) (pQ [pR [pV 6<|.ae (.ao (.s 7) (.s 3) 1) 0],pR [pV 8<|.fl<|.ext (.lk (.i .i64) (.m 1 0) (.s 6) (.int .i64 0) xk) 0,pV 9<|.fl<|.ext (.lk (.i .i64) (.m 1 0) (.s 6) (.int .i64 0) xk) 1],.am ⟨[.lt 11 []<|pg (.s 6)<|pI 0],[([(11,xk)],.un .not<|.s 9)],[pV 10<|.ite (.s 11) (.un .not<|.s 9) pF]⟩]<|pw (.s 10)<|pQ [pR [(1,.m [.df (.i .i64) (.m 1 0) (.s 6)<|.len<|.m 2 0])]]<|pR [(2,.m [.app (.m 2 0) (.lit [.one<|.s 6]) 1])])<|pc 3,[]⟩
def Z0H:ZL Sol.prog fresh sig [.fz,(.mem [(.own 97)]),(.mem [(.own 3)])] [(1,(.mem [(.own 97)])),(2,(.mem [(.own 3)]))] Try.f102=J M1:=Z2
end Vm
end
section
namespace Vm
open Go Go.Proofs
def Gr.sm(g:Gr):Prop:=I g.nodes<=100000/\I g.E<=100000/\∀n∈g.nodes,I n.M<=100000/\I n.data<=100000
def Uq(n:Nat)(p:Int):Bool:=decide (-1<=p/\p<n)
def Sc(k:Nat)(n:Nd):Bool:=decide (I n.M+I n.data<=255)&&n.M.all (Uq k)
def right(g:Gr):Bool:=decide (I g.E<=16)&&g.nodes.all (Sc<|I g.nodes)&&g.E.all (Uq<|I g.nodes)
theorem EB{α:Type}{p}{l:List α}{i x}(h:l[i]?=J x):(l.take<|i+1).all p=((l.take i).all p&&p x):=by
 rw[ZfZ,h];simp
theorem Ez{α:Type}{p}{l:List α}{i:Nat}{x}(h:l[i]?=J x)(a:p x=xw):l.all p=xw:=by
 grind
def FX{l:List Int}{ns a}(g:I l<=100000)(k:a.one=xk)(j:YZ a=J a):
  Vl Sol.prog 50 [.fz,.mem [.fz,.fz]] [.sl<|l.map vi,.agg [.sl ns,a]] (.an [.bool<|l.all<|Uq<|I ns,.agg [.sl ns,a]]):=by
 refine JQ Sol.func50 follows Z2 c50 Z2 ?_;simp[-List.all_eq_true,-List.all_eq_false,My];refine UG (λt=>∃i,i<=I l/\(l.take i).all (Uq<|I ns)=xk/\t=[.v<|.sl<|l.map vi,.m [.sl ns,a],.v<|.bool xw,.v<|vi i,.v<|vi<|I l,.no,.no,.v<|.sl<|l.map vi]) (λt=>match get t 3 with|.v (.int _ n)=>I l-n.toNat|_=>0) ?_ ?_;exact⟨0,Z1,Z1,Z1⟩;rintro t ⟨i,f,d,rfl⟩;by_cases h:i<I l;have o:l[i]?=J l[i]:=Z1;simp[-List.all_eq_true,-List.all_eq_false,h];simp(disch:=omega) only[Zz];grind [Ez,Uq,EB];have:i=I l:=Z0;simp_all
def NM{g}(q:g.sm):VC Sol.prog 19 xw [Yh g]<|.bool<|right g:=by
 let⟨r,j,k⟩:=q;refine ZW Sol.func19 follows Z2 c19 rfl ?_;simp[-List.all_eq_true,-List.all_eq_false,Mi];split;grind [List.all_eq_true,List.all_eq_false,right];rename_i h;refine UG (λt=>∃i,i<=I g.nodes/\(g.nodes.take i).all (Sc<|I g.nodes)=xk/\t=[.v<|Yh g,.m [.sl<|g.nodes.map Yf,.sl<|g.E.map vi],.v<|.bool xw,.v<|.bool xw,.no,.v<|vi i,.v<|vi<|I g.nodes,.no,.no,.v<|.sl<|g.nodes.map Yf]) (λt=>match get t 5 with|.v (.int _ n)=>I g.nodes-n.toNat|_=>0) ?_ ?_;exact⟨0,Z1,Z1,by simp[h]⟩;rintro t ⟨i,z,a,rfl⟩;by_cases d:i<I g.nodes;have A:g.nodes[i]?=J g.nodes[i]:=Z1;let⟨p,x⟩:=k _<|Zfq d;have o:=Zz (i+1) Z0 Z0;simp[-List.all_eq_true,-List.all_eq_false,d,o];simp(disch:=omega) only[Zz];have u:Sc (I g.nodes) g.nodes[i]=xw->right g=xw:=λw=>by grind [List.all_eq_true,List.all_eq_false,right,Ez]
 by_cases l:(g.nodes[i].M.length:Int)+(g.nodes[i].data.length:Int)<=255;rw[if_pos l];refine VW (FX p ZeX ZeX) ?_;have f:¬(255:Int)< (g.nodes[i].M.length:Int)+(g.nodes[i].data.length:Int):=Z0;cases y:g.nodes[i].M.all _;simp;simp_all[Zfe,ZhE,Sc];simp[-List.all_eq_true,-List.all_eq_false,f,o];grind [EB,List.all_eq_true,List.all_eq_false,Sc];rw[if_neg l];grind [List.all_eq_true,List.all_eq_false,Sc];have:i=I g.nodes:=Z0;subst this;simp[-List.all_eq_true,-List.all_eq_false];refine VW (FX j ZeX ZeX) ?_;rw[ZgD]at a;simp[-List.all_eq_true,-List.all_eq_false,right,a];omega
end Vm
namespace Vm
open Go Go.Proofs
def Hb{a b:List Int}(g:I a<=100000):VC Sol.prog 48 xw [.sl<|a.map vi,.sl<|b.map vi]<|.bool<|decide (a=b):=by
 refine ZW Sol.func48 follows Z2 c48 rfl ?_;by_cases d:I a=I b;simp[C2,d];refine UG (λt=>∃i,i<=I b/\a.take i=b.take i/\t=[.v<|.sl<|a.map vi,.v<|.sl<|b.map vi,.v<|.bool xw,.v<|.bool xw,.v<|vi i]) (λt=>match get t 4 with|.v (.int _ n)=>I b-n.toNat|_=>0) ?_ ?_;exact⟨0,Z1,Z1,Z1⟩;rintro t ⟨i,j,heq,rfl⟩;by_cases h:i<I b;have f:i<I a:=Z0;by_cases k:a[i]=b[i];simp_all;simp(disch:=omega) only[Zz];grind [Dv];simp_all;grind;simp_all[Zg5];simp[C2,show ¬((I a:Int)=(I b:Int))by omega];grind
end Vm
namespace Vm
open Go Go.Proofs
def DC(n:Nat):List V:=(List.range n).map λ(i:Nat)=>vi i
def XA(id:Nat)(l:List Int):V:=.mp id (l.map vi)<|DC<|I l
def Yc:List Int->List Int->List Int
 |a,[]=>a
 |a,x::l=>Yc (if 0<=x/\x∉a then a++[x]else a) l
def Af{x}:∀ {l:List Int},To (vi x) (l.map vi)=J (l.findIdx? (· ==x))
 | []=>rfl
 |y::l=>by
  simp only[ZfA,To,KR,ZhT];by_cases h:x=y;subst h;simp;have a:(x==y)=xw:=Zf0;have d:(y==x)=xw:=by simpa using ZgQ h
  simp[a,d,Af]
def Ae{x}{l:List Int}:l.findIdx? (· ==x)=U↔x∉l:=by
 grind
theorem Hx{id l x z ok}:Ut (.i .i64) (XA id l) (vi x) z ok=match l.findIdx? (· ==x)with
  |some i=>J (if ok then .an [vi i,.bool xk]else vi i)
  |none=>J (if ok then .an [z,.bool xw]else z):=by
 unfold Ut XA;simp[Ve,Af];grind [List.findIdx?_eq_some_iff_getElem,DC]
def Z4E{id l x}(hx:x∉l):T6 (.i .i64) (XA id l) (vi x) (vi<|I l)=J (XA id<|l++[x]):=by
 unfold T6 XA;simp[Ve,Af,Ae.2 hx];simp[DC,Zhp]
@[simp]theorem ZcC id l:YZ (XA id l)=J (XA id l):=rfl
def It{ns acc id}(q:I ns<=100000)(g:I acc<=1000000):Vl Sol.prog 102 [.fz,.mem [.own 97],.mem [.own 3]] [.sl<|ns.map vi,.agg [XA id acc],.agg [.sl<|acc.map vi]]
  (.an [.an [],.agg [XA id<|Yc acc ns],.agg [.sl<|(Yc acc ns).map vi]]):=by
 refine JQ Sol.func102 follows Z2 Z0H Z2 ?_;simp[M1];refine UG (λt=>∃i l,i<=I ns/\Yc l (ns.drop i)=Yc acc ns/\I l<=1000000+i/\t=[.v<|.sl<|ns.map vi,.m [XA id l],.m [.sl<|l.map vi],.v<|vi i,.v<|vi<|I ns,.no,.no,.v<|.sl<|ns.map vi]) (λt=>match get t 3 with|.v (.int _ n)=>I ns-n.toNat|_=>0) ?_ ?_;exact⟨0,acc,Z1,Z1,Z0,Z1⟩;rintro t ⟨i,l,r,o,u,rfl⟩;by_cases h:i<I ns;have p:ns.drop i=ns[i]::ns.drop (i+1):=Z1;rw[p,Yc]at o;simp[h,Hx];by_cases d:ns[i]∈l;have a:∃j,l.findIdx? (· ==ns[i])=J j:=by
  cases k:l.findIdx? (· ==ns[i])with
  |none=>grind
  |some j=>simp
 let⟨j,k⟩:=a;simp[k,WC,V.be];simp(disch:=omega) only[Zz];grind;simp[Ae.2 d,WC,V.be];simp(disch:=omega) only[Zz];by_cases f:0<=ns[i];rw[if_pos f,Z4E d];rw[if_pos ⟨f,d⟩]at o;simp;refine⟨by grind [Y8],Ze7,Z0⟩;grind;have:i=I ns:=Z0;simp_all[Yc]
@[simp]theorem ZaE id l:(XA id l).cells=[XA id l]:=rfl
def Good(n:Nat)(l:List Int):Prop:=l.Nodup/\∀x∈l,0<=x/\x<n
def BH:∀(n:Nat) {l:List Int},l.Nodup->(∀x∈l,0<=x/\x<n)->I l<=n
 |0,l,_,h=>by
  obtain _|⟨x,l⟩:=l;simp;have:=h x Z1;omega
 |n+1,l,a,h=>by
  by_cases j:(n:Int)∈l;have g:=BH n (a.erase (n:Int)) λx d=>by
   have f:=(a.mem_erase_iff).1 d;have:=h x f.2;omega
  rw[List.length_erase_of_mem j]at g;omega;have:=BH n a λx d=>by
   have g:=h x d;have:x≠n:=Ze7;omega
  omega
def Good.len{n l}(h:Good n l):=BH n h.1 h.2
def Tx{n}:∀ {f a:List Int},Good n a->(∀x∈f,x<n)->Good n (Yc a f)
 | [],a,h,_=>h
 |x::f,a,h,j=>by
  simp[Yc];refine Tx ?_ λy d=>Ze8;split;rename_i g;refine⟨?_,λy d=> ?_⟩;rw[Zi8];exact⟨h.1,Z1,Ze7⟩;obtain d|d:=Zfy.1 d;exact h.2 y d;simp at d;subst d;exact⟨g.1,Ze8⟩;exact h
def XE(g:Gr):Nat->Nat->List Int->List Int
 |0,_,l=>l
 |f+1,i,l=>match l[i]? with
  |some x=>XE g f (i+1)<|Yc l ((g.nodes[x.toNat]?).getD default).M
  |none=>l
def order(g:Gr):List Int:=XE g (I g.nodes+1) 0<|Yc [] g.E
def H8{n p}(h:Uq n p=xk): -1<=p/\p<n:=by grind [Uq]
def Rn{g}(a:right g=xk):∀x∈g.E,-1<=x/\x<I g.nodes:=by
 simp[right,Zfe]at a;exactλx d=>H8 Ze8
def CS{g}(a:right g=xk):∀n∈g.nodes,∀x∈n.M,-1<=x/\x<I g.nodes:=by
 simp[right,Sc]at a;exactλn d x f=>H8 Ze7
def Z5t{g}(C:g.sm)(B:right g=xk)id ks vs:
  Yt Sol.prog Lh.body [.v<|Yh g,.v<|.mp id ks vs] (λs=>get s 4=.v (.sl<|(order g).map vi)/\get s 3=.m [XA id<|order g]) (λ_ _=>False) (λs=>get s 4=.v (.sl<|(order g).map vi)/\get s 3=.m [XA id<|order g]):=by
 let⟨D,q,r⟩:=C;simp[Lh];refine VW (It (ns:=g.E) (acc:=[]) (id:=id) q Z1) ?_;simp;have o:=Rn B;have d:Good (I g.nodes)<|Yc [] g.E:=Tx ⟨Z1,Z1⟩ λx p=>Ze8;refine UG (λt=>∃i l,i<=I l/\Good (I g.nodes) l/\XE g (I g.nodes+1-i) i l=order g/\t=[.v<|Yh g,.no,.m [.sl<|g.nodes.map Yf,.sl<|g.E.map vi],.m [XA id l],.v<|.sl [],.m [.sl<|l.map vi],.no,.v<|vi i]) (λt=>match get t 7 with|.v (.int _ n)=>I g.nodes-n.toNat|_=>0) ?_ ?_;exact⟨0,_,Z1,d,rfl,Z1⟩;rintro t ⟨i,l,K,u,A,rfl⟩;have z:=u.len;by_cases h:i<I l;let⟨G,M⟩:=u.2 _<|Zfq h;let⟨k,w⟩:=Zfi G;have j:k<I g.nodes:=Z0;have p:l[i]?=J (k:Int):=by rw[Zf4 h,w]
 simp[h,w,j];refine VW (It (r _<|Zfq j).1 Z0) ?_;simp;simp(disch:=omega) only[Zz];have a:Good (I g.nodes)<|Yc l g.nodes[k].M:=Tx u λx p=>(CS B _ Z1 x p).2;refine⟨⟨i+1,_,?_,a,?_,rfl,rfl,Z1⟩,Z0⟩;have:∀ {ns acc},I acc<=I (Yc acc ns):=by
  intro ns;induction ns with
  |nil=>simp_all[Yc]
  |cons y ns L=>
   simp[Yc];grind
 grind;rw[show I g.nodes+1-i=(I g.nodes+1- (i+1))+1 by omega,XE,p]at A;simp_all;have:i=I l:=Z0;subst this;have F:l=order g:=by
  rw[<-A];cases H:I g.nodes+1-(I l) with
  |zero=>omega
  |succ f=>simp[XE]
 simp_all
def Z5s{g}(hg:g.sm)(hr:right g=xk)id ks vs:Vl Sol.prog 80 [.fz,.own 97] [Yh g,.mp id ks vs]<|.an [.sl<|(order g).map vi,XA id<|order g]:=by
 refine⟨Z2,λB w h us a9 hA=> ?_⟩;let⟨b6,a1,a2⟩:=hA;let⟨d0,T,b0⟩:=a2 1 _ _ rfl rfl;simp[Wl,Zf2]at T;subst T;let⟨x1,W,R⟩:=b0;simp[eval,Zf2]at W;subst W;obtain⟨_,_,hl,_⟩|⟨c5,c7,d6,b,es,Y,he,hv,a5,hB,hid,hh,h1,h2,h3,h4⟩:=R;cases hl;cases he;have a0:zj Sol.prog B w h [.fz,.own 97] [Yh g,.mp (b+1) ks vs] us:=by
  refine⟨rfl,a1,λi k x f j=> ?_⟩
  match i,f,j with
  |0,f,j=>grind
  |1,f,j=>
   simp at f j;subst f j;exact⟨_,rfl,_,rfl,.inr ⟨b+1,ks,vs,b,es,Y,rfl,hv,a5,hB,.inr rfl,hh,h1,h2,h3,h4⟩⟩
  |i+2,f,j=>simp at f
 refine zU (cf:=Lh) (fin:=[(3,.mem [.own 97])]) (xs:=[Yh g,.mp _ ks vs]) (Rt:=λs=>get s 4=.v _/\get s 3=.m [XA _ _]) Sol.func80 follows c80 (Z5t hg hr _ ks vs) a9 a0 λc s S a w' h' hP b8 O z M r p hK o l=> ?_;rw[<-hP]at l z⊢;simp only[Rb,Zf6,Zfe]at l;let⟨A,a7⟩:=l;let⟨d,a8⟩:=zk r p a7;have Q:c.ix 3=3:=O 3 Zeo;have hr:Wv s (Lz c.P c.ix Try.f80)=J (.sl<|(order g).map vi):=by
  rw[<-z];simp[Lh,M.1]
 let⟨v,b1,b4⟩:=LA (D:=(h'.drop<|Ur S [(3,.mem [.own 97])]).F) r p (λb hb=>.inl hb) (λq hq=>by
  have h2:=Zfe.1 (Z2:NE Try.f80 [(3,.mem [.own 97])]=xk) q hq;refine⟨A q hq,λi b hb=>.inr ⟨Rm q,i+1,?_,Z0,hb⟩⟩;simp_all[Ur,ZiM,Rm]) hr
 let⟨u,hu,b3,d5,T3,e1,e2,e3,e4,e5⟩:=d.Y 3 (by grind [Yu,Yq]) ZeX;let⟨X,hX,C⟩:=e5 0 _ rfl;have a3:X=XA (b+1) (order g):=by
  simp[eval,Q,M.2]at hX;simpa using hX.symm
 subst a3;obtain⟨_,_,hl,_⟩|⟨c6,c8,d7,H,Z,L,N,c0,n,b7,b5,a6,q1,q2,q3,q4⟩:=C;cases hl;simp[XA,V.mp.injEq]at N;obtain⟨rfl,rfl,rfl⟩:=N;have a4:H=b:=Z0;subst a4;let⟨r1,r2,r3⟩:=d.ok.aq 3 1 H n
 refine⟨v,b1,v,.sl _,[.bool xw,XA id _],{F:=(h'.drop _).F,bl:=λt i=>if t=1/\i=1 then J H else U,K:=h'.K},rfl,o.below,o.same,
  ⟨Z0,d.ok.bm,d.ok.cr,d.ok.fa,λt i x j=> ?_,λt i t' i' x j c1=> ?_,d.ok.cp,λt i x j=> ?_,d.ok.fb⟩,hK,b4,⟨rfl,λi k y f b9 G=> ?_⟩,rfl⟩
 grind;grind;simp only at j;split at j;simp[Zf2]at j;subst j;exact d.ok.ci 3 1 H n;cases j
 match i,f,G with
 |0,f,G=>grind
 |1,f,G=>
  simp at f G;subst f G;exact⟨_,rfl,_,rfl,.inr ⟨id,_,_,H,Z,L,rfl,hv,Z1,hB,hid,a6,q1,q2,q3,q4⟩⟩
 |i+2,f,G=>simp at f
end Vm
namespace Vm
open Go Go.Proofs
def UN(l:List Int)(p:Int):Int:=match l.findIdx? (· ==p)with
 |some i=>(i:Nat)
 |none=>0
def We(l a:List Int):List Int:=a.map λp=>if 0<=p then UN l p else p
def SP(g:Gr)(l:List Int)(x:Int):Nd:=let n:=(g.nodes[x.toNat]?).getD default;⟨We l n.M,n.data⟩
def Ye(g:Gr):Gr:=⟨(order g).map<|SP g<|order g,We (order g) g.E⟩
def Z3Z{id l x}:Ut (.i .i64) (XA id l) (vi x) (vi 0) xw=J (vi<|UN l x):=by
 grind [Hx,UN]
def Z20{l:List Int}:∀c∈flat (l.map vi),c.be=xk:=by
 intro c d;simp[flat,Zfj]at d;obtain⟨y,⟨a,_,rfl⟩,d⟩:=d;have:c=vi a:=by simpa[V.cells]using d
 subst this;rfl
def Ii{a l id}(o:I a<=100000):VC Sol.prog 81 xk [.sl<|a.map vi,XA id l]<|.sl<|(We l a).map vi:=by
 refine Z94 (t:=4) (ty:=3) Sol.func81 follows Z2 rfl c81 rfl Z20 ?_;simp[MK];refine UG (λt=>∃i,i<=I a/\t=[.v<|.sl<|a.map vi,.v<|XA id l,.v<|.sl [],.v<|.sl<|(We l<|a.take i).map vi,.v<|vi i,.v<|vi<|I a,.no,.no,.v<|.sl<|a.map vi]) (λt=>match get t 4 with|.v (.int _ n)=>I a-n.toNat|_=>0) ?_ ?_;exact⟨0,Z1,by simp[We]⟩;rintro t ⟨i,k,rfl⟩;by_cases h:i<I a;have j:a[i]?=J a[i]:=Z1;have d:We l (a.take<|i+1)=We l (a.take i)++[if 0<=a[i]then UN l a[i]else a[i]]:=by
  unfold We;rw[ZfZ,j,Zgg];rfl
 have g:I (We l<|a.take i)<=100000:=by simp[We];omega
 simp[h];simp(disch:=omega) only[Zz];by_cases f:0<=a[i];simp[f,Z3Z];refine⟨ZeA,Ze7,Z0⟩;simp[f];refine⟨ZeA,Ze7,Z0⟩;have:i=I a:=Z0;subst this;simp
def IQ{g}(d:right g=xk):∀ {f i} {l:List Int},Good (I g.nodes) l->Good (I g.nodes) (XE g f i l)
 |0,i,l,h=>h
 |f+1,i,l,h=>by
  simp[XE];split;rename_i x k;refine IQ d (Tx h λy j=> ?_);let⟨n,o⟩:=h.2 x Ze7;have a:x.toNat<I g.nodes:=Z0;rw[Zf4 a]at j;exact(CS d _ Z1 y j).2;exact h
def Jt{g}(a:right g=xk):Good (I g.nodes)<|order g:=
 IQ a (Tx ⟨Z1,Z1⟩ λx d=>(Rn a x d).2)
def Z1a{g}(p:g.sm)(r:right g=xk)id ks vs:Vl Sol.prog 47 [.fz,.own 97] [Yh g,.mp id ks vs]<|.an [Yh<|Ye g,XA id<|order g]:=by
 refine JQ Sol.func47 follows Z2 c47 Z2 ?_;simp[Mx];refine VW (Z5s p r id ks vs) ?_;simp;let⟨u,j,o⟩:=p;have a:=Jt r;have f:=a.len;generalize A:order g=l at a f;refine UG (λt=>∃i,i<=I l/\t=[.v<|Yh g,.v<|XA id l,.m [.sl<|g.nodes.map Yf,.sl<|g.E.map vi],.m [.sl [],.sl []],.m [.sl<|((l.take i).map<|SP g l).map Yf,.sl []],.v<|vi i,.v<|vi<|I l,.no,.no,.v<|.sl<|l.map vi]) (λt=>match get t 5 with|.v (.int _ n)=>I l-n.toNat|_=>0) ?_ ?_;exact⟨0,Z1,Z1⟩;rintro t ⟨i,z,rfl⟩;by_cases h:i<I l;have B:l[i]?=J l[i]:=Z1;let⟨y,D⟩:=a.2 _<|Zfq h;let⟨k,q⟩:=Zfi y;have d:k<I g.nodes:=Z0;let⟨x,C⟩:=o _<|Zfq d;simp[h,q,d];refine Zy (Ii x) Z1 ?_;simp;simp(disch:=omega) only[Zz];have w:V.agg [V.sl<|List.map vi<|We l g.nodes[k].M,V.sl<|List.map vu g.nodes[k].data]=Yf (SP g l l[i]):=by
  simp[SP,q,d,Yf]
 refine⟨by grind [Y8],by grind [Y8],⟨i+1,Z0,?_,Z1⟩,Z0⟩;simp_all[ZfZ];have:i=I l:=Z0;simp_all;refine Zy (Ii j) Z1 ?_;simp_all[Ye,Yh]
def Fd{g}(h:g.sm)(o:right g=xk):(Ye g).sm:=by
 let⟨j,k,l⟩:=h;have a:=Jt o;have d:=a.len;refine⟨by grind [Ye],by simp_all[Ye,We],λn f=> ?_⟩;simp[Ye]at f;obtain⟨x,p,rfl⟩:=f;let⟨q,r⟩:=a.2 x p;simp_all[Zfq,SP,We]
def Uv:Gr:=⟨[],[]⟩
def Vr(g:Gr):V:=if right g=xk then .an [Yh<|Ye g,vi 0]else .an [Yh Uv,vi 1]
def PJ{g}(a:g.sm):VC Sol.prog 17 xw [Yh g]<|Vr g:=by
 refine ZW Sol.func17 follows Z2 c17 rfl ?_;simp[Mg];refine Zy (NM a) Z1 ?_;cases d:right g;simp[Vr,d,Uv,Yh];simp;refine VW (Z1a a d 0 [] []) ?_;simp_all[Vr,Yh]
def r8{a b}(p:a.sm):VC Sol.prog 18 xw [Yh a,Yh b]<|.bool<|decide (a=b):=by
 refine ZW Sol.func18 follows Z2 c18 rfl ?_;let⟨r,l,o⟩:=p;simp[Mh];refine Zy (Hb l) Z1 ?_;by_cases j:a.E=b.E;simp[j];by_cases g:I a.nodes=I b.nodes;simp[g];refine UG (λt=>∃i,i<=I b.nodes/\a.nodes.take i=b.nodes.take i/\t=[.v<|Yh a,.v<|Yh b,.m [.sl<|a.nodes.map Yf,.sl<|a.E.map vi],.m [.sl<|b.nodes.map Yf,.sl<|b.E.map vi],.v<|.bool xw,.v<|.bool xk,.v<|.bool xw,.v<|vi i]) (λt=>match get t 7 with|.v (.int _ n)=>I b.nodes-n.toNat|_=>0) ?_ ?_;exact⟨0,Z1,Z1,by simp[j]⟩;rintro t ⟨i,u,heq,rfl⟩;by_cases h:i<I b.nodes;have k:i<I a.nodes:=Z0;let⟨q,z⟩:=o _<|Zfq k;simp[h,g];refine Zy (Hb q) Z1 ?_;simp[h,g];refine Zy (Jm Z0) Z1 ?_;by_cases f:a.nodes[i].M=b.nodes[i].M;by_cases d:a.nodes[i].data=b.nodes[i].data;simp;simp(disch:=omega) only[Zz];have w:a.nodes[i]=b.nodes[i]:=by
  generalize a.nodes[i]=x at f d;generalize b.nodes[i]=y at f d;cases x;cases y;simp at f d;simp[f,d]
 grind [Dv];simp;grind;simp;grind;have:i=I b.nodes:=Z0;subst this;rw[ZgD,Zg5 Z0]at heq;simp;cases a;simp_all;simp[show ¬((I a.nodes:Int)=(I b.nodes:Int))by omega];grind;simp;grind
end Vm
namespace Vm
open Go Go.Proofs
end Vm
end
section
namespace Vm
open Go Go.Proofs
def g0:Gr:=⟨[⟨[],[]⟩,⟨[],[4]⟩,⟨[1],[]⟩,⟨[],[]⟩],[2,0]⟩
def g1:Gr:=⟨[],[0]⟩
def g2:Gr:=⟨[],[-1,-1]⟩
end Vm
end
section

end
section
namespace Vm
open Go Go.Proofs
def outs(g:Gr)(x:Int):List Int:=((g.nodes[x.toNat]?).getD default).M
def Iq:∀(a:Z8) {d b:Z8},Yc d (a++b)=Yc (Yc d a) b
 | [],_,_=>rfl
 |x::a,d,b=>by simp only[Zgs,Yc];exact Iq a
def yS:∀(l:Z8) {acc:Z8},∃t,Yc acc l=acc++t
 | [],acc=>⟨[],by simp[Yc]⟩
 |x::l,acc=>by
  simp only[Yc];obtain⟨t,a⟩:=yS l (acc:=if 0<=x/\x∉acc then acc++[x]else acc);rw[a];split;exact⟨x::t,Z1⟩;exact⟨t,rfl⟩
def R9:∀ {l d:Z8} {x:Int},x∈Yc d l↔x∈d\/(x∈l/\0<=x)
 | [],d,x=>by simp[Yc]
 |y::l,d,x=>by
  simp only[Yc,R9 (l:=l),Zfz];split;rename_i h;simp only[Zfy,Zg2];constructor;rintro((a|rfl)|a);exact .inl a;exact .inr ⟨.inl rfl,h.1⟩;exact .inr ⟨.inr a.1,a.2⟩;rintro(a|⟨rfl|a,f⟩);exact .inl<|.inl a;exact .inl<|.inr rfl;exact .inr ⟨a,f⟩;rename_i h;constructor;rintro(a|a);exact .inl a;exact .inr ⟨.inr a.1,a.2⟩;rintro(a|⟨rfl|a,f⟩);exact .inl a;exact .inl (by by_cases g:x∈d;exact g;exact(h ⟨f,g⟩).elim);exact .inr ⟨a,f⟩
def KE{g:Gr}(f:right g=xk)(x:Int):∀y∈outs g x,-1<=y/\y<I g.nodes:=by
 intro y a;unfold outs at a;cases d:g.nodes[x.toNat]? with
 |none=>rw[d]at a;cases a
 |some n=>rw[d]at a;exact CS f n (Zfc d) y a
def IS{g:Gr}(n:right g=xk):∀ {f i:Nat} {l:Z8},Good (I g.nodes) l->i<=I l->I g.nodes<f+i->l=Yc [] (g.E++(l.take i).flatMap (outs g))->
  XE g f i l=Yc [] (g.E++(XE g f i l).flatMap (outs g))
 |0,i,l,j,p,o,a=>by have:=j.len;omega
 |f+1,i,l,j,p,o,a=>by
  simp only[XE];cases d:l[i]? with
  |none=>
   have:I l<=i:=Zek;rw[Zg5 this]at a;exact a
  |some x=>
   have q:i<I l:=by
    obtain h|h:=Zjp i<|I l;exact h;rw[Zg4 h]at d;cases d
   obtain⟨t,k⟩:=yS (outs g x) (acc:=l);refine IS n (Tx j λy r=>(KE n x y r).2) ?_ Z0 ?_;show i+1<=I (Yc l<|outs g x);rw[k,ZfN];omega;show Yc l (outs g x)=Yc [] (g.E++((Yc l<|outs g x).take<|i+1).flatMap (outs g));rw[k,Zij Z0,ZfZ,d,<-k];simp only[Zh3,Option.toList,<-ZfM];rw[Iq,<-a];simp
def BT{g:Gr}(a:right g=xk):order g=Yc [] (g.E++(order g).flatMap (outs g)):=by
 refine IS a (Tx ⟨List.nodup_nil,Z1⟩ λy d=>(Rn a y d).2) (Zga _) Z0 ?_;simp
end Vm
end
section
namespace Vm
open Go
open Go.Proofs
def Mk:Fn:=⟨10,[0,1,2,8,3,12,11,13,5,10],pQ [pR [(1,pS 0 2),pV 2<|pI 0],pQ [pC [pK 10 19 [.mm 1 0 2]] [pV 3<|.un .not<|.s 10]]<|pw (.s 3)<|px [pV 2<|pI 0],pR [pV 4<|pI 0],pQ [pR [pV 5<|pI 0,pV 6<|.len<|.m 1 0,pV 9<|.m 1 0]]<|po [0,1,2,3,4,5,6,9] 7 (pl (.s 5)<|.s 6) (pQ [pR [(8,pM (.bb (.ao (.s 9) (.s 5) 2) 0 2) 2)]]<|pR [pV 4<|pa (.s 4)<|pa (pa (pI 1)<|.len<|.m 8 0)<|.len<|.m 8 1])<|pc 5]<|px [pV 2<|.s 4],[(2,.v)]⟩
def c21:ZL Sol.prog fresh sig [.fz] [] Try.f21=J Mk:=Z2
end Vm
end
section
namespace Vm
open Go Go.Proofs
def Uu(n:Nd):Nat:=1+I n.M+I n.data
def XX(l:List Nd):Nat:=(l.map Uu).sum
def words(g:Gr):Nat:=if right g=xk then XX g.nodes else 0
def Z9x{l:List Nd}{i:Nat}{x:Nd}(h:l[i]?=J x):XX (l.take<|i+1)=XX (l.take i)+Uu x:=by
 unfold XX;rw[ZfZ,h,Zgg,Ziu];simp
def Z9v{l:List Nd}(h:∀n∈l,I n.M<=100000/\I n.data<=100000)(i:Nat):XX (l.take i)<=I l*200001:=by
 have:∀ {l:List Nd},(∀n∈l,I n.M<=100000/\I n.data<=100000)->XX l<=I l*200001:=by
  intro l;induction l with
  |nil=>intro _;simp[XX]
  |cons x l f=>
   intro h;have g:=f λn a=>h n (by simp[a]);have j:=h x Z1;have k:Uu x<=200001:=by unfold Uu;omega
   have d:XX (x::l)=Uu x+XX l:=by simp[XX]
   rw[d,Zgt,Zgo];omega
 refine ZfB (this λn a=>h n<|Zgf a)<|ZfK _ ?_;rw[Zg0];omega
def t9{g:Gr}(l:g.sm):VC Sol.prog 21 xw [Yh g]<|vi<|words g:=by
 refine ZW Sol.func21 follows Z2 c21 rfl ?_;simp[Mk];refine Zy (NM l) Z1 ?_;cases p:right g;simp[words,p];obtain⟨d,r,a⟩:=l;simp;refine UG (λt=>∃i:Nat,i<=I g.nodes/\t=[.v<|Yh g,.m [.sl<|g.nodes.map Yf,.sl<|g.E.map vi],.v<|vi 0,.v<|.bool xw,.v<|vi (XX (g.nodes.take i):Nat),.v<|vi i,.v<|vi<|I g.nodes,.no,.no,.v<|.sl<|g.nodes.map Yf]) (λt=>match get t 5 with|.v (.int _ n)=>I g.nodes-n.toNat|_=>0) ?_ ?_;exact⟨0,Z1,by simp[XX]⟩;rintro t ⟨i,B,rfl⟩;by_cases h:i<I g.nodes;have y:g.nodes[i]?=J g.nodes[i]:=Zf4 h;obtain⟨z,A⟩:=a _<|Zfq h;have q:=Z9x y;have u:=Z9v a<|i+1;have o:I g.nodes*200001<=100000*200001:=ZfK _ d;simp[h];generalize g.nodes[i]=x at*;have w:=Zz ((i:Int)+1) Z0 Z0;have f:=Zz (1+(I x.M:Int)) Z0 Z0;have j:=Zz (1+(I x.M:Int)+I x.data) Z0 Z0;unfold Uu at q;have k:=Zz ((XX (g.nodes.take i):Int)+(1+(I x.M:Int)+I x.data)) Z0 Z0;simp[w,f,j,k];exact⟨⟨i+1,Z0,by rw[q];omega,Z1⟩,Z0⟩;have:i=I g.nodes:=Z0;subst this;simp[words,p]
@[simp]theorem ZdF{α β:Type}{f:α->β}{l:List α}:(l.map f).take (I l)=l.map f:=Zg5 (by simp)
end Vm
namespace Vm
open Go Go.Proofs
def yT{f:Int->Int}:∀ {o l:List Int},(∀x∈Yc l o,∀y∈Yc l o,f x=f y->x=y)->(∀x∈Yc l o,0<=f x)->(∀x∈o,x<0->f x<0)->Yc (l.map f) (o.map f)=(Yc l o).map f
 | [],l,_,_,_=>rfl
 |y::o,l,d,g,k=>by
  simp only[ZfA,Yc];simp only[Yc]at d g;by_cases j:0<=y/\y∉l;rw[if_pos j]at d g⊢;have h:y∈Yc (l++[y]) o:=R9.2<|.inl Z1
  have a:0<=f y/\f y∉l.map f:=⟨g y h,λu=>by
   obtain⟨z,p,t⟩:=Zfj.1 u;have:=d z (R9.2<|.inl (by simp[p])) y h t;subst this;exact j.2 p⟩
  rw[if_pos a,show l.map f++[f y]=(l++[y]).map f by simp];exact yT d g λx n=>k x (by simp[n]);rw[if_neg j]at d g⊢;have a:¬(0<=f y/\f y∉l.map f):=by
   rintro⟨w,r⟩;by_cases q:0<=y;exact r<|Zfj.2 ⟨y,by by_cases h:y∈l;exact h;exact(j ⟨q,h⟩).elim,rfl⟩;have:=k y Z1 Z0;omega
  rw[if_neg a];exact yT d g λx n=>k x (by simp[n])
def BS{g:Gr}:∀ {F i:Nat} {l:List Int},∃t,XE g F i l=l++t
 |0,i,l=>⟨[],by simp[XE]⟩
 |F+1,i,l=>by
  simp only[XE];cases l[i]? with
  |none=>exact⟨[],Z1⟩
  |some x=>
   obtain⟨t,d⟩:=yS ((g.nodes[x.toNat]?).getD default).M (acc:=l);obtain⟨f,a⟩:=BS (g:=g) (F:=F) (i:=i+1) (l:=Yc l ((g.nodes[x.toNat]?).getD default).M);refine⟨t++f,?_⟩;show XE g F (i+1) (Yc l ((g.nodes[x.toNat]?).getD default).M)=_;rw[a,d,ZfM]
def BR{g:Gr}(d:right g=xk):∀ {F i:Nat} {l:List Int} (k:Nat),Good (I g.nodes) l->I g.nodes<F+i->XE g (F+k) i l=XE g F i l
 |0,i,l,k,a,f=>by
  have:=a.len;cases k with
  |zero=>rfl
  |succ k=>
   simp only[ZfQ,XE];rw[Zg4 Z0]
 |F+1,i,l,k,a,f=>by
  rw[show F+1+k=(F+k)+1 by omega];simp only[XE];cases j:l[i]? with
  |none=>rfl
  |some x=>
   exact BR d k (Tx a λy h=>(KE d x y h).2) Z0
def IR{g h:Gr}{f:Int->Int}(d:∀x∈order g,(h.nodes[(f x).toNat]?).map (·.M)=J ((outs g x).map f))(n:∀x∈order g,∀y∈outs g x,y<0->f y<0)(k:∀x∈order g,∀y∈order g,f x=f y->x=y)(o:∀x∈order g,0<=f x):
  ∀ {F i:Nat} {l:List Int},(∀x∈XE g F i l,x∈order g)->XE h F i (l.map f)=(XE g F i l).map f
 |0,i,l,_=>rfl
 |F+1,i,l,q=>by
  simp only[XE,Zfl];simp only[XE]at q;cases A:l[i]? with
  |none=>rfl
  |some x=>
   rw[A]at q;simp only[Zfn];simp only at q;have u:x∈order g:=by
    obtain⟨t,C⟩:=yS ((g.nodes[x.toNat]?).getD default).M (acc:=l);obtain⟨G,p⟩:=BS (g:=g) (F:=F) (i:=i+1) (l:=Yc l ((g.nodes[x.toNat]?).getD default).M);refine q x ?_;rw[p,C];simp[Zfc A]
   have r:=d x u;cases z:h.nodes[(f x).toNat]? with
   |none=>rw[z]at r;cases r
   |some H=>
    rw[z]at r;simp only[Zfn,Zf2]at r;simp only[Zfw,r];have j:∀y∈Yc l (outs g x),y∈order g:=λy D=>by
     obtain⟨G,p⟩:=BS (g:=g) (F:=F) (i:=i+1) (l:=Yc l<|outs g x);refine q y ?_;show y∈XE g F (i+1) (Yc l<|outs g x);rw[p];simp[D]
    rw[yT (λa w b B=>k a (j a w) b<|j b B) (λa w=>o a<|j a w)<|n x u];exact IR d n k o q
def Jc{g:Gr}(d:right g=xk){x:Int}(hx:x∈g.E)(a:0<=x):x∈order g:=by
 rw[BT d,R9];exact .inr ⟨by simp[hx],a⟩
def Hw{g:Gr}(d:right g=xk){x y:Int}(hx:x∈order g)(f:y∈outs g x)(a:0<=y):y∈order g:=by
 rw[BT d,R9];exact .inr ⟨ZgO _<|Zha.2 ⟨x,hx,f⟩,a⟩
def Z0c{L:List Int}{f:Int->Int}{p:Int}(d:∀x∈L,f x=f p->x=p):UN (L.map f) (f p)=UN L p:=by
 unfold UN;rw[List.findIdx?_map];have:L.findIdx? ((λx=>x==f p)∘f)=L.findIdx? (λx=>x==p):=by
  induction L with
  |nil=>rfl
  |cons a L k=>
   simp only[ZhT,Function.comp];have g:(f a==f p)=(a==p):=by
    rw[Ziq];simp only[ZfS];exact⟨d a Z1,λe=>by rw[e]⟩
   have h:=k λx j=>d x (by simp[j]);simp only[g];rw[h]
 rw[this]
def Z19{g h:Gr}(o:right g=xk)(L:right h=xk)(f:Int->Int)(P:f (-1)= -1)(q:∀x∈order g,∀y∈order g,f x=f y->x=y)(r:∀x∈order g,0<=f x)
  (n:h.E=g.E.map f) (k:∀x∈order g,h.nodes[(f x).toNat]?=J ⟨(outs g x).map f,((g.nodes[x.toNat]?).getD default).data⟩):
  order h=(order g).map f/\Ye h=Ye g:=by
 have z:∀x:Int,-1<=x->x<0->f x=x:=λx C D=>by
  have:x= -1:=Z0;subst this;exact P
 have w:∀x∈order g,(h.nodes[(f x).toNat]?).map (·.M)=J ((outs g x).map f):=λx a=>by rw[k x a];rfl
 have G:order h=(order g).map f:=by
  have t:Good (I g.nodes)<|Yc [] g.E:=Tx ⟨Z1,Z1⟩ λx a=>(Rn o x a).2;have u:Good (I h.nodes)<|Yc [] h.E:=Tx ⟨Z1,Z1⟩ λx a=>(Rn L x a).2;have C:=BR o (F:=I g.nodes+1) (i:=0) (I h.nodes) t Z0;have D:=BR L (F:=I h.nodes+1) (i:=0) (I g.nodes) u Z0;have M:=IR (f:=f) w (λx a y B d=>by rw[z y (KE o x y B).1 d];exact d) q r (F:=I g.nodes+1+I h.nodes) (i:=0) (l:=Yc [] g.E) (λx a=>by rw[C]at a;exact a);have N:Yc [] h.E=(Yc [] g.E).map f:=by
   rw[n];refine yT (l:=[]) (λx a y B=> ?_) (λx a=> ?_) (λx a d=> ?_);rw[R9]at a B;simp at a B;exact q x (Jc o a.1 a.2) y<|Jc o B.1 B.2;rw[R9]at a;simp at a;exact r x<|Jc o a.1 a.2;rw[z x (Rn o x a).1 d];exact d
  unfold order;rw[<-D,<-C,N,<-M];congr 1;omega
 refine⟨G,?_⟩;have j:∀H:List Int,(∀p∈H,-1<=p/\(0<=p->p∈order g))->We (order h) (H.map f)=We (order g) H:=by
  intro H K;unfold We;rw[Zh0];refine Zgr λp A=> ?_;obtain⟨C,D⟩:=K p A;simp only[Function.comp];by_cases d:0<=p;rw[if_pos<|r p<|D d,if_pos d,G];exact Z0c λx a O=>q x a p (D d) O;rw[z p C Z0];rw[if_neg d,if_neg d]
 unfold Ye;congr 1;rw[G,Zh0];refine Zgr λx a=> ?_;simp only[Function.comp,SP,k x a,Zfw];congr 1;rw[<-G];exact j _ λp A=>⟨(KE o x p A).1,λd=>Hw o a A d⟩;rw[n];exact j _ λp A=>⟨(Rn o p A).1,λd=>Jc o A d⟩
def Z0b{L:List Int}{x:Int}(h:x∈L):0<=UN L x/\UN L x<I L/\L[(UN L x).toNat]?=J x:=by
 unfold UN;cases f:L.findIdx? (· ==x)with
 |none=>exact(Ae.1 f h).elim
 |some i=>
  obtain⟨a,d,_⟩:=ZfT.1 f;simp only[ZfS]at d;refine⟨Z1,ZeS,?_⟩;simp[a,d]
def Z7a{g:Gr}(h:right g=xk):right (Ye g)=xk:=by
 have a:=Jt h;have k:∀r:List Int,(∀p∈r,-1<=p/\(0<=p->p∈order g))->∀q∈We (order g) r,Uq (Ye g).nodes.length q=xk:=by
  intro r o q z;obtain⟨p,d,rfl⟩:=Zfj.1 z;obtain⟨B,w⟩:=o p d;have y:(Ye g).nodes.length=I (order g):=by simp[Ye]
  rw[y];simp only[Uq,Zfv];split;rename_i j;have:=Z0b<|w j;omega;omega
 simp only[right,Zf6,Zfe,Zfv];have f:=h;simp only[right,Zf6,Zfe,Zfv]at f;refine⟨⟨by simpa[Ye,We]using f.1.1,λC n=> ?_⟩,k _ λp d=>⟨(Rn h p d).1,λj=>Jc h d j⟩⟩;simp only[Ye,Zfj]at n;obtain⟨x,u,rfl⟩:=n;have A:=a.2 x u;have l:x.toNat<I g.nodes:=Z0;have t:=f.1.2 _<|Zfq l;simp only[Sc,Zf6,Zfv,Zfe]at t⊢;refine⟨by simpa[SP,l,We]using t.1,?_⟩;exact k _ λp d=>⟨(KE h x p d).1,λj=>Hw h u d j⟩
end Vm
end
section

end
section
namespace Vm
open Go Go.Proofs
structure Fo where
 ob:Ob
 ad:Int
 sl:List Int
 deriving Inhabited
def Xg(f:Fo):V:=.agg [vi f.ob.Y,vi f.ob.size,vi f.ob.M,.bool f.ob.gone,vu f.ob.target,vu f.ad,.sl<|f.sl.map vu]
@[simp]theorem ZbW(f:Fo):(Xg f).cells=[vi f.ob.Y,vi f.ob.size,vi f.ob.M,.bool f.ob.gone,vu f.ob.target,vu f.ad,.sl<|f.sl.map vu]:=rfl
@[simp]theorem Zdw(f:Fo):Vz (Xg f) 7=J (Xg f):=rfl
@[simp]theorem ZbP(f:Fo):Um (Xg f) 0 7=J (Xg f):=rfl
@[simp]theorem Zb3(f:Fo):Y0 (Xg f) 0=J (vi f.ob.Y):=rfl
@[simp]theorem Zb4(f:Fo):Y0 (Xg f) 1=J (vi f.ob.size):=rfl
@[simp]theorem Zb5(f:Fo):Y0 (Xg f) 2=J (vi f.ob.M):=rfl
@[simp]theorem Zb6(f:Fo):Y0 (Xg f) 3=J (.bool f.ob.gone):=rfl
@[simp]theorem Zb7(f:Fo):Y0 (Xg f) 4=J (vu f.ob.target):=rfl
@[simp]theorem Zb8(f:Fo):Y0 (Xg f) 5=J (vu f.ad):=rfl
@[simp]theorem Zb9(f:Fo):Y0 (Xg f) 6=J (.sl<|f.sl.map vu):=rfl
@[simp]theorem Zdk(l:List Fo):Xq 7 (l.map Xg)=xk:=JL λ_=>rfl
structure Vw where
 ns:List Fo
 nm:List<|Int×Int
 tm:List<|Int×Int
 deriving Inhabited
def Vw.put(s:Vw)(f:Fo):Vw:=if f.ob.gone then {s with tm:=XO s.tm f.ad f.ob.target}else {s with ns:=s.ns++[f],nm:=XO s.nm f.ad (I s.ns)}
def Vw.cl(s:Vw)(w:Int):Int:=if w=0 then-1 else(Y2 s.nm<|(Y2 s.tm (adr w).1).getD (adr w).1).getD 0
def Vv(s:Vw)(f:Fo):Nd:=⟨(f.sl.take f.ob.M.toNat).map s.cl,f.sl.drop f.ob.M.toNat⟩
def Vw.gr(s:Vw)(a:Z8):Gr:=⟨s.ns.map<|Vv s,a.map s.cl⟩
def El(s:Vw){ws:Z8}(B:I ws<=1000000)(x:∀w∈ws,ZB w):
  Vl Sol.prog 43 [.fz,.mem [.fz],.mem [.fz]] [.sl<|ws.map vu,.agg [Yk vu s.tm],.agg [Yk vi s.nm]] (.an [.sl<|(ws.map s.cl).map vi,.agg [Yk vu s.tm],.agg [Yk vi s.nm]]):=by
 refine JQ Sol.func43 follows Z2 cTo Z2 ?_;simp[MQ];refine VV 5 (I ws) (λi=>[(4,.v<|.sl<|((ws.take i).map s.cl).map vi),(5,.v<|vi i)]) (λ_=>True) Z1 Z1 trivial ?_;intro i A _;by_cases h:i<I ws;have y:ws[i]?=J ws[i]:=Zf4 h;have r:=x _<|Zfq h;have o:=Zz ((i:Int)+1) Z0 Z0;have q:List.take (i+1) (List.map (vi∘s.cl) ws)=List.take i (List.map (vi∘s.cl) ws)++[vi<|s.cl ws[i]]:=by
  rw[ZfZ,Zfl,y];rfl
 have a:min i (I ws)+1<=Y8:=by unfold Y8;omega
 simp[h,o,q,a];split;simp_all[Vw.cl];rename_i p;refine Zy (K5 r) Z1 ?_;have j:=Qb (f:=vu) (l:=s.tm) (k:=(adr ws[i]).1) (z:=.int .u64 0) (ok:=xk);cases n:Y2 s.tm (adr ws[i]).1 with
 |none=>
  rw[n]at j;have d:=Qb (f:=vi) (l:=s.nm) (k:=(adr ws[i]).1) (z:=.int .i64 0) (ok:=xw);cases g:Y2 s.nm (adr ws[i]).1 with
  |none=>rw[g]at d;simp[j,d,Vw.cl,p,n,g,o,a]
  |some t=>rw[g]at d;simp[j,d,Vw.cl,p,n,g,o,a]
 |some u=>
  rw[n]at j;have d:=Qb (f:=vi) (l:=s.nm) (k:=u) (z:=.int .i64 0) (ok:=xw);cases g:Y2 s.nm u with
  |none=>rw[g]at d;simp[j,d,Vw.cl,p,n,g,o,a]
  |some t=>rw[g]at d;simp[j,d,Vw.cl,p,n,g,o,a]
 have:i=I ws:=Z0;simp_all
def Z6w{s:St}{st:Vw}{f:Fo}{N R:St->Prop}{X:Nat->St->Prop}(o:get s 6=.v (.sl<|st.ns.map Xg))(p:get s 7=.m [Yk vi st.nm])(q:get s 8=.m [Yk vu st.tm])(h:get s 12=.v (.an [Xg f,.bool xk]))(g:get s 10=.v (.bool xk))(u:I st.ns<=4000000)
  (r:∀a,get a 6=.v (.sl<|(st.put f).ns.map Xg)->get a 7=.m [Yk vi (st.put f).nm]->get a 8=.m [Yk vu (st.put f).tm]->get a 1=get s 1->get a 2=get s 2->get a 3=get s 3->N a):Yt Sol.prog rD s N X R:=by
 have j:=KX (f:=vu) (l:=st.tm) (k:=f.ad) (x:=f.ob.target);have n:=KX (f:=vi) (l:=st.nm) (k:=f.ad) (x:=(I st.ns:Int));have d:I st.ns+1<=Y8:=by unfold Y8;omega
 cases t:f.ob.gone;simp_all[rD,YY,Vw.put,Xg];simp_all[rD,YY,Vw.put]
def Z6v{s:St}{N R:St->Prop}{X:Nat->St->Prop}(a:get s 10=.v (.bool xw))(d:X 0 s):Yt Sol.prog rD s N X R:=by
 simp[rD,a,d]
structure Vw.sm (st:Vw) (roots:List Int):Prop where
 n:I st.ns<=100000
 f:∀f∈st.ns,0<=f.ob.M/\f.ob.M<=I f.sl/\I f.sl<=100000/\∀w∈f.sl,ZB w
 r:I roots<=100000/\∀w∈roots,ZB w
def Vw.sm.gr{st:Vw}{a:Z8}(h:st.sm a):(st.gr a).sm:=by
 refine⟨by simpa[Vw.gr]using h.n,by simpa[Vw.gr]using h.r.1,λn d=> ?_⟩;simp only[Vw.gr,Zfj]at d;obtain⟨f,g,rfl⟩:=d;obtain⟨_,_,j,_⟩:=h.f f g;grind [Vv,List.length_map,List.length_take,List.length_drop]
def Z6u{s:St}{st:Vw}{roots:Z8}{b c t y sc:V}{K L M O:V}{N R:St->Prop}{X:Nat->St->Prop}(k:st.sm roots)(x:get s 1=.m [b,c,t,y,sc,K,L,M,O,.sl<|roots.map vu])(o:get s 6=.v (.sl<|st.ns.map Xg))(z:get s 7=.m [Yk vi st.nm])(A:get s 8=.m [Yk vu st.tm])
  (a:∀D,Wv D [(2,.ag 2),(3,.v)]=J (Vr<|st.gr roots)->R D):Yt Sol.prog rC s N X R:=by
 simp[rC,o,YY];refine VV 16 (I st.ns) (λi=>[(15,.m [.sl<|((st.ns.take i).map<|Vv st).map Yf,.sl []]),(16,.v<|vi i)]) (λ_=>True) (by simp[YY]) (by simp[YY]) trivial ?_;intro i Q _;by_cases h:i<I st.ns;have G:st.ns[i]?=J st.ns[i]:=Zf4 h;obtain⟨H,T,p2,p3⟩:=k.f _<|Zfq h;have S:=k.n;obtain⟨P,B⟩:=Zfi H;have d:P<=st.ns[i].sl.length:=Z0;have u:=Zz ((i:Int)+1) Z0 Z0;have q:List.take (i+1) (List.map (Yf∘Vv st) st.ns)=List.take i (List.map (Yf∘Vv st) st.ns)++[Yf<|Vv st st.ns[i]]:=by
  rw[ZfZ,Zfl,G];rfl
 have l:=El st (ws:=st.ns[i].sl.take P) Ze9 λw u=>p3 w<|Zgf u;have j:min i (I st.ns)+1<=Y8:=by unfold Y8;omega
 simp[YY,h,x,o,z,A,B,Rq,d];rw[List.map_take]at l;refine VW l ?_;simp[YY,Qs,d,u,q,j,B,Vv,Yf];have:i=I st.ns:=Z0;subst this;simp[YY,x,o,z,A];refine VW (El st (ws:=roots) (by have:=k.r.1;omega) k.r.2) ?_;simp;have C:=PJ k.gr;simp only[Vw.gr,Yh,Zh0]at C;refine Zy C Z1 ?_;have F:Vr (st.gr roots)=Vr {nodes:=List.map (Vv st) st.ns,E:=List.map st.cl roots}:=rfl;rw[F]at a;generalize ({nodes:=List.map (Vv st) st.ns,E:=List.map st.cl roots}:Gr)=g at*;unfold Vr at a⊢;split;rename_i p;rw[if_pos p]at a;simp;refine a _ ?_;simp[Wv,Ub,TG,Yh];rename_i p;rw[if_neg p]at a;simp[Uv,Yh];refine a _ ?_;simp[Wv,Ub,TG,Uv,Yh]
end Vm
end
section
namespace Vm
open Go Go.Proofs Go.RowKit Go.Conc
def ES{t}(h:t.size=71):t=#[t.getD 0 undef,t.getD 1 undef,t.getD 2 undef,t.getD 3 undef,t.getD 4 undef,t.getD 5 undef,t.getD 6 undef,t.getD 7 undef,t.getD 8 undef,t.getD 9 undef,t.getD 10 undef,t.getD 11 undef,t.getD 12 undef,t.getD 13 undef,t.getD 14 undef,t.getD 15 undef,t.getD 16 undef,t.getD 17 undef,t.getD 18 undef,t.getD 19 undef,t.getD 20 undef,t.getD 21 undef,t.getD 22 undef,t.getD 23 undef,t.getD 24 undef,t.getD 25 undef,t.getD 26 undef,t.getD 27 undef,t.getD 28 undef,t.getD 29 undef,t.getD 30 undef,t.getD 31 undef,t.getD 32 undef,t.getD 33 undef,t.getD 34 undef,t.getD 35 undef,t.getD 36 undef,t.getD 37 undef,t.getD 38 undef,t.getD 39 undef,t.getD 40 undef,t.getD 41 undef,t.getD 42 undef,t.getD 43 undef,t.getD 44 undef,t.getD 45 undef,t.getD 46 undef,t.getD 47 undef,t.getD 48 undef,t.getD 49 undef,t.getD 50 undef,t.getD 51 undef,t.getD 52 undef,t.getD 53 undef,t.getD 54 undef,t.getD 55 undef,t.getD 56 undef,t.getD 57 undef,t.getD 58 undef,t.getD 59 undef,t.getD 60 undef,t.getD 61 undef,t.getD 62 undef,t.getD 63 undef,t.getD 64 undef,t.getD 65 undef,t.getD 66 undef,t.getD 67 undef,t.getD 68 undef,t.getD 69 undef,t.getD 70 undef]:=by
 refine ZhH Z0 λi f d=> ?_;have a:i<71:=Zek;have e:t[i]=t.getD i undef:=by simp[Array.getD,f]
 rw[e]
 revert d
 match i,a with
 |0,_=>simp
 |1,_=>simp
 |2,_=>simp
 |3,_=>simp
 |4,_=>simp
 |5,_=>simp
 |6,_=>simp
 |7,_=>simp
 |8,_=>simp
 |9,_=>simp
 |10,_=>simp
 |11,_=>simp
 |12,_=>simp
 |13,_=>simp
 |14,_=>simp
 |15,_=>simp
 |16,_=>simp
 |17,_=>simp
 |18,_=>simp
 |19,_=>simp
 |20,_=>simp
 |21,_=>simp
 |22,_=>simp
 |23,_=>simp
 |24,_=>simp
 |25,_=>simp
 |26,_=>simp
 |27,_=>simp
 |28,_=>simp
 |29,_=>simp
 |30,_=>simp
 |31,_=>simp
 |32,_=>simp
 |33,_=>simp
 |34,_=>simp
 |35,_=>simp
 |36,_=>simp
 |37,_=>simp
 |38,_=>simp
 |39,_=>simp
 |40,_=>simp
 |41,_=>simp
 |42,_=>simp
 |43,_=>simp
 |44,_=>simp
 |45,_=>simp
 |46,_=>simp
 |47,_=>simp
 |48,_=>simp
 |49,_=>simp
 |50,_=>simp
 |51,_=>simp
 |52,_=>simp
 |53,_=>simp
 |54,_=>simp
 |55,_=>simp
 |56,_=>simp
 |57,_=>simp
 |58,_=>simp
 |59,_=>simp
 |60,_=>simp
 |61,_=>simp
 |62,_=>simp
 |63,_=>simp
 |64,_=>simp
 |65,_=>simp
 |66,_=>simp
 |67,_=>simp
 |68,_=>simp
 |69,_=>simp
 |70,_=>simp
 |i+71,h=>omega
def Rr(v:Zf)(a n:Nat):Value:=match v with
 |.slice (J ⟨b,o,q⟩) _ c=>.slice (J<|if c=a then⟨b,o,q⟩else⟨b,o+a,q⟩) n<|c-a
 |v=>v
def Un(h:Hp)(x:Z6)(p:Nat)(o:Ob):Value:=.agg #[.int .i64 o.Y,.int .i64 o.size,.int .i64 o.M,.bool o.gone,.int .u64 o.target,.int .u64 (Y5 (Zu h) ((p:Int)+1) o.Y).1,Rr (x p) (o.Y+1).toNat o.size.toNat]
def obP(h:Hp)(p:Nat):List Ob:=(Uw h<|(p:Int)+1).1
def Ws(h:Hp)(x:Z6):Nat->Nat->List Value
 |0,_=>[]
 |n+1,p=>(obP h p).map (Un h x p)++Ws h x n (p+1)
noncomputable def seC:Code:=match Try.f42.body with|some c=>c|none=>.skip
noncomputable def clOps:Array Oper:=Lb<|Yo seC [1,1,1]
def DY(c:Nat)(b:Zg)(d:Z7)(fr:Zg)(cs:Z7)(w:Z3):Prop:=cs=d/\∃a,fr=b.at a [.inRegion clOps [1]]/\a.tmps[70]?=J (.chan<|J c)/\a.defers=[]
def Z6A{w G h x}(d:∀j,j<5->Rd w G (.sl<|(Zv h j).map vu) (x j)):Rd w G (ZK h)<|ZN h x:=by
 refine .agg _ _ rfl Z1 ?_;intro i y a
 match i,a with
 |0,a=>cases a;exact .int _ _
 |1,a=>cases a;exact .int _ _
 |2,a=>cases a;exact .int _ _
 |3,a=>cases a;exact .bool _
 |4,a=>cases a;exact .int _ _
 |5,a=>cases a;exact d 0 Z0
 |6,a=>cases a;exact d 1 Z0
 |7,a=>cases a;exact d 2 Z0
 |8,a=>cases a;exact d 3 Z0
 |9,a=>cases a;exact d 4 Z0
def PZ{w G h}(u:h.ok){x}(t:∀b,G b->b<xz (xj w))(z:∀j,j<5->Rd w G (.sl<|(Zv h j).map vu) (x j))p:
  Calls Sol.prog 27 #[ZN h x,.int .i64 p] w λe f=>∃s,e=.returned (.tuple #[s,.int .i64 (Uw h p).2])/\Below (xz<|xj w) w f/\Rd f (λb=>b<xz (xj f)) (.sl<|(Uw h p).1.map ZQ) s:=by
 refine Zi6 ((PF u (k:=p)).2 w G _ t rfl ?_) ?_;intro i y d
 match i,d with
 |0,d=>cases d;exact Z6A z
 |1,d=>cases d;exact .int _ _
 rintro e f ⟨v,rfl,o,A⟩;cases A with
 |an _ vs l n=>
  have r:=n 0 _ rfl;have g:=Sj<|n 1 _ rfl;simp[Zgc]at l;refine⟨vs.getD 0 undef,?_,o,r.mono λb a=> ?_⟩;congr 2;refine ZhH (by simpa using l) λi q B=> ?_;have:i=0\/i=1:=by simp at B;omega
  obtain rfl|rfl:=this;simp[q];simp[q]at g;simpa using g;obtain⟨_,a⟩|a:=a;exact Zfb Ze8 o.size;exact a.2
def u71 a b:(#[a,b]:Array Value)++Array.replicate (71- (#[a,b]:Array Value).size) undef=#[a,b,undef,undef,undef,undef,undef,undef,undef,undef,undef,undef,undef,undef,undef,undef,undef,undef,undef,undef,undef,undef,undef,undef,undef,undef,undef,undef,undef,undef,undef,undef,undef,undef,undef,undef,undef,undef,undef,undef,undef,undef,undef,undef,undef,undef,undef,undef,undef,undef,undef,undef,undef,undef,undef,undef,undef,undef,undef,undef,undef,undef,undef,undef,undef,undef,undef,undef,undef,undef,undef]:=Z2
structure SSt (w:World) (h:Hp) (x:Nat->Value) (b4:Nat) (W:World):Prop where
 ft:Below (xz<|xj w) w W
 c2:W.heap[xz<|xj w]?=J (.cells #[.int .u64 h.base,.int .i64 h.cap,.int .i64 h.to,.bool h.Z,.int .i64 h.aa,x 0,x 1,x 2,x 3,x 4] 37 (0,0))
 c4:W.heap[b4]?=J (.cells #[.int .u64 h.base,.int .i64 h.cap,.int .i64 h.to,.int .i64<|I h.H,.int .i64<|I h.ac,.int .i64<|I h.ah,.int .i64<|I h.aj] 69 (0,0))
def SSt.below{w W d h x f}(s:SSt w h x f W)(a:Below (xz<|xj W) W d):SSt w h x f d:=
 ⟨s.ft.trans<|a.mono s.ft.size,(a.block _<|Yv s.c2).trans s.c2,(a.block _<|Yv s.c4).trans s.c4⟩
def Lu{W G}{l:Z8}{y}(h:Rd W G (.sl<|l.map vu) y):∃a c,y=.slice a (I l) c:=by
 generalize f:l.map vu=L at h;have j:I L=I l:=by rw[<-f,ZfC]
 cases h with
 |nil a c d=>simp_all
 |sl _ b o cap k vs d g=>simp_all
def Z7B{P W T f}(p:P.underlying T=J (.slice f))(q:(Go.sizeOf f).run P W=.ok 1 W){b o len cap:Nat}{d a:Int}(g:0<=d)(h2:d<=a)(r:a<=cap):
  (Instr.slice T (.slice (J ⟨b,o,U⟩) len cap) (J<|.int .i64 d) (J<|.int .i64 a) U).run P W=.ok (Rr (.slice (J ⟨b,o,U⟩) len cap) d.toNat (a-d).toNat) W:=by
 obtain⟨l,rfl⟩:=Zfi g;obtain⟨k,rfl⟩:=Zfi (Z0:0<=a);have h:l<=k:=Z0;have j:k<=cap:=Z0;have n:(k- (l:Int)).toNat=k-l:=Z0;simp[Instr.slice,Instr.sliceBounds,Instr.sliceBound,asIntOf,ZfP p,q,h,j,n,Rr,Addr.add];grind
def Z6H{W G}{l:Z8}{y}(h:Rd W G (.sl<|l.map vu) y)(f:0<I l){a n k}(e:y=.slice a n k):∃b o,a=J ⟨b,o,U⟩/\I l<=k/\k<=maxLen:=by
 generalize j:l.map vu=L at h;cases h with
 |nil a c d=>simp_all
 |sl _ b o cap p vs d g=>grind
def Z6E{W G}{l:Zh}{y}(h:Rd W G (.sl<|l.map ZQ) y):∃a c,y=.slice a (I l) c:=by
 generalize f:l.map ZQ=L at h;have j:I L=I l:=by rw[<-f,ZfC]
 cases h with
 |nil a c d=>simp_all
 |sl _ b o cap k vs d g=>simp_all
def O4:Try.f42.body=J seC:=Z2
def Z4a{Q c Post es}{fn:Func}{code d a}{b:Zg}{w cs}(f:fn.body=J code)(h2:fn.body=J d)(h:LS Q c Post es (b.at a [.code code]) cs w):LS Q c Post es (b.at a [.code d]) cs w:=by
 simp_all
def Z7R b b7 w h(hh:h.ok)x c G(hG:∀b,G b->b<xz (xj w))(Z:∀j,j<5->Rd w G (.sl<|(Zv h j).map vu) (x j))
  (c8:∀p,p<4->I (obP h p)<=1000000/\∀o∈obP h p,0<=o.Y/\0<=o.size/\o.Y+1+o.size<=I (Zv h p)):
  LS Sol.prog c (DY c b b7) ((Ws h x 4 0).map .send) (b.at {tmps:=#[ZN h x,.chan<|J c]++Array.replicate (71- (#[ZN h x,.chan<|J c]:Array Value).size) undef,defers:=[]} [.code seC]) b7 w:=by
 obtain⟨P,k0,e0⟩:=Lu<|Z 0 Z0;obtain⟨Q,k1,e1⟩:=Lu<|Z 1 Z0;obtain⟨R,k2,e2⟩:=Lu<|Z 2 Z0;obtain⟨S,k3,e3⟩:=Lu<|Z 3 Z0;have A:=Zfa<|And.intro e0<|And.intro e1<|And.intro e2 e3;have HL:∀W,Below (xz<|xj w) w W->Calls Sol.prog 64 #[ZN h x] W λe w'=>e=.returned (Sb<|Zu h)/\Below (xz<|xj W) W w':=λW N=>
  jx (G:=G) (λb hb=>Zfb Ze8 N.size) λj hj=>(Z j hj).keep (λb hb=>N.block b Ze8) λ_ q=>q
 have HO:∀W,Below (xz<|xj w) w W->∀p,Calls Sol.prog 27 #[ZN h x,.int .i64 p] W λe w'=>∃s,e=.returned (.tuple #[s,.int .i64 (Uw h p).2])/\Below (xz<|xj W) W w'/\Rd w' (λb=>b<xz (xj w')) (.sl<|(Uw h p).1.map ZQ) s:=λW N p=>
  PZ hh (G:=G) (λb hb=>Zfb Ze8 N.size) (λj hj=>(Z j hj).keep (λb hb=>N.block b Ze8) λ_ q=>q) p
 unfold ZN at HL HO;rw[e0,e1,e2,e3]at HL HO;have HL:=Zfa HL;have HO:=Zfa HO;have HF:=Zfa<|And.intro hG Z;have HB:=Zfa c8;clear hG Z c8;unfold ZN;rw[e0,e1,e2,e3];refine Z4a (fn:=Try.f42) rfl O4 ?_;rw[u71];refine LS.cy (LS.dn λK u=> ?_);go_wp2;obtain⟨w2,z⟩:∃w2,w2=w.alloc (.cells #[.int .u64 h.base,.int .i64 h.cap,.int .i64 h.to,.bool h.Z,.int .i64 h.aa,.slice P (I<|Zv h 0) k0,.slice Q (I<|Zv h 1) k1,.slice R (I<|Zv h 2) k2,.slice S (I<|Zv h 3) k3,x 4] 37):=⟨_,rfl⟩;rw[<-z];have b2:w2.heap[xz<|xj w]?=J (.cells #[.int .u64 h.base,.int .i64 h.cap,.int .i64 h.to,.bool h.Z,.int .i64 h.aa,.slice P (I<|Zv h 0) k0,.slice Q (I<|Zv h 1) k1,.slice R (I<|Zv h 2) k2,.slice S (I<|Zv h 3) k3,x 4] 37 (0,0)):=by rw[z];exact ZfG ..
 have z2:xz (xj w2)=xz (xj w)+1:=by rw[z];simp
 have q2:Below (xz<|xj w) w w2:=by rw[z];exact(Zfr _ _).alloc Z0 _
 clear z;have y2:∀j,w2.cell? ⟨xz<|xj w,j,U⟩=(#[.int .u64 h.base,.int .i64 h.cap,.int .i64 h.to,.bool h.Z,.int .i64 h.aa,.slice P (I<|Zv h 0) k0,.slice Q (I<|Zv h 1) k1,.slice R (I<|Zv h 2) k2,.slice S (I<|Zv h 3) k3,x 4]:Array Value)[j]? :=λj=>Zfg _ _ _ _ _ _ b2;have d:=Zfa<|And.intro b2<|And.intro z2 q2;clear b2 z2 q2;refine LS.cy (LS.dn λK u=> ?_)
 go_wp2_with (first
  |(go_at_call 64;refine(HL.out _ d.out.2.2).mono ?_;rintro e w3 ⟨rfl,b9⟩;unfold Sb Zu;dsimp only;have L:=Zfa b9;clear b9))
 obtain⟨W,N⟩:∃W,W=w3.alloc (.cells #[.int .u64 h.base,.int .i64 h.cap,.int .i64 h.to,.int .i64<|I h.H,.int .i64<|I h.ac,.int .i64<|I h.ah,.int .i64<|I h.aj] 69):=⟨_,rfl⟩;obtain⟨T,a8⟩:∃T,T=xz (xj w3):=⟨_,rfl⟩;rw[<-N,<-a8];have f:SSt w h x T W:=by
  have hz:=L.out.size;rw[N,a8];exact⟨(d.out.2.2.trans<|L.out.mono d.out.2.2.size).alloc (by have:=d.out.2.2.size;omega) _,by rw[Zfp _ _ _ (by have:=Yv d.out.1;omega)];rw[e0,e1,e2,e3];exact(L.out.block _<|Yv d.out.1).trans d.out.1,ZfG ..⟩
 clear N a8 L d y2 e0 e1 e2 e3;have y2:∀j,W.cell? ⟨xz<|xj w,j,U⟩=(#[.int .u64 h.base,.int .i64 h.cap,.int .i64 h.to,.bool h.Z,.int .i64 h.aa,.slice P (I<|Zv h 0) k0,.slice Q (I<|Zv h 1) k1,.slice R (I<|Zv h 2) k2,.slice S (I<|Zv h 3) k3,x 4]:Array Value)[j]? :=λj=>Zeu;refine LS.cy<|LS.cy (LS.dn λK u=> ?_);go_wp2
 refine LS.block (LS.ox (λn es a W=>∃(p:Nat) (t:Zd),p+n=4/\es=(Ws h x n p).map .send/\a=⟨t,[]⟩/\t.size=71/\t.getD 1 undef=.chan (J c)/\t.getD 2 undef=.pointer (J ⟨xz<|xj w,0,U⟩)/\t.getD 4 undef=.pointer (J ⟨T,0,U⟩)/\
  t.getD 24 undef=.agg #[.slice P (I<|Zv h 0) k0,.slice Q (I<|Zv h 1) k1,.slice R (I<|Zv h 2) k2,.slice S (I<|Zv h 3) k3]/\t.getD 25 undef=.int .i64 p/\SSt w h x T W) (n:=4) ⟨0,_,rfl,rfl,rfl,rfl,rfl,rfl,rfl,rfl,rfl,f⟩ ?_)
 clear f y2 W;rintro n es a W ⟨p,t,hp,rfl,rfl,D,t1,t2,t4,F,H,f⟩ ih;have IH:=Zfa ih;clear ih;rw[ES D,t1,t2,t4,F,H];obtain⟨g,hg⟩:∃g:Z6,∀i,t.getD i undef=g i:=⟨_,λ_=>rfl⟩;simp only[hg];clear hg t1 t2 t4 F H D t;have y2:∀j,W.cell? ⟨xz<|xj w,j,U⟩=(#[.int .u64 h.base,.int .i64 h.cap,.int .i64 h.to,.bool h.Z,.int .i64 h.aa,.slice P (I<|Zv h 0) k0,.slice Q (I<|Zv h 1) k1,.slice R (I<|Zv h 2) k2,.slice S (I<|Zv h 3) k3,x 4]:Array Value)[j]? :=λj=>Zeu;cases n with
 |zero=>
  have d5:((p:Int)<4)=False:=ZiS Z0;refine LS.cy (LS.dn λK u=> ?_);go_wp2;refine LS.cy<|LS.oj rfl<|LS.exit rfl<|LS.region ?_;refine LS.value (i:=0) (l:=[1]) rfl rfl rfl ?_;exact LS.ip ⟨rfl,_,rfl,rfl,rfl⟩
 |succ n=>
  have d5:((p:Int)<4)=True:=Zi1 Z0;have f4:p<4:=Z0;refine LS.cy (LS.dn λK u=> ?_);go_wp2;refine LS.cy<|LS.om rfl<|LS.skip<|LS.cy<|LS.block<|LS.cy (LS.dn λK u=> ?_);obtain⟨ap,kp,ep⟩:=Lu<|HF.out.2 p Z0;have c7:∀W,(Instr.index 135 (.agg #[.slice P (I<|Zv h 0) k0,.slice Q (I<|Zv h 1) k1,.slice R (I<|Zv h 2) k2,.slice S (I<|Zv h 3) k3])<|.int .i64 (p:Int)).run Sol.prog W=.ok (.slice ap (I<|Zv h p) kp) W:=by
   intro W;have hT:Sol.prog.underlying 135=J (.array 4 35):=Z2;have:p=0\/p=1\/p=2\/p=3:=Z0;rw[<-ep];obtain rfl|rfl|rfl|rfl:=this;rw[A.out.1];rfl;rw[A.out.2.1];rfl;rw[A.out.2.2.1];rfl;rw[A.out.2.2.2];rfl
  have EP:=Zfa ep;clear ep;go_wp2;clear c7;have b6:=Zz ((p:Int)+1) Z0 Z0;refine LS.cy (LS.dn λK u=> ?_);go_wp2;have d:=Zfa f;clear f;refine LS.cy (LS.dn λK u=> ?_)
  go_wp2_with (first
   |(go_at_call 27;refine(HO.out _ d.out.ft _).mono ?_;rintro e W5 ⟨s5,rfl,c0,r⟩;obtain⟨a5,k5,rfl⟩:=Z6E r;have a4:=Zfa<|And.intro c0 r;clear c0 r))
  refine LS.cy (LS.dn λK u=> ?_);go_wp2;have f:=d.out.below a4.out.1;have r:=a4.out.2;clear d a4 y2 W d5;rename_i W5;rw[show(Uw h<|(p:Int)+1).1=obP h p from rfl]at r⊢;have Y:=Z53 r λb hb=>hb;obtain⟨f3,d0⟩:=HB.out p f4;have c6:Ws h x (n+1) p=(obP h p).map (Un h x p)++Ws h x n (p+1):=rfl;rw[c6];clear c6 r;have HX:=Zfa<|And.intro Y<|And.intro f3 d0;clear Y d0
  refine LS.block (LS.ox (λm es a W=>∃(i:Nat) (t:Zd),i+m=I (obP h p)/\es=(((obP h p).drop i).map (Un h x p)++Ws h x n (p+1)).map .send/\a=⟨t,[]⟩/\t.size=71/\t.getD 1 undef=.chan (J c)/\t.getD 2 undef=.pointer (J ⟨xz<|xj w,0,U⟩)/\t.getD 4 undef=.pointer (J ⟨T,0,U⟩)/\
   t.getD 6 undef=.slice ap (I<|Zv h p) kp/\t.getD 7 undef=.int .i64 ((p:Int)+1)/\t.getD 24 undef=.agg #[.slice P (I<|Zv h 0) k0,.slice Q (I<|Zv h 1) k1,.slice R (I<|Zv h 2) k2,.slice S (I<|Zv h 3) k3]/\t.getD 25 undef=.int .i64 p/\t.getD 37 undef=.slice a5 (I<|obP h p) k5/\t.getD 38 undef=.int .i64 (I<|obP h p)/\t.getD 39 undef=.int .i64 i/\
   SSt w h x T W/\Below (xz<|xj W5) W5 W) (n:=I<|obP h p) ⟨0,_,Z0,rfl,rfl,rfl,rfl,rfl,rfl,rfl,rfl,rfl,rfl,rfl,rfl,rfl,f,Zfr _ _⟩ ?_)
  clear f g b6;rintro m es a W ⟨i,t,hi,rfl,rfl,D,t1,t2,t4,t6,t7,F,H,e4,e7,e8,f,k⟩ ih;have f0:=Zfa ih;clear ih;rw[ES D,t1,t2,t4,t6,t7,F,H,e4,e7,e8];obtain⟨g,hg⟩:∃g:Z6,∀i,t.getD i undef=g i:=⟨_,λ_=>rfl⟩;simp only[hg];clear hg t1 t2 t4 t6 t7 F H e4 e7 e8 D t;cases m with
  |zero=>
   have b3:((i:Int)< (I (obP h p):Int))=False:=ZiS Z0;refine LS.cy (LS.dn λK u=> ?_);go_wp2;refine LS.cy<|LS.oj rfl<|LS.exit rfl<|LS.inBlock ?_;have b6:=Zz ((p:Int)+1) Z0 Z0;have C:(obP h p).drop i=[]:=Zi3 Z0;rw[C];clear C b3;refine LS.dn λK u=> ?_;go_wp2;exact IH.out n _ _ _ Z0 ⟨p+1,_,Z0,rfl,rfl,rfl,rfl,rfl,rfl,rfl,Z1,f⟩
  |succ m=>
   have b5:i< I (obP h p):=Z0;obtain⟨o,ho⟩:∃o,(obP h p)[i]?=J o:=⟨_,Zf4 b5⟩;have b3:((i:Int)< (I (obP h p):Int))=True:=Zi1 Z0;obtain⟨g5,o5,f5,e5,c5,g3,f2,B⟩|⟨a9,c9,e9,f1⟩:=HX.out.1;case inr=>rw[f1]at b5;simp at b5
   injection e5 with e5 _ e6;subst e5;subst e6;obtain⟨v0,v1,v2,v3,v4⟩:=B i o ho;have y:=k.block _ f2;have y0:W.cell? ⟨g5,o5+i*5,U⟩=J (.int .i64 o.Y):=by rw[ZfX y];exact v0
   have y1:W.cell? ⟨g5,o5+i*5+1,U⟩=J (.int .i64 o.size):=by rw[ZfX y];exact v1
   have y2:W.cell? ⟨g5,o5+i*5+2,U⟩=J (.int .i64 o.M):=by rw[ZfX y];exact v2
   have y3:W.cell? ⟨g5,o5+i*5+3,U⟩=J (.bool o.gone):=by rw[ZfX y];exact v3
   have y4:W.cell? ⟨g5,o5+i*5+4,U⟩=J (.int .u64 o.target):=by rw[ZfX y];exact v4
   clear v0 v1 v2 v3 v4 y B;have HC:=Zfa c5;clear c5;refine LS.cy (LS.dn λK u=> ?_);go_wp2;refine LS.cy<|LS.om rfl<|LS.skip<|LS.cy<|LS.block<|LS.cy (LS.dn λK u=> ?_);go_wp2;obtain⟨W6,O⟩:∃W6,W6=W.alloc (.cells #[.int .i64 o.Y,.int .i64 o.size,.int .i64 o.M,.bool o.gone,.int .u64 o.target] 59):=⟨_,rfl⟩;obtain⟨X,b1⟩:∃X,X=xz (xj W):=⟨_,rfl⟩;rw[<-O,<-b1];have b0:Below (xz<|xj W) W W6:=by rw[O];exact(Zfr _ _).alloc Z0 _
   have q6:W6.heap[X]?=J (.cells #[.int .i64 o.Y,.int .i64 o.size,.int .i64 o.M,.bool o.gone,.int .u64 o.target] 59 (0,0)):=by rw[O,b1];exact ZfG ..
   have a6:=f.below b0;have b8:=k.trans<|b0.mono k.size;clear O b1 b0 f k y0 y1 y2 y3 y4 W;have z4:∀j,W6.cell? ⟨T,j,U⟩=(#[.int .u64 h.base,.int .i64 h.cap,.int .i64 h.to,.int .i64<|I h.H,.int .i64<|I h.ac,.int .i64<|I h.ah,.int .i64<|I h.aj]:Array Value)[j]? :=λj=>Zfg _ _ _ _ _ _ a6.c4;have zo:∀j,W6.cell? ⟨X,j,U⟩=(#[.int .i64 o.Y,.int .i64 o.size,.int .i64 o.M,.bool o.gone,.int .u64 o.target]:Array Value)[j]? :=λj=>Zfg _ _ _ _ _ _ q6;have d:=Zfa<|And.intro a6<|And.intro b8 q6;clear a6 b8 q6;have HA:=Zfa λW=>Et hh.bf ((p:Int)+1) o.Y W;unfold Sb Zu at HA;dsimp only at HA;refine LS.cy (LS.dn λK u=> ?_)
   go_wp2_with (first
    |(go_at_call 75;refine(HA.out _).mono ?_;rintro e W7 ⟨rfl,c1⟩;have M:=Zfa c1;clear c1))
   have f:=d.out.1.below M.out;have k:=d.out.2.1.trans<|M.out.mono d.out.2.1.size;have q7:=(M.out.block _<|Yv d.out.2.2).trans d.out.2.2;clear z4 zo d M HA;rename_i W7;clear W6;obtain⟨f6,g8,f9⟩:=HX.out.2.2 o<|Zfc ho;have d6:0< I (Zv h p):=Z0;obtain⟨bw,ow,ew,f7,g4⟩:=Z6H (HF.out.2 p Z0) d6 EP.out;subst ew;have C:(obP h p).drop i=o::(obP h p).drop (i+1):=by
    obtain⟨h1,rfl⟩:=Zf3.1 ho;exact Zg7 h1
   rw[C];rw[show(((o::(obP h p).drop (i+1)).map (Un h x p)++Ws h x n (p+1)).map Ev.send)=.send (Un h x p o)::(((obP h p).drop<|i+1).map (Un h x p)++Ws h x n (p+1)).map .send from rfl];clear C ho b3;have zo:∀j,W7.drew.cell? ⟨X,j,U⟩=(#[.int .i64 o.Y,.int .i64 o.size,.int .i64 o.M,.bool o.gone,.int .u64 o.target]:Array Value)[j]? :=λj=>Zfg _ _ _ _ _ _ (show W7.drew.heap[X]?=_ from q7);have f8:=Jf hh p;have b6:=Zz (o.Y+1) Z0 Z0;have z:=Zz (o.Y+1+o.size) Z0 Z0;have d7:(0:Int)<=o.Y+1:=Z0;have d8:o.Y+1<=o.Y+1+o.size:=Z0;have d9:o.Y+1+o.size<=(kp:Int):=Z0;obtain⟨av,nv,cv,a7⟩:∃av nv cv,.slice av nv cv=Rr (x p) (o.Y+1).toNat o.size.toNat:=by rw[EP.out];exact⟨_,_,_,rfl⟩
   have g6:∀W,(Instr.slice 35 (.slice (J ⟨bw,ow,U⟩) (I<|Zv h p) kp) (J<|.int .i64<|o.Y+1) (J<|.int .i64<|o.Y+1+o.size) U).run Sol.prog W=.ok (.slice av nv cv) W:=by
    intro W;have hT:Sol.prog.underlying 35=J (.slice 24):=Z2;rw[a7,EP.out,Z7B hT Z1 d7 d8 d9,show o.Y+1+o.size- (o.Y+1)=o.size by omega]
   clear d7 d8 d9 zo;have zo:∀j,W7.drew.cell? ⟨X,j,U⟩=(#[.int .i64 o.Y,.int .i64 o.size,.int .i64 o.M,.bool o.gone,.int .u64 o.target]:Array Value)[j]? :=λj=>Zfg _ _ _ _ _ _ (show W7.drew.heap[X]?=_ from q7);have HV:=Zfa a7;clear a7;have d:=Zfa<|And.intro f k;clear f k q7;refine LS.send (n:=16) follows Z2 rfl rfl rfl rfl rfl rfl ?_;simp only[Ziv,List.take_zero];change wpStill Sol.prog _ W7.drew _ _ _;repeat still_step
   refine wpStill_nil ⟨rfl,?_,?_⟩;unfold Un;rw[<-HV.out];rfl
   .refine LS.inBlock ?_;have g7:=Zz ((i:Int)+1) Z0 Z0;refine LS.dn λK u=> ?_;go_wp2;exact f0.out m _ _ _ Z0 ⟨i+1,_,Z0,rfl,rfl,rfl,rfl,rfl,rfl,rfl,rfl,rfl,rfl,rfl,rfl,Z1,SSt.below d.out.1 (Zfr _ _).drew,d.out.2.drew⟩
end Vm
end
section
namespace Vm
open Go Go.Proofs Go.Conc
open Go.RowKit (Below)
section
section
variable {c:Ctx}{B:Nat}{G Kf:Z4}{s:St}{a:Act}{w w0:Z3}{h:GH}{S:SS}{n0:Nat}{fix:Za}{T0:Zd}{t:Nat}{v:Zf}{x:V}
def WK{p}(d:p≠t):(a.put (J t) v).tmps[p]?=a.tmps[p]? :=by
 simp[Act.put,ZgQ d]
def RJ(d:t<a.tmps.size):(a.put (J t) v).tmps[t]?=J v:=by
 simp[Act.put,d]
theorem SJ:(a.put (J t) v).tmps.size=a.tmps.size:=by simp[Act.put]
theorem Z71{p k u a d}(f:RelK c.P B s w h a p u<|QT c p k):RelK c.P B s w h d p u<|QT c p k:=by
 cases k<;>exact f
def RelG.set(j:RelG c B G s a w h<|Yp c S)(n:S.at t=U):RelG c B G s (a.put (J t) v) w h<|Yp c S:=by
 refine⟨j.ok,λp g d=> ?_,λp g=> ?_⟩;by_cases e:p=t;subst e;rw[Yu,n]at d;cases d;let⟨u,o,f⟩:=j.Y p g d;refine⟨u,by simp_all[WK],?_⟩;rw[Yu]at f⊢;cases l:S.at p with
 |none=>rw[Yu,l]at d;cases d
 |some k=>grind [Z71]
 refine absurd ?_ g;rw[Yu];cases S.at p<;>exact VK _
def RelS.set(l:RelS Kf fix T0 c B G w0 n0 s a w S)(k:S.at t=U):RelS Kf fix (a.put (J t) v).tmps c B G w n0 s (a.put (J t) v) w S:=by
 let⟨⟨h,d,f⟩,g,n,o,j⟩:=l;exact⟨⟨h,d.set k,f⟩,g,.refl _ _,by grind [SJ],j⟩
def RelS.base(h:RelS Kf fix T0 c B G w0 n0 s a w S):RelS Kf fix a.tmps c B G w n0 s a w S:=by
 let⟨d,f,j,g⟩:=h;exact⟨d,f,.refl _ _,g⟩
theorem RelS.put(C:RelS Kf fix T0 c B G w0 n0 s a w S)(u:S.at t=U)(l:∀y∈S,c.ix y.1≠c.ix t)(A:t<n0)(D:Rd w G x v):RelS Kf fix (a.put (J t) v).tmps c B G w n0 (YB s (c.ix t)<|.v x) (a.put (J t) v) w<|(t,.fz)::S:=by
 let⟨⟨h,g,o⟩,q,F,H,r⟩:=C;refine⟨⟨h,⟨g.ok,λp d f=> ?_,λp d=> ?_⟩,o⟩,λp d=> ?_,.refl _ _,by grind [SJ],r⟩;rw[Yu]at f⊢;by_cases e:t=p;subst e;simp[SS.at];exact⟨v,RJ Z0,x,by simp[eval,YY],D.mono λb z=>GH.bn<|g.ok.fa b z⟩;simp[SS.at,if_neg e]at f⊢;have j:=(g.set (v:=v) u).mo (t:=YB s (c.ix t)<|.v x) λy K=>by rw[YY,if_neg Ze7]
 cases n:S.at p with
 |none=>rw[n]at f;cases f
 |some k=>
  have:=j.Y p (by grind [Yu,VK]) (by simp_all[Yu]);simp_all[Yu]
 refine absurd ?_ d;rw[Yu];split<;>exact VK _;by_cases e:t=p;simp_all[SS.at];simp[SS.at,if_neg e]at d;rw[YY,if_neg<|l _<|QL d];exact q p d
end
noncomputable def cV:Ctx:= {P:=Sol.prog,ix:=(vf Sol.prog).ix,own:=λ_=>xw,fresh,sig:=Db,tr:=[3],n:=82}
def yY{code S st fl B G Kf s a w w0 T0 N X Rt}(hc:comp (vf Sol.prog) code S=J (st,fl))(g:RelS Kf [4,23] T0 cV B G w0 82 s a w S)(h:Yt Sol.prog st s N X Rt):
  code.wp Sol.prog (Post Kf [4,23] T0 cV B G w0 82 fl N X Rt) a w:=
 jZ (fc:=vf Sol.prog) follows (λp f q j d=>CD (Zge _ f) Ze8 d) rfl rfl rfl (Zf9 _) code (Ey (λ_=>trivial) code) hc g h
noncomputable def bodyC:Code:=Yo ofC [1,1,1,1,1,1,1,0,1,0,0]
noncomputable def ops9:Array Oper:=Lb<|Yo ofC [1,1,1,1,1,1,1,0,1,0,0,0]
def Za9:bodyC=.seq (.region 9 ops9 xw) (Yo ofC [1,1,1,1,1,1,1,0,1,0,0,1]):=Z2
def Z75:Yo ofC [1,1,1,1]=.seq (Yo ofC [1,1,1,1,0]) (.seq (Yo ofC [1,1,1,1,1,0])<|.seq (Yo ofC [1,1,1,1,1,1,0])<|.seq (.seq (Yo ofC [1,1,1,1,1,1,1,0,0])<|.block 0<|.loop bodyC)<|Yo ofC [1,1,1,1,1,1,1,1]):=Z2
noncomputable def ops8:Array Oper:=Lb<|Yo ofC [1,1,1,1,1,1,1,0,0]
def Z6t:Yo ofC [1,1,1,1,1,1,1,0,0]=.region 8 ops8 xw:=Z2
def zF:Value:=.agg #[.int .i64 0,.int .i64 0,.int .i64 0,.bool xw,.int .u64 0,.int .u64 0,.slice U 0 0]
def Z5n:∃t a d inf o,ops9[0]?=J o/\o.guard=U/\o.dst=J 24/\o.op=.recv t a xk/\a=.tmp 23/\Sol.prog.underlying t=J (.chan d 87)/\Sol.prog.info? 87=J inf/\inf.zero=J zF:=
 ⟨_,_,_,_,_,rfl,rfl,rfl,rfl,rfl,rfl,rfl,rfl⟩
def Z5o:∃o,ops9[1]?=J o/\o.guard=U/\o.dst=J 25/\o.op=.extract (.tmp 24) 1:=⟨_,rfl,rfl,rfl,rfl⟩
def Z5p:ops9.size=2:=rfl
def CI:SS:=[(1,.mem [.fz,.fz,.fz,.fz,.fz,.fz,.fz,.fz,.fz,.fz]),(2,.mem [.fz,.fz]),(3,.fz),(5,.own 87),(6,.mem [.own 84]),(7,.mem [.own 85])]
structure AtL (B:Nat) (G:Nat->Prop) (wS:World) (c:Nat) (st:Vw) (hc:List V) (s:St) (a:Act) (w:World):Prop where
 vk:∃T0 w0,RelS G [4,23] T0 cV B G w0 82 s a w CI
 same:Same G wS w
 ch:a.tmps[23]?=J (.chan<|J c)
 s1:get s 1=.m hc
 s6:get s 6=.v (.sl<|st.ns.map Xg)
 s7:get s 7=.m [Yk vi st.nm]
 s8:get s 8=.m [Yk vu st.tm]
theorem AtL.put{B G wS c st hc s a w}(h:AtL B G wS c st hc s a w){v x b}(p:Rd wS G x v):
  ∃g d T0 w0,g=(a.put (J 24)<|.tuple #[v,.bool b]).put (J 25) (.bool b)/\RelS G [4,23] T0 cV B G w0 82 d g w CG/\g.tmps[23]?=J (.chan<|J c)/\get d 1=.m hc/\get d 6=.v (.sl<|st.ns.map Xg)/\get d 7=.m [Yk vi st.nm]/\get d 8=.m [Yk vu st.tm]/\get d 12=.v (.an [x,.bool b])/\get d 10=.v (.bool b):=by
 let⟨T0,w0,o⟩:=h.vk;have j:Rd w G (.an [x,.bool b])<|.tuple #[v,.bool b]:=by
  refine .an _ _ rfl λi c f=> ?_
  match i,f with
  |0,f=>cases f;exact p.keep h.same λ_ q=>q
  |1,f=>cases f;exact .bool _
 have n:=(o.put (t:=24) rfl Zea Z0 j).put (t:=25) (v:=.bool b) (x:=.bool b) rfl Zea Z0<|.bool _;have k:cV.ix 24=12:=Zea;have l:cV.ix 25=10:=Zea;rw[k,l]at n;refine⟨_,_,_,_,rfl,n.fj (R:=CG) Z2,?_,?_,?_,?_,?_,?_,?_⟩;rw[WK Z0,WK Z0];exact h.ch;all_goals simp[YY,h.s1,h.s6,h.s7,h.s8]
def Z6L{B G wS c hc k}{b:Zg}{Post}fin
  (K:Rd wS G (Xg ⟨⟨0,0,0,xw,0⟩,0,[]⟩) zF)
  (a0:∀s a w T0 w0,RelS G [4,23] T0 cV B G w0 82 s a w CH->get s 1=.m hc->get s 6=.v (.sl<|fin.ns.map Xg)->get s 7=.m [Yk vi fin.nm]->get s 8=.m [Yk vu fin.tm]->LS Sol.prog c Post [] (b.at a k) [] w):
  ∀(p:List<|Fo×Value) st,(∀y∈p,Rd wS G (Xg y.1) y.2)->I st.ns+I p<=4000000->(p.map (·.1)).foldl Vw.put st=fin->∀s a w,AtL B G wS c st hc s a w->
   LS Sol.prog c Post (p.map (λy=>.recv y.2)++[.closed zF]) (b.at a<|.code bodyC:: .inLoop bodyC:: .inBlock 0::k) [] w:=by
 let⟨t,T,d,inf,o,o1,o2,o3,o4,C,o6,o7,o8⟩:=Z5n;let⟨o',p1,p2,p3,p4⟩:=Z5o;have ext:∀(a:Act) w v b,a.tmps[24]?=J (.tuple #[v,.bool b])->(execOp a.eval o').run Sol.prog w=.ok _ w:=λa w v b h=>by
  have he:=Act.al a 24 _ h;unfold execOp;simp[p4,he];rfl
 have enter:∀ {es} {e:Ev} {v:Zf} {fl:Bool} {s:St} {st:Vw} {a:Act} {w:Z3},e.val=.tuple #[v,.bool fl]->((∃v,e=.recv v)\/e=.closed zF)->AtL B G wS c st hc s a w->
   LS Sol.prog c Post es (b.at ((a.put (J 24)<|.tuple #[v,.bool fl]).put (J 25)<|.bool fl)<|.code (Yo ofC [1,1,1,1,1,1,1,0,1,0,0,1]):: .inLoop bodyC:: .inBlock 0::k) [] w->
   LS Sol.prog c Post (e::es) (b.at a<|.code bodyC:: .inLoop bodyC:: .inBlock 0::k) [] w:=λ{es e v fl s st a w} H F f hk=>by
  let⟨T0,w0,A⟩:=f.vk;have a1:=A.2.2.2.1;rw[show(Item.code bodyC)=.code (.seq (.region 9 ops9 xw)<|Yo ofC [1,1,1,1,1,1,1,0,1,0,0,1])by rfl];refine LS.cy<|LS.region ?_;rw[Z5p,show List.range 2=[0,1]from rfl];refine LS.td (i:=0) o1 (by simp[Region.wanted,o2]) ?_ ?_;obtain⟨v,rfl⟩|rfl:=F;exact⟨t,T,d,_,inf,zF,o4,by rw[C];rfl,by rw[C];exact Act.al a 23 _ f.ch,o6,o7,o8,Z1⟩;exact⟨t,T,d,_,inf,zF,o4,by rw[C];rfl,by rw[C];exact Act.al a 23 _ f.ch,o6,o7,o8,Z1⟩;rw[o3,H];refine LS.value (i:=1) p1 (by simp[Region.wanted,p2]) (ext _ w v fl (RJ Z0)) ?_;simp_all[LS.gl]
 intro p;induction p with
 |nil=>
  intro st r hn n s a w f;refine enter (v:=zF) (fl:=xw) rfl Z1 f ?_;obtain⟨a2,s2,T0,w0,rfl,A,x,W,Y,Z,h8,u,q⟩:=f.put (b:=xw) K;refine LS.wp (yY Nq A<|Z6v (N:=λ_=>False) (R:=λ_=>False) (X:=λid g=>id=0/\g=s2) q ⟨rfl,rfl⟩) λe S w' j=> ?_;cases e with
  |normal=>let⟨_,_,_,h,_⟩:=j;grind
  |exit id=>
   obtain⟨g,Q,hx,⟨rfl,rfl⟩,l⟩:=j;have D:Q=CH:=by simpa using hx
   subst D;refine⟨k,rfl,?_⟩;grind
  |ret=>let⟨_,_,_,h,_⟩:=j;grind
  |_=>exact j.elim
 |cons y p ih=>
  intro st r hn n s a w f;simp[Zgt]at hn;refine enter (v:=y.2) (fl:=xk) rfl Z1 f ?_;obtain⟨a2,s2,T0,w0,rfl,A,x,W,Y,Z,h8,u,q⟩:=f.put (b:=xk)<|r y Z1;refine LS.wp (yY Nq A.base<|Z6w (X:=λ_ _=>False) (R:=λ_=>False) (N:=λg=>get g 6=.v _/\get g 7=.m [Yk vi (st.put y.1).nm]/\get g 8=.m [Yk vu (st.put y.1).tm]/\get g 1=.m hc) Y Z h8 u q Z0 λg M O P L _ _=>⟨M,O,P,L.trans W⟩) λe S w' j=> ?_;cases e with
  |normal=>
   let⟨g,Q,D,⟨M,O,P,L⟩,l⟩:=j;cases D;refine LS.inLoop<|ih _ (λz K=>r z<|by simp[K]) ?_ n g S w' ⟨⟨_,_,l.fj (R:=CI) Z2⟩,f.same.trans l.2.2.1.same,?_,L,M,O,P⟩;grind [Vw.put];rw[l.2.2.1.fix 23 Z1];exact x
  |exit id=>let⟨_,_,_,h,_⟩:=j;grind
  |ret=>let⟨_,_,_,h,_⟩:=j;grind
  |_=>exact j.elim
def DZ(b:Zg)(D:World->Nat->Prop)(r:V)(fr:Zg)(cs:Z7)(w:Z3):Prop:=
 cs=[]/\∃(a:Act) (d:Zp),fr= {b.at a d with mode:=.returning}/\a.defers=[]/\∃v,(results Try.f15 a.tmps).run Sol.prog w=.ok v w/\Rd w (D w) r v
def DP{code S st o B G Kf s a w w0 T0 N c f es}{b:Zg}{k}(hc:comp (vf Sol.prog) code S=J (st,⟨J o,[],[]⟩))(t:RelS Kf [4,23] T0 cV B G w0 82 s a w S)
  (u:Yt Sol.prog st s N (λ_ _=>False)<|λ_=>False) (r:∀l g n,N l->RelS Kf [4,23] T0 cV B G w0 82 l g n o->LS Sol.prog c f es (b.at g k) [] n):=
 LS.wp (yY hc t u) λe g n d=>by
  cases e with
  |normal=>let⟨l,x,q,p,j⟩:=d;cases q;exact r _ _ _ p j
  |exit id=>let⟨_,_,_,h,_⟩:=d;grind
  |ret=>let⟨_,_,_,h,_⟩:=d;grind
  |_=>exact d.elim
def Z5m:∃o,ops8[0]?=J o/\o.guard=U/\o.dst=J 23/\o.op=.move (.tmp 4):=⟨_,rfl,rfl,rfl,rfl⟩
def ZcY:ops8.size=1:=rfl
def Z5b{B G c b s a w w0 T0 W Y Z y sc x5 x6 x7 x8 d}{fs:List (Fo×Value)}{fin}(M:RelS G [4,23] T0 cV B G w0 82 s a w Lt)(K:a.tmps[4]?=J (.chan<|J c))(F:get s 1=.m [W,Y,Z,y,sc,x5,x6,x7,x8,.sl<|d.map vu])
  (L:∀y∈fs,Rd w G (Xg y.1) y.2) (hn:I fs<=4000000) (u:(fs.map (·.1)).foldl Vw.put ⟨[],[],[]⟩=fin) (hs:fin.sm d):
  LS Sol.prog c (DZ b (λw' x=>G x\/(B<=x/\x<xz (xj w')))<|Vr<|fin.gr d) (fs.map (λy=>.recv y.2)++[.closed zF]) (b.at a [.code<|Yo ofC [1,1,1,1]]) [] w:=by
 rw[Z75];refine LS.cy (DP r5c M.base (N:=λj=>get j 6=.v (.sl [])/\get j 1=get s 1) (by simp[r5,YY]) λs1 a1 w1 ⟨q6,q1⟩ l=> ?_);refine LS.cy (DP r6c l.base (N:=λj=>get j 7=.m [Yk vi []]/\get j 6=.v (.sl [])/\get j 1=get s 1) (by simp[r6,YY,q6,q1];rfl) λs2 a2 w2 ⟨t7,t6,t1⟩ n=> ?_);refine LS.cy (DP r7c n.base (N:=λj=>get j 8=.m [Yk vu []]/\get j 7=.m [Yk vi []]/\get j 6=.v (.sl [])/\get j 1=get s 1) (by simp[r7,YY,t7,t6,t1];rfl) λs3 T w3 ⟨u8,u7,u6,u1⟩ k=> ?_);have q:T.tmps[4]?=J (.chan<|J c):=by
  rw[k.2.2.1.fix 4 Z1,n.2.2.1.fix 4 Z1,l.2.2.1.fix 4 Z1];exact K
 have p:=(l.2.2.1.same.trans n.2.2.1.same).trans k.2.2.1.same;refine LS.cy<|LS.cy ?_;rw[Z6t];refine LS.region ?_;let⟨o,o1,o2,o3,o4⟩:=Z5m;have a0:=Act.al T 4 _ q;refine LS.value (v:=.chan<|J c) (w':=w3) o1 (by simp[Region.wanted,o2]) (by simp_all[execOp])<|LS.gl ?_;rw[o3];have P:=k.set (t:=23) (v:=.chan<|J c) rfl;have a4:=k.2.2.2.1;refine LS.block<|LS.bq (.one step_loop) ?_;refine Z6L (hc:=[W,Y,Z,y,sc,x5,x6,x7,x8,.sl<|d.map vu]) fin (wS:=w) (B:=B) (G:=G) ?_ ?_ fs ⟨[],[],[]⟩ L Ze7 u s3 _ w3 ⟨⟨_,_,P.fj (R:=CI) Z2⟩,p,RJ Z0,Ze8,u6,u7,u8⟩;refine .agg _ _ rfl Z1 λi x g=> ?_
 match i,g with
 |0,g=>cases g;exact .int _ _
 |1,g=>cases g;exact .int _ _
 |2,g=>cases g;exact .int _ _
 |3,g=>cases g;exact .bool _
 |4,g=>cases g;exact .int _ _
 |5,g=>cases g;exact .int _ _
 |6,g=>cases g;exact .nil _ _ Z0
 intro s5 a5 w5 T5 a6 Q v1 v6 v7 v8;refine LS.wp (yY rCc ((Q.fj (R:=Np) Z2).base)<|Z6u (N:=λ_=>False) (X:=λ_ _=>False) (R:=λj=>Wv j [(2,.ag 2),(3,.v)]=J _) hs v1 v6 v7 v8 λj h=>h) λe a' w' C=> ?_;cases e with
 |normal=>let⟨_,_,_,h,_⟩:=C;grind
 |exit id=>let⟨_,_,_,h,_⟩:=C;grind
 |ret=>
  let⟨j,S',H,hR,O⟩:=C;have H:S'=No:=by simpa using H
  subst H;let⟨⟨h,k1,k2⟩,k3,k4,k5,k6⟩:=O;intro A
  let⟨v,hv,S⟩:=LA (c:=cV) (f:=Try.f15) (D:=λx=>G x\/(B<=x/\x<xz (xj w'))) k1 k3 (λx z=>by
   obtain F|F:=k1.ok.cr x z;grind;exact .inr ⟨F,k1.ok.bm x z⟩) (λr M=>⟨Zfe.1 (Z2:_=xk) r M,λi x z=>.inr ⟨(k1.ok.aq _ _ x z).1,(k1.ok.aq _ _ x z).2.1⟩⟩) (x:=Vr<|fin.gr d) (by rw[<-hR];rfl)
  exact LS.ip ⟨rfl,a',A,rfl,k6,v,hv,S⟩
 |_=>exact C.elim
end
section
def Z1o:∃o a,clOps[1]?=J o/\o.guard=U/\o.dst=U/\o.op=.call ⟨.builtin .close, #[.tmp 70],a⟩:=⟨_,_,rfl,rfl,rfl,rfl⟩
section
variable {b:Zg}{a:Act}{c:Nat}{w:Z3}
def Z1q{cs:Z7}(t:b.fn=42)(x:b.kind≠.early)(q:a.tmps[70]?=J (.chan<|J c)){s r:Nat}{f:Bool}(hc:w.heap[c]?=J (.chan 0 #[] xw s r f)):
  stepG Try.prog xw (G (b.at a [.inRegion clOps [1]]) cs) w=.go (G (b.at a [.inRegion clOps []]) cs) (WL w c<|.chan 0 #[] xk s r f) #[⟨.obj c,xw,xk⟩,⟨.obj c,xk,xk⟩]:=by
 obtain⟨o,d,l,g,n,p⟩:=Z1o;have h:a.eval (.tmp 70)=.chan (J c):=Act.al a 70 _ q;have j:execOp a.eval o=(do pure (.value<|<-Builtin.close_ d o.type #[.chan<|J c]):Sem Next):=by
  unfold execOp;simp only[p];simp[resolve,builtin,h];rfl
 have y:(execOp a.eval o).run Try.prog w=.ok (.value<|.tuple #[]) (WL w c<|.chan 0 #[] xk s r f):=by
  rw[j];simp only[ZfO,run_close_open d o.type hc,ZfL];rfl
 have u:(execOp a.eval o).events Try.prog w #[]=#[⟨.obj c,xw,xk⟩,⟨.obj c,xk,xk⟩]:=by
  rw[j];have g:(Builtin.close_ d o.type #[.chan<|J c]).runT Try.prog w #[]=(.ok (.tuple #[])<|WL w c<|.chan 0 #[] xk s r f, #[⟨.obj c,xw,xk⟩,⟨.obj c,xk,xk⟩]):=by
   refine ZhF ?_<|events_close_open d o.type hc;rw[Zhc];exact run_close_open d o.type hc
  show((Sem.bind _ _).runT Try.prog w #[]).2=_;rw[Zhg,g];rfl
 rw[stepG_value l (by simp[Region.wanted,g]) x y];have k:a.put o.dst (.tuple #[])=a:=by rw[n];rfl
 rw[k];unfold listed;rw[u,seen_eq (by rw[t,Try.func42];rfl) Z1]
noncomputable def bornF:Frame:= {(default:Zg)with fn:=Try.prog.funcs.size,defers:=[],mode:=.panicking [goexitEntry]}
def Z7S(d:b= {base 42 with kind:=.deferred})(f:a.defers=[]):QuitsIn Try.prog 4<|G (b.at a [.inRegion clOps []]) [bornF]:=by
 subst d;refine .ctl (g':=G (({base 42 with kind:=.deferred}:Frame).at a []) [bornF]) rfl (λw=>ZeX) ?_;refine .ctl (g':=G {(({base 42 with kind:=.deferred}:Frame).at a [])with mode:=.returning} [bornF]) rfl (λw=>ZeX) ?_;refine .ctl (g':=G bornF []) rfl (λw=> ?_) ?_;have g:=Try.func42;simp[G,stepG,unwind,Frame.at,f,base,g,results,Try.results42,doReturn,bornF,goexitEntry];rfl;refine .ctl (g':= {(G bornF [])with status:=.finished}) rfl (λw=> ?_) rfl;rfl
end
def yR(l:Z8):NoM<|.sl<|l.map vu:=.sl _ λc a=>by
 have:flat (l.map vu)=l.map vu:=U2 λx d=>ZeE;rw[this]at a;obtain⟨y,_,rfl⟩:=Zfj.1 a;exact .int _ _
def Z1U{n:Nat}{v:Zf}(h:FixV n v)(f m:Nat):FixV n<|Rr v f m:=by
 intro ρ d;have a:=h ρ d;unfold Rr;split;rename_i b o q k c;simp only[Zt,Zfn,ZT,Value.slice.injEq,Zf2,Addr.mk.injEq,and_true]at a;grind [Zt,ZT];exact a
def FZ{n:Nat}{h:Hp}{x:Z6}{p:Nat}(hx:FixV n<|x p)(o:Ob):FixV n<|Un h x p o:=by
 intro ρ a;have:=Z1U hx (o.Y+1).toNat o.size.toNat ρ a;simp_all[Un,WH,Wi,Ua]
def Av{h:Hp}{x:Z6}{v:Zf}:∀ {n p:Nat},v∈Ws h x n p->∃q o,q<p+n/\v=Un h x q o
 |0,p,a=>by simp[Ws]at a
 |n+1,p,a=>by
  simp only[Ws,Zfy,Zfj]at a;obtain⟨o,_,rfl⟩|a:=a;exact⟨p,o,Z0,rfl⟩;obtain⟨q,o,f,d⟩:=Av a;exact⟨q,o,Z0,d⟩
def bD:Frame:= {base 42 with kind:=.deferred}
def A3(args:Zd):Frame.enter Try.prog 42 args .deferred=bD.at {tmps:=args++Array.replicate (71-args.size) undef,defers:=[]} [.code seC]:=by
 rfl
def O5:YU Sol.prog xw seC=xk:=Z2
def Z0D:Sol.prog.funcs[Try.prog.funcs.size]?=U:=by
 grind [Array.getElem?_eq_none,Sol.prog,WX]
def Z1n{c n0:Nat}{h:Hp}{x:Z6}{K:Z4}{w:Z3}(hh:h.ok)(a1:xz (xj w)<=n0)(hc:c<n0)(hK:∀b,K b->∃cs e fr,w.heap[b]?=J (.cells cs e fr))(R:∀b o,w.heap[b]?=J o->K b->JZ n0 o)
  (hx:∀j,j<5->FixV n0 (x j)) (hr:∀j,j<5->Rd w K (.sl<|(Zv h j).map vu) (x j))
  (a2:∀p,p<4->I (obP h p)<=1000000/\∀o∈obP h p,0<=o.Y/\0<=o.size/\o.Y+1+o.size<=I (Zv h p)):
  Play Try.prog xw c K (UH Try.prog c) ((Ws h x 4 0).map .send) (λ_=>False) (born Try.prog {target:=.fn (.func 42) #[],args:=#[ZN h x,.chan<|J c]}) w:=by
 have a6:∀b,K b->b<xz (xj w):=λb l=>Ze7;have C:∀w1:Z3,stepG Try.prog xw (born Try.prog {target:=.fn (.func 42) #[],args:=#[ZN h x,.chan<|J c]}) w1=.go (G (Frame.enter Try.prog 42 #[ZN h x,.chan<|J c] .deferred) [bornF]) w1 #[]:=λw1=>by
  rfl
 refine .step (λw1 H=>⟨_,_,_,_,C w1,Zf9 _,Zf9 _,rfl,rfl,λ_ _ _=>rfl,λe Y=>by simp at Y⟩) λw1 g' w' a4 H e=> ?_;have e:=(C w1).symm.trans e;injection e with M N e3;subst M N;have B:(Vc (λ_=>False) w1 w1:Z4)=λ_=>False:=funext λb=>propext ⟨λl=>by obtain l|l:=l;exact l;omega,λl=>l.elim⟩;rw[B];refine Play.gm ?_ H;let X:Cx:=TR Try.prog Sol.prog n0 K (λ_=>False);have S:X.P=Try.prog:=Sol.sub.P n0 K (λ_=>False);have n:∀v∈ #[ZN h x,.chan<|J c],FixV n0 v:=λv hv=>by
  have:v=ZN h x\/v=.chan (J c):=by simpa using hv
  obtain rfl|rfl:=this;intro ρ k;unfold ZN;rw[WH];simp[Wi,Ua,hx 0 Z0 ρ k,hx 1 Z0 ρ k,hx 2 Z0 ρ k,hx 3 Z0 ρ k,hx 4 Z0 ρ k];intro ρ k;simp[Zt,k c hc]
 have z:∀ρ,Zw ρ bornF=bornF:=λρ=>by
  simp[Zw,bornF,Wh,Rj,goexitEntry,Sn];exact⟨by show Array.map (Zt ρ) #[]=#[];simp,rfl,rfl⟩
 have hw:=DL X (Sol.sub.ok n0 K<|λ_=>False) (c:=c) (es:=(Ws h x 4 0).map .send) (fr:=Frame.enter Try.prog 42 #[ZN h x,.chan<|J c] .deferred) (cs:=[bornF]) (ds:=[]) (main:=xw) (wc:=w)
  (λe Y=>by
   obtain⟨v,hv,rfl⟩:=Zfj.1 Y;obtain⟨q,o,hq,rfl⟩:=Av hv;exact⟨FZ (hx q Z0) o,hc⟩)
  (λρ=>by
   rw[A3];refine⟨⟨λi hi=> ?_,λd A=>by simp[Frame.at]at A,.inr rfl,.inl ⟨_,seC,Sol.func42,Try.func42,O4,O5⟩⟩,λf Z=> ?_,rfl⟩;have:i=.code seC:=by simpa[Frame.at]using hi
   subst this;exact O5;have:f=bornF:=by simpa using Z
   subst this;exact⟨λi hi=>(by cases hi),λd A=>(by cases A),.inl rfl,.inr<|.inl ⟨Z0D,Zhw<|Zf9 _⟩⟩)
  (λf Z=>by
   have:f=Frame.enter Try.prog 42 #[ZN h x,.chan<|J c] .deferred\/f=bornF:=by simpa using Z
   obtain rfl|rfl:=this;rw[A3];intro ρ k;have M:(#[ZN h x,.chan<|J c]++Array.replicate (71- (#[ZN h x,.chan<|J c]:Array Value).size) undef).map (Zt ρ)=#[ZN h x,.chan<|J c]++Array.replicate (71- (#[ZN h x,.chan<|J c]:Array Value).size) undef:=by
    rw[Zh9,SZ n ρ k];simp[Sn]
   simp_all[Zw,Frame.at,YD,Wh,bD,base];exactλρ _=>z ρ)
  (λb o ho y=>by
   obtain y|y:=y;exact y.elim;exact R b o ho y)
  (Post:=λwl=>DY c bD [bornF])
  (λt=>by
   rw[A3]
   exact Z7R bD [bornF] (X.cj w t) h hh x c K (λb l=>by grind [Cx.cj,TR,Nat.lt_of_lt_of_le])
    (λj hj=>Nw (X:=X) (λb h=>h) (λb c e fr B hc=>B) a1 (hr j hj)<|yR _) a2)
 have hw:Play Try.prog xw c K _ ((Ws h x 4 0).map .send) (λ_=>False) (G (Frame.enter Try.prog 42 #[ZN h x,.chan<|J c] .deferred)<|[bornF]++[]) w:=S▸hw;refine hw.mono λO g w' ⟨ρ,t,a5,a3,a7,fc,cc,B,hid,⟨W,a,a0,Q,A⟩,L⟩=> ?_;subst B W a0;have D:fc=Zw ρ (bD.at a [.inRegion clOps [1]]):=L.bd;have F:cc=[bornF].map (Zw ρ)++[]:=L.under;have M:fc=bD.at {tmps:=a.tmps.map<|Zt ρ,defers:=[]} [.inRegion clOps [1]]:=by
  rw[D];simp[Zw,Frame.at,A,Wh,YD,bD,base]
 have N:cc=[bornF]:=by rw[F];simp[z]
 rw[M,N];have u:(a.tmps.map<|Zt ρ)[70]?=J (.chan<|J c):=by
  rw[ZfD,Q];simp[Zt,hid c hc]
 refine⟨rfl,?_,_,4,λs r tm T=>Z1q rfl (by simp[bD]) u T,Z7S rfl rfl⟩;rfl
end
inductive NoZ:V->Prop where
 |int (k:IntKind) (n:Int):NoZ<|.int k n
 |bool (b:Bool):NoZ<|.bool b
 |sl (l:Zr):(∀y∈l,y.cells≠[])->(∀c∈flat l,NoZ c)->NoZ (.sl l)
 |agg (l:Zr):(∀c∈l,NoZ c)->NoZ (.agg l)
 |an (l:Zr):(∀c∈l,NoZ c)->NoZ (.an l)
def NoZ.m{x:V}(h:NoZ x):NoM x:=by
 induction h with
 |int k n=>exact .int k n
 |bool b=>exact .bool b
 |sl l _ _ a=>exact .sl l a
 |agg l _ a=>exact .agg l a
 |an l _ a=>exact .an l a
def Z6C{w:Z3}{D:Z4}{x:V}{v:Zf}(h:Rd w D x v)(d:NoZ x):Rd w (λb=>D b/\b<xz (xj w)) x v:=by
 induction h with
 |int k n=>exact .int k n
 |bool b=>exact .bool b
 |nil a cap A=>exact .nil a cap A
 |sl l b o cap k vs g p z r t C j=>
  cases d with
  |sl _ B d=>
   obtain _|⟨y,l⟩:=l;exact .nil _ cap p;have F:0<k:=by
    rw[<-(r y Z1).1];exact Zh4.2<|B y Z1
   have q:=jV<|t 0 Ze8;exact .sl _ b o cap k vs g p ⟨z,q⟩ r t λi c f=>j i c f<|d c<|Ai f
 |agg u vs g p _ j=>
  cases d with
  |agg _ d=>exact .agg u vs g p λi c f=>j i c f<|d c<|Zfc f
 |an l vs g _ j=>
  cases d with
  |an _ d=>exact .an l vs g λi c f=>j i c f<|d c<|Zfc f
 |_=>cases d
def Z6F{w:Z3}{D:Z4}{x:V}{v:Zf}(h:Rd w D x v)(d:NoZ x):Rd w (λb=>D b/\∃q e r,w.heap[b]?=J (.cells q e r)) x v:=by
 induction h with
 |int k n=>exact .int k n
 |bool b=>exact .bool b
 |nil a cap B=>exact .nil a cap B
 |sl l b o cap k vs g p z t u F j=>
  cases d with
  |sl _ C d=>
   obtain _|⟨y,l⟩:=l;exact .nil _ cap p;have G:0<k:=by
    rw[<-(t y Z1).1];exact Zh4.2<|C y Z1
   obtain⟨_,c,e,r,A,_⟩:=Kj<|u 0 Ze8;exact .sl _ b o cap k vs g p ⟨z,c,e,r,A⟩ t u λi c f=>j i c f<|d c<|Ai f
 |agg q vs g p _ j=>
  cases d with
  |agg _ d=>exact .agg q vs g p λi c f=>j i c f<|d c<|Zfc f
 |an l vs g _ j=>
  cases d with
  |an _ d=>exact .an l vs g λi c f=>j i c f<|d c<|Zfc f
 |_=>cases d
def Iz(l:Z8):NoZ<|.sl<|l.map vu:=.sl _ (λy f=>by obtain⟨z,_,rfl⟩:=Zfj.1 f;simp) λc a=>by
 rw[U2 λx d=>ZeE]at a;obtain⟨y,_,rfl⟩:=Zfj.1 a;exact .int _ _
def Iy(l:Z8):NoZ<|.sl<|l.map vi:=.sl _ (λy f=>by obtain⟨z,_,rfl⟩:=Zfj.1 f;simp) λc a=>by
 rw[U2 λx d=>ZeE]at a;obtain⟨y,_,rfl⟩:=Zfj.1 a;exact .int _ _
def Iw(g:Gr):NoZ<|Yh g:=.agg _ λc a=>by
 have:c=.sl (g.nodes.map Yf)\/c=.sl (g.E.map vi):=ZeS;obtain rfl|rfl:=this;refine .sl _ (λy d=>by obtain⟨z,_,rfl⟩:=Zfj.1 d;simp) λc a=> ?_;obtain⟨y,d,a⟩:=Zha.1 a;obtain⟨n,_,rfl⟩:=Zfj.1 d;have:c=.sl (n.M.map vi)\/c=.sl (n.data.map vu):=ZeS;obtain rfl|rfl:=this;exact Iy _;exact Iz _;exact Iy _
def Iv(g:Gr):NoZ<|Vr g:=by
 unfold Vr;split;all_goals
  refine .an _ λc a=> ?_;simp only[Zfz,ZgT,Zib]at a;obtain rfl|rfl:=a;exact Iw _;exact .int _ _
def Jk(h:Hp):NoM<|ZK h:=.agg _ λc a=>by
 simp only[Zfz,ZgT,Zib]at a;obtain rfl|rfl|rfl|rfl|rfl|rfl|rfl|rfl|rfl|rfl:=a;all_goals first|exact .int _ _|exact .bool _|exact yR _
noncomputable def ops4:Array Oper:=Lb<|Yo ofC [1,1,1,0]
def Z5l:(ops4.all λo=>XT Sol.prog xw o.op)=xk:=Z2
def Z76:YU Sol.prog xw (Yo ofC [1,1,1,1])=xk:=Z2
def Z5a:Sol.prog.funcs[15]?=J (Nz Try.f15):=by
 have:=Try.func15;simp only[Sol.prog,WX,Zic,this,Zfn];rfl
def I7{X:Cx}{w:Z3}{t:Nat->Question->Nat}{b:Nat}{cs:Zd}{T:Zi}(h:w.heap[b]?=J (.cells cs T (0,0)))(a:X.O b)(d:b<X.n0):(X.cj w t).heap[b]?=J (.cells cs T (0,0)):=by
 rw[Bn,if_pos d,h];unfold Cx.io;dsimp only;rw[if_pos a,if_pos ⟨trivial,λc e g f=>Ze7⟩]
def Z72{B g k:Nat}{a:Act}{A C:Zi}{K:Z4}{h:Hp}{x:Z6}{l:Z3}
  (z:a.tmps.size=82) (Q:a.defers=[]) (T:a.tmps[1]?=J (.pointer<|J ⟨g,0,U⟩)) (W:a.tmps[2]?=J (.pointer<|J ⟨k,0,U⟩)) (X:a.tmps[3]?=J (.int .i64 0))
  (n:l.heap[g]?=J (.cells #[.int .u64 h.base,.int .i64 h.cap,.int .i64 h.to,.bool h.Z,.int .i64 h.aa,x 0,x 1,x 2,x 3,x 4] A (0,0))) (o:l.heap[k]?=J (.cells #[.slice U 0 0,.slice U 0 0] C (0,0)))
  (N:B<=g) (O:B<=k) (M:g≠k) (k1:¬K g) (k2:¬K k) (D:∀b,K b->b<xz (xj l)) (r:∀j,j<5->Rd l K (.sl<|(Zv h j).map vu) (x j)):
  RelS K [4,23] a.tmps cV B K l 82 [.no,.m [vu h.base,vi h.cap,vi h.to,.bool h.Z,vi h.aa,.sl<|h.H.map vu,.sl<|h.ac.map vu,.sl<|h.ah.map vu,.sl<|h.aj.map vu,.sl<|h.E.map vu],.m [.sl [],.sl []],.v<|vi 0] a l Lt:=by
 have l1:=(Zf8.1 n).1;have l2:=(Zf8.1 o).1;have Z:cV.ix 1=1:=Zea;have i2:cV.ix 2=2:=Zea;have i3:cV.ix 3=3:=Zea;refine⟨⟨{F:=K,bl:=λt i=>if t=1/\i=0 then J g else if t=2/\i=0 then J k else U,K:=K},⟨⟨Z0,D,λb f=>.inl f,λb f=>f,λt i b f=> ?_,λt i u j b f P=> ?_,D,λt i b f=> ?_,λb f=>.inl f⟩,λt _ S=> ?_,λt R=> ?_⟩,rfl⟩,λp Y=> ?_,.refl _ _,z,Q⟩;grind;grind;grind;rw[Yu]at S⊢;by_cases G:t=1;subst G;refine⟨_,T,g,_,A,rfl,rfl,n,rfl,λi y d=> ?_⟩;have q:i<10:=(Zf3.1 d).1
 match i,q with
 |0,_=>cases d;exact⟨_,ZeX,rfl,.int _ _⟩
 |1,_=>cases d;exact⟨_,ZeX,rfl,.int _ _⟩
 |2,_=>cases d;exact⟨_,ZeX,rfl,.int _ _⟩
 |3,_=>cases d;exact⟨_,ZeX,rfl,.bool _⟩
 |4,_=>cases d;exact⟨_,ZeX,rfl,.int _ _⟩
 |5,_=>cases d;exact⟨_,ZeX,rfl,r 0 Z0⟩
 |6,_=>cases d;exact⟨_,ZeX,rfl,r 1 Z0⟩
 |7,_=>cases d;exact⟨_,ZeX,rfl,r 2 Z0⟩
 |8,_=>cases d;exact⟨_,ZeX,rfl,r 3 Z0⟩
 |9,_=>cases d;exact⟨_,ZeX,rfl,r 4 Z0⟩
 |i+10,h=>omega
 by_cases H:t=2;subst H;refine⟨_,W,k,_,C,rfl,rfl,o,rfl,λi y d=> ?_⟩;have w:i<2:=(Zf3.1 d).1
 match i,w with
 |0,_=>cases d;exact⟨_,ZeX,rfl,.nil _ _<|Zga _⟩
 |1,_=>cases d;exact⟨_,ZeX,rfl,.nil _ _<|Zga _⟩
 |i+2,h=>omega
 by_cases L:t=3;subst L;exact⟨_,X,_,ZeX,.int _ _⟩;simp_all[Lt,SS.at,ZgQ,TK.bj];refine absurd ?_ R;rw[Yu];split<;>exact VK _;grind [Lt,SS.at]
def PO(cs:Z7)(r:V)(D:Z4)(g:Zj)(w:Z3):Prop:=
 ∃a,g=G a cs/\a.fn=15/\a.mode=.returning/\a.defers=[]/\a.kind=.normal/\∀d,∃v,(results Try.f15 a.tmps).run Try.prog (w.at d)=.ok v (w.at d)/\Rd (w.at d) (λb=>D b/\b<xz (xj w)) r v
def Z4g{c n0 B C D:Nat}{a:Act}{T1 T2:Zi}{K:Z4}{h:Hp}{x:Z6}{w:Z3}{cs:Z7}{fs:List (Fo×Value)}{fin:Vw}(hh:h.ok)
  (e0:a.tmps.size=82) (hd:a.defers=[]) (t1:a.tmps[1]?=J (.pointer<|J ⟨C,0,U⟩)) (t2:a.tmps[2]?=J (.pointer<|J ⟨D,0,U⟩)) (t3:a.tmps[3]?=J (.int .i64 0)) (t4:a.tmps[4]?=J (.chan<|J c))
  (S:w.heap[C]?=J (.cells #[.int .u64 h.base,.int .i64 h.cap,.int .i64 h.to,.bool h.Z,.int .i64 h.aa,x 0,x 1,x 2,x 3,x 4] T1 (0,0))) (T:w.heap[D]?=J (.cells #[.slice U 0 0,.slice U 0 0] T2 (0,0)))
  (e6:B<=xz (xj w)) (c6:B<=C) (c7:B<=D) (c1:C≠D) (k1:¬K C) (k2:¬K D) (b4:xz (xj w)<=n0) (hc:c<n0)
  (hK:∀b,K b->∃cs e fr,w.heap[b]?=J (.cells cs e fr)) (a2:∀(b:Nat) (cs:Zd) (e:Zi) (fr:Nat×Nat),w.heap[b]?=J (Obj.cells cs e fr)->JZ n0 (Obj.cells cs e fr)) (d7:∀v∈a.tmps,FixV n0 v) (hx:∀j,j<5->FixV n0 (x j))
  (hr:∀j,j<5->Rd w K (.sl<|(Zv h j).map vu) (x j)) (a5:∀y∈fs,Rd w K (Xg y.1) y.2/\NoM (Xg y.1)) (d6:fs.map (·.2)=Ws h x 4 0) (hn:I fs<=4000000) (b3:(fs.map (·.1)).foldl Vw.put ⟨[],[],[]⟩=fin) (hs:fin.sm h.E):
  Play Try.prog xk c K (λ_=>PO cs (Vr<|fin.gr h.E)<|λb=>K b\/B<=b) ((Ws h x 4 0).map .recv++[.closed zF]) (λb=>b=C\/b=D) (G ((base 15).at a [.inRegion ops4 [],.code<|Yo ofC [1,1,1,1]]) cs) w:=by
 have e7:∀b,K b->b<xz (xj w):=λb H=>Ze7;have l1:=(Zf8.1 S).1;have l2:=(Zf8.1 T).1;let X:Cx:=TR Try.prog Sol.prog n0 K (λb=>b=C\/b=D);have R:∀ρ,(X.at ρ).P=Try.prog:=λρ=>Sol.sub.same.symm;have e9:∀t,xz (xj<|X.cj w t)=n0:=λt=>by simp[Cx.cj,X,TR]
 have d5:(Ws h x 4 0).map Ev.recv=fs.map λy=>.recv y.2:=by rw[<-d6,Zh0];rfl
 have a8:∀b,(b=C\/b=D)->¬K b:=λb H=>Ze7
 have hw:=DL X (Sol.sub.ok n0 K<|λb=>b=C\/b=D) (c:=c) (es:=(Ws h x 4 0).map .recv++[.closed zF]) (fr:=(base 15).at a [.inRegion ops4 [],.code<|Yo ofC [1,1,1,1]]) (cs:=[]) (ds:=cs) (main:=xk) (wc:=w)
  (λe L=>by
   obtain L|L:=Zfy.1 L;obtain⟨v,hv,rfl⟩:=Zfj.1 L;obtain⟨q,o,hq,rfl⟩:=Av hv;exact⟨FZ (hx q Z0) o,hc⟩;have:e=.closed zF:=ZeU;subst this;exact⟨λρ _=>by simp_all[zF,WH,Zt],hc⟩)
  (λρ=>by
   refine⟨⟨λi p=> ?_,λd a4=> ?_,.inl rfl,.inr<|.inr ⟨_,_,Z5a,Try.func15,rfl⟩⟩,λf hf=>by simp at hf,rfl⟩;have:i=.inRegion ops4 []\/i=.code (Yo ofC [1,1,1,1]):=by simpa[Frame.at]using p
   obtain rfl|rfl:=this;exact Z5l;exact Z76;rw[show((base 15).at a [.inRegion ops4 [],.code<|Yo ofC [1,1,1,1]]).defers=a.defers from rfl,hd]at a4;simp at a4)
  (λf hf=>by
   have:f=(base 15).at a [.inRegion ops4 [],.code<|Yo ofC [1,1,1,1]]:=by simpa using hf
   subst this;intro ρ hρ;simp only[Zw,Frame.at,SZ d7 ρ hρ,hd];rfl)
  (λb o M hO=>by
   obtain hO|hO:=hO;obtain rfl|rfl:=hO;rw[S]at M;cases M;exact a2 _ _ _ _ S;rw[T]at M;cases M;exact a2 _ _ _ _ T;obtain⟨cs,e,fr,L⟩:=hK b hO;rw[M]at L;cases L;exact a2 _ _ _ _ M)
  (Post:=λwl=>DZ (base 15) (λA b=>K b\/(B<=b/\b<xz (xj A)))<|Vr<|fin.gr h.E)
  (λt=>by
   rw[d5];have b5:∀ {y:V} {v:Zf},Rd w K y v->NoM y->Rd (X.cj w t) K y v:=λ{y v} h1 h2=>by
    clear a5;induction h1 with
    |int k n=>exact .int k n
    |bool b=>exact .bool b
    |str s=>exact .str s
    |nil a cap h=>exact .nil a cap h
    |sl l b o cap k vs q1 q2 H hf a3 _ Z=>
     cases h2 with
     |sl _ W=>exact .sl l b o cap k vs q1 q2 H hf (λi p=>yG (λM=>a8 b M H) (λc e fr _=>H) b4<|a3 i p) λi c p=>Z i c p<|W c<|Ai p
    |agg cs vs q1 q2 _ Z=>
     cases h2 with
     |agg _ W=>exact .agg cs vs q1 q2 λi c p=>Z i c p<|W c<|Zfc p
    |an l vs q1 _ Z=>
     cases h2 with
     |an _ W=>exact .an l vs q1 λi c p=>Z i c p<|W c<|Zfc p
    |ptr cs b o vs H q1 a3 _ Z=>
     cases h2 with
     |ptr _ W=>exact .ptr cs b o vs H q1 (λi p=>yG (λM=>a8 b M H) (λc e fr _=>H) b4<|a3 i p) λi c p=>Z i c p<|W c<|Zfc p
    |fn f=>exact .fn f
    |cq f cs vs q1 _ Z=>
     cases h2 with
     |cq _ _ W=>exact .cq f cs vs q1 λi c p=>Z i c p<|W c<|Zfc p
    |ib=>exact .ib
    |ic=>exact .ic
    |lw=>cases h2
    |mp=>cases h2
   refine LS.gl<|Z5b (G:=K) (B:=B) (Z72 e0 hd t1 t2 t3 (I7 S (.inl rfl) (by show C<n0;omega)) (I7 T (.inr rfl) (by show D<n0;omega)) c6 c7 c1 k1 k2 (λb H=>Ze7) λj hj=>b5 (hr j hj)<|yR _) t4 rfl (λy hy=>b5 (a5 y hy).1 (a5 y hy).2) hn b3 hs)
 have hw:Play Try.prog xk c K _ ((Ws h x 4 0).map .recv++[.closed zF]) (λb=>b=C\/b=D) (G ((base 15).at a [.inRegion ops4 [],.code<|Yo ofC [1,1,1,1]])<|[]++cs) w:=(R id)▸hw;refine hw.mono λO g A ⟨ρ,t,e5,e3,a0,fc,cc,hg,hid,⟨d0,N,b9,d8,a4,v,hv,e1⟩,Y⟩=> ?_;subst hg d0 d8;have u:fc=Zw ρ {(base 15).at N b9 with mode:=.returning}:=Y.bd;have b6:cc=cs:=Y.under;subst b6;refine⟨fc,rfl,by rw[u];rfl,by rw[u];rfl,by rw[u];show N.defers.map _=_;grind,by rw[u];rfl,λd=> ?_⟩;have b7:(X.at ρ).WR a0<|A.at d:=En Y.wr d;have a6:=HZ Try.f15<|N.tmps.map<|Zt ρ;have a7:Yd ((results Try.f15<|N.tmps.map<|Zt ρ).run Try.prog<|A.at d)=A.at d:=a6.world _
 have F:=(AT (X:=X.at ρ) (V:=[]) Try.f15 N.tmps).run a0 (A.at d) #[] b7 (λr hr=>by simp at hr)
  (λj hj=>by
   rw[R ρ]at hj;have e:(Yd<|(results Try.f15<|N.tmps.map<|Zt (X.at ρ).ρ).run Try.prog<|A.at d).drawn=(A.at d).drawn:=Zgb World.drawn a7;omega)
  (λj hj=>by
   rw[R ρ]at hj;have e:xz (xj<|Yd<|(results Try.f15<|N.tmps.map<|Zt (X.at ρ).ρ).run Try.prog<|A.at d)=xz (xj<|A.at d):=Zgb (λw=>xz<|xj w) a7;omega)
 have c5:(results Try.f15 N.tmps).run (X.at ρ).Q a0=.ok v a0:=hv;rw[c5,R ρ]at F;obtain⟨b,c0,e4,L,c8,e8⟩:=F;have a1:(results Try.f15<|N.tmps.map<|Zt ρ).run Try.prog (A.at d)=.ok b c0:=by
  have:=Zgb Prod.fst L;rw[Zhc]at this;exact this
 have e2:c0=A.at d:=by
  have:=a7;rw[a1]at this;exact this
 subst e2;have a9:b=Zt ρ v:=c8;refine⟨b,by rw[u];exact a1,?_⟩;rw[a9];refine(Z6C (Nv b7 e1 (Iv _).m)<|Iv _).mono λb' b0=> ?_;obtain⟨⟨z,hz,rfl⟩,d9⟩:=b0;refine⟨?_,d9⟩;by_cases b8:z<n0;have e:(X.at ρ).ρ z=z:=hid z b8;grind;obtain hz|hz:=hz;grind;right;have:=Y.new z (Nat.le_of_not_lt b8) hz.2;omega
def ZC(h:Hp)(p:Nat)(o:Ob):Fo:=⟨o,(Y5 (Zu h) ((p:Int)+1) o.Y).1,((Zv h p).drop (o.Y+1).toNat).take o.size.toNat⟩
def X6(h:Hp):Nat->Nat->List Fo
 |0,_=>[]
 |n+1,p=>(obP h p).map (ZC h p)++X6 h n (p+1)
def Ts(h:Hp)(x:Z6):Nat->Nat->List (Fo×Value)
 |0,_=>[]
 |n+1,p=>(obP h p).map (λo=>(ZC h p o,Un h x p o))++Ts h x n (p+1)
def Au h x:∀n p,(Ts h x n p).map (·.1)=X6 h n p
 |0,p=>rfl
 |n+1,p=>by simp_all[Ts,X6,Zgg,Zh0,Au]
def Gi h x:∀n p,(Ts h x n p).map (·.2)=Ws h x n p
 |0,p=>rfl
 |n+1,p=>by simp_all[Ts,Ws,Zgg,Zh0,Gi]
def Gh{h x y}:∀ {n p},y∈Ts h x n p->∃q o,q<p+n/\o∈obP h q/\y=(ZC h q o,Un h x q o)
 |0,p,a=>by simp[Ts]at a
 |n+1,p,a=>by
  simp[Ts,Zfj]at a;obtain⟨o,f,rfl⟩|a:=a;exact⟨p,o,Z0,f,rfl⟩;let⟨q,o,g,d⟩:=Gh a;exact⟨q,o,Z0,d⟩
def ZZ(h:Hp):Vw:=(X6 h 4 0).foldl Vw.put ⟨[],[],[]⟩
def Jn(h:Hp):V:=if YI h=xk then Vr ((ZZ h).gr h.E)else .an [Yh Uv,vi 1]
structure OfOk (h:Hp):Prop where
 ob:∀p,p<4->I (obP h p)<=1000000/\∀o∈obP h p,0<=o.Y/\0<=o.size/\o.Y+1+o.size<=I (Zv h p)
 n:I (X6 h 4 0)<=4000000
 sm:(ZZ h).sm h.E
def Z6G{w K}{l:Z8}{v}(h:Rd w K (.sl<|l.map vu) v){d n}(q:0<I l)(N:d+n<=I l):Rd w K (.sl<|((l.drop d).take n).map vu)<|Rr v d n:=by
 generalize g:l.map vu=L at h;have p:I L=I l:=by rw[<-g,ZfC]
 cases h with
 |nil a cap H=>simp_all
 |sl _ b o cap k vs C D r t F u=>
  have M:k=1:=by
   have A:vu (l[0]'q)∈L:=by rw[<-g];exact ZgM Z1
   have:=(t _ A).1;simpa[vu,V.cells]using this.symm
  unfold Rr;dsimp only;have z:I (((l.drop d).take n).map vu)=n:=Ze9;by_cases B:n=0;subst B;simp[List.take_zero,Zgn];exact .nil _ _ Z0;rw[if_neg Z0]
  have:=Rd.sl (w:=w) (G:=K) (((l.drop d).take n).map vu) b (o+d) (cap-d) 1 (λi=>vs<|d+i) Z0 Z0 r Ze7
   Ze7
   (λi c f=>by
    rw[U2 λx j=>by obtain⟨y,_,rfl⟩:=Zfj.1 j;rfl,Zfl,ZfE]at f;split at f;rw[Zfu]at f;exact u _ c (by rw[<-g,U2 λx j=>by obtain⟨y,_,rfl⟩:=Zfj.1 j;rfl,Zfl];exact f);cases f)
  simp_all
def Z4M f:NoM<|Xg f:=.agg _ λc a=>by
 simp[Zib]at a;obtain rfl|rfl|rfl|rfl|rfl|rfl|rfl:=a;all_goals first|exact .int _ _|exact .bool _|exact yR _
def Z28{w K h x}(d:OfOk h)(r:∀j,j<5->Rd w K (.sl<|(Zv h j).map vu) (x j)):∀y∈Ts h x 4 0,Rd w K (Xg y.1) y.2/\NoM (Xg y.1):=by
 intro y g;obtain⟨q,o,p,f,rfl⟩:=Gh g;refine⟨?_,Z4M _⟩;let⟨k,l,n⟩:=(d.ob q Z0).2 o f;refine .agg _ _ rfl Z1 λi c a=> ?_
 match i,a with
 |0,a=>cases a;exact .int _ _
 |1,a=>cases a;exact .int _ _
 |2,a=>cases a;exact .int _ _
 |3,a=>cases a;exact .bool _
 |4,a=>cases a;exact .int _ _
 |5,a=>cases a;exact .int _ _
 |6,a=>cases a;exact Z6G Ze7 Z0 Z0
noncomputable def cB:Ctx:= {P:=Yl Try.prog,ix:=(vf<|Yl Try.prog).ix,own:=λ_=>xw,fresh,sig:=Db,tr:=[3],n:=82}
def F7{P}:∀ {c},Tm P c=xk->TO (Lg.ln<|Yl P) c:=by
 intro c;induction c with
 |region id j d=>exactλh o g=>(Zhb.1 h) o g
 |seq x y a f=>intro h;simp[Tm]at h;exact⟨a h.1,f h.2⟩
 |cond c x y a f=>intro h;simp[Tm]at h;exact⟨a h.1,f h.2⟩
 |block id x a=>exact a
 |loop x a=>exact a
 |scope x a=>exact a
 |_=>intro h;first|trivial|cases h
def As:(Yl Try.prog).follows .mixedOrders=xk:=Z2
def ID{code S st fl B G Kf s a w w0 T0 N X Rt}(f:Tm Try.prog code=xk)(hc:comp (vf<|Yl Try.prog) code S=J (st,fl))(h:RelS Kf [4,23] T0 cB B G w0 82 s a w S)(j:Yt (Yl Try.prog) st s N X Rt):
  Tf Try.prog code (Post Kf [4,23] T0 cB B G w0 82 fl N X Rt) a w:=
 letI:Lg (vf<|Yl Try.prog).P:=besI Try.prog
 jZ (fc:=vf<|Yl Try.prog) As (λp k q g d=>CD Ze8 (Zge _ g) d) rfl rfl rfl (Zf9 _) code (F7 f) hc h j
def Z55:Try.f15.body=J ofC:=Z2
def Z56:ofC=.seq (Yo ofC [0]) (.seq (Yo ofC [1,0])<|.seq (Yo ofC [1,1,0])<|.seq (Yo ofC [1,1,1,0])<|Yo ofC [1,1,1,1]):=Z2
noncomputable def ops3:Array Oper:=Lb<|Yo ofC [1,1,0]
def Z6r:Yo ofC [1,1,0]=.region 3 ops3 xw:=Z2
def Z6s:Yo ofC [1,1,1,0]=.region 4 ops4 xw:=Z2
def Z5g:∃o,ops3[0]?=J o/\o.guard=U/\o.dst=J 18/\o.op=.makeChan 81 (.const<|.int .i64 0):=⟨_,rfl,rfl,rfl,rfl⟩
def Z5h:∃o,ops3[1]?=J o/\o.guard=U/\o.dst=J 4/\o.op=.assign (.tmp 18):=⟨_,rfl,rfl,rfl,rfl⟩
def Z5i:∃o,ops4[0]?=J o/\o.guard=U/\o.dst=J 19/\o.op=.load 37 (.tmp 1):=⟨_,rfl,rfl,rfl,rfl⟩
def Z5j:∃o,ops4[1]?=J o/\o.guard=U/\o.dst=J 20/\o.op=.move (.tmp 4):=⟨_,rfl,rfl,rfl,rfl⟩
def Z5k:∃o a,ops4[2]?=J o/\o.guard=U/\o.dst=U/\o.op=.go ⟨.value<|.func 42, #[.tmp 19,.tmp 20],a⟩:=⟨_,_,rfl,rfl,rfl,rfl⟩
def IP:ops3.size=2/\ops4.size=3:=⟨rfl,rfl⟩
def Z1m:∃d inf,Try.prog.underlying 81=J (.chan d 87)/\Try.prog.info? 87=J inf:=⟨_,_,rfl,rfl⟩
def Z0h{B w w'}(h:Below B w w')d:Below B w<|w'.at d:=⟨h.os,h.tape,h.output,h.size,h.block⟩
def Z2h{b:Zg}{k cs a g c}(l:b.kind≠.early)(d:a.tmps[19]?=J g)(f:a.tmps[20]?=J (.chan<|J c))w:
  stepG Try.prog xk (G (b.at a<|.inRegion ops4 [2]::k) cs) w=.spawn (G (b.at a<|.inRegion ops4 []::k) cs) (born Try.prog {target:=.fn (.func 42) #[],args:=#[g,.chan<|J c]}) w #[]:=by
 let⟨o,j,n,p,q,r⟩:=Z5k;have h:execOp a.eval o=(pure (.spawn {target:=.fn (.func 42) #[],args:=#[g,.chan<|J c]}):Sem Next):=by
  unfold execOp;simp[r];simp[resolve,Deferred.ofValue,Act.eval,d,f]
 have:=stepG_spawn (P:=Try.prog) (main:=xk) (b:=b) (a:=a) (k:=k) (cs:=cs) (w:=w) (i:=2) (rest:=[]) n (by simp[Region.wanted,p]) l (by rw[h];rfl) rfl;rw[q]at this;rw[this];unfold listed;rw[h];rfl
def Z59{h B G s a w w0 T0}(S:RelS G [4,23] T0 cB B G w0 82 s a w Nr)(q1:get s 1=.m [vu h.base,vi h.cap,vi h.to,.bool h.Z,vi h.aa,.sl<|h.H.map vu,.sl<|h.ac.map vu,.sl<|h.ah.map vu,.sl<|h.aj.map vu,.sl<|h.E.map vu])(q3:get s 3=.v (vi 0)):
  ∃(F:Z4) (k l:Nat) (r t:Zi) (x:Z6),(∀b,F b->G b\/B<=b)/\¬F k/\¬F l/\B<=k/\B<=l/\k≠l/\B<=xz (xj w)/\a.tmps[1]?=J (.pointer<|J ⟨k,0,U⟩)/\a.tmps[2]?=J (.pointer<|J ⟨l,0,U⟩)/\a.tmps[3]?=J (.int .i64 0)/\
   w.heap[k]?=J (.cells #[.int .u64 h.base,.int .i64 h.cap,.int .i64 h.to,.bool h.Z,.int .i64 h.aa,x 0,x 1,x 2,x 3,x 4] r (0,0))/\w.heap[l]?=J (.cells #[.slice U 0 0,.slice U 0 0] t (0,0))/\
   (∀j,j<5->Rd w F (.sl<|(Zv h j).map vu) (x j)):=by
 let⟨⟨L,k1,k2⟩,k3,k4,k5,k6⟩:=S;have X:cB.ix 1=1:=Zea;have Y:cB.ix 3=3:=Zea;obtain⟨u1,t1,k,d,r,P,rfl,f3,H⟩:=k1.Y 1 (by rw[Yu];exact VK _) ZeX;obtain⟨u2,t2,l,f,t,g1,rfl,g3,K⟩:=k1.Y 2 (by rw[Yu];exact VK _) ZeX;let⟨u3,t3,u⟩:=k1.Y 3 (by rw[Yu];exact VK _) ZeX;obtain⟨y3,o,A⟩:∃y,eval s _=J y/\Rd w _ y u3:=u;rw[Y]at o;simp[eval,q3,Zf2]at o;subst o;have M:=Sj A;subst M;have T:d.size=10:=H.1;have W:f.size=2:=K.1;have g:∀i y,[vu h.base,vi h.cap,vi h.to,.bool h.Z,vi h.aa,.sl<|h.H.map vu,.sl<|h.ac.map vu,.sl<|h.ah.map vu,.sl<|h.aj.map vu,.sl<|h.E.map vu][i]?=J y->Rd w L.F y _:=λi y n=>by
  have p:i<10:=(Zf3.1 n).1
  have:=H.2 i (.fz,.m (cB.ix 1) i) (by
   match i,p with
   |0,_=>rfl
   |1,_=>rfl
   |2,_=>rfl
   |3,_=>rfl
   |4,_=>rfl
   |5,_=>rfl
   |6,_=>rfl
   |7,_=>rfl
   |8,_=>rfl
   |9,_=>rfl
   |i+10,h=>omega)
  let⟨z,D,z2,z3⟩:=this;rw[X]at D;simp[eval,q1,n,Zfd]at D;obtain⟨rfl,_⟩:=Sg D;exact z3
 have R:∀i,i<2->f.getD i undef=.slice U 0 0:=λi n=>by
  have:=K.2 i (.nil,.m (cB.ix 2) i) (by
   grind)
  exact this.1
 have N:d=#[.int .u64 h.base,.int .i64 h.cap,.int .i64 h.to,.bool h.Z,.int .i64 h.aa,d.getD 5 undef,d.getD 6 undef,d.getD 7 undef,d.getD 8 undef,d.getD 9 undef]:=by
  refine ZhH Z0 λi q C=> ?_;have n:i<10:=by simpa using C
  have e:d[i]=d.getD i undef:=by simp[Array.getD,q]
  rw[e]
  match i,n with
  |0,_=>exact Sj<|g 0 _ rfl
  |1,_=>exact Sj<|g 1 _ rfl
  |2,_=>exact Sj<|g 2 _ rfl
  |3,_=>exact Nu<|g 3 _ rfl
  |4,_=>exact Sj<|g 4 _ rfl
  |5,_=>rfl
  |6,_=>rfl
  |7,_=>rfl
  |8,_=>rfl
  |9,_=>rfl
  |i+10,h=>omega
 have O:f=#[.slice U 0 0,.slice U 0 0]:=by
  refine ZhH Z0 λi q C=> ?_;have n:i<2:=by simpa using C
  have e:f[i]=f.getD i undef:=by simp[Array.getD,q]
  rw[e,R i n]
  match i,n with
  |0,_=>rfl
  |1,_=>rfl
  |i+2,h=>omega
 let⟨Z,m2,m3⟩:=k1.ok.aq 1 0 k P;let⟨n1,n2,n3⟩:=k1.ok.aq 2 0 l g1;refine⟨L.F,k,l,r,t,λj=>d.getD (5+j) undef,k1.ok.cr,m3,n3,Z,n1,λe=> ?_,Z0,t1,t2,t3,Ze7,Ze7,λj Q=> ?_⟩;grind
 match j,Q with
 |0,_=>exact g 5 _ rfl
 |1,_=>exact g 6 _ rfl
 |2,_=>exact g 7 _ rfl
 |3,_=>exact g 8 _ rfl
 |4,_=>exact g 9 _ rfl
 |j+5,h=>omega
def Eb{h}(hh:h.ok)(hk:YI h=xk->OfOk h):VC (Yl Try.prog) 15 xw [ZK h]<|Jn h:=by
 refine⟨Z2,λw G vs hG g7 g3 C B hK=> ?_⟩;have W:=Hs Sol.sub (JX hh) (λy hy=>by rw[Zg2.1 hy];exact Jk h)<|.bool _;have d5:vs.size=1:=g7;have g9:=g3 0 _ rfl;have Y:Frame.enter Try.prog 15 vs .normal=(base 15).at {tmps:=vs++Array.replicate (82-vs.size) undef,defers:=[]} [.code ofC]:=by
  rw[enter_at vs Try.func15 Z55,Try.ntmps15]
 show Walk Try.prog B (Frame.enter Try.prog 15 vs .normal) C w;rw[Y,Z56];clear Y;have i0:cB.ix 0=0:=Zea;generalize a4:({tmps:=vs++Array.replicate (82-vs.size) undef,defers:=[]}:Act)=a0;have t0:a0.tmps[0]?=J (vs.getD 0 undef):=by
  rw[<-a4];simp only;rw[Zh7 Z0];simp[Zf7,d5]
 have f9:RelS G [4,23] a0.tmps cB (xz<|xj w) G w 82 [.v<|ZK h] a0 w qA:=by
  refine⟨⟨{F:=G,bl:=λ_ _=>U,K:=G},⟨⟨Z0,hG,Ze8,Z1,Z1,Z1,hG,Z1,Ze8⟩,λt _ hk=> ?_,λt hh=> ?_⟩,rfl⟩,λp A=> ?_,.refl _ _,by rw[<-a4];simp[d5],by rw[<-a4]⟩;rw[Yu]at hk⊢;by_cases e:t=0;subst e;exact⟨_,t0,ZK h,by rw[i0];rfl,g9.mono λb a=>.inl a⟩;simp[qA,SS.at,ZgQ e,TK.bj]at hk;refine absurd ?_ hh;rw[Yu];split<;>exact VK _;simp only[qA,SS.at]at A;split at A<;>cases A
 refine .cy (ID Z2 r0c f9 (N:=λZ=>get Z 1=.m [vu h.base,vi h.cap,vi h.to,.bool h.Z,vi h.aa,.sl<|h.H.map vu,.sl<|h.ac.map vu,.sl<|h.ah.map vu,.sl<|h.aj.map vu,.sl<|h.E.map vu]/\get Z 2=.m [.sl [],.sl []]/\get Z 3=.v (vi 0)) (X:=λ_ _=>False) (Rt:=λ_=>False) (by simp[r0]) (base 15) _ C B (by simp[base]) λe a1 w1 A=> ?_);cases e with
 |exit id=>let⟨_,_,_,h,_⟩:=A;exact h.elim
 |ret=>let⟨_,_,_,h,_⟩:=A;exact h.elim
 |normal=>
  let⟨s1,S1,f4,⟨q1,q2,q3⟩,c8⟩:=A;cases f4;have b6:=c8.2.2.1.below;refine .cy (ID Z2 rXc c8.base (N:=λZ=>YI h=xk/\get Z 1=get s1 1/\get Z 3=get s1 3) (X:=λ_ _=>False) (Rt:=λZ=>YI h=xw/\Wv Z [(2,.ag 2),(3,.v)]=J (.an [Yh Uv,vi 1])) ?_ (base 15) _ C B (by simp[base]) λe a2 w2 A=> ?_);simp[rX,q1];refine Zy W Z1 ?_;cases i2:YI h;simp[YY,Uv,Yh];simp[YY,q1];cases e with
  |exit id=>let⟨_,_,_,h,_⟩:=A;exact h.elim
  |ret=>
   let⟨s2,S2,H,⟨e1,e2⟩,l⟩:=A;have H:S2=CJ:=by simpa using H
   subst H;have a6:=b6.trans l.2.2.1.below;intro h8;refine hK _ w2 rfl ⟨rfl,l.2.2.2.2,rfl,_,Try.func15,λd=> ?_⟩;let⟨⟨h2,k1,k2⟩,k3,k4,k5,k6⟩:=l.me d
   let⟨v,hv,a9⟩:=LA (c:=cB) (f:=Try.f15) (D:=λb=>(xw=xw/\G b)\/(xz (xj w)<=b/\b< xz (xj<|w2.at d))) k1 k3 (λb a=>by
    obtain Q|Q:=k1.ok.cr b a;exact .inl ⟨rfl,Q⟩;exact .inr ⟨Q,k1.ok.bm b a⟩) (λr hr=>⟨Zfe.1 (Z2:(Try.f15.results.toList.all<|Qg (Yl Try.prog) CJ)=xk) r hr,λi b a=>.inr ⟨(k1.ok.aq _ _ b a).1,(k1.ok.aq _ _ b a).2.1⟩⟩) (x:=.an [Yh Uv,vi 1]) (by rw[<-e2];exact Zgb (Wv s2) Z2)
   refine⟨v,hv,v,rfl,Z0h a6 d,?_⟩;unfold Jn;rw[if_neg (by rw[e1];simp)];exact a9
  |normal=>
   let⟨s2,S2,H,⟨e1,e2,e3⟩,l⟩:=A;cases H;have a6:=b6.trans l.2.2.1.below;have S:=hk e1;let⟨F,b1,b2,T1,T2,x,hF,h0,h3,f2,f3,f1,h9,t1,t2,t3,d7,d8,g5⟩:=Z59 (h:=h) l Ze8 Ze8;have d6:=l.2.2.2.1;have f5:=l.2.2.2.2;have l1:=(Zf8.1 d7).1;have l2:=(Zf8.1 d8).1;let⟨o,o1,o2,o3,o4⟩:=Z5g;let⟨o',p1,p2,p3,p4⟩:=Z5h;let⟨dir,inf,g8,c1⟩:=Z1m;refine .cy ?_;rw[Z6r];refine .region ?_;rw[IP.1,show List.range 2=[0,1]from rfl];refine Walk.chan (i:=0) o1 (by simp[Region.wanted,o2]) (by simp[base]) o4 g8 c1 ?_;rw[o3];generalize hc:xz (xj w2)=c;obtain⟨w3,L⟩:∃w3,w3=w2.alloc (.chan 0 #[] xw 0 0 xw):=⟨_,rfl⟩;rw[<-L];have b4:((a2.put (J 18)<|.chan<|J c).eval<|.tmp 18)=.chan (J c):=Act.al _ 18 _<|RJ Z0;refine Walk.val (i:=1) (v:=.chan<|J c) p1 (by simp[Region.wanted,p2]) (by simp[base]) (by rw[p4];rfl) (λw' _=>by unfold execOp;simp only[p4,b4];rfl)<|.gl ?_;rw[p3];have z3:xz (xj w3)=c+1:=by rw[L,<-hc];simp
   have b7:w3.heap[c]?=J (.chan 0 #[] xw 0 0 xw):=by rw[L,<-hc];exact ZfG ..
   have R:∀b,b<c->w3.heap[b]?=w2.heap[b]? :=λb a=>by rw[L];exact Zfp _ _ _ Z0
   have z:Below (xz<|xj w) w w3:=by rw[L];exact a6.alloc Z0 _
   have m1:=(R b1 Z0).trans d7;have m2:=(R b2 Z0).trans d8;let⟨o0,e0,e4,e5,b0⟩:=Z5i;let⟨o9,e6,e7,e8,b3⟩:=Z5j;refine .cy ?_;rw[Z6s];refine .region ?_;rw[IP.2,show List.range 3=[0,1,2]from rfl];generalize q:(a2.put (J 18)<|.chan<|J c).put (J 4) (.chan<|J c)=a3;have g1:a3.tmps[1]?=J (.pointer<|J ⟨b1,0,U⟩):=by rw[<-q,WK Z0,WK Z0];exact t1
   have g4:a3.tmps[4]?=J (.chan<|J c):=by rw[<-q];exact RJ (by rw[SJ];omega)
   have gs:a3.tmps.size=82:=by rw[<-q,SJ,SJ];exact d6
   have e9:=Act.al _ 1 _ g1;refine Walk.val (i:=0) (v:=ZN h x) e0 (by simp[Region.wanted,e4]) (by simp[base]) (by rw[b0];rfl) (λw' he=> ?_) ?_
   have hl:=qS (P:=Try.prog) (w:=w') (T:=37) Z2 Z2 (b:=b1) (o:=0) [.int .u64 h.base,.int .i64 h.cap,.int .i64 h.to,.bool h.Z,.int .i64 h.aa,x 0,x 1,x 2,x 3,x 4] Z2 (λi u hi=>by
    rw[ZfQ,Zfg w' b1 i _ T1 (0,0) (by rw[he];exact m1)];simpa using hi)
   unfold execOp;simp only[b0,e9];rw[ZfO,hl];rfl;rw[e5];have f0:(a3.put (J 19)<|ZN h x).eval (.tmp 4)=.chan (J c):=Act.al _ 4 _ (by rw[WK Z0];exact g4);refine Walk.val (i:=1) (v:=.chan<|J c) e6 (by simp[Region.wanted,e7]) (by simp[base]) (by rw[b3];rfl) (λw' _=>by unfold execOp;simp only[b3,f0];rfl) ?_;rw[e8];generalize k:(a3.put (J 19)<|ZN h x).put (J 20) (.chan<|J c)=M;have u1:M.tmps[1]?=J (.pointer<|J ⟨b1,0,U⟩):=by rw[<-k,WK Z0,WK Z0];exact g1
   have u4:M.tmps[4]?=J (.chan<|J c):=by rw[<-k,WK Z0,WK Z0];exact g4
   have us:M.tmps.size=82:=by rw[<-k,SJ,SJ];exact gs
   have u2:M.tmps[2]?=J (.pointer<|J ⟨b2,0,U⟩):=by rw[<-k,WK Z0,WK Z0,<-q,WK Z0,WK Z0];exact t2
   have u3:M.tmps[3]?=J (.int .i64 0):=by rw[<-k,WK Z0,WK Z0,<-q,WK Z0,WK Z0];exact t3
   have h6:M.tmps[19]?=J (ZN h x):=by rw[<-k,WK Z0];exact RJ Z0
   have h7:M.tmps[20]?=J (.chan<|J c):=by rw[<-k];exact RJ (by rw[SJ];omega)
   have ud:M.defers=[]:=by rw[<-k,<-q];exact f5
   let K:=λb=>F b/\∃C e O,w3.heap[b]?=J (.cells C e O);have a7:∀j,j<5->Rd w3 K (.sl<|(Zv h j).map vu) (x j):=λj hj=>by
    have Q:=Z6F (g5 j hj)<|Iz _;refine Q.keep (λb a=>R b ?_) λb a=>⟨a.1,?_⟩;let⟨_,C,e,O,a⟩:=a;have:=(Zf8.1 a).1;omega;let⟨_,C,e,O,a⟩:=a;exact⟨C,e,O,by rw[R b (by have:=(Zf8.1 a).1;omega)];exact a⟩
   let⟨n0,c6,c0,f6⟩:=G0 w3<|M.tmps++ #[x 0,x 1,x 2,x 3,x 4];have hx:∀j,j<5->FixV n0 (x j):=λj hj=>by
    refine c0 _<|ZgC.2<|.inr ?_
    match j,hj with
    |0,_=>simp
    |1,_=>simp
    |2,_=>simp
    |3,_=>simp
    |4,_=>simp
    |j+5,h=>omega
   have b8:c<n0:=Z0;have h4:¬K b1:=λh=>h0 h.1;have h5:¬K b2:=λh=>h3 h.1;have b5:∀b,K b->b<xz (xj w3):=λb ⟨_,_,_,_,a⟩=>(Zf8.1 a).1;have d9:¬K c:=λ⟨_,_,_,_,a⟩=>by rw[b7]at a;cases a
   refine Walk.ul (KA:=K) (KB:=K) (OA0:=λb=>b=b1\/b=b2) (c:=c) (λw=>Z2h (by simp[base]) h6 h7 w)
    (Z4g (fs:=Ts h x 4 0) (fin:=ZZ h) hh us ud u1 u2 u3 u4 m1 m2 Z0 f2 f3 f1 h4 h5 c6 b8 (λb a=>a.2) Z0 (λv hv=>c0 v<|ZgC.2<|.inl hv) hx a7 (Z28 S a7) (Gi h x 4 0) (by
     have:=S.n;rw[<-Au h x 4 0,ZfC]at this;exact this) (by rw[Au];rfl) S.sm)
    (Z1n hh c6 b8 (λb a=>a.2) (λb o ho a=>by
     let⟨_,C,e,O,he⟩:=a;rw[ho]at he;cases he;exact f6 b C e O ho) hx a7 S.ob) b7 Z0 b5 b5 (λb a=>by obtain rfl|rfl:=a<;>assumption) Z0 d9 d9 ?_
   rintro OA g w' ⟨O,rfl,b9,hm,hd,f8,d0⟩ g6 a8 c7 i1 f7;refine⟨O,C,rfl,hK O w' b9 ⟨hm,hd,f8,_,by rw[b9];exact Try.func15,λd=> ?_⟩⟩;let⟨v,hv,a9⟩:=d0 d;refine⟨v,hv,v,rfl,⟨(Zgb Prod.fst c7).trans z.os,a8.trans z.tape,(Zgb Prod.snd c7).trans z.output,ZfB z.size g6,λb a=>(f7 b (by have:=z.size;omega) Z0 Z0).trans<|z.block b a⟩,?_⟩;unfold Jn;rw[if_pos e1];refine a9.mono λb a=> ?_;let⟨a,c5⟩:=a;obtain a|a:=a;obtain Q|Q:=hF b a.1;exact .inl ⟨rfl,Q⟩;exact .inr ⟨Q,c5⟩;exact .inr ⟨a,c5⟩
  |_=>exact A.elim
 |_=>exact A.elim
#print axioms Eb
end Vm
end
section
namespace Vm
open Go Go.Proofs
section
section
variable {h:Hp}{p:Pts}
def Vx(h:Hp){q:Nat}(a:q<4):Zx h ((q:Int)+1)=Zv h q:=by
 have:q=0\/q=1\/q=2\/q=3:=Z0;obtain rfl|rfl|rfl|rfl:=this<;>rfl
def Rt.bz(r:Rt h p){q:Nat}(a:q<4):obP h q=p.at ((q:Int)+1):=by
 unfold Vm.obP;rw[r.uo Z0]
def UU{f:Fo}:∀ {n q:Nat},f∈X6 h n q->∃k o,q<=k/\k<q+n/\o∈obP h k/\f=ZC h k o
 |0,q,a=>by simp[X6]at a
 |n+1,q,a=>by
  simp only[X6,Zfy,Zfj]at a;obtain⟨o,g,rfl⟩|a:=a;exact⟨q,o,Z0,Z0,g,rfl⟩;obtain⟨k,o,j,l,d⟩:=UU a;exact⟨k,o,Z0,Z0,d⟩
def KU{k:Nat}{o:Ob}(a:o∈obP h k):∀ {n q:Nat},q<=k->k<q+n->ZC h k o∈X6 h n q
 |0,q,d,f=>Z0
 |n+1,q,d,f=>by
  simp only[X6,Zfy,Zfj];by_cases e:k=q;subst e;exact .inl ⟨o,a,rfl⟩;exact .inr<|KU a Z0 Z0
def Z6p(s:Vw)(f:Fo):(s.put f).ns=s.ns++if f.ob.gone then []else [f]:=by
 unfold Vw.put;split<;>simp
def Gc:∀(l:List Fo) (s:Vw),(l.foldl Vw.put s).ns=s.ns++l.filter λf=> !f.ob.gone
 | [],s=>Z1
 |f::l,s=>by
  rw[ZgN,Gc l,Z6p];cases a:f.ob.gone<;>simp[a]
def jq(h:Hp):(ZZ h).ns=(X6 h 4 0).filter λf=> !f.ob.gone:=by
 unfold ZZ;rw[Gc];rfl
def L7(r:Rt h p){q:Nat}(a:q<4):I (obP h q)<=I (Zv h q):=by
 have t:=r.ak ((q:Int)+1) Z0;have:=t.sum<|Zga _;rw[Vx h a,<-r.bz a]at this;have d:I (obP h q)<=Wx (obP h q):=by
  generalize obP h q=l;induction l with
  |nil=>simp
  |cons o l f=>simp only[Wx,ZfA,Zim,Zgt]at f⊢;omega
 omega
def Rt.ls(r:Rt h p){q:Nat}(l:q<4):I (Zv h q)<=4096:=by
 obtain⟨a,d,_,_,_,⟨_,_,f,g⟩,⟨_,_,j,k⟩⟩:=Ww.1 r.bf;simp only[Zu]at*;have:q=0\/q=1\/q=2\/q=3:=Z0;obtain rfl|rfl|rfl|rfl:=this;show I h.H<=4096;omega;show I h.ac<=4096;omega;show I h.ah<=4096;omega;show I h.aj<=4096;omega
def Rt.mz(r:Rt h p){q:Nat}(f:q<4){o:Ob}(d:o∈obP h q):∃a n m:Nat,o.Y=a/\o.size=n/\o.M=m/\a+(n+1)<=I (Zv h q)/\n<=255/\m<=n:=by
 rw[r.bz f]at d;have:=r.toTld.ob Z0 d;rwa[Vx h f]at this
def lsW(a:h.ok){q:Nat}(d:q<4):∀w∈Zv h q,ZB w:=by
 have:q=0\/q=1\/q=2\/q=3:=Z0;obtain rfl|rfl|rfl|rfl:=this;exact a.gh;exact a.gu;exact a.ma;exact a.lj
def R1(r:Rt h p){q:Nat}(f:q<4){o:Ob}(d:o∈obP h q):(ZC h q o).sl.length=o.size.toNat:=by
 obtain⟨a,n,m,g,j,k,l,_⟩:=r.mz f d;simp only[ZC,Zg0,ZgI];omega
def Rt.uq(r:Rt h p)(x:h.ok):OfOk h:=by
 have F:I (X6 h 4 0)<=16384:=by
  have A:=L7 r (q:=0) Z0;have j:=L7 r (q:=1) Z0;have l:=L7 r (q:=2) Z0;have t:=L7 r (q:=3) Z0;have G:=r.ls (q:=0) Z0;have k1:=r.ls (q:=1) Z0;have H:=r.ls (q:=2) Z0;have K:=r.ls (q:=3) Z0;simp only[X6,ZfN,ZfC,Zgc,ZfQ,Nat.reduceAdd];omega
 refine⟨λq g=>⟨by have:=L7 r g;have:=r.ls g;omega,λo d=> ?_⟩,Z0,⟨?_,λf u=> ?_,by have:=r.fk;omega,x.dq⟩⟩;obtain⟨a,n,m,j,l,t,y,_⟩:=r.mz g d;omega;rw[jq];have:=Zid (λf:Fo=> !f.ob.gone)<|X6 h 4 0;omega;rw[jq]at u;obtain⟨k,o,_,D,d,rfl⟩:=UU (Zhn.1 u).1;obtain⟨a,n,m,j,l,t,y,B,C⟩:=r.mz Z0 d;have e:=R1 r Z0 d;refine⟨by show 0<=o.M;omega,by show o.M<=_;rw[e];omega,by rw[e];omega,λw z=>lsW x (q:=k) Z0 w ?_⟩;exact Zhl<|Zgf z
def ofOk(a:h.ok)(d:YI h=xk):OfOk h:=by
 obtain⟨p,r⟩:=LC.1 d;exact r.uq a
end
def l4{h:Hp}(a:h.ok):VC (Yl Try.prog) 15 xw [ZK h]<|Jn h:=Eb a<|ofOk a
end
section
structure VwI (d:List Fo) (s:Vw):Prop where
 ns:s.ns=d.filter λf=> !f.ob.gone
 n1:∀a j,Y2 s.nm a=J j->∃i:Nat,j=i/\∃f,s.ns[i]?=J f/\f.ad=a
 n2:∀f∈s.ns,(Y2 s.nm f.ad).isSome=xk
 t1:∀a t,Y2 s.tm a=J t->∃f∈d,f.ob.gone=xk/\f.ad=a/\f.ob.target=t
 t2:∀f∈d,f.ob.gone=xk->(Y2 s.tm f.ad).isSome=xk
def yu{α l k j}{x:α}(h:k=j\/(Y2 l j).isSome=xk):(Y2 (XO l k x) j).isSome=xk:=by
 rw[J3];split;rfl;rename_i a;obtain h|h:=h;exact absurd h a;exact h
theorem VwI.put{d s f}(i:VwI d s):VwI (d++[f])<|s.put f:=by
 cases l:f.ob.gone;have e:s.put f= {s with ns:=s.ns++[f],nm:=XO s.nm f.ad (I s.ns)}:=by simp[Vw.put,l]
 rw[e];refine⟨by simp[i.ns,l],λa j o=> ?_,λx h=> ?_,λa t n=> ?_,λx h k=> ?_⟩;simp only[J3]at o;split at o;rename_i r;exact⟨I s.ns,by simpa using o.symm,f,Z1,r⟩;have⟨m,w,g,u,y⟩:=i.n1 a j o;exact⟨m,w,g,by simp only[Zfx (Zf3.1 u).1,u],y⟩;obtain h|h:=Zfy.1 h;exact yu<|.inr<|i.n2 x h;rw[Zg2.1 h];exact yu<|.inl rfl;have⟨g,p,q⟩:=i.t1 a t n;exact⟨g,by simp[p],q⟩;obtain h|h:=Zfy.1 h;exact i.t2 x h k;rw[Zg2.1 h,l]at k;exact absurd k Z1;have e:s.put f= {s with tm:=XO s.tm f.ad f.ob.target}:=by simp[Vw.put,l]
 rw[e];refine⟨by simp[i.ns,l],i.n1,i.n2,λa t n=> ?_,λx h k=> ?_⟩;simp only[J3]at n;split at n;rename_i r;exact⟨f,Z1,l,r,by simpa using n⟩;have⟨g,p,q⟩:=i.t1 a t n;exact⟨g,by simp[p],q⟩;obtain h|h:=Zfy.1 h;exact yu<|.inr<|i.t2 x h k;rw[Zg2.1 h];exact yu<|.inl rfl
def VwI.sg:∀ {l d} {s:Vw},VwI d s->VwI (d++l) (l.foldl Vw.put s)
 | [],d,s,i=>by simpa using i
 |f::l,d,s,i=>by
  have:=VwI.sg (l:=l)<|i.put (f:=f);rwa[ZfM]at this
def SA h:VwI (X6 h 4 0)<|ZZ h:=by
 have:VwI [] ⟨[],[],[]⟩:=⟨rfl,by simp[Y2],Z1,by simp[Y2],Z1⟩;exact this.sg (l:=X6 h 4 0)
section
variable {h:Hp}{p:Pts}
def R0(r:Rt h p){q}(d:q<4){o}(f:o∈obP h q):(ZC h q o).ad=fstL (Zu h) (q+1)+o.Y:=by
 have⟨a,n,m,g,j,k,l,_⟩:=r.mz d f;show(Y5 (Zu h) (q+1) o.Y).1=_;rw[RH r.bf Z0 (by rw[Td Z0,Vx h d];omega)]
def J1(r:Rt h p){f g}(u:f∈X6 h 4 0)(w:g∈X6 h 4 0)(e:f.ad=g.ad):f=g:=by
 obtain⟨k,o,_,z,l,rfl⟩:=UU u;obtain⟨j,q,_,y,n,rfl⟩:=UU w;rw[R0 r Z0 l,R0 r Z0 n]at e;have a:=l;have d:=n;rw[r.bz Z0]at a d;have⟨x,t⟩:=r.toTld.inj Z0 Z0 a d (by unfold ZM;omega);have:k=j:=Z0;subst this;rw[t]
def Wu{f}:f∈(ZZ h).ns↔f∈X6 h 4 0/\f.ob.gone=xw:=by
 rw[(SA h).ns];simp
def Rt.lh(r:Rt h p){f}(d:f∈X6 h 4 0)(n:f.ob.gone=xw):∃i:Nat,Y2 (ZZ h).nm f.ad=J (i:Int)/\(ZZ h).ns[i]?=J f:=by
 have⟨j,k⟩:=Zg9.1<|(SA h).n2 f<|Wu.2 ⟨d,n⟩;obtain⟨i,rfl,g,a,l⟩:=(SA h).n1 _ _ k;have:=J1 r (Wu.1<|Zfc a).1 d l;subst this;exact⟨i,k,a⟩
def Rt.mg(r:Rt h p){f}(a:f∈X6 h 4 0)(d:f.ob.gone=xw){w}(q:w≠0)(n:(adr w).1=f.ad):∃i:Nat,(ZZ h).cl w=i/\(ZZ h).ns[i]?=J f:=by
 have⟨i,k,l⟩:=r.lh a d;refine⟨i,?_,l⟩;have:Y2 (ZZ h).tm f.ad=U:=by
  cases o:Y2 (ZZ h).tm f.ad with
  |none=>rfl
  |some t=>
   have⟨g,k1,j,u,_⟩:=(SA h).t1 _ _ o;rw[J1 r k1 a u,d]at j;exact absurd j Z1
 unfold Vw.cl;rw[if_neg q,n,this,ZiU,k,Zfw]
def Rt.re(r:Rt h p){f g}(a:f∈X6 h 4 0)(o:f.ob.gone=xk)(gf:g∈X6 h 4 0)(j:g.ob.gone=xw)(q:f.ob.target=g.ad){w}(u:w≠0)(n:(adr w).1=f.ad):∃i:Nat,(ZZ h).cl w=i/\(ZZ h).ns[i]?=J g:=by
 have⟨i,k,l⟩:=r.lh gf j;refine⟨i,?_,l⟩;have⟨t,e⟩:=Zg9.1<|(SA h).t2 f a o;have⟨x,k1,z,y,d⟩:=(SA h).t1 _ _ e;rw[J1 r k1 a y,q]at d;unfold Vw.cl;rw[if_neg u,n,e,Zfw,<-d,k,Zfw]
def Rt.bu(r:Rt h p){q}(g:q<2){o}(a:o∈obP h q):o.gone=xw:=by
 rw[r.bz Z0]at a;have⟨w,_,d⟩:=((r.ak (q+1) Z0).ba o a).1.word;cases f:o.gone;rfl;rw[f,if_pos rfl]at d;have:=d.1;simp at this;omega
def Rt.iw(r:Rt h p){w i j}(t:1<=i/\i<=4)(u:1<=j/\j<=4)(n:Gos h p w i j)(g:w≠0):∃(q:Nat) (o:Ob),q<4/\((q+1=i)\/(q+1=j))/\o∈obP h q/\w=2*(ZC h q o).ad+1/\(adr w).1=(ZC h q o).ad:=by
 obtain rfl|⟨k,o,l,f,rfl⟩:=n;exact absurd rfl g;obtain⟨q,rfl,d⟩:∃q:Nat,k=q+1/\q<4:=⟨(k-1).toNat,Z0,Z0⟩;have a:o∈obP h q:=by rw[r.bz d];exact f
 refine⟨q,o,d,l,a,?_,?_⟩;rw[R0 r d a];rfl;rw[r.toTld.kw Z0 f,R0 r d a]
def Rt.rz(r:Rt h p){w i j}(B:1<=i/\i<=4)(C:1<=j/\j<=4)(H:Gos h p w i j)(k:w≠0):∃(n:Nat),(ZZ h).cl w=n/\n< (ZZ h).ns.length:=by
 have⟨q,o,F,L,x,_,y⟩:=r.iw B C H k;have z:ZC h q o∈X6 h 4 0:=KU x Z0 Z0;cases d:o.gone;have⟨n,l,u⟩:=r.mg z d k y;exact⟨n,l,(Zf3.1 u).1⟩;have K:2<=q:=by
  by_cases D:q<2;rw[r.bu D x]at d;exact absurd d Z1;omega
 have f:=x;rw[r.bz F]at f;have⟨t,G,A,_⟩:=r.gone (q+1) Z0 o f d;have a:t∈obP h 0:=by rw[r.bz Z0];exact G
 have⟨n,l,u⟩:=r.re z d (g:=ZC h 0 t) (KU a Z0 Z0) (r.bu Z0 a) (by rw[R0 r Z0 a];exact A) k y;exact⟨n,l,(Zf3.1 u).1⟩
def Rt.rf(r:Rt h p){w i j}(f:1<=i/\i<=4)(g:1<=j/\j<=4)(k:Gos h p w i j):Uq (ZZ h).ns.length ((ZZ h).cl w)=xk:=by
 by_cases a:w=0;subst a;simp[Vw.cl,Uq];omega;have⟨n,d,l⟩:=r.rz f g k a;rw[d];simp[Uq];omega
def Rt.gn(r:Rt h p){w}(t:Gos h p w 1 2)(a:w≠0):∃(n:Nat) (f:Fo),(ZZ h).cl w=n/\(ZZ h).ns[n]?=J f/\w=2*f.ad+1:=by
 have⟨q,o,x,u,d,e,k⟩:=r.iw Z0 Z0 t a;have l:ZC h q o∈X6 h 4 0:=KU d Z0 Z0;have⟨n,g,j⟩:=r.mg l (r.bu Z0 d) a k;exact⟨n,_,g,j,e⟩
def Rt.sb(r:Rt h p){w v}(t:Gos h p w 1 2)(q:Gos h p v 1 2)(e:(ZZ h).cl w=(ZZ h).cl v):w=v:=by
 have z:(ZZ h).cl 0= -1:=by simp[Vw.cl]
 by_cases j:w=0;by_cases a:v=0;rw[j,a];have⟨n,f,k,l,o⟩:=r.gn q a;rw[j,z,k]at e;omega;have⟨n,f,k,l,o⟩:=r.gn t j;by_cases a:v=0;rw[a,z,k]at e;omega;have⟨m,g,k1,d,u⟩:=r.gn q a;have:n=m:=Z0;subst this;rw[l]at d;injection d with d;rw[o,u,d]
def qw{k i w}(d:XZ h p k i w):∃a b,(1<=a/\a<=4)/\(1<=b/\b<=4)/\Gos h p w a b:=by
 unfold XZ at d;split at d;exact⟨3,4,Z0,Z0,d⟩;split at d;obtain d|d:=d;exact⟨1,2,Z0,Z0,d⟩;exact⟨3,4,Z0,Z0,d⟩;exact⟨1,2,Z0,Z0,d⟩
def Rt.mi(r:Rt h p){d}(H:I d<=16)(K:∀w∈d,Gos h p w 1 2):Vm.right ((ZZ h).gr d)=xk:=by
 simp only[Vm.right,Zf6,Zfe,Zfv,Vw.gr,ZfC,Zfj];refine⟨⟨H,?_⟩,?_⟩;rintro _ ⟨f,C,rfl⟩;have⟨u,D⟩:=Wu.1 C;obtain⟨q,o,_,R,x,rfl⟩:=UU u;have⟨a,n,m,L,M,N,O,P,Q⟩:=r.mz Z0 x;have e:=R1 r Z0 x;simp only[Sc,Vv,Zf6,Zfe,Zfv,ZfC,Zg0,ZgI,Zfj];refine⟨Z0,?_⟩;rintro _ ⟨w,z,rfl⟩;have⟨j,g⟩:=Zfo z;have l:=(Zf3.1 g).1;rw[Zg0]at l;have y:(ZC h q o).ob.M=o.M:=rfl;rw[y]at g l;rw[ZfF Z0]at g;have t:=x;rw[r.bz Z0]at t;have A:(Zx h<|q+1)[o.Y.toNat+1+j]?=J w:=by
  rw[Vx h Z0];simp only[ZC]at g;rw[ZfF Z0,Zfu]at g;rw[<-g];congr 1;omega
 have⟨i,k,F,G,B⟩:=qw<|r.ptr (q+1) Z0 o t D j Z0 w A;exact r.rf F G B;rintro _ ⟨w,z,rfl⟩;exact r.rf Z0 Z0<|K w z
def Lj{s q}:∀ {l},(∀o∈l,(ZC h q o).sl.length=o.size.toNat/\0<=o.size/\o.M<=o.size)->((((l.map<|ZC h q).filter λf=> !f.ob.gone).map<|Vv s).map Uu).sum=Y1 l
 | [],_=>rfl
 |o::l,g=>by
  have j:=Lj (s:=s) (l:=l) λx p=>g x (by simp[p]);have⟨k,r,t⟩:=g o Z1;have n:Y1 (o::l)=XY o+Y1 l:=by simp[Y1]
  rw[n,ZfA,List.filter_cons];have a:(ZC h q o).ob=o:=rfl;cases d:o.gone;simp only[a,d,Bool.not_false,Zg1,ZfA,Zim,j];congr 1;simp only[Uu,Vv,ZfC,Zg0,ZgI,XY,d,a,k,Zfm,Zg3];omega;simp only[a,d,ZhP,j,XY,Zfm,Zg1,Zg3,ZfQ]
def DR:∀ {l},(∀o∈l,o.gone=xw)->(∀o∈l,0<=o.size)->(Y1 l:Int)=Wx l
 | [],_,_=>rfl
 |o::l,d,f=>by
  have j:=DR (l:=l) (λx a=>d x<|by simp[a]) (λx a=>f x<|by simp[a]);have g:Y1 (o::l)=XY o+Y1 l:=by simp[Y1]
  have h:Wx (o::l)=1+o.size.toNat+Wx l:=by simp[Wx]
  rw[g,h,XY,d o Z1];simp;omega
def Rt.mj(r:Rt h p)d:(XX ((ZZ h).gr d).nodes:Int)=I h.H+I h.ac+Xb p:=by
 have g:∀q,q<4->∀o∈obP h q,(ZC h q o).sl.length=o.size.toNat/\0<=o.size/\o.M<=o.size:=λq l o f=>by
  have⟨a,n,m,A,B,C,D,F,G⟩:=r.mz l f;exact⟨R1 r l f,Z0,Z0⟩
 have e:XX ((ZZ h).gr d).nodes=Y1 (obP h 0)+(Y1 (obP h 1)+(Y1 (obP h 2)+Y1 (obP h 3))):=by
  unfold XX Vw.gr;rw[jq h];simp only[X6,List.filter_append,Zgg,Ziu,Zgl,ZfU,ZfQ,Nat.reduceAdd];rw[Lj<|g 0 Z0,Lj<|g 1 Z0,Lj<|g 2 Z0,Lj<|g 3 Z0]
 have x:=(r.ak 1 Z0).sum<|Zga _;have y:=(r.ak 2 Z0).sum<|Zga _;have j:obP h 0=p.at 1:=r.bz Z0;have k:obP h 1=p.at 2:=r.bz Z0;have t:obP h 2=p.at 3:=r.bz Z0;have u:obP h 3=p.at 4:=r.bz Z0;have z:=DR (λo f=>r.bu (q:=0) Z0 f) (λo f=>(g 0 Z0 o f).2.1);have w1:=DR (λo f=>r.bu (q:=1) Z0 f) (λo f=>(g 1 Z0 o f).2.1);rw[j]at z;rw[k]at w1;rw[e,j,k,t,u];have w:Zx h 1=h.H:=rfl;have p2:Zx h 2=h.ac:=rfl;rw[w]at x;rw[p2]at y;have:Xb p=Y1 (p.at 3)+Y1 (p.at 4):=rfl;omega
end
end
end Vm
end
section
namespace Vm
open Go
open Go.Proofs
def p4:Fn:=⟨16,[0,1,2,3,4,5,6,7,55,8,60,86,9,89,114,10],pQ [pR [(1,pS 0 7),pV 2 pF],pC [pK 16 13 []] [pV 3<|.s 16],pC [pK 17 16 [.mm 1 0 7]] [(4,pS 17 10)],pC [pK 18 20 [.mm 4 0 10]] [pV 5<|.s 18],pC [pK 19 15 [.mm 4 0 10]] [(6,pM (.sz (.ext (.s 19) 0) 2) 2),pV 7<|.ext (.s 19) 1],pQ [.am ⟨[.lt 20 []<|pn (.s 7)<|pI 0,.call 21 [(20,xw)] (.id 21) xw xw [.mm 6 0 2],.lt 22 []<|.ite (.s 20) pT<|pn (.s 5)<|.s 21,.lt 23 []<|.ite (.s 22) pT<|pl (.s 5)<|pI 0,.call 24 [(23,xw)] (.id 22) xw xw [.mm 4 0 10],.lt 25 []<|.ite (.s 23) pT<|pj (.s 5)<|pa (pa (.len<|.m 4 5)<|.len<|.m 4 6)<|.s 24],[([(20,xw)],pn (.s 5)<|.s 21),([(22,xw)],pl (.s 5)<|pI 0),([(23,xw)],pj (.s 5)<|pa (pa (.len<|.m 4 5)<|.len<|.m 4 6)<|.s 24),([(25,xw)],pn (.len<|.m 6 1)<|.len<|.m 4 9)],[pV 8<|.ite (.s 25) pT<|pn (.len<|.m 6 1)<|.len<|.m 4 9]⟩]<|pw (.s 8)<|px [pV 2 pF],pQ [pR [pV 9<|pI 0]]<|.block 0<|.loop [0,1,2,3,4,5,6,7,8,9]<|pQ [pu 10 (pl (.s 9)<|.len<|.m 4 9) .skip<|.exit 0,.block 1<|pQ [pQ [.am ⟨[.lt 26 []<|.dy xk (pe (.ae (.ao (.m 4 9) (.s 9) 1) 0)<|pU 0)<|pe (.ae (.ao (.m 6 1) (.s 9) 1) 0)<|pI<|-1],[([(26,xw)],pg (.ae (.ao (.m 6 1) (.s 9) 1) 0)<|.len<|.m 6 0)],[pV 11<|.ite (.s 26) pT<|pg (.ae (.ao (.m 6 1) (.s 9) 1) 0)<|.len<|.m 6 0]⟩]<|pw (.s 11)<|px [pV 2 pF],pR [pV 12<|pI 0]]<|.block 2<|.loop [0,1,2,3,4,5,6,7,8,9,10,11,12]<|pQ [pu 13 (pl (.s 12)<|.s 9) .skip<|.exit 2,.block 3<|pi 14 (.dy xk (pe (.ae (.ao (.m 4 9) (.s 9) 1) 0)<|.ae (.ao (.m 4 9) (.s 12) 1) 0)<|pe (.ae (.ao (.m 6 1) (.s 9) 1) 0)<|.ae (.ao (.m 6 1) (.s 12) 1) 0)<|px [pV 2 pF]]<|pc 12]<|pc 9,pR [(15,pM (.mm 4 0 10) 10)],pR [(15,.m [.m 15 0,.m 15 1,.m 15 2,.m 15 3,.m 15 4,.m 15 5,.m 15 6,.m 15 7,.m 15 8,.mk (.int .u64 0)<|.len<|.m 4 9])],.am ⟨[.lt 27 []<|.s 3,.call 28 [(27,xk)] (.id 20) xw xk [.mm 15 0 10]],[([(27,xk)],pe (.s 28)<|pI 0)],[pV 2<|.ite (.s 27) (pe (.s 28)<|pI 0) pF]⟩] .ret,[(2,.v)]⟩
def c4:ZL (Yl Try.prog) fresh sig [.fz] [] Try.f4=J p4:=Z2
def p13:Fn:=⟨9,[0,1,2,3,4,5,6,7,8],pQ [pR [pV 0 pF],.am ⟨[],[([],.ag [pU 10,pI 5,pI 0,pF,pI 2,.lit [pU 2,pU 6],pN,pN,pN,.lit [pU 21,pU 0]])],[(1,.m [pU 10,pI 5,pI 0,pF,pI 2,.lit [pU 2,pU 6],pN,pN,pN,.lit [pU 21,pU 0]])]⟩,pC [pK 9 15 [.mm 1 0 10]] [(2,pM (.sz (.ext (.s 9) 0) 2) 2),pV 3<|.fl<|.ext (.s 9) 1],pC [pK 10 15 [pY]] [(4,pM (.sz (.ext (.s 10) 0) 2) 2),pV 5<|.ext (.s 10) 1],.am ⟨[],[([],.ag [pU 10,pI 5,pI 1,pT,pI 0,.lit [pU 2,pU 6],pN,.lit [pU 31,pU 0],pN,.lit [pU 31,pU 0]])],[(6,.m [pU 10,pI 5,pI 1,pT,pI 0,.lit [pU 2,pU 6],pN,.lit [pU 31,pU 0],pN,.lit [pU 31,pU 0]])]⟩,pC [pK 11 15 [.mm 6 0 10]] [(7,pM (.sz (.ext (.s 11) 0) 2) 2),pV 8<|.fl<|.ext (.s 11) 1],.am ⟨[.lt 12 []<|pe (.s 3)<|pI 0,.call 13 [(12,xk)] (.id 18) xw xw [.mm 2 0 2,.ag [.lit [.ag [pN,.lit [pU 6]]],.lit [pI 0,pI<|-1]]],.lt 14 []<|.ite (.s 12) (.s 13) pF,.lt 15 []<|.ite (.s 14) (pe (.s 5)<|pI 1) pF,.lt 16 []<|.ite (.s 15) (pe (.s 8)<|pI 0) pF,.call 17 [(16,xk)] (.id 18) xw xw [.mm 7 0 2,.mm 2 0 2],.lt 18 []<|.ite (.s 16) (.s 17) pF,.call 19 [(18,xk)] (.id 20) xw xw [.mm 1 0 10],.lt 20 []<|.ite (.s 18) (pe (.s 19)<|pI 2) pF,.call 21 [(20,xk)] (.id 20) xw xw [pY]],[([(14,xk)],pe (.s 5)<|pI 1),([(15,xk)],pe (.s 8)<|pI 0),([(18,xk)],pe (.s 19)<|pI 2),([(20,xk)],pe (.s 21)<|pI 0)],[pV 0<|.ite (.s 20) (pe (.s 21)<|pI 0) pF]⟩] .ret,[(0,.v)]⟩
def c13:ZL (Yl Try.prog) fresh sig [] [] Try.f13=J p13:=Z2
def Mj:Fn:=⟨6,[0,1,2,3,4,11],pQ [pR [(1,pS 0 10),pV 2<|pI 0],pC [pK 6 15 [.mm 1 0 10]] [(3,pM (.sz (.ext (.s 6) 0) 2) 2),pV 4<|.ext (.s 6) 1],pi 5 (pn (.s 4)<|pI 0)<|px [pV 2<|pI 0],pC [pK 7 21 [.mm 3 0 2]] [pV 2<|.s 7]] .ret,[(2,.v)]⟩
def c20:ZL (Yl Try.prog) fresh sig [.fz] [] Try.f20=J Mj:=Z2
end Vm
end
section
namespace Vm
open Go Go.Proofs
theorem RV{P:Z5}{f:Zq}{fn:Func}{c:Code}(j:P.funcs[f]?=J fn)(h2:fn.body=J c)(k:Tm P c=xk):FitF (Yl P) f:=⟨λg d h a=>by
 have e:(Yl P).funcs[f]?=P.funcs[f]? :=rfl;rw[e,j]at h;cases h;rw[h2]at a;cases a;exact F7 k⟩
def Z4N(l:Z8):NoM<|.sl<|l.map vi:=.sl _ λc a=>by
 have:flat (l.map vi)=l.map vi:=U2 λx d=>ZeE;rw[this]at a;obtain⟨y,_,rfl⟩:=Zfj.1 a;exact .int _ _
def yQ(g:Gr):NoM<|Yh g:=(Iw g).m
def L1{x:V}(h:NoM x):∀y∈[x],NoM y:=λy a=>by rw[Zg2.1 a];exact h
def Z4L{x z:V}(h:NoM x)(k:NoM z):∀y∈[x,z],NoM y:=λy a=>by
 simp only[Zfz,ZgT,Zib]at a;obtain rfl|rfl:=a;exact h;exact k
def up{f:Zq}{args:Zr}{r:V}(g:VC Sol.prog f xw args r)(a:∀x∈args,NoM x)(d:NoM r):VC (Yl Try.prog) f xw args r:=Hs Sol.sub g a d
def t8{g:Gr}(a:g.sm):VC (Yl Try.prog) 21 xw [Yh g]<|vi<|words g:=up (t9 a) (L1<|yQ g)<|.int _ _
def p5{a b:Gr}(d:a.sm):VC (Yl Try.prog) 18 xw [Yh a,Yh b]<|.bool<|decide (a=b):=up (r8 d) (Z4L (yQ a)<|yQ b)<|.bool _
def vg(h:Hp):Gr:=(ZZ h).gr h.E
def ofG(h:Hp):Gr×Int:=if YI h=xk/\right (vg h)=xk then(Ye<|vg h,0)else(Uv,1)
def Z58(h:Hp):Jn h=.an [Yh (ofG h).1,vi (ofG h).2]:=by
 unfold Jn ofG Vr vg;by_cases a:YI h=xk;rw[if_pos a];by_cases d:right ((ZZ h).gr h.E)=xk;rw[if_pos d,if_pos ⟨a,d⟩];rw[if_neg d,if_neg λx=>d x.2];rw[if_neg a,if_neg λx=>a x.1]
def Z57{h:Hp}(a:h.ok):(ofG h).1.sm:=by
 unfold ofG;split;rename_i k;exact Fd (ofOk a k.1).sm.gr k.2;exact⟨by simp[Uv],by simp[Uv],by simp[Uv]⟩
def jy{h:Hp}(a:h.ok):VC (Yl Try.prog) 15 xw [ZK h]<|.an [Yh (ofG h).1,vi (ofG h).2]:=by
 rw[<-Z58];exact l4 a
def liveR(h:Hp):Nat:=if(ofG h).2=0 then words (ofG h).1 else 0
instance fitLive:FitF (Yl Try.prog) 20:=RV (P:=Try.prog) Try.func20 rfl Z2
def PY{h:Hp}(d:h.ok):VC (Yl Try.prog) 20 xw [ZK h]<|vi<|liveR h:=by
 refine ZW (P:=Yl Try.prog) Try.func20 As Z2 c20 rfl ?_;have k:=jy d;have f:=Z57 d;unfold liveR;generalize ofG h=g at*;obtain⟨g,e⟩:=g;simp only at k f⊢;simp[Mj];refine Zy k Z1 ?_;by_cases a:e=0;simp[a];refine Zy (t8 f) Z1 ?_;simp;simp[a]
instance fitAwake:FitF (Yl Try.prog) 13:=RV (P:=Try.prog) Try.func13 rfl Z2
end Vm
end
section

end
section
namespace Vm
open Go Go.Proofs
def Qx(g:Gr)(x:Int):Nat:=Uu<|(g.nodes[x.toNat]?).getD default
def Ds(f:Int->Nat):∀ {L l:Z8},L.Nodup->(∀x∈L,x∈l)->(L.map f).sum<=(l.map f).sum
 | [],_,_,_=>Zga _
 |x::L,l,h,a=>by
  obtain⟨k,g⟩:=ZgP.1 h;have j:=((List.perm_cons_erase<|a x<|.head _).map f).sum_nat;have:=Ds f g (l:=l.erase x) λy d=>(List.mem_erase_of_ne (by rintro rfl;exact k d)).2<|a y<|.tail _ d;simp only[ZfA,Zim]at j⊢;omega
def Z9w(l:List Nd):XX l=((List.range<|I l).map λi:Nat=>Uu<|(l[i]?).getD default).sum:=by
 unfold XX;congr 1;apply Zgx;intro i;rw[Zfl,Zfl];by_cases h:i<I l;simp[h];rw[Zg4 Z0,Zg4 Ze9];rfl
def Fe(G:Gr):XX (Ye G).nodes=((order G).map<|Qx G).sum:=by
 unfold XX Ye;simp only[Zh0];congr 1;refine Zgr λx _=> ?_;simp only[Function.comp,SP,Uu,Qx,We,ZfC]
def Z1b{g:Gr}(a:right g=xk):words (Ye g)<=words g:=by
 unfold words;rw[if_pos a];split;rw[Fe,Z9w];have:=Ds (Qx g) (l:=(List.range<|I g.nodes).map Int.ofNat) (Jt a).1 λx d=>by
  have:=(Jt a).2 x d;exact Zfj.2 ⟨x.toNat,Ze9,Ze9⟩
 rwa[Zh0]at this;omega
def Ir:∀ {l a:Z8},(∀x∈l,x<0)->Yc a l=a
 | [],a,_=>rfl
 |x::l,a,h=>by
  have f:=h x Z1;simp only[Yc];rw[if_neg Z0];exact Ir λy d=>h y (by simp[d])
def Z5r{g:Gr}(h:∀x∈g.E,x<0):order g=[]:=by
 unfold order;rw[Ir h];simp[XE]
section
def Z4O(l:List Nd):NoM<|.sl<|l.map Yf:=by
 have h:=yQ ⟨l,[]⟩;unfold Yh at h;cases h with
 |agg _ h=>exact h _ Z1
def Z4P(x:Rw):NoM<|WO x:=.agg _ λc a=>by
 simp only[Zfz,ZgT,Zib]at a;obtain rfl|rfl|rfl|rfl|rfl|rfl|rfl:=a;all_goals first|exact .int _ _|exact Z4O _|exact Z4N _
def Ip(g:Hp)(e:Int):NoM<|.an [ZK g,vi e]:=.an _ λc a=>by
 simp only[Zfz,ZgT,Zib]at a;obtain rfl|rfl:=a;exact Jk _;exact .int _ _
def PH{h:Hp}{p:Pts}(a:h.ok)(r:Rt h p):VC (Yl Try.prog) 25 xw [ZK h]<|.bool xk:=by
 have:=up (JX a) (L1<|Jk h)<|.bool _;rwa[r.right]at this
section
variable {h:Hp}{p:Pts}
def Rt.cm(r:Rt h p):Vm.right (vg h)=xk:=r.mi r.fk r.E
def Rt.th(r:Rt h p):ofG h=(Ye<|vg h,0):=if_pos ⟨r.right,r.cm⟩
def Rt.ov(r:Rt h p):liveR h=words (Ye<|vg h):=by
 unfold Vm.liveR;rw[r.th,if_pos rfl]
end
instance fitViewLive:FitF (Yl Try.prog) 4:=RV (P:=Try.prog) Try.func4 rfl Z2
end
section
section
variable {h:Hp}{p:Pts}
def Ky(r:Rt h p){q g:Nat}(l:q<4)(f:g<4){o k:Ob}(j:o∈obP h q)(d:k∈obP h g)(a:q≠g\/o.Y≠k.Y):(ZC h q o).ad≠(ZC h g k).ad:=by
 intro e;rw[R0 r l j,R0 r f d]at e;rw[r.bz l]at j;rw[r.bz f]at d;obtain⟨t,n⟩:=r.toTld.inj Z0 Z0 j d (by unfold ZM;omega);obtain a|a:=a;omega;rw[n]at a;exact a rfl
def Gf(r:Rt h p):∀n q,q+n<=4->(X6 h n q).Pairwise λf g=>f.ad≠g.ad
 |0,q,_=>.nil
 |n+1,q,A=>by
  simp only[X6];refine List.pairwise_append.2 ⟨?_,Gf r n (q+1) Z0,λf t g u=> ?_⟩;rw[ZiO];have d:=(r.ak ((q:Int)+1) Z0).dj;rw[<-r.bz Z0]at d;exact d.imp_of_mem λj l w=>Ky r Z0 Z0 j l<|.inr Z0;obtain⟨o,x,rfl⟩:=Zfj.1 t;obtain⟨k,B,y,z,a,rfl⟩:=UU u;exact Ky r Z0 Z0 x a<|.inl Z0
def Z4X(r:Rt h p){i j:Nat}{f g:Fo}(q:(ZZ h).ns[i]?=J f)(t:(ZZ h).ns[j]?=J g)(e:f.ad=g.ad):i=j:=by
 have d:(ZZ h).ns.Pairwise λf g=>f.ad≠g.ad:=by
  rw[jq];exact(Gf r 4 0 Z0).filter _
 have d:=List.pairwise_iff_getElem.1 d;obtain⟨k,l⟩:=Zf3.1 q;obtain⟨n,o⟩:=Zf3.1 t;obtain a|a|a:=Nat.lt_trichotomy j i;exact(d j i n k a<|by rw[l,o,e]).elim;exact a.symm;exact(d i j k n a<|by rw[l,o,e]).elim
end
end
end Vm
end
