import Derived.Deep.DeepCutAuto
import Derived.Laws.EntriesVeiled
import Derived.Conc.SmallLaws
import Derived.Test.YtaepoabdapgbdaaSMeasureFree6
set_option linter.unusedSimpArgs false
set_option linter.unusedVariables false
set_option linter.defProp false
open Option renaming some→J,none→U
open Bool renaming true→xk,false→xw
open List renaming length→I
open Array renaming size→xz
open Go.World renaming heap→xj
open List renaming length→xq
open Array renaming size→xz
open Go.World renaming heap→xj
set_option maxHeartbeats 40000000
set_option maxRecDepth 100000
theorem Zez{p:Prop}(h:p:=by simp[World.setCell]):p:=h
theorem Zeq{p:Prop}(h:p:=by simp[results,Try.results41,go_sem]):p:=h
theorem Ze1{p:Prop}(h:p:=by simp only[Te,Qn,List.map_cons,List.map_nil,List.foldl_cons,List.foldl_nil,List.setIfInBounds_toArray,List.set_cons_succ,List.set_cons_zero]):p:=h
theorem ZeD{p:Prop}(h:p:=by show xz (xj w)≤c;omega):p:=h
theorem Zem{p:Prop}(h:p:=by unfold Xu;omega):p:=h
theorem Zea{p:Prop}(h:p:=by have:=f.c2;rw[A.out.1,A.out.2.1,A.out.2.2.1,A.out.2.2.2]at this;grind [cell_of_row]):p:=h
theorem ZdQ{p:Prop}(h:p:=by decide+kernel):p:=h
theorem Zel{p:Prop}(h:p:=by obtain⟨y,_,rfl⟩:=List.mem_map.1 d;rfl):p:=h
def ZiV:=@Go.wp_scope_jumps
def Ziu:=@Go.grownBy_keeps
def ZiZ:=@Bool.and_true
def ZiI:=@Int.natCast_add
def Zim:=@List.foldl_nil
def ZgL:=@List.setIfInBounds_toArray
def ZhH:=@List.set_cons_succ
def ZiT:=@Go.KeepsFrom.refl
def Zhk:=@List.all_eq_false
section
namespace Vm
open Go Go.Proofs Go.RowKit
def LV(w:Z3)(r:Hp×Int)(e:Ending)(w':Z3):Prop:=
 ∃x,e=.returned (.tuple #[ZA r.1 x,.int .i64 r.2])/\Below (xz<|xj w) w w'/\∀j,j<5->Rd w' (λc=>xz (xj w)<=c/\c<xz (xj w')) (.sl<|(Zu r.1 j).map vu) (x j)
def Lr{w:Z3}{G:Z4}{h:Hp}{x:Z5}(k:h.ok)(f:∀b,G b->b<xz (xj w))(l:∀j,j<5->Rd w G (.sl<|(Zu h j).map vu) (x j)):
  Calls Sol.prog 17 #[ZA h x] w λe d=>e=.returned (.bool<|Yt h)/\Below (xz<|xj w) w d:=by
 refine Zhj ((QD k).2 w G _ f rfl ?_) ?_;intro i y a
 match i,a with
 |0,a=>cases a;exact J8 l
 rintro e d ⟨v,rfl,g,n⟩;exact⟨by rw[Ct n],g⟩
def PI(w:Z3)(G:Z4)(r:∀b,G b->b<xz (xj w))(h:Hp)(A:h.ok)(a:Z5)(y:∀j,j<5->Rd w G (.sl<|(Zu h j).map vu) (a j))(u:Yt h=xw):
  Calls Sol.prog 25 #[ZA h a] w (LV w (Hp.zero,1)):=by
 have p:∀W,Below (xz<|xj w) w W->Calls Sol.prog 17 #[ZA h a] W λe D=>e=.returned (.bool<|Yt h)/\Below (xz<|xj W) W D:=λW t=>
  Lr (w:=W) (G:=G) (x:=a) A (λb f=>ZeV (r b f) t.size) (λj B=>(y j B).keep (λb f=>t.block b<|r b f) λ_ q=>q)
 rw[u]at p;have z:=ZeP p;clear p;clear y u;unfold ZA;go_enter Sol.func25,Try.ntmps25;go_wp2;refine ZiV 0 (λ_ _=>False) (λ_ _=>0) rfl ?_ (λ_ _ h=>h.elim)
 go_upto_region 2 with (first
  | (go_at_call 17;refine(z.out _ ?_).mono ?_;rotate_left;rintro e g ⟨rfl,d⟩
     have o:g.heap[xz<|xj w]?=J (.cells #[.int .u64 h.base,.int .i64 h.cap,.int .i64 h.to,.bool h.Y,.int .i64 h.Z,a 0,a 1,a 2,a 3,a 4] 30 (0,0)):=(d.block _ ZdP).trans<|(ZeR _ _ _ Z1).trans<|Zf5 w _;have k:g.heap[xz (xj w)+1]?=J (.cells ZN 30 (0,0)):=(d.block _ Z1).trans<|TV w _;have H:∀j,g.cell? ⟨xz<|xj w,j,U⟩=(#[.int .u64 h.base,.int .i64 h.cap,.int .i64 h.to,.bool h.Y,.int .i64 h.Z,a 0,a 1,a 2,a 3,a 4]:Array Value)[j]? :=λj=>ZeU _ _ _ _ _ _ o;have F:∀j,g.cell? ⟨xz (xj w)+1,j,U⟩=ZN[j]? :=λj=>ZeU _ _ _ _ _ _ k;unfold ZN at F;have fz:∀j,g.frozen? ⟨xz (xj w)+1,j,U⟩=xw:=λj=>Yd k;have l:=ZeP d;have n:=ZeP<|And.intro o k;clear d o k))
 case refine_1=>exact((Zf3 _ w).alloc (ZeQ _) _).alloc Z1 _
 go_wp2;simp only[Exit.jump];have C:=WU n.out.2 (.int .u64 0) (.int .i64 0) (.int .i64 0) (.bool xw) (.int .i64 0) (.slice U 0 0) (.slice U 0 0) (.slice U 0 0) (.slice U 0 0)<|.slice U 0 0;refine Zfp (v:=.tuple #[.agg ZN,.int .i64 1]) ?_ rfl ?_
 .simp[results,Try.results25,go_sem,C,ZN]
 exact⟨λ_=>.slice U 0 0,rfl,XT (Below.trans (((Zf3 _ w).alloc (ZeQ _) _).alloc Z1 _)<|l.out.mono ZdP) Z0 _ _ _ _ _ _ _ _ _ _,jo _ _⟩
def PJ(w:Z3)(G:Z4)(r:∀b,G b->b<xz (xj w))(h:Hp)(A:h.ok)(a:Z5)(y:∀j,j<5->Rd w G (.sl<|(Zu h j).map vu) (a j))(u:Yt h=xk)(hc:h.Y=xk):
  Calls Sol.prog 25 #[ZA h a] w (LV w (Hp.zero,10)):=by
 have g:∀W,Below (xz<|xj w) w W->Calls Sol.prog 17 #[ZA h a] W λe D=>e=.returned (.bool<|Yt h)/\Below (xz<|xj W) W D:=λW t=>
  Lr (w:=W) (G:=G) (x:=a) A (λb f=>ZeV (r b f) t.size) (λj B=>(y j B).keep (λb f=>t.block b<|r b f) λ_ q=>q)
 rw[u]at g;unfold ZA at g;rw[hc]at g;have z:=ZeP g;clear g;clear y u;unfold ZA;rw[hc];clear hc;go_enter Sol.func25,Try.ntmps25;go_wp2;refine ZiV 0 (λ_ _=>False) (λ_ _=>0) rfl ?_ (λ_ _ h=>h.elim)
 go_upto_region 4 with (first
  | (go_at_call 17;refine(z.out _ ?_).mono ?_;rotate_left;rintro e k ⟨rfl,d⟩
     have p:k.heap[xz<|xj w]?=J (.cells #[.int .u64 h.base,.int .i64 h.cap,.int .i64 h.to,.bool xk,.int .i64 h.Z,a 0,a 1,a 2,a 3,a 4] 30 (0,0)):=(d.block _ ZdP).trans<|(ZeR _ _ _ Z1).trans<|Zf5 w _;have l:k.heap[xz (xj w)+1]?=J (.cells ZN 30 (0,0)):=(d.block _ Z1).trans<|TV w _;have H:∀j,k.cell? ⟨xz<|xj w,j,U⟩=(#[.int .u64 h.base,.int .i64 h.cap,.int .i64 h.to,.bool xk,.int .i64 h.Z,a 0,a 1,a 2,a 3,a 4]:Array Value)[j]? :=λj=>ZeU _ _ _ _ _ _ p;have F:∀j,k.cell? ⟨xz (xj w)+1,j,U⟩=ZN[j]? :=λj=>ZeU _ _ _ _ _ _ l;unfold ZN at F;have fz:∀j,k.frozen? ⟨xz (xj w)+1,j,U⟩=xw:=λj=>Yd l;have n:=ZeP d;have o:=ZeP<|And.intro p l;clear d p l))
 case refine_1=>exact((Zf3 _ w).alloc (ZeQ _) _).alloc Z1 _
 go_wp2;simp only[Exit.jump];have C:=WU o.out.2 (.int .u64 0) (.int .i64 0) (.int .i64 0) (.bool xw) (.int .i64 0) (.slice U 0 0) (.slice U 0 0) (.slice U 0 0) (.slice U 0 0)<|.slice U 0 0;refine Zfp (v:=.tuple #[.agg ZN,.int .i64 10]) ?_ rfl ?_
 .simp[results,Try.results25,go_sem,C,ZN]
 exact⟨λ_=>.slice U 0 0,rfl,XT (Below.trans (((Zf3 _ w).alloc (ZeQ _) _).alloc Z1 _)<|n.out.mono ZdP) Z0 _ _ _ _ _ _ _ _ _ _,jo _ _⟩
section
def Z7G{P:Z6}{a:Act}{w:Z3}{Q:Zf}{c rest:Code}(l:Nat)(k:Zo)(μ:Act->World->Nat)(j:findLabel c l=J (.seq .skip rest))
  (pass:∀a w,k a w->rest.wp P (Exit.jump l (λd g=>k d g/\μ d g<μ a w) Q) a w)
  (first:(∀a w,k a w->rest.wp P (Exit.jump l k Q) a w)->c.wp P (Exit.jump l k Q) a w):(Code.scope c).wp P Q a w:=
 ZiV l k μ j (first λa w f=>Code.wp_mono (λe d g h=>by
  cases e<;>first
   |exact h
   |exact⟨h.1,h.2.1⟩) (pass a w f)) λa w f=>wp_seq<|wp_skip<|pass a w f
def Z09{t:Zd}{n:Nat}(h:t.size=n):t=((List.range n).map λi=>t.getD i undef).toArray:=by
 apply Zhc;simp[h];intro i a d;simp[Array.getD,a]
def MY{w2:Z3}{b:Nat}{T:Zh}{k l n o p q r t u w:Ze}(x:w2.heap[b]?=J (.cells #[k,l,n,o,p,q,r,t,u,w] T (0,0)))(v0 v1 a d v4 f v6 g h j:Ze):((((((((((w2.setCell ⟨b,0,U⟩ v0).setCell ⟨b,1,U⟩ v1).setCell ⟨b,2,U⟩ a).setCell ⟨b,3,U⟩ d).setCell ⟨b,4,U⟩ v4).setCell ⟨b,5,U⟩ f).setCell ⟨b,6,U⟩ v6).setCell ⟨b,7,U⟩ g).setCell ⟨b,8,U⟩ h).setCell ⟨b,9,U⟩ j).heap[b]?=J (.cells #[v0,v1,a,d,v4,f,v6,g,h,j] T (0,0)):=by
 simp[World.setCell,Zfm,x]
def Yn(h:Hp)(x:Z5):Array Value:=#[.int .u64 h.base,.int .i64 h.cap,.int .i64 h.to,.bool h.Y,.int .i64 h.Z,x 0,x 1,x 2,x 3,x 4]
structure FlI (w W:World) (c:Nat) (g:Hp) (x:Nat->Value):Prop where
 below:Below (xz<|xj w) w W
 rb:W.heap[xz (xj w)+1]?=J (.cells ZN 30 (0,0))
 le:xz (xj w)+2<=c
 nb:W.heap[c]?=J (.cells (Yn g x) 30 (0,0))
 rd:∀j,j<5->Rd W (λb=>xz (xj w)+2<=b/\b<xz (xj W)/\b≠c) (.sl<|(Zu g j).map vu) (x j)
def Z1B{n:Int}(h:n=0\/n=1):Yp<|1-n:=by unfold Yp;omega
def Z1L{h:Hp}(p:h.ok)(q:h.to=0\/h.to=1):(Wz h).ok:=by
 obtain⟨d,f,r,t,g,j,u,x,k,l,n,y,z,o⟩:=p;exact⟨d,f,Z1B q,⟨by show _<=(0:Int);omega,by show(0:Int)<=_;omega⟩,ZfO _,ZfO _,g,j,k,λw a=>(by cases a),λw a=>(by cases a),l,n,o⟩
def Z78{h:Hp}(z:h.ok){k:Nat}{v:Int}(A:ZC v):({h with E:=h.E.set k v}:Hp).ok:=by
 obtain⟨d,f,g,j,l,n,o,p,q,r,t,u,x,y⟩:=z;refine⟨d,f,g,j,l,n,o,p,by simp only[ZgH];exact q,r,t,u,x,λw a=> ?_⟩;obtain a|rfl:=Zgh a;exact y w a;exact A
def Z1W{l:Z8}(h:∀w∈l,ZC w)(i:Nat):ZC<|(l[i]?).getD 0:=by
 cases e:l[i]? with
 |none=>exact⟨Ze4,Ze4⟩
 |some x=>exact h x<|ZeW e
def Ad{h:Hp}(a:h.ok)(d:h.to=0\/h.to=1):∀k,(VO (Wz h) k).ok
 |0=>Z1L a d
 |k+1=>by
  have g:=Ad a d k;have f:=zQ g<|Z1W g.di k;exact Z78 f.1 f.2
def WZ(i:Nat):Nat:=if i<7 then 39+i else if i=7 then 38 else if i=8 then 46 else if i=9 then 47 else if i=10 then 48 else if i=11 then 7 else if i=12 then 6 else if i=14 then 8 else 0
def Df:∀i,i<15->∀j,j<15->i≠j->WZ i≠WZ j:=Ze4
def frE(c:Nat)(g:Hp)(x:Z5)(k:Nat)(a:Ze)(u:Int):Nat->Value
 |0=>.agg<|Yn g x
 |1=>.pointer<|J ⟨c,9,U⟩
 |2=>x 4
 |3=>.int .i64 k
 |4=>a
 |_=>.int .u64 u
def Kq(fv:Int)(g':Hp)(a:Z5):Value:=.tuple #[.int .u64 fv,.agg<|Yn g' a,.int .i64 0]
def FrV(E:Z5)(fv:Int)(g':Hp)(O:(Nat->Value)->Prop)(i:Nat)(val:Ze):Prop:=
 if i<6 then val=E i else if i=6\/i=7 then ∃a,val=Kq fv g' a/\O a else if i=9 then ∃a,val=.agg (Yn g' a)/\O a else if i=8\/i=12 then val=.int .u64 fv else val=.int .i64 0
def FrV.mono{E:Z5}{fv:Int}{g':Hp}{O a:(Nat->Value)->Prop}{i:Nat}{val:Ze}(h:FrV E fv g' O i val)(d:∀x,O x->a x):FrV E fv g' a i val:=by
 unfold FrV at*;split;rename_i c;rw[if_pos c]at h;exact h;rename_i c;rw[if_neg c]at h;split;rename_i c;rw[if_pos c]at h;obtain⟨x,e,o⟩:=h;exact⟨x,e,d x o⟩;rename_i c;rw[if_neg c]at h;split;rename_i c;rw[if_pos c]at h;obtain⟨x,e,o⟩:=h;exact⟨x,e,d x o⟩;rename_i c;rw[if_neg c]at h;exact h
structure FrO (W0 W:World) (L:Nat->Bool) (v:Nat->Value) (g':Hp) (x':Nat->Value):Prop where
 own:HOwn (xz<|xj W0) W g' x'
 ak:∀j,j<5->∀b,(x' j).ownBlock=J b->L 11=xk->v 7≠.pointer (J ⟨b,0,U⟩)
structure FrC (W0:World) (E:Nat->Value) (fv:Int) (g':Hp) (L:Nat->Bool) (v:Nat->Value) (W:World):Prop where
 b:Below (xz<|xj W0) W0 W
 val:∀i,i<15->i≠11->i≠13->L i=xk->FrV E fv g' (FrO W0 W L v g') i (v<|WZ i)
 new:L 11=xk->∃c,v 7=.pointer (J ⟨c,0,U⟩)/\xz (xj W0)<=c/\c<xz (xj W)/\(L 13=xw->W.heap[c]?=J (.cells ZN 30 (0,0)))
 put:L 13=xk->∃c x',v 7=.pointer (J ⟨c,0,U⟩)/\W.heap[c]?=J (.cells (Yn g' x') 30 (0,0))/\FrO W0 W L v g' x'
 c13:L 13=xk->L 11=xk
section
variable {W0 W W':Z3}{E:Z5}{fv:Int}{g':Hp}{L:Zs}{v:Z5}
def FrO.keep{d:Zs}{v':Z5}{a:Z5}(o:FrO W0 W L v g' a)(k:∀j,j<5->∀b,(a j).ownBlock=J b->W'.heap[b]?=W.heap[b]?)(l:xz (xj W)<=xz (xj W'))
  (h:∀j,j<5->∀b,(a j).ownBlock=J b->d 11=xk->v' 7≠.pointer (J ⟨b,0,U⟩)):FrO W0 W' d v' g' a:=
 ⟨⟨λj f=>Xo (o.own.own j f) λb g=>k j f b g,o.own.apart⟩,h⟩
def FrC.step(C:FrC W0 E fv g' L v W){i s:Nat}(A:i<15)(t:i≠11)(F:i≠13)(G:s=WZ i){x:Ze}(l:Below (xz<|xj W) W W')
  (H:FrV E fv g' (FrO W0 W' L v g') i x):FrC W0 E fv g' (add L i) (YX v s x) W':=by
 subst G;have g:add L i 11=L 11:=WF Z0;have k:add L i 13=L 13:=WF Z0;have q:YX v (WZ i) x 7=v 7:=TQ v x (show WZ 11≠WZ i from Df 11 Z0 i A<|Zgu t);have B:∀f,FrO W0 W L v g' f->FrO W0 W' (add L i) (YX v (WZ i) x) g' f:=λf o=>o.keep (λj h b d=>l.block b ((o.own.own j h).lt b d).2) l.size (λj h b d=>by rw[g,q];exact o.ak j h b d);have y:∀f,FrO W0 W' L v g' f->FrO W0 W' (add L i) (YX v (WZ i) x) g' f:=λf o=>o.keep (λ_ _ _ _=>rfl) (ZeQ _) (λj h b d=>by rw[g,q];exact o.ak j h b d);refine⟨C.b.trans<|l.mono C.b.size,λj h u w a=> ?_,λa=> ?_,λa=> ?_,λa=> ?_⟩;by_cases e:j=i;subst e;rw[Rl];exact H.mono y;rw[WF e]at a;rw[TQ v x<|Df j h i A e];exact(C.val j h u w a).mono B;rw[g]at a;obtain⟨c,r,n,p,D⟩:=C.new a;refine⟨c,by rw[q];exact r,n,ZeV p l.size,λz=> ?_⟩;rw[k]at z;exact(l.block c p).trans (D z);rw[k]at a;obtain⟨c,f,r,n,p⟩:=C.put a;exact⟨c,f,by rw[q];exact r,(l.block c<|Y9 n).trans n,B f p⟩;rw[k]at a;rw[g];exact C.c13 a
def FrC.call(C:FrC W0 E fv g' L v W){g:Z5}(o:Below (xz<|xj W) W W')(f:HOwn (xz<|xj W) W' g' g):FrC W0 E fv g' (add L 6) (YX v 45<|Kq fv g' g) W':=by
 refine C.step Z0 Z0 Z0 rfl o ?_;unfold FrV;rw[if_neg Z0,if_pos<|.inl rfl];refine⟨g,rfl,⟨λj d=>Rb (f.own j d) λb k l=>⟨Zff C.b.size k,l⟩,f.apart⟩,λj d b a n e=> ?_⟩;obtain⟨c,h,_,p,_⟩:=C.new n;rw[h]at e;cases e;have:=((f.own j d).lt b a).1;omega
def FrC.alloc(C:FrC W0 E fv g' L v W)(h:L 11=xw):FrC W0 E fv g' (add L 11) (YX v 7<|.pointer<|J ⟨xz<|xj W,0,U⟩)<|W.alloc<|.cells ZN 30:=by
 have k:L 13=xw:=by
  cases e:L 13 with
  |false=>rfl
  |true=>have:=C.c13 e;rw[h]at this;cases this
 have l:Below (xz<|xj W) W<|W.alloc<|.cells ZN 30:=(Zf3 _ _).alloc (ZeQ _) _;have r:xz (xj<|W.alloc<|.cells ZN 30)=xz (xj W)+1:=Z1
 have q:∀p,FrO W0 W L v g' p->FrO W0 (W.alloc<|.cells ZN 30) (add L 11) (YX v 7<|.pointer<|J ⟨xz<|xj W,0,U⟩) g' p:=λp o=>o.keep (λj g b d=>l.block b ((o.own.own j g).lt b d).2) l.size (λj g b d _=>by
  rw[Rl];intro e;cases e;have:=((o.own.own j g).lt _ d).2;omega)
 refine⟨C.b.trans<|l.mono C.b.size,λj g f n a=> ?_,λa=> ?_,λa=> ?_,λa=> ?_⟩;rw[WF f]at a;rw[TQ v _ (s:=7) (t:=WZ j) (show WZ j≠7 from Df j g 11 Z0 f)];exact(C.val j g f n a).mono q;exact⟨xz<|xj W,Rl _ _ _,C.b.size,Z0,λ_=>Zf5 W _⟩;rw[WF Z0,k]at a;cases a;exact z7 _ _
def FrC.store(C:FrC W0 E fv g' L v W){c:Nat}(hc:v 7=.pointer (J ⟨c,0,U⟩)){y:Z5}(z:FrO W0 W L v g' y)(a:L 11=xk)(D:L 13=xw)(G:W.heap[c]?=J (.cells ZN 30 (0,0)))
  (u:∀b,b≠c->W'.heap[b]?=W.heap[b]?) (F:xz (xj W')=xz (xj W)) (x:W'.heap[c]?=J (.cells (Yn g' y) 30 (0,0))) (w:Below (xz<|xj W0) W W'):FrC W0 E fv g' (add L 13) v W':=by
 have k:add L 13 11=L 11:=WF Z0;have r:∀n,FrO W0 W L v g' n->FrO W0 W' (add L 13) v g' n:=λn o=>o.keep (λj g b d=>u b (λe=>by subst e;exact o.ak j g b d a hc)) Z0 (λj g b d _=>o.ak j g b d a);obtain⟨A,p,t,B,_⟩:=C.new a;rw[hc]at p;cases p;refine⟨C.b.trans w,λj g l h f=> ?_,λf=> ?_,λf=> ?_,λf=>by rw[k];exact a⟩;rw[WF h]at f;exact(C.val j g l h f).mono r;refine⟨c,hc,t,Z0,λq=> ?_⟩;rw[z7]at q;cases q;exact⟨c,y,hc,x,r y z⟩
def FrC.e(C:FrC W0 E fv g' L v W)(i:Nat)(d:i<6)(a:L i=xk):v (WZ i)=E i:=by
 have:=C.val i Z0 Z0 Z0 a;unfold FrV at this;rwa[if_pos d]at this
def FrC.t(C:FrC W0 E fv g' L v W)(i:Nat)(f:i=6\/i=7)(d:L i=xk):∃a,v (WZ i)=Kq fv g' a/\FrO W0 W L v g' a:=by
 have:=C.val i Z0 Z0 Z0 d;unfold FrV at this;rwa[if_neg Z0,if_pos f]at this
def FrC.a(C:FrC W0 E fv g' L v W)(f:L 9=xk):∃d,v 47=.agg (Yn g' d)/\FrO W0 W L v g' d:=by
 have:=C.val 9 Z0 Z0 Z0 f;unfold FrV at this;rwa[if_neg Z0,if_neg Z0,if_pos rfl]at this
def FrC.f(C:FrC W0 E fv g' L v W)(i:Nat)(d:i=8\/i=12)(a:L i=xk):v (WZ i)=.int .u64 fv:=by
 have:=C.val i Z0 Z0 Z0 a;unfold FrV at this;rwa[if_neg Z0,if_neg Z0,if_neg Z0,if_pos d]at this
def FrC.z(C:FrC W0 E fv g' L v W)(i:Nat)(d:i=10\/i=14)(a:L i=xk):v (WZ i)=.int .i64 0:=by
 have:=C.val i Z0 Z0 Z0 a;unfold FrV at this;rwa[if_neg Z0,if_neg Z0,if_neg Z0,if_neg Z0]at this
def FrC.pe(C:FrC W0 E fv g' L v W)(i:Nat)(a:i<6){s:Nat}(d:s=WZ i):FrC W0 E fv g' (add L i) (YX v s<|E i) W:=
 C.step Z0 Z0 Z0 d (Zf3 _ _) (by unfold FrV;rw[if_pos a])
def FrC.pt(C:FrC W0 E fv g' L v W){a:Z5}(o:FrO W0 W L v g' a):FrC W0 E fv g' (add L 7) (YX v 38<|Kq fv g' a) W:=
 C.step Z0 Z0 Z0 rfl (Zf3 _ _) (by unfold FrV;rw[if_neg Z0,if_pos<|.inr rfl];exact⟨a,rfl,o⟩)
def FrC.pa(C:FrC W0 E fv g' L v W){a:Z5}(o:FrO W0 W L v g' a):FrC W0 E fv g' (add L 9) (YX v 47<|.agg<|Yn g' a) W:=
 C.step Z0 Z0 Z0 rfl (Zf3 _ _) (by unfold FrV;rw[if_neg Z0,if_neg Z0,if_pos rfl];exact⟨a,rfl,o⟩)
def FrC.pf(C:FrC W0 E fv g' L v W)(i:Nat)(a:i=8\/i=12){s:Nat}(d:s=WZ i):FrC W0 E fv g' (add L i) (YX v s<|.int .u64 fv) W:=
 C.step Z0 Z0 Z0 d (Zf3 _ _) (by unfold FrV;rw[if_neg Z0,if_neg Z0,if_neg Z0,if_pos a])
def FrC.pz(C:FrC W0 E fv g' L v W)(i:Nat)(d:i=10\/i=14){s:Nat}(a:s=WZ i):FrC W0 E fv g' (add L i) (YX v s<|.int .i64 0) W:=
 C.step Z0 Z0 Z0 a (Zf3 _ _) (by unfold FrV;rw[if_neg Z0,if_neg Z0,if_neg Z0,if_neg Z0])
end
def Jy{W:Z3}{G:Z4}{l:Z8}{y:Ze}(h:Rd W G (.sl<|l.map vu) y){k:Nat}{u:Int}(j:l[k]?=J u):∃b o cap,y=.slice (J ⟨b,o,U⟩) (I l) cap/\W.cell? ⟨b,o+k,U⟩=J (.int .u64 u)/\G b:=by
 have g:=(ZeM.1 j).1;generalize a:l.map vu=L at h;cases h with
 |nil=>simp at a;subst a;simp at g
 |sl _ b o cap w vs x z n p q r=>
  have d:I L=I l:=by rw[<-a,Zfc]
  have f:w=1:=by
   have:=(p (vu u) (by rw[<-a];exact ZgJ<|ZeW j)).1;simpa using this.symm
  subst f;refine⟨b,o,cap,by rw[d],?_,n⟩;rw[q k Z0];have t:(flat L)[k]?=J (vu u):=by rw[<-a,zK,Zfa,j];rfl
  rw[Sp<|r k _ t]
end
end Vm
end
section
namespace Vm
open Go Go.Proofs
section
def Vg(l:Zi)(i:Int):Bool:=l.any λo=>decide (o.aa<i)&&decide (i<=o.aa+o.M)
def YZ(g:Hp):Hp:=if g.Z=(I g.H) then {g with Y:=xw,ah:=[],ak:=[]}else g
def WE(h:Hp):Hp:=
 YZ (if Vg (ZP h.H [] xw).1 h.Z=xk then
  {(fwd h<|(h.H[h.Z.toNat]?).getD 0).2.1 with H:=(fwd h<|(h.H[h.Z.toNat]?).getD 0).2.1.H.set h.Z.toNat (fwd h<|(h.H[h.Z.toNat]?).getD 0).1,Z:=h.Z+1}
 else {h with Z:=h.Z+1})
def ZR(h:Hp):Nat->Hp
 |0=>h
 |k+1=>if h.Y then ZR (WE h) k else h
section
variable {h g:Hp}{p q:Pts}
def Jc{l:Zi}{i:Int}:Vg l i=xk↔ ∃o∈l,o.aa<i/\i<=o.aa+o.M:=by
 unfold Vg;simp
def Rt.ma(r:Rt h p):ZP h.H [] xw=(p.H,0):=by
 have t:=r.an 1 Z0;simp only[Vk,Pts.mc]at t;refine LP t ?_;unfold VR;have:p.H.filter (λo=>o.gone)=[]:=by
  rw[ZhN];intro o a;rw[t.ct o a];simp
 rw[this];rfl
def Z3t(t:Tld h p){w:Int}(f:Gos h p w 1 2):VV w=xk:=by
 unfold VV;obtain a|⟨k,_,_,_,o,_,d,_⟩:=f.va t Z0 Z0;simp[a];simp[d]
def Body.pd(b:Body g q){i:Nat}(hs:g.Z=i)(K:i<I g.H){v:Int}(M:Gos g q v 1 2)(H:Vg q.H i=xk):Body {g with H:=g.H.set i v,Z:=(i:Int)+1} q:=by
 obtain⟨o,L,h1,h2⟩:=Jc.1 H;obtain⟨a,n,m,Y,Z,em,F,_,W⟩:=b.toTld.ob (k:=1) Z0 L;simp only[Vk]at F;have G:Zv {g with H:=g.H.set i v,Z:=(i:Int)+1}=Zv g:=by
  unfold Zv;simp
 have f:∀ {w N O},Gos {g with H:=g.H.set i v,Z:=(i:Int)+1} q w N O↔Gos g q w N O:=DO G;have z:=b.an 1 Z0;simp only[Vk,Pts.mc]at z;have u:∀x∈q.H,∀j:Nat,(j:Int)<=x.size->x.aa.toNat+j=i->x=o/\0<j/\(j:Int)<=x.M:=by
  intro x r j p e;obtain⟨c,d,P,Q,R,D,_⟩:=b.toTld.ob (k:=1) Z0 r;obtain C|C|C:=z.apart x r o L;subst C;exact⟨rfl,Z0,Z0⟩;omega;omega
 refine⟨⟨by rw[G];exact b.bb,λk B=> ?_⟩,by rw[G];exact b.gone,λk B x r A j p w t=> ?_,?_⟩;by_cases k1:k=1;subst k1;show Tiles (g.H.set i v) _ 0 q.H;refine z.congr Z1 λx r=> ?_;have l:=(z.bc x r).1;have X:=YB.1 l.shape;obtain⟨c,d,P,Q,R,D,T,_⟩:=b.toTld.ob (k:=1) Z0 r;have A:=z.ct x r;have S:(g.H.set i v)[x.aa.toNat]?=g.H[x.aa.toNat]? :=by
  refine ZfR λe=> ?_;have:=(u x r 0 Z0 Z0).2.1;omega
 refine⟨l.iu,l.shape,by simpa using l.aw,Ro λj w p=>⟨λh=>(by rw[A]at h;cases h),λH=> ?_⟩,by rw[S];exact l.word⟩;have y:j<x.size.toNat:=by
  have:=(ZeM.1 p).1;simp at this;omega
 rw[ZfL y,Zfn]at p;by_cases e:x.aa.toNat+1+j=i;rw[e,Zgf K]at p;cases p;exact Z3t b.toTld M;rw[ZfR (λh=>e h.symm)]at p;refine(LE l.fw j w ?_).2 H;rw[ZfL y,Zfn];exact p;have:=b.an k B;have e:Zx {g with H:=g.H.set i v,Z:=(i:Int)+1} k=Zx g k:=by unfold Zx;rw[if_neg k1,if_neg k1]
 rw[e];exact this;unfold Wd;by_cases k1:k=1;subst k1;simp only[Vk]at t;rw[if_neg Z0];by_cases e:x.aa.toNat+1+j=i;rw[e,Zgf K]at t;cases t;rw[if_neg (by rw[e];simp only;omega)];exact f.2 M;rw[ZfR (λh=>e h.symm)]at t;have:=b.ptr 1 B x r A j p w t;unfold Wd at this;rw[if_neg Z0]at this;by_cases c:g.Z<=((x.aa.toNat+1+j:Nat):Int);rw[if_pos ⟨rfl,c⟩]at this;rw[if_pos ⟨rfl,by simp only;omega⟩];exact this.imp f.2 f.2;rw[if_neg (λh=>c h.2)]at this;rw[if_neg (by simp only;omega)];exact f.2 this;have e:Zx {g with H:=g.H.set i v,Z:=(i:Int)+1} k=Zx g k:=by unfold Zx;rw[if_neg k1,if_neg k1]
 rw[e]at t;have:=b.ptr k B x r A j p w t;unfold Wd at this;by_cases c:2<k;rw[if_pos c]at this⊢;exact f.2 this;rw[if_neg c,if_neg (λh=>k1 h.1)]at this;rw[if_neg c,if_neg (λh=>k1 h.1)];exact f.2 this;have:=b.room;simpa using this
def Body.uk(b:Body g q){i:Nat}(z:g.Z=i)(r:¬Vg q.H i=xk):Body {g with Z:=(i:Int)+1} q:=by
 refine⟨⟨b.bb,b.an⟩,b.gone,λk o x d f j l w t=> ?_,b.room⟩;have:=b.ptr k o x d f j l w t;unfold Wd at this⊢;by_cases c:2<k;rw[if_pos c]at this⊢;exact this;rw[if_neg c]at this⊢;by_cases k1:k=1;subst k1;by_cases c:g.Z<=((x.aa.toNat+1+j:Nat):Int);rw[if_pos ⟨rfl,c⟩]at this
 have p:x.aa.toNat+1+j≠i:=λe=>r (Jc.2 ⟨x,d,by
  obtain⟨a,n,m,u,y,em,_⟩:=b.toTld.ob (k:=1) Z0 d;omega⟩)
 rw[if_pos ⟨rfl,by simp only;omega⟩];exact this;rw[if_neg (λh=>c h.2)]at this;rw[if_neg (by simp only;omega)];exact this;rw[if_neg (λh=>k1 h.1)]at this⊢;exact this
def Body.stop(b:Body g q)(F:g.Z=I g.H):Body {g with Y:=xw,ah:=[],ak:=[]} ⟨q.H,q.ab,[],[]⟩:=by
 have A:=XK.1 b.bb;have z:∀k a:Int,(k=1\/k=2)->Y6 (Zv {g with Y:=xw,ah:=[],ak:=[]}) k a=Y6 (Zv g) k a:=λk a d=>by
  obtain rfl|rfl:=d<;>rfl
 have f:∀ {w:Int},Gos g q w 1 2->Gos {g with Y:=xw,ah:=[],ak:=[]} ⟨q.H,q.ab,[],[]⟩ w 1 2:=λ{w} p=>by
  obtain rfl|⟨k,o,d,t,rfl⟩:=p;exact .inl rfl;refine .inr ⟨k,o,d,?_,(z k _ d).symm⟩;obtain rfl|rfl:=d<;>exact t
 refine⟨⟨XK.2 ?_,λk d=> ?_⟩,λk d o t=> ?_,λk d x l p j u w y=> ?_,?_⟩;simp only[Zv,ZfU]at A⊢;omega;have h:k=1\/k=2\/k=3\/k=4:=Z0;obtain rfl|rfl|rfl|rfl:=h;exact b.an 1 Z0;exact b.an 2 Z0;exact ZeQ 0;exact ZeQ 0;have h:k=3\/k=4:=Z0;obtain rfl|rfl:=h<;>cases t
 have h:k=1\/k=2\/k=3\/k=4:=Z0;obtain rfl|rfl|rfl|rfl:=h;have:=b.ptr 1 Z0 x l p j u w y;obtain⟨a,n,m,C,D,em,r,_,B⟩:=b.toTld.ob (k:=1) Z0 l;simp only[Vk]at r;unfold Wd at this⊢;rw[if_neg Z0,if_neg Z0]at this;rw[if_neg Z0,if_neg (by simp only;omega)];exact f this;have:=b.ptr 2 Z0 x l p j u w y;unfold Wd at this⊢;rw[if_neg Z0,if_neg Z0]at this⊢;exact f this;cases l;cases l;have:=b.room;show(I g.H:Int)+I g.ab+Yu ⟨q.H,q.ab,[],[]⟩<=g.cap;simp[Yu,Y1];omega
structure ScanTo (h:Hp) (p:Pts) (g:Hp) (q:Pts):Prop where
 eq:WE h=g
 rt:Rt g q
 H:∃ws,I g.H=I h.H+ws/\∀j:Nat,(j:Int)<h.Z->g.H[j]?=h.H[j]?
 ab:g.ab=h.ab
 E:g.E=h.E
 num:g.base=h.base/\g.cap=h.cap/\g.to=h.to/\g.Z=h.Z+1
 gw:∃r,q.H=p.H++r
 gu:q.ab=p.ab
 room:g.Y=xk->(I g.H:Int)+Yu q=I h.H+Yu p
 oz:(I g.H:Int)<=I h.H+Yu p
 via:∃(i:Nat) (w v:Int) (f:Hp) (s:Pts),h.Z=i/\h.H[i]?=J w/\g=YZ {f with H:=f.H.set i v,Z:=(i:Int)+1}/\(q.H=s.H/\q.ab=s.ab)/\(g.Y=xk->q=s)/\((v=w/\f=h/\s=p)\/(Vg s.H i=xk/\(Gos h p w 1 2\/Gos h p w 3 4)/\FwdTo h p w v f s))
def Rt.Z(r:Rt h p)(hc:h.Y=xk):∃g q,ScanTo h p g q:=by
 obtain⟨i,u⟩:=Zf0 r.fu;have S:i<I h.H:=by have:=r.kw hc;omega
 have G:=r.ma;have fin:∀(f:Hp) (s:Pts),Body f s->SG f s->f.Z=(i:Int)+1->f.Y=xk->(i:Int)+1<=I f.H->(∀w∈f.E,Gos f s w 1 2)->I f.E<=16->∃q,Rt (YZ f) q/\(q.H=s.H/\q.ab=s.ab)/\((YZ f).Y=xk->q=s):=by
  intro f s b o Z x W Y X;unfold YZ;by_cases e:f.Z=I f.H;rw[if_pos e];have b':=b.stop e;refine⟨_,⟨b',X,by show 0<=f.Z;omega,by show f.Z<=I f.H;omega,λh=>Ze2,λ_=>⟨e,rfl,rfl⟩,λh=>Ze2,λw l=> ?_⟩,⟨rfl,rfl⟩,λh=>Ze2⟩;obtain rfl|⟨k,o,T,A,rfl⟩:=Y w l;exact .inl rfl;refine .inr ⟨k,o,T,?_,?_⟩;obtain rfl|rfl:=T<;>exact A;obtain rfl|rfl:=T<;>rfl;rw[if_neg e];exact⟨s,⟨b,X,Z0,Z0,λ_=>Z0,λh=>(by rw[x]at h;cases h),λ_=>o,Y⟩,⟨rfl,rfl⟩,λ_=>rfl⟩
 have t:∀f:Hp,(YZ f).H=f.H/\(YZ f).ab=f.ab/\(YZ f).E=f.E/\(YZ f).base=f.base/\(YZ f).cap=f.cap/\(YZ f).to=f.to/\(YZ f).Z=f.Z:=λf=>by
  unfold YZ;split<;>exact⟨rfl,rfl,rfl,rfl,rfl,rfl,rfl⟩
 have l:h.H[i]?=J h.H[i]:=ZeL S;generalize h.H[i]=w at l;by_cases R:Vg p.H i=xk;obtain⟨o,A,h1,h2⟩:=Jc.1 R;obtain⟨a,n,m,ea,en,em,a0,_⟩:=r.toTld.ob (k:=1) Z0 A;have B:Gos h p w 1 2\/Gos h p w 3 4:=by
  have t1:=r.an 1 Z0;have:=r.ptr 1 Z0 o A (t1.ct o A) (i-a-1) Z0 w (by simp only[Vk];rw[ea,show(a:Int).toNat+1+(i-a-1)=i by omega];exact l);unfold Wd at this;rw[if_neg Z0,if_pos ⟨rfl,Z0⟩]at this;exact this
 obtain⟨v,g,q,f⟩:=r.toBody.ik r.iq B;have Z:g.Z=i:=f.ext.Z.trans u;obtain⟨ws,y⟩:=f.ext.H;obtain⟨rs,F⟩:=f.ext.gw;have C:i<I g.H:=by rw[y,Zfx];omega
 have D:Vg q.H i=xk:=Jc.2 ⟨o,by rw[F];exact Zge _ A,h1,h2⟩;have b:=f.body.pd Z C f.vh D;have eq:WE h=YZ {g with H:=g.H.set i v,Z:=(i:Int)+1}:=by
  unfold WE;rw[G,u,if_pos R];simp only[Zf2,l,Zfl,f.fwd]
 have x:g.Y=xk:=f.ext.Y.trans hc;have W:Zv {g with H:=g.H.set i v,Z:=(i:Int)+1}=Zv g:=by unfold Zv;simp
 have on:SG {g with H:=g.H.set i v,Z:=(i:Int)+1} q:=by
  have:=f.gx<|r.gx hc;unfold SG at this⊢;rw[W];exact this
 obtain⟨s,rt,⟨P,Q⟩,z⟩:=fin _ q b on rfl x ZdP (λw l=>(DO W).2<|f.ext.oj Z0 Z0<|r.E w (by rw[<-f.ext.E];exact l)) (by show I g.E<=16;rw[f.ext.E];exact r.gd);obtain⟨k1,H,K,L,M,N,O⟩:=t {g with H:=g.H.set i v,Z:=(i:Int)+1};rw[<-eq]at rt k1 H K L M N O z;have d:(WE h).H.length=I g.H:=by rw[k1];simp
 refine⟨_,s,rfl,rt,⟨I ws,by rw[d,y,Zfx],λj hj=> ?_⟩,H.trans f.ext.ab,K.trans f.ext.E,⟨L.trans f.ext.base,M.trans f.ext.cap,N.trans f.ext.rz,by rw[O,u]⟩,⟨rs,by rw[P,F]⟩,Q.trans f.ext.gu,λh=> ?_,?_,i,w,v,g,q,u,l,eq,⟨P,Q⟩,z,.inr ⟨D,B,f⟩⟩;rw[k1];simp only;rw[ZfR Z0,y,Zfj Z0];rw[z h,d];exact f.ext.room;rw[d];have:=f.ext.room;omega;have b:=r.toBody.uk u R;have eq:WE h=YZ {h with Z:=(i:Int)+1}:=by
  unfold WE;rw[G,u,if_neg R]
 obtain⟨s,rt,⟨P,Q⟩,z⟩:=fin _ p b (r.gx hc) rfl hc (by simp only;omega) r.E r.gd;obtain⟨k1,H,K,L,M,N,O⟩:=t {h with Z:=(i:Int)+1};rw[<-eq]at rt k1 H K L M N O z;refine⟨_,s,rfl,rt,⟨0,by rw[k1];rfl,λj hj=>by rw[k1]⟩,H,K,⟨L,M,N,by rw[O,u]⟩,⟨[],by rw[P,Zg1]⟩,Q,λh=> ?_,?_,i,w,w,h,p,u,l,?_,⟨P,Q⟩,z,.inl ⟨rfl,rfl,rfl⟩⟩;rw[z h,k1];rw[k1];simp only;omega;obtain⟨_,e⟩:=ZeM.1 l;rw[eq,<-e,List.set_getElem_self]
end
end
end Vm
end
section
namespace Vm
open Go Go.Proofs Go.RowKit
structure NowI (B:Nat->Prop) (W:World) (b:Nat) (g:Hp) (x:Nat->Value):Prop where
 le:B b
 nb:W.heap[b]?=J (.cells (Yn g x) 30 (0,0))
 rd:∀j,j<5->Rd W (λc=>B c/\c<xz (xj W)/\c≠b) (.sl<|(Zu g j).map vu) (x j)
def JX(B:Z4)(W:Z3)(b:Nat)(g':Hp)(e:Ending)(W':Z3):Prop:=e=.returned (.int .i64 0)/\W.grownBy W' (J b)/\∃a,NowI B W' b g' a
def DS(W:Z3)(B:Z4)(b:Nat)(g:Hp)(x:Z5)(S:NowI B W b g x)(A:g.ok)(i:Nat)(F:g.Z=i)(G:i<I g.H)(pt:Bool)(K:pt=xw\/g.H[i]?=J 0):
  Calls Sol.prog 41 #[.bool pt,.pointer<|J ⟨b,0,U⟩] W (JX B W b<|YZ {g with Z:=(i:Int)+1}):=by
 obtain⟨u,M⟩:∃u,g.H[i]?=J u:=⟨_,ZeL G⟩;obtain⟨N,go,cap,n,C,r⟩:=Jy (S.rd 0 Z0) M;rw[show I (Zu g 0)=(I g.H) from rfl]at n;have f:=S.nb;unfold Yn at f;rw[n,F]at f;have Y:∀j,W.cell? ⟨b,j,U⟩=(#[.int .u64 g.base,.int .i64 g.cap,.int .i64 g.to,.bool g.Y,.int .i64 i,.slice (J ⟨N,go,U⟩) (I g.H) cap,x 1,x 2,x 3,x 4]:Array Value)[j]? :=λj=>ZeU _ _ _ _ _ _ f;have T:∀j,W.frozen? ⟨b,j,U⟩=xw:=λj=>Yd f;have R:=A.H;have X:=Zy ((i:Int)+1) Z0 Z0;have L:((i:Int)< (I g.H:Int))=True:=Zhi Z0;have y:=ZeP S;have w:=ZeP<|And.intro f<|And.intro n<|And.intro r F;have q:pt=xw\/pt=xk/\u=0:=by
  obtain h|h:=K;exact .inl h;rw[M]at h;cases pt;exact .inl rfl;exact .inr ⟨rfl,Zgv h⟩
 clear S f n r K F;go_enter Sol.func41,Try.ntmps41;have p:∀c v,xz (xj<|W.setCell c v)=xz (xj W):=λc v=>Zez;by_cases d:i+1=I g.H
 .have o:((i:Int)+1==(I g.H:Int))=xk:=ZdP;have k:=ZeP d;clear d;have fin:JX B W b (YZ {g with Z:=(i:Int)+1}) (.returned<|.int .i64 0)<|(((W.setCell ⟨b,4,U⟩<|.int .i64<|(i:Int)+1).setCell ⟨b,3,U⟩<|.bool xw).setCell ⟨b,7,U⟩<|.slice U 0 0).setCell ⟨b,8,U⟩<|.slice U 0 0:=by
   have D:YZ {g with Z:=(i:Int)+1}= {g with Z:=(i:Int)+1,Y:=xw,ah:=[],ak:=[]}:=by
    unfold YZ;rw[if_pos (by show(i:Int)+1=(I g.H:Int);have:=k.out;omega)]
   rw[D];have l:∀c,c≠b->((((W.setCell ⟨b,4,U⟩<|.int .i64<|(i:Int)+1).setCell ⟨b,3,U⟩<|.bool xw).setCell ⟨b,7,U⟩<|.slice U 0 0).setCell ⟨b,8,U⟩<|.slice U 0 0).heap[c]?=W.heap[c]? :=λc a=>by
    simp[World.setCell,Zfm,Zgu a]
   have t:xz (xj<|(((W.setCell ⟨b,4,U⟩<|.int .i64<|(i:Int)+1).setCell ⟨b,3,U⟩<|.bool xw).setCell ⟨b,7,U⟩<|.slice U 0 0).setCell ⟨b,8,U⟩<|.slice U 0 0)=xz (xj W):=Zez;refine⟨rfl,⟨rfl,rfl,rfl,Nat.le_of_eq t.symm,λc _ a=>l c<|λe=>a<|by rw[e]⟩,λj=>if j=2\/j=3 then .slice U 0 0 else x j,y.out.le,?_,λj H=> ?_⟩;have:=w.out.1;have z:=w.out.2.1;simp[World.setCell,Zfm,this,Yn,z];have:j=2\/j=3\/(j≠2/\j≠3):=Z0;obtain rfl|rfl|⟨O,P⟩:=this;exact .nil _ _ Ze5;exact .nil _ _ Ze5;have Q:Zu {g with Z:=(i:Int)+1,Y:=xw,ah:=[],ak:=[]} j=Zu g j:=by
    have:j=0\/j=1\/j=4:=Z0;obtain rfl|rfl|rfl:=this<;>rfl
   rw[Q];simp only[O,P,or_self,ZfI];exact(y.out.rd j H).keep (λc a=>l c a.2.2) λc a=>⟨a.1,by rw[t];exact a.2.1,a.2.2⟩
  obtain rfl|⟨rfl,rfl⟩:=q;all_goals
   go_wp2;exact Zfp (v:=.int .i64 0) Zeq rfl fin
 .have o:((i:Int)+1==(I g.H:Int))=xw:=ZdP;have k:=ZeP d;clear d;have fin:JX B W b (YZ {g with Z:=(i:Int)+1}) (.returned<|.int .i64 0)<|W.setCell ⟨b,4,U⟩<|.int .i64<|(i:Int)+1:=by
   have D:YZ {g with Z:=(i:Int)+1}= {g with Z:=(i:Int)+1}:=by
    unfold YZ;rw[if_neg (by show ¬(i:Int)+1=(I g.H:Int);have:=k.out;omega)]
   rw[D];have l:∀c,c≠b->(W.setCell ⟨b,4,U⟩<|.int .i64<|(i:Int)+1).heap[c]?=W.heap[c]? :=λc a=>Zf4 _ _ _ _ a;have t:=p ⟨b,4,U⟩<|.int .i64<|(i:Int)+1;refine⟨rfl,⟨rfl,rfl,rfl,Nat.le_of_eq t.symm,λc _ a=>l c<|λe=>a<|by rw[e]⟩,x,y.out.le,?_,λj H=> ?_⟩;have:=w.out.1;have z:=w.out.2.1;simp[World.setCell,Zfm,this,Yn,z];exact(y.out.rd j H).keep (λc a=>l c a.2.2) λc a=>⟨a.1,by rw[t];exact a.2.1,a.2.2⟩
  obtain rfl|⟨rfl,rfl⟩:=q;all_goals
   go_wp2;exact Zfp (v:=.int .i64 0) Zeq rfl fin
def Ie{B W b g x}(S:NowI B W b g x)n:W.grownBy (W.setCell ⟨b,4,U⟩<|.int .i64 n) (J b)/\NowI B (W.setCell ⟨b,4,U⟩<|.int .i64 n) b {g with Z:=n} x:=by
 have d:∀c,c≠b->(W.setCell ⟨b,4,U⟩<|.int .i64 n).heap[c]?=W.heap[c]? :=λc a=>Zf4 _ _ _ _ a;have h:xz (xj<|W.setCell ⟨b,4,U⟩<|.int .i64 n)=xz (xj W):=Z1;refine⟨⟨rfl,rfl,rfl,Z0,ZdN⟩,S.le,?_,λj f=> ?_⟩;have:=S.nb;simp[World.setCell,Zfm,this,Yn];exact(S.rd j f).keep (λc a=>d c a.2.2) λc a=>ZdO
def Z4I{B W b g x}(S:NowI B W b g x):W.grownBy (((W.setCell ⟨b,3,U⟩<|.bool xw).setCell ⟨b,7,U⟩<|.slice U 0 0).setCell ⟨b,8,U⟩<|.slice U 0 0) (J b)/\
  NowI B (((W.setCell ⟨b,3,U⟩<|.bool xw).setCell ⟨b,7,U⟩<|.slice U 0 0).setCell ⟨b,8,U⟩<|.slice U 0 0) b {g with Y:=xw,ah:=[],ak:=[]} (λj=>if j=2\/j=3 then .slice U 0 0 else x j):=by
 have d:∀c,c≠b->(((W.setCell ⟨b,3,U⟩<|.bool xw).setCell ⟨b,7,U⟩<|.slice U 0 0).setCell ⟨b,8,U⟩<|.slice U 0 0).heap[c]?=W.heap[c]? :=λc a=>by
  simp[World.setCell,Zfm,Zgu a]
 have n:xz (xj<|((W.setCell ⟨b,3,U⟩<|.bool xw).setCell ⟨b,7,U⟩<|.slice U 0 0).setCell ⟨b,8,U⟩<|.slice U 0 0)=xz (xj W):=Z1;refine⟨⟨rfl,rfl,rfl,Z0,ZdN⟩,S.le,?_,λj k=> ?_⟩;have:=S.nb;simp[World.setCell,Zfm,this,Yn];have:j=2\/j=3\/(j≠2/\j≠3):=Z0;obtain rfl|rfl|⟨f,h⟩:=this;exact .nil _ _ Ze5;exact .nil _ _ Ze5;have l:Zu {g with Y:=xw,ah:=[],ak:=[]} j=Zu g j:=by
  have:j=0\/j=1\/j=4:=Z0;obtain rfl|rfl|rfl:=this<;>rfl
 rw[l];simp[f,h,or_self,ZfI];exact(S.rd j k).keep (λc a=>d c a.2.2) λc a=>ZdO
def t8(W:Z3)(B:Z4)(b:Nat)(b4:∀c,xz (xj W)<=c->B c)(g:Hp)(x:Z5)(S:NowI B W b g x)(Z:g.ok)(i:Nat)(hi:g.Z=i)(f9:i<I g.H){u:Int}(hu:g.H[i]?=J u)(g6:¬u=0){v:Int}{g1:Hp}(hf:fwd g u=(v,g1,0))(d8:i<I g1.H)(d9:g1.Z=i):
  Calls Sol.prog 41 #[.bool xk,.pointer<|J ⟨b,0,U⟩] W (JX B W b<|YZ {g1 with H:=g1.H.set i v,Z:=(i:Int)+1}):=by
 obtain⟨gb,go,cap,G,e1,b9⟩:=Jy (S.rd 0 Z0) hu;rw[show I (Zu g 0)=(I g.H) from rfl]at G;have w:=S.nb;unfold Yn at w;rw[G,hi]at w;have yb:∀j,W.cell? ⟨b,j,U⟩=(#[.int .u64 g.base,.int .i64 g.cap,.int .i64 g.to,.bool g.Y,.int .i64 i,.slice (J ⟨gb,go,U⟩) (I g.H) cap,x 1,x 2,x 3,x 4]:Array Value)[j]? :=λj=>ZeU _ _ _ _ _ _ w;have g5:=Z.H;have uu:=Z.fm u<|ZeW hu;have wi:=Zy ((i:Int)+1) Z0 Z0;have e9:((i:Int)< (I g.H:Int))=True:=Zhi Z0;have hF:∀W',Below (xz<|xj W) W W'->Calls Sol.prog 42 #[.agg #[.int .u64 g.base,.int .i64 g.cap,.int .i64 g.to,.bool g.Y,.int .i64 i,.slice (J ⟨gb,go,U⟩) (I g.H) cap,x 1,x 2,x 3,x 4],.int .u64 u] W' (RE W' (v,g1,0)):=λW' hb=>by
  have:=DN W' (λc=>B c/\c<xz (xj W)/\c≠b) (λc f=>ZeV f.2.1 hb.size) g Z x (λj P=>(S.rd j P).keep (λc f=>hb.block c f.2.1) λ_ q=>q) u uu;rw[hf]at this;unfold ZA at this;rw[G,hi]at this;exact this
 have HF:=ZeP hF;have d6:=ZeP b4;have HS:=ZeP S;have HN:=ZeP<|And.intro w<|And.intro G<|And.intro b9 hi;have C:=(zQ Z uu);rw[hf]at C;have f5:=ZeP C;have e0:=Y9 w;clear S w G b9 hi hF hf C b4;go_enter Sol.func41,Try.ntmps41;go_upto_region 6 with (go_at_call 42;refine(HF.out _<|Zf3 _ _).mono ?_;rintro e w9 ⟨x9,rfl,b7,h⟩;obtain⟨a0,H,f0⟩:=Yi<|h.own 0 Z0;obtain⟨L,Q,f1⟩:=Yi<|h.own 1 Z0;obtain⟨M,R,f2⟩:=Yi<|h.own 2 Z0;obtain⟨N,T,f3⟩:=Yi<|h.own 3 Z0;obtain⟨O,X,f4⟩:=Yi<|h.own 4 Z0;obtain⟨a,rfl⟩:=yY (h.own 0 Z0) f0 (by show 0<I g1.H;omega);rw[show I (Zu g1 0)=(I g1.H) from rfl]at f0;unfold ZA;rw[f0,f1,f2,f3,f4];have k:=ZeP<|And.intro b7<|And.intro h<|And.intro f0<|And.intro f1<|And.intro f2<|And.intro f3 f4;clear b7 h f0 f1 f2 f3 f4);have e7:=k.out.1.size;have a7:Below (xz<|xj W) W<|w9.alloc<|.cells #[.int .u64 g1.base,.int .i64 g1.cap,.int .i64 g1.to,.bool g1.Y,.int .i64 i,.slice (J ⟨a,0,U⟩) (I g1.H) H,.slice L (I<|Zu g1 1) Q,.slice M (I<|Zu g1 2) R,.slice N (I<|Zu g1 3) T,.slice O (I<|Zu g1 4) X] 30:=k.out.1.alloc e7 _;have a9:=Zf5 w9<|.cells #[.int .u64 g1.base,.int .i64 g1.cap,.int .i64 g1.to,.bool g1.Y,.int .i64 i,.slice (J ⟨a,0,U⟩) (I g1.H) H,.slice L (I<|Zu g1 1) Q,.slice M (I<|Zu g1 2) R,.slice N (I<|Zu g1 3) T,.slice O (I<|Zu g1 4) X] 30;have b3:xz (xj<|w9.alloc<|.cells #[.int .u64 g1.base,.int .i64 g1.cap,.int .i64 g1.to,.bool g1.Y,.int .i64 i,.slice (J ⟨a,0,U⟩) (I g1.H) H,.slice L (I<|Zu g1 1) Q,.slice M (I<|Zu g1 2) R,.slice N (I<|Zu g1 3) T,.slice O (I<|Zu g1 4) X] 30)=xz (xj w9)+1:=Z1;have l:HOwn (xz<|xj W) (w9.alloc<|.cells #[.int .u64 g1.base,.int .i64 g1.cap,.int .i64 g1.to,.bool g1.Y,.int .i64 i,.slice (J ⟨a,0,U⟩) (I g1.H) H,.slice L (I<|Zu g1 1) Q,.slice M (I<|Zu g1 2) R,.slice N (I<|Zu g1 3) T,.slice O (I<|Zu g1 4) X] 30) g1 x9:=⟨λj P=>Xo (k.out.2.1.own j P) λc f=>ZeR w9 _ c ((k.out.2.1.own j P).lt c f).2,k.out.2.1.apart⟩;have f7:xz (xj W)<=a/\a<xz (xj w9):=(k.out.2.1.own 0 Z0).lt a (by rw[k.out.2.2.1];rfl);obtain⟨K,b5⟩:∃K,K=w9.alloc (.cells #[.int .u64 g1.base,.int .i64 g1.cap,.int .i64 g1.to,.bool g1.Y,.int .i64 i,.slice (J ⟨a,0,U⟩) (I g1.H) H,.slice L (I<|Zu g1 1) Q,.slice M (I<|Zu g1 2) R,.slice N (I<|Zu g1 3) T,.slice O (I<|Zu g1 4) X] 30):=⟨_,rfl⟩;rw[<-b5]at a7 a9 b3 l⊢;clear b5;have a5:=(a7.block b e0).trans HN.out.1;have y7:∀j,K.cell? ⟨xz<|xj w9,j,U⟩=(#[.int .u64 g1.base,.int .i64 g1.cap,.int .i64 g1.to,.bool g1.Y,.int .i64 i,.slice (J ⟨a,0,U⟩) (I g1.H) H,.slice L (I<|Zu g1 1) Q,.slice M (I<|Zu g1 2) R,.slice N (I<|Zu g1 3) T,.slice O (I<|Zu g1 4) X]:Array Value)[j]? :=λj=>ZeU _ _ _ _ _ _ a9;have e8:∀j,K.cell? ⟨b,j,U⟩=(#[.int .u64 g.base,.int .i64 g.cap,.int .i64 g.to,.bool g.Y,.int .i64 i,.slice (J ⟨gb,go,U⟩) (I g.H) cap,x 1,x 2,x 3,x 4]:Array Value)[j]? :=λj=>ZeU _ _ _ _ _ _ a5;have d7:∀j,K.frozen? ⟨b,j,U⟩=xw:=λj=>Yd a5;have z:=ZeP<|And.intro a7<|And.intro l<|And.intro b3 a5;clear a7 l b3 a5 a9;go_upto_region 7 with fail;obtain⟨d,t⟩:∃d,d=((((((((((K.setCell ⟨b,0,U⟩<|.int .u64 g1.base).setCell ⟨b,1,U⟩<|.int .i64 g1.cap).setCell ⟨b,2,U⟩<|.int .i64 g1.to).setCell ⟨b,3,U⟩<|.bool g1.Y).setCell ⟨b,4,U⟩<|.int .i64 i).setCell ⟨b,5,U⟩<|.slice (J ⟨a,0,U⟩) (I g1.H) H).setCell ⟨b,6,U⟩<|.slice L (I<|Zu g1 1) Q).setCell ⟨b,7,U⟩<|.slice M (I<|Zu g1 2) R).setCell ⟨b,8,U⟩<|.slice N (I<|Zu g1 3) T).setCell ⟨b,9,U⟩<|.slice O (I<|Zu g1 4) X):=⟨_,rfl⟩;rw[<-t];have b0:d.heap[b]?=J (.cells #[.int .u64 g1.base,.int .i64 g1.cap,.int .i64 g1.to,.bool g1.Y,.int .i64 i,.slice (J ⟨a,0,U⟩) (I g1.H) H,.slice L (I<|Zu g1 1) Q,.slice M (I<|Zu g1 2) R,.slice N (I<|Zu g1 3) T,.slice O (I<|Zu g1 4) X] 30 (0,0)):=by rw[t];exact MY z.out.2.2.2 _ _ _ _ _ _ _ _ _ _
 have p:∀c,c≠b->d.heap[c]?=K.heap[c]? :=λc f=>by rw[t];exact UH f _ _ _ _ _ _ _ _ _ _
 have d0:xz (xj d)=xz (xj K):=by rw[t];simp[World.setCell]
 have a6:Below 0 K d:=by rw[t];exact XT (Zf3 _ _) (ZfO _) _ _ _ _ _ _ _ _ _ _
 have a8:K.grownBy d<|J b:=⟨a6.os,a6.tape,a6.output,a6.size,λc _ f=>p c<|λe=>f<|by rw[e]⟩;clear t;have n:HOwn (xz<|xj W) d g1 x9:=⟨λj P=>Xo (z.out.2.1.own j P) λc f=>p c (by have:=((z.out.2.1.own j P).lt c f).1;omega),z.out.2.1.apart⟩;have F:=n.own 0 Z0;rw[k.out.2.2.1,show I (Zu g1 0)=(I g1.H) from rfl]at F;obtain⟨z0,c1⟩:∃z0,g1.H[i]?=J z0:=⟨_,ZeL d8⟩;have ec:d.cell? ⟨a,i,U⟩=J (.int .u64 z0):=by
  rw[F.cellAt i Z0];simp[Yg,Zu,c1]
 have ef:d.frozen? ⟨a,i,U⟩=xw:=F.frozenAt i;have y3:∀j,d.cell? ⟨b,j,U⟩=(#[.int .u64 g1.base,.int .i64 g1.cap,.int .i64 g1.to,.bool g1.Y,.int .i64 i,.slice (J ⟨a,0,U⟩) (I g1.H) H,.slice L (I<|Zu g1 1) Q,.slice M (I<|Zu g1 2) R,.slice N (I<|Zu g1 3) T,.slice O (I<|Zu g1 4) X]:Array Value)[j]? :=λj=>ZeU _ _ _ _ _ _ b0;have f8:((i:Int)< (I g1.H:Int))=True:=Zhi Z0;have A:=ZeP<|And.intro b0<|And.intro p<|And.intro d0<|And.intro a8<|And.intro n F;clear b0 p d0 a8 n F y7 e8 d7 c1;go_upto_region 8 with fail;have b8:a≠b:=Z0;obtain⟨b2,e5⟩:=A.out.2.2.2.2.2.stored i<|.int .u64 v;have r:∀c,c≠a->(d.setCell ⟨a,i,U⟩<|.int .u64 v).heap[c]?=d.heap[c]? :=λc f=>Zf4 _ _ _ _ f;have d5:xz (xj<|d.setCell ⟨a,i,U⟩<|.int .u64 v)=xz (xj d):=Zez;have D:=(r b<|Zgu b8).trans A.out.1;have S4:NowI B (d.setCell ⟨a,i,U⟩<|.int .u64 v) b {g1 with H:=g1.H.set i v} x9:=by
  refine⟨HS.out.le,?_,λj P=> ?_⟩;rw[D];unfold Yn;rw[k.out.2.2.1,k.out.2.2.2.1,k.out.2.2.2.2.1,k.out.2.2.2.2.2.1,k.out.2.2.2.2.2.2];simp only[d9];have c0:∀c,xz (xj W)<=c->c< xz (xj<|d.setCell ⟨a,i,U⟩<|.int .u64 v)->B c/\c< xz (xj<|d.setCell ⟨a,i,U⟩<|.int .u64 v)/\c≠b:=λc h1 h2=>⟨d6.out c h1,h2,Z0⟩;by_cases e:j=0;subst e;have hn:Yg .u64 (g1.H.set i v)=(Yg .u64<|Zu g1 0).set i (.int .u64 v):=KW _ _ _ _;rw[<-hn]at b2;show Rd _ _ (.sl<|(g1.H.set i v).map vu)<|x9 0;rw[k.out.2.2.1];have e4:I g1.H=I (g1.H.set i v):=by rw[ZgH]
  have e6:(d.setCell ⟨a,i,U⟩<|.int .u64 v).ownsRow (xz<|xj W) 24 1 (.slice (J ⟨a,0,U⟩) (I g1.H) H) (I<|g1.H.set i v)<|Yg .u64<|g1.H.set i v:=by rw[<-e4];exact b2
  exact R9 e6 c0;have e3:Zu {g1 with H:=g1.H.set i v} j=Zu g1 j:=by
   have:j=1\/j=2\/j=3\/j=4:=Z0;obtain rfl|rfl|rfl|rfl:=this<;>rfl
  rw[e3];refine R9 (Xo (A.out.2.2.2.2.1.own j P) λc f=>r c λe2=> ?_) c0;exact A.out.2.2.2.2.1.apart 0 j Z0 P c (by rw[e2,k.out.2.2.1];rfl) f
 have G4:W.grownBy (d.setCell ⟨a,i,U⟩<|.int .u64 v)<|J b:=by
  have g2:=UX z.out.1<|J b;have g3:=Sa g2 A.out.2.2.2.1;refine⟨g3.os,g3.tape,g3.output,by rw[d5];exact g3.size,λc f hn=> ?_⟩;rw[r c Z0];exact g3.block c f hn
 obtain⟨W4,b6⟩:∃W4,W4=d.setCell ⟨a,i,U⟩ (.int .u64 v):=⟨_,rfl⟩;rw[<-b6]at S4 G4 D⊢;clear b6 r d5 b2 e5;have y4:∀j,W4.cell? ⟨b,j,U⟩=(#[.int .u64 g1.base,.int .i64 g1.cap,.int .i64 g1.to,.bool g1.Y,.int .i64 i,.slice (J ⟨a,0,U⟩) (I g1.H) H,.slice L (I<|Zu g1 1) Q,.slice M (I<|Zu g1 2) R,.slice N (I<|Zu g1 3) T,.slice O (I<|Zu g1 4) X]:Array Value)[j]? :=λj=>ZeU _ _ _ _ _ _ D;have f6:∀j,W4.frozen? ⟨b,j,U⟩=xw:=λj=>Yd D;have Y:=ZeP<|And.intro S4 G4;clear S4 G4 D ec ef y3;by_cases o:i+1=I g1.H
 .have b1:((i:Int)+1==(I g1.H:Int))=xk:=ZdP;have y:=ZeP o;clear o;go_wp2;refine Zfp (v:=.int .i64 0) Zeq rfl ?_;have he:YZ {g1 with H:=g1.H.set i v,Z:=(i:Int)+1}= {g1 with H:=g1.H.set i v,Z:=(i:Int)+1,Y:=xw,ah:=[],ak:=[]}:=by
   unfold YZ;rw[if_pos (by show(i:Int)+1=(I (g1.H.set i v):Int);rw[ZgH];have:=y.out;omega)]
  rw[he];obtain⟨p1,p2⟩:=Ie Y.out.1<|(i:Int)+1;obtain⟨p3,p4⟩:=Z4I p2;exact⟨rfl,Sa (Sa Y.out.2 p1) p3,_,p4⟩
 .have b1:((i:Int)+1==(I g1.H:Int))=xw:=ZdP;have y:=ZeP o;clear o;go_wp2;refine Zfp (v:=.int .i64 0) Zeq rfl ?_;have he:YZ {g1 with H:=g1.H.set i v,Z:=(i:Int)+1}= {g1 with H:=g1.H.set i v,Z:=(i:Int)+1}:=by
   unfold YZ;rw[if_neg (by show ¬(i:Int)+1=(I (g1.H.set i v):Int);rw[ZgH];have:=y.out;omega)]
  rw[he];obtain⟨p1,p2⟩:=Ie Y.out.1<|(i:Int)+1;exact⟨rfl,Sa Y.out.2 p1,_,p2⟩
def Z7D{g:Hp}{p:Pts}(r:Rt g p){i:Nat}(B:g.Z=i)(w:Vg p.H i=xk){u:Int}(x:g.H[i]?=J u):Gos g p u 1 2\/Gos g p u 3 4:=by
 obtain⟨o,d,z,A⟩:=Jc.1 w;obtain⟨a,n,m,f,y,em,l,_,t⟩:=r.toTld.ob (k:=1) Z0 d;have q:o.gone=xw:=(r.an 1 Z0).ct o d;obtain⟨j,h⟩:∃j,i=a+1+j:=⟨i-a-1,Z0⟩;have:=r.ptr 1 Z0 o d q j Z0 u (by rw[f,Zf2,<-h];exact x);unfold Wd at this;rw[if_neg Z0,if_pos ⟨rfl,by rw[f,Zf2,<-h];omega⟩]at this;exact this
def Z7N{l:Z8}{i:Nat}{u:Int}(h:l[i]?=J u):l.set i u=l:=by
 apply Zh0;intro j;rw[List.getElem?_set];by_cases e:i=j;subst e;rw[if_pos rfl,h,if_pos (ZeM.1 h).1];rw[if_neg e]
def t5(W:Z3)(B:Z4)(b:Nat)(n:∀c,xz (xj W)<=c->B c)(g:Hp)(x:Z5)(S:NowI B W b g x)(h:g.ok){p:Pts}(r:Rt g p)(hc:g.Y=xk):
  Calls Sol.prog 41 #[.bool<|Vg p.H g.Z,.pointer<|J ⟨b,0,U⟩] W (JX B W b<|WE g):=by
 obtain⟨i,a⟩:=Zf0 r.fu;have d:i<I g.H:=by have:=r.kw hc;omega
 have w:=r.ma;obtain⟨u,j⟩:∃u,g.H[i]?=J u:=⟨_,ZeL d⟩;have o:(g.H[g.Z.toNat]?).getD 0=u:=by rw[a,Zf2,j];rfl
 cases q:Vg p.H g.Z with
 |false=>
  have l:WE g=YZ {g with Z:=(i:Int)+1}:=by
   unfold WE;rw[w,if_neg (by rw[q];simp),a]
  rw[l];exact DS W B b g x S h i a d xw<|.inl rfl
 |true=>
  have l:WE g=YZ {(fwd g u).2.1 with H:=(fwd g u).2.1.H.set i (fwd g u).1,Z:=(i:Int)+1}:=by
   unfold WE;rw[w,if_pos q,o,a,Zf2]
  by_cases k:u=0;subst k;have:WE g=YZ {g with Z:=(i:Int)+1}:=by
   rw[l,G5 r.bb];simp only;rw[Z7N j]
  rw[this];exact DS W B b g x S h i a d xk<|.inr j;obtain⟨v,g1,y,f⟩:=r.toBody.ik r.iq<|Z7D r a (by rw[<-a];exact q) j;rw[l,f.fwd];obtain⟨z,t⟩:=f.ext.H;exact t8 W B b n g x S h i a d j k f.fwd (by rw[t,Zfx];omega) (by rw[f.ext.Z];exact a)
section
def E7{α:Type}(F:Fence)(n:Nat)(P:Z6)(g:Nat)(lb:Zd)(d:α->Array Value)(o:World->World->Prop)(p:List α->α->World->Prop)(S:List α->World->Prop)(N:Nat)(k:List α->World->Prop)(w:Z3):Prop:=
 ∀(l:Nat) (q h:List α->World->Prop) (W:Z3),Below (xz<|xj w) w W->(∀pre W,q pre W->k pre W)->AbidesFrom (xz<|xj W) q->AbidesFrom (xz<|xj W) h->
  (∀pre x f,q pre f->p pre x f->I pre<N->YieldAt F (n-1) P l (d x) f λe a=>
   (e=.returned (.bool xk)/\q (pre++[x]) a/\o f a)\/(e=.returned (.bool xw)/\h (pre++[x]) a))->
  q [] W->
  CallsIn F n P g (#[.func (.yield l) #[] #[]]++lb) W λe a=>(∃v,e=.returned v)/\((∃j,S j a/\q j a)\/(∃pre,h pre a))
variable {F:Fence}{n:Nat}{P:Z6}
def Z98{α:Type}{g:Operand}{ps:Array Tmp}{assign body:Code}{Q:Zf}{a:Act}{w:Z3}
  (d8:F.round=U) (h1:1<=n) {gf:Nat} {lb:Zd} (hg:a.eval g=.func (.func gf) #[] lb) (b3:F.fn gf) (eg:∀args w,(callFunc gf args).run P w=.ok (.enter gf args) w)
  {M:α->Array Value} {Kp:World->World->Prop} {Px:List α->α->World->Prop} {S:List α->World->Prop} {N:Nat} {Ex:List α->World->Prop} {w0:Z3} (b1:E7 F (n-1) P gf lb M Kp Px S N Ex w0)
  (a5:∀ {A B C:Z3},Kp A B->Kp B C->Kp A C) (a4:∀(W:Z3) (l:Nat) (o o':Obj),xz (xj w)<=l->W.heap[l]?=J o->o.isCells=xw->o.isWalk=xw->Kp W (W.putObj l o')) (a6:Below (xz<|xj w0) w0 w) (d6:∀x,(M x).size=ps.size)
  (I:List α->World->Prop) (Ix:Code->List α->World->Prop) (hI:OwnFrom (xz<|xj w) I) (b2:∀pre W,I pre W->Ex pre W) (X:∀c,OwnFrom (xz<|xj w)<|Ix c) (b7:∀pre x,OwnFrom (xz<|xj w)<|λ(_:Unit) W=>Px pre x W) (hS:OwnFrom (xz<|xj w) S) (h0:I [] w) (a₁:α->Act)
  (Y:∀(l:Nat) (x:α) (W:Z3) (K:Zo),K (a₁ x) W->
   assign.wpIn (F.inRound l) (n-1-1) P (Exit.then K<|λ_ _ _=>False) {tmps:=(ps.zip<|M x).foldl (λt (p,v)=>t.setIfInBounds p v) a.tmps,defers:=[]} W)
  (a0:∀(l:Nat) (pre:List α) (x:α) (W:Z3),I pre W->Px pre x W->xq pre<N->body.wpIn (F.inRound l) (n-1-1) P (ownPostG (xz<|xj w) Kp I Ix (pre++[x]) W) (a₁ x) W)
  (a1:∀(D:Nat) (xs:List α) (W:Z3),xz (xj w)<=D->S xs W->I xs W->W.heap[D]?=J (.deferred<|J [])->Q .normal {a with defers:= {target:=.collected D,args:=#[]}::a.defers} W)
  (a2:∀(D:Nat) (c:Code) (pre:List α) (W:Z3),xz (xj w)<=D->Ix c pre W->W.heap[D]?=J (.deferred<|J [])->c.wpIn F n P Q {a with defers:= {target:=.collected D,args:=#[]}::a.defers} W):
  (Code.rangeFunc g ps assign body).wpIn F n P Q a w:=by
 refine wpIn_rangeFunc λfn c0=> ?_;rw[d8];obtain⟨f,j⟩:∃f:LoopState->Option Code->Loop,f=λst pe=> {state:=st,pending:=pe,fn,tmps:=a.tmps,params:=ps,assign,body,defers:=xz (xj w)}:=⟨_,rfl⟩;obtain⟨T,O⟩:∃T,(w.alloc<|.deferred<|J []).alloc (.loop<|f .ready U)=T:=⟨_,rfl⟩;have b6:T.heap[xz (xj w)+1]?=J (.loop<|f .ready U):=by
  have:=ZfX (w.alloc<|.deferred<|J [])<|.loop<|f .ready U;rw[ZgN]at this;rw[<-O];exact this
 have b5:T.heap[xz<|xj w]?=J (.deferred<|J []):=by
  rw[<-O];exact(ZeR _ _ _ Z1).trans (ZfX w _)
 have b4:I [] T:=by rw[<-O];exact hI.alloc _<|hI.alloc _ h0
 have b9:Below (xz<|xj w0) w0 T:=by
  rw[<-O];exact a6.trans<|(((Zf3 _ w).alloc (ZeQ _) _).alloc Z1 _).mono a6.size
 refine⟨xz (xj w)+1,[{target:=.collected<|xz<|xj w,args:=#[]}],T,{target:=.fn (.func gf) lb,args:=#[.func (.yield<|xz (xj w)+1) #[] #[]]},T,gf,
  #[.func (.yield<|xz (xj w)+1) #[] #[]]++lb,T,?_,?_,?_,?_,λ_=>h1,?_⟩
 rw[<-O,j];exact run_enterLoop_outer _ _ _ _ _
 .simp only[resolve,hg];simp[go_sem]
 intro f' a7;simp[Target.leads]at a7;subst a7;exact b3
 .simp[invoke,go_sem,eg]
 have b0:∀ {A B:Z3} {row:Option Nat},(∀r,row=J r->xz (xj T)<=r/\∃o:Obj,A.heap[r]?=J o/\o.isWalk=xk)->(∀r,row=J r->xz (xj w)<=r/\∃o:Obj,A.heap[r]?=J o/\o.isCells=xw):=
  λu r e=>by obtain⟨hB,o,ho,hw⟩:=u r e;exact⟨by rw[<-O]at hB;simp at hB;omega,o,ho,Obj.not_cells_of_walk hw⟩
 refine(b1 (xz (xj w)+1)
  (λpre W=>I pre W/\W.heap[xz (xj w)+1]?=J (.loop<|f .ready U)/\W.heap[xz<|xj w]?=J (.deferred<|J []))
  (λpre W=>∃c,Ix c pre W/\W.heap[xz (xj w)+1]?=J (.loop<|f .done<|J c)/\W.heap[xz<|xj w]?=J (.deferred<|J []))
  T b9 (λpre W h=>b2 pre W h.1)
  (λs A B row hs z u=>⟨hI s A B row hs.1 z<|b0 (B:=B) u,(Ziu z (λr e=>(u r e).2) hs.2.1 rfl).trans hs.2.1,(Ziu z (λr e=>(u r e).2) hs.2.2 rfl).trans hs.2.2⟩)
  (λs A B row hs z u=>by
   obtain⟨c,hc,y,Z⟩:=hs;exact⟨c,X c s A B row hc z<|b0 (B:=B) u,(Ziu z (λr e=>(u r e).2) y rfl).trans y,(Ziu z (λr e=>(u r e).2) Z rfl).trans Z⟩)
  ?_ ⟨b4,b6,b5⟩).mono ?_
 rintro pre x W ⟨hi,y,Z⟩ d7 a9;have d5:xz (xj w)+1<xz (xj W):=(ZeT.1 y).1;have hy:=run_yield (P:=P) (args:=M x) y (by rw[j];exact d6 x);rw[j]at hy;refine⟨fn,_,assign,body,hy,roundIn_of_wpIn c0<|Y _ x W _ ⟨_,run_beginRound y (by rw[j]),?_⟩⟩;have d0:(W.putObj (xz (xj w)+1)<|.loop {f .ready U with state:=.busy}).heap[xz (xj w)+1]?=J (.loop {f .ready U with state:=.busy}):=Zh9 d5;have c1:(W.putObj (xz (xj w)+1)<|.loop {f .ready U with state:=.busy}).heap[xz<|xj w]?=J (.deferred<|J []):=(Zfq Z0).trans Z;have d9:Kp W<|W.putObj (xz (xj w)+1)<|.loop {f .ready U with state:=.busy}:=a4 _ _ _ _ Z0 y rfl rfl;refine wpIn_mono (a0 _ pre x _ (hI.putObj _ hi Z0 y rfl) ((b7 pre x).putObj (s:=()) _ d7 Z0 y rfl) a9) ?_
 have fin:∀(d:Option Code) (R:Z3),KeepsFrom (xz<|xj w) (W.putObj (xz (xj w)+1)<|.loop {f .ready U with state:=.busy}) R->
   (Instr.endRound (xz (xj w)+1) d).run P R=.ok (.bool d.isNone) (R.putObj (xz (xj w)+1)<|.loop<|f (if d.isNone then .ready else .done) d)/\
   R.heap[xz (xj w)+1]?=J (.loop {f .ready U with state:=.busy})/\
   (R.putObj (xz (xj w)+1)<|.loop<|f (if d.isNone then .ready else .done) d).heap[xz (xj w)+1]?=J (.loop<|f (if d.isNone then .ready else .done) d)/\
   (R.putObj (xz (xj w)+1)<|.loop<|f (if d.isNone then .ready else .done) d).heap[xz<|xj w]?=J (.deferred<|J []):=λd R q=>by
  have k:=q.same _ _ Z0 d0 rfl;have:=run_endRound (P:=P) d k;rw[j]at this⊢;exact⟨this,by rw[j]at k;exact k,Zh9 (ZeT.1 k).1,(Zfq Z0).trans<|q.same _ _ (ZeQ _) c1 rfl⟩
 rintro e a3 R hp;cases e with
 |normal=>
  obtain⟨q,a8,G⟩:=hp;obtain⟨u,k,L,H⟩:=fin U R q;exact⟨_,_,u,.inl ⟨rfl,⟨hI.putObj _ G Z0 k rfl,L,H⟩,a5 (a5 d9 a8)<|a4 _ _ _ _ Z0 k rfl rfl⟩⟩
 |ret=>
  obtain⟨q,G⟩:=hp;obtain⟨u,k,L,H⟩:=fin (J .ret) R q;exact⟨_,_,u,.inr ⟨rfl,.ret,(X _).putObj _ G Z0 k rfl,L,H⟩⟩
 |exit id=>
  obtain⟨q,G⟩:=hp;obtain⟨u,k,L,H⟩:=fin (J<|.exit id) R q;exact⟨_,_,u,.inr ⟨rfl,.exit id,(X _).putObj _ G Z0 k rfl,L,H⟩⟩
 |goto t=>
  obtain⟨q,G⟩:=hp;obtain⟨u,k,L,H⟩:=fin (J<|.goto t) R q;exact⟨_,_,u,.inr ⟨rfl,.goto t,(X _).putObj _ G Z0 k rfl,L,H⟩⟩
 |panic ch=>exact hp.elim
 |outgrown=>exact hp.elim
 rintro e W2 ⟨⟨v,rfl⟩,(⟨xs,b8,hi,y,Z⟩|⟨pre,c,hi,y,Z⟩)⟩;exact⟨U,_,by have:=run_endLoop (P:=P) y (by rw[j];simp);rw[j]at this;exact this,a1 _ xs _ (ZeQ _) (hS.putObj _ b8 Z0 y rfl) (hI.putObj _ hi Z0 y rfl)<|(Zfq Z0).trans Z⟩;exact⟨J c,_,by have:=run_endLoop (P:=P) y (by rw[j];simp);rw[j]at this;exact this,a2 _ c pre _ (ZeQ _) ((X c).putObj _ hi Z0 y rfl)<|(Zfq Z0).trans Z⟩
end
def Z6y{W:Z3}{G G':Z4}{l j:Z8}{y:Ze}(h:Rd W G (.sl<|l.map vu) y)(h':Rd W G' (.sl<|j.map vu) y):l=j:=by
 obtain⟨a,c,e⟩:=Rd.bz h;obtain⟨x,A,n⟩:=Rd.bz h';have C:I l=I j:=by rw[e]at n;simp at n;exact n.2.1
 apply Zh0;intro k;cases p:l[k]? with
 |none=>rw[ZgV]at p;rw[ZfP Z0]
 |some u=>
  have B:=(ZeM.1 p).1;obtain⟨r,g⟩:∃r,j[k]?=J r:=⟨_,ZeL Z0⟩;obtain⟨b,o,cap,w,t,_⟩:=Jy h p;obtain⟨z,D,q,d,f,_⟩:=Jy h' g;rw[w]at d;simp at d;obtain⟨⟨rfl,rfl⟩,_,_⟩:=d;rw[t]at f;cases f;exact g.symm
def Z6s{W W':Z3}{B:Z4}{b:Nat}{row:Option Nat}{l:Z8}{y:Ze}(h:Rd W (λc=>B c/\c<xz (xj W)/\c≠b) (.sl<|l.map vu) y)(j:W.grownBy W' row)(F:∀r,row=J r->∃o:Obj,W.heap[r]?=J o/\o.isCells=xw):
  Rd W' (λc=>B c/\c<xz (xj W')/\c≠b) (.sl<|l.map vu) y:=by
 generalize A:l.map vu=L at h⊢;cases h with
 |nil a cap f=>exact .nil a cap f
 |sl _ d o cap k vs p q g t w x=>
  refine .sl _ d o cap k vs p q ⟨g.1,ZeV g.2.1 j.size,g.2.2⟩ t (λi C=> ?_) (λi c f=> ?_);have f:=w i C;rw[<-f];refine ZfC (a:=⟨d,o+i,U⟩) (j.block d g.2.1 λe=> ?_);obtain⟨G,D,H⟩:=F d e.symm;unfold World.cell? at f;rw[D]at f;cases G<;>simp_all [Obj.isCells];have z:=x i c f;rw[<-A,zK,Zfa]at f;cases n:l[i]? with
  |none=>rw[n]at f;cases f
  |some u=>
   rw[n]at f;cases f;rw[Sp z];exact .int _ _
def NowI.dv{B:Z4}{W W':Z3}{b:Nat}{g:Hp}{x:Z5}{row:Option Nat}(S:NowI B W b g x)(a:W.grownBy W' row)(f:∀r,row=J r->∃o:Obj,W.heap[r]?=J o/\o.isCells=xw):NowI B W' b g x:=
 ⟨S.le,(a.block b (Y9 S.nb) λe=>by obtain⟨o,d,k⟩:=f b e.symm;rw[S.nb]at d;cases d;cases k).trans S.nb,λj h=>Z6s (S.rd j h) a f⟩
def NowI.gz{B B':Z4}{W:Z3}{b:Nat}{g g':Hp}{x h:Z5}(S:NowI B W b g x)(a:NowI B' W b g' h):g'=g:=by
 have e:=S.nb.symm.trans a.nb;unfold Yn at e;simp at e;obtain⟨n,o,p,r,t,u,w,y,z,A⟩:=e;have q:∀j,j<5->Zu g' j=Zu g j:=λj f=>by
  have d:=S.rd j f;have l:=a.rd j f;have k:x j=h j:=by
   have:j=0\/j=1\/j=2\/j=3\/j=4:=Z0;obtain rfl|rfl|rfl|rfl|rfl:=this<;>assumption
  rw[k]at d;exact Z6y l d
 have C:=q 0 Z0;have D:=q 1 Z0;have F:=q 2 Z0;have G:=q 3 Z0;have H:=q 4 Z0;cases g;cases g';simp[Zu]at*;simp_all
def InBox(B:Z4)(b:Nat)(p:Pts)(W:Z3):Prop:=∃g x,NowI B W b g x/\g.ok/\Rt g p
def InBox.dv{B:Z4}{W W':Z3}{b:Nat}{p:Pts}{row:Option Nat}(S:InBox B b p W)(h:W.grownBy W' row)(j:∀r,row=J r->∃o:Obj,W.heap[r]?=J o/\o.isCells=xw):InBox B b p W':=by
 obtain⟨g,x,a,d,f⟩:=S;exact⟨g,x,a.dv h j,d,f⟩
def InBox.H{B B':Z4}{W:Z3}{b:Nat}{p f:Pts}(S:InBox B b p W)(h:InBox B' b f W):f.H=p.H:=by
 obtain⟨g,x,j,o,l⟩:=S;obtain⟨n,q,a,k,d⟩:=h;have:=j.gz a;subst this;exact Tiles.tq (l.an 1 Z0)<|d.an 1 Z0
structure KpN (B:Nat->Prop) (b kb:Nat) (A C:World):Prop where
 size:xz (xj A)<=xz (xj C)
 same:∀(c:Nat) (o:Obj),A.heap[c]?=J o->o.isCells=xk->c≠b->c≠kb->C.heap[c]?=J o
 H:∀p,InBox B b p A->∃q r,InBox B b q C/\q.H=p.H++r
theorem KpN.trans{B:Z4}{b kb:Nat}{X Y Z:Z3}(h:KpN B b kb X Y)(k:KpN B b kb Y Z):KpN B b kb X Z:=
 ⟨Zff h.size k.size,λc o d a f g=>k.same c o (h.same c o d a f g) a f g,λp j=>by
  obtain⟨q,r,d,a⟩:=h.H p j;obtain⟨s,t,k1,l⟩:=k.H q d;exact⟨s,r++t,k1,by rw[l,a,Zfw]⟩⟩
theorem KpN.put{B:Z4}{b kb:Nat}{W:Z3}{l:Nat}{o:Obj}(j:Obj)(g:W.heap[l]?=J o)(h:o.isCells=xw):KpN B b kb W<|W.putObj l j:=by
 have f:=ZhD W l j;have n:∀r,J l=J r->∃o:Obj,W.heap[r]?=J o/\o.isCells=xw:=λr e=>by cases e;exact⟨o,g,h⟩
 refine⟨f.size,λc q a d _ _=>(Zfq<|λe=> ?_).trans a,λp k=>⟨p,[],k.dv f n,Z1⟩⟩;subst e;rw[g]at a;cases a;rw[h]at d;cases d
def Z3s{ws:Z8}{l:Zi}(t:Tiles ws xw 0 l){o:Ob}(a:o∈l){i:Int}(g:o.aa<=i)(h2:i<=o.aa+o.size):Vg l i=(decide (o.aa<i)&&decide (i<=o.aa+o.M)):=by
 rw[ZiE,Jc];simp only[ZeO,Zfh];constructor;rintro⟨x,d,k1,f⟩;have j:=YB.1 (t.bc x d).1.shape;obtain e|e|e:=t.apart x d o a;subst e;exact⟨k1,f⟩;omega;omega;exactλh=>⟨o,a,h⟩
def AY(x:Nat×Bool):Array Value:=#[.int .i64 (x.1:Nat),.bool x.2]
def DX(B:Z4)(b:Nat)(pre:List<|Nat×Bool)(x:Nat×Bool)(W:Z3):Prop:=∃p,InBox B b p W/\x=(I pre,Vg p.H<|I pre)
def SN(B:Z4)(b:Nat)(xs:List<|Nat×Bool)(W:Z3):Prop:=∃g x,NowI B W b g x/\I g.H<=I xs
structure KnI (B:Nat->Prop) (b bk:Nat) (q:Pts) (W:World):Prop where
 bx:W.heap[bk]?=J (.cells #[.pointer<|J ⟨b,0,U⟩] 92 (0,0))
 ni:InBox B b q W
def KnI.grown{B:Z4}{b bk:Nat}{q:Pts}{W W':Z3}(h:KnI B b bk q W)(a:W.grownBy W' U):KnI B b bk q W':=
 ⟨(a.block _ (Y9 h.bx) Z1).trans h.bx,h.ni.dv a<|λr e=>by cases e⟩
end Vm
end
section
namespace Vm
open Go Go.Proofs Go.RowKit Go.Shelf
def Z3y(n:Nat){w:Z3}{B:Z4}{b bk kb:Nat}{p0:Pts}(hI:KnI B b bk p0 w)(a7:bk≠b)(K:bk≠kb)(hb:b<xz (xj w))(f5:kb<xz (xj w)):
  E7 Fence.wide n Sol.prog 67 #[.pointer<|J ⟨bk,0,U⟩] AY (KpN B b kb) (DX B b) (SN B b) 1000001 (λ_ _=>True) w:=by
 intro l h Jx W hW _ hJ f3 hY h0;refine callsIn_of_wp Sol.func67 rfl trivial ?_ rfl;simp only[Try.ntmps67,Zgc,Zg0,ZfU,Nat.reduceAdd,Nat.reduceSub,Zgz,ZgA,Zh1,ZgG,ZfE,Zg6];have d9:=ZeP<|hI.grown<|UX hW U;have f2:=hW.size;have e0:=ZeP h0;have e7:∀ {A:Z3},xz (xj w)<=xz (xj A)->xz (xj A)≠b/\xz (xj A)≠kb:=λh=>⟨Z0,Z0⟩;clear h0;gi_wp2
 gi_loopw [3] (λp wr=>∃(a:Nat),p=.int .i64 a/\Hid (∃(pre:List<|Nat×Bool) (q:Pts) (n:Nat),h pre wr/\KnI B b bk q wr/\xz (xj W)<=xz (xj wr)/\n<=I q.H/\a=WL (q.H.take n)/\I pre=a))
  (λp _=>1000001- (intOf p).toNat)
 case atStart=>exact⟨0,rfl,ZeP ⟨[],p0,0,e0.out,d9.out,ZeQ _,Z0,rfl,rfl⟩⟩
 case round=>
  obtain⟨a,rfl,HI⟩:=hrel;obtain⟨pre,q,n1,X,Y,b8,e8,a6,b7⟩:=HI.out;obtain⟨g,x,S,b2,r⟩:=Y.ni;obtain⟨sa,sc,a4⟩:=Rd.bz<|S.rd 0 Z0;rw[Zfc,show I (Zu g 0)=(I g.H) from rfl]at a4;have N:=S.nb;unfold Yn at N;rw[a4]at N;have y0:wr.cell? ⟨bk,0,U⟩=J (.pointer<|J ⟨b,0,U⟩):=by rw[ZeU _ _ _ _ _ _ Y.bx];rfl
  have yb:∀j,wr.cell? ⟨b,j,U⟩=(#[.int .u64 g.base,.int .i64 g.cap,.int .i64 g.to,.bool g.Y,.int .i64 g.Z,.slice sa (I g.H) sc,x 1,x 2,x 3,x 4]:Array Value)[j]? :=λj=>ZeU _ _ _ _ _ _ N;have t1:=r.an 1 Z0;simp only[Vk,Pts.mc]at t1;have b5:=b2.H;have d5:=t1.sum<|ZfO _;by_cases f6:a<I g.H
  .have b6:((a:Int)< (I g.H:Int))=True:=Zhi Z0;obtain⟨o,ho⟩:∃o,q.H[n1]?=J o:=by
    refine⟨_,ZeL<|Nat.lt_of_le_of_ne e8 λe=> ?_⟩;rw[e,Zgy]at a6;omega
   have a0:=t1.place ho;rw[Zfy,<-a6]at a0;have a1:=ZeW ho;have a3:=(t1.bc o a1).1;have c0:=YB.1 a3.shape;have M:=t1.ct o a1;have L:=a3.aw;obtain⟨u,hu,P⟩:=a3.word;rw[M,if_neg Z1]at P;replace P:=P.2.1;rw[a0,Zf2]at hu;have d6:=b2.fm u<|ZeW hu;obtain⟨gb,go,cap,a5,e2,e3⟩:=Jy (S.rd 0 Z0) hu;rw[a4]at a5;rw[show I (Zu g 0)=(I g.H) from rfl]at a5;simp only[Value.slice.injEq,true_and]at a5;obtain⟨rfl,rfl⟩:=a5;have O:=JL d6;rw[P]at O;obtain⟨m,hm⟩:∃m:Nat,o.size=m:=⟨o.size.toNat,Z0⟩;obtain⟨pt,a8⟩:∃pt:Nat,o.M=pt:=⟨o.M.toNat,Z0⟩;rw[hm]at O L c0;rw[a8]at O c0;have e1:=ZeP O;have HO:=ZeP<|And.intro a1<|And.intro a0<|And.intro hm<|And.intro a8<|And.intro t1<|And.intro ho<|And.intro b7 b8;have b0:=ZeP L;have b1:=ZeP<|And.intro X Y;have d8:=ZeP b5;have q1:IntKind.i64.wrap ((m:Int)+1)=((m+1:Nat):Int):=Ze0;clear O N t1 a1 a0 P hu d6 a4 e3 hm a8 L ho a3 M a6 d5 S r X Y b7 b8 b5;gi_wp2
   refine⟨trivial,λh=>Ze2,(ZgQ.2<|e1.out _).mono ?_⟩;rintro e w1 ⟨rfl,b3⟩;have a9:=ZeP b3;clear b3;gi_wp2
   have f8:=a9.out.size;have Z:wr.grownBy (w1.alloc<|.cells #[.int .i64 m,.int .i64 pt] 43) U:=Sa (UX a9.out U)<|Zg4 _ _ _;have HA:=ZeP<|And.intro (hJ _ _ _ _ b1.out.1 Z<|λr e=>by cases e)<|And.intro (b1.out.2.grown Z)<|And.intro (Zf5 w1<|.cells #[.int .i64 m,.int .i64 pt] 43) Z.size;have hT:xz (xj W)<=xz (xj w1):=by have:=HO.out.2.2.2.2.2.2.2;omega
   have C:=e7 (A:=w1) Z0;have f4:xz (xj W)<=xz (xj<|w1.alloc<|.cells #[.int .i64 m,.int .i64 pt] 43):=ZdP;clear Z;generalize f7:w1.alloc (.cells #[.int .i64 m,.int .i64 pt] 43)=w2 at*;have d7:=b0.out;have f1:=d8.out;gi_loopw [30] (λiv wi=>∃i:Nat,iv=.int .i64 i/\Hid (∃(f:List<|Nat×Bool) (Q:Pts) (r':Zi),h f wi/\KnI B b bk Q wi/\xz (xj w2)<=xz (xj wi)/\Q.H=q.H++r'/\I f=a+i/\i<=m+1/\wi.heap[xz<|xj w1]?=J (.cells #[.int .i64 m,.int .i64 pt] 43 (0,0)))) (λiv _=>m+1- (intOf iv).toNat)
   case atStart=>exact⟨0,rfl,ZeP ⟨pre,q,[],HA.out.1,HA.out.2.1,ZeQ _,Z1,by have:=HO.out.2.2.2.2.2.2.1;omega,Z0,HA.out.2.2.1⟩⟩
   case round=>
    obtain⟨i,rfl,HJ⟩:=hrel;obtain⟨f,Q,r',H,z,b9,F,a2,e4,D⟩:=HJ.out;have d0:wr.cell? ⟨xz<|xj w1,0,U⟩=J (.int .i64 m):=by rw[ZeU _ _ _ _ _ _ D];rfl
    have d1:wr.cell? ⟨xz<|xj w1,1,U⟩=J (.int .i64 pt):=by rw[ZeU _ _ _ _ _ _ D];rfl
    by_cases e6:i=m+1
    .subst e6;have e5:(((m+1:Nat):Int)< (m:Int)+1)=False:=Zhm Z0;have q2:IntKind.i64.wrap ((a:Int)+((m:Int)+1))=((a+(m+1):Nat):Int):=Ze0;clear z D H;gi_wp2
     obtain⟨k1,k2,k3,k4,k5,k6,k7⟩:=HO.out;obtain⟨f,Q,r',H,z,b9,F,a2,e4,D⟩:=HJ.out;have b4:n1+1<=I q.H:=by have:=(ZeM.1 k6).1;omega
     refine⟨⟨a+(m+1),Z1,ZeP ⟨f,Q,n1+1,H,z,Z0,by rw[F,Zfx];omega,?_,Z0⟩⟩,by simp[intOf];omega⟩;rw[F,List.take_append_of_le_length b4,Z8y k6,k3];have:=k5.place k6;omega
    .have e5:((i:Int)< (m:Int)+1)=True:=Zhi Z0;obtain⟨k1,k2,k3,k4,k5,k6,k7,k8⟩:=HO.out;have hx:DX B b f (a+i,Vg Q.H ((a+i:Nat):Int)) wr:=⟨Q,z.ni,by rw[a2]⟩;obtain⟨fn,f0,assign,e9,hy,hR⟩:=hY f _ wr H hx Z0;have hq:Vg Q.H ((a+i:Nat):Int)=(decide (0<i)&&decide (i<=pt)):=by
      obtain⟨g',x',_,_,r2⟩:=z.ni;have t2:=r2.an 1 Z0;simp only[Vk,Pts.mc]at t2;rw[Z3s t2 (o:=o) (by rw[F];exact Zge _ k1) Z0 Z0,k2,k4];congr 1;exact decide_eq_decide.2 Z0;exact decide_eq_decide.2 Z0
     unfold AY at hy;simp only[hq]at hy;have HQ:=ZeP<|And.intro hq<|And.intro hR<|And.intro b9<|And.intro F<|And.intro a2<|And.intro D z;have q2:IntKind.i64.wrap ((a:Int)+(i:Int))=((a+i:Nat):Int):=Ze0;have q3:IntKind.i64.wrap ((i:Int)+1)=((i+1:Nat):Int):=Ze0;clear hx H z hq hR D k1 k2 k3 k4 k5 k6 k7 k8 F a2;have h3:(i=0/\(0<i)=False)\/(((0:Int)< (i:Int))=True/\(0<i)=True/\((i:Int)<=(pt:Int))=True/\(i<=pt)=True)\/(((0:Int)< (i:Int))=True/\(0<i)=True/\((i:Int)<=(pt:Int))=False/\(i<=pt)=False):=by
      by_cases h0:i=0;exact .inl ⟨h0,Zhm Z0⟩;by_cases h1:i<=pt;exact .inr<|.inl ⟨Zhi Z0,Zhi Z0,Zhi Z0,Zhi h1⟩;exact .inr<|.inr ⟨Zhi Z0,Zhi Z0,Zhm Z0,Zhm h1⟩
     obtain⟨h0,h1⟩|⟨h0,h1,h2,h3⟩|⟨h0,h1,h2,h3⟩:=h3
     .subst h0;simp only[h1,ZiY,Zii,ZiZ,ZhA,ZhR,ZhS,Zgo,ZiI]at hy;gi_wp2
      refine⟨λh=>Ze2,HQ.out.2.1.mono ?_⟩;rintro e W3 (⟨rfl,t,y⟩|⟨rfl,k⟩)
      .have d:=ZeP<|And.intro t y;clear t y;gi_wp2
       obtain⟨c1,c2,c3,c4,c5,c6,c7⟩:=HQ.out;obtain⟨R,T,i1,i2⟩:=d.out.2.H Q c7.ni;refine⟨⟨1,Z1,ZeP ⟨f++[_],R,r'++T,d.out.1,⟨d.out.2.same _ _ c7.bx rfl a7 K,i1⟩,Zff c3 d.out.2.size,by rw[i2,c4,Zfw],by simp<;>omega,Z0,d.out.2.same _ _ c6 rfl C.1 C.2⟩⟩,by simp[intOf]<;>omega⟩
      .have G:=ZeP k;clear k;gi_wp2
       refine Zfp (results_none rfl _ _ _) rfl ?_;exact⟨⟨_,rfl⟩,.inr ⟨_,G.out⟩⟩
     .simp only[h1,h3,ZiY,Zii,ZiZ,ZhA,ZhR,ZhS,Zgo,ZiI]at hy;gi_wp2
      refine⟨λh=>Ze2,HQ.out.2.1.mono ?_⟩;rintro e W3 (⟨rfl,t,y⟩|⟨rfl,k⟩)
      .have d:=ZeP<|And.intro t y;clear t y;gi_wp2
       obtain⟨c1,c2,c3,c4,c5,c6,c7⟩:=HQ.out;obtain⟨R,T,i1,i2⟩:=d.out.2.H Q c7.ni;refine⟨⟨i+1,Z1,ZeP ⟨f++[_],R,r'++T,d.out.1,⟨d.out.2.same _ _ c7.bx rfl a7 K,i1⟩,Zff c3 d.out.2.size,by rw[i2,c4,Zfw],by simp<;>omega,Z0,d.out.2.same _ _ c6 rfl C.1 C.2⟩⟩,by simp[intOf];omega⟩
      .have G:=ZeP k;clear k;gi_wp2
       refine Zfp (results_none rfl _ _ _) rfl ?_;exact⟨⟨_,rfl⟩,.inr ⟨_,G.out⟩⟩
     .simp only[h1,h3,ZiY,Zii,ZiZ,ZhA,ZhR,ZhS,Zgo,ZiI]at hy;gi_wp2
      refine⟨λh=>Ze2,HQ.out.2.1.mono ?_⟩;rintro e W3 (⟨rfl,t,y⟩|⟨rfl,k⟩)
      .have d:=ZeP<|And.intro t y;clear t y;gi_wp2
       obtain⟨c1,c2,c3,c4,c5,c6,c7⟩:=HQ.out;obtain⟨R,T,i1,i2⟩:=d.out.2.H Q c7.ni;refine⟨⟨i+1,Z1,ZeP ⟨f++[_],R,r'++T,d.out.1,⟨d.out.2.same _ _ c7.bx rfl a7 K,i1⟩,Zff c3 d.out.2.size,by rw[i2,c4,Zfw],by simp<;>omega,Z0,d.out.2.same _ _ c6 rfl C.1 C.2⟩⟩,by simp[intOf];omega⟩
      .have G:=ZeP k;clear k;gi_wp2
       refine Zfp (results_none rfl _ _ _) rfl ?_;exact⟨⟨_,rfl⟩,.inr ⟨_,G.out⟩⟩
  .have b6:((a:Int)< (I g.H:Int))=False:=Zhm Z0;have HE:Hid<|h pre wr/\SN B b pre wr:=ZeP ⟨X,g,x,S,Z0⟩;clear N X S;gi_wp2
   go_end0
   exact⟨⟨_,rfl⟩,.inl ⟨pre,HE.out.2,HE.out.1⟩⟩
end Vm
end
section
namespace Vm
open Go Go.Proofs Go.RowKit
def Au{g:Hp}{x:Z5}(h:∀j,j<5->∃a q,x j=.slice a (I<|Zu g j) q):∃(a:Nat->Option Addr) (q:Zk),Yn g x=#[.int .u64 g.base,.int .i64 g.cap,.int .i64 g.to,.bool g.Y,.int .i64 g.Z,.slice (a 0) (I<|Zu g 0)<|q 0,.slice (a 1) (I<|Zu g 1)<|q 1,.slice (a 2) (I<|Zu g 2)<|q 2,.slice (a 3) (I<|Zu g 3)<|q 3,.slice (a 4) (I<|Zu g 4)<|q 4]/\∀j,j<5->x j=.slice (a j) (I<|Zu g j) (q j):=by
 have:∀j,∃p:Option Addr×Nat,j<5->x j=.slice p.1 (I<|Zu g j) p.2:=λj=>by
  by_cases d:j<5;obtain⟨a,q,e⟩:=h j d;exact⟨(a,q),λ_=>e⟩;exact⟨(U,0),λh=>absurd h d⟩
 obtain⟨f,e⟩:=ZhC this;exact⟨λj=>(f j).1,λj=>(f j).2,by simp[Yn,e],e⟩
def PL(w:Z3)(G:Z4)(hG:∀b,G b->b<xz (xj w))(h:Hp)(hh:h.ok)(Q:Z5)(hs:∀j,j<5->Rd w G (.sl<|(Zu h j).map vu) (Q j)){p:Pts}(r:Rt h p)(hc:h.Y=xw):
  Calls Sol.prog 25 #[ZA h Q] w (LV w (X0 h,0)):=by
 have hR:∀W,Below (xz<|xj w) w W->Calls Sol.prog 17 #[ZA h Q] W λe w'=>e=.returned (.bool<|Yt h)/\Below (xz<|xj W) W w':=λW B=>
  Lr (w:=W) (G:=G) (x:=Q) hh (λb X=>ZeV (hG b X) B.size) (λj n=>(hs j n).keep (λb X=>B.block b<|hG b X) λ_ q=>q)
 rw[r.right]at hR;unfold ZA at hR;rw[hc]at hR;have HR:=ZeP hR;have HS:=ZeP hs;have HH:=ZeP hh;have d7:=ZeP r;have M:=ZeP hc;have h7:h.to=0\/h.to=1:=by have:=XK.1 r.bb;exact this.2.2.2.2.1
 have l3:=Zy (1-h.to) Z0 Z0;clear hR hs hh r h7;unfold ZA;rw[hc];clear hc;go_enter Sol.func25,Try.ntmps25;go_wp2;refine Z7G 0 (λa W=>∃(c k:Nat) (x:Z5),a.defers=[]/\a.tmps.size=72/\a.tmps.getD 2 undef=.pointer (J ⟨xz (xj w)+1,0,U⟩)/\a.tmps.getD 4 undef=.pointer (J ⟨c,0,U⟩)/\a.tmps.getD 5 undef=.int .i64 k/\k<=xq h.E/\FlI w W c (VO (Wz h) k) x) (λa _=>xq h.E- (intOf<|a.tmps.getD 5 undef).toNat) rfl ?_ ?_
 .rintro a W ⟨c,k,x,hd,d5,h2,h4,h5,hk,HI⟩;obtain⟨t,d⟩:=a;simp only at hd d5 h2 h4 h5;subst hd;obtain⟨u,hu⟩:∃u:Z5,∀i,t.getD i undef=u i:=⟨λi=>t.getD i undef,λ_=>rfl⟩
  have et:t=#[u 0,u 1,u 2,u 3,u 4,u 5,u 6,u 7,u 8,u 9,u 10,u 11,u 12,u 13,u 14,u 15,u 16,u 17,u 18,u 19,u 20,u 21,u 22,u 23,u 24,u 25,u 26,u 27,u 28,u 29,u 30,u 31,u 32,u 33,u 34,u 35,u 36,u 37,u 38,u 39,u 40,u 41,u 42,u 43,u 44,u 45,u 46,u 47,u 48,u 49,u 50,u 51,u 52,u 53,u 54,u 55,u 56,u 57,u 58,u 59,u 60,u 61,u 62,u 63,u 64,u 65,u 66,u 67,u 68,u 69,u 70,u 71]:=(Z09 d5).trans (by
   have A:(λi=>t.getD i undef)=u:=funext hu;rw[A];rfl)
  rw[hu]at h2 h4 h5;rw[h2,h4,h5]at et;clear hu d5 h2 h4 h5;subst et;have D:=ZeP HI;clear HI;by_cases b9:k<xq h.E
  .have h7:h.to=0\/h.to=1:=by have:=XK.1 d7.out.bb;exact this.2.2.2.2.1
   obtain⟨q,I⟩:=zM d7.out M.out k Z0;obtain⟨⟨T,H,q',f⟩,_⟩:=FO d7.out b9 I;have g5:=Ad HH.out h7 k;have a6:(VO (Wz h) k).E[k]?=J h.E[k]:=by rw[I.rest k<|ZeQ _];exact ZeL b9
   have d0:VO (Wz h) (k+1)= {H with E:=H.E.set k T}:=by
    show RW (VO (Wz h) k) k=_;unfold RW;rw[a6,Zfl,f.fwd]
   have Y:(VO (Wz h) k).E.length=xq h.E:=I.len;have er:H.E=(VO (Wz h) k).E:=f.ext.E;have f2:H.ok/\ZC T:=by have:=zQ g5<|HH.out.di _<|Zf7 b9;rw[f.fwd]at this;exact this
   have f3:=f.fwd;have k5:=HH.out.di _<|Zf7 b9;clear I f;generalize VO (Wz h) k=g at*;generalize h.E[k]=u0 at*;obtain⟨gb,go,cap,e9,g7,i6⟩:=Jy (D.out.rd 4 Z0) a6;rw[show xq (Zu g 4)=(xq g.E) from rfl,Y]at e9;have hF:∀W',Below (xz<|xj W) W W'->Calls Sol.prog 42 #[.agg #[.int .u64 g.base,.int .i64 g.cap,.int .i64 g.to,.bool g.Y,.int .i64 g.Z,x 0,x 1,x 2,x 3,.slice (J ⟨gb,go,U⟩) (xq h.E) cap],.int .u64 u0] W' (RE W' (T,H,0)):=λW' B=>by
    have:=DN W' (λb=>xz (xj w)+2<=b/\b<xz (xj W)/\b≠c) (λb X=>ZeV X.2.1 B.size) g g5 x (λj n=>(D.out.rd j n).keep (λb X=>B.block b X.2.1) λ_ q=>q) u0 k5;rw[f3]at this;unfold ZA at this;rw[e9]at this;exact this
   have HF:=ZeP hF;have R:=D.out.nb;unfold Yn at R;rw[e9]at R;have yc:∀j,W.cell? ⟨c,j,U⟩=(#[.int .u64 g.base,.int .i64 g.cap,.int .i64 g.to,.bool g.Y,.int .i64 g.Z,x 0,x 1,x 2,x 3,.slice (J ⟨gb,go,U⟩) (xq h.E) cap]:Array Value)[j]? :=λj=>ZeU _ _ _ _ _ _ R;have g8:=Y9 R;have k7:((k:Int)< (xq h.E:Int))=True:=Zhi Z0;have HM:=ZeP<|And.intro d0<|And.intro er<|And.intro f2<|And.intro i6<|And.intro R Y;clear hF R Y e9 d0 er f2 a6 f3 g5 i6;go_upto_region 8 with fail;refine Nh [39,40,41,42,43,44,45,38,46,47,48,7,6,8] (FrC W (frE c g (λj=>if j=4 then .slice (J ⟨gb,go,U⟩) (xq h.E) cap else x j) k (.pointer<|J ⟨gb,go+k,U⟩) u0) T H) follows Z2 ⟨u,Ze1,?_⟩ ?_ ?_;exact⟨(Zf3 _ _).drew,λi _ _ _ h=>Ze2,λh=>Ze2,λh=>Ze2,λh=>Ze2⟩
   .intro L i o v W1 ho hi n C;have N:=ZeP C;have hz:xz (xj W)<=xz (xj W1):=C.b.size;have yd:∀j,W1.cell? ⟨c,j,U⟩=(#[.int .u64 g.base,.int .i64 g.cap,.int .i64 g.to,.bool g.Y,.int .i64 g.Z,x 0,x 1,x 2,x 3,.slice (J ⟨gb,go,U⟩) (xq h.E) cap]:Array Value)[j]? :=λj=>(C.b.cell (p:=⟨c,j,U⟩) g8).trans<|yc j;have j4:W1.cell? ⟨gb,go+k,U⟩=J (.int .u64 u0):=(C.b.cell (p:=⟨gb,go+k,U⟩) HM.out.2.2.2.1.2.1).trans g7;clear C;have k9:i<15:=(ZeT.1 ho).1;simp only[Te,Qn,Zfi,Zgb,Zgs,Zim,ZgL,ZhH,Zhb];have:i=0\/i=1\/i=2\/i=3\/i=4\/i=5\/i=6\/i=7\/i=8\/i=9\/i=10\/i=11\/i=12\/i=13\/i=14:=Z0;obtain rfl|rfl|rfl|rfl|rfl|rfl|rfl|rfl|rfl|rfl|rfl|rfl|rfl|rfl|rfl:=this<;>cases ho
    .go_wp2;try simp only[QN]
     exact⟨_,rfl,N.out.pe 0 Z0 rfl⟩
    .go_wp2;try simp only[QN]
     exact⟨_,rfl,N.out.pe 1 Z0 rfl⟩
    .have e1:v 40=.pointer (J ⟨c,9,U⟩):=N.out.e 1 Z0<|n 1 Ze4;go_wp2;try simp only[QN]
     exact⟨_,by rw[<-e1];rfl,N.out.pe 2 Z0 rfl⟩
    .go_wp2;try simp only[QN]
     exact⟨_,rfl,N.out.pe 3 Z0 rfl⟩
    .have e2:v 41=.slice (J ⟨gb,go,U⟩) (xq h.E) cap:=N.out.e 2 Z0<|n 2 Ze4;have e3:v 42=.int .i64 k:=N.out.e 3 Z0<|n 3 Ze4;go_wp2;try simp only[QN]
     exact⟨_,by rw[<-e2,<-e3];rfl,N.out.pe 4 Z0 rfl⟩
    .have e4:v 43=.pointer (J ⟨gb,go+k,U⟩):=N.out.e 4 Z0<|n 4 Ze4;go_wp2;try simp only[QN]
     exact⟨_,by rw[<-e4];rfl,N.out.pe 5 Z0 rfl⟩
    .have A:v 39=.agg #[.int .u64 g.base,.int .i64 g.cap,.int .i64 g.to,.bool g.Y,.int .i64 g.Z,x 0,x 1,x 2,x 3,.slice (J ⟨gb,go,U⟩) (xq h.E) cap]:=N.out.e 0 Z0<|n 0 Ze4;have e5:v 44=.int .u64 u0:=N.out.e 5 Z0<|n 5 Ze4;go_wp2_with (go_at_call 42;refine(HF.out _ N.out.b).mono ?_;rintro e w9 ⟨x9,rfl,b7,j0⟩;have b1:=ZeP<|And.intro b7 j0;clear b7 j0)
     try simp only[QN]
     exact⟨_,by rw[<-A,<-e5];rfl,N.out.call b1.out.1 b1.out.2⟩
    .obtain⟨x9,A,o9⟩:=N.out.t 6 (.inl rfl)<|n 6 Ze4;have A:v 45=Kq T H x9:=A;have O9:=ZeP o9;clear o9;go_wp2;try simp only[QN]
     exact⟨_,by rw[<-A];rfl,N.out.pt O9.out⟩
    iterate 3
     focus
      obtain⟨x9,A,o9⟩:=N.out.t 7 (.inr rfl)<|n 7 Ze4;have A:v 38=.tuple #[.int .u64 T,.agg<|Yn H x9,.int .i64 0]:=A;have O9:=ZeP o9;clear o9;go_wp2;try simp only[QN]
      first
      |exact⟨_,by rw[<-A];rfl,N.out.pf 8 (.inl rfl) rfl⟩
      |exact⟨_,by rw[<-A];rfl,N.out.pa O9.out⟩
      |exact⟨_,by rw[<-A];rfl,N.out.pz 10 (.inl rfl) rfl⟩
    .go_wp2;try simp only[QN]
     exact⟨_,rfl,N.out.alloc hi⟩
    .have A:v 46=.int .u64 T:=N.out.f 8 (.inl rfl)<|n 8 Ze4;go_wp2;try simp only[QN]
     exact⟨_,by rw[<-A];rfl,N.out.pf 12 (.inr rfl) rfl⟩
    .obtain⟨c7,e7,d9,j9,O⟩:=N.out.new<|n 11 Ze4;obtain⟨x9,i2,o9⟩:=N.out.a<|n 9 Ze4;have O:=O hi;have y4:∀j,W1.cell? ⟨c7,j,U⟩=ZN[j]? :=λj=>ZeU _ _ _ _ _ _ O;unfold ZN at y4;have y5:∀j,W1.frozen? ⟨c7,j,U⟩=xw:=λj=>Yd O;have H3:=ZeP O;obtain⟨a,q,K,_⟩:=Au λj n=>Yi<|o9.own.own j n;rw[K]at i2;have d6:=ZeP<|And.intro K o9;clear O o9 K;go_wp2;try simp only[QN]
     exact⟨_,by rw[<-e7,<-i2],N.out.store e7 d6.out.2 (n 11 Ze4) hi H3.out (λb B=>UH B _ _ _ _ _ _ _ _ _ _) Zez (by rw[d6.out.1];exact qq H3.out _ _ _ _ _ _ _ _ _ _)<|XT (Zf3 _ _) d9 _ _ _ _ _ _ _ _ _ _⟩
    .have A:v 48=.int .i64 0:=N.out.z 10 (.inl rfl)<|n 10 Ze4;go_wp2;try simp only[QN]
     exact⟨_,by rw[<-A];rfl,N.out.pz 14 (.inr rfl) rfl⟩
   .intro L v W1 hL C;have e6:v 6=.int .u64 T:=C.f 12 (.inr rfl)<|hL 12 Ze4;have e8:v 8=.int .i64 0:=C.z 14 (.inr rfl)<|hL 14 Ze4;obtain⟨c7,x9,e7,g6,o9⟩:=C.put<|hL 13 Ze4;have a7:=C.b;have d5:=a7.size;have b8:xq H.E=xq h.E:=by rw[HM.out.2.1,HM.out.2.2.2.2.2]
    obtain⟨a,q,K,f4⟩:=Au λj n=>Yi<|o9.own.own j n;have f4:=f4 4 Z0;have i5:xq (Zu H 4)=xq h.E:=b8;obtain⟨g4,i4⟩:=yY (o9.own.own 4 Z0) f4 Z0;rw[i4,i5]at f4 K;rw[K]at g6;have d8:=(a7.block c g8).trans HM.out.2.2.2.2.1;have y7:=λj=>ZeU _ _ j _ _ _ g6;have yd:=λj=>ZeU _ _ j _ _ _ d8;have fd:∀j,W1.frozen? ⟨c,j,U⟩=xw:=λj=>Yd d8;have HO:=ZeP<|And.intro o9.own<|And.intro a7<|And.intro K<|And.intro f4<|And.intro b8 d8;have i4:xz (xj W)<=g4/\g4<xz (xj W1):=(o9.own.own 4 Z0).lt g4 (by rw[f4];rfl);clear C o9 a7 K f4 b8 g6 d8 hL;simp only[Te,Qn,Zfi,Zgb,Zgs,Zim,ZgL,ZhH,Zhb];go_upto_region 12 with fail;obtain⟨W2,a2⟩:∃W2,W2=TN W1 c (.int .u64 H.base) (.int .i64 H.cap) (.int .i64 H.to) (.bool H.Y) (.int .i64 H.Z) (.slice (a 0) (xq<|Zu H 0)<|q 0) (.slice (a 1) (xq<|Zu H 1)<|q 1) (.slice (a 2) (xq<|Zu H 2)<|q 2) (.slice (a 3) (xq<|Zu H 3)<|q 3) (.slice (J ⟨g4,0,U⟩) (xq h.E)<|q 4):=⟨_,rfl⟩;unfold TN at a2;rw[<-a2];have b6:W2.heap[c]?=J (.cells (Yn H x9) 30 (0,0)):=by rw[HO.out.2.2.1,a2];exact MY HO.out.2.2.2.2.2 _ _ _ _ _ _ _ _ _ _
    have c0:∀b,b≠c->W2.heap[b]?=W1.heap[b]? :=λb B=>by rw[a2];exact UH B _ _ _ _ _ _ _ _ _ _
    have h8:xz (xj W2)=xz (xj W1):=by rw[a2];simp[World.setCell]
    have a8:Below (xz<|xj w) W1 W2:=by rw[a2];exact XT (Zf3 _ _) (by have:=D.out.le;omega) _ _ _ _ _ _ _ _ _ _
    clear a2;have P:HOwn (xz<|xj W) W2 H x9:=⟨λj n=>Xo (HO.out.1.own j n) λb B=>c0 b (by have:=((HO.out.1.own j n).lt b B).1;omega),HO.out.1.apart⟩;have a4:=P.own 4 Z0;rw[HO.out.2.2.2.1,show xq (Zu H 4)=(xq h.E) from HO.out.2.2.2.2.1]at a4;have y2:=λj=>ZeU _ _ j _ _ _ b6;rw[HO.out.2.2.1]at y2;obtain⟨z0,j3⟩:∃z0,H.E[k]?=J z0:=⟨_,ZeL (by rw[HO.out.2.2.2.2.1];exact b9)⟩;have ec:W2.cell? ⟨g4,k,U⟩=J (.int .u64 z0):=by
     rw[a4.cellAt k Z0];simp[Yg,Zu,j3]
    have ef:W2.frozen? ⟨g4,k,U⟩=xw:=a4.frozenAt k;have wk:=Zy ((k:Int)+1) (by have:=HH.out.E;omega) (by have:=HH.out.E;omega);have HQ:=ZeP<|And.intro b6<|And.intro c0<|And.intro h8<|And.intro a8<|And.intro P a4;clear b6 c0 h8 a8 P a4 y7 yd fd j3;go_wp2;go_step3
    simp only[Exit.then,Exit.inBlock];refine⟨rfl,⟨c,k+1,x9,rfl,rfl,rfl,rfl,?_,Z0,?_⟩,?_⟩;show Value.int .i64 ((k:Int)+1)=_;congr 1;rw[HM.out.1];obtain⟨b6,c0,h8,a8,P,a4⟩:=HQ.out;obtain⟨j2,l1⟩:=a4.stored k<|.int .u64 T;have k6:g4≠c:=Z0;have Z:∀b,b≠g4->(W2.setCell ⟨g4,k,U⟩<|.int .u64 T).heap[b]?=W2.heap[b]? :=λb B=>Zf4 _ _ _ _ B;have f1:xz (xj<|W2.setCell ⟨g4,k,U⟩<|.int .u64 T)=xz (xj W2):=Zez;have i8:=D.out.le;have a5:=D.out.rb;refine⟨(D.out.below.trans<|(HO.out.2.1.mono D.out.below.size).trans a8).setCell (by show xz (xj w)<=g4;have:=D.out.below.size;omega) _,?_,i8,?_,λj n=> ?_⟩;have:=Y9 a5;rw[Z _ Z0,c0 _ Z0,HO.out.2.1.block _ this];exact a5;rw[Z c Z0,b6];rfl;have i7:∀b,xz (xj W)<=b->b< xz (xj<|W2.setCell ⟨g4,k,U⟩<|.int .u64 T)->xz (xj w)+2<=b/\b< xz (xj<|W2.setCell ⟨g4,k,U⟩<|.int .u64 T)/\b≠c:=λb h1 h2=>⟨Z0,h2,Z0⟩;by_cases e:j=4;subst e;have hn:Yg .u64 (H.E.set k T)=(Yg .u64<|Zu H 4).set k (.int .u64 T):=KW _ _ _ _;rw[<-hn]at j2;show Rd _ _ (.sl<|(H.E.set k T).map vu)<|x9 4;rw[HO.out.2.2.2.1];have k3:xq h.E=xq (H.E.set k T):=by rw[ZgH,HO.out.2.2.2.2.1]
    have k4:(W2.setCell ⟨g4,k,U⟩<|.int .u64 T).ownsRow (xz<|xj W) 24 1 (.slice (J ⟨g4,0,U⟩) (xq h.E)<|q 4) (xq<|H.E.set k T)<|Yg .u64<|H.E.set k T:=by rw[<-k3];exact j2
    exact R9 k4 i7;have k0:Zu {H with E:=H.E.set k T} j=Zu H j:=by
     have:j=0\/j=1\/j=2\/j=3:=Z0;obtain rfl|rfl|rfl|rfl:=this<;>rfl
    rw[k0];refine R9 (Xo (P.own j n) λb B=>Z b λe2=> ?_) i7;exact P.apart j 4 Z0 Z0 b B (by rw[e2,HO.out.2.2.2.1];rfl);simp[intOf];omega
  .have k2:k=xq h.E:=Z0;subst k2;obtain⟨q,I⟩:=zM d7.out M.out (xq h.E)<|ZeQ _;have Y:(VO (Wz h)<|xq h.E).E.length=xq h.E:=I.len;clear I;have K:X0 h=TA (VO (Wz h)<|xq h.E):=rfl;rw[K];clear K;generalize VO (Wz h) (xq h.E)=g at*;obtain⟨a,q,h6,f0⟩:=Au (g:=g) (x:=x) λj n=>by simpa using Rd.bz (D.out.rd j n)
   have Y:xq (Zu g 4)=xq h.E:=Y;rw[Y]at h6;have R:=D.out.nb;rw[h6]at R;have a5:=D.out.rb;have i8:=D.out.le;have g8:=Y9 R;have yc:=λj=>ZeU _ _ j _ _ _ R;have fc:∀j,W.frozen? ⟨c,j,U⟩=xw:=λj=>Yd R;have yz:∀j,W.cell? ⟨xz (xj w)+1,j,U⟩=ZN[j]? :=λj=>ZeU _ _ _ _ _ _ a5;unfold ZN at yz;have fz:∀j,W.frozen? ⟨xz (xj w)+1,j,U⟩=xw:=λj=>Yd a5;have i9:¬xz (xj w)+1=c:=Z0;have k8:¬c=xz (xj w)+1:=Z0;have HP:=ZeP<|And.intro a5<|And.intro f0 Y;clear h6 R a5 f0 Y;by_cases b0:0<xq g.H
   .have h0:(0< xq (Zu g 0))=True:=Zhi b0;go_wp2;simp only[Exit.jump];obtain⟨W3,S⟩:∃W3,W3=W.setCell ⟨c,3,U⟩ (.bool xk):=⟨_,rfl⟩;rw[<-S];have Z:∀b,b≠c->W3.heap[b]?=W.heap[b]? :=λb B=>by
     rw[S];simp[World.setCell,Zfm,Zgu B]
    have f1:xz (xj W3)=xz (xj W):=by rw[S];simp[World.setCell]
    have b4:Below (xz<|xj w) W W3:=by
     rw[S];exact(Zf3 _ _).setCell ZeD _
    have y:=WU<|(Z _ i9).trans HP.out.1;have A:=HP.out.2.1 0 Z0;have e1:=HP.out.2.1 1 Z0;have e2:=HP.out.2.1 2 Z0;have e3:=HP.out.2.1 3 Z0;have e4:=HP.out.2.1 4 Z0;rw[HP.out.2.2]at e4;have g9:TA g= {g with Y:=xk}:=if_pos b0;rw[g9];clear S;refine Zfp (v:=.tuple #[ZA {g with Y:=xk} x,.int .i64 0]) ?_ rfl ⟨x,rfl,XT (D.out.below.trans b4) Z0 _ _ _ _ _ _ _ _ _ _,λj n=> ?_⟩
    .simp[results,Try.results25,go_sem,y,ZA,A,e1,e2,e3,e4]
    have hl:Zu {g with Y:=xk} j=Zu g j:=rfl;rw[hl];exact(D.out.rd j n).keep (λb B=>(UH (by have:=B.1;omega) _ _ _ _ _ _ _ _ _ _).trans<|Z b B.2.2) λb B=>⟨by have:=B.1;omega,by simp[World.setCell,f1];exact B.2.1⟩
   .have h0:(0< xq (Zu g 0))=False:=Zhm b0;go_wp2;simp only[Exit.jump];obtain⟨W3,S⟩:∃W3,W3=((W.setCell ⟨c,3,U⟩<|.bool xw).setCell ⟨c,7,U⟩<|.slice U 0 0).setCell ⟨c,8,U⟩ (.slice U 0 0):=⟨_,rfl⟩;rw[<-S];have Z:∀b,b≠c->W3.heap[b]?=W.heap[b]? :=λb B=>by
     rw[S];simp[World.setCell,Zfm,Zgu B]
    have f1:xz (xj W3)=xz (xj W):=by rw[S];simp[World.setCell]
    have b4:Below (xz<|xj w) W W3:=by
     rw[S];exact(((Zf3 _ _).setCell ZeD _).setCell ZeD _).setCell ZeD _
    have y:=WU<|(Z _ i9).trans HP.out.1;have A:=HP.out.2.1 0 Z0;have e1:=HP.out.2.1 1 Z0;have e4:=HP.out.2.1 4 Z0;rw[HP.out.2.2]at e4;have g9:TA g= {g with Y:=xw,ah:=[],ak:=[]}:=if_neg b0;rw[g9];clear S;refine Zfp (v:=.tuple #[ZA {g with Y:=xw,ah:=[],ak:=[]} (λj=>if j=2\/j=3 then .slice U 0 0 else x j),.int .i64 0]) ?_ rfl ⟨_,rfl,XT (D.out.below.trans b4) Z0 _ _ _ _ _ _ _ _ _ _,λj n=> ?_⟩
    .simp[results,Try.results25,go_sem,y,ZA,A,e1,e4]
    have:j=2\/j=3\/(j≠2/\j≠3):=Z0;obtain rfl|rfl|⟨h2,h3⟩:=this;exact .nil _ _ Ze5;exact .nil _ _ Ze5;have hl:Zu {g with Y:=xw,ah:=[],ak:=[]} j=Zu g j:=by
     have:j=0\/j=1\/j=4:=Z0;obtain rfl|rfl|rfl:=this<;>rfl
    rw[hl];simp only[h2,h3,or_self,ZfI];exact(D.out.rd j n).keep (λb B=>(UH (by have:=B.1;omega) _ _ _ _ _ _ _ _ _ _).trans<|Z b B.2.2) λb B=>⟨by have:=B.1;omega,by simp[World.setCell,f1];exact B.2.1⟩
 intro c1
 go_upto_region 5 with (first
  | (go_at_call 17;refine(HR.out _ ?_).mono ?_;rotate_left;rintro e wa ⟨rfl,a3⟩
     have bA:wa.heap[xz<|xj w]?=J (.cells #[.int .u64 h.base,.int .i64 h.cap,.int .i64 h.to,.bool xw,.int .i64 h.Z,Q 0,Q 1,Q 2,Q 3,Q 4] 30 (0,0)):=(a3.block _ ZdP).trans<|(ZeR _ _ _ Z1).trans<|Zf5 w _;have bZ:wa.heap[xz (xj w)+1]?=J (.cells ZN 30 (0,0)):=(a3.block _ Z1).trans<|TV w _;have ya:=λj=>ZeU _ _ j _ _ _ bA;have f6:=ZeP a3;have j6:=ZeP<|And.intro bA bZ;clear a3 bA bZ))
 case refine_1=>exact((Zf3 _ w).alloc (ZeQ _) _).alloc Z1 _
 have a3:Below (xz<|xj w) w wa:=Below.trans (((Zf3 _ w).alloc (ZeQ _) _).alloc Z1 _)<|f6.out.mono ZdP;have l2:xz (xj w)+2<=xz (xj wa):=by have:=f6.out.size;simp at this;omega
 have i1:=ZeP a3;clear a3 f6;have f8:=ZeP (λ(W:Z3) (hW:Below (xz<|xj wa) wa W) (j:Nat) (n:j<5)=>(HS.out j n).keep (λb X=>(hW.block b (by have:=hG b X;omega)).trans<|i1.out.block b<|hG b X) λ_ q=>q);refine Nh [16,17,18,19,20,21,22,23,24,25,26,27,28,29,30,31,32,4] (FlC wa (xz<|xj w) h Q) follows Z2 ⟨λ_=>undef,Ze1,?_⟩ ?_ ?_;exact⟨(Zf3 _ _).drew,λi _ h=>Ze2,λi _ h=>Ze2,λh=>Ze2,λh=>Ze2,λh=>Ze2,λh=>Ze2⟩
 .intro L i o v W ho hi n C;have M:=ZeP C;have hz:xz (xj wa)<=xz (xj W):=C.b.size;have ya:=λj=>(C.b.cell (p:=⟨xz<|xj w,j,U⟩) (by show xz (xj w)<xz (xj wa);omega)).trans<|ya j;clear C;have l0:i<19:=(ZeT.1 ho).1;simp only[Te,Qn,Zfi,Zgb,Zgs,Zim,ZgL,ZhH,Zhb];have:i=0\/i=2\/i=4\/i=7\/i=10\/i=13\/i=1\/i=3\/i=5\/i=6\/i=8\/i=11\/i=14\/i=9\/i=12\/i=15\/i=16\/i=17\/i=18:=Z0;obtain rfl|rfl|rfl|rfl|rfl|rfl|rfl|rfl|rfl|rfl|rfl|rfl|rfl|rfl|rfl|rfl|rfl|rfl|rfl:=this<;>cases ho
  iterate 6
   focus
    go_wp2;try simp only[QN]
    exact⟨_,rfl,M.out.pure (by unfold XW;omega) rfl rfl⟩
  iterate 7
   focus
    first
    |have A:=M.out.eq 0 (by unfold XW;omega)<|n 0<|by decide
    |have A:=M.out.eq 2 (by unfold XW;omega)<|n 2<|by decide
    |have A:=M.out.eq 4 (by unfold XW;omega)<|n 4<|by decide
    |have A:=M.out.eq 5 (by unfold XW;omega)<|n 5<|by decide
    |have A:=M.out.eq 7 (by unfold XW;omega)<|n 7<|by decide
    |have A:=M.out.eq 10 (by unfold XW;omega)<|n 10<|by decide
    |have A:=M.out.eq 13 (by unfold XW;omega)<|n 13<|by decide
    simp only[UV]at A;go_wp2;try simp only[QN]
    exact⟨_,by rw[<-A];rfl,M.out.pure (by unfold XW;omega) rfl rfl⟩
  iterate 3
   focus
    first
    |(have A:=M.out.eq 8 (by unfold XW;omega)<|n 8 (by decide);have F:=Aj W (l:=h.H) (G:=G) HH.out.H<|f8.out _ M.out.b 0<|by omega)
    |(have A:=M.out.eq 11 (by unfold XW;omega)<|n 11 (by decide);have F:=Aj W (l:=h.ab) (G:=G) HH.out.ab<|f8.out _ M.out.b 1<|by omega)
    |(have A:=M.out.eq 14 (by unfold XW;omega)<|n 14 (by decide);have F:=Aj W (l:=h.E) (G:=G) HH.out.E<|f8.out _ M.out.b 4<|by omega)
    have HF:=ZeP F;clear F;simp only[UV]at A;go_wp2_with (go_at_call 46;refine HF.out.mono ?_;rintro e w9 ⟨y,rfl,b7,j1⟩;have b1:=ZeP<|And.intro b7 j1;clear b7 j1)
    try simp only[QN]
    exact⟨_,by rw[<-A];rfl,M.out.call Zem rfl b1.out.1 b1.out.2⟩
  .have A:=M.out.eq 1 (by unfold XW;omega)<|n 1 Ze4;have E0:=ZeP A;simp only[UV]at A;have e1:=M.out.eq 3 (by unfold XW;omega)<|n 3 Ze4;have E1:=ZeP e1;simp only[UV]at e1;have e2:=M.out.eq 6 (by unfold XW;omega)<|n 6 Ze4;have E2:=ZeP e2;simp only[UV]at e2;obtain⟨a9,c9,f9⟩:=Rd.bz<|M.out.rd 9 Zem<|n 9 Ze4;rw[show xq (List.map vu<|Uv h 9)=(xq h.H) from Zfc _]at f9;simp only[Nat.reduceAdd]at f9;have F9:=ZeP f9;obtain⟨b2,b5,a0⟩:=Rd.bz<|M.out.rd 12 Zem<|n 12 Ze4;rw[show xq (List.map vu<|Uv h 12)=(xq h.ab) from Zfc _]at a0;simp only[Nat.reduceAdd]at a0;have h9:=ZeP a0;obtain⟨b3,RJ,a1⟩:=Rd.bz<|M.out.rd 15 Zem<|n 15 Ze4;rw[show xq (List.map vu<|Uv h 15)=(xq h.E) from Zfc _]at a1;simp only[Nat.reduceAdd]at a1;have i0:=ZeP a1;go_wp2;try simp only[QN]
   refine⟨YX (YX (YX (YX (YX (YX (YX v 17<|UV (xz<|xj w) h Q 1) 19<|UV (xz<|xj w) h Q 3) 22<|UV (xz<|xj w) h Q 6) 25<|.slice a9 (xq h.H) c9) 28<|.slice b2 (xq h.ab) b5) 31<|.slice b3 (xq h.E) RJ) 32<|.agg #[.int .u64 h.base,.int .i64 h.cap,.int .i64<|1-h.to,.bool xw,.int .i64 0,.slice U 0 0,.slice U 0 0,.slice a9 (xq h.H) c9,.slice b2 (xq h.ab) b5,.slice b3 (xq h.E) RJ],rfl,?_⟩;rw[JH (v:=v) E0.out,JH (v:=v) E1.out,JH (v:=v) E2.out,JH (v:=v) F9.out,JH (v:=v) h9.out,JH (v:=v) i0.out];have hx:((.agg #[.int .u64 h.base,.int .i64 h.cap,.int .i64<|1-h.to,.bool xw,.int .i64 0,.slice U 0 0,.slice U 0 0,.slice a9 (xq h.H) c9,.slice b2 (xq h.ab) b5,.slice b3 (xq h.E) RJ]):Value)=.agg (Ud h λi=>v<|16+i):=by
    unfold Ud;simp only[Nat.reduceAdd];rw[F9.out,h9.out,i0.out]
   rw[hx];exact M.out.built (n 9 Ze4) (n 12 Ze4)<|n 15 Ze4
  .go_wp2;try simp only[QN]
   exact⟨_,rfl,M.out.alloc hi⟩
  .obtain⟨c,e4,d9,j9,O⟩:=M.out.new<|n 17 Ze4;obtain⟨y,g3,hy⟩:=M.out.agg<|n 16 Ze4;have O:=O hi;have y4:∀j,W.cell? ⟨c,j,U⟩=ZN[j]? :=λj=>ZeU _ _ _ _ _ _ O;unfold ZN at y4;have y5:∀j,W.frozen? ⟨c,j,U⟩=xw:=λj=>Yd O;have H3:=ZeP O;have j5:=ZeP g3;obtain⟨a9,c9,f9⟩:=Rd.bz<|hy 9 Zem;obtain⟨b2,b5,a0⟩:=Rd.bz<|hy 12 Zem;obtain⟨b3,RJ,a1⟩:=Rd.bz<|hy 15 Zem;rw[show xq (List.map vu<|Uv h 9)=(xq h.H) from Zfc _]at f9;rw[show xq (List.map vu<|Uv h 12)=(xq h.ab) from Zfc _]at a0;rw[show xq (List.map vu<|Uv h 15)=(xq h.E) from Zfc _]at a1;have K:Ud h y=#[.int .u64 h.base,.int .i64 h.cap,.int .i64<|1-h.to,.bool xw,.int .i64 0,.slice U 0 0,.slice U 0 0,.slice a9 (xq h.H) c9,.slice b2 (xq h.ab) b5,.slice b3 (xq h.E) RJ]:=by
    unfold Ud;rw[f9,a0,a1]
   rw[K]at g3;have d6:=ZeP K;clear O hy f9 a0 a1 K;go_wp2;try simp only[QN]
   exact⟨_,by rw[<-e4,<-g3],M.out.store e4 j5.out (n 17 Ze4) (n 16 Ze4) hi H3.out (λb B=>UH B _ _ _ _ _ _ _ _ _ _) Zez (by rw[d6.out];exact qq H3.out _ _ _ _ _ _ _ _ _ _)<|XT (Zf3 _ _) d9 _ _ _ _ _ _ _ _ _ _⟩
 .intro L v W hL C;obtain⟨c,y,e4,d9,i3,hy⟩:=C.put<|hL 18 Ze4;have f7:=ZeP C.b;have HY:=ZeP<|And.intro i3 hy;have j7:=ZeP c1;have f5:=ZeP<|And.intro (hL 17 Ze4) e4;clear C i3 hy hL c1;simp only[Te,Qn,Zfi,Zgb,Zgs,Zim,ZgL,ZhH,Zhb];go_wp2;go_step3
  simp only[Exit.then];rename_i j8;refine j8 _ _<|j7.out _ _ ?_;refine⟨c,0,λj=>if j=2 then y 9 else if j=3 then y 12 else if j=4 then y 15 else .slice U 0 0,rfl,rfl,rfl,f5.out.2,rfl,ZfO _,?_⟩;have d5:=f7.out.size;have hG:∀b,V3 wa W L v b->xz (xj w)+2<=b/\b<xz (xj W)/\b≠c:=λb B=>⟨by have:=B.1;omega,B.2.1,λe=>B.2.2 f5.out.1 (by rw[e];exact f5.out.2)⟩;refine⟨i1.out.trans<|f7.out.mono Z0,(f7.out.block _ Z0).trans j6.out.2,Z0,HY.out.1,λj n=> ?_⟩;have:j=0\/j=1\/j=2\/j=3\/j=4:=Z0;obtain rfl|rfl|rfl|rfl|rfl:=this;exact .nil _ _ Ze5;exact .nil _ _ Ze5;exact(HY.out.2 9 Zem).mono hG;exact(HY.out.2 12 Zem).mono hG;exact(HY.out.2 15 Zem).mono hG
end Vm
end
section

end
section
namespace Vm
open Go Go.Proofs Go.RowKit
def PM(w:Z3)(G:Z4)(g:∀b,G b->b<xz (xj w))(h:Hp)(k:h.ok)(a:Z5)(l:∀j,j<5->Rd w G (.sl<|(Zu h j).map vu) (a j)):
  Calls Sol.prog 25 #[ZA h a] w (LV w<|S6 h):=by
 cases d:Yt h with
 |false=>
  rw[show S6 h=(Hp.zero,1)by unfold S6;rw[if_pos d]];exact PI w G g h k a l d
 |true=>
  cases f:h.Y with
  |true=>
   rw[show S6 h=(Hp.zero,10)by unfold S6;rw[if_neg (by rw[d];simp),if_pos f]];exact PJ w G g h k a l d f
  |false=>
   obtain⟨p,r⟩:=JC.1 d;rw[show S6 h=(X0 h,0)by unfold S6;rw[if_neg (by rw[d];simp),if_neg (by rw[f];simp)]];exact PL w G g h k a l r f
end Vm
end
section
namespace Vm
open Go
open Go.Proofs
def p9:Fn:=⟨6,[0,1,2,4,5,12],pQ [pR [(2,pS 0 10),(3,pZ),pV 4<|pI 0],pQ [.ao ⟨[.lt 6 []<|pl (.s 1)<|pI 0,.call 7 [(6,xw)] (.id 17) xw xw [.mm 2 0 10]],[([(6,xw)],.un .not<|.s 7)],[pV 5<|.ite (.s 6) pT<|.un .not<|.s 7]⟩]<|pw (.s 5)<|pQ [.ao ⟨[],[([],pY)],[(3,pZ),pV 4<|pI 1]⟩] .ret,pC [pK 8 21 [.mm 2 0 10,.s 1]] [(3,pM (.sz (.ext (.s 8) 0) 10) 10),pV 4<|.ext (.s 8) 1]] .ret,[(3,(.ag 10)),(4,.v)]⟩
def c9:ZM Sol.prog fresh sig [.fz,.fz] [] Try.f9=J p9:=Z2
def II:Fn:=⟨5,[0,1,2,3,6],pQ [pR [(1,pS 0 10),(2,pZ),pV 3<|pI 0],pQ [pC [pK 5 17 [.mm 1 0 10]] [pV 4<|.un .not<|.s 5]]<|pw (.s 4)<|pQ [.ao ⟨[],[([],pY)],[(2,pZ),pV 3<|pI 1]⟩] .ret,pC [pK 6 21 [.mm 1 0 10,pI 9223372036854775807]] [(2,pM (.sz (.ext (.s 6) 0) 10) 10),pV 3<|.ext (.s 6) 1]] .ret,[(2,(.ag 10)),(3,.v)]⟩
def jH:ZM Sol.prog fresh sig [.fz] [] Try.f11=J II:=Z2
def M0:Fn:=⟨3,[0,1,2],pQ [pR [(1,pS 0 10),(2,pZ)],pC [pK 3 61 [.m 1 5],pK 4 61 [.m 1 6]] [(1,.m [.m 1 0,.m 1 1,.m 1 2,.m 1 3,.m 1 4,.one<|.s 3,.one<|.s 4,.m 1 7,.m 1 8,.m 1 9])],pC [pK 5 61 [.m 1 7],pK 6 61 [.m 1 8]] [(1,.m [.m 1 0,.m 1 1,.m 1 2,.m 1 3,.m 1 4,.m 1 5,.m 1 6,.one<|.s 5,.one<|.s 6,.m 1 9])],pC [pK 7 61 [.m 1 9]] [(1,.m [.m 1 0,.m 1 1,.m 1 2,.m 1 3,.m 1 4,.m 1 5,.m 1 6,.m 1 7,.m 1 8,.one<|.s 7])]]<|px [(2,pM (.mm 1 0 10) 10)],[(2,(.ag 10))]⟩
def c40:ZM Sol.prog fresh sig [.fz] [] Try.f40=J M0:=Z2
end Vm
end
section
namespace Vm
open Go Go.Proofs Go.RowKit
def JV{l:Z8}(n:I l<=1000000):VC Sol.prog 61 xw [.sl<|l.map vu]<|.sl<|l.map vu:=by
 refine⟨Z2,λw G vs h f g=> ?_⟩;have r0:=g 0 _ rfl;have j:vs=#[vs.getD 0 undef]:=by
  have a:vs.size=1:=f;apply Zhc;simp[a];intro i p q;have k:i<1:=Z0
  match i,k with
  |0,_=>simp[Array.getD,a]
 rw[j];refine(PD w h n r0).mono ?_;rintro e r ⟨v,rfl,d,o⟩;exact⟨v,rfl,d,o.mono λb d=>.inr d⟩
def Z5n{h:Hp}(a:h.ok):VC Sol.prog 40 xw [ZE h]<|ZE h:=by
 refine ZS Sol.func40 follows Z2 c40 rfl ?_;have d:=JV a.H;have f:=JV a.ab;have g:=JV a.ah;have j:=JV a.ak;have k:=JV a.E;simp[M0,ZE];refine Zz d Z1 ?_;simp;refine Zz f Z1 ?_;simp;refine Zz g Z1 ?_;simp;refine Zz j Z1 ?_;simp;refine Zz k Z1 ?_;simp
def Z5k(w:Z3)(G:Z4)(k:∀b,G b->b<xz (xj w))(h:Hp)(l:h.ok)(a:Z5)(p:∀j,j<5->Rd w G (.sl<|(Zu h j).map vu) (a j)):
  Calls Sol.prog 40 #[ZA h a] w λe f=>∃x,e=.returned (ZA h x)/\Below (xz<|xj w) w f/\∀j,j<5->Rd f (λc=>G c\/(xz (xj w)<=c/\c<xz (xj f))) (.sl<|(Zu h j).map vu) (x j):=by
 refine((Z5n l).2 w G #[ZA h a] k rfl λi x d=> ?_).mono ?_
 match i,d with
 |0,d=>cases d;exact J8 p
 rintro e f ⟨v,rfl,g,o⟩;obtain⟨x,rfl,d⟩:=zW o;exact⟨x,rfl,g,λj n=>(d j n).mono λb g=>g.imp (λq=>q.2) id⟩
end Vm
end
section
namespace Vm
open Go Go.Proofs
def Qu{h:Hp}(hc:h.Y=xw):∀k,ZR h k=h
 |0=>rfl
 |k+1=>by unfold ZR;rw[hc];simp
def Qv(h:Hp):∀k,ZR h (k+1)=if(ZR h k).Y then WE (ZR h k)else ZR h k
 |0=>by unfold ZR;cases a:h.Y<;>simp[ZR,a]
 |k+1=>by
  cases a:h.Y with
  |false=>rw[Qu a,Qu a,a];simp
  |true=>
   have e:∀j,ZR h (j+1)=ZR (WE h) j:=λj=>by rw[ZR.eq_2,a];simp
   rw[e<|k+1,e k];exact Qv (WE h) k
def JF(h:Hp)(a:Nat):∀b,ZR h (a+b)=ZR (ZR h a) b
 |0=>rfl
 |b+1=>by rw[<-Zg5,Qv,Qv,JF h a b]
structure ScansTo (h:Hp) (p:Pts) (k:Nat) (g:Hp) (q:Pts):Prop where
 rt:Rt g q
 len:I h.H<=I g.H
 keep:∀j:Nat,(j:Int)<h.Z->g.H[j]?=h.H[j]?
 ab:g.ab=h.ab
 E:g.E=h.E
 num:g.base=h.base/\g.cap=h.cap/\g.to=h.to
 Z:h.Z<=g.Z/\g.Z<=h.Z+k
 gw:∃r,q.H=p.H++r
 gu:q.ab=p.ab
 kw:g.Y=xk->h.Y=xk/\g.Z=h.Z+k/\(I g.H:Int)+Yu q=I h.H+Yu p
 oz:(I g.H:Int)<=I h.H+Yu p
 whole:g.Y=xw->h.Y=xk->g.Z=I g.H
def Rt.dg{h:Hp}{p:Pts}(r:Rt h p):∀k,∃q,ScansTo h p k (ZR h k) q
 |0=>⟨p,r,ZeQ _,λ_ _=>rfl,rfl,rfl,⟨rfl,rfl,rfl⟩,⟨by show h.Z<=h.Z;omega,by show h.Z<=h.Z+((0:Nat):Int);omega⟩,⟨[],Z1⟩,rfl,λa=>⟨a,by show h.Z=h.Z+((0:Nat):Int);omega,rfl⟩,by show(I h.H:Int)<=_;omega,λa l=>(by rw[show ZR h 0=h from rfl,l]at a;cases a)⟩
 |k+1=>by
  obtain⟨q,s⟩:=r.dg k;rw[Qv];generalize ZR h k=g at*;have o:=s.Z.1;have y:=s.Z.2;cases a:g.Y with
  |false=>
   simp only[Zf6,ZfI];exact⟨q,s.rt,s.len,s.keep,s.ab,s.E,s.num,⟨o,Z0⟩,s.gw,s.gu,λh=>(by rw[a]at h;cases h),s.oz,λ_ h=>s.whole a h⟩
  |true=>
   simp only[ZfF];obtain⟨H,D,f⟩:=s.rt.Z a;obtain⟨t,c2,c3⟩:=s.kw a;rw[f.eq];obtain⟨L,z,n⟩:=f.H;obtain⟨F,u⟩:=s.gw;obtain⟨G,w⟩:=f.gw;obtain⟨A,B,C,K⟩:=f.num;refine⟨D,f.rt,by have:=s.len;omega,λj x=>(n j Z0).trans<|s.keep j x,f.ab.trans s.ab,f.E.trans s.E,⟨A.trans s.num.1,B.trans s.num.2.1,C.trans s.num.2.2⟩,⟨Z0,Z0⟩,⟨F++G,by rw[w,u,Zfw]⟩,f.gu.trans s.gu,λd=>⟨t,Z0,by have:=f.room d;omega⟩,by have:=f.oz;omega,λd _=>(f.rt.rest d).1⟩
def Z7B{h:Hp}{p:Pts}(a:h.ok)(r:Rt h p)(hc:h.Y=xk):(WE h).ok:=by
 have t:=r.ma;obtain⟨i,o⟩:=Zf0 r.fu;have l:i<I h.H:=by have:=r.kw hc;omega
 obtain⟨u,q⟩:∃u,h.H[i]?=J u:=⟨_,ZeL l⟩;have y:=a.H;have n:∀g:Hp,g.ok->(YZ g).ok:=λg d=>by
  unfold YZ;split;exact⟨d.base,d.cap,d.to,d.Z,d.H,d.ab,Z1,Z1,d.E,d.fm,d.fq,Z1,Z1,d.di⟩;exact d
 have k:Yp<|h.Z+1:=⟨Z0,Z0⟩;unfold WE;rw[o,Zf2,q,Zfl];rw[o]at k;have f:=zQ a<|a.fm u<|ZeW q;split;refine n _ ?_;obtain⟨f,x⟩:=f
 exact⟨f.base,f.cap,f.to,k,by simp;exact f.H,f.ab,f.ah,f.ak,f.E,λw t=>by
  obtain j|j:=Zgh t;exact f.fm w j;rw[j];exact x,f.fq,f.kh,f.iz,f.di⟩
 exact n _ ⟨a.base,a.cap,a.to,k,a.H,a.ab,a.ah,a.ak,a.E,a.fm,a.fq,a.kh,a.iz,a.di⟩
def TP{h:Hp}{p:Pts}(a:h.ok)(r:Rt h p):∀k,(ZR h k).ok
 |0=>a
 |k+1=>by
  obtain⟨q,s⟩:=r.dg k;have:=TP a r k;rw[Qv];generalize ZR h k=g at*;cases d:g.Y with
  |false=>simpa using this
  |true=>simpa using Z7B this s.rt d
end Vm
end
section
namespace Vm
open Go Go.Proofs Go.RowKit Go.Shelf
section
attribute [local go_sem] Oper.semAt_some
def Z99{n P c Q a w}(h:c.wpIn Fence.wide n P (Exit.noGoto Q) a w):(Code.scope c).wpIn Fence.wide n P Q a w:=
 wpIn_wide.2 (wp_scope_straight<|wpIn_wide.1 h)
def Z6w{W W'}{B:Z4}{b r}{l:Z8}{y}(h:Rd W (λc=>B c/\c<xz (xj W)/\c≠b) (.sl<|l.map vu) y)(d:W.grownBy W'<|J r)(f:¬B r):
  Rd W' (λc=>B c/\c<xz (xj W')/\c≠b) (.sl<|l.map vu) y:=
 (h.keep (λc a=>d.block c a.2.1 λe=>ZdO) λc a=>a).mono λc a=>⟨a.1,ZeV a.2.1 d.size,a.2.2⟩
theorem NowI.kept{B W W' b r g x}(S:NowI B W b g x)(a:W.grownBy W'<|J r)(d:¬B r):NowI B W' b g x:=
 ⟨S.le,(a.block b (Y9 S.nb) λe=>by cases e;exact d S.le).trans S.nb,λj f=>Z6w (S.rd j f) a d⟩
def JT:Array Value:=#[.int .u64 0,.int .i64 0,.int .i64 0,.bool xw,.int .i64 0,.slice U 0 0,.slice U 0 0,.slice U 0 0,.slice U 0 0,.slice U 0 0]
structure ScI (B:Nat->Prop) (w:World) (b:Nat) (h:Hp) (k done:Nat) (W:World):Prop where
 br:∃x,NowI B W b (ZR h done) x
 le:done<=k
 kb:W.heap[xz (xj w)+1]?=J (.cells #[.int .i64<|(k:Int) - (done:Nat)] 3 (0,0))
 r0:W.heap[xz (xj w)+2]?=J (.cells JT 30 (0,0))
 r1:W.heap[xz (xj w)+3]?=J (.cells #[.int .i64 0] 34 (0,0))
 fn:W.heap[b+1]?=J (.cells #[.func (.func 41) #[] #[.pointer<|J ⟨b,0,U⟩]] 88 (0,0))
 gr:w.grownBy W U
def ScI.dv{B w b h k done W W' row}(S:ScI B w b h k done W)(a:W.grownBy W' row)(j:∀r,row=J r->xz (xj w)<=r/\∃o,W.heap[r]?=J o/\o.isCells=xw):ScI B w b h k done W':=by
 let⟨x,n⟩:=S.br
 have q:∀c (o:Obj),W.heap[c]?=J o->o.isCells=xk->W'.heap[c]?=J o:=λc o d l=>(a.block c ZdN λe=>by
  let⟨_,p,f,g⟩:=j c e.symm;rw[d]at f;cases f;rw[l]at g;cases g).trans d
 exact⟨⟨x,n.dv a λr e=>(j r e).2⟩,S.le,q _ _ S.kb rfl,q _ _ S.r0 rfl,q _ _ S.r1 rfl,q _ _ S.fn rfl,UY S.gr a λr e=>ZdO⟩
def Z3z(W:Z3)(b:Nat):Calls Sol.prog 43 #[.pointer<|J ⟨b,0,U⟩] W λe d=>e=.returned (.func (.func 67) #[] #[.pointer<|J ⟨xz<|xj W,0,U⟩])/\d=W.alloc (.cells #[.pointer<|J ⟨b,0,U⟩] 92):=by
 have a:∀(fn:Go.Fn) (first cap:Zd) (w:Z3),(Instr.makeFunc fn first cap).run Sol.prog w=.ok (.func fn first cap) w:=λ_ _ _ _=>rfl;go_enter Sol.func43,Try.ntmps43;go_wp2;exact Zfp (v:=.func (.func 67) #[] #[.pointer<|J ⟨xz<|xj W,0,U⟩]) (by simp[results,Try.results43,go_sem]) rfl ⟨rfl,rfl⟩
def Z1R(w:Z3)d a f g:∃W,(((w.alloc d).alloc a).alloc f).alloc g=W/\xz (xj W)=xz (xj w)+4/\w.grownBy W U/\W.heap[xz (xj w)+1]?=J a/\W.heap[xz (xj w)+2]?=J f/\W.heap[xz (xj w)+3]?=J g:=by
 refine⟨_,rfl,Z1,⟨rfl,rfl,rfl,ZdP,λk h _=> ?_⟩,?_,?_,?_⟩;rw[ZeR _ _ _ ZdP,ZeR _ _ _ ZdP,ZeR _ _ _ ZdP,ZeR _ _ _ h];rw[ZeR _ _ _ Z1,ZeR _ _ _ Z1];have:=ZfX (w.alloc d) a;rwa[ZgN]at this;rw[ZeR _ _ _ Z1];have:=ZfX ((w.alloc d).alloc a) f;simpa using this;have:=ZfX (((w.alloc d).alloc a).alloc f) g;simpa using this
def Z7E{w w0 w1:Z3}{G:Z4}(u:∀b,G b->b<xz (xj w)){h:Hp}(A:h.ok){p:Pts}(r:Rt h p){k:Nat}{d:Z5}(H:xz (xj w0)=xz (xj w)+4)(n:w.grownBy w0 U)
  (k1:w0.heap[xz (xj w)+1]?=J (.cells #[.int .i64 k] 3 (0,0))) (K:w0.heap[xz (xj w)+2]?=J (.cells JT 30 (0,0))) (L:w0.heap[xz (xj w)+3]?=J (.cells #[.int .i64 0] 34 (0,0)))
  (l:Below (xz<|xj w0) w0 w1) (hx:∀j,j<5->Rd w1 (λc=>G c\/(xz (xj w0)<=c/\c<xz (xj w1))) (.sl<|(Zu h j).map vu) (d j)):
  ∃w3,((w1.alloc<|.cells (Yn h d) 30).alloc<|.cells #[.func (.func 41) #[] #[.pointer<|J ⟨xz<|xj w1,0,U⟩]] 88).alloc (.cells #[.pointer<|J ⟨xz<|xj w1,0,U⟩] 92)=w3/\
   xz (xj w3)=xz (xj w1)+3/\xz (xj w0)<=xz (xj w1)/\ScI (λc=>G c\/xz (xj w)+4<=c) w (xz<|xj w1) h k 0 w3/\KnI (λc=>G c\/xz (xj w)+4<=c) (xz<|xj w1) (xz (xj w1)+2) p w3:=by
 refine⟨_,rfl,Z1,l.size,?_⟩;have g:∀c,c<xz (xj w1)->(((w1.alloc<|.cells (Yn h d) 30).alloc<|.cells #[.func (.func 41) #[] #[.pointer<|J ⟨xz<|xj w1,0,U⟩]] 88).alloc<|.cells #[.pointer<|J ⟨xz<|xj w1,0,U⟩] 92).heap[c]?=w1.heap[c]? :=λc a=>by
  rw[ZeR _ _ _ ZdP,ZeR _ _ _ ZdP,ZeR _ _ _ a]
 have F:xz (xj<|((w1.alloc<|.cells (Yn h d) 30).alloc<|.cells #[.func (.func 41) #[] #[.pointer<|J ⟨xz<|xj w1,0,U⟩]] 88).alloc<|.cells #[.pointer<|J ⟨xz<|xj w1,0,U⟩] 92)=xz (xj w1)+3:=Z1;have x:(((w1.alloc<|.cells (Yn h d) 30).alloc<|.cells #[.func (.func 41) #[] #[.pointer<|J ⟨xz<|xj w1,0,U⟩]] 88).alloc<|.cells #[.pointer<|J ⟨xz<|xj w1,0,U⟩] 92).heap[xz<|xj w1]?=J (.cells (Yn h d) 30 (0,0)):=by
  rw[ZeR _ _ _ ZdP,ZeR _ _ _ Z1];exact ZfX _ _
 have y:(((w1.alloc<|.cells (Yn h d) 30).alloc<|.cells #[.func (.func 41) #[] #[.pointer<|J ⟨xz<|xj w1,0,U⟩]] 88).alloc<|.cells #[.pointer<|J ⟨xz<|xj w1,0,U⟩] 92).heap[xz (xj w1)+1]?=J (.cells #[.func (.func 41) #[] #[.pointer<|J ⟨xz<|xj w1,0,U⟩]] 88 (0,0)):=by
  rw[ZeR _ _ _ Z1];have:=ZfX (w1.alloc<|.cells (Yn h d) 30)<|.cells #[.func (.func 41) #[] #[.pointer<|J ⟨xz<|xj w1,0,U⟩]] 88;rwa[ZgN]at this
 have z:(((w1.alloc<|.cells (Yn h d) 30).alloc<|.cells #[.func (.func 41) #[] #[.pointer<|J ⟨xz<|xj w1,0,U⟩]] 88).alloc<|.cells #[.pointer<|J ⟨xz<|xj w1,0,U⟩] 92).heap[xz (xj w1)+2]?=J (.cells #[.pointer<|J ⟨xz<|xj w1,0,U⟩] 92 (0,0)):=by
  have:=ZfX ((w1.alloc<|.cells (Yn h d) 30).alloc<|.cells #[.func (.func 41) #[] #[.pointer<|J ⟨xz<|xj w1,0,U⟩]] 88)<|.cells #[.pointer<|J ⟨xz<|xj w1,0,U⟩] 92;simpa using this
 have D:=l.size;have t:w1.grownBy (((w1.alloc<|.cells (Yn h d) 30).alloc<|.cells #[.func (.func 41) #[] #[.pointer<|J ⟨xz<|xj w1,0,U⟩]] 88).alloc<|.cells #[.pointer<|J ⟨xz<|xj w1,0,U⟩] 92) U:=⟨rfl,rfl,rfl,Z0,λc a _=>g c a⟩;generalize ((w1.alloc<|.cells (Yn h d) 30).alloc<|.cells #[.func (.func 41) #[] #[.pointer<|J ⟨xz<|xj w1,0,U⟩]] 88).alloc (.cells #[.pointer<|J ⟨xz<|xj w1,0,U⟩] 92)=w3 at*;have f:NowI (λc=>G c\/xz (xj w)+4<=c) w3 (xz<|xj w1) h d:=by
  refine⟨.inr Z0,x,λj B=>((hx j B).keep (λc a=>g c ?_) λc a=>a).mono λc a=> ?_⟩;obtain a|a:=a;have:=u c a;omega;exact a.2;obtain a|a:=a;have:=u c a;exact⟨.inl a,Z0,Z0⟩;exact⟨.inr Z0,Z0,Z0⟩
 have q:∀c o,w0.heap[c]?=J o->w3.heap[c]?=J o:=λc o a=>by
  have C:=Y9 a;rw[g c Z0,l.block c C];exact a
 exact⟨⟨⟨d,f⟩,ZfO _,by rw[q _ _ k1];simp,q _ _ K,q _ _ L,y,Sa n<|Sa (UX l U) t⟩,z,h,d,f,A,r⟩
def ScI.step{B w b h p q k done W W'}(z:h.ok)(r:Rt h p)(S:ScI B w b h k done W)(A:Rt (ZR h done) q)(hc:(ZR h done).Y=xk)(G:¬B (xz (xj w)+1))(Q:xz (xj w)+4<=b)(R:done<k)(a:W.grownBy W'<|J b)(H:∃x,NowI B W' b (WE<|ZR h done) x):
  ScI B w b h k (done+1) (W'.setCell ⟨xz (xj w)+1,0,U⟩<|.int .i64<|k-done-1)/\KpN B b (xz (xj w)+1) W (W'.setCell ⟨xz (xj w)+1,0,U⟩<|.int .i64<|k-done-1)/\
   W.grownBy W' (J b)/\W'.grownBy (W'.setCell ⟨xz (xj w)+1,0,U⟩<|.int .i64<|k-done-1) (J<|xz (xj w)+1):=by
 have d:=Zh7 W' (xz (xj w)+1)<|.int .i64<|k-done-1;let⟨x,K⟩:=H;have u:=K.kept d G;have C:ZR h (done+1)=WE (ZR h done):=by rw[Qv,hc];simp
 have l:∀c o,W.heap[c]?=J o->c≠b->c≠xz (xj w)+1->(W'.setCell ⟨xz (xj w)+1,0,U⟩<|.int .i64<|k-done-1).heap[c]?=J o:=λc o D P F=>
  (Zf4 _ _ _ _ F).trans ((a.block c ZdN ZdO).trans D)
 have j:=(a.block _ (Y9 S.kb) ZdN).trans S.kb;refine⟨⟨ZdN,Z0,?_,l _ _ S.r0 Z0 Z0,l _ _ S.r1 Z0 Z0,l _ _ S.fn Z0 Z0,?_⟩,⟨Zff a.size d.size,ZdO,λT n=> ?_⟩,a,d⟩
 .have:k- ((done+1:Nat):Int)=k-done-1:=Z0;rw[this];simp[World.setCell,Zfm,j]
 exact UY (UY S.gr a λr e=>.inr (by cases e;omega)) d λr e=>.inr (by cases e;omega)
 .let⟨y,L⟩:=S.br;have g:InBox B b q W:=⟨_,y,L,TP z r done,A⟩;let⟨O,M,f⟩:=A.Z hc;let⟨N,t⟩:=f.gw;refine⟨M,N,⟨_,x,u,?_,?_⟩,?_⟩
  .have:=TP z r<|done+1;rwa[C]at this
  rw[f.eq];exact f.rt;rw[t,g.H n]
def js(w:Z3)(G:Z4)(g:Hp)(e:Ending)(w':Z3):Prop:=∃x,e=.returned (.tuple #[ZA g x,.int .i64 0])/\Below (xz<|xj w) w w'/\∀j,j<5->Rd w' (λc=>G c\/(xz (xj w)<=c/\c<xz (xj w'))) (.sl<|(Zu g j).map vu) (x j)
def Z7C{B G:Z4}{w:Z3}{b:Nat}{h g:Hp}{k done:Nat}{W W8:Z3}{y:Z5}{D:Nat}(S:ScI B w b h k done W)(O:ZR h done=g)(M:done=k\/(ZR h done).Y=xw)(hn:NowI B W b g y)(hB:B=λc=>G c\/xz (xj w)+4<=c)(hG:∀c,G c->c<xz (xj w))
  (hD:xz (xj w)+4<=D) (A:W.heap[D]?=J (.deferred<|J [])) (X:Below (xz<|xj w) W W8) (Y:xz (xj W8)=xz (xj W)) (F:∀c,c≠xz (xj w)+1+1->W8.heap[c]?=W.heap[c]?) (h8:W8.heap[xz (xj w)+1+1]?=J (.cells (Yn g y) 30 (0,0))):
  (W8.setCell ⟨xz (xj w)+1+1+1,0,U⟩<|.int .i64 0).heap[D]?=J (.deferred<|J [])/\(∀j,((W8.setCell ⟨xz (xj w)+1+1+1,0,U⟩<|.int .i64 0).putObj D<|.deferred U).cell? ⟨xz (xj w)+1+1,j,U⟩=(Yn g y)[j]?)/\((W8.setCell ⟨xz (xj w)+1+1+1,0,U⟩<|.int .i64 0).putObj D<|.deferred U).cell? ⟨xz (xj w)+1+1+1,0,U⟩=J (.int .i64 0)/\
   js w G (ZR h k) (.returned<|.tuple #[ZA g y,.int .i64 0]) ((W8.setCell ⟨xz (xj w)+1+1+1,0,U⟩<|.int .i64 0).putObj D<|.deferred U):=by
 have p:=Zh7 W8 (xz (xj w)+1+1+1)<|.int .i64 0;have C:=S.r1;have e1:(W8.setCell ⟨xz (xj w)+1+1+1,0,U⟩<|.int .i64 0).heap[xz (xj w)+1+1+1]?=J (.cells #[.int .i64 0] 34 (0,0)):=
  Boxed.set _ (show Boxed W8 (xz (xj w)+1+1+1) 34 (.int .i64 0)from(F _ Z0).trans C)
 have e0:(W8.setCell ⟨xz (xj w)+1+1+1,0,U⟩<|.int .i64 0).heap[xz (xj w)+1+1]?=J (.cells (Yn g y) 30 (0,0)):=(Zf4 _ _ _ _ (by show xz (xj w)+1+1≠xz (xj w)+1+1+1;omega)).trans h8;have x:∀c,c≠xz (xj w)+1+1->c≠xz (xj w)+1+1+1->(W8.setCell ⟨xz (xj w)+1+1+1,0,U⟩<|.int .i64 0).heap[c]?=W.heap[c]? :=λc z T=>(Zf4 _ _ _ _ T).trans<|F c z;have a3:xz (xj<|W8.setCell ⟨xz (xj w)+1+1+1,0,U⟩<|.int .i64 0)=xz (xj W):=by rw[<-Y];simp[World.setCell]
 have R:Below (xz<|xj w) W<|W8.setCell ⟨xz (xj w)+1+1+1,0,U⟩<|.int .i64 0:=X.trans ⟨p.os,p.tape,p.output,p.size,λc f=>p.block c (by have:=Y9 C;omega) (λe=>by cases e;omega)⟩;generalize W8.setCell ⟨xz (xj w)+1+1+1,0,U⟩ (.int .i64 0)=t at*;have Z:t.heap[D]?=J (.deferred<|J []):=(x D Z0 Z0).trans A;have a4:=S.gr.size;have a2:=Y9 C;have f0:(t.putObj D<|.deferred U).heap[xz (xj w)+1+1]?=J (.cells (Yn g y) 30 (0,0)):=(Zfq Z0).trans e0;have f1:(t.putObj D<|.deferred U).heap[xz (xj w)+1+1+1]?=J (.cells #[.int .i64 0] 34 (0,0)):=(Zfq Z0).trans e1;have N:=ZhD t D<|.deferred U;have heq:ZR h k=g:=by
  obtain e|e:=M;rw[<-e,O]
  .obtain⟨d,hd⟩:∃d,k=done+d:=⟨k-done,by have:=S.le;omega⟩;rw[hd,JF,Qu e,O]
 have P:∀c,c≠xz (xj w)+1+1->c≠xz (xj w)+1+1+1->c≠D->(t.putObj D<|.deferred U).heap[c]?=W.heap[c]? :=λc z T h3=>(Zfq Z0).trans<|x c z T;refine⟨Z,λj=>ZeU _ _ j _ _ _ f0,by rw[ZeU _ _ _ _ _ _ f1];rfl,y,by rw[heq],⟨?_,?_,?_,?_,λc f=> ?_⟩,λj hj=> ?_⟩;rw[N.os,R.os];exact S.gr.os;rw[N.tape,R.tape];exact S.gr.tape;rw[N.output,R.output];exact S.gr.output;have:=N.size;omega;rw[P c Z0 Z0 Z0];exact S.gr.block c f Z1;rw[heq];have z:=hn.rd j hj;have hW:xz (xj W)<=xz (xj<|t.putObj D<|.deferred U):=by have:=N.size;omega
 generalize hL:(Zu g j).map vu=L at z⊢;generalize y j=yj at z⊢;cases z with
 |nil a cap f=>exact .nil a cap f
 |sl _ d o cap Q vs q1 q2 q3 q4 q5 q6=>
  have r:G d\/xz (xj w)+4<=d:=by have:=q3.1;rw[hB]at this;exact this
  have H:G d->d<xz (xj w):=hG d;have l:∀i c,(flat L)[i]?=J c->Rd (t.putObj D<|.deferred U) (λc=>G c\/(xz (xj w)<=c/\c< xz (xj<|t.putObj D<|.deferred U))) c (vs i):=λi c f=>by
   have h7:=q6 i c f;rw[<-hL,zK,Zfa]at f;cases hu:(Zu g j)[i]? with
   |none=>rw[hu]at f;cases f
   |some u=>
    rw[hu]at f;cases f;rw[Sp h7];exact .int _ _
  by_cases K:d=D;subst K;have a0:I L*Q=0:=by
   cases a1:I L*Q with
   |zero=>rfl
   |succ n=>
    have:=q5 0 Z0;unfold World.cell? at this;rw[A]at this;cases this
  refine .sl _ d o cap Q vs q1 q2 ?_ q4 (λi hi=>Z0) l;obtain q|q:=r;exact .inl q;exact .inr ⟨Z0,by have:=Y9 A;omega⟩;refine .sl _ d o cap Q vs q1 q2 ?_ q4 (λi hi=> ?_) l;obtain q|q:=r;exact .inl q;exact .inr ⟨Z0,by have:=q3.2.1;omega⟩;rw[<-q5 i hi];refine ZfC (a:=⟨d,o+i,U⟩)<|P d ?_ ?_ K;obtain q|q:=r;have:=H q;omega;omega;obtain q|q:=r;have:=H q;omega;omega
def NN{B G w b h g k done W y D}(S:ScI B w b h k done W)(f:ZR h done=g)(a:done=k\/(ZR h done).Y=xw)(q:NowI B W b g y)(l:B=λc=>G c\/xz (xj w)+4<=c)(o:∀c,G c->c<xz (xj w))
  (n:xz (xj w)+4<=D) (d:W.heap[D]?=J (.deferred<|J [])):
  ((QC W (xz (xj w)+1+1) g y).setCell ⟨xz (xj w)+1+1+1,0,U⟩<|.int .i64 0).heap[D]?=J (.deferred<|J [])/\(∀j,(((QC W (xz (xj w)+1+1) g y).setCell ⟨xz (xj w)+1+1+1,0,U⟩<|.int .i64 0).putObj D<|.deferred U).cell? ⟨xz (xj w)+1+1,j,U⟩=(Yn g y)[j]?)/\(((QC W (xz (xj w)+1+1) g y).setCell ⟨xz (xj w)+1+1+1,0,U⟩<|.int .i64 0).putObj D<|.deferred U).cell? ⟨xz (xj w)+1+1+1,0,U⟩=J (.int .i64 0)/\
    js w G (ZR h k) (.returned<|.tuple #[ZA g y,.int .i64 0]) (((QC W (xz (xj w)+1+1) g y).setCell ⟨xz (xj w)+1+1+1,0,U⟩<|.int .i64 0).putObj D<|.deferred U):=Z7C (W8:=QC W _ g y) S f a q l o n d (XT (Zf3 (xz<|xj w) W) Z0 _ _ _ _ _ _ _ _ _ _) Z1 (λc p=>UH p _ _ _ _ _ _ _ _ _ _)<|qq S.r0 _ _ _ _ _ _ _ _ _ _
def Z7F(w:Z3)(G:Z4)(hG:∀b,G b->b<xz (xj w))(h:Hp)(hh:h.ok)(a:Z5)(hs:∀j,j<5->Rd w G (.sl<|(Zu h j).map vu) (a j)){p:Pts}(r:Rt h p){k:Nat}(hk:(k:Int)<9223372036854775808):
  Calls Sol.prog 21 #[ZA h a,.int .i64 k] w (js w G<|ZR h k):=by
 refine(ZgQ (n:=5)).1 ?_;have i8:∀(fn:Go.Fn) (first cap:Zd) (w:Z3),(Instr.makeFunc fn first cap).run Sol.prog w=.ok (.func fn first cap) w:=λ_ _ _ _=>rfl;refine callsIn_of_wp_marks Sol.func21 rfl trivial ?_ rfl;simp only[Try.ntmps21,Zgc,Zg0,ZfU,Nat.reduceAdd,Nat.reduceSub,Zgz,ZgA,Zh1,ZgG,ZfE,Zg6];have HO:=λW (hb:Below (xz<|xj w) w W)=>Z5k W G (λb q=>ZeV (hG b q) hb.size) h hh a λj hj=>(hs j hj).keep (λb g7=>hb.block b<|hG b g7) λ_ q=>q;have b3:=ZeP HO;clear HO;unfold ZA;gi_wp2
 refine Z99 ?_;gi_wp2
 refine⟨trivial,(ZgQ.2<|b3.out _<|((((Zf3 _ _).alloc (ZeQ _) _).alloc Z1 _).alloc ZdP _).alloc ZdP _).mono ?_⟩;rintro e w1 ⟨x1,rfl,b9,F⟩;obtain⟨a0,c0,e0⟩:=Rd.bz<|F 0 Z0;obtain⟨a1,c1,e1⟩:=Rd.bz<|F 1 Z0;obtain⟨a2,c2,e2⟩:=Rd.bz<|F 2 Z0;obtain⟨a3,c3,e3⟩:=Rd.bz<|F 3 Z0;obtain⟨a4,c4,e4⟩:=Rd.bz<|F 4 Z0;have b1:=ZeP<|And.intro b9 F;clear b9 F;unfold ZA;gi_wp2
 refine wpIn_label ?_;gi_wp2
 refine⟨trivial,(ZgQ.2<|Z3z _ _).mono ?_⟩;rintro e w3 ⟨rfl,e7⟩;obtain⟨w0,a9,h8,g9,k1,R,T⟩:=Z1R w (.cells #[.int .u64 h.base,.int .i64 h.cap,.int .i64 h.to,.bool h.Y,.int .i64 h.Z,a 0,a 1,a 2,a 3,a 4] 30) (.cells #[.int .i64 k] 3) (.cells JT 30)<|.cells #[.int .i64 0] 34;have hC:Yn h x1=#[.int .u64 h.base,.int .i64 h.cap,.int .i64 h.to,.bool h.Y,.int .i64 h.Z,.slice a0 (I<|Zu h 0) c0,.slice a1 (I<|Zu h 1) c1,.slice a2 (I<|Zu h 2) c2,.slice a3 (I<|Zu h 3) c3,.slice a4 (I<|Zu h 4) c4]:=by
  simp only[Yn,e0,e1,e2,e3,e4,Zfc]
 have N:=b1.out;unfold JT at a9;rw[a9]at N;obtain⟨j1,L,h9,i9,b8,b7⟩:=Z7E hG hh r h8 g9 k1 R T N.1 N.2;rw[hC]at L;rw[L]at e7;subst e7;clear b1 N L hC e0 e1 e2 e3 e4 a9 k1 R T b3;simp only[ZgN];gi_wp2
 have g8:xz (xj w)+4<=xz (xj w1):=Z0;have b5:¬(G (xz (xj w)+1)\/xz (xj w)+4<=xz (xj w)+1):=λh=>by
  obtain h|h:=h;have:=hG _ h;omega;omega
 generalize i6:xz (xj w1)=b at*;obtain⟨B,hB⟩:∃B:Z4,B=λc=>G c\/xz (xj w)+4<=c:=⟨_,rfl⟩;rw[<-hB]at b8 b7;have b6:¬B (xz (xj w)+1):=by rw[hB];exact b5
 have g5:∀c,xz (xj w)+4<=c->B c:=λc hc=>by rw[hB];exact .inr hc
 have b2:=ZeP hB;clear hB b5;have e5:=Z3y 4 (B:=B) (b:=b) (bk:=b+2) (kb:=xz (xj w)+1) b7 Z0 Z0 Z0 Z0
 refine Z98 rfl Z0 (gf:=67) (lb:=#[.pointer<|J ⟨b+2,0,U⟩]) ?hg trivial (enters_of Sol.func67 Z2 rfl)
  e5 KpN.trans (λW l o o' _ h2 h3 _=>KpN.put o' h2 h3) (Zf3 _ _) (λ_=>rfl)
  (λpre W=>∃done,ScI B w b h k done W/\(I pre:Int)<=(ZR h done).Z)
  (λc pre W=>c=.exit 0/\∃done,ScI B w b h k done W/\(done=k\/(ZR h done).Y=xw))
  ?hI (λ_ _ _=>trivial) ?hIx ?hPx ?hS ⟨0,b8,by have:=r.fu;show((0:Nat):Int)<=h.Z;omega⟩
  (fun x=> {tmps:=#[.agg #[.int .u64 h.base,.int .i64 h.cap,.int .i64 h.to,.bool h.Y,.int .i64 h.Z,a 0,a 1,a 2,a 3,a 4],.int .i64 k,.pointer<|J ⟨xz<|xj w,0,U⟩,.pointer<|J ⟨xz (xj w)+1,0,U⟩,.pointer<|J ⟨xz (xj w)+1+1,0,U⟩,.pointer<|J ⟨xz (xj w)+1+1+1,0,U⟩,.pointer<|J ⟨b,0,U⟩,.pointer<|J ⟨b+1,0,U⟩,.int .i64 (x.1:Nat),.bool x.2,undef,
    .agg #[.int .u64 h.base,.int .i64 h.cap,.int .i64 h.to,.bool h.Y,.int .i64 h.Z,a 0,a 1,a 2,a 3,a 4],.agg #[.int .u64 h.base,.int .i64 h.cap,.int .i64 h.to,.bool h.Y,.int .i64 h.Z,.slice a0 (I<|Zu h 0) c0,.slice a1 (I<|Zu h 1) c1,.slice a2 (I<|Zu h 2) c2,.slice a3 (I<|Zu h 3) c3,.slice a4 (I<|Zu h 4) c4],
    .func (.func 41) #[] #[.pointer<|J ⟨b,0,U⟩],.func (.func 67) #[] #[.pointer<|J ⟨b+2,0,U⟩],.int .i64 (x.1:Nat),.bool x.2,undef,undef,undef,undef,undef,undef,undef,undef,undef,undef,undef,undef,undef,undef,undef,undef,undef,undef,undef,undef,undef,undef,undef],defers:=[]})
  ?assign ?body ?done ?stop
 case hg=>rfl
 case hI=>
  rintro pre X Y row ⟨done,S,hl⟩ hg Q;exact⟨done,S.dv hg λr e=>⟨by have:=(Q r e).1;omega,(Q r e).2⟩,hl⟩
 case hIx=>
  rintro c pre X Y row ⟨hc,done,S,hl⟩ hg Q;exact⟨hc,done,S.dv hg λr e=>⟨by have:=(Q r e).1;omega,(Q r e).2⟩,hl⟩
 case hPx=>
  rintro pre x _ X Y row ⟨p',h5,hx⟩ hg Q;exact⟨p',h5.dv hg λr e=>(Q r e).2,hx⟩
 case hS=>
  rintro xs X Y row ⟨g,x,hx,hl⟩ hg Q;exact⟨g,x,hx.dv hg λr e=>(Q r e).2,hl⟩
 case assign=>
  rintro l x W K2 g6;simp only[List.zip_cons_cons,Array.zip,AY];gi_wp2
  exact g6
 case body=>
  rintro l pre x W ⟨done,S,a7⟩ ⟨p',P,hx⟩ i4;obtain⟨q,sc⟩:=r.dg done;have b4:=TP hh r done;obtain⟨y,t⟩:=S.br;have rq:Rt (ZR h done) p'/\x=(I pre,Vg p'.H<|I pre):=by
   obtain⟨g',x',h1,h2,h3⟩:=P;have:=t.gz h1;subst this;exact⟨h3,hx⟩
  obtain⟨rg,h7⟩:=rq;subst h7;obtain⟨g,H⟩:∃g,ZR h done=g:=⟨_,rfl⟩;have d:=t.nb;have z:=t5 W B b (λc hc=>g5 c (by have:=Y9 d;omega)) _ y t b4 rg;rw[H]at a7 b4 rg d z;unfold Yn at d;have yb:∀j,W.cell? ⟨b,j,U⟩=(#[.int .u64 g.base,.int .i64 g.cap,.int .i64 g.to,.bool g.Y,.int .i64 g.Z,y 0,y 1,y 2,y 3,y 4]:Array Value)[j]? :=λj=>ZeU _ _ _ _ _ _ d;have i1:=ZeU _ _ 0 _ _ _ S.kb;have i0:=ZeU _ _ 0 _ _ _ S.fn;simp only[Zgk,Zh6]at i1 i0;have i5:W.frozen? ⟨xz (xj w)+1,0,U⟩=xw:=Yd S.kb;by_cases A:done=k\/g.Y=xw
  .have HE:=ZeP<|And.intro S<|And.intro A H;have h4:((k:Int) - (done:Nat)==0)=xk\/(((k:Int) - (done:Nat)==0)=xw/\g.Y=xw):=by
    obtain e|e:=A;exact .inl ZdP
    .by_cases e2:done=k;exact .inl ZdP;exact .inr ⟨ZdP,e⟩
   clear t S d A H P z;obtain hq|⟨hq,i7⟩:=h4
   .gi_wp2
    exact⟨ZiT _ _,rfl,done,HE.out.1,by rw[HE.out.2.2];exact HE.out.2.1⟩
   .gi_wp2
    exact⟨ZiT _ _,rfl,done,HE.out.1,by rw[HE.out.2.2];exact HE.out.2.1⟩
  .have hd:done<k:=by have:=S.le;omega
   have O:g.Y=xk:=by cases d5:g.Y<;>simp_all
   have hq:((k:Int) - (done:Nat)==0)=xw:=ZdP;have h6:=rg.iq;have HH:=ZeP<|And.intro S<|And.intro t<|And.intro H<|And.intro rg hd;have e9:=ZeP<|z O;have Z:=t.rd 0 Z0;by_cases d6:I pre<g.Z
   .have d7:((I pre:Int)<g.Z)=True:=Zhi d6;clear t S d A H P z rg Z;gi_wp2
    exact⟨ZiT _ _,⟨ZeQ _,λ_ _ h _ _ _=>h,λp hp=>⟨p,[],hp,Z1⟩⟩,done,HH.out.1,by rw[HH.out.2.2.1];simp;omega⟩
   .have d7:((I pre:Int)<g.Z)=False:=Zhm d6;have d9:(I pre:Int)=g.Z:=Z0;clear t S d A H P z rg Z;gi_wp2
    refine⟨trivial,(CallsIn.inRound l<|ZgQ.2 e9.out).mono ?_⟩;rintro e W2 ⟨rfl,a6,a8⟩;have j0:=Zy ((k:Int) - (done:Nat) -1) Z0 Z0;obtain⟨s1,s2,s3,s4,s5⟩:=HH.out;rw[<-s3]at a8;have e6:=s1.step hh r (by rw[s3];exact s4) (by rw[s3];exact O) b6 g8 s5 a6 a8;have K:W2.heap[xz (xj w)+1]?=J (.cells #[.int .i64<|(k:Int) - (done:Nat)] 3 (0,0)):=(a6.block _ (Y9 s1.kb) (λe=>by cases e;omega)).trans s1.kb;have e8:=ZeU _ _ 0 _ _ _ K;simp only[Zgk,Zh6]at e8;have i3:W2.frozen? ⟨xz (xj w)+1,0,U⟩=xw:=Yd K;have f6:=ZeP e6;have f5:=ZeP d9;clear s1 s2 s3 s4 s5 a6 a8 e6 K d9;gi_wp2
    obtain⟨t1,t2,t3,t4⟩:=f6.out;obtain⟨s1,s2,s3,s4,s5⟩:=HH.out;have h9:=s1.gr.size;refine⟨(KeepsFrom.of_grownBy t3 λj e=>by cases e;omega).trans (KeepsFrom.of_grownBy t4 λj e=>by cases e;omega),t2,done+1,t1,?_⟩;obtain⟨g',q',f⟩:=s4.Z O;rw[Qv,s3,O];simp only[ZfF];rw[f.eq,f.num.2.2.2];have:=f5.out;simp;omega
 case done=>
  rintro D xs W hD ⟨g0,x0,d8,h0⟩ ⟨done,S,a7⟩ a5;have u:done=k\/(ZR h done).Y=xw:=by
   obtain⟨q,sc⟩:=r.dg done;obtain⟨y,t⟩:=S.br;have:=t.gz d8;subst this;cases d5:(ZR h done).Y with
   |false=>exact .inr rfl
   |true=>have:=sc.rt.kw d5;omega
  obtain⟨y,t⟩:=S.br;have HF:=ZeP<|And.intro S<|And.intro u t;have d:=t.nb;obtain⟨d0,f0,C⟩:=Rd.bz<|t.rd 0 Z0;obtain⟨d1,f1,g1⟩:=Rd.bz<|t.rd 1 Z0;obtain⟨d2,f2,g2⟩:=Rd.bz<|t.rd 2 Z0;obtain⟨d3,f3,g3⟩:=Rd.bz<|t.rd 3 Z0;obtain⟨d4,f4,g4⟩:=Rd.bz<|t.rd 4 Z0;unfold Yn at d;rw[C,g1,g2,g3,g4]at d;have yb:∀j,W.cell? ⟨b,j,U⟩=_:=λj=>ZeU _ _ _ _ _ _ d;have b0:∀j,W.cell? ⟨xz (xj w)+1+1,j,U⟩=_:=λj=>ZeU _ _ _ _ _ _ S.r0;have i2:∀j,W.cell? ⟨xz (xj w)+1+1+1,j,U⟩=_:=λj=>ZeU _ _ _ _ _ _ S.r1;have f8:∀j,W.frozen? ⟨xz (xj w)+1+1,j,U⟩=xw:=λj=>Yd S.r0;have f9:∀j,W.frozen? ⟨xz (xj w)+1+1+1,j,U⟩=xw:=λj=>Yd S.r1;unfold JT at b0;have M:=NN (G:=G) S rfl u t b2.out hG Z0 a5;unfold QC TN at M;unfold Yn ZA at M;rw[C,g1,g2,g3,g4]at M;simp only[Zfc]at M;obtain⟨k1,R,k4,T⟩:=M;have HK:=ZeP T;clear d8 h0 a7 u t d S C g1 g2 g3 g4 T;gi_wp2
  refine⟨Z1,.inl ⟨D,_,rfl,ZhX k1,?_⟩⟩;refine⟨_,?_,HK.out⟩;clear HK HF k1;generalize World.putObj _ D (.deferred U)=f7 at R k4⊢;simp[results,Try.results21,go_sem,R,k4]
 case stop=>
  rintro D c pre W hD ⟨rfl,done,S,u⟩ a5;obtain⟨y,t⟩:=S.br;have HF:=ZeP<|And.intro S<|And.intro u t;have d:=t.nb;obtain⟨d0,f0,C⟩:=Rd.bz<|t.rd 0 Z0;obtain⟨d1,f1,g1⟩:=Rd.bz<|t.rd 1 Z0;obtain⟨d2,f2,g2⟩:=Rd.bz<|t.rd 2 Z0;obtain⟨d3,f3,g3⟩:=Rd.bz<|t.rd 3 Z0;obtain⟨d4,f4,g4⟩:=Rd.bz<|t.rd 4 Z0;unfold Yn at d;rw[C,g1,g2,g3,g4]at d;have yb:∀j,W.cell? ⟨b,j,U⟩=_:=λj=>ZeU _ _ _ _ _ _ d;have b0:∀j,W.cell? ⟨xz (xj w)+1+1,j,U⟩=_:=λj=>ZeU _ _ _ _ _ _ S.r0;have i2:∀j,W.cell? ⟨xz (xj w)+1+1+1,j,U⟩=_:=λj=>ZeU _ _ _ _ _ _ S.r1;have f8:∀j,W.frozen? ⟨xz (xj w)+1+1,j,U⟩=xw:=λj=>Yd S.r0;have f9:∀j,W.frozen? ⟨xz (xj w)+1+1+1,j,U⟩=xw:=λj=>Yd S.r1;unfold JT at b0;have M:=NN (G:=G) S rfl u t b2.out hG Z0 a5;unfold QC TN at M;unfold Yn ZA at M;rw[C,g1,g2,g3,g4]at M;simp only[Zfc]at M;obtain⟨k1,R,k4,T⟩:=M;have HK:=ZeP T;clear u t d S C g1 g2 g3 g4 T;gi_wp2
  refine⟨Z1,.inl ⟨D,_,rfl,ZhX k1,?_⟩⟩;refine⟨_,?_,HK.out⟩;clear HK HF k1;generalize World.putObj _ D (.deferred U)=f7 at R k4⊢;simp[results,Try.results21,go_sem,R,k4]
end
end Vm
end
section
namespace Vm
open Go Go.Proofs
section
structure Made (b:Bt) (x:Rw):Prop where
 pl:Placed b x
 bb:ZJ (Zv b.h)=xk
 sk:∀n∈b.g.nodes,ZL n<=9
 kw:b.h.Y=xk->∀i,i<I b.g.nodes->(ZF b i).part=1->(Y5 b i).part≠0
 Z:0<=b.h.Z/\b.h.Z<=I b.h.H/\(if b.h.Y then b.h.Z<(I b.h.H) else b.h.Z=I b.h.H/\b.h.ah=[]/\b.h.ak=[])
 room:(I b.h.H:Int)+I b.h.ab+((Y1 (obs b 3)+Y1 (obs b 4):Nat):Int)<=b.h.cap
 lf:Yp b.h.Z
def Qm(b:Bt):Pts:=⟨obs b 1,obs b 2,obs b 3,obs b 4⟩
theorem Cn(b:Bt){k:Int}(d:1<=k/\k<=4):(Qm b).at k=obs b k:=by
 have a:k=1\/k=2\/k=3\/k=4:=Z0;obtain rfl|rfl|rfl|rfl:=a<;>rfl
section
variable {b:Bt}{x:Rw}
def Made.fill(m:Made b x):(Yw x b).ok/\Zv (Yw x b)=Zv b.h/\(Yw x b).Z=b.h.Z/\(Yw x b).Y=b.h.Y:=Fs m.pl.ok m.lf
def Made.an(m:Made b x){k:Int}(a:1<=k/\k<=4):Tiles (Zx (Yw x b) k) (decide (2<k)) 0<|obs b k:=Z4P m.pl m.bb m.sk a
def Made.start(m:Made b x){k a:Int}(f:1<=k/\k<=4)(d:0<=a/\a<YO (Zv b.h) k):YV (Yw x b) k a=ZD (Zv b.h) k+a:=by
 unfold YV;rw[m.fill.2.1,SK m.bb f d]
def qZ(n:Nd):1<=ZL n:=by grind [ZL]
def Made.lp(m:Made b x){i:Nat}(a:i<I b.g.nodes)(d:(ZF b i).part≠0):∃o∈obs b (ZF b i).part,o.aa=(ZF b i).aa/\o.size=((ZQ b i).M.length:Int)+(ZQ b i).data.length/\o.M=(ZQ b i).M.length/\o.gone=xw:=
 ⟨_,Jj.2 ⟨i,a,by unfold Xb;rw[if_pos rfl];exact .head _⟩,rfl,rfl,rfl,rfl⟩
def Made.rr(m:Made b x){i:Nat}(f:i<I b.g.nodes)(h:(Y5 b i).part≠0):∃o∈obs b (Y5 b i).part,o.aa=(Y5 b i).aa:=by
 obtain⟨j,k,l,n⟩:=m.pl.dh f h;have a:¬(ZF b i).part=(Y5 b i).part:=by
  by_cases d:(ZF b i).part=0;omega;have:=(m.pl.cr f d).1;omega
 by_cases d:(ZF b i).part=0;exact⟨_,Jj.2 ⟨i,f,by unfold Xb;rw[if_neg a,if_pos rfl,if_pos d];exact .head _⟩,rfl⟩;exact⟨_,Jj.2 ⟨i,f,by unfold Xb;rw[if_neg a,if_pos rfl,if_neg d];exact .head _⟩,rfl⟩
def Made.lx(m:Made b x){i:Nat}(d:i<I b.g.nodes):Xv (Yw x b) (Qm b) (YG b.h<|ZF b i) 1 2=xk:=by
 by_cases a:(ZF b i).part=0;simp_all[YG,ZF,if_pos,Xv];obtain⟨k,l,n⟩:=m.pl.cr d a;have p:=qZ<|ZQ b i;obtain⟨o,j,f,_⟩:=m.lp d a;rw[m.pl.fi m.bb d a];unfold Xv;rw[Tq m.bb Z0];have:(YD (Yw x b) (ZF b i).part (obs b (ZF b i).part)<|ZD (Zv b.h) (ZF b i).part+(ZF b i).aa).isSome=xk:=by
  refine jE.2 ⟨o,j,?_⟩;rw[f,m.start Z0 ⟨Z0,Z0⟩]
 grind [Cn]
def Made.ry(m:Made b x){i:Nat}(d:i<I b.g.nodes):Xv (Yw x b) (Qm b) (YG b.h<|Y5 b i) 3 4=xk:=by
 by_cases a:(Y5 b i).part=0;simp_all[YG,Y5,if_pos,Xv];obtain⟨k,l,_,n⟩:=m.pl.dh d a;have p:=qZ<|ZQ b i;obtain⟨o,j,f⟩:=m.rr d a;rw[m.pl.oy m.bb d a];unfold Xv;rw[Tq m.bb Z0];have:(YD (Yw x b) (Y5 b i).part (obs b (Y5 b i).part)<|ZD (Zv b.h) (Y5 b i).part+(Y5 b i).aa).isSome=xk:=by
  refine jE.2 ⟨o,j,?_⟩;rw[f,m.start Z0 ⟨Z0,Z0⟩]
 grind [Cn]
def Made.dp(m:Made b x){k:Int}(j:1<=k/\k<=4){o q:Ob}(f:o∈obs b k)(g:q∈obs b k)(h:q.aa=o.aa):q=o:=by
 have d:=m.an j;obtain a|a|a:=d.apart q g o f;exact a;have:=YB.1 (d.bc q g).1.shape;omega;have:=YB.1 (d.bc o f).1.shape;omega
def Made.kz(m:Made b x){k:Int}(d:1<=k/\k<=4){o:Ob}(f:o∈obs b k):0<=o.aa/\o.aa<YO (Zv b.h) k:=by
 have a:=((m.an d).bc o f).1;have g:=YB.1 a.shape;have j:=a.aw;have l:=a.iu;have:YO (Zv b.h) k=I (Zx (Yw x b) k):=by rw[<-m.fill.2.1,O1 _ d]
 omega
def Made.find(m:Made b x){k:Int}(a:1<=k/\k<=4){o:Ob}(d:o∈obs b k):YD (Yw x b) k (obs b k) (ZD (Zv b.h) k+o.aa)=J o:=by
 rw[<-m.start a (m.kz a d)];refine EE d λq f e=>m.dp a d f ?_;rw[m.start a<|m.kz a d,m.start a<|m.kz a f]at e;omega
def Z49{k:Int}{i:Nat}{o:Ob}(h:o∈Xb b k i)(a:o.gone=xk):¬(ZF b i).part=k/\(Y5 b i).part=k/\¬(ZF b i).part=0/\o=⟨(Y5 b i).aa,((ZQ b i).M.length:Int)+(ZQ b i).data.length,(ZQ b i).M.length,xk,(adr<|YG b.h<|ZF b i).1⟩:=by
 grind [Xb]
def Made.gone(m:Made b x){k:Int}(y:3<=k/\k<=4):QG (Yw x b) (obs b 1)<|obs b k:=by
 intro o n j;obtain⟨i,d,g⟩:=Jj.1 n;obtain⟨u,w,f,rfl⟩:=Z49 g j;obtain⟨z,A,B⟩:=m.pl.cr d f;have l:=(m.pl.dh d Z0).2.2.1;have a:(ZF b i).part=1:=Z0;obtain⟨q,h,p,r,t,_⟩:=m.lp d f;rw[a]at h;refine⟨q,?_,r,t⟩;simp only;rw[m.pl.fi m.bb d f,Tq m.bb Z0,a,<-p];exact m.find Z0 h
def Made.ei(m:Made b x):Xi (Yw x b)=J (Qm b):=
 MA (m.an (k:=1) Z0) (m.an (k:=2) Z0) (m.an (k:=3) Z0) (m.an (k:=4) Z0) (m.gone Z0) (m.gone Z0)
def Ot(l r:Zi)(a:Int):XB (l++r) a=XB l a+XB r a:=by simp[XB]
def Ov(b:Bt)(k:Int)(j:Nat)(a:Int):XB (Xb b k j) a=if ¬(ZF b j).part=k/\(Y5 b j).part=k/\¬(ZF b j).part=0/\(adr<|YG b.h<|ZF b j).1=a then 1 else 0:=by
 unfold Xb;by_cases d:(ZF b j).part=k;simp_all[if_pos,if_neg,XB];rw[if_neg d];by_cases f:(Y5 b j).part=k;rw[if_pos f];by_cases g:(ZF b j).part=0;simp_all[if_pos,if_neg,XB];rw[if_neg g];by_cases l:(adr<|YG b.h<|ZF b j).1=a;simp_all[if_pos,XB];simp_all[if_neg,XB];simp_all[if_neg,XB]
def Made.gx(m:Made b x)(hc:b.h.Y=xk){i:Nat}(n:i<I b.g.nodes)(q:(ZF b i).part=1):Tk (Qm b) (ZD (Zv b.h) 1+(ZF b i).aa)=1:=by
 have key:∀j,j<=I b.g.nodes->XB ((List.range j).flatMap<|Xb b 3) (ZD (Zv b.h) 1+(ZF b i).aa)+XB ((List.range j).flatMap<|Xb b 4) (ZD (Zv b.h) 1+(ZF b i).aa)=if i<j then 1 else 0:=by
  intro j;induction j with
  |zero=>grind [XB]
  |succ j t=>
   intro G;have t:=t Z0;have a:j<I b.g.nodes:=Z0;rw[Zh2,Zh5,Zh5,Ot,Ot];simp only[Zir,List.flatMap_nil,Zg1];have p:XB (Xb b 3 j) (ZD (Zv b.h) 1+(ZF b i).aa)+XB (Xb b 4 j) (ZD (Zv b.h) 1+(ZF b i).aa)=if j=i then 1 else 0:=by
    rw[Ov,Ov];by_cases l:(ZF b j).part=0;grind;obtain⟨H,C,K⟩:=m.pl.cr a l;by_cases d:(ZF b j).part=1;have y:=m.kw hc j a d;obtain⟨v1,_⟩:=m.pl.dh a y;have B:(adr<|YG b.h<|ZF b j).1=ZD (Zv b.h) 1+(ZF b j).aa:=by rw[m.pl.fi m.bb a l,Tq m.bb Z0,d]
    have heq:(ZD (Zv b.h) 1+(ZF b j).aa=ZD (Zv b.h) 1+(ZF b i).aa)↔j=i:=by
     constructor;intro e;obtain⟨w1,w2,w3⟩:=m.pl.cr n Z0;rw[d]at C;rw[q]at w2;have z:=qZ<|ZQ b i;have A:=qZ<|ZQ b j;have D:I (YQ b x 1 i)=ZL (ZQ b i):=by unfold YQ;rw[if_pos q];exact UA _ _ _ _
     have F:I (YQ b x 1 j)=ZL (ZQ b j):=by unfold YQ;rw[if_pos d];exact UA _ _ _ _
     by_cases w:j<i;obtain⟨r,k⟩:=K7 b x 1 (Z0:j+1<=i);rw[Ua]at k;grind;by_cases u:i<j;obtain⟨r,k⟩:=K7 b x 1 (Z0:i+1<=j);rw[Ua]at k;grind;omega;simp_all
    grind;have f:(ZF b j).part=2:=Z0;have o:(Y5 b j).part=0:=by
     by_cases h:(Y5 b j).part=0;exact h;exact absurd f (m.pl.dh a h).2.2.1
    grind
   grind
 have:=key (I b.g.nodes)<|ZeQ _;rw[if_pos n]at this;exact this
end
end
section
section
variable {b:Bt}{x:Rw}
def Made.word(m:Made b x){k:Int}(a:1<=k/\k<=4){i t:Nat}(d:i<I b.g.nodes)(h:t< I (YQ b x k i)):(Zx (Yw x b) k)[I (YY b x k i)+t]?=(YQ b x k i)[t]? :=by
 rw[Ft m.pl a];obtain⟨r,f⟩:=K7 b x k (Z0:i+1<=I b.g.nodes);simp_all[Ua,Zfw,Zf9,ZhI,Zfj]
def H1{p:Pl}{n:Nd}{tw:Int}{j:Nat}(a:j<I n.M):∃q∈n.M,(XQ b p n tw)[1+j]?=J (Vp b ⟨p.part,((p.aa.toNat+1+j:Nat):Int)⟩ q<|IntKind.i64.wrap<|tw+j):=by
 refine⟨n.M[j],Zf7 a,?_⟩;simp_all[XQ,Zhx,ZhE,Zfj,XL]
theorem Ap(h:Hp)(p:Pts)(k j:Int):Xv h p 0 k j=xk:=ZeF
def Made.mw(m:Made b x)(r:∀n∈b.g.nodes,∀q∈n.M,-1<=q/\q< (I b.g.nodes:Int)){i:Nat}(y:i<I b.g.nodes){k:Int}{p:Pl}(o:p.part=k){a:Nat}{d tw:Int}(f:d∈(ZQ b i).M)(u:((Zx (Yw x b) k)[a]?).getD 0=Vp b ⟨p.part,(a:Int)⟩ d tw):Ul (Yw x b) (Qm b) k a=xk:=by
 have w:=r (ZQ b i) (by simp_all[ZQ,ZeL,Zf7]) d f;unfold Ul;simp only[u];unfold Vp;rw[o];by_cases l:d<0;simp_all[if_pos,Ap];obtain⟨t,rfl⟩:=Zf0 (Z0:0<=d);have j:t<I b.g.nodes:=Z0;rw[if_neg l];have g1:=m.lx (i:=t) j;have g2:=m.ry (i:=t) j;unfold ZF at g1;unfold Y5 at g2;simp only[Zf2];by_cases h:2<k;simp_all;rw[if_neg h,if_neg h];rw[m.fill.2.2.1];grind
def Made.M(m:Made b x)(C:∀n∈b.g.nodes,∀q∈n.M,-1<=q/\q< (I b.g.nodes:Int)){k:Int}(u:1<=k/\k<=4):WC (Yw x b) (Qm b) k=xk:=by
 unfold WC;rw[Cn b u,ZeY];intro o D;obtain⟨i,d,a⟩:=Jj.1 D;unfold yL;rw[ZeY];intro j h;rw[Zhq]at h;unfold Xb at a;split at a;rename_i f;simp at a;subst a;simp only[Zf2]at h;obtain⟨_,B,_⟩:=m.pl.cr d Z0;rw[f]at B;have r:YQ b x k i=XQ b (ZF b i) (ZQ b i) (IntKind.i64.wrap<|x.be+i):=by unfold YQ;rw[if_pos f]
 obtain⟨q,z,A⟩:=H1 (b:=b) (p:=ZF b i) (tw:=IntKind.i64.wrap<|x.be+i) h;have w:=m.word u d (t:=1+j) ZdN;rw[r,A]at w;simp only;refine m.mw C d f (tw:=IntKind.i64.wrap<|IntKind.i64.wrap (x.be+i)+j) z ?_;grind;rename_i f;split at a;rename_i l;obtain⟨_,B,_⟩:=m.pl.dh d Z0;rw[l]at B;split at a;rename_i y;simp at a;subst a;simp only[Zf2]at h;have r:YQ b x k i=XQ b (Y5 b i) (ZQ b i) 0:=by unfold YQ;rw[if_neg f,if_pos l,if_pos y]
 obtain⟨q,z,A⟩:=H1 (b:=b) (p:=Y5 b i) (tw:=0) h;have w:=m.word u d (t:=1+j) ZdN;rw[r,A]at w;simp only;refine m.mw C d l (tw:=IntKind.i64.wrap<|0+j) z ?_;grind;rename_i y;simp at a;subst a;simp only[Zf2]at h;have r:YQ b x k i=VQ b (ZF b i) (ZQ b i):=by unfold YQ;rw[if_neg f,if_pos l,if_neg y]
 have w:=m.word u d (t:=1+j) (by grind [Q0,ZL]);have F:(VQ b (ZF b i)<|ZQ b i)[1+j]?=J 0:=by
  unfold VQ;rw[Zhx 1 j,ZhE,List.getElem?_replicate,if_pos (by grind [ZL])]
 grind [Ul,Int.toNat_natCast,YY,Ap];grind
theorem Made.right(m:Made b x)(z:∀n∈b.g.nodes,∀q∈n.M,-1<=q/\q< (I b.g.nodes:Int)):Yt (Yw x b)=xk:=by
 have j:=m.fill.2.1;have a:(Yw x b).H.length=I b.h.H:=by have:=ZfS Ly.H j;simp only[Zv]at this;omega
 have d:(Yw x b).ab.length=I b.h.ab:=by have:=ZfS Ly.ab j;simp only[Zv]at this;omega
 have u:(Yw x b).ah.length=I b.h.ah:=by have:=ZfS Ly.ah j;simp only[Zv]at this;omega
 have p:(Yw x b).ak.length=I b.h.ak:=by have:=ZfS Ly.ak j;simp only[Zv]at this;omega
 have l:(Yw x b).cap=b.h.cap:=ZfS Ly.cap j;refine Nr ?_ m.ei ?_;unfold TG;have O:=m.Z;have y:=m.pl.ok.rl;have M:(Yw x b).E.length<=5:=by simp only[Yw,Zfc];exact y
 rw[j,m.bb,m.fill.2.2.1,m.fill.2.2.2,a,u,p];grind;unfold Sw;simp only[ZeO,Zfh];refine⟨⟨⟨⟨⟨⟨?_,?_⟩,m.M z Z0⟩,m.M z Z0⟩,m.M z Z0⟩,m.M z Z0⟩,?_⟩;rw[m.fill.2.2.2];cases K:b.h.Y;rfl;simp only[Zhz,ZhY,ZeY];intro o G;obtain⟨i,F,f⟩:=Jj.1 G;have D:(ZF b i).part=1/\o.aa=(ZF b i).aa:=by
  unfold Xb at f;split at f;simp_all;split at f;rename_i N;have:=(m.pl.dh F Z0).1;omega;grind
 have A:=m.kz (k:=1) Z0 G;unfold Rq;rw[m.start Z0 A,D.2,Zfh];exact m.gx K F D.1;rw[ZeY];intro w H;simp only[Yw,Zf8]at H;obtain⟨r,L,rfl⟩:=H;have y:=m.pl.ok.uo r L;by_cases C:0<=r;rw[if_pos C];have B:=KI (x:=x) m.pl.ok (I b.g.nodes)<|ZeQ _;rw[Cw B];obtain⟨t,rfl⟩:=Zf0 C;exact m.lx (i:=t) Z0;simp_all[if_neg,Ap];rw[a,d,l];exact m.room
end
end
section
def Pf(l r:Zi):Y1 (l++r)=Y1 l+Y1 r:=by simp[Y1]
section
variable {x:Rw}{c:Bool}
def Z9i{b:Bt}(f:Placed b x){i:Nat}(p:i<I b.g.nodes):Y1 (Xb b 3 i)+Y1 (Xb b 4 i)=if(ZF b i).part=0 then ZL (ZQ b i)else 0:=by
 have q:((1:Nat)+(((ZQ b i).M.length:Int)+(ZQ b i).data.length).toNat)=ZL (ZQ b i):=by unfold ZL;omega
 obtain⟨l,k,a,d⟩|⟨l,_⟩:=f.ax i p;have j:(ZF b i).part=0:=by rw[l]
 rw[if_pos j];obtain rfl|rfl:=a<;>simp[Xb,j,d,Y1,Wc,q];have h:¬(ZF b i).part=0:=Z0;have n:¬(ZF b i).part=3:=Z0;have o:¬(ZF b i).part=4:=Z0;have:∀k:Int,¬(ZF b i).part=k->Y1 (Xb b k i)=0:=λk a=>by
  unfold Xb;rw[if_neg a,if_neg h];split<;>simp[Y1,Wc]
 rw[if_neg h,this 3 n,this 4 o]
def Pm(hx:x.ok):∀j,j<=(ZY x.nodes x.E).nodes.length->Y1 ((List.range j).flatMap<|Xb (Yx x c) 3)+Y1 ((List.range j).flatMap<|Xb (Yx x c) 4)=(Y4 x c (ZY x.nodes x.E) j).wt
 |0,_=>rfl
 |j+1,g=>by
  have h:=Pm hx j Z0;have a:=Z9i (Of (c:=c) hx) (i:=j) (by rw[Rp];omega);rw[Kt Z0]at a;have f:ZQ (Yx x c) j=((ZY x.nodes x.E).nodes[j]?).getD default:=rfl;rw[f]at a;rw[Zh2,Zh5,Zh5,Pf,Pf,Y4];simp only[Zir,List.flatMap_nil,Zg1];generalize ((ZY x.nodes x.E).nodes[j]?).getD default=n at*;unfold Q1 at a;simp only[X5];obtain d|d|⟨d,rfl⟩:=SR x j c;simp[d]at a⊢;omega;simp[d]at a⊢;omega;simp[d]at a⊢;omega
def Z4g(x:Rw)(c:Bool):∀n∈(Yx x c).g.nodes,∀q∈n.M,-1<=q/\q< ((Yx x c).g.nodes.length:Int):=by
 rw[Rp];exact Hy x.nodes x.E
def I8(hc:c=xw):∀j,(Y4 x c (ZY x.nodes x.E) j).n3=0/\(Y4 x c (ZY x.nodes x.E) j).n4=0
 |0=>⟨rfl,rfl⟩
 |j+1=>by
  have:=I8 hc j;subst hc;simpa[Y4,X5]using this
def Hr(hx:x.ok)(hc:c=xk->(Yx x xk).h.H.length≠0):Made (Yx x c) x:=by
 obtain⟨k1,y,z⟩:=LG hx c;refine⟨Of hx,z,?_,?_,?_,?_,y⟩;rw[Rp];exact Dc x;intro a i l j;have k:c=xk:=a;subst k;rw[Rp]at l;rw[Kt l]at j;rw[yS l];unfold Q1 at j;unfold Jq;obtain f|f|⟨f,_⟩:=SR x i xk;simp[f]at j;simp[f];cases Wv x i<;>simp;simp[f]at j;have d:(Yx x c).h.H.length=(Y4 x c (ZY x.nodes x.E) (ZY x.nodes x.E).nodes.length).n1:=by simp[Yx]
 cases c;obtain⟨p,q⟩:=I8 (x:=x) (c:=xw) rfl (ZY x.nodes x.E).nodes.length;rw[d];have o:(Yx x xw).h.Z=((Y4 x xw (ZY x.nodes x.E) (ZY x.nodes x.E).nodes.length).n1:Int):=by simp[Yx]
 have a:(Yx x xw).h.Y=xw:=rfl;rw[o,a];simp only[Zf6,ZfI];refine⟨Z0,Z0,trivial,?_,?_⟩<;>simp[Yx,p,q];have f:=hc rfl;rw[d]at f;rw[d];have o:(Yx x xk).h.Z=pick x.Z (Y4 x xk (ZY x.nodes x.E) (ZY x.nodes x.E).nodes.length).n1:=by
  simp only[Yx];rw[if_pos ⟨trivial,Z0⟩]
 have a:(Yx x xk).h.Y=xk:=rfl;have u:=Tc (c:=x.Z) (n:=((Y4 x xk (ZY x.nodes x.E) (ZY x.nodes x.E).nodes.length).n1:Int)) Z0;rw[o,a];simp only[ZfF];omega;have w:=Pm (c:=c) hx (ZY x.nodes x.E).nodes.length<|ZeQ _;have t:(Yx x c).h.H.length=(Y4 x c (ZY x.nodes x.E) (ZY x.nodes x.E).nodes.length).n1:=by simp[Yx]
 have r:(Yx x c).h.ab.length=(Y4 x c (ZY x.nodes x.E) (ZY x.nodes x.E).nodes.length).n2:=by simp[Yx]
 have g:(Yx x c).h.cap=max (((Y4 x c (ZY x.nodes x.E) (ZY x.nodes x.E).nodes.length).n1:Int)+(Y4 x c (ZY x.nodes x.E) (ZY x.nodes x.E).nodes.length).n2+(Y4 x c (ZY x.nodes x.E) (ZY x.nodes x.E).nodes.length).wt) (((Y4 x c (ZY x.nodes x.E) (ZY x.nodes x.E).nodes.length).n3:Int)+(Y4 x c (ZY x.nodes x.E) (ZY x.nodes x.E).nodes.length).n4)+pick x.be 12:=rfl;have u:=Tc (c:=x.be) (n:=12) Z0;unfold obs;rw[Rp,w,t,r,g];omega
def Z28(hx:x.ok):∃c,UZ x=Yw x (Yx x c)/\Made (Yx x c) x:=by
 unfold UZ;by_cases h:(Yx x xk).h.H.length=0;rw[if_pos h];exact⟨xw,rfl,Hr hx Z1⟩;rw[if_neg h];exact⟨xk,rfl,Hr hx λ_=>h⟩
def Z2a(hx:x.ok):Yt (UZ x)=xk:=by
 obtain⟨c,h,m⟩:=Z28 hx;rw[h];exact m.right<|Z4g x c
end
end
def SJ:Prop:=∀(h:Hp) (p:Pts) (k:Int),h.ok->Rt h p->0<=k->Yp k->VC Sol.prog 21 xw [ZE h,vi k] (.am [ZE<|ZR h k.toNat,vi 0])
def Lh(h:Hp)(k:Int):Hp×Int:=if k<0\/Yt h=xw then(Hp.zero,1)else(ZR h k.toNat,0)
def zE(h:Hp):Hp×Int:=if Yt h=xw then(Hp.zero,1)else(ZR h 9223372036854775807,0)
def DY(j:SJ){h:Hp}(f:h.ok){k:Int}(l:Yp k):VC Sol.prog 9 xw [ZE h,vi k]<|.am [ZE (Lh h k).1,vi (Lh h k).2]:=by
 refine ZS Sol.func9 follows Z2 c9 rfl ?_;have k1:=QD f;simp only[ZE]at k1;unfold Lh;simp[p9];by_cases a:0<=k;case neg=>simp[a,show k<0 by omega,ZE,Hp.zero]
 have d:¬k<0:=Z0;simp only[a,d,ZfF,false_or];refine Zz k1 Z1 ?_;cases n:Yt h;simp[ZE,Hp.zero];obtain⟨p,r⟩:=JC.1 n;have g:=j h p k f r Z0 l;simp only[ZE]at g⊢;simp;refine Zz g Z1 ?_;simp
def PH(f:SJ){h:Hp}(a:h.ok):VC Sol.prog 11 xw [ZE h]<|.am [ZE (zE h).1,vi (zE h).2]:=by
 refine ZS Sol.func11 follows Z2 jH rfl ?_;have k1:=QD a;simp only[ZE]at k1;unfold zE;simp[II];refine Zz k1 Z1 ?_;cases g:Yt h;simp[ZE,Hp.zero];obtain⟨p,r⟩:=JC.1 g;have d:=f h p 9223372036854775807 a r Z0 ⟨Z0,Z0⟩;simp only[ZE]at d⊢;simp;refine Zz d Z1 ?_;simp
def Tx:Hp:=⟨10,5,1,xk,0,[2,6],[],[31,0],[],[31]⟩
def QW:Hp:=⟨10,5,1,xw,2,[2,6],[],[],[],[31]⟩
def A4:Tx.ok:=by refine⟨?_,?_,?_,?_,?_,?_,?_,?_,?_,?_,?_,?_,?_,?_⟩<;>simp[Tx,ZC,Yp]
def Pn:Hp.zero.ok:=by refine⟨?_,?_,?_,?_,?_,?_,?_,?_,?_,?_,?_,?_,?_,?_⟩<;>simp[Hp.zero,ZC,Yp]
def MZ{h:Hp}{p:Pts}(r:Rt h p)(k:Nat):Lh h k=(ZR h k,0):=by
 unfold Lh;rw[if_neg (by rw[r.right];simp),Zf2]
end Vm
end
section
namespace Vm
open Go Go.Proofs Go.RowKit
def NO:SJ:=by
 intro h p k D r K C;obtain⟨n,rfl⟩:=Zf0 K;rw[Zf2];refine⟨Z2,λw G vs z l d=> ?_⟩;have r0:=d 0 _ rfl;have N:=d 1 _ rfl;have B:vs=#[vs.getD 0 undef,vs.getD 1 undef]:=by
  have a:vs.size=2:=l;apply Zhc;simp[a];intro i O P;have F:i<2:=Z0
  match i,F with
  |0,_=>simp[Array.getD,a]
  |1,_=>simp[Array.getD,a]
 obtain⟨o,t,M⟩:=zW r0;have u:=Sp N;rw[B,t,u];refine(Z7F w G z h D o M r (by have:=C.2;omega)).mono ?_;rintro e Q ⟨x,rfl,g,L⟩;refine⟨_,rfl,g,?_⟩;refine .am _ _ rfl ?_;intro i y f
 match i,f with
 |0,f=>cases f;exact J8 λj H=>(L j H).mono λb A=>A.imp (λq=>⟨rfl,q⟩) id
 |1,f=>cases f;exact .int _ _
end Vm
end
section
namespace Vm
open Go Go.Conc Go.ConcN
section
section
variable {P:Z6}{Stop:Z9}{b:Zg}{k:Zn}{cs:Z7}{a:Act}{w:Z3}
def Walk.cw{x y:Code}(h:Walk P Stop (b.at a<|.code x:: .code y::k) cs w):Walk P Stop (b.at a<|.code (.seq x y)::k) cs w:=.go (λw=>stepG_seq) h
def Walk.region{id:Nat}{ops:Zl}(h:Walk P Stop (b.at a<|.inRegion ops (List.range ops.size)::k) cs w):Walk P Stop (b.at a<|.code (.region id ops xw)::k) cs w:=.go (λw=>stepG_region) h
def Walk.gg{ops:Zl}(h:Walk P Stop (b.at a k) cs w):Walk P Stop (b.at a<|.inRegion ops []::k) cs w:=.go (λw=>stepG_region_end) h
def Walk.val{ops:Zl}{i:Nat}{rest:Za}{o:Oper}{v:Ze}(q:ops[i]?=J o)(r:Region.wanted o (yielded ops a.tmps)=xk)(p:b.kind≠.early)(n:QO P o.op=xk)(j:∀g:Z3,g.heap=w.heap->(execOp a.eval o).run P g=.ok (.value v) g)
  (h:Walk P Stop (b.at (a.put o.dst v)<|.inRegion ops rest::k) cs w):Walk P Stop (b.at a<|.inRegion ops (i::rest)::k) cs w:=by
 refine .one λd=> ?_;have f:EvsB (xz<|xj<|Ye<|(execOp a.eval o).run P<|w.at d)<|listed P b.fn a o<|w.at d:=λe l=>Fl n a (w.at d) e<|mem_listed l;rw[j (w.at d) rfl]at f;exact⟨_,_,_,_,stepG_value q r p<|j (w.at d) rfl,ZeQ _,f,h.at d⟩
def Walk.chan{ops:Zl}{i:Nat}{rest:Za}{o:Oper}{t p:Zh}{dir:ChanDir}{inf:TypeInfo}{f:IntKind}(z:ops[i]?=J o)(B:Region.wanted o (yielded ops a.tmps)=xk)(y:b.kind≠.early)(j:o.op=.makeChan t (.const<|.int f 0))(l:P.underlying t=J (.chan dir p))(g:P.info? p=J inf)
  (h:Walk P Stop (b.at (a.put o.dst<|.chan<|J<|xz<|xj w)<|.inRegion ops rest::k) cs<|w.alloc<|.chan 0 #[] xw 0 0 xw):Walk P Stop (b.at a<|.inRegion ops (i::rest)::k) cs w:=by
 refine .one λd=> ?_;have n:execOp a.eval o=(do pure (.value<|<-Instr.makeChan t (.int f (0:Nat))):Sem Next):=by unfold execOp;simp only[j];rfl
 have A:(execOp a.eval o).run P (w.at d)=.ok (.value<|.chan<|J<|xz<|xj w) ((w.alloc<|.chan 0 #[] xw 0 0 xw).at d):=by
  rw[n];simp only[Zfu,run_makeChan (w:=w.at d) l g f 0 Z0 Z0,Zft];rfl
 have x:(execOp a.eval o).events P (w.at d) #[]=#[]:=by
  rw[n];have q:=events_makeChan (P:=P) (w:=w.at d) l g f 0 Z0 Z0 #[];have r:(Instr.makeChan t<|.int f (0:Nat)).runT P (w.at d) #[]=(.ok (.chan<|J<|xz<|xj w)<|(w.alloc<|.chan 0 #[] xw 0 0 xw).at d, #[]):=by
   refine Zhl ?_ q;rw[ZgP];exact run_makeChan (w:=w.at d) l g f 0 Z0 Z0
  show((Sem.bind _ _).runT P (w.at d) #[]).2=_;rw[ZgT,r];rfl
 refine⟨_,_,_,_,stepG_value z B y A,by show xz (xj w)<=xz (xj<|w.alloc _);simp,λe u=> ?_,h.at d⟩;have:=mem_listed u;simp_all
def Walk.ue{fr B:Zg}{f:Zj}(T:∀w:Z3,stepG P xk (G fr cs) w=.spawn (G B cs) f w #[])
  (H:∀(n d:Nat) (gs:Zc) (sl:Option<|Nat×Nat) (t:Trace) (q:Zk),0<n->gs.size=n+1->gs[0]?=J (G B cs)->gs[n]?=J f->YK P n gs q->(∀Z OB M,TI n Z OB M (xz<|xj w) t)->Win P (DH P Stop) gs (w.at d) sl t):Walk P Stop fr cs w:=by
 intro d0 gs sl t q hl N o;have R:∀(a:Zc) g,a[a.size]? ≠J g:=λa g e=>by
  simp_all
 refine skip hl (λi g O r=> ?_) ⟨0,_,.inl rfl,N,rfl⟩ λa d L q' i g a1 z Q O a2 a0=> ?_;obtain rfl|rfl:=O;rw[N]at r;cases r;exact⟨awake_of<|.inl rfl,λg1 g2 d=>woken_run rfl⟩;simp_all;obtain rfl|rfl:=O;have C:a[0]?=J (G fr cs):=by rw[z 0<|.inl rfl];exact N
 have F:0<a.size:=(ZeT.1 C).1;have u:=runT_crowd_spawn (P:=P) (sl:=L) (i:=0) (w:=w.at d) C<|T<|w.at d;refine⟨_,_,_,_,u,?_⟩;generalize hx:({g:=0,fn:=(G fr cs).frame.fn,pos:=(G fr cs).frame.place,act:=.go a.size}:MemOp)=x;generalize hy:({g:=a.size,fn:=f.frame.fn,pos:=(G fr cs).frame.place,act:=.start}:MemOp)=y;have D:((MemOp.ofEvents 0 (G fr cs).frame.fn (G fr cs).frame.place #[]).push x).push y=#[x,y]:=by simp[MemOp.ofEvents]
 rw[D];have W:x.g=0/\x.act=.go a.size:=by rw[<-hx];exact⟨rfl,rfl⟩
 have X:y.g=a.size/\y.act=.start:=by rw[<-hy];exact⟨rfl,rfl⟩
 refine H a.size d _ L _ q' F Z1 ?_ ZdN (λj g hj a3 r=> ?_) λZ OB M=> ?_;grind;rw[Zh3]at r;simp only[ZgZ]at r;rw[if_neg Z0,ZfD Z0]at r;exact Q j g hj Z0 r;have t0:TI a.size (λ_=>True) (λ_=>False) M (xz<|xj w) t:=⟨o.fo,o.dm,o.H,λi op x l k A=>.inl<|o.il i op x l k A,λi op x l k A=>.inr<|.inr ⟨λ_=>by simp_all[Hw,trivial],λb _ h=>h⟩⟩
 have Y:=t0.comm (ZeQ _) #[x,y] (λop S=>by
  have:op=x\/op=y:=by simpa using S
  obtain rfl|rfl:=this;simp_all[MemAct.touch?];simp_all[MemAct.touch?])
 have K:∀(i:Nat) (op:MemOp) (p:Touch),(t++ #[x,y])[i]?=J op->op.act.touch?=J p->t[i]?=J op:=λi op p l k=>by
  obtain⟨_,h⟩|⟨_,h⟩:=getElem?_append_cases l;exact h;have:op=x\/op=y:=ZeH;obtain rfl|rfl:=this;simp_all[MemAct.touch?];simp_all[MemAct.touch?]
 refine⟨Y.fo,Y.dm,Y.H,λi op p l k A=>.inl<|(o.il i op p (K i op p l k) k A).app _,λi op p l k A=>.inr<|.inl ?_⟩;exact fork_knows W X (o.dm 0) (o.dm _)<|o.il i op p (K i op p l k) k A;simp_all
def Walk.uf{fr o:Zg}{f:Zj}{c:Nat}{KA KB OA0:Z4}{StopA:(Nat->Prop)->Goroutine->World->Prop}{vs:Zm}{z:Ze}(C:∀w:Z3,stepG P xk (G fr cs) w=.spawn (G o cs) f w #[])
  (Q:Play P xk c KA StopA (vs.map .recv++[.closed z]) OA0 (G o cs) w) (R:Play P xw c KB (UN P c) (vs.map .send) (λ_=>False) f w) (p:w.heap[c]?=J (.chan 0 #[] xw 0 0 xw))
  (la:∀b,OA0 b->b<xz (xj w)) (ka:∀b,KA b->b<xz (xj w)) (kb:∀b,KB b->b<xz (xj w)) (H:∀b,OA0 b->¬KB b) (N:¬OA0 c) (x:¬KA c) (y:¬KB c)
  (r:∀u a j,StopA u a j->xz (xj w)<=xz (xj j)->j.tape=w.tape->(j.os,j.output)=(w.os,w.output)->(∀b,u b->(OA0 b\/xz (xj w)<=b)/\b<xz (xj j))->(∀b,b<xz (xj w)->¬OA0 b->b≠c->j.heap[b]?=w.heap[b]?)->∃l k,a=G l k/\Walk P Stop l k j):Walk P Stop fr cs w:=by
 refine .ue C λn d gs sl t q X D O B W F=> ?_;have S:Cfg P n c KA KB OA0 (w.at d) OA0 (λ_=>False) gs (w.at d) t q:=
  ⟨X,W,F _ _ _,la,λ_ h=>h.elim,ka,kb,λ_ _ h=>h,H,N,x,y,(ZeT.1 p).1,ZeQ _,rfl,rfl,λ_ h=>.inl h,λ_ h=>h.elim,λ_ _ _ _=>rfl⟩
 have Y:=(Z5x (P:=P) (n:=n) (KB:=KB) (OA0:=OA0) (w0:=w.at d) Q).td vs z (λ_=>False) f gs (w.at d) sl t q 0 0 xw rfl S D O B (Rely.at _ _ _ d) (.run<|R.gh<|Rely.at _ _ _ d) p;refine Y.bind λA w1 K t1 ⟨M,u,OB,q1,Z,k1,k2,g,k4,k5⟩=> ?_;obtain⟨l,k,rfl,T⟩:=r u M w1 k2 g.b0 g.tape g.os (λb L=>⟨g.oa b L,g.la b L⟩) g.fr;exact T w1.drawn A K t1 q1 k4 Z ⟨g.ti.fo,g.ti.dm,g.ti.H,k5⟩
end
end
end Vm
end
section
namespace Vm
open Go Go.Conc
section
section
variable {Q:Z6}{c:Nat}{Post:Z9}{es:List Ev}{fr fr':Zg}{cs cs':Z7}{w w':Z3}
def LS.bv:∀ {es:List Ev} {fr fr':Zg} {cs cs':Z7} {w w':Z3},Steps Q (lone fr (cs++[YM Q]) w) (lone fr' (cs'++[YM Q]) w')->LS Q c Post es fr' cs' w'->LS Q c Post es fr cs w
 | [],_,_,_,_,_,_,h,⟨n,a,c2,w2,d,f⟩=>let⟨m,g⟩:=Steps.trans h ⟨n,d⟩;⟨m,a,c2,w2,g,f⟩
 |e::es,_,_,_,_,_,_,h,⟨n,a,c2,w2,d,f⟩=>let⟨m,g⟩:=Steps.trans h ⟨n,d⟩;⟨m,a,c2,w2,g,f⟩
def LS.ev{e:Ev}(h:VJ Q c e fr)(k:LS Q c Post es (Xs e fr) cs w):LS Q c Post (e::es) fr cs w:=⟨0,fr,cs,w,rfl,h,k⟩
def LS.br(h:Post fr cs w):LS Q c Post [] fr cs w:=⟨0,fr,cs,w,rfl,h⟩
end
def Dw{P:Z6}{ops:Zl}{w:Z3}{Q Q':Act->Prop}(h:∀a,Q a->Q' a):∀(l:List Oper) (a:Act),wpStill P ops w Q l a->wpStill P ops w Q' l a
 | [],a,d=>h a d
 |o::l,a,d=>by
  simp only[wpStill]at d⊢;split;rename_i f;rw[if_pos f]at d;exact Oper.still_mono (λa=>Dw h l a) d;rename_i f;rw[if_neg f]at d;exact Dw h l _ d
def Yq:Code->List Nat->Code
 |c,[]=>c
 |.seq a _,0::l=>Yq a l
 |.seq _ b,_::l=>Yq b l
 |.cond _ a _,0::l=>Yq a l
 |.cond _ _ b,_::l=>Yq b l
 |.block _ a,_::l=>Yq a l
 |.loop a,_::l=>Yq a l
 |.scope a,_::l=>Yq a l
 |c,_=>c
def L1:Code->Array Oper
 |.region _ ops _=>ops
 |_=> #[]
def jq(Q:Z6)(c:Nat)(Post:Z9)(es:List Ev)(b:Zg)(k:Zn)(cs:Z7):Exit->Act->World->Prop
 |.normal,a,w=>LS Q c Post es (b.at a k) cs w
 |.exit id,a,w=>∃k',exitTo id k=J k'/\LS Q c Post es (b.at a k') cs w
 |.ret,a,w=>∀d,LS Q c Post es {b.at a d with mode:=.returning} cs w
 |_,_,_=>False
def SC(Q:Z6)(c:Nat)(x:Code)(R:List Ev->Exit->Act->World->Prop)(es:List Ev)(a:Act)(w:Z3):Prop:=
 ∀(Post:Z9) (b:Zg) (k:Zn) (cs:Z7),(∀d e f w',R d e f w'->jq Q c Post d b k cs e f w')->LS Q c Post es (b.at a<|.code x::k) cs w
def ST(Q:Z6)(c:Nat)(ops:Zl)(R:List Ev->Exit->Act->World->Prop)(l:Za)(es:List Ev)(a:Act)(w:Z3):Prop:=
 ∀(Post:Z9) (b:Zg) (k:Zn) (cs:Z7),(∀d e f w',R d e f w'->jq Q c Post d b k cs e f w')->LS Q c Post es (b.at a<|.inRegion ops l::k) cs w
section
variable {Q:Z6}{c:Nat}{R R':List Ev->Exit->Act->World->Prop}{es:List Ev}{a:Act}{w:Z3}{x y:Code}
variable {ops:Zl}{l:Za}
def SC.ub{id:Nat}(h:∀t,ST Q c ops R (Region.schedule (Q.follows .mixedOrders) ops t) es a {w with drawn:=w.drawn+1}):SC Q c (.region id ops xk) R es a w:=λPost b k cs d=>LS.bv (.one step_region_draw)<|h _ Post b k cs d
def ST.nil(h:R es .normal a w):ST Q c ops R [] es a w:=λPost b k cs d=>LS.bv (.one step_region_end)<|d _ _ _ _ h
def ST.sq{i:Nat}(g:((ops[i]?).map (Region.wanted · (yielded ops a.tmps))).getD xw=xw)(f:ST Q c ops R l es (a.put ((ops[i]?).bind (·.dst)) undef) w):ST Q c ops R (i::l) es a w:=λPost b k cs d=>
 LS.bv (.one<|step_op_skip g) (f Post b k cs d)
def ST.still{i:Nat}{K:Act->Prop}(h:stOp Q ops w i K a)(t:∀a,K a->ST Q c ops R l es a w):ST Q c ops R (i::l) es a w:=by
 unfold stOp at h;cases q:ops[i]? with
 |none=>
  rw[q]at h;refine .sq (by simp[q]) ?_;simp_all[Option.bind_none,Act.put]
 |some o=>
  rw[q]at h;dsimp only at h;by_cases u:Region.wanted o (yielded ops a.tmps)=xk;rw[if_pos u]at h;unfold Oper.still at h;intro Post b k cs r;have A:=stepG_op (P:=Q) (b:=b) (k:=k) (cs:=cs++[YM Q]) (w:=w) (rest:=l) q u;have y:∀v,(b.at a<|.inRegion ops (i::l)::k).finish v=b.at (a.put o.dst v) (.inRegion ops l::k):=λv=>by grind [Frame.finish_at]
  revert h
  cases B:(execOp a.eval o).run Q w with
  |halt x w'=>exact False.elim
  |ok n w'=>
   cases n<;>first|exact False.elim|skip
   rename_i v;rintro⟨rfl,h⟩;refine LS.bv (.one<|Zie ?_)<|t _ h Post b k cs r;simp_all[stepG.apply];rintro⟨rfl,h⟩;refine LS.bv (.one<|Zie ?_)<|t _ h Post b k cs r;simp_all[stepG.apply];rename_i f args;rintro⟨rfl,v,z,h⟩;obtain⟨e,j,fr,⟨rfl,rfl⟩,g,_,p⟩:=z<|b.at a (.inRegion ops (i::l)::k)::(cs++[YM Q]);have d:step Q (lone (b.at a<|.inRegion ops (i::l)::k) (cs++[YM Q]) j)=.next (lone (Frame.enter Q f args .normal) (b.at a (.inRegion ops (i::l)::k)::(cs++[YM Q])) j):=
    Zie (by simp_all[stepG.apply,Frame.at])
   refine LS.bv (.head d<|g.trans<|.one ?_)<|t _ h Post b k cs r;grind [step_leave_returned]
  rw[if_neg u]at h;refine .sq ZdO ?_;simp_all
def ST.ev{i:Nat}{o:Oper}{e:Ev}(A:ops[i]?=J o)(G:Region.wanted o (yielded ops a.tmps)=xk)(y:match e with
   |.recv _|.closed _=>∃t f d h inf z,o.op=.recv t f xk/\ZZ f=xk/\a.eval f=.chan (J c)/\Q.underlying t=J (.chan d h)/\Q.info? h=J inf/\inf.zero=J z/\∀B,e=.closed B->B=z
   |.send v=>∃f x,o.op=.send f x/\ZZ f=xk/\ZZ x=xk/\a.eval f=.chan (J c)/\a.eval x=v)
  (F:ST Q c ops R l es (a.put o.dst e.val) w):ST Q c ops R (i::l) (e::es) a w:=λPost b k cs D=>by
 refine LS.ev ⟨ops,i,l,k,o,rfl,rfl,A,G,?_⟩ ?_;have g:∀x,(b.at a<|.inRegion ops (i::l)::k).eval x=a.eval x:=Frame.eval_at b a _;cases e with
 |recv v=>obtain⟨t,f,d,h,inf,z,j,n,p,q,r,u,_⟩:=y;exact⟨t,f,d,h,inf,z,j,n,by rw[g];exact p,q,r,u⟩
 |closed v=>obtain⟨t,f,d,h,inf,z,j,n,p,q,r,u,C⟩:=y;exact⟨t,f,d,h,inf,j,n,by rw[g];exact p,q,r,by rw[C v rfl];exact u⟩
 |send v=>obtain⟨f,x,j,n,p,q,r⟩:=y;exact⟨f,x,j,n,p,by rw[g];exact q,by rw[g];exact r⟩
 have:Xs e (b.at a<|.inRegion ops (i::l)::k)=b.at (a.put o.dst e.val) (.inRegion ops l::k):=by
  unfold Xs;rw[Zhf,A];rfl
 rw[this];exact F Post b k cs D
def ST.head{md:Region.Mode}{n g:Nat}{L:Array Bool->Act->Prop}:∀(f t:Nat) (listed:Array Bool) (a:Act),wpAnyL Q md ops w n L f listed a->(∀listed a t,L listed a->ST Q c ops R (Region.linearise.go md ops g t listed []) es a w)->
  ST Q c ops R (Region.linearise.go md ops (f+g) t listed []) es a w
 |0,t,listed,a,h,j=>by rw[Zfy];exact j _ _ _ h
 |f+1,t,listed,a,h,j=>by
  obtain⟨p,q⟩:=h;rw[show f+1+g=(f+g)+1 by omega];simp only[Region.linearise.go]
  change ST Q c ops R (match(Region.ready md ops listed)[t% I (Region.ready md ops listed)]? with
   |some i=>Region.linearise.go md ops (f+g) (t / I (Region.ready md ops listed)) (listed.setIfInBounds i xk) [i]
   |none=>[].reverse) es a w
  cases k:(Region.ready md ops listed)[t% I (Region.ready md ops listed)]? with
  |none=>
   exfalso;have d:0< I (Region.ready md ops listed):=Zhv.2 p;have:=ZgV.1 k;have:=Zi1 t d;omega
  |some i=>
   simp only[];rw[linearise_go_acc,ZiA,ZiN];exact ST.still (q i<|ZeW k).2 λl o=>ST.head f _ _ l o j
def ST.kg{n:Nat}{listed:Array Bool}{t:Nat}(h:Region.seqB .any ops 1 n listed=xk)(d:ST Q c ops R [n] es a w):ST Q c ops R (Region.linearise.go .any ops 1 t listed []) es a w:=by
 simp only[Region.seqB,ZeO,Zfh]at h;simp only[Region.linearise.go]
 change ST Q c ops R (match(Region.ready .any ops listed)[t% I (Region.ready .any ops listed)]? with
   |some i=>[i]
   |none=>[]) es a w
 grind
def SC.kg{id n:Nat}{l:List Oper}(B:Q.follows .mixedOrders=xk)(u:Region.lexTailB .any l.toArray n=xk)(q:I l=n+1)(h:wpStill Q l.toArray {w with drawn:=w.drawn+1} (λp=>ST Q c l.toArray R [n] es p {w with drawn:=w.drawn+1}) (l.take n) a):SC Q c (.region id l.toArray xk) R es a w:=by
 refine SC.ub λt=> ?_;simp only[Region.lexTailB,ZeO,Zfh]at u;obtain⟨⟨⟨⟨k,y⟩,D⟩,z⟩,f⟩:=u;have C:n<I l:=by simpa using y
 have r:I (l.take n)=n:=ZdP;have A:l.toArray.size-n=1:=ZdP;rw[A]at f;have o:HeadInv .any l.toArray n<|Array.replicate l.toArray.size xw:=
  ⟨Z1,λj M _ G=>(by grind [getD_replicate_false]),λt _ K=>getD_in ZdN<|getD_replicate_false _ _⟩
 have H:=wpAnyL_lex (md:=.any) (g:=1) k D z y (l.take n) 0 _ a (λj F=>by
  simp_all) Z0 o ZdO h
 simp only[Region.schedule,B,Bool.true_or,ZfF,Region.linearise];have e:l.toArray.size=I (l.take n)+1:=by rw[r];simpa using q
 rw[e];exact ST.head (L:=λd p=>Region.seqB .any l.toArray 1 n d=xk/\ST Q c l.toArray R [n] es p {w with drawn:=w.drawn+1}) _ t _ a (by rw[<-e];exact H) λlisted p N x=>ST.kg x.1 x.2
end
section
variable {Q:Z6}{c:Nat}{Post:Z9}{es:List Ev}{a:Act}{w:Z3}{x y:Code}{b:Zg}{k k':Zn}{cs:Z7}
def LS.cw(h:LS Q c Post es (b.at a<|.code x:: .code y::k) cs w):LS Q c Post es (b.at a<|.code (.seq x y)::k) cs w:=LS.bv (.one step_seq) h
def LS.od{o:Operand}(hc:a.eval o=.bool xk)(h:LS Q c Post es (b.at a<|.code x::k) cs w):LS Q c Post es (b.at a<|.code (.cond o x y)::k) cs w:=LS.bv (.one<|step_cond hc) h
def LS.ny{o:Operand}(hc:a.eval o=.bool xw)(h:LS Q c Post es (b.at a<|.code y::k) cs w):LS Q c Post es (b.at a<|.code (.cond o x y)::k) cs w:=LS.bv (.one<|step_cond hc) h
def LS.skip(h:LS Q c Post es (b.at a k) cs w):LS Q c Post es (b.at a<|.code .skip::k) cs w:=LS.bv (.one step_skip) h
def LS.block{id:Nat}(h:LS Q c Post es (b.at a<|.code x:: .inBlock id::k) cs w):LS Q c Post es (b.at a<|.code (.block id x)::k) cs w:=LS.bv (.one step_block) h
def LS.inBlock{id:Nat}(h:LS Q c Post es (b.at a k) cs w):LS Q c Post es (b.at a<|.inBlock id::k) cs w:=LS.bv (.one step_inBlock) h
theorem LS.inLoop(h:LS Q c Post es (b.at a<|.code x:: .inLoop x::k) cs w):LS Q c Post es (b.at a<|.inLoop x::k) cs w:=LS.bv (.one step_inLoop) h
def LS.exit{id:Nat}(d:exitTo id k=J k')(h:LS Q c Post es (b.at a k') cs w):LS Q c Post es (b.at a<|.code (.exit id)::k) cs w:=LS.bv (.one<|step_exit d) h
def LS.oq(I:Nat->List Ev->Act->World->Prop){n:Nat}(d:I n es a w)(f:∀n es a w,I n es a w->(∀m es a w,m<n->I m es a w->LS Q c Post es (b.at a<|.inLoop x::k) cs w)->LS Q c Post es (b.at a<|.code x:: .inLoop x::k) cs w):LS Q c Post es (b.at a<|.code (.loop x)::k) cs w:=by
 have key:∀n es a w,I n es a w->LS Q c Post es (b.at a<|.code x:: .inLoop x::k) cs w:=by
  intro n;induction n using Nat.strongRecOn with
  |_ n g=>grind [inLoop]
 exact LS.bv (.one step_loop)<|key n es a w d
def LS.wp{R:Zf}(h:x.wp Q R a w)(n:∀e f w',R e f w'->jq Q c Post es b k cs e f w'):LS Q c Post es (b.at a<|.code x::k) cs w:=by
 obtain⟨e,f,w',q,r⟩:=h b k<|cs++[YM Q];have g:=n e f w' q;cases e with
 |normal=>exact LS.bv r g
 |exit id=>obtain⟨k',j,l⟩:=g;exact LS.bv (r k' j) l
 |ret=>obtain⟨d,r⟩:=r;exact LS.bv r<|g d
 |_=>exact g.elim
def LS.dn(h:∀K:Zo,(∀a w,LS Q c Post es (b.at a k) cs w->K a w)->x.wp Q (λe a w=>e=.normal/\K a w) a w):LS Q c Post es (b.at a<|.code x::k) cs w:=
 LS.wp (h _ λ_ _ q=>q) λe g w' ⟨d,f⟩=>by subst d;exact f
def LS.send{id n:Nat}{l:List Oper}{v:Ze}(z:Q.follows .mixedOrders=xk)(x:Region.lexTailB .any l.toArray n=xk)(q:I l=n+1){o:Oper}{g j:Operand}(B:l[n]?=J o)(y:o.guard=U)(p:o.op=.send g j)(u:ZZ g=xk)(h2:ZZ j=xk)
  (h:wpStill Q l.toArray {w with drawn:=w.drawn+1} (λd=>d.eval g=.chan (J c)/\d.eval j=v/\LS Q c Post es (b.at (d.put o.dst undef) k) cs {w with drawn:=w.drawn+1}) (l.take n) a):LS Q c Post (.send v::es) (b.at a<|.code (.region id l.toArray xk)::k) cs w:=
 SC.kg (R:=λf e d w'=>e=.normal/\LS Q c Post f (b.at d k) cs w') z x q (Dw (λd ⟨r,t,A⟩=>ST.ev (o:=o) ZdN (by simp[Region.wanted,y]) ⟨g,j,p,u,h2,r,t⟩<|.nil ⟨rfl,A⟩) _ _ h) Post b k cs λf e d w' ⟨r,t⟩=>by subst r;exact t
def LS.region{id:Nat}{ops:Zl}(h:LS Q c Post es (b.at a<|.inRegion ops (List.range ops.size)::k) cs w):LS Q c Post es (b.at a<|.code (.region id ops xw)::k) cs w:=LS.bv (.one step_region) h
def LS.value{ops:Zl}{i:Nat}{l:Za}{o:Oper}{v:Ze}{w':Z3}(g:ops[i]?=J o)(j:Region.wanted o (yielded ops a.tmps)=xk)(h:(execOp a.eval o).run Q w=.ok (.value v) w')(f:LS Q c Post es (b.at (a.put o.dst v)<|.inRegion ops l::k) cs w'):LS Q c Post es (b.at a<|.inRegion ops (i::l)::k) cs w:=by
 have d:(b.at a<|.inRegion ops (i::l)::k).finish v=b.at (a.put o.dst v) (.inRegion ops l::k):=by grind [Frame.finish_at]
 refine LS.bv (.one<|Zie ?_) f;simp_all[stepG_op,stepG.apply]
def LS.gg{ops:Zl}(h:LS Q c Post es (b.at a k) cs w):LS Q c Post es (b.at a<|.inRegion ops []::k) cs w:=LS.bv (.one step_region_end) h
def LS.ss{ops:Zl}{i:Nat}{l:Za}{o:Oper}{e:Ev}(n:ops[i]?=J o)(p:Region.wanted o (yielded ops a.tmps)=xk)(q:match e with
   |.recv _|.closed _=>∃t f d g inf z,o.op=.recv t f xk/\ZZ f=xk/\a.eval f=.chan (J c)/\Q.underlying t=J (.chan d g)/\Q.info? g=J inf/\inf.zero=J z/\∀h,e=.closed h->h=z
   |.send v=>∃f x,o.op=.send f x/\ZZ f=xk/\ZZ x=xk/\a.eval f=.chan (J c)/\a.eval x=v)
  (r:LS Q c Post es (b.at (a.put o.dst e.val)<|.inRegion ops l::k) cs w):LS Q c Post (e::es) (b.at a<|.inRegion ops (i::l)::k) cs w:=by
 refine LS.ev ⟨ops,i,l,k,o,rfl,rfl,n,p,?_⟩ ?_;have j:∀x,(b.at a<|.inRegion ops (i::l)::k).eval x=a.eval x:=Frame.eval_at b a _;grind;simp_all[Xs,Zhf]
end
end
end Vm
end
section
namespace Vm
open Go
open Go.Proofs
noncomputable def ofC:Code:=match Try.f38.body with|some c=>c|none=>.skip
def CU(f:Zq):Option<|List OT:=if f=57 then J [.fz,.mem [.fz],.mem [.fz]]else sig f
def OP:List Nat:=[0,1,2,3,16,4,5,6,7,23,25,8,24,29,9,10,48,47,49,12,46,13]
def Z8S:List Nat:=[15,63,76,79]
def vf(P:Z6):FC:= {P,ix:=pos<|OP++Z8S,fresh,sig:=CU,tr:=[3],fix:=[4,23],n:=82,keep:=OP}
def qv:SS:=[(0,.fz)]
def r0N:SS:=[(0,.fz),(1,(.mem [.fz,.fz,.fz,.fz,.fz,.fz,.fz,.fz,.fz,.fz])),(2,(.mem [.nil,.nil])),(3,.fz)]
def r0:Stm:=
(.ao ⟨[],[],[(1,.m [(.ae (.sz (.s 0) 10) 0),(.ae (.sz (.s 0) 10) 1),(.ae (.sz (.s 0) 10) 2),(.ae (.sz (.s 0) 10) 3),(.ae (.sz (.s 0) 10) 4),(.ae (.sz (.s 0) 10) 5),(.ae (.sz (.s 0) 10) 6),(.ae (.sz (.s 0) 10) 7),(.ae (.sz (.s 0) 10) 8),(.ae (.sz (.s 0) 10) 9)]),(2,.m [(.c<|.sl []),(.c<|.sl [])]),(3,.v<|.c<|.int .i64<|0)]⟩)
def r0c:comp (vf<|Yc Try.prog) (Yq ofC [0]) qv=J (r0,⟨J r0N,[],[]⟩):=Z2
def rXS:SS:=[(0,.fz),(1,(.mem [.fz,.fz,.fz,.fz,.fz,.fz,.fz,.fz,.fz,.fz])),(2,(.mem [.nil,.nil])),(3,.fz)]
def N6:SS:=[(0,.fz),(1,(.mem [.fz,.fz,.fz,.fz,.fz,.fz,.fz,.fz,.fz,.fz])),(2,(.mem [.nil,.nil])),(3,.fz),(16,.fz)]
def Cs:SS:=[(0,.fz),(1,(.mem [.fz,.fz,.fz,.fz,.fz,.fz,.fz,.fz,.fz,.fz])),(2,(.mem [.nil,.nil])),(3,.fz),(16,.fz)]
def rX:Stm:=
(.seq
(.ao ⟨[.call 22 [] (.id 17) xw xw [(.mm 1 0 10)]],[],[(4,.v<|.un .not<|.s 22)]⟩)
(.cond (.s 4)
 (.seq
 (.ao ⟨[],[([],(.ag [(.c<|.sl []),(.c<|.sl [])]))],[(2,.m [(.c<|.sl []),(.c<|.sl [])]),(3,.v<|.c<|.int .i64<|1)]⟩)
 .ret)
 .skip))
def rXc:comp (vf<|Yc Try.prog) (Yq ofC [1,0]) rXS=J (rX,⟨J N6,[],[Cs]⟩):=Z2
def Lj:SS:=[(1,(.mem [.fz,.fz,.fz,.fz,.fz,.fz,.fz,.fz,.fz,.fz])),(2,(.mem [.fz,.fz])),(3,.fz)]
def r5N:SS:=[(1,(.mem [.fz,.fz,.fz,.fz,.fz,.fz,.fz,.fz,.fz,.fz])),(2,(.mem [.fz,.fz])),(3,.fz),(5,.nil)]
def r5:Stm:=
(.ao ⟨[],[],[(6,.v<|.c<|.sl [])]⟩)
def r5c:comp (vf<|Sol.prog) (Yq ofC [1,1,1,1,0]) Lj=J (r5,⟨J r5N,[],[]⟩):=Z2
def r6S:SS:=[(1,(.mem [.fz,.fz,.fz,.fz,.fz,.fz,.fz,.fz,.fz,.fz])),(2,(.mem [.fz,.fz])),(3,.fz),(5,.nil)]
def r6N:SS:=[(1,(.mem [.fz,.fz,.fz,.fz,.fz,.fz,.fz,.fz,.fz,.fz])),(2,(.mem [.fz,.fz])),(3,.fz),(5,.nil),(6,(.mem [(.own 108)]))]
def r6:Stm:=
(.ao ⟨[],[],[(7,.m [(.c<|.mp 0 [] [])])]⟩)
def r6c:comp (vf<|Sol.prog) (Yq ofC [1,1,1,1,1,0]) r6S=J (r6,⟨J r6N,[],[]⟩):=Z2
def r7S:SS:=[(1,(.mem [.fz,.fz,.fz,.fz,.fz,.fz,.fz,.fz,.fz,.fz])),(2,(.mem [.fz,.fz])),(3,.fz),(5,.nil),(6,(.mem [(.own 108)]))]
def r7N:SS:=[(1,(.mem [.fz,.fz,.fz,.fz,.fz,.fz,.fz,.fz,.fz,.fz])),(2,(.mem [.fz,.fz])),(3,.fz),(5,.nil),(6,(.mem [(.own 108)])),(7,(.mem [(.own 124)]))]
def r7:Stm:=
(.ao ⟨[],[],[(8,.m [(.c<|.mp 0 [] [])])]⟩)
def r7c:comp (vf<|Sol.prog) (Yq ofC [1,1,1,1,1,1,0]) r7S=J (r7,⟨J r7N,[],[]⟩):=Z2
def Cp:SS:=[(1,(.mem [.fz,.fz,.fz,.fz,.fz,.fz,.fz,.fz,.fz,.fz])),(2,(.mem [.fz,.fz])),(3,.fz),(5,(.own 126)),(6,(.mem [(.own 108)])),(7,(.mem [(.own 124)])),(24,.fz),(25,.fz)]
def rDN:SS:=[(1,(.mem [.fz,.fz,.fz,.fz,.fz,.fz,.fz,.fz,.fz,.fz])),(2,(.mem [.fz,.fz])),(3,.fz),(5,(.own 126)),(6,(.mem [(.own 108)])),(7,(.mem [(.own 124)])),(25,.fz),(8,(.mem [.fz,.fz,.fz,.fz,.fz,.fz,.fz])),(24,.fz),(29,.fz)]
def Cq:SS:=[(1,(.mem [.fz,.fz,.fz,.fz,.fz,.fz,.fz,.fz,.fz,.fz])),(2,(.mem [.fz,.fz])),(3,.fz),(5,(.own 126)),(6,(.mem [(.own 108)])),(7,(.mem [(.own 124)])),(24,.fz),(25,.fz)]
def rD:Stm:=
(.seq
(.cond (.s 10)
 .skip
 (.exit 0))
(.block 1
 (.seq
 (.ao ⟨[],[],[(11,.m [(.ae (.sz (.ext (.s 12) 0) 7) 0),(.ae (.sz (.ext (.s 12) 0) 7) 1),(.ae (.sz (.ext (.s 12) 0) 7) 2),(.ae (.sz (.ext (.s 12) 0) 7) 3),(.ae (.sz (.ext (.s 12) 0) 7) 4),(.ae (.sz (.ext (.s 12) 0) 7) 5),(.ae (.sz (.ext (.s 12) 0) 7) 6)])]⟩)
 (.seq
 (.seq
 (.ao ⟨[],[],[(13,.v<|.m 11 3)]⟩)
 (.cond (.s 13)
  (.seq
  (.ao ⟨[],[],[(8,.m [(.df (.i .u64) (.m 8 0) (.m 11 5)<|.m 11 4)])]⟩)
  (.exit 1))
  .skip))
 (.seq
 (.ao ⟨[],[],[(7,.m [(.df (.i .u64) (.m 7 0) (.m 11 5)<|.len<|.s 6)])]⟩)
 (.ao ⟨[],[],[(6,.v<|.app (.s 6) (.lit [(.mm 11 0 7)]) 7)]⟩))))))
def N5:comp (vf<|Sol.prog) (Yq ofC [1,1,1,1,1,1,1,0,1,0,0,1]) Cp=J (rD,⟨J rDN,[(0,Cq)],[]⟩):=Z2
def N4:SS:=[(1,(.mem [.fz,.fz,.fz,.fz,.fz,.fz,.fz,.fz,.fz,.fz])),(2,(.mem [.fz,.fz])),(3,.fz),(5,.fz),(6,(.mem [.fz])),(7,(.mem [.fz]))]
def Co:SS:=[(1,(.mem [.fz,.fz,.fz,.fz,.fz,.fz,.fz,.fz,.fz,.fz])),(2,(.mem [.fz,.fz])),(3,.fz),(5,.fz),(6,(.mem [.fz])),(7,(.mem [.fz])),(9,(.cp 57 [7,6])),(10,(.mem [.fz,.fz])),(48,.fz),(47,.fz),(49,.fz),(46,.fz)]
def rC:Stm:=
(.seq
(.ao ⟨[],[],[(14,.no)]⟩)
(.seq
(.ao ⟨[],[],[(14,.no),(15,.m [(.c<|.sl []),(.c<|.sl [])])]⟩)
(.seq
(.seq
(.ao ⟨[],[],[(14,.no),(16,.v<|.c<|.int .i64<|0),(17,.v<|.len<|.s 6),(20,.v<|.s 6)]⟩)
(.block 2
 (.loop [1,2,3,6,7,8,14,15,16,17,20]
  (.seq
  (.ao ⟨[],[],[(14,.no),(18,.v<|.bp .lss (.s 16)<|.s 17)]⟩)
  (.seq
  (.cond (.s 18)
   .skip
   (.exit 2))
  (.seq
  (.block 3
   (.seq
   (.ao ⟨[],[],[(14,.no),(19,.m [(.ae (.bd (.ba (.s 20) (.s 16) 7) 0 7) 0),(.ae (.bd (.ba (.s 20) (.s 16) 7) 0 7) 1),(.ae (.bd (.ba (.s 20) (.s 16) 7) 0 7) 2),(.ae (.bd (.ba (.s 20) (.s 16) 7) 0 7) 3),(.ae (.bd (.ba (.s 20) (.s 16) 7) 0 7) 4),(.ae (.bd (.ba (.s 20) (.s 16) 7) 0 7) 5),(.ae (.bd (.ba (.s 20) (.s 16) 7) 0 7) 6)])]⟩)
   (.seq
   (.ao ⟨[],[],[(14,.no),(21,.v<|.m 19 2)]⟩)
   (.ao ⟨[.cn 23 [] (.id 57) [.fz,(.mem [.fz]),(.mem [.fz])] [(.gm (.m 19 6) (.c<|.int .i64<|0) (.s 21) 1),(.ag [(.m 8 0)]),(.ag [(.m 7 0)])]],[],[(7,.m [(.ae (.ext (.s 23) 2) 0)]),(8,.m [(.ae (.ext (.s 23) 1) 0)]),(14,.no),(15,.m [(.app (.m 15 0) (.lit [(.ag [(.one<|.ext (.s 23) 0),(.ex (.m 19 6) (.s 21) 1)])]) 2),(.m 15 1)])]⟩))))
  (.ao ⟨[],[],[(14,.no),(16,.v<|.bp .add (.s 16)<|.c<|.int .i64<|1)]⟩)))))))
(.seq
(.ao ⟨[.cn 24 [] (.id 57) [.fz,(.mem [.fz]),(.mem [.fz])] [(.m 1 9),(.ag [(.m 8 0)]),(.ag [(.m 7 0)])]],[],[(7,.m [(.ae (.ext (.s 24) 2) 0)]),(8,.m [(.ae (.ext (.s 24) 1) 0)]),(14,.no),(15,.m [(.m 15 0),(.one<|.ext (.s 24) 0)])]⟩)
(.seq
(.ao ⟨[.call 25 [] (.id 59) xw xw [(.mm 15 0 2)]],[],[(2,.m [(.ae (.sz (.ext (.s 25) 0) 2) 0),(.ae (.sz (.ext (.s 25) 0) 2) 1)]),(3,.v<|.fl<|.ext (.s 25) 1),(14,.no)]⟩)
.ret)))))
def rCc:comp (vf<|Sol.prog) (Yq ofC [1,1,1,1,1,1,1,1]) N4=J (rC,⟨U,[],[Co]⟩):=Z2
def Mv:Fn:=⟨16,[0,1,2,4,5,14,13,15,7,12,19,8,9,10,11,34],
(.seq
(.ao ⟨[],[],[(3,.v<|.c<|.sl [])]⟩)
(.seq
(.ao ⟨[],[],[(4,.v<|.c<|.sl [])]⟩)
(.seq
(.seq
(.ao ⟨[],[],[(5,.v<|.c<|.int .i64<|0),(6,.v<|.len<|.s 0),(9,.v<|.s 0)]⟩)
(.block 0
 (.loop [0,1,2,3,4,5,6,9]
  (.seq
  (.ao ⟨[],[],[(7,.v<|.bp .lss (.s 5)<|.s 6)]⟩)
  (.seq
  (.cond (.s 7)
   .skip
   (.exit 0))
  (.seq
  (.block 1
   (.seq
   (.ao ⟨[],[],[(8,.v<|.ae (.ba (.s 9) (.s 5) 1) 0)]⟩)
   (.seq
   (.seq
   (.ao ⟨[],[],[(10,.v<|.bp .eql (.s 8)<|.c<|.int .u64<|0)]⟩)
   (.cond (.s 10)
    (.seq
    (.ao ⟨[],[],[(4,.v<|.app (.s 4) (.lit [(.c<|.int .i64<|-1)]) 1)]⟩)
    (.exit 1))
    .skip))
   (.seq
   (.ao ⟨[.call 16 [] (.id 58) xw xw [(.s 8)]],[],[(11,.v<|.ext (.s 16) 0),(12,.v<|.ext (.s 16) 1)]⟩)
   (.seq
   (.seq
   (.ao ⟨[],[],[(13,.v<|.ext (.lk (.i .u64) (.m 1 0) (.s 11) (.int .u64<|0) xk) 0),(14,.v<|.ext (.lk (.i .u64) (.m 1 0) (.s 11) (.int .u64<|0) xk) 1)]⟩)
   (.seq
   (.ao ⟨[],[],[(15,.v<|.s 14)]⟩)
   (.cond (.s 15)
    (.ao ⟨[],[],[(11,.v<|.s 13)]⟩)
    .skip)))
   (.ao ⟨[],[],[(4,.v<|.app (.s 4) (.lit [(.one<|.lk (.i .u64) (.m 2 0) (.s 11) (.int .i64<|0) xw)]) 1)]⟩))))))
  (.ao ⟨[],[],[(5,.v<|.bp .add (.s 5)<|.c<|.int .i64<|1)]⟩)))))))
(.seq
(.ao ⟨[],[],[(3,.v<|.s 4),(4,.no)]⟩)
.ret)))),
[(3,.v)]⟩
def cTo:ZM Sol.prog fresh sig [.fz,(.mem [.fz]),(.mem [.fz])] (Rc [.fz,(.mem [.fz]),(.mem [.fz])]) Try.f57=J Mv:=Z2
def M8:Fn:=⟨5,[0,1,2,3,6],pQ [pR [(1,pS 0 2),(2,.m [pN,pN]),pV 3<|pI 0],pQ [pC [pK 5 60 [.mm 1 0 2]] [pV 4<|.un .not<|.s 5]]<|pw (.s 4)<|pQ [.ao ⟨[],[([],.ag [pN,pN])],[(2,.m [pN,pN]),pV 3<|pI 1]⟩] .ret,pC [.cn 6 [] (.id 82) [.fz,(.own 151)] [.mm 1 0 2,.c<|.mp 0 [] []]] [(2,pM (.sz (.ext (.s 6) 0) 2) 2),pV 3<|pI 0]] .ret,[(2,(.ag 2)),(3,.v)]⟩
def c59:ZM Sol.prog fresh sig [.fz] [] Try.f59=J M8:=Z2
def M9:Fn:=⟨11,[0,1,2,9,3,14,13,15,5,12,32],pQ [pR [(1,pS 0 2),pV 2 pF],pi 3 (pj (.len<|.m 1 1)<|pI 16)<|px [pV 2 pF],pR [(4,.no)],pQ [pR [(4,.no),pV 5<|pI 0,pV 6<|.len<|.m 1 0,pV 9<|.m 1 0]]<|.block 0<|.loop [0,1,2,3,4,5,6,9]<|pQ [pR [(4,.no),pV 7<|pl (.s 5)<|.s 6],.cond (.s 7) .skip<|.exit 0,.block 1<|pQ [pR [(4,.no),(8,pM (.bd (.ba (.s 9) (.s 5) 2) 0 2) 2)],.ao ⟨[.lt 11 []<|pj (pa (.len<|.m 8 0)<|.len<|.m 8 1)<|pI 255,.cn 12 [(11,xw)] (.id 83) [.fz,(.mem [.fz,.fz])] [.m 8 0,.ag [.m 1 0,.m 1 1]]],[([(11,xw)],.un .not<|.ext (.s 12) 0)],[(1,pM (.ext (.s 12) 1) 2),(4,.no),pV 10<|.ite (.s 11) pT<|.un .not<|.ext (.s 12) 0]⟩]<|pw (.s 10)<|px [pV 2 pF,(4,.no)]]<|pR [(4,.no),pV 5<|pa (.s 5)<|pI 1],pC [.cn 13 [] (.id 83) [.fz,(.mem [.fz,.fz])] [.m 1 1,.ag [.m 1 0,.m 1 1]]] [(1,pM (.ext (.s 13) 1) 2),pV 2<|.ext (.s 13) 0,(4,.no)]] .ret,[(2,.v)]⟩
def c60:ZM Sol.prog fresh sig [.fz] [] Try.f60=J M9:=Z2
def Mm:Fn:=⟨11,[0,1,2,4,5,13,12,14,7,11,8],pQ [pR [(2,pS 0 2),(3,.m [pN,pN])],pR [(4,.m [pN,pN])],pQ [pC [.cn 9 [] (.id 95) [.fz,(.own 151)] [.mm 2 0 2,.s 1]] [pV 1<|.ext (.s 9) 1,pV 5<|pI 0,pV 6<|.len<|.ext (.s 9) 0,pV 9<|.ext (.s 9) 0]]<|po [0,1,2,3,4,5,6,9] 7 (pl (.s 5)<|.s 6) (pQ [pR [pV 8<|.ae (.ba (.s 9) (.s 5) 1) 0],pR [(10,pM (.bd (.ba (.m 2 0) (.s 8) 2) 0 2) 2)]]<|pC [.call 11 [] (.id 96) xk xw [.m 10 0,.s 1]] [(4,.m [.app (.m 4 0) (.lit [.ag [.one<|.s 11,.app pN (.m 10 1) 1]]) 2,.m 4 1])])<|pc 5,pC [.call 12 [] (.id 96) xk xw [.m 2 1,.s 1]] [(4,.m [.m 4 0,.one<|.s 12])]]<|px [(3,pM (.mm 4 0 2) 2)],[(3,(.ag 2))]⟩
def c82:ZM Sol.prog fresh sig [.fz,(.own 151)] [(1,(.own 151))] Try.f82=J Mm:=Z2
def Mn:Fn:=⟨9,[0,1,3,8,7,9,5,6,20],pQ [pR [pV 2 pF],pQ [pR [pV 3<|pI 0,pV 4<|.len<|.s 0,pV 7<|.s 0]]<|po [0,1,2,3,4,7] 5 (pl (.s 3)<|.s 4) (pQ [pR [pV 6<|.ae (.ba (.s 7) (.s 3) 1) 0],.ao ⟨[.lt 9 []<|pl (.s 6)<|pI<|-1],[([(9,xw)],pg (.s 6)<|.len<|.m 1 0)],[pV 8<|.ite (.s 9) pT<|pg (.s 6)<|.len<|.m 1 0]⟩]<|pw (.s 8)<|px [pV 2 pF])<|pc 3]<|px [pV 2 pT],[(2,.v)]⟩
def c83:ZM Sol.prog fresh sig [.fz,(.mem [.fz,.fz])] [(1,(.mem [.fz,.fz]))] Try.f83=J Mn:=Z2
def L6:Fn:=⟨9,[0,1,2,3,4,5,6,7,17],pQ [pR [(1,.no),(2,pS 0 2),(3,.m [.s 1]),pV 4 pN],pR [(3,.m [.eu<|.m 3 0])],pR [(5,.m [pN])],pR [(6,.no)],pC [.cn 9 [] (.id 99) [.fz,(.mem [(.own 151)]),(.mem [(.own 3)])] [.m 2 1,.ag [.m 3 0],.ag [.m 5 0]]] [(3,.m [.ae (.ext (.s 9) 1) 0]),(5,.m [.ae (.ext (.s 9) 2) 0]),(6,.no)],pQ [pR [(6,.no),pV 7<|pI 0]]<|.block 0<|.loop [0,2,3,4,5,6,7]<|pQ [pQ [pR [(6,.no),pV 8<|pl (.s 7)<|.len<|.m 5 0]]<|.cond (.s 8) .skip<|.exit 0,.block 1<|pC [.cn 10 [] (.id 99) [.fz,(.mem [(.own 151)]),(.mem [(.own 3)])] [.ae (.ba (.m 2 0) (.ae (.ba (.m 5 0) (.s 7) 1) 0) 2) 0,.ag [.m 3 0],.ag [.m 5 0]]] [(3,.m [.ae (.ext (.s 10) 1) 0]),(5,.m [.ae (.ext (.s 10) 2) 0]),(6,.no)]]<|pR [(6,.no),pV 7<|pa (.s 7)<|pI 1]]<|px [pV 4<|.m 5 0,(6,.no)],[(4,.v)]⟩
def c95:ZM Sol.prog fresh sig [.fz,(.own 151)] [(3,(.mem [(.own 151)]))] Try.f95=J L6:=Z2
def Mt:Fn:=⟨10,[0,1,4,5,10,9,11,7,8,15],pQ [pR [pV 2 pN],pR [pV 3 pN],pQ [pR [pV 4<|pI 0,pV 5<|.len<|.s 0,pV 8<|.s 0]]<|po [0,1,2,3,4,5,8] 6 (pl (.s 4)<|.s 5) (pQ [pR [pV 7<|.ae (.ba (.s 8) (.s 4) 1) 0],pi 9 (pg (.s 7)<|pI 0)<|pR [pV 7<|.lk (.i .i64) (.s 1) (.s 7) (.int .i64 0) xw]]<|pR [pV 3<|.app (.s 3) (.lit [.one<|.s 7]) 1])<|pc 4]<|px [pV 2<|.s 3,(3,.no)],[(2,.v)]⟩
def c96:ZM Sol.prog fresh sig [.fz,.fz] [(4,(.own 3))] Try.f96=J Mt:=Z2
def Mu:Fn:=⟨11,[0,1,2,10,9,11,5,8,6,7,25],pQ [pR [pV 3<|pI 0,pV 4<|.len<|.s 0,pV 7<|.s 0]]<|po [0,1,2,3,4,7] 5 (pl (.s 3)<|.s 4) (pQ [pR [pV 6<|.ae (.ba (.s 7) (.s 3) 1) 0],pR [pV 8<|.fl<|.ext (.lk (.i .i64) (.m 1 0) (.s 6) (.int .i64 0) xk) 0,pV 9<|.fl<|.ext (.lk (.i .i64) (.m 1 0) (.s 6) (.int .i64 0) xk) 1],.ao ⟨[.lt 11 []<|pg (.s 6)<|pI 0],[([(11,xk)],.un .not<|.s 9)],[pV 10<|.ite (.s 11) (.un .not<|.s 9) pF]⟩]<|pw (.s 10)<|pQ [pR [(1,.m [.df (.i .i64) (.m 1 0) (.s 6)<|.len<|.m 2 0])]]<|pR [(2,.m [.app (.m 2 0) (.lit [.one<|.s 6]) 1])])<|pc 3,[]⟩
def c99:ZM Sol.prog fresh sig [.fz,(.mem [(.own 151)]),(.mem [(.own 3)])] [(1,(.mem [(.own 151)])),(2,(.mem [(.own 3)]))] Try.f99=J Mu:=Z2
end Vm
end
section
namespace Vm
open Go Go.Proofs
def Gr.sm(g:Gr):Prop:=I g.nodes<=100000/\I g.E<=100000/\∀n∈g.nodes,I n.M<=100000/\I n.data<=100000
def T4(n:Nat)(p:Int):Bool:=decide (-1<=p/\p<n)
def R4(k:Nat)(n:Nd):Bool:=decide (I n.M+I n.data<=255)&&n.M.all (T4 k)
def right(g:Gr):Bool:=decide (I g.E<=16)&&g.nodes.all (R4<|I g.nodes)&&g.E.all (T4<|I g.nodes)
theorem Ej{α:Type}{p}{l:List α}{i x}(h:l[i]?=J x):(l.take<|i+1).all p=((l.take i).all p&&p x):=by
 rw[ZfJ,h];simp
theorem Eg{α:Type}{p}{l:List α}{i:Nat}{x}(h:l[i]?=J x)(a:p x=xw):l.all p=xw:=by
 grind
def FD{l:List Int}{ns:List V}{a:V}(g:I l<=100000)(k:a.one=xk)(j:YP a=J a):
  Vr Sol.prog 83 [.fz,.mem [.fz,.fz]] [.sl<|l.map vi,.agg [.sl ns,a]] (.am [.bool<|l.all<|T4<|I ns,.agg [.sl ns,a]]):=by
 refine JN Sol.func83 follows Z2 c83 Z2 ?_;simp[-List.all_eq_true,-List.all_eq_false,Mn];refine TU (λt=>∃i:Nat,i<=I l/\(l.take i).all (T4<|I ns)=xk/\t=[.v<|.sl<|l.map vi,.m [.sl ns,a],.v<|.bool xw,.v<|vi i,.v<|vi<|I l,.no,.no,.v<|.sl<|l.map vi]) (λt=>match get t 3 with|.v (.int _ n)=>I l-n.toNat|_=>0) ?_ ?_;exact⟨0,Z1,Z1,Z1⟩;rintro t ⟨i,f,d,rfl⟩;by_cases h:i<I l;have o:l[i]?=J l[i]:=ZeL h;simp[-List.all_eq_true,-List.all_eq_false,h];simp(disch:=omega) only[Zy];grind [Eg,T4,Ej];have:i=I l:=Z0;simp_all
def Nu{g:Gr}(r:g.sm):VC Sol.prog 60 xw [Yz g]<|.bool<|right g:=by
 obtain⟨u,j,k⟩:=r;refine ZS Sol.func60 follows Z2 c60 rfl ?_;simp[-List.all_eq_true,-List.all_eq_false,M9];split;grind [List.all_eq_true,List.all_eq_false,right];rename_i h;refine TU (λt=>∃i:Nat,i<=I g.nodes/\(g.nodes.take i).all (R4<|I g.nodes)=xk/\t=[.v<|Yz g,.m [.sl<|g.nodes.map Yk,.sl<|g.E.map vi],.v<|.bool xw,.v<|.bool xw,.no,.v<|vi i,.v<|vi<|I g.nodes,.no,.no,.v<|.sl<|g.nodes.map Yk]) (λt=>match get t 5 with|.v (.int _ n)=>I g.nodes-n.toNat|_=>0) ?_ ?_;exact⟨0,Z1,Z1,by simp[h]⟩;rintro t ⟨i,z,a,rfl⟩;by_cases d:i<I g.nodes;have A:g.nodes[i]?=J g.nodes[i]:=ZeL d;obtain⟨q,y⟩:=k _<|Zf7 d;have p:=Zy ((i:Int)+1) Z0 Z0;simp[-List.all_eq_true,-List.all_eq_false,d,p];simp(disch:=omega) only[Zy];have w:R4 (I g.nodes) g.nodes[i]=xw->right g=xw:=λx=>by grind [List.all_eq_true,List.all_eq_false,right,Eg]
 by_cases l:(g.nodes[i].M.length:Int)+(g.nodes[i].data.length:Int)<=255;rw[if_pos l];refine U9 (FD q ZeF ZeF) ?_;have f:¬(255:Int)< (g.nodes[i].M.length:Int)+(g.nodes[i].data.length:Int):=Z0;cases o:g.nodes[i].M.all<|T4<|I g.nodes;simp[-List.all_eq_true,-List.all_eq_false,f,o];simp_all[ZeY,Zhk,R4];simp[-List.all_eq_true,-List.all_eq_false,f,o,p];grind [Ej,List.all_eq_true,List.all_eq_false,R4];rw[if_neg l];grind [List.all_eq_true,List.all_eq_false,R4];have:i=I g.nodes:=Z0;subst this;simp[-List.all_eq_true,-List.all_eq_false];refine U9 (FD j ZeF ZeF) ?_;rw[Zgy]at a;simp[-List.all_eq_true,-List.all_eq_false,right,a];omega
end Vm
namespace Vm
open Go Go.Proofs
end Vm
namespace Vm
open Go Go.Proofs
def Dk(n:Nat):List V:=(List.range n).map λ(i:Nat)=>vi i
def XD(id:Nat)(l:List Int):V:=.mp id (l.map vi)<|Dk<|I l
def Vj:List Int->List Int->List Int
 |a,[]=>a
 |a,x::l=>Vj (if 0<=x/\x∉a then a++[x]else a) l
def A8{x}:∀ {l:List Int},Ty (vi x) (l.map vi)=J (l.findIdx? (· ==x))
 | []=>rfl
 |y::l=>by
  simp only[Zfi,Ty,KH,Zig];by_cases h:x=y;subst h;simp;have a:(x==y)=xw:=ZeH;have d:(y==x)=xw:=by simpa using Zgu h
  simp[a,d,A8]
def Fy{x}{l:List Int}:l.findIdx? (· ==x)=U↔x∉l:=by
 grind
theorem He{id l x z ok}:UB (.i .i64) (XD id l) (vi x) z ok=match l.findIdx? (· ==x)with
  |some i=>J (if ok then .am [vi i,.bool xk]else vi i)
  |none=>J (if ok then .am [z,.bool xw]else z):=by
 unfold UB XD;simp[Vf,A8];grind [List.findIdx?_eq_some_iff_getElem,Dk]
def Z4q{id l x}(hx:x∉l):T8 (.i .i64) (XD id l) (vi x) (vi<|I l)=J (XD id<|l++[x]):=by
 unfold T8 XD;simp[Vf,A8,Fy.2 hx];simp[Dk,Zh2]
@[simp]theorem Zck id l:YP (XD id l)=J (XD id l):=rfl
def Id{ns acc:List Int}{id:Nat}(q:I ns<=100000)(k:I acc<=1000000):Vr Sol.prog 99 [.fz,.mem [.own 151],.mem [.own 3]] [.sl<|ns.map vi,.agg [XD id acc],.agg [.sl<|acc.map vi]]
  (.am [.am [],.agg [XD id<|Vj acc ns],.agg [.sl<|(Vj acc ns).map vi]]):=by
 refine JN Sol.func99 follows Z2 c99 Z2 ?_;simp[Mu];refine TU (λt=>∃i l,i<=I ns/\Vj l (ns.drop i)=Vj acc ns/\I l<=1000000+i/\t=[.v<|.sl<|ns.map vi,.m [XD id l],.m [.sl<|l.map vi],.v<|vi (i:Nat),.v<|vi<|I ns,.no,.no,.v<|.sl<|ns.map vi]) (λt=>match get t 3 with|.v (.int _ n)=>I ns-n.toNat|_=>0) ?_ ?_;exact⟨0,acc,Z1,Z1,Z0,Z1⟩;rintro t ⟨i,l,r,f,u,rfl⟩;by_cases h:i<I ns;have p:ns.drop i=ns[i]::ns.drop (i+1):=(ZfG h);rw[p,Vj]at f;simp[h,He];by_cases d:ns[i]∈l;have a:∃j,l.findIdx? (· ==ns[i])=J j:=by
  cases o:l.findIdx? (· ==ns[i])with
  |none=>grind
  |some j=>simp
 obtain⟨j,o⟩:=a;simp[o,Wy,V.bi];simp(disch:=omega) only[Zy];grind;simp[Fy.2 d,Wy,V.bi];simp(disch:=omega) only[Zy];by_cases g:0<=ns[i];rw[if_pos g,Z4q d];rw[if_pos ⟨g,d⟩]at f;simp;refine⟨by grind [Y3],⟨i+1,Z0,l++[ns[i]],f,ZdP,rfl,Z1,Z1⟩,Z0⟩;grind;have:i=I ns:=Z0;simp_all[Vj]
@[simp]theorem Zap id l:(XD id l).cells=[XD id l]:=rfl
def Good(n:Nat)(l:List Int):Prop:=l.Nodup/\∀x∈l,0<=x/\x<n
def Bv:∀(n:Nat) {l:List Int},l.Nodup->(∀x∈l,0<=x/\x<n)->I l<=n
 |0,l,_,h=>by
  obtain _|⟨x,l⟩:=l;simp;have:=h x Z1;omega
 |n+1,l,a,h=>by
  by_cases j:(n:Int)∈l;have g:=Bv n (a.erase (n:Int)) λx d=>by
   have f:=(a.mem_erase_iff).1 d;have:=h x f.2;omega
  rw[List.length_erase_of_mem j]at g;omega;have:=Bv n a λx d=>by
   have g:=h x d;have:x≠n:=ZdN;omega
  omega
def Good.len{n l}(h:Good n l):=Bv n h.1 h.2
def KS{n}:∀ {f a:List Int},Good n a->(∀x∈f,x<n)->Good n (Vj a f)
 | [],a,h,_=>h
 |x::f,a,h,j=>by
  simp[Vj];refine KS ?_ λy d=>ZdO;split;rename_i g;refine⟨?_,λy d=> ?_⟩;rw[ZhQ];exact⟨h.1,Z1,ZdN⟩;obtain d|d:=Zfg.1 d;exact h.2 y d;simp at d;subst d;exact⟨g.1,ZdO⟩;exact h
def Qi(g:Gr):Nat->Nat->List Int->List Int
 |0,_,l=>l
 |f+1,i,l=>match l[i]? with
  |some x=>Qi g f (i+1)<|Vj l ((g.nodes[x.toNat]?).getD default).M
  |none=>l
def order(g:Gr):List Int:=Qi g (I g.nodes+1) 0<|Vj [] g.E
def GQ{n p}(h:T4 n p=xk): -1<=p/\p<n:=by grind [T4]
def Nt{g}(a:right g=xk):∀x∈g.E,-1<=x/\x<I g.nodes:=by
 simp[right,ZeY]at a;exactλx d=>GQ ZdO
def Ns{g}(a:right g=xk):∀n∈g.nodes,∀x∈n.M,-1<=x/\x<I g.nodes:=by
 simp[right,R4]at a;exactλn d x f=>GQ ZdN
def Z5f{g:Gr}(C:g.sm)(B:right g=xk)(id:Nat)(ks vs:List V):
  Yv Sol.prog L6.body [.v<|Yz g,.v<|.mp id ks vs] (λs=>get s 4=.v (.sl<|(order g).map vi)/\get s 3=.m [XD id<|order g]) (λ_ _=>False) (λs=>get s 4=.v (.sl<|(order g).map vi)/\get s 3=.m [XD id<|order g]):=by
 obtain⟨D,q,r⟩:=C;simp[L6];refine U9 (Id (ns:=g.E) (acc:=[]) (id:=id) q Z1) ?_;simp;have d:=Nt B;have j:Good (I g.nodes)<|Vj [] g.E:=KS ⟨Z1,Z1⟩ λx p=>(d x p).2;refine TU (λt=>∃i l,i<=I l/\Good (I g.nodes) l/\Qi g (I g.nodes+1-i) i l=order g/\t=[.v<|Yz g,.no,.m [.sl<|g.nodes.map Yk,.sl<|g.E.map vi],.m [XD id l],.v<|.sl [],.m [.sl<|l.map vi],.no,.v<|vi (i:Nat)]) (λt=>match get t 7 with|.v (.int _ n)=>I g.nodes-n.toNat|_=>0) ?_ ?_;exact⟨0,_,Z1,j,rfl,Z1⟩;rintro t ⟨i,l,K,u,A,rfl⟩;have z:=u.len;by_cases h:i<I l;obtain⟨G,M⟩:=u.2 _<|Zf7 h;obtain⟨k,w⟩:=Zf0 G;have o:k<I g.nodes:=Z0;have p:l[i]?=J (k:Int):=by rw[ZeL h,w]
 simp[h,w,o];refine U9 (Id (r _<|Zf7 o).1 Z0) ?_;simp;simp(disch:=omega) only[Zy];have a:Good (I g.nodes)<|Vj l g.nodes[k].M:=KS u λx p=>(Ns B _ (Zf7 o) x p).2;refine⟨⟨i+1,_,?_,a,?_,rfl,rfl,Z1⟩,Z0⟩;have:∀ {ns acc:List Int},I acc<=I (Vj acc ns):=by
  intro ns;induction ns with
  |nil=>simp_all[Vj]
  |cons y ns L=>
   intro acc;simp only[Vj];grind
 grind;rw[show I g.nodes+1-i=(I g.nodes+1- (i+1))+1 by omega,Qi,p]at A;simp_all;have:i=I l:=Z0;subst this;have F:l=order g:=by
  rw[<-A];cases H:I g.nodes+1-(I l) with
  |zero=>omega
  |succ f=>simp[Qi]
 simp_all
def Z5e{g:Gr}(hg:g.sm)(hr:right g=xk)(id:Nat)(ks vs:List V):Vr Sol.prog 95 [.fz,.own 151] [Yz g,.mp id ks vs]<|.am [.sl<|(order g).map vi,XD id<|order g]:=by
 refine⟨Z2,λB w h us a9 hA=> ?_⟩;obtain⟨b6,a1,a2⟩:=hA;obtain⟨d8,T,b0⟩:=a2 1 (.own 151) (.mp id ks vs) rfl rfl;simp only[Wp,ZeK]at T;subst T;obtain⟨x1,W,R⟩:=b0;simp only[eval,ZeK]at W;subst W;obtain⟨_,_,hl,_⟩|⟨d0,d6,e0,b,es,Y,he,hv,a5,hB,hid,hh,h1,h2,h3,h4⟩:=R;cases hl;cases he;have a0:LZ Sol.prog B w h [.fz,.own 151] [Yz g,.mp (b+1) ks vs] us:=by
  refine⟨rfl,a1,λi k x f j=> ?_⟩
  match i,f,j with
  |0,f,j=>grind
  |1,f,j=>
   simp at f j;subst f j;exact⟨_,rfl,_,rfl,.inr ⟨b+1,ks,vs,b,es,Y,rfl,hv,a5,hB,.inr rfl,hh,h1,h2,h3,h4⟩⟩
  |i+2,f,j=>simp at f
 refine zN (cf:=L6) (fin:=[(3,.mem [.own 151])]) (xs:=[Yz g,.mp (b+1) ks vs]) (Rt:=λs=>get s 4=.v (.sl<|(order g).map vi)/\get s 3=.m [XD (b+1)<|order g]) Sol.func95 follows c95 (Z5f hg hr (b+1) ks vs) a9 a0 λc s S a w' h' hP b8 O z M r p hK o l=> ?_;rw[<-hP]at l z⊢;simp only[R5,ZeO,ZeY]at l;obtain⟨A,a7⟩:=l;obtain⟨d,a8⟩:=z5 r p a7;have Q:c.ix 3=3:=O 3 Ze4;have hr:Wm s (Lo c.P c.ix Try.f95)=J (.sl<|(order g).map vi):=by
  rw[<-z];simp[L6,M.1]
 obtain⟨v,b1,b4⟩:=Lp (D:=(h'.drop<|Uh S [(3,.mem [.own 151])]).F) r p (λb hb=>.inl hb) (λq hq=>by
  have h1:=A q hq;have h2:=ZeY.1 (Z2:Nl Try.f95 [(3,.mem [.own 151])]=xk) q hq;refine⟨h1,λi b hb=>.inr ⟨Ri q,i+1,?_,Z0,hb⟩⟩;simp_all[Uh,Ziq,Ri]) hr
 obtain⟨u,hu,b3,d9,T3,e1,e2,e3,e4,e5⟩:=d.aa 3 (by grind [Yy,Ys]) ZeF;obtain⟨X,hX,C⟩:=e5 0 (.own 151,.m (c.ix 3) 0) rfl;have a3:X=XD (b+1) (order g):=by
  simp only[eval,Q,M.2]at hX;simpa using hX.symm
 subst a3;obtain⟨_,_,hl,_⟩|⟨d5,d7,e6,H,Z,L,N,c0,n,b7,b5,a6,q1,q2,q3,q4⟩:=C;cases hl;simp only[XD,V.mp.injEq]at N;obtain⟨rfl,rfl,rfl⟩:=N;have a4:H=b:=Z0;subst a4;obtain⟨r1,r2,r3⟩:=d.ok.aq 3 1 H n
 refine⟨v,b1,v,.sl<|(order g).map vi,[.bool xw,XD id<|order g],{F:=(h'.drop<|Uh S [(3,.mem [.own 151])]).F,bl:=λt i=>if t=1/\i=1 then J H else U,K:=h'.K},rfl,o.below,o.same,
  ⟨d.ok.base,d.ok.bo,d.ok.cq,d.ok.fa,λt i x j=> ?_,λt i t' i' x j c1=> ?_,d.ok.co,λt i x j=> ?_,d.ok.fb⟩,hK,b4,⟨rfl,λi k y f b9 G=> ?_⟩,rfl⟩
 grind;grind;simp only at j;split at j;simp only[ZeK]at j;subst j;exact d.ok.cj 3 1 H n;cases j
 match i,f,G with
 |0,f,G=>grind
 |1,f,G=>
  simp at f G;subst f G;exact⟨_,rfl,_,rfl,.inr ⟨id,_,_,H,Z,L,rfl,hv,Z1,hB,hid,a6,q1,q2,q3,q4⟩⟩
 |i+2,f,G=>simp at f
end Vm
namespace Vm
open Go Go.Proofs
def zd(l:List Int)(p:Int):Int:=match l.findIdx? (· ==p)with
 |some i=>(i:Nat)
 |none=>0
def VW(l a:List Int):List Int:=a.map λp=>if 0<=p then zd l p else p
def QP(g:Gr)(l:List Int)(x:Int):Nd:=let n:=(g.nodes[x.toNat]?).getD default;⟨VW l n.M,n.data⟩
def V1(g:Gr):Gr:=⟨(order g).map<|QP g<|order g,VW (order g) g.E⟩
def Z3K{id l x}:UB (.i .i64) (XD id l) (vi x) (vi 0) xw=J (vi<|zd l x):=by
 grind [He,zd]
def Z1J{l:List Int}:∀c∈flat (l.map vi),c.bi=xk:=by
 intro c d;simp[flat,Zf8]at d;obtain⟨y,⟨a,_,rfl⟩,d⟩:=d;have:c=vi a:=by simpa[V.cells]using d
 subst this;rfl
def I2{a l:List Int}{id:Nat}(o:I a<=100000):VC Sol.prog 96 xk [.sl<|a.map vi,XD id l]<|.sl<|(VW l a).map vi:=by
 refine Z8P (t:=4) (ty:=3) Sol.func96 follows Z2 rfl c96 rfl Z1J ?_;simp[Mt];refine TU (λt=>∃i:Nat,i<=I a/\t=[.v<|.sl<|a.map vi,.v<|XD id l,.v<|.sl [],.v<|.sl<|(VW l<|a.take i).map vi,.v<|vi i,.v<|vi<|I a,.no,.no,.v<|.sl<|a.map vi]) (λt=>match get t 4 with|.v (.int _ n)=>I a-n.toNat|_=>0) ?_ ?_;exact⟨0,Z1,by simp[VW]⟩;rintro t ⟨i,k,rfl⟩;by_cases h:i<I a;have j:a[i]?=J a[i]:=ZeL h;have d:VW l (a.take<|i+1)=VW l (a.take i)++[if 0<=a[i]then zd l a[i]else a[i]]:=by
  unfold VW;rw[ZfJ,j,ZfV];rfl
 have g:I (VW l<|a.take i)<=100000:=by simp[VW];omega
 simp[h];simp(disch:=omega) only[Zy];by_cases f:0<=a[i];simp[f,Z3K];refine⟨Zeh,⟨i+1,Z0,by rw[d];simp[f],Z1⟩,Z0⟩;simp[f];refine⟨Zeh,⟨i+1,Z0,by rw[d];simp[f],Z1⟩,Z0⟩;have:i=I a:=Z0;subst this;simp
def Iy{g}(d:right g=xk):∀ {f i} {l:List Int},Good (I g.nodes) l->Good (I g.nodes) (Qi g f i l)
 |0,i,l,h=>h
 |f+1,i,l,h=>by
  simp[Qi];split;rename_i x k;refine Iy d (KS h λy j=> ?_);let⟨n,o⟩:=h.2 x ZdN;have a:x.toNat<I g.nodes:=Z0;rw[ZeL a]at j;exact(Ns d _ Z1 y j).2;exact h
def yV{g}(a:right g=xk):Good (I g.nodes)<|order g:=
 Iy a (KS ⟨Z1,Z1⟩ λx d=>(Nt a x d).2)
def Z0U{g:Gr}(p:g.sm)(r:right g=xk)(id:Nat)(ks vs:List V):Vr Sol.prog 82 [.fz,.own 151] [Yz g,.mp id ks vs]<|.am [Yz<|V1 g,XD id<|order g]:=by
 refine JN Sol.func82 follows Z2 c82 Z2 ?_;simp[Mm];refine U9 (Z5e p r id ks vs) ?_;simp;obtain⟨u,j,o⟩:=p;have a:=yV r;have f:=a.len;generalize A:order g=l at a f;refine TU (λt=>∃i:Nat,i<=I l/\t=[.v<|Yz g,.v<|XD id l,.m [.sl<|g.nodes.map Yk,.sl<|g.E.map vi],.m [.sl [],.sl []],.m [.sl<|((l.take i).map<|QP g l).map Yk,.sl []],.v<|vi i,.v<|vi<|I l,.no,.no,.v<|.sl<|l.map vi]) (λt=>match get t 5 with|.v (.int _ n)=>I l-n.toNat|_=>0) ?_ ?_;exact⟨0,Z1,Z1⟩;rintro t ⟨i,z,rfl⟩;by_cases h:i<I l;have B:l[i]?=J l[i]:=ZeL h;obtain⟨y,D⟩:=a.2 _<|Zf7 h;obtain⟨k,q⟩:=Zf0 y;have d:k<I g.nodes:=Z0;obtain⟨x,C⟩:=o _<|Zf7 d;simp[h,q,d];refine Zz (I2 x) Z1 ?_;simp;simp(disch:=omega) only[Zy];have w:V.agg [V.sl<|List.map vi<|VW l g.nodes[k].M,V.sl<|List.map vu g.nodes[k].data]=Yk (QP g l l[i]):=by
  simp[QP,q,d,Yk]
 refine⟨by grind [Y3],by grind [Y3],⟨i+1,Z0,?_,Z1⟩,Z0⟩;simp_all[ZfJ,Zfa];have:i=I l:=Z0;simp_all;refine Zz (I2 j) Z1 ?_;simp_all[V1,Yz]
def Z0T{g}(h:g.sm)(o:right g=xk):(V1 g).sm:=by
 let⟨j,k,l⟩:=h;have a:=yV o;have d:=a.len;refine⟨by grind [V1],by simp_all[V1,VW],λn f=> ?_⟩;simp[V1]at f;obtain⟨x,p,rfl⟩:=f;let⟨q,r⟩:=a.2 x p;simp_all[Zf7,QP,VW]
def UD:Gr:=⟨[],[]⟩
def Vb(g:Gr):V:=if right g=xk then .am [Yz<|V1 g,vi 0]else .am [Yz UD,vi 1]
def PB{g:Gr}(a:g.sm):VC Sol.prog 59 xw [Yz g]<|Vb g:=by
 refine ZS Sol.func59 follows Z2 c59 rfl ?_;simp[M8];refine Zz (Nu a) Z1 ?_;cases d:right g;simp[Vb,d,UD,Yz];simp;refine U9 (Z0U a d 0 [] []) ?_;simp_all[Vb,Yz]
end Vm
namespace Vm
open Go Go.Proofs
end Vm
end
section
namespace Vm
open Go Go.Proofs
def g0:Gr:=⟨[⟨[],[]⟩,⟨[],[4]⟩,⟨[1],[]⟩,⟨[],[]⟩],[2,0]⟩
def g1:Gr:=⟨[],[0]⟩
def g2:Gr:=⟨[],[-1,-1]⟩
end Vm
end
section

end
section
namespace Vm
open Go Go.Proofs
def outs(g:Gr)(x:Int):List Int:=((g.nodes[x.toNat]?).getD default).M
end Vm
end
section
namespace Vm
open Go
open Go.Proofs
def IZ:Fn:=⟨10,[0,1,2,8,3,12,11,13,5,10],pQ [pR [(1,pS 0 2),pV 2<|pI 0],pQ [pC [pK 10 60 [.mm 1 0 2]] [pV 3<|.un .not<|.s 10]]<|pw (.s 3)<|px [pV 2<|pI 0],pR [pV 4<|pI 0],pQ [pR [pV 5<|pI 0,pV 6<|.len<|.m 1 0,pV 9<|.m 1 0]]<|po [0,1,2,3,4,5,6,9] 7 (pl (.s 5)<|.s 6) (pQ [pR [(8,pM (.bd (.ba (.s 9) (.s 5) 2) 0 2) 2)]]<|pR [pV 4<|pa (.s 4)<|pa (pa (pI 1)<|.len<|.m 8 0)<|.len<|.m 8 1])<|pc 5]<|px [pV 2<|.s 4],[(2,.v)]⟩
def c39:ZM Sol.prog fresh sig [.fz] [] Try.f39=J IZ:=Z2
end Vm
end
section
namespace Vm
open Go Go.Proofs
def T9(n:Nd):Nat:=1+I n.M+I n.data
def Wt(l:List Nd):Nat:=(l.map T9).sum
def words(g:Gr):Nat:=if right g=xk then Wt g.nodes else 0
def Z9h{l:List Nd}{i:Nat}{x:Nd}(h:l[i]?=J x):Wt (l.take<|i+1)=Wt (l.take i)+T9 x:=by
 unfold Wt;rw[ZfJ,h,ZfV,Zi7];simp
def Z9f{l:List Nd}(h:∀n∈l,I n.M<=100000/\I n.data<=100000)(i:Nat):Wt (l.take i)<=I l*200001:=by
 have:∀ {l:List Nd},(∀n∈l,I n.M<=100000/\I n.data<=100000)->Wt l<=I l*200001:=by
  intro l;induction l with
  |nil=>intro _;simp[Wt]
  |cons x l f=>
   intro h;have g:=f λn a=>h n (by simp[a]);have j:=h x Z1;have k:T9 x<=200001:=by unfold T9;omega
   have d:Wt (x::l)=T9 x+Wt l:=by simp[Wt]
   rw[d,Zg0,Zg3];omega
 refine Zff (this λn a=>h n<|ZfN a)<|Zfs _ ?_;rw[ZfT];omega
def Z08{g:Gr}(l:g.sm):VC Sol.prog 39 xw [Yz g]<|vi<|words g:=by
 refine ZS Sol.func39 follows Z2 c39 rfl ?_;simp[IZ];refine Zz (Nu l) Z1 ?_;cases p:right g;simp[words,p];obtain⟨d,r,a⟩:=l;simp;refine TU (λt=>∃i:Nat,i<=I g.nodes/\t=[.v<|Yz g,.m [.sl<|g.nodes.map Yk,.sl<|g.E.map vi],.v<|vi 0,.v<|.bool xw,.v<|vi (Wt (g.nodes.take i):Nat),.v<|vi i,.v<|vi<|I g.nodes,.no,.no,.v<|.sl<|g.nodes.map Yk]) (λt=>match get t 5 with|.v (.int _ n)=>I g.nodes-n.toNat|_=>0) ?_ ?_;exact⟨0,Z1,by simp[Wt]⟩;rintro t ⟨i,B,rfl⟩;by_cases h:i<I g.nodes;have y:g.nodes[i]?=J g.nodes[i]:=ZeL h;obtain⟨z,A⟩:=a _<|Zf7 h;have q:=Z9h y;have u:=Z9f a<|i+1;have o:I g.nodes*200001<=100000*200001:=Zfs _ d;simp[h];generalize g.nodes[i]=x at*;have w:=Zy ((i:Int)+1) Z0 Z0;have f:=Zy (1+(I x.M:Int)) Z0 Z0;have j:=Zy (1+(I x.M:Int)+I x.data) Z0 Z0;unfold T9 at q;have k:=Zy ((Wt (g.nodes.take i):Int)+(1+(I x.M:Int)+I x.data)) Z0 Z0;simp[w,f,j,k];exact⟨⟨i+1,Z0,by rw[q];omega,Z1⟩,Z0⟩;have:i=I g.nodes:=Z0;subst this;simp[words,p]
@[simp]theorem Zdl{α β:Type}{f:α->β}{l:List α}:(l.map f).take (I l)=l.map f:=Zg9 (by simp)
end Vm
namespace Vm
open Go Go.Proofs
end Vm
end
section

end
section
namespace Vm
open Go Go.Proofs
structure Fo where
 ob:Ob
 ad:Int
 sl:List Int
 deriving Inhabited
def Xe(f:Fo):V:=.agg [vi f.ob.aa,vi f.ob.size,vi f.ob.M,.bool f.ob.gone,vu f.ob.target,vu f.ad,.sl<|f.sl.map vu]
@[simp]theorem ZbH(f:Fo):(Xe f).cells=[vi f.ob.aa,vi f.ob.size,vi f.ob.M,.bool f.ob.gone,vu f.ob.target,vu f.ad,.sl<|f.sl.map vu]:=rfl
@[simp]theorem Zdc(f:Fo):VG (Xe f) 7=J (Xe f):=rfl
@[simp]theorem ZbA(f:Fo):Ux (Xe f) 0 7=J (Xe f):=rfl
@[simp]theorem ZaO(f:Fo):Y0 (Xe f) 0=J (vi f.ob.aa):=rfl
@[simp]theorem ZaP(f:Fo):Y0 (Xe f) 1=J (vi f.ob.size):=rfl
@[simp]theorem ZaQ(f:Fo):Y0 (Xe f) 2=J (vi f.ob.M):=rfl
@[simp]theorem ZaR(f:Fo):Y0 (Xe f) 3=J (.bool f.ob.gone):=rfl
@[simp]theorem ZaS(f:Fo):Y0 (Xe f) 4=J (vu f.ob.target):=rfl
@[simp]theorem ZaT(f:Fo):Y0 (Xe f) 5=J (vu f.ad):=rfl
@[simp]theorem ZaU(f:Fo):Y0 (Xe f) 6=J (.sl<|f.sl.map vu):=rfl
@[simp]theorem Zd0(l:List Fo):Xr 7 (l.map Xe)=xk:=JI λ_=>rfl
structure Vw where
 ns:List Fo
 nm:List<|Int×Int
 tm:List<|Int×Int
 deriving Inhabited
def Vw.put(s:Vw)(f:Fo):Vw:=if f.ob.gone then {s with tm:=XU s.tm f.ad f.ob.target}else {s with ns:=s.ns++[f],nm:=XU s.nm f.ad (I s.ns)}
def Vw.dw(s:Vw)(w:Int):Int:=if w=0 then-1 else(Yb s.nm<|(Yb s.tm (adr w).1).getD (adr w).1).getD 0
def UC(s:Vw)(f:Fo):Nd:=⟨(f.sl.take f.ob.M.toNat).map s.dw,f.sl.drop f.ob.M.toNat⟩
def Vw.gr(s:Vw)(a:Z8):Gr:=⟨s.ns.map<|UC s,a.map s.dw⟩
def E8(s:Vw){ws:Z8}(B:I ws<=1000000)(x:∀w∈ws,ZC w):
  Vr Sol.prog 57 [.fz,.mem [.fz],.mem [.fz]] [.sl<|ws.map vu,.agg [Yh vu s.tm],.agg [Yh vi s.nm]] (.am [.sl<|(ws.map s.dw).map vi,.agg [Yh vu s.tm],.agg [Yh vi s.nm]]):=by
 refine JN Sol.func57 follows Z2 cTo Z2 ?_;simp[Mv];refine VI 5 (I ws) (λi=>[(4,.v<|.sl<|((ws.take i).map s.dw).map vi),(5,.v<|vi i)]) (λ_=>True) Z1 Z1 trivial ?_;intro i A _;by_cases h:i<I ws;have y:ws[i]?=J ws[i]:=ZeL h;have r:=x _<|Zf7 h;have o:=Zy ((i:Int)+1) Z0 Z0;have q:List.take (i+1) (List.map (vi∘s.dw) ws)=List.take i (List.map (vi∘s.dw) ws)++[vi<|s.dw ws[i]]:=by
  rw[ZfJ,Zfa,y];rfl
 have a:min i (I ws)+1<=Y3:=by unfold Y3;omega
 simp[h,o,q,a];split;simp_all[Vw.dw];rename_i p;refine Zz (JZ r) Z1 ?_;have j:=Q9 (f:=vu) (l:=s.tm) (k:=(adr ws[i]).1) (z:=.int .u64 0) (ok:=xk);cases n:Yb s.tm (adr ws[i]).1 with
 |none=>
  rw[n]at j;have d:=Q9 (f:=vi) (l:=s.nm) (k:=(adr ws[i]).1) (z:=.int .i64 0) (ok:=xw);cases g:Yb s.nm (adr ws[i]).1 with
  |none=>rw[g]at d;simp[j,d,Vw.dw,p,n,g,o,a]
  |some t=>rw[g]at d;simp[j,d,Vw.dw,p,n,g,o,a]
 |some u=>
  rw[n]at j;have d:=Q9 (f:=vi) (l:=s.nm) (k:=u) (z:=.int .i64 0) (ok:=xw);cases g:Yb s.nm u with
  |none=>rw[g]at d;simp[j,d,Vw.dw,p,n,g,o,a]
  |some t=>rw[g]at d;simp[j,d,Vw.dw,p,n,g,o,a]
 have:i=I ws:=Z0;simp_all
def Z6r{s:St}{st:Vw}{f:Fo}{N R:St->Prop}{X:Nat->St->Prop}(o:get s 6=.v (.sl<|st.ns.map Xe))(p:get s 7=.m [Yh vi st.nm])(q:get s 8=.m [Yh vu st.tm])(h:get s 12=.v (.am [Xe f,.bool xk]))(g:get s 10=.v (.bool xk))(u:I st.ns<=4000000)
  (r:∀a,get a 6=.v (.sl<|(st.put f).ns.map Xe)->get a 7=.m [Yh vi (st.put f).nm]->get a 8=.m [Yh vu (st.put f).tm]->get a 1=get s 1->get a 2=get s 2->get a 3=get s 3->N a):Yv Sol.prog rD s N X R:=by
 have j:=KN (f:=vu) (l:=st.tm) (k:=f.ad) (x:=f.ob.target);have n:=KN (f:=vi) (l:=st.nm) (k:=f.ad) (x:=(I st.ns:Int));have d:I st.ns+1<=Y3:=by unfold Y3;omega
 cases t:f.ob.gone;simp_all[rD,YW,Vw.put,Xe];simp_all[rD,YW,Vw.put]
def Z6q{s:St}{N R:St->Prop}{X:Nat->St->Prop}(a:get s 10=.v (.bool xw))(d:X 0 s):Yv Sol.prog rD s N X R:=by
 simp[rD,a,d]
structure Vw.sm (st:Vw) (roots:List Int):Prop where
 n:I st.ns<=100000
 f:∀f∈st.ns,0<=f.ob.M/\f.ob.M<=I f.sl/\I f.sl<=100000/\∀w∈f.sl,ZC w
 r:I roots<=100000/\∀w∈roots,ZC w
def Vw.sm.gr{st:Vw}{a:Z8}(h:st.sm a):(st.gr a).sm:=by
 refine⟨by simpa[Vw.gr]using h.n,by simpa[Vw.gr]using h.r.1,λn d=> ?_⟩;simp only[Vw.gr,Zf8]at d;obtain⟨f,g,rfl⟩:=d;obtain⟨_,_,j,_⟩:=h.f f g;grind [UC,List.length_map,List.length_take,List.length_drop]
def Z6p{s:St}{st:Vw}{roots:Z8}{b c t y sc:V}{K L M O:V}{N R:St->Prop}{X:Nat->St->Prop}(k:st.sm roots)(x:get s 1=.m [b,c,t,y,sc,K,L,M,O,.sl<|roots.map vu])(o:get s 6=.v (.sl<|st.ns.map Xe))(z:get s 7=.m [Yh vi st.nm])(A:get s 8=.m [Yh vu st.tm])
  (a:∀D,Wm D [(2,.ag 2),(3,.v)]=J (Vb<|st.gr roots)->R D):Yv Sol.prog rC s N X R:=by
 simp[rC,o,YW];refine VI 16 (I st.ns) (λi=>[(15,.m [.sl<|((st.ns.take i).map<|UC st).map Yk,.sl []]),(16,.v<|vi i)]) (λ_=>True) (by simp[YW]) (by simp[YW]) trivial ?_;intro i Q _;by_cases h:i<I st.ns;have G:st.ns[i]?=J st.ns[i]:=ZeL h;obtain⟨H,T,p2,p3⟩:=k.f _<|Zf7 h;have S:=k.n;obtain⟨P,B⟩:=Zf0 H;have d:P<=st.ns[i].sl.length:=Z0;have u:=Zy ((i:Int)+1) Z0 Z0;have q:List.take (i+1) (List.map (Yk∘UC st) st.ns)=List.take i (List.map (Yk∘UC st) st.ns)++[Yk<|UC st st.ns[i]]:=by
  rw[ZfJ,Zfa,G];rfl
 have l:=E8 st (ws:=st.ns[i].sl.take P) ZdP λw u=>p3 w<|ZfN u;have j:min i (I st.ns)+1<=Y3:=by unfold Y3;omega
 simp[YW,h,x,o,z,A,B,Rm,d];rw[List.map_take]at l;refine U9 l ?_;simp[YW,Qx,d,u,q,j,B,UC,Yk];have:i=I st.ns:=Z0;subst this;simp[YW,x,o,z,A];refine U9 (E8 st (ws:=roots) (by have:=k.r.1;omega) k.r.2) ?_;simp;have C:=PB k.gr;simp only[Vw.gr,Yz,Zhh]at C;refine Zz C Z1 ?_;have F:Vb (st.gr roots)=Vb {nodes:=List.map (UC st) st.ns,E:=List.map st.dw roots}:=rfl;rw[F]at a;generalize ({nodes:=List.map (UC st) st.ns,E:=List.map st.dw roots}:Gr)=g at*;unfold Vb at a⊢;split;rename_i p;rw[if_pos p]at a;simp;refine a _ ?_;simp[Wm,U3,Tf,Yz];rename_i p;rw[if_neg p]at a;simp[UD,Yz];refine a _ ?_;simp[Wm,U3,Tf,UD,Yz]
end Vm
end
section
namespace Vm
open Go Go.Proofs Go.RowKit Go.Conc
def EB{t}(h:t.size=71):t=#[t.getD 0 undef,t.getD 1 undef,t.getD 2 undef,t.getD 3 undef,t.getD 4 undef,t.getD 5 undef,t.getD 6 undef,t.getD 7 undef,t.getD 8 undef,t.getD 9 undef,t.getD 10 undef,t.getD 11 undef,t.getD 12 undef,t.getD 13 undef,t.getD 14 undef,t.getD 15 undef,t.getD 16 undef,t.getD 17 undef,t.getD 18 undef,t.getD 19 undef,t.getD 20 undef,t.getD 21 undef,t.getD 22 undef,t.getD 23 undef,t.getD 24 undef,t.getD 25 undef,t.getD 26 undef,t.getD 27 undef,t.getD 28 undef,t.getD 29 undef,t.getD 30 undef,t.getD 31 undef,t.getD 32 undef,t.getD 33 undef,t.getD 34 undef,t.getD 35 undef,t.getD 36 undef,t.getD 37 undef,t.getD 38 undef,t.getD 39 undef,t.getD 40 undef,t.getD 41 undef,t.getD 42 undef,t.getD 43 undef,t.getD 44 undef,t.getD 45 undef,t.getD 46 undef,t.getD 47 undef,t.getD 48 undef,t.getD 49 undef,t.getD 50 undef,t.getD 51 undef,t.getD 52 undef,t.getD 53 undef,t.getD 54 undef,t.getD 55 undef,t.getD 56 undef,t.getD 57 undef,t.getD 58 undef,t.getD 59 undef,t.getD 60 undef,t.getD 61 undef,t.getD 62 undef,t.getD 63 undef,t.getD 64 undef,t.getD 65 undef,t.getD 66 undef,t.getD 67 undef,t.getD 68 undef,t.getD 69 undef,t.getD 70 undef]:=by
 refine Zhc Z0 λi f d=> ?_;have a:i<71:=Ze3;have e:t[i]=t.getD i undef:=by simp[Array.getD,f]
 rw[e]
 revert d
 match i,a with
 |0,_=>simp
 |1,_=>simp
 |2,_=>simp
 |3,_=>simp
 |4,_=>simp
 |5,_=>simp
 |6,_=>simp
 |7,_=>simp
 |8,_=>simp
 |9,_=>simp
 |10,_=>simp
 |11,_=>simp
 |12,_=>simp
 |13,_=>simp
 |14,_=>simp
 |15,_=>simp
 |16,_=>simp
 |17,_=>simp
 |18,_=>simp
 |19,_=>simp
 |20,_=>simp
 |21,_=>simp
 |22,_=>simp
 |23,_=>simp
 |24,_=>simp
 |25,_=>simp
 |26,_=>simp
 |27,_=>simp
 |28,_=>simp
 |29,_=>simp
 |30,_=>simp
 |31,_=>simp
 |32,_=>simp
 |33,_=>simp
 |34,_=>simp
 |35,_=>simp
 |36,_=>simp
 |37,_=>simp
 |38,_=>simp
 |39,_=>simp
 |40,_=>simp
 |41,_=>simp
 |42,_=>simp
 |43,_=>simp
 |44,_=>simp
 |45,_=>simp
 |46,_=>simp
 |47,_=>simp
 |48,_=>simp
 |49,_=>simp
 |50,_=>simp
 |51,_=>simp
 |52,_=>simp
 |53,_=>simp
 |54,_=>simp
 |55,_=>simp
 |56,_=>simp
 |57,_=>simp
 |58,_=>simp
 |59,_=>simp
 |60,_=>simp
 |61,_=>simp
 |62,_=>simp
 |63,_=>simp
 |64,_=>simp
 |65,_=>simp
 |66,_=>simp
 |67,_=>simp
 |68,_=>simp
 |69,_=>simp
 |70,_=>simp
 |i+71,h=>omega
def Rn(v:Ze)(a n:Nat):Value:=match v with
 |.slice (J ⟨b,o,q⟩) _ c=>.slice (J<|if c=a then⟨b,o,q⟩else⟨b,o+a,q⟩) n<|c-a
 |v=>v
def Uy(h:Hp)(x:Z5)(p:Nat)(o:Ob):Value:=.agg #[.int .i64 o.aa,.int .i64 o.size,.int .i64 o.M,.bool o.gone,.int .u64 o.target,.int .u64 (Y2 (Zv h) ((p:Int)+1) o.aa).1,Rn (x p) (o.aa+1).toNat o.size.toNat]
def obP(h:Hp)(p:Nat):List Ob:=(UF h<|(p:Int)+1).1
def Ws(h:Hp)(x:Z5):Nat->Nat->List Value
 |0,_=>[]
 |n+1,p=>(obP h p).map (Uy h x p)++Ws h x n (p+1)
noncomputable def seC:Code:=match Try.f56.body with|some c=>c|none=>.skip
noncomputable def clOps:Array Oper:=L1<|Yq seC [1,1,1]
def DF(c:Nat)(b:Zg)(d:Z7)(fr:Zg)(cs:Z7)(w:Z3):Prop:=cs=d/\∃a,fr=b.at a [.inRegion clOps [1]]/\a.tmps[70]?=J (.chan<|J c)/\a.defers=[]
def Z6v{w G h x}(d:∀j,j<5->Rd w G (.sl<|(Zu h j).map vu) (x j)):Rd w G (ZE h)<|ZA h x:=by
 refine .agg _ _ rfl Z1 ?_;intro i y a
 match i,a with
 |0,a=>cases a;exact .int _ _
 |1,a=>cases a;exact .int _ _
 |2,a=>cases a;exact .int _ _
 |3,a=>cases a;exact .bool _
 |4,a=>cases a;exact .int _ _
 |5,a=>cases a;exact d 0 Z0
 |6,a=>cases a;exact d 1 Z0
 |7,a=>cases a;exact d 2 Z0
 |8,a=>cases a;exact d 3 Z0
 |9,a=>cases a;exact d 4 Z0
def PW{w:Z3}{G:Z4}{h:Hp}(u:h.ok){x:Z5}(o:∀b,G b->b<xz (xj w))(z:∀j,j<5->Rd w G (.sl<|(Zu h j).map vu) (x j))(p:Int):
  Calls Sol.prog 81 #[ZA h x,.int .i64 p] w λe f=>∃s,e=.returned (.tuple #[s,.int .i64 (UF h p).2])/\Below (xz<|xj w) w f/\Rd f (λb=>b<xz (xj f)) (.sl<|(UF h p).1.map ZO) s:=by
 refine Zhj ((Pu u (k:=p)).2 w G _ o rfl ?_) ?_;intro i y d
 match i,d with
 |0,d=>cases d;exact Z6v z
 |1,d=>cases d;exact .int _ _
 rintro e f ⟨v,rfl,q,A⟩;cases A with
 |am _ vs l n=>
  have t:=n 0 _ rfl;have g:=Sq<|n 1 _ rfl;simp only[Zg0,ZfU]at l;refine⟨vs.getD 0 undef,?_,q,t.mono λb a=> ?_⟩;congr 2;refine Zhc ZeI λi r B=> ?_;have:i=0\/i=1:=by simp at B;omega
  obtain rfl|rfl:=this;simp[Array.getD,r];simp[Array.getD,r]at g;simpa using g;obtain⟨_,a⟩|a:=a;exact ZeV (o b a) q.size;exact a.2
def u71 a b:(#[a,b]:Array Value)++Array.replicate (71- (#[a,b]:Array Value).size) undef=#[a,b,undef,undef,undef,undef,undef,undef,undef,undef,undef,undef,undef,undef,undef,undef,undef,undef,undef,undef,undef,undef,undef,undef,undef,undef,undef,undef,undef,undef,undef,undef,undef,undef,undef,undef,undef,undef,undef,undef,undef,undef,undef,undef,undef,undef,undef,undef,undef,undef,undef,undef,undef,undef,undef,undef,undef,undef,undef,undef,undef,undef,undef,undef,undef,undef,undef,undef,undef,undef,undef]:=Z2
structure SSt (w:World) (h:Hp) (x:Nat->Value) (b4:Nat) (W:World):Prop where
 cx:Below (xz<|xj w) w W
 c2:W.heap[xz<|xj w]?=J (.cells #[.int .u64 h.base,.int .i64 h.cap,.int .i64 h.to,.bool h.Y,.int .i64 h.Z,x 0,x 1,x 2,x 3,x 4] 30 (0,0))
 c4:W.heap[b4]?=J (.cells #[.int .u64 h.base,.int .i64 h.cap,.int .i64 h.to,.int .i64<|I h.H,.int .i64<|I h.ab,.int .i64<|I h.ah,.int .i64<|I h.ak] 65 (0,0))
def SSt.below{w W W' h x d}(s:SSt w h x d W)(a:Below (xz<|xj W) W W'):SSt w h x d W':=
 ⟨s.cx.trans<|a.mono s.cx.size,(a.block _<|Y9 s.c2).trans s.c2,(a.block _<|Y9 s.c4).trans s.c4⟩
def Lk{W G}{l:Z8}{y}(h:Rd W G (.sl<|l.map vu) y):∃a c,y=.slice a (I l) c:=by
 generalize f:l.map vu=L at h;have j:I L=I l:=by rw[<-f,Zfc]
 cases h with
 |nil a c d=>simp_all
 |sl _ b o cap k vs d g=>simp_all
def Z7t{P W T f}(p:P.underlying T=J (.slice f))(q:(Go.sizeOf f).run P W=.ok 1 W){b o len cap:Nat}{d a:Int}(g:0<=d)(h2:d<=a)(r:a<=cap):
  (Instr.slice T (.slice (J ⟨b,o,U⟩) len cap) (J<|.int .i64 d) (J<|.int .i64 a) U).run P W=.ok (Rn (.slice (J ⟨b,o,U⟩) len cap) d.toNat (a-d).toNat) W:=by
 obtain⟨l,rfl⟩:=Zf0 g;obtain⟨k,rfl⟩:=Zf0 (Z0:0<=a);have h:l<=k:=Z0;have j:k<=cap:=Z0;have n:(k- (l:Int)).toNat=k-l:=Z0;simp[Instr.slice,Instr.sliceBounds,Instr.sliceBound,asIntOf,Zfv p,q,h,j,n,Rn,Addr.add];grind
def Z6C{W G}{l:Z8}{y}(h:Rd W G (.sl<|l.map vu) y)(f:0<I l){a n k}(e:y=.slice a n k):∃b o,a=J ⟨b,o,U⟩/\I l<=k/\k<=maxLen:=by
 generalize j:l.map vu=L at h;cases h with
 |nil a c d=>simp_all
 |sl _ b o cap p vs d g=>grind
def Z6z{W G}{l:Zi}{y}(h:Rd W G (.sl<|l.map ZO) y):∃a c,y=.slice a (I l) c:=by
 generalize f:l.map ZO=L at h;have j:I L=I l:=by rw[<-f,Zfc]
 cases h with
 |nil a c d=>simp_all
 |sl _ b o cap k vs d g=>simp_all
def qP:Try.f56.body=J seC:=Z2
def Z3W{Q c Post es}{fn:Func}{code d a}{b:Zg}{w cs}(f:fn.body=J code)(h2:fn.body=J d)(h:LS Q c Post es (b.at a [.code code]) cs w):LS Q c Post es (b.at a [.code d]) cs w:=by
 simp_all
def Z7H(b:Zg)(b7:Z7)(w:Z3)(h:Hp)(hh:h.ok)(x:Z5)(c:Nat)(G:Z4)(hG:∀b,G b->b<xz (xj w))(hr:∀j,j<5->Rd w G (.sl<|(Zu h j).map vu) (x j))
  (d7:∀p,p<4->I (obP h p)<=1000000/\∀o∈obP h p,0<=o.aa/\0<=o.size/\o.aa+1+o.size<=I (Zu h p)):
  LS Sol.prog c (DF c b b7) ((Ws h x 4 0).map .send) (b.at {tmps:=#[ZA h x,.chan<|J c]++Array.replicate (71- (#[ZA h x,.chan<|J c]:Array Value).size) undef,defers:=[]} [.code seC]) b7 w:=by
 obtain⟨Q,k0,e0⟩:=Lk<|hr 0 Z0;obtain⟨R,k1,e1⟩:=Lk<|hr 1 Z0;obtain⟨S,k2,e2⟩:=Lk<|hr 2 Z0;obtain⟨T,k3,e3⟩:=Lk<|hr 3 Z0;have A:=ZeP<|And.intro e0<|And.intro e1<|And.intro e2 e3;have HL:∀W,Below (xz<|xj w) w W->Calls Sol.prog 27 #[ZA h x] W λe w'=>e=.returned (Vi<|Zv h)/\Below (xz<|xj W) W w':=λW N=>
  Tn (G:=G) (λb P=>ZeV (hG b P) N.size) λj hj=>(hr j hj).keep (λb P=>N.block b<|hG b P) λ_ q=>q
 have HO:∀W,Below (xz<|xj w) w W->∀p,Calls Sol.prog 81 #[ZA h x,.int .i64 p] W λe w'=>∃s,e=.returned (.tuple #[s,.int .i64 (UF h p).2])/\Below (xz<|xj W) W w'/\Rd w' (λb=>b<xz (xj w')) (.sl<|(UF h p).1.map ZO) s:=λW N p=>
  PW hh (G:=G) (λb P=>ZeV (hG b P) N.size) (λj hj=>(hr j hj).keep (λb P=>N.block b<|hG b P) λ_ q=>q) p
 unfold ZA at HL HO;rw[e0,e1,e2,e3]at HL HO;have HL:=ZeP HL;have HO:=ZeP HO;have HF:=ZeP<|And.intro hG hr;have HB:=ZeP d7;clear hG hr d7;unfold ZA;rw[e0,e1,e2,e3];refine Z3W (fn:=Try.f56) rfl qP ?_;rw[u71];refine LS.cw (LS.dn λK u=> ?_);go_wp2;obtain⟨w2,z⟩:∃w2,w2=w.alloc (.cells #[.int .u64 h.base,.int .i64 h.cap,.int .i64 h.to,.bool h.Y,.int .i64 h.Z,.slice Q (I<|Zu h 0) k0,.slice R (I<|Zu h 1) k1,.slice S (I<|Zu h 2) k2,.slice T (I<|Zu h 3) k3,x 4] 30):=⟨_,rfl⟩;rw[<-z];have b2:w2.heap[xz<|xj w]?=J (.cells #[.int .u64 h.base,.int .i64 h.cap,.int .i64 h.to,.bool h.Y,.int .i64 h.Z,.slice Q (I<|Zu h 0) k0,.slice R (I<|Zu h 1) k1,.slice S (I<|Zu h 2) k2,.slice T (I<|Zu h 3) k3,x 4] 30 (0,0)):=by rw[z];exact Zf5 ..
 have z2:xz (xj w2)=xz (xj w)+1:=by rw[z];simp
 have q2:Below (xz<|xj w) w w2:=by rw[z];exact(Zf3 _ _).alloc (ZeQ _) _
 clear z;have y2:∀j,w2.cell? ⟨xz<|xj w,j,U⟩=(#[.int .u64 h.base,.int .i64 h.cap,.int .i64 h.to,.bool h.Y,.int .i64 h.Z,.slice Q (I<|Zu h 0) k0,.slice R (I<|Zu h 1) k1,.slice S (I<|Zu h 2) k2,.slice T (I<|Zu h 3) k3,x 4]:Array Value)[j]? :=λj=>ZeU _ _ _ _ _ _ b2;have d:=ZeP<|And.intro b2<|And.intro z2 q2;clear b2 z2 q2;refine LS.cw (LS.dn λK u=> ?_)
 go_wp2_with (first
  |(go_at_call 27;refine(HL.out _ d.out.2.2).mono ?_;rintro e w3 ⟨rfl,b9⟩;unfold Vi Zv;dsimp only;have L:=ZeP b9;clear b9))
 obtain⟨W,N⟩:∃W,W=w3.alloc (.cells #[.int .u64 h.base,.int .i64 h.cap,.int .i64 h.to,.int .i64<|I h.H,.int .i64<|I h.ab,.int .i64<|I h.ah,.int .i64<|I h.ak] 65):=⟨_,rfl⟩;obtain⟨X,a8⟩:∃X,X=xz (xj w3):=⟨_,rfl⟩;rw[<-N,<-a8];have f:SSt w h x X W:=by
  have hz:=L.out.size;rw[N,a8];exact⟨(d.out.2.2.trans<|L.out.mono d.out.2.2.size).alloc (by have:=d.out.2.2.size;omega) _,by rw[ZeR _ _ _ (by have:=Y9 d.out.1;omega)];rw[e0,e1,e2,e3];exact(L.out.block _<|Y9 d.out.1).trans d.out.1,Zf5 ..⟩
 clear N a8 L d y2 e0 e1 e2 e3;have y2:∀j,W.cell? ⟨xz<|xj w,j,U⟩=(#[.int .u64 h.base,.int .i64 h.cap,.int .i64 h.to,.bool h.Y,.int .i64 h.Z,.slice Q (I<|Zu h 0) k0,.slice R (I<|Zu h 1) k1,.slice S (I<|Zu h 2) k2,.slice T (I<|Zu h 3) k3,x 4]:Array Value)[j]? :=λj=>Zea;refine LS.cw<|LS.cw<|LS.dn λK u=> ?_;go_wp2
 refine LS.block (LS.oq (λn es a W=>∃(p:Nat) (t:Zd),p+n=4/\es=(Ws h x n p).map .send/\a=⟨t,[]⟩/\t.size=71/\t.getD 1 undef=.chan (J c)/\t.getD 2 undef=.pointer (J ⟨xz<|xj w,0,U⟩)/\t.getD 4 undef=.pointer (J ⟨X,0,U⟩)/\
  t.getD 24 undef=.agg #[.slice Q (I<|Zu h 0) k0,.slice R (I<|Zu h 1) k1,.slice S (I<|Zu h 2) k2,.slice T (I<|Zu h 3) k3]/\t.getD 25 undef=.int .i64 p/\SSt w h x X W) (n:=4) ⟨0,_,rfl,rfl,rfl,rfl,rfl,rfl,rfl,rfl,rfl,f⟩ ?_)
 clear f y2 W;rintro n es a W ⟨p,t,hp,rfl,rfl,D,t1,t2,t4,F,H,f⟩ ih;have IH:=ZeP ih;clear ih;rw[EB D,t1,t2,t4,F,H];obtain⟨g,hg⟩:∃g:Z5,∀i,t.getD i undef=g i:=⟨_,λ_=>rfl⟩;simp only[hg];clear hg t1 t2 t4 F H D t;have y2:∀j,W.cell? ⟨xz<|xj w,j,U⟩=(#[.int .u64 h.base,.int .i64 h.cap,.int .i64 h.to,.bool h.Y,.int .i64 h.Z,.slice Q (I<|Zu h 0) k0,.slice R (I<|Zu h 1) k1,.slice S (I<|Zu h 2) k2,.slice T (I<|Zu h 3) k3,x 4]:Array Value)[j]? :=λj=>Zea;cases n with
 |zero=>
  have d9:((p:Int)<4)=False:=Zhm Z0;refine LS.cw (LS.dn λK u=> ?_);go_wp2;refine LS.cw<|LS.ny rfl<|LS.exit rfl<|LS.region ?_;refine LS.value (i:=0) (l:=[1]) rfl rfl rfl ?_;exact LS.br ⟨rfl,_,rfl,rfl,rfl⟩
 |succ n=>
  have d9:((p:Int)<4)=True:=Zhi Z0;have f8:p<4:=Z0;refine LS.cw (LS.dn λK u=> ?_);go_wp2;refine LS.cw<|LS.od rfl<|LS.skip<|LS.cw<|LS.block<|LS.cw<|LS.dn λK u=> ?_;obtain⟨ap,kp,ep⟩:=Lk<|HF.out.2 p Z0;have d6:∀W,(Instr.index 147 (.agg #[.slice Q (I<|Zu h 0) k0,.slice R (I<|Zu h 1) k1,.slice S (I<|Zu h 2) k2,.slice T (I<|Zu h 3) k3])<|.int .i64 (p:Int)).run Sol.prog W=.ok (.slice ap (I<|Zu h p) kp) W:=by
   intro W;have hT:Sol.prog.underlying 147=J (.array 4 28):=Z2;have:p=0\/p=1\/p=2\/p=3:=Z0;rw[<-ep];obtain rfl|rfl|rfl|rfl:=this;rw[A.out.1];rfl;rw[A.out.2.1];rfl;rw[A.out.2.2.1];rfl;rw[A.out.2.2.2];rfl
  have EP:=ZeP ep;clear ep;go_wp2;clear d6;have b6:=Zy ((p:Int)+1) Z0 Z0;refine LS.cw (LS.dn λK u=> ?_);go_wp2;have d:=ZeP f;clear f;refine LS.cw (LS.dn λK u=> ?_)
  go_wp2_with (first
   |(go_at_call 81;refine(HO.out _ d.out.cx _).mono ?_;rintro e W5 ⟨s5,rfl,c0,r⟩;obtain⟨a5,k5,rfl⟩:=Z6z r;have a4:=ZeP<|And.intro c0 r;clear c0 r))
  refine LS.cw (LS.dn λK u=> ?_);go_wp2;have f:=d.out.below a4.out.1;have r:=a4.out.2;clear d a4 y2 W d9;rename_i W5;rw[show(UF h<|(p:Int)+1).1=obP h p from rfl]at r⊢;have Z:=Z4O r λb P=>P;obtain⟨f7,d8⟩:=HB.out p f8;have d5:Ws h x (n+1) p=(obP h p).map (Uy h x p)++Ws h x n (p+1):=rfl;rw[d5];clear d5 r;have HX:=ZeP<|And.intro Z<|And.intro f7 d8;clear Z d8
  refine LS.block (LS.oq (λm es a W=>∃(i:Nat) (t:Zd),i+m=I (obP h p)/\es=(((obP h p).drop i).map (Uy h x p)++Ws h x n (p+1)).map .send/\a=⟨t,[]⟩/\t.size=71/\t.getD 1 undef=.chan (J c)/\t.getD 2 undef=.pointer (J ⟨xz<|xj w,0,U⟩)/\t.getD 4 undef=.pointer (J ⟨X,0,U⟩)/\
   t.getD 6 undef=.slice ap (I<|Zu h p) kp/\t.getD 7 undef=.int .i64 ((p:Int)+1)/\t.getD 24 undef=.agg #[.slice Q (I<|Zu h 0) k0,.slice R (I<|Zu h 1) k1,.slice S (I<|Zu h 2) k2,.slice T (I<|Zu h 3) k3]/\t.getD 25 undef=.int .i64 p/\t.getD 37 undef=.slice a5 (I<|obP h p) k5/\t.getD 38 undef=.int .i64 (I<|obP h p)/\t.getD 39 undef=.int .i64 i/\
   SSt w h x X W/\Below (xz<|xj W5) W5 W) (n:=I<|obP h p) ⟨0,_,Z0,rfl,rfl,rfl,rfl,rfl,rfl,rfl,rfl,rfl,rfl,rfl,rfl,rfl,f,Zf3 _ _⟩ ?_)
  clear f g b6;rintro m es a W ⟨i,t,hi,rfl,rfl,D,t1,t2,t4,t6,t7,F,H,f1,f2,f3,f,k⟩ ih;have f4:=ZeP ih;clear ih;rw[EB D,t1,t2,t4,t6,t7,F,H,f1,f2,f3];obtain⟨g,hg⟩:∃g:Z5,∀i,t.getD i undef=g i:=⟨_,λ_=>rfl⟩;simp only[hg];clear hg t1 t2 t4 t6 t7 F H f1 f2 f3 D t;cases m with
  |zero=>
   have b3:((i:Int)< (I (obP h p):Int))=False:=Zhm Z0;refine LS.cw (LS.dn λK u=> ?_);go_wp2;refine LS.cw<|LS.ny rfl<|LS.exit rfl<|LS.inBlock ?_;have b6:=Zy ((p:Int)+1) Z0 Z0;have C:(obP h p).drop i=[]:=Ziz Z0;rw[C];clear C b3;refine LS.dn λK u=> ?_;go_wp2;exact IH.out n _ _ _ Z0 ⟨p+1,_,Z0,rfl,rfl,rfl,rfl,rfl,rfl,rfl,Z1,f⟩
  |succ m=>
   have b5:i< I (obP h p):=Z0;obtain⟨o,ho⟩:∃o,(obP h p)[i]?=J o:=⟨_,ZeL b5⟩;have b3:((i:Int)< (I (obP h p):Int))=True:=Zhi Z0;obtain⟨g5,o5,f9,e5,d0,g8,f6,B⟩|⟨a9,c9,e9,f5⟩:=HX.out.1;case inr=>rw[f5]at b5;simp at b5
   injection e5 with e5 _ e6;subst e5;subst e6;obtain⟨v0,v1,v2,v3,v4⟩:=B i o ho;have y:=k.block _ f6;have y0:W.cell? ⟨g5,o5+i*5,U⟩=J (.int .i64 o.aa):=by rw[ZfC y];exact v0
   have y1:W.cell? ⟨g5,o5+i*5+1,U⟩=J (.int .i64 o.size):=by rw[ZfC y];exact v1
   have y2:W.cell? ⟨g5,o5+i*5+2,U⟩=J (.int .i64 o.M):=by rw[ZfC y];exact v2
   have y3:W.cell? ⟨g5,o5+i*5+3,U⟩=J (.bool o.gone):=by rw[ZfC y];exact v3
   have y4:W.cell? ⟨g5,o5+i*5+4,U⟩=J (.int .u64 o.target):=by rw[ZfC y];exact v4
   clear v0 v1 v2 v3 v4 y B;have HC:=ZeP d0;clear d0;refine LS.cw (LS.dn λK u=> ?_);go_wp2;refine LS.cw<|LS.od rfl<|LS.skip<|LS.cw<|LS.block<|LS.cw<|LS.dn λK u=> ?_;go_wp2;obtain⟨W6,O⟩:∃W6,W6=W.alloc (.cells #[.int .i64 o.aa,.int .i64 o.size,.int .i64 o.M,.bool o.gone,.int .u64 o.target] 120):=⟨_,rfl⟩;obtain⟨Y,b1⟩:∃Y,Y=xz (xj W):=⟨_,rfl⟩;rw[<-O,<-b1];have b0:Below (xz<|xj W) W W6:=by rw[O];exact(Zf3 _ _).alloc (ZeQ _) _
   have q6:W6.heap[Y]?=J (.cells #[.int .i64 o.aa,.int .i64 o.size,.int .i64 o.M,.bool o.gone,.int .u64 o.target] 120 (0,0)):=by rw[O,b1];exact Zf5 ..
   have a6:=f.below b0;have b8:=k.trans<|b0.mono k.size;clear O b1 b0 f k y0 y1 y2 y3 y4 W;have z4:∀j,W6.cell? ⟨X,j,U⟩=(#[.int .u64 h.base,.int .i64 h.cap,.int .i64 h.to,.int .i64<|I h.H,.int .i64<|I h.ab,.int .i64<|I h.ah,.int .i64<|I h.ak]:Array Value)[j]? :=λj=>ZeU _ _ _ _ _ _ a6.c4;have zo:∀j,W6.cell? ⟨Y,j,U⟩=(#[.int .i64 o.aa,.int .i64 o.size,.int .i64 o.M,.bool o.gone,.int .u64 o.target]:Array Value)[j]? :=λj=>ZeU _ _ _ _ _ _ q6;have d:=ZeP<|And.intro a6<|And.intro b8 q6;clear a6 b8 q6;have HA:=ZeP λW=>jw hh.bb ((p:Int)+1) o.aa W;unfold Vi Zv at HA;dsimp only at HA;refine LS.cw (LS.dn λK u=> ?_)
   go_wp2_with (first
    |(go_at_call 26;refine(HA.out _).mono ?_;rintro e W7 ⟨rfl,c1⟩;have M:=ZeP c1;clear c1))
   have f:=d.out.1.below M.out;have k:=d.out.2.1.trans<|M.out.mono d.out.2.1.size;have q7:=(M.out.block _<|Y9 d.out.2.2).trans d.out.2.2;clear z4 zo d M HA;rename_i W7;clear W6;obtain⟨g3,h3,g7⟩:=HX.out.2.2 o<|ZeW ho;have e4:0< I (Zu h p):=Z0;obtain⟨bw,ow,ew,g4,g9⟩:=Z6C (HF.out.2 p Z0) e4 EP.out;subst ew;have C:(obP h p).drop i=o::(obP h p).drop (i+1):=by
    obtain⟨h1,rfl⟩:=ZeM.1 ho;exact ZfG h1
   rw[C];rw[show(((o::(obP h p).drop (i+1)).map (Uy h x p)++Ws h x n (p+1)).map Ev.send)=.send (Uy h x p o)::(((obP h p).drop<|i+1).map (Uy h x p)++Ws h x n (p+1)).map .send from rfl];clear C ho b3;have zo:∀j,W7.drew.cell? ⟨Y,j,U⟩=(#[.int .i64 o.aa,.int .i64 o.size,.int .i64 o.M,.bool o.gone,.int .u64 o.target]:Array Value)[j]? :=λj=>ZeU _ _ _ _ _ _ (show W7.drew.heap[Y]?=_ from q7);have g6:=Ji hh p;have b6:=Zy (o.aa+1) Z0 Z0;have z:=Zy (o.aa+1+o.size) Z0 Z0;have e7:(0:Int)<=o.aa+1:=Z0;have e8:o.aa+1<=o.aa+1+o.size:=Z0;have f0:o.aa+1+o.size<=(kp:Int):=Z0;obtain⟨av,nv,cv,a7⟩:∃av nv cv,.slice av nv cv=Rn (x p) (o.aa+1).toNat o.size.toNat:=by rw[EP.out];exact⟨_,_,_,rfl⟩
   have h0:∀W,(Instr.slice 28 (.slice (J ⟨bw,ow,U⟩) (I<|Zu h p) kp) (J<|.int .i64<|o.aa+1) (J<|.int .i64<|o.aa+1+o.size) U).run Sol.prog W=.ok (.slice av nv cv) W:=by
    intro W;have hT:Sol.prog.underlying 28=J (.slice 24):=Z2;rw[a7,EP.out,Z7t hT Z1 e7 e8 f0,show o.aa+1+o.size- (o.aa+1)=o.size by omega]
   clear e7 e8 f0 zo;have zo:∀j,W7.drew.cell? ⟨Y,j,U⟩=(#[.int .i64 o.aa,.int .i64 o.size,.int .i64 o.M,.bool o.gone,.int .u64 o.target]:Array Value)[j]? :=λj=>ZeU _ _ _ _ _ _ (show W7.drew.heap[Y]?=_ from q7);have HV:=ZeP a7;clear a7;have d:=ZeP<|And.intro f k;clear f k q7;refine LS.send (n:=16) follows Z2 rfl rfl rfl rfl rfl rfl ?_;simp only[Zi8,List.take_zero];change wpStill Sol.prog _ W7.drew _ _ _;repeat still_step
   refine wpStill_nil ⟨rfl,?_,?_⟩;unfold Uy;rw[<-HV.out];rfl
   .refine LS.inBlock ?_;have h2:=Zy ((i:Int)+1) Z0 Z0;refine LS.dn λK u=> ?_;go_wp2;exact f4.out m _ _ _ Z0 ⟨i+1,_,Z0,rfl,rfl,rfl,rfl,rfl,rfl,rfl,rfl,rfl,rfl,rfl,rfl,Z1,SSt.below d.out.1 (Zf3 _ _).drew,d.out.2.drew⟩
end Vm
end
section
namespace Vm
open Go Go.Proofs Go.Conc
open Go.RowKit (Below)
section
section
variable {c:Ctx}{B:Nat}{G Kf:Z4}{s:St}{a:Act}{w w0:Z3}{h:GH}{S:SS}{n0:Nat}{fix:Za}{T0:Zd}{t:Nat}{v:Ze}{x:V}
def WG{p}(d:p≠t):(a.put (J t) v).tmps[p]?=a.tmps[p]? :=by
 simp[Act.put,Zgu d]
def RI(d:t<a.tmps.size):(a.put (J t) v).tmps[t]?=J v:=by
 simp[Act.put,d]
theorem SL:(a.put (J t) v).tmps.size=a.tmps.size:=by simp[Act.put]
theorem Z6W{p k u a d}(f:RelK c.P B s w h a p u<|QU c p k):RelK c.P B s w h d p u<|QU c p k:=by
 cases k<;>exact f
def RelG.set(j:RelG c B G s a w h<|Yr c S)(n:S.at t=U):RelG c B G s (a.put (J t) v) w h<|Yr c S:=by
 refine⟨j.ok,λp g d=> ?_,λp g=> ?_⟩;by_cases e:p=t;subst e;rw[Yy,n]at d;cases d;let⟨u,o,f⟩:=j.aa p g d;refine⟨u,by simp_all[WG],?_⟩;rw[Yy]at f⊢;cases l:S.at p with
 |none=>rw[Yy,l]at d;cases d
 |some k=>grind [Z6W]
 refine absurd ?_ g;rw[Yy];cases S.at p<;>exact VT _
def RelS.set(l:RelS Kf fix T0 c B G w0 n0 s a w S)(k:S.at t=U):RelS Kf fix (a.put (J t) v).tmps c B G w n0 s (a.put (J t) v) w S:=by
 let⟨⟨h,d,f⟩,g,n,o,j⟩:=l;exact⟨⟨h,d.set k,f⟩,g,.refl _ _,by grind [SL],j⟩
def RelS.base(h:RelS Kf fix T0 c B G w0 n0 s a w S):RelS Kf fix a.tmps c B G w n0 s a w S:=by
 let⟨d,f,j,g⟩:=h;exact⟨d,f,.refl _ _,g⟩
theorem RelS.put(C:RelS Kf fix T0 c B G w0 n0 s a w S)(u:S.at t=U)(l:∀y∈S,c.ix y.1≠c.ix t)(A:t<n0)(D:Rd w G x v):RelS Kf fix (a.put (J t) v).tmps c B G w n0 (YF s (c.ix t)<|.v x) (a.put (J t) v) w<|(t,.fz)::S:=by
 let⟨⟨h,g,o⟩,q,F,H,r⟩:=C;refine⟨⟨h,⟨g.ok,λp d f=> ?_,λp d=> ?_⟩,o⟩,λp d=> ?_,.refl _ _,by grind [SL],r⟩;rw[Yy]at f⊢;by_cases e:t=p;subst e;simp[SS.at];exact⟨v,RI Z0,x,by simp[eval,YW],D.mono λb z=>GH.bq<|g.ok.fa b z⟩;simp[SS.at,if_neg e]at f⊢;have j:=(g.set (v:=v) u).mb (t:=YF s (c.ix t)<|.v x) λy K=>by rw[YW,if_neg ZdN]
 cases n:S.at p with
 |none=>rw[n]at f;cases f
 |some k=>
  have:=j.aa p (by grind [Yy,VT]) (by simp_all[Yy]);simp_all[Yy]
 refine absurd ?_ d;rw[Yy];split<;>exact VT _;by_cases e:t=p;simp_all[SS.at];simp[SS.at,if_neg e]at d;rw[YW,if_neg<|l _<|QK d];exact q p d
end
noncomputable def cV:Ctx:= {P:=Sol.prog,ix:=(vf Sol.prog).ix,own:=λ_=>xw,fresh,sig:=CU,tr:=[3],n:=82}
def yN{code S st fl B G Kf s a w w0 T0 N X Rt}(hc:comp (vf Sol.prog) code S=J (st,fl))(g:RelS Kf [4,23] T0 cV B G w0 82 s a w S)(h:Yv Sol.prog st s N X Rt):
  code.wp Sol.prog (Post Kf [4,23] T0 cV B G w0 82 fl N X Rt) a w:=
 jT (fc:=vf Sol.prog) follows (λp f q j d=>Cj (Zge _ f) ZdO d) rfl rfl rfl (ZeQ _) code (Ef (λ_=>trivial) code) hc g h
noncomputable def bodyC:Code:=Yq ofC [1,1,1,1,1,1,1,0,1,0,0]
noncomputable def ops9:Array Oper:=L1<|Yq ofC [1,1,1,1,1,1,1,0,1,0,0,0]
def Z9Q:bodyC=.seq (.region 9 ops9 xw) (Yq ofC [1,1,1,1,1,1,1,0,1,0,0,1]):=Z2
def Z70:Yq ofC [1,1,1,1]=.seq (Yq ofC [1,1,1,1,0]) (.seq (Yq ofC [1,1,1,1,1,0])<|.seq (Yq ofC [1,1,1,1,1,1,0])<|.seq (.seq (Yq ofC [1,1,1,1,1,1,1,0,0])<|.block 0<|.loop bodyC)<|Yq ofC [1,1,1,1,1,1,1,1]):=Z2
noncomputable def ops8:Array Oper:=L1<|Yq ofC [1,1,1,1,1,1,1,0,0]
def Z6o:Yq ofC [1,1,1,1,1,1,1,0,0]=.region 8 ops8 xw:=Z2
def zF:Value:=.agg #[.int .i64 0,.int .i64 0,.int .i64 0,.bool xw,.int .u64 0,.int .u64 0,.slice U 0 0]
def Z5a:∃t a d inf o,ops9[0]?=J o/\o.guard=U/\o.dst=J 24/\o.op=.recv t a xk/\a=.tmp 23/\Sol.prog.underlying t=J (.chan d 126)/\Sol.prog.info? 126=J inf/\inf.zero=J zF:=
 ⟨_,_,_,_,_,rfl,rfl,rfl,rfl,rfl,rfl,rfl,rfl⟩
def Z5b:∃o,ops9[1]?=J o/\o.guard=U/\o.dst=J 25/\o.op=.extract (.tmp 24) 1:=⟨_,rfl,rfl,rfl,rfl⟩
def Z5c:ops9.size=2:=rfl
def Cr:SS:=[(1,.mem [.fz,.fz,.fz,.fz,.fz,.fz,.fz,.fz,.fz,.fz]),(2,.mem [.fz,.fz]),(3,.fz),(5,.own 126),(6,.mem [.own 108]),(7,.mem [.own 124])]
structure AtL (B:Nat) (G:Nat->Prop) (wS:World) (c:Nat) (st:Vw) (hc:List V) (s:St) (a:Act) (w:World):Prop where
 vd:∃T0 w0,RelS G [4,23] T0 cV B G w0 82 s a w Cr
 same:Same G wS w
 ch:a.tmps[23]?=J (.chan<|J c)
 s1:get s 1=.m hc
 s6:get s 6=.v (.sl<|st.ns.map Xe)
 s7:get s 7=.m [Yh vi st.nm]
 s8:get s 8=.m [Yh vu st.tm]
theorem AtL.put{B G wS c st hc s a w}(h:AtL B G wS c st hc s a w){v x b}(p:Rd wS G x v):
  ∃g d T0 w0,g=(a.put (J 24)<|.tuple #[v,.bool b]).put (J 25) (.bool b)/\RelS G [4,23] T0 cV B G w0 82 d g w Cp/\g.tmps[23]?=J (.chan<|J c)/\get d 1=.m hc/\get d 6=.v (.sl<|st.ns.map Xe)/\get d 7=.m [Yh vi st.nm]/\get d 8=.m [Yh vu st.tm]/\get d 12=.v (.am [x,.bool b])/\get d 10=.v (.bool b):=by
 let⟨T0,w0,o⟩:=h.vd;have j:Rd w G (.am [x,.bool b])<|.tuple #[v,.bool b]:=by
  refine .am _ _ rfl λi c f=> ?_
  match i,f with
  |0,f=>cases f;exact p.keep h.same λ_ q=>q
  |1,f=>cases f;exact .bool _
 have n:=(o.put (t:=24) rfl ZdQ Z0 j).put (t:=25) (v:=.bool b) (x:=.bool b) rfl ZdQ Z0<|.bool _;have k:cV.ix 24=12:=ZdQ;have l:cV.ix 25=10:=ZdQ;rw[k,l]at n;refine⟨_,_,_,_,rfl,n.fg (R:=Cp) Z2,?_,?_,?_,?_,?_,?_,?_⟩;rw[WG Z0,WG Z0];exact h.ch;all_goals simp[YW,h.s1,h.s6,h.s7,h.s8]
def Z6G{B G wS c hc k}{b:Zg}{Post}fin
  (K:Rd wS G (Xe ⟨⟨0,0,0,xw,0⟩,0,[]⟩) zF)
  (a0:∀s a w T0 w0,RelS G [4,23] T0 cV B G w0 82 s a w Cq->get s 1=.m hc->get s 6=.v (.sl<|fin.ns.map Xe)->get s 7=.m [Yh vi fin.nm]->get s 8=.m [Yh vu fin.tm]->LS Sol.prog c Post [] (b.at a k) [] w):
  ∀(p:List<|Fo×Value) st,(∀y∈p,Rd wS G (Xe y.1) y.2)->I st.ns+I p<=4000000->(p.map (·.1)).foldl Vw.put st=fin->∀s a w,AtL B G wS c st hc s a w->
   LS Sol.prog c Post (p.map (λy=>.recv y.2)++[.closed zF]) (b.at a<|.code bodyC:: .inLoop bodyC:: .inBlock 0::k) [] w:=by
 let⟨t,T,d,inf,o,o1,o2,o3,o4,C,o6,o7,o8⟩:=Z5a;let⟨o',p1,p2,p3,p4⟩:=Z5b;have ext:∀(a:Act) w v b,a.tmps[24]?=J (.tuple #[v,.bool b])->(execOp a.eval o').run Sol.prog w=.ok _ w:=λa w v b h=>by
  have he:=Act.al a 24 _ h;unfold execOp;simp[p4,he];rfl
 have enter:∀ {es} {e:Ev} {v:Ze} {fl:Bool} {s:St} {st:Vw} {a:Act} {w:Z3},e.val=.tuple #[v,.bool fl]->((∃v,e=.recv v)\/e=.closed zF)->AtL B G wS c st hc s a w->
   LS Sol.prog c Post es (b.at ((a.put (J 24)<|.tuple #[v,.bool fl]).put (J 25)<|.bool fl)<|.code (Yq ofC [1,1,1,1,1,1,1,0,1,0,0,1]):: .inLoop bodyC:: .inBlock 0::k) [] w->
   LS Sol.prog c Post (e::es) (b.at a<|.code bodyC:: .inLoop bodyC:: .inBlock 0::k) [] w:=λ{es e v fl s st a w} H F f hk=>by
  let⟨T0,w0,A⟩:=f.vd;have a1:=A.2.2.2.1;rw[show(Item.code bodyC)=.code (.seq (.region 9 ops9 xw)<|Yq ofC [1,1,1,1,1,1,1,0,1,0,0,1])by rfl];refine LS.cw<|LS.region ?_;rw[Z5c,show List.range 2=[0,1]from rfl];refine LS.ss (i:=0) o1 (by simp[Region.wanted,o2]) ?_ ?_;obtain⟨v,rfl⟩|rfl:=F;exact⟨t,T,d,_,inf,zF,o4,by rw[C];rfl,by rw[C];exact Act.al a 23 _ f.ch,o6,o7,o8,Z1⟩;exact⟨t,T,d,_,inf,zF,o4,by rw[C];rfl,by rw[C];exact Act.al a 23 _ f.ch,o6,o7,o8,Z1⟩;rw[o3,H];refine LS.value (i:=1) p1 (by simp[Region.wanted,p2]) (ext _ w v fl (RI Z0)) ?_;simp_all[LS.gg]
 intro p;induction p with
 |nil=>
  intro st r hn n s a w f;refine enter (v:=zF) (fl:=xw) rfl Z1 f ?_;obtain⟨a2,s2,T0,w0,rfl,A,x,W,Y,Z,h8,u,q⟩:=f.put (b:=xw) K;refine LS.wp (yN N5 A<|Z6q (N:=λ_=>False) (R:=λ_=>False) (X:=λid g=>id=0/\g=s2) q ⟨rfl,rfl⟩) λe S w' j=> ?_;cases e with
  |normal=>let⟨_,_,_,h,_⟩:=j;grind
  |exit id=>
   obtain⟨g,Q,hx,⟨rfl,rfl⟩,l⟩:=j;have D:Q=Cq:=by simpa using hx
   subst D;refine⟨k,rfl,?_⟩;grind
  |ret=>let⟨_,_,_,h,_⟩:=j;grind
  |_=>exact j.elim
 |cons y p ih=>
  intro st r hn n s a w f;simp[Zg0]at hn;refine enter (v:=y.2) (fl:=xk) rfl Z1 f ?_;obtain⟨a2,s2,T0,w0,rfl,A,x,W,Y,Z,h8,u,q⟩:=f.put (b:=xk)<|r y Z1;refine LS.wp (yN N5 A.base<|Z6r (X:=λ_ _=>False) (R:=λ_=>False) (N:=λg=>get g 6=.v _/\get g 7=.m [Yh vi (st.put y.1).nm]/\get g 8=.m [Yh vu (st.put y.1).tm]/\get g 1=.m hc) Y Z h8 u q Z0 λg M O P L _ _=>⟨M,O,P,L.trans W⟩) λe S w' j=> ?_;cases e with
  |normal=>
   let⟨g,Q,D,⟨M,O,P,L⟩,l⟩:=j;cases D;refine LS.inLoop<|ih _ (λz K=>r z<|by simp[K]) ?_ n g S w' ⟨⟨_,_,l.fg (R:=Cr) Z2⟩,f.same.trans l.2.2.1.same,?_,L,M,O,P⟩;grind [Vw.put];rw[l.2.2.1.fix 23 Z1];exact x
  |exit id=>let⟨_,_,_,h,_⟩:=j;grind
  |ret=>let⟨_,_,_,h,_⟩:=j;grind
  |_=>exact j.elim
def DG(b:Zg)(D:World->Nat->Prop)(r:V)(fr:Zg)(cs:Z7)(w:Z3):Prop:=
 cs=[]/\∃(a:Act) (d:Zn),fr= {b.at a d with mode:=.returning}/\a.defers=[]/\∃v,(results Try.f38 a.tmps).run Sol.prog w=.ok v w/\Rd w (D w) r v
def Dx{code S st o B G Kf s a w w0 T0 N c f es}{b:Zg}{k}(hc:comp (vf Sol.prog) code S=J (st,⟨J o,[],[]⟩))(t:RelS Kf [4,23] T0 cV B G w0 82 s a w S)
  (u:Yv Sol.prog st s N (λ_ _=>False)<|λ_=>False) (r:∀l g n,N l->RelS Kf [4,23] T0 cV B G w0 82 l g n o->LS Sol.prog c f es (b.at g k) [] n):=
 LS.wp (yN hc t u) λe g n d=>by
  cases e with
  |normal=>let⟨l,x,q,p,j⟩:=d;cases q;exact r _ _ _ p j
  |exit id=>let⟨_,_,_,h,_⟩:=d;grind
  |ret=>let⟨_,_,_,h,_⟩:=d;grind
  |_=>exact d.elim
def Z58:∃o,ops8[0]?=J o/\o.guard=U/\o.dst=J 23/\o.op=.move (.tmp 4):=⟨_,rfl,rfl,rfl,rfl⟩
def Z59:ops8.size=1:=rfl
def Z4W{B:Nat}{G:Z4}{c:Nat}{b:Zg}{s:St}{a:Act}{w w0:Z3}{T0:Zd}{W Y Z y sc x5 x6 x7 x8:V}{d:Z8}{fs:List (Fo×Value)}{fin:Vw}(O:RelS G [4,23] T0 cV B G w0 82 s a w Lj)(L:a.tmps[4]?=J (.chan<|J c))(F:get s 1=.m [W,Y,Z,y,sc,x5,x6,x7,x8,.sl<|d.map vu])
  (M:∀y∈fs,Rd w G (Xe y.1) y.2) (hn:I fs<=4000000) (u:(fs.map (·.1)).foldl Vw.put ⟨[],[],[]⟩=fin) (hs:fin.sm d):
  LS Sol.prog c (DG b (λw' x=>G x\/(B<=x/\x<xz (xj w')))<|Vb<|fin.gr d) (fs.map (λy=>.recv y.2)++[.closed zF]) (b.at a [.code<|Yq ofC [1,1,1,1]]) [] w:=by
 rw[Z70];refine LS.cw (Dx r5c O.base (N:=λj=>get j 6=.v (.sl [])/\get j 1=get s 1) (by simp[r5,YW]) λs1 a1 w1 ⟨q6,q1⟩ l=> ?_);refine LS.cw (Dx r6c l.base (N:=λj=>get j 7=.m [Yh vi []]/\get j 6=.v (.sl [])/\get j 1=get s 1) (by simp[r6,YW,q6,q1];rfl) λs2 a2 w2 ⟨t7,t6,t1⟩ n=> ?_);refine LS.cw (Dx r7c n.base (N:=λj=>get j 8=.m [Yh vu []]/\get j 7=.m [Yh vi []]/\get j 6=.v (.sl [])/\get j 1=get s 1) (by simp[r7,YW,t7,t6,t1];rfl) λs3 C w3 ⟨u8,u7,u6,u1⟩ k=> ?_);have q:C.tmps[4]?=J (.chan<|J c):=by
  rw[k.2.2.1.fix 4 Z1,n.2.2.1.fix 4 Z1,l.2.2.1.fix 4 Z1];exact L
 have p:Same G w w3:=(l.2.2.1.same.trans n.2.2.1.same).trans k.2.2.1.same;refine LS.cw<|LS.cw ?_;rw[Z6o];refine LS.region ?_;rw[Z59,show List.range 1=[0]from rfl];obtain⟨o,o1,o2,o3,o4⟩:=Z58;have a0:C.eval (.tmp 4)=.chan (J c):=Act.al C 4 _ q;refine LS.value (v:=.chan<|J c) (w':=w3) o1 (by simp[Region.wanted,o2]) (by simp_all[execOp])<|LS.gg ?_;rw[o3];have Q:=k.set (t:=23) (v:=.chan<|J c) rfl;have a4:C.tmps.size=82:=k.2.2.2.1;refine LS.block<|LS.bv (.one step_loop) ?_;refine Z6G (hc:=[W,Y,Z,y,sc,x5,x6,x7,x8,.sl<|d.map vu]) fin (wS:=w) (B:=B) (G:=G) ?_ ?_ fs ⟨[],[],[]⟩ M ZdN u s3 _ w3 ⟨⟨_,_,Q.fg (R:=Cr) Z2⟩,p,RI Z0,u1.trans F,u6,u7,u8⟩;refine .agg _ _ rfl Z1 λi x g=> ?_
 match i,g with
 |0,g=>cases g;exact .int _ _
 |1,g=>cases g;exact .int _ _
 |2,g=>cases g;exact .int _ _
 |3,g=>cases g;exact .bool _
 |4,g=>cases g;exact .int _ _
 |5,g=>cases g;exact .int _ _
 |6,g=>cases g;exact .nil _ _<|ZfO _
 intro s5 a5 w5 T5 a6 S v1 v6 v7 v8;refine LS.wp (yN rCc ((S.fg (R:=N4) Z2).base)<|Z6p (N:=λ_=>False) (X:=λ_ _=>False) (R:=λj=>Wm j [(2,.ag 2),(3,.v)]=J (Vb<|fin.gr d)) hs v1 v6 v7 v8 λj h=>h) λe a' w' H=> ?_;cases e with
 |normal=>obtain⟨_,_,_,h,_⟩:=H;grind
 |exit id=>obtain⟨_,_,_,h,_⟩:=H;grind
 |ret=>
  obtain⟨j,S',K,hR,P⟩:=H;have K:S'=Co:=by simpa using K
  subst K;obtain⟨⟨h,k1,k2⟩,k3,k4,k5,k6⟩:=P;intro A
  obtain⟨v,hv,T⟩:=Lp (c:=cV) (f:=Try.f38) (D:=λx=>G x\/(B<=x/\x<xz (xj w'))) k1 k3 (λx z=>by
   obtain F|F:=k1.ok.cq x z;grind;exact .inr ⟨F,k1.ok.bo x z⟩) (λr O=>⟨ZeY.1 (Z2:(Try.f38.results.toList.all<|R6 Sol.prog Co)=xk) r O,λi x z=>.inr ⟨(k1.ok.aq _ _ x z).1,(k1.ok.aq _ _ x z).2.1⟩⟩) (x:=Vb<|fin.gr d) (by rw[<-hR];rfl)
  exact LS.br ⟨rfl,a',A,rfl,k6,v,hv,T⟩
 |_=>exact H.elim
end
section
def Z19:∃o a,clOps[1]?=J o/\o.guard=U/\o.dst=U/\o.op=.call ⟨.builtin .close, #[.tmp 70],a⟩:=⟨_,_,rfl,rfl,rfl,rfl⟩
section
variable {b:Zg}{a:Act}{c:Nat}{w:Z3}
def Z1b{cs:Z7}(t:b.fn=56)(x:b.kind≠.early)(q:a.tmps[70]?=J (.chan<|J c)){s r:Nat}{f:Bool}(hc:w.heap[c]?=J (.chan 0 #[] xw s r f)):
  stepG Try.prog xw (G (b.at a [.inRegion clOps [1]]) cs) w=.go (G (b.at a [.inRegion clOps []]) cs) (WH w c<|.chan 0 #[] xk s r f) #[⟨.obj c,xw,xk⟩,⟨.obj c,xk,xk⟩]:=by
 obtain⟨o,d,l,g,n,p⟩:=Z19;have h:a.eval (.tmp 70)=.chan (J c):=Act.al a 70 _ q;have j:execOp a.eval o=(do pure (.value<|<-Builtin.close_ d o.type #[.chan<|J c]):Sem Next):=by
  unfold execOp;simp only[p];simp[resolve,builtin,h];rfl
 have y:(execOp a.eval o).run Try.prog w=.ok (.value<|.tuple #[]) (WH w c<|.chan 0 #[] xk s r f):=by
  rw[j];simp only[Zfu,run_close_open d o.type hc,Zft];rfl
 have u:(execOp a.eval o).events Try.prog w #[]=#[⟨.obj c,xw,xk⟩,⟨.obj c,xk,xk⟩]:=by
  rw[j];have g:(Builtin.close_ d o.type #[.chan<|J c]).runT Try.prog w #[]=(.ok (.tuple #[])<|WH w c<|.chan 0 #[] xk s r f, #[⟨.obj c,xw,xk⟩,⟨.obj c,xk,xk⟩]):=by
   refine Zhl ?_<|events_close_open d o.type hc;rw[ZgP];exact run_close_open d o.type hc
  show((Sem.bind _ _).runT Try.prog w #[]).2=_;rw[ZgT,g];rfl
 rw[stepG_value l (by simp[Region.wanted,g]) x y];have k:a.put o.dst (.tuple #[])=a:=by rw[n];rfl
 rw[k];unfold listed;rw[u,seen_eq (by rw[t,Try.func56];rfl) Z1]
noncomputable def bornF:Frame:= {(default:Zg)with fn:=Try.prog.funcs.size,defers:=[],mode:=.panicking [goexitEntry]}
def Z7I(d:b= {base 56 with kind:=.deferred})(f:a.defers=[]):QuitsIn Try.prog 4<|G (b.at a [.inRegion clOps []]) [bornF]:=by
 subst d;refine .ctl (g':=G (({base 56 with kind:=.deferred}:Frame).at a []) [bornF]) rfl (λw=>ZeF) ?_;refine .ctl (g':=G {(({base 56 with kind:=.deferred}:Frame).at a [])with mode:=.returning} [bornF]) rfl (λw=>ZeF) ?_;refine .ctl (g':=G bornF []) rfl (λw=> ?_) ?_;have g:=Try.func56;simp[G,stepG,unwind,Frame.at,f,base,g,results,Try.results56,doReturn,bornF,goexitEntry];rfl;refine .ctl (g':= {(G bornF [])with status:=.finished}) rfl (λw=> ?_) rfl;rfl
end
def yJ(l:Z8):NoM<|.sl<|l.map vu:=.sl _ λc a=>by
 have:flat (l.map vu)=l.map vu:=Ue λx d=>Zel;rw[this]at a;obtain⟨y,_,rfl⟩:=Zf8.1 a;exact .int _ _
def Z1D{n:Nat}{v:Ze}(h:FixV n v)(f m:Nat):FixV n<|Rn v f m:=by
 intro ρ d;have a:=h ρ d;unfold Rn;split;rename_i b o q k c;simp only[Zt,Zfe,ZW,Value.slice.injEq,ZeK,Addr.mk.injEq,and_true]at a;grind [Zt,ZW];exact a
def FF{n:Nat}{h:Hp}{x:Z5}{p:Nat}(hx:FixV n<|x p)(o:Ob):FixV n<|Uy h x p o:=by
 intro ρ a;have:=Z1D hx (o.aa+1).toNat o.size.toNat ρ a;simp_all[Uy,WD,Wl,Um]
def Al{h:Hp}{x:Z5}{v:Ze}:∀ {n p:Nat},v∈Ws h x n p->∃q o,q<p+n/\v=Uy h x q o
 |0,p,a=>by simp[Ws]at a
 |n+1,p,a=>by
  simp only[Ws,Zfg,Zf8]at a;obtain⟨o,_,rfl⟩|a:=a;exact⟨p,o,Z0,rfl⟩;obtain⟨q,o,f,d⟩:=Al a;exact⟨q,o,Z0,d⟩
def bD:Frame:= {base 56 with kind:=.deferred}
def jY(args:Zd):Frame.enter Try.prog 56 args .deferred=bD.at {tmps:=args++Array.replicate (71-args.size) undef,defers:=[]} [.code seC]:=by
 simp[Frame.enter,Frame.at,Try.func56,qP,bD,base,Try.ntmps56]
def NP:YT Sol.prog xw seC=xk:=Z2
def Z0J:Sol.prog.funcs[Try.prog.funcs.size]?=U:=by
 grind [Array.getElem?_eq_none,Sol.prog,WX]
def Z18{c n0:Nat}{h:Hp}{x:Z5}{K:Z4}{w:Z3}(hh:h.ok)(a1:xz (xj w)<=n0)(hc:c<n0)(hK:∀b,K b->∃cs e fr,w.heap[b]?=J (.cells cs e fr))(R:∀b o,w.heap[b]?=J o->K b->JW n0 o)
  (hx:∀j,j<5->FixV n0 (x j)) (hr:∀j,j<5->Rd w K (.sl<|(Zu h j).map vu) (x j))
  (a2:∀p,p<4->I (obP h p)<=1000000/\∀o∈obP h p,0<=o.aa/\0<=o.size/\o.aa+1+o.size<=I (Zu h p)):
  Play Try.prog xw c K (UN Try.prog c) ((Ws h x 4 0).map .send) (λ_=>False) (born Try.prog {target:=.fn (.func 56) #[],args:=#[ZA h x,.chan<|J c]}) w:=by
 have a6:∀b,K b->b<xz (xj w):=λb k=>ZdN;have C:∀w1:Z3,stepG Try.prog xw (born Try.prog {target:=.fn (.func 56) #[],args:=#[ZA h x,.chan<|J c]}) w1=.go (G (Frame.enter Try.prog 56 #[ZA h x,.chan<|J c] .deferred) [bornF]) w1 #[]:=λw1=>by
  have hn:¬Try.f56.name= "runtime.NumGoroutine" :=by decide+kernel
  have k:¬Try.f56.body=U:=by rw[qP];simp
  simp[stepG,born,unwind,callDeferred,invoke,callFunc,G,bornF,hn,k];rfl
 refine .step (λw1 H=>⟨_,_,_,_,C w1,ZeQ _,ZeQ _,rfl,rfl,λ_ _ _=>rfl,λe Y=>by simp at Y⟩) λw1 g' w' a4 H e=> ?_;have e:=(C w1).symm.trans e;injection e with M N e3;subst M N;have B:(Vd (λ_=>False) w1 w1:Z4)=λ_=>False:=funext λb=>propext ⟨λk=>by obtain k|k:=k;exact k;omega,λk=>k.elim⟩;rw[B];refine Play.gh ?_ H;let X:Cx:=TZ Try.prog Sol.prog n0 K (λ_=>False);have S:X.P=Try.prog:=Sol.sub.P n0 K (λ_=>False);have n:∀v∈ #[ZA h x,.chan<|J c],FixV n0 v:=λv hv=>by
  have:v=ZA h x\/v=.chan (J c):=by simpa using hv
  obtain rfl|rfl:=this;intro ρ l;unfold ZA;rw[WD];simp[Wl,Um,hx 0 Z0 ρ l,hx 1 Z0 ρ l,hx 2 Z0 ρ l,hx 3 Z0 ρ l,hx 4 Z0 ρ l];intro ρ l;simp[Zt,l c hc]
 have z:∀ρ,Zw ρ bornF=bornF:=λρ=>by
  simp[Zw,bornF,Wk,Rg,goexitEntry,Sv];exact⟨by show Array.map (Zt ρ) #[]=#[];simp,rfl,rfl⟩
 have hw:=Du X (Sol.sub.ok n0 K<|λ_=>False) (c:=c) (es:=(Ws h x 4 0).map .send) (fr:=Frame.enter Try.prog 56 #[ZA h x,.chan<|J c] .deferred) (cs:=[bornF]) (ds:=[]) (main:=xw) (wc:=w)
  (λe Y=>by
   obtain⟨v,hv,rfl⟩:=Zf8.1 Y;obtain⟨q,o,hq,rfl⟩:=Al hv;exact⟨FF (hx q Z0) o,hc⟩)
  (λρ=>by
   rw[jY];refine⟨⟨λi hi=> ?_,λd A=>by simp[Frame.at]at A,.inr rfl,.inl ⟨_,seC,Sol.func56,Try.func56,qP,NP⟩⟩,λf Z=> ?_,rfl⟩;have:i=.code seC:=by simpa[Frame.at]using hi
   subst this;exact NP;have:f=bornF:=by simpa using Z
   subst this;exact⟨λi hi=>(by cases hi),λd A=>(by cases A),.inl rfl,.inr<|.inl ⟨Z0J,Zh8<|ZeQ _⟩⟩)
  (λf Z=>by
   have:f=Frame.enter Try.prog 56 #[ZA h x,.chan<|J c] .deferred\/f=bornF:=by simpa using Z
   obtain rfl|rfl:=this;rw[jY];intro ρ l;have M:(#[ZA h x,.chan<|J c]++Array.replicate (71- (#[ZA h x,.chan<|J c]:Array Value).size) undef).map (Zt ρ)=#[ZA h x,.chan<|J c]++Array.replicate (71- (#[ZA h x,.chan<|J c]:Array Value).size) undef:=by
    rw[ZgM,SY n ρ l];simp[Sv]
   simp_all[Zw,Frame.at,YH,Wk,bD,base];exactλρ _=>z ρ)
  (λb o ho y=>by
   obtain y|y:=y;exact y.elim;exact R b o ho y)
  (Post:=λwl=>DF c bD [bornF])
  (λt=>by
   rw[jY]
   exact Z7H bD [bornF] (X.cl w t) h hh x c K (λb k=>by grind [Cx.cl,TZ,Nat.lt_of_lt_of_le])
    (λj hj=>Na (X:=X) (λb h=>h) (λb c e fr B hc=>B) a1 (hr j hj)<|yJ _) a2)
 have hw:Play Try.prog xw c K _ ((Ws h x 4 0).map .send) (λ_=>False) (G (Frame.enter Try.prog 56 #[ZA h x,.chan<|J c] .deferred)<|[bornF]++[]) w:=S▸hw;refine hw.mono λO g w' ⟨ρ,t,a5,a3,a7,fc,cc,B,hid,⟨W,a,a0,Q,A⟩,L⟩=> ?_;subst B W a0;have D:fc=Zw ρ (bD.at a [.inRegion clOps [1]]):=L.bf;have F:cc=[bornF].map (Zw ρ)++[]:=L.under;have M:fc=bD.at {tmps:=a.tmps.map<|Zt ρ,defers:=[]} [.inRegion clOps [1]]:=by
  rw[D];simp[Zw,Frame.at,A,Wk,YH,bD,base]
 have N:cc=[bornF]:=by rw[F];simp[z]
 rw[M,N];have u:(a.tmps.map<|Zt ρ)[70]?=J (.chan<|J c):=by
  rw[Zfk,Q];simp[Zt,hid c hc]
 refine⟨rfl,?_,_,4,λs r tm T=>Z1b rfl (by simp[bD]) u T,Z7I rfl rfl⟩;rfl
end
inductive NoZ:V->Prop where
 |int (k:IntKind) (n:Int):NoZ<|.int k n
 |bool (b:Bool):NoZ<|.bool b
 |sl (l:Zr):(∀y∈l,y.cells≠[])->(∀c∈flat l,NoZ c)->NoZ (.sl l)
 |agg (l:Zr):(∀c∈l,NoZ c)->NoZ (.agg l)
 |am (l:Zr):(∀c∈l,NoZ c)->NoZ (.am l)
def NoZ.m{x:V}(h:NoZ x):NoM x:=by
 induction h with
 |int k n=>exact .int k n
 |bool b=>exact .bool b
 |sl l _ _ a=>exact .sl l a
 |agg l _ a=>exact .agg l a
 |am l _ a=>exact .am l a
def Z6x{w:Z3}{D:Z4}{x:V}{v:Ze}(h:Rd w D x v)(d:NoZ x):Rd w (λb=>D b/\b<xz (xj w)) x v:=by
 induction h with
 |int k n=>exact .int k n
 |bool b=>exact .bool b
 |nil a cap A=>exact .nil a cap A
 |sl l b o cap k vs g p z r t C j=>
  cases d with
  |sl _ B d=>
   obtain _|⟨y,l⟩:=l;exact .nil _ cap p;have F:0<k:=by
    rw[<-(r y Z1).1];exact Zhv.2<|B y Z1
   have q:=jP<|t 0 ZdO;exact .sl _ b o cap k vs g p ⟨z,q⟩ r t λi c f=>j i c f<|d c<|Ab f
 |agg u vs g p _ j=>
  cases d with
  |agg _ d=>exact .agg u vs g p λi c f=>j i c f<|d c<|ZeW f
 |am l vs g _ j=>
  cases d with
  |am _ d=>exact .am l vs g λi c f=>j i c f<|d c<|ZeW f
 |_=>cases d
def Z6A{w:Z3}{D:Z4}{x:V}{v:Ze}(h:Rd w D x v)(d:NoZ x):Rd w (λb=>D b/\∃q e r,w.heap[b]?=J (.cells q e r)) x v:=by
 induction h with
 |int k n=>exact .int k n
 |bool b=>exact .bool b
 |nil a cap B=>exact .nil a cap B
 |sl l b o cap k vs g p z t u F j=>
  cases d with
  |sl _ C d=>
   obtain _|⟨y,l⟩:=l;exact .nil _ cap p;have G:0<k:=by
    rw[<-(t y Z1).1];exact Zhv.2<|C y Z1
   obtain⟨_,c,e,r,A,_⟩:=K8<|u 0 ZdO;exact .sl _ b o cap k vs g p ⟨z,c,e,r,A⟩ t u λi c f=>j i c f<|d c<|Ab f
 |agg q vs g p _ j=>
  cases d with
  |agg _ d=>exact .agg q vs g p λi c f=>j i c f<|d c<|ZeW f
 |am l vs g _ j=>
  cases d with
  |am _ d=>exact .am l vs g λi c f=>j i c f<|d c<|ZeW f
 |_=>cases d
def Ii(l:Z8):NoZ<|.sl<|l.map vu:=.sl _ (λy f=>by obtain⟨z,_,rfl⟩:=Zf8.1 f;simp) λc a=>by
 rw[Ue λx d=>Zel]at a;obtain⟨y,_,rfl⟩:=Zf8.1 a;exact .int _ _
def Ih(l:Z8):NoZ<|.sl<|l.map vi:=.sl _ (λy f=>by obtain⟨z,_,rfl⟩:=Zf8.1 f;simp) λc a=>by
 rw[Ue λx d=>Zel]at a;obtain⟨y,_,rfl⟩:=Zf8.1 a;exact .int _ _
def Ig(g:Gr):NoZ<|Yz g:=.agg _ λc a=>by
 have:c=.sl (g.nodes.map Yk)\/c=.sl (g.E.map vi):=ZeC;obtain rfl|rfl:=this;refine .sl _ (λy d=>by obtain⟨z,_,rfl⟩:=Zf8.1 d;simp) λc a=> ?_;obtain⟨y,d,a⟩:=Zhs.1 a;obtain⟨n,_,rfl⟩:=Zf8.1 d;have:c=.sl (n.M.map vi)\/c=.sl (n.data.map vu):=ZeC;obtain rfl|rfl:=this;exact Ih _;exact Ii _;exact Ih _
def If(g:Gr):NoZ<|Vb g:=by
 unfold Vb;split;all_goals
  refine .am _ λc a=> ?_;simp only[Zfb,Zgj,Zhu]at a;obtain rfl|rfl:=a;exact Ig _;exact .int _ _
def UE(h:Hp):NoM<|ZE h:=.agg _ λc a=>by
 simp only[Zfb,Zgj,Zhu]at a;obtain rfl|rfl|rfl|rfl|rfl|rfl|rfl|rfl|rfl|rfl:=a;all_goals first|exact .int _ _|exact .bool _|exact yJ _
noncomputable def ops4:Array Oper:=L1<|Yq ofC [1,1,1,0]
def Z57:(ops4.all λo=>XX Sol.prog xw o.op)=xk:=Z2
def Z71:YT Sol.prog xw (Yq ofC [1,1,1,1])=xk:=Z2
def Z4V:Sol.prog.funcs[38]?=J (Ng Try.f38):=by
 have:=Try.func38;simp only[Sol.prog,WX,ZhT,this,Zfe];rfl
def Ht{X:Cx}{w:Z3}{t:Nat->Question->Nat}{b:Nat}{cs:Zd}{T:Zh}(h:w.heap[b]?=J (.cells cs T (0,0)))(a:X.O b)(d:b<X.n0):(X.cl w t).heap[b]?=J (.cells cs T (0,0)):=by
 rw[Bc,if_pos d,h];unfold Cx.im;dsimp only;rw[if_pos a,if_pos ⟨trivial,λc e g f=>ZdN⟩]
def Z6X{B g k:Nat}{a:Act}{A C:Zh}{K:Z4}{h:Hp}{x:Z5}{l:Z3}
  (z:a.tmps.size=82) (Q:a.defers=[]) (T:a.tmps[1]?=J (.pointer<|J ⟨g,0,U⟩)) (W:a.tmps[2]?=J (.pointer<|J ⟨k,0,U⟩)) (X:a.tmps[3]?=J (.int .i64 0))
  (n:l.heap[g]?=J (.cells #[.int .u64 h.base,.int .i64 h.cap,.int .i64 h.to,.bool h.Y,.int .i64 h.Z,x 0,x 1,x 2,x 3,x 4] A (0,0))) (o:l.heap[k]?=J (.cells #[.slice U 0 0,.slice U 0 0] C (0,0)))
  (N:B<=g) (O:B<=k) (M:g≠k) (k1:¬K g) (k2:¬K k) (D:∀b,K b->b<xz (xj l)) (r:∀j,j<5->Rd l K (.sl<|(Zu h j).map vu) (x j)):
  RelS K [4,23] a.tmps cV B K l 82 [.no,.m [vu h.base,vi h.cap,vi h.to,.bool h.Y,vi h.Z,.sl<|h.H.map vu,.sl<|h.ab.map vu,.sl<|h.ah.map vu,.sl<|h.ak.map vu,.sl<|h.E.map vu],.m [.sl [],.sl []],.v<|vi 0] a l Lj:=by
 have l1:=(ZeT.1 n).1;have l2:=(ZeT.1 o).1;have Z:cV.ix 1=1:=ZdQ;have i2:cV.ix 2=2:=ZdQ;have i3:cV.ix 3=3:=ZdQ;refine⟨⟨{F:=K,bl:=λt i=>if t=1/\i=0 then J g else if t=2/\i=0 then J k else U,K:=K},⟨⟨Z0,D,λb f=>.inl f,λb f=>f,λt i b f=> ?_,λt i u j b f P=> ?_,D,λt i b f=> ?_,λb f=>.inl f⟩,λt _ S=> ?_,λt R=> ?_⟩,rfl⟩,λp Y=> ?_,.refl _ _,z,Q⟩;grind;grind;grind;rw[Yy]at S⊢;by_cases G:t=1;subst G;refine⟨_,T,g,_,A,rfl,rfl,n,rfl,λi y d=> ?_⟩;have q:i<10:=(ZeM.1 d).1
 match i,q with
 |0,_=>cases d;exact⟨_,ZeF,rfl,.int _ _⟩
 |1,_=>cases d;exact⟨_,ZeF,rfl,.int _ _⟩
 |2,_=>cases d;exact⟨_,ZeF,rfl,.int _ _⟩
 |3,_=>cases d;exact⟨_,ZeF,rfl,.bool _⟩
 |4,_=>cases d;exact⟨_,ZeF,rfl,.int _ _⟩
 |5,_=>cases d;exact⟨_,ZeF,rfl,r 0 Z0⟩
 |6,_=>cases d;exact⟨_,ZeF,rfl,r 1 Z0⟩
 |7,_=>cases d;exact⟨_,ZeF,rfl,r 2 Z0⟩
 |8,_=>cases d;exact⟨_,ZeF,rfl,r 3 Z0⟩
 |9,_=>cases d;exact⟨_,ZeF,rfl,r 4 Z0⟩
 |i+10,h=>omega
 by_cases H:t=2;subst H;refine⟨_,W,k,_,C,rfl,rfl,o,rfl,λi y d=> ?_⟩;have w:i<2:=(ZeM.1 d).1
 match i,w with
 |0,_=>cases d;exact⟨_,ZeF,rfl,.nil _ _<|ZfO _⟩
 |1,_=>cases d;exact⟨_,ZeF,rfl,.nil _ _<|ZfO _⟩
 |i+2,h=>omega
 by_cases L:t=3;subst L;exact⟨_,X,_,ZeF,.int _ _⟩;simp_all[Lj,SS.at,Zgu,TK.bm];refine absurd ?_ R;rw[Yy];split<;>exact VT _;grind [Lj,SS.at]
def PG(cs:Z7)(r:V)(D:Z4)(g:Zj)(w:Z3):Prop:=
 ∃a,g=G a cs/\a.fn=38/\a.mode=.returning/\a.defers=[]/\a.kind=.normal/\∀d,∃v,(results Try.f38 a.tmps).run Try.prog (w.at d)=.ok v (w.at d)/\Rd (w.at d) (λb=>D b/\b<xz (xj w)) r v
def Z43{c n0 B C D:Nat}{a:Act}{T1 T2:Zh}{K:Z4}{h:Hp}{x:Z5}{w:Z3}{cs:Z7}{fs:List (Fo×Value)}{fin:Vw}(hh:h.ok)
  (e4:a.tmps.size=82) (hd:a.defers=[]) (t1:a.tmps[1]?=J (.pointer<|J ⟨C,0,U⟩)) (t2:a.tmps[2]?=J (.pointer<|J ⟨D,0,U⟩)) (t3:a.tmps[3]?=J (.int .i64 0)) (t4:a.tmps[4]?=J (.chan<|J c))
  (S:w.heap[C]?=J (.cells #[.int .u64 h.base,.int .i64 h.cap,.int .i64 h.to,.bool h.Y,.int .i64 h.Z,x 0,x 1,x 2,x 3,x 4] T1 (0,0))) (T:w.heap[D]?=J (.cells #[.slice U 0 0,.slice U 0 0] T2 (0,0)))
  (f0:B<=xz (xj w)) (d5:B<=C) (d6:B<=D) (c1:C≠D) (k1:¬K C) (k2:¬K D) (b4:xz (xj w)<=n0) (hc:c<n0)
  (hK:∀b,K b->∃cs e fr,w.heap[b]?=J (.cells cs e fr)) (a2:∀(b:Nat) (cs:Zd) (e:Zh) (fr:Nat×Nat),w.heap[b]?=J (Obj.cells cs e fr)->JW n0 (Obj.cells cs e fr)) (e1:∀v∈a.tmps,FixV n0 v) (hx:∀j,j<5->FixV n0 (x j))
  (hr:∀j,j<5->Rd w K (.sl<|(Zu h j).map vu) (x j)) (a5:∀y∈fs,Rd w K (Xe y.1) y.2/\NoM (Xe y.1)) (e0:fs.map (·.2)=Ws h x 4 0) (hn:I fs<=4000000) (b3:(fs.map (·.1)).foldl Vw.put ⟨[],[],[]⟩=fin) (hs:fin.sm h.E):
  Play Try.prog xk c K (λ_=>PG cs (Vb<|fin.gr h.E)<|λb=>K b\/B<=b) ((Ws h x 4 0).map .recv++[.closed zF]) (λb=>b=C\/b=D) (G ((base 38).at a [.inRegion ops4 [],.code<|Yq ofC [1,1,1,1]]) cs) w:=by
 have f1:∀b,K b->b<xz (xj w):=λb H=>ZdN;have l1:=(ZeT.1 S).1;have l2:=(ZeT.1 T).1;let X:Cx:=TZ Try.prog Sol.prog n0 K (λb=>b=C\/b=D);have R:∀ρ,(X.at ρ).P=Try.prog:=λρ=>Sol.sub.same.symm;have f3:∀t,xz (xj<|X.cl w t)=n0:=λt=>by simp[Cx.cl,X,TZ]
 have d9:(Ws h x 4 0).map Ev.recv=fs.map λy=>.recv y.2:=by rw[<-e0,Zhh];rfl
 have a8:∀b,(b=C\/b=D)->¬K b:=λb H=>ZdN
 have hw:=Du X (Sol.sub.ok n0 K<|λb=>b=C\/b=D) (c:=c) (es:=(Ws h x 4 0).map .recv++[.closed zF]) (fr:=(base 38).at a [.inRegion ops4 [],.code<|Yq ofC [1,1,1,1]]) (cs:=[]) (ds:=cs) (main:=xk) (wc:=w)
  (λe L=>by
   obtain L|L:=Zfg.1 L;obtain⟨v,hv,rfl⟩:=Zf8.1 L;obtain⟨q,o,hq,rfl⟩:=Al hv;exact⟨FF (hx q Z0) o,hc⟩;have:e=.closed zF:=ZeA;subst this;exact⟨λρ _=>by simp_all[zF,WD,Zt],hc⟩)
  (λρ=>by
   refine⟨⟨λi p=> ?_,λd a4=> ?_,.inl rfl,.inr<|.inr ⟨_,_,Z4V,Try.func38,rfl⟩⟩,λf hf=>by simp at hf,rfl⟩;have:i=.inRegion ops4 []\/i=.code (Yq ofC [1,1,1,1]):=by simpa[Frame.at]using p
   obtain rfl|rfl:=this;exact Z57;exact Z71;rw[show((base 38).at a [.inRegion ops4 [],.code<|Yq ofC [1,1,1,1]]).defers=a.defers from rfl,hd]at a4;simp at a4)
  (λf hf=>by
   have:f=(base 38).at a [.inRegion ops4 [],.code<|Yq ofC [1,1,1,1]]:=by simpa using hf
   subst this;intro ρ hρ;simp only[Zw,Frame.at,SY e1 ρ hρ,hd];rfl)
  (λb o M hO=>by
   obtain hO|hO:=hO;obtain rfl|rfl:=hO;rw[S]at M;cases M;exact a2 _ _ _ _ S;rw[T]at M;cases M;exact a2 _ _ _ _ T;obtain⟨cs,e,fr,L⟩:=hK b hO;rw[M]at L;cases L;exact a2 _ _ _ _ M)
  (Post:=λwl=>DG (base 38) (λA b=>K b\/(B<=b/\b<xz (xj A)))<|Vb<|fin.gr h.E)
  (λt=>by
   rw[d9];have b5:∀ {y:V} {v:Ze},Rd w K y v->NoM y->Rd (X.cl w t) K y v:=λ{y v} h1 h2=>by
    clear a5;induction h1 with
    |int k n=>exact .int k n
    |bool b=>exact .bool b
    |str s=>exact .str s
    |nil a cap h=>exact .nil a cap h
    |sl l b o cap k vs q1 q2 H hf a3 _ Z=>
     cases h2 with
     |sl _ W=>exact .sl l b o cap k vs q1 q2 H hf (λi p=>yw (λM=>a8 b M H) (λc e fr _=>H) b4<|a3 i p) λi c p=>Z i c p<|W c<|Ab p
    |agg cs vs q1 q2 _ Z=>
     cases h2 with
     |agg _ W=>exact .agg cs vs q1 q2 λi c p=>Z i c p<|W c<|ZeW p
    |am l vs q1 _ Z=>
     cases h2 with
     |am _ W=>exact .am l vs q1 λi c p=>Z i c p<|W c<|ZeW p
    |ptr cs b o vs H q1 a3 _ Z=>
     cases h2 with
     |ptr _ W=>exact .ptr cs b o vs H q1 (λi p=>yw (λM=>a8 b M H) (λc e fr _=>H) b4<|a3 i p) λi c p=>Z i c p<|W c<|ZeW p
    |fn f=>exact .fn f
    |cp f cs vs q1 _ Z=>
     cases h2 with
     |cp _ _ W=>exact .cp f cs vs q1 λi c p=>Z i c p<|W c<|ZeW p
    |gq=>exact .gq
    |gt=>exact .gt
    |lj=>cases h2
    |mp=>cases h2
   refine LS.gg<|Z4W (G:=K) (B:=B) (Z6X e4 hd t1 t2 t3 (Ht S (.inl rfl) (by show C<n0;omega)) (Ht T (.inr rfl) (by show D<n0;omega)) d5 d6 c1 k1 k2 (λb H=>ZdN) λj hj=>b5 (hr j hj)<|yJ _) t4 rfl (λy hy=>b5 (a5 y hy).1 (a5 y hy).2) hn b3 hs)
 have hw:Play Try.prog xk c K _ ((Ws h x 4 0).map .recv++[.closed zF]) (λb=>b=C\/b=D) (G ((base 38).at a [.inRegion ops4 [],.code<|Yq ofC [1,1,1,1]])<|[]++cs) w:=(R id)▸hw;refine hw.mono λO g A ⟨ρ,t,e9,e7,a0,fc,cc,hg,hid,⟨d8,N,b9,e2,a4,v,hv,e5⟩,Y⟩=> ?_;subst hg d8 e2;have u:fc=Zw ρ {(base 38).at N b9 with mode:=.returning}:=Y.bf;have b6:cc=cs:=Y.under;subst b6;refine⟨fc,rfl,by rw[u];rfl,by rw[u];rfl,by rw[u];show N.defers.map _=_;grind,by rw[u];rfl,λd=> ?_⟩;have b7:(X.at ρ).WR a0<|A.at d:=Ea Y.wr d;have a6:=Hl Try.f38<|N.tmps.map<|Zt ρ;have a7:Ye ((results Try.f38<|N.tmps.map<|Zt ρ).run Try.prog<|A.at d)=A.at d:=a6.world _
 have F:=(AI (X:=X.at ρ) (V:=[]) Try.f38 N.tmps).run a0 (A.at d) #[] b7 (λr hr=>by simp at hr)
  (λj hj=>by
   rw[R ρ]at hj;have e:(Ye<|(results Try.f38<|N.tmps.map<|Zt (X.at ρ).ρ).run Try.prog<|A.at d).drawn=(A.at d).drawn:=ZfS World.drawn a7;omega)
  (λj hj=>by
   rw[R ρ]at hj;have e:xz (xj<|Ye<|(results Try.f38<|N.tmps.map<|Zt (X.at ρ).ρ).run Try.prog<|A.at d)=xz (xj<|A.at d):=ZfS (λw=>xz<|xj w) a7;omega)
 have d0:(results Try.f38 N.tmps).run (X.at ρ).Q a0=.ok v a0:=hv;rw[d0,R ρ]at F;obtain⟨b,c0,e8,L,d7,f2⟩:=F;have a1:(results Try.f38<|N.tmps.map<|Zt ρ).run Try.prog (A.at d)=.ok b c0:=by
  have:=ZfS Prod.fst L;rw[ZgP]at this;exact this
 have e6:c0=A.at d:=by
  have:=a7;rw[a1]at this;exact this
 subst e6;have a9:b=Zt ρ v:=d7;refine⟨b,by rw[u];exact a1,?_⟩;rw[a9];refine(Z6x (N9 b7 e5 (If _).m)<|If _).mono λb' b0=> ?_;obtain⟨⟨z,hz,rfl⟩,e3⟩:=b0;refine⟨?_,e3⟩;by_cases b8:z<n0;have e:(X.at ρ).ρ z=z:=hid z b8;grind;obtain hz|hz:=hz;grind;right;have:=Y.new z (Nat.le_of_not_lt b8) hz.2;omega
def WM(h:Hp)(p:Nat)(o:Ob):Fo:=⟨o,(Y2 (Zv h) ((p:Int)+1) o.aa).1,((Zu h p).drop (o.aa+1).toNat).take o.size.toNat⟩
def XG(h:Hp):Nat->Nat->List Fo
 |0,_=>[]
 |n+1,p=>(obP h p).map (WM h p)++XG h n (p+1)
def TB(h:Hp)(x:Z5):Nat->Nat->List (Fo×Value)
 |0,_=>[]
 |n+1,p=>(obP h p).map (λo=>(WM h p o,Uy h x p o))++TB h x n (p+1)
def Ak h x:∀n p,(TB h x n p).map (·.1)=XG h n p
 |0,p=>rfl
 |n+1,p=>by simp_all[TB,XG,ZfV,Zhh,Ak]
def FY h x:∀n p,(TB h x n p).map (·.2)=Ws h x n p
 |0,p=>rfl
 |n+1,p=>by simp_all[TB,Ws,ZfV,Zhh,FY]
def FX{h x y}:∀ {n p},y∈TB h x n p->∃q o,q<p+n/\o∈obP h q/\y=(WM h q o,Uy h x q o)
 |0,p,a=>by simp[TB]at a
 |n+1,p,a=>by
  simp[TB,Zf8]at a;obtain⟨o,f,rfl⟩|a:=a;exact⟨p,o,Z0,f,rfl⟩;let⟨q,o,g,d⟩:=FX a;exact⟨q,o,Z0,d⟩
def XN(h:Hp):Vw:=(XG h 4 0).foldl Vw.put ⟨[],[],[]⟩
def Jn(h:Hp):V:=if Yt h=xk then Vb ((XN h).gr h.E)else .am [Yz UD,vi 1]
structure OfOk (h:Hp):Prop where
 ob:∀p,p<4->I (obP h p)<=1000000/\∀o∈obP h p,0<=o.aa/\0<=o.size/\o.aa+1+o.size<=I (Zu h p)
 n:I (XG h 4 0)<=4000000
 sm:(XN h).sm h.E
def Z6B{w K}{l:Z8}{v}(h:Rd w K (.sl<|l.map vu) v){d n}(q:0<I l)(N:d+n<=I l):Rd w K (.sl<|((l.drop d).take n).map vu)<|Rn v d n:=by
 generalize g:l.map vu=L at h;have p:I L=I l:=by rw[<-g,Zfc]
 cases h with
 |nil a cap H=>simp_all
 |sl _ b o cap k vs C D r t F u=>
  have M:k=1:=by
   have A:vu (l[0]'q)∈L:=by rw[<-g];exact ZgJ Z1
   have:=(t _ A).1;simpa[vu,V.cells]using this.symm
  unfold Rn;dsimp only;have z:I (((l.drop d).take n).map vu)=n:=ZdP;by_cases B:n=0;subst B;simp[List.take_zero,Zgb];exact .nil _ _ Z0;rw[if_neg Z0]
  have:=Rd.sl (w:=w) (G:=K) (((l.drop d).take n).map vu) b (o+d) (cap-d) 1 (λi=>vs<|d+i) Z0 Z0 r ZdN
   ZdN
   (λi c f=>by
    rw[Ue λx j=>by obtain⟨y,_,rfl⟩:=Zf8.1 j;rfl,Zfa,Zfo]at f;split at f;rw[Zfn]at f;exact u _ c (by rw[<-g,Ue λx j=>by obtain⟨y,_,rfl⟩:=Zf8.1 j;rfl,Zfa];exact f);cases f)
  simp_all
def Z4z f:NoM<|Xe f:=.agg _ λc a=>by
 simp[Zhu]at a;obtain rfl|rfl|rfl|rfl|rfl|rfl|rfl:=a;all_goals first|exact .int _ _|exact .bool _|exact yJ _
def Z1S{w K h x}(d:OfOk h)(r:∀j,j<5->Rd w K (.sl<|(Zu h j).map vu) (x j)):∀y∈TB h x 4 0,Rd w K (Xe y.1) y.2/\NoM (Xe y.1):=by
 intro y g;obtain⟨q,o,p,f,rfl⟩:=FX g;refine⟨?_,Z4z _⟩;let⟨k,l,n⟩:=(d.ob q Z0).2 o f;refine .agg _ _ rfl Z1 λi c a=> ?_
 match i,a with
 |0,a=>cases a;exact .int _ _
 |1,a=>cases a;exact .int _ _
 |2,a=>cases a;exact .int _ _
 |3,a=>cases a;exact .bool _
 |4,a=>cases a;exact .int _ _
 |5,a=>cases a;exact .int _ _
 |6,a=>cases a;exact Z6B ZdN Z0 Z0
noncomputable def cB:Ctx:= {P:=Yc Try.prog,ix:=(vf<|Yc Try.prog).ix,own:=λ_=>xw,fresh,sig:=CU,tr:=[3],n:=82}
def ES{P}:∀ {c},Tu P c=xk->TX (Lg.lf<|Yc P) c:=by
 intro c;induction c with
 |region id j d=>exactλh o g=>(ZgO.1 h) o g
 |seq x y a f=>intro h;simp[Tu]at h;exact⟨a h.1,f h.2⟩
 |cond c x y a f=>intro h;simp[Tu]at h;exact⟨a h.1,f h.2⟩
 |block id x a=>exact a
 |loop x a=>exact a
 |scope x a=>exact a
 |_=>intro h;first|trivial|cases h
def J4:(Yc Try.prog).follows .mixedOrders=xk:=Z2
def Im{code S st fl B G Kf s a w w0 T0 N X Rt}(f:Tu Try.prog code=xk)(hc:comp (vf<|Yc Try.prog) code S=J (st,fl))(h:RelS Kf [4,23] T0 cB B G w0 82 s a w S)(j:Yv (Yc Try.prog) st s N X Rt):
  Tm Try.prog code (Post Kf [4,23] T0 cB B G w0 82 fl N X Rt) a w:=
 letI:Lg (vf<|Yc Try.prog).P:=besI Try.prog
 jT (fc:=vf<|Yc Try.prog) J4 (λp k q g d=>Cj ZdO (Zge _ g) d) rfl rfl rfl (ZeQ _) code (ES f) hc h j
def Z4Q:Try.f38.body=J ofC:=Z2
def Z4R:ofC=.seq (Yq ofC [0]) (.seq (Yq ofC [1,0])<|.seq (Yq ofC [1,1,0])<|.seq (Yq ofC [1,1,1,0])<|Yq ofC [1,1,1,1]):=Z2
noncomputable def ops3:Array Oper:=L1<|Yq ofC [1,1,0]
def Z6m:Yq ofC [1,1,0]=.region 3 ops3 xw:=Z2
def Z6n:Yq ofC [1,1,1,0]=.region 4 ops4 xw:=Z2
def Z52:∃o,ops3[0]?=J o/\o.guard=U/\o.dst=J 18/\o.op=.makeChan 121 (.const<|.int .i64 0):=⟨_,rfl,rfl,rfl,rfl⟩
def Z53:∃o,ops3[1]?=J o/\o.guard=U/\o.dst=J 4/\o.op=.assign (.tmp 18):=⟨_,rfl,rfl,rfl,rfl⟩
def Z54:∃o,ops4[0]?=J o/\o.guard=U/\o.dst=J 19/\o.op=.load 30 (.tmp 1):=⟨_,rfl,rfl,rfl,rfl⟩
def Z55:∃o,ops4[1]?=J o/\o.guard=U/\o.dst=J 20/\o.op=.move (.tmp 4):=⟨_,rfl,rfl,rfl,rfl⟩
def Z56:∃o a,ops4[2]?=J o/\o.guard=U/\o.dst=U/\o.op=.go ⟨.value<|.func 56, #[.tmp 19,.tmp 20],a⟩:=⟨_,_,rfl,rfl,rfl,rfl⟩
def Iw:ops3.size=2/\ops4.size=3:=⟨rfl,rfl⟩
def Z17:∃d inf,Try.prog.underlying 121=J (.chan d 126)/\Try.prog.info? 126=J inf:=⟨_,_,rfl,rfl⟩
def Z0o{B w w'}(h:Below B w w')d:Below B w<|w'.at d:=⟨h.os,h.tape,h.output,h.size,h.block⟩
def Z1Z{b:Zg}{k:Zn}{cs:Z7}{a:Act}{g:Ze}{c:Nat}(l:b.kind≠.early)(d:a.tmps[19]?=J g)(f:a.tmps[20]?=J (.chan<|J c))(w:Z3):
  stepG Try.prog xk (G (b.at a<|.inRegion ops4 [2]::k) cs) w=.spawn (G (b.at a<|.inRegion ops4 []::k) cs) (born Try.prog {target:=.fn (.func 56) #[],args:=#[g,.chan<|J c]}) w #[]:=by
 obtain⟨o,j,n,p,q,r⟩:=Z56;have t:=Act.al a 19 _ d;have u:=Act.al a 20 _ f;have h:execOp a.eval o=(pure (.spawn {target:=.fn (.func 56) #[],args:=#[g,.chan<|J c]}):Sem Next):=by
  unfold execOp;simp only[r];simp[resolve,Deferred.ofValue,Act.eval,d,f]
 have:=stepG_spawn (P:=Try.prog) (main:=xk) (b:=b) (a:=a) (k:=k) (cs:=cs) (w:=w) (i:=2) (rest:=[]) n (by simp[Region.wanted,p]) l (by rw[h];rfl) rfl;rw[q]at this;rw[this];unfold listed;rw[h];rfl
def Z4U{h B G s a w w0 T0}(S:RelS G [4,23] T0 cB B G w0 82 s a w N6)(q1:get s 1=.m [vu h.base,vi h.cap,vi h.to,.bool h.Y,vi h.Z,.sl<|h.H.map vu,.sl<|h.ab.map vu,.sl<|h.ah.map vu,.sl<|h.ak.map vu,.sl<|h.E.map vu])(q3:get s 3=.v (vi 0)):
  ∃(F:Z4) (k l:Nat) (r t:Zh) (x:Z5),(∀b,F b->G b\/B<=b)/\¬F k/\¬F l/\B<=k/\B<=l/\k≠l/\B<=xz (xj w)/\a.tmps[1]?=J (.pointer<|J ⟨k,0,U⟩)/\a.tmps[2]?=J (.pointer<|J ⟨l,0,U⟩)/\a.tmps[3]?=J (.int .i64 0)/\
   w.heap[k]?=J (.cells #[.int .u64 h.base,.int .i64 h.cap,.int .i64 h.to,.bool h.Y,.int .i64 h.Z,x 0,x 1,x 2,x 3,x 4] r (0,0))/\w.heap[l]?=J (.cells #[.slice U 0 0,.slice U 0 0] t (0,0))/\
   (∀j,j<5->Rd w F (.sl<|(Zu h j).map vu) (x j)):=by
 let⟨⟨L,k1,k2⟩,k3,k4,k5,k6⟩:=S;have X:cB.ix 1=1:=ZdQ;have Y:cB.ix 3=3:=ZdQ;obtain⟨u1,t1,k,d,r,P,rfl,f3,H⟩:=k1.aa 1 (by rw[Yy];exact VT _) ZeF;obtain⟨u2,t2,l,f,t,g1,rfl,g3,K⟩:=k1.aa 2 (by rw[Yy];exact VT _) ZeF;let⟨u3,t3,u⟩:=k1.aa 3 (by rw[Yy];exact VT _) ZeF;obtain⟨y3,o,A⟩:∃y,eval s _=J y/\Rd w _ y u3:=u;rw[Y]at o;simp[eval,q3,ZeK]at o;subst o;have M:=Sq A;subst M;have T:d.size=10:=H.1;have W:f.size=2:=K.1;have g:∀i y,[vu h.base,vi h.cap,vi h.to,.bool h.Y,vi h.Z,.sl<|h.H.map vu,.sl<|h.ab.map vu,.sl<|h.ah.map vu,.sl<|h.ak.map vu,.sl<|h.E.map vu][i]?=J y->Rd w L.F y _:=λi y n=>by
  have p:i<10:=(ZeM.1 n).1
  have:=H.2 i (.fz,.m (cB.ix 1) i) (by
   match i,p with
   |0,_=>rfl
   |1,_=>rfl
   |2,_=>rfl
   |3,_=>rfl
   |4,_=>rfl
   |5,_=>rfl
   |6,_=>rfl
   |7,_=>rfl
   |8,_=>rfl
   |9,_=>rfl
   |i+10,h=>omega)
  let⟨z,D,z2,z3⟩:=this;rw[X]at D;simp[eval,q1,n,ZeX]at D;obtain⟨rfl,_⟩:=Sn D;exact z3
 have R:∀i,i<2->f.getD i undef=.slice U 0 0:=λi n=>by
  have:=K.2 i (.nil,.m (cB.ix 2) i) (by
   grind)
  exact this.1
 have N:d=#[.int .u64 h.base,.int .i64 h.cap,.int .i64 h.to,.bool h.Y,.int .i64 h.Z,d.getD 5 undef,d.getD 6 undef,d.getD 7 undef,d.getD 8 undef,d.getD 9 undef]:=by
  refine Zhc Z0 λi q C=> ?_;have n:i<10:=by simpa using C
  have e:d[i]=d.getD i undef:=by simp[Array.getD,q]
  rw[e]
  match i,n with
  |0,_=>exact Sq<|g 0 _ rfl
  |1,_=>exact Sq<|g 1 _ rfl
  |2,_=>exact Sq<|g 2 _ rfl
  |3,_=>exact N8<|g 3 _ rfl
  |4,_=>exact Sq<|g 4 _ rfl
  |5,_=>rfl
  |6,_=>rfl
  |7,_=>rfl
  |8,_=>rfl
  |9,_=>rfl
  |i+10,h=>omega
 have O:f=#[.slice U 0 0,.slice U 0 0]:=by
  refine Zhc Z0 λi q C=> ?_;have n:i<2:=by simpa using C
  have e:f[i]=f.getD i undef:=by simp[Array.getD,q]
  rw[e,R i n]
  match i,n with
  |0,_=>rfl
  |1,_=>rfl
  |i+2,h=>omega
 let⟨Z,m2,m3⟩:=k1.ok.aq 1 0 k P;let⟨n1,n2,n3⟩:=k1.ok.aq 2 0 l g1;refine⟨L.F,k,l,r,t,λj=>d.getD (5+j) undef,k1.ok.cq,m3,n3,Z,n1,λe=> ?_,Z0,t1,t2,t3,ZdN,ZdN,λj Q=> ?_⟩;grind
 match j,Q with
 |0,_=>exact g 5 _ rfl
 |1,_=>exact g 6 _ rfl
 |2,_=>exact g 7 _ rfl
 |3,_=>exact g 8 _ rfl
 |4,_=>exact g 9 _ rfl
 |j+5,h=>omega
def DR{h:Hp}(hh:h.ok)(hk:Yt h=xk->OfOk h):VC (Yc Try.prog) 38 xw [ZE h]<|Jn h:=by
 refine⟨Z2,λw G vs hG h4 g9 q C hK=> ?_⟩;have Y:VC (Yc Try.prog) 17 xw [ZE h]<|.bool<|Yt h:=Ha Sol.sub (QD hh) (λy hy=>by rw[ZfW.1 hy];exact UE h)<|.bool _;have e0:vs.size=1:=h4;have h6:Rd w G (ZE h)<|vs.getD 0 undef:=g9 0 _ rfl;have Z:Frame.enter Try.prog 38 vs .normal=(base 38).at {tmps:=vs++Array.replicate (82-vs.size) undef,defers:=[]} [.code ofC]:=by
  rw[enter_at vs Try.func38 Z4Q,Try.ntmps38]
 show Walk Try.prog C (Frame.enter Try.prog 38 vs .normal) q w;rw[Z,Z4R];clear Z;have i0:cB.ix 0=0:=ZdQ;generalize a4:({tmps:=vs++Array.replicate (82-vs.size) undef,defers:=[]}:Act)=a0;have t0:a0.tmps[0]?=J (vs.getD 0 undef):=by
  rw[<-a4];simp only;rw[ZgK Z0];simp[ZeS,e0]
 have g8:RelS G [4,23] a0.tmps cB (xz<|xj w) G w 82 [.v<|ZE h] a0 w qv:=by
  refine⟨⟨{F:=G,bl:=λ_ _=>U,K:=G},⟨⟨ZeQ _,hG,λb a=>.inl a,λb a=>a,λt i b a=>(by cases a),λt i u j b a=>(by cases a),hG,λt i b a=>(by cases a),λb a=>.inl a⟩,λt _ hk=> ?_,λt hh=> ?_⟩,rfl⟩,λp B=> ?_,.refl _ _,by rw[<-a4];simp[e0],by rw[<-a4]⟩;rw[Yy]at hk⊢;by_cases e:t=0;subst e;exact⟨_,t0,ZE h,by rw[i0];rfl,h6.mono λb a=>.inl a⟩;simp[qv,SS.at,Zgu e,TK.bm]at hk;refine absurd ?_ hh;rw[Yy];split<;>exact VT _;simp only[qv,SS.at]at B;split at B<;>cases B
 refine .cw (Im Z2 r0c g8 (N:=λs'=>get s' 1=.m [vu h.base,vi h.cap,vi h.to,.bool h.Y,vi h.Z,.sl<|h.H.map vu,.sl<|h.ab.map vu,.sl<|h.ah.map vu,.sl<|h.ak.map vu,.sl<|h.E.map vu]/\get s' 2=.m [.sl [],.sl []]/\get s' 3=.v (vi 0)) (X:=λ_ _=>False) (Rt:=λ_=>False) (by simp[r0]) (base 38) _ q C (by simp[base]) λe a1 w1 B=> ?_);cases e with
 |exit id=>obtain⟨_,_,_,h,_⟩:=B;exact h.elim
 |ret=>obtain⟨_,_,_,h,_⟩:=B;exact h.elim
 |normal=>
  obtain⟨s1,S1,f9,⟨q1,q2,q3⟩,d8⟩:=B;cases f9;have b6:Below (xz<|xj w) w w1:=d8.2.2.1.below;refine .cw (Im Z2 rXc d8.base (N:=λs'=>Yt h=xk/\get s' 1=get s1 1/\get s' 3=get s1 3) (X:=λ_ _=>False) (Rt:=λs'=>Yt h=xw/\Wm s' [(2,.ag 2),(3,.v)]=J (.am [Yz UD,vi 1])) ?_ (base 38) _ q C (by simp[base]) λe a2 w2 B=> ?_);simp[rX,q1];refine Zz Y Z1 ?_;cases i7:Yt h;simp[YW,Wm,U3,Tf,UD,Yz];simp[YW,q1];cases e with
  |exit id=>obtain⟨_,_,_,h,_⟩:=B;exact h.elim
  |ret=>
   obtain⟨s2,S2,L,⟨e1,e2⟩,l⟩:=B;have L:S2=Cs:=ZeA;subst L;have a6:Below (xz<|xj w) w w2:=b6.trans l.2.2.1.below;intro i4;refine hK _ w2 rfl ⟨rfl,l.2.2.2.2,rfl,_,Try.func38,λd=> ?_⟩;obtain⟨⟨h2,k1,k2⟩,k3,k4,k5,k6⟩:=l.lw d
   obtain⟨v,hv,a9⟩:=Lp (c:=cB) (f:=Try.f38) (D:=λb=>(xw=xw/\G b)\/(xz (xj w)<=b/\b< xz (xj<|w2.at d))) k1 k3 (λb a=>by
    obtain R|R:=k1.ok.cq b a;exact .inl ⟨rfl,R⟩;exact .inr ⟨R,k1.ok.bo b a⟩) (λr hr=>⟨ZeY.1 (Z2:(Try.f38.results.toList.all<|R6 (Yc Try.prog) Cs)=xk) r hr,λi b a=>.inr ⟨(k1.ok.aq _ _ b a).1,(k1.ok.aq _ _ b a).2.1⟩⟩) (x:=.am [Yz UD,vi 1]) (by rw[<-e2];exact ZfS (Wm s2) Z2)
   refine⟨v,hv,v,rfl,Z0o a6 d,?_⟩;unfold Jn;rw[if_neg (by rw[e1];simp)];exact a9
  |normal=>
   obtain⟨s2,S2,L,⟨e1,e2,e3⟩,l⟩:=B;cases L;have a6:Below (xz<|xj w) w w2:=b6.trans l.2.2.1.below;have W:=hk e1;obtain⟨F,Q,b2,T1,T2,x,hF,h7,h8,f7,f8,f6,i5,t1,t2,t3,e5,e6,h0⟩:=Z4U (h:=h) l (e2.trans q1)<|e3.trans q3;have e4:a2.tmps.size=82:=l.2.2.2.1;have g5:a2.defers=[]:=l.2.2.2.2;have l1:=(ZeT.1 e5).1;have l2:=(ZeT.1 e6).1;obtain⟨o,o1,o2,o3,o4⟩:=Z52;obtain⟨o',p1,p2,p3,p4⟩:=Z53;obtain⟨dir,inf,h5,d0⟩:=Z17;refine .cw ?_;rw[Z6m];refine .region ?_;rw[Iw.1,show List.range 2=[0,1]from rfl];refine Walk.chan (i:=0) o1 (by simp[Region.wanted,o2]) (by simp[base]) o4 h5 d0 ?_;rw[o3];generalize hc:xz (xj w2)=c;obtain⟨w3,M⟩:∃w3,w3=w2.alloc (.chan 0 #[] xw 0 0 xw):=⟨_,rfl⟩;rw[<-M];have b4:((a2.put (J 18)<|.chan<|J c).eval<|.tmp 18)=.chan (J c):=Act.al _ 18 _<|RI Z0;refine Walk.val (i:=1) (v:=.chan<|J c) p1 (by simp[Region.wanted,p2]) (by simp[base]) (by rw[p4];rfl) (λw' _=>by unfold execOp;simp only[p4,b4];rfl)<|.gg ?_;rw[p3];have z3:xz (xj w3)=c+1:=by rw[M,<-hc];simp
   have b7:w3.heap[c]?=J (.chan 0 #[] xw 0 0 xw):=by rw[M,<-hc];exact Zf5 ..
   have S:∀b,b<c->w3.heap[b]?=w2.heap[b]? :=λb a=>by rw[M];exact ZeR _ _ _ Z0
   have A:Below (xz<|xj w) w w3:=by rw[M];exact a6.alloc Z0 _
   have m1:w3.heap[Q]?=_:=(S Q Z0).trans e5;have m2:w3.heap[b2]?=_:=(S b2 Z0).trans e6;obtain⟨o0,e8,e9,f0,b0⟩:=Z54;obtain⟨o9,f1,f2,f3,b3⟩:=Z55;refine .cw ?_;rw[Z6n];refine .region ?_;rw[Iw.2,show List.range 3=[0,1,2]from rfl];generalize z:(a2.put (J 18)<|.chan<|J c).put (J 4) (.chan<|J c)=a3;have g1:a3.tmps[1]?=J (.pointer<|J ⟨Q,0,U⟩):=by rw[<-z,WG Z0,WG Z0];exact t1
   have g4:a3.tmps[4]?=J (.chan<|J c):=by rw[<-z];exact RI (by rw[SL];omega)
   have gs:a3.tmps.size=82:=by rw[<-z,SL,SL];exact e4
   have f4:a3.eval (.tmp 1)=.pointer (J ⟨Q,0,U⟩):=Act.al _ 1 _ g1;refine Walk.val (i:=0) (v:=ZA h x) e8 (by simp[Region.wanted,e9]) (by simp[base]) (by rw[b0];rfl) (λw' he=> ?_) ?_
   have hl:=qL (P:=Try.prog) (w:=w') (T:=30) Z2 Z2 (b:=Q) (o:=0) [.int .u64 h.base,.int .i64 h.cap,.int .i64 h.to,.bool h.Y,.int .i64 h.Z,x 0,x 1,x 2,x 3,x 4] Z2 (λi u hi=>by
    rw[Zfy,ZeU w' Q i _ T1 (0,0) (by rw[he];exact m1)];simpa using hi)
   unfold execOp;simp only[b0,f4];rw[Zfu,hl];rfl;rw[f0];have f5:(a3.put (J 19)<|ZA h x).eval (.tmp 4)=.chan (J c):=Act.al _ 4 _ (by rw[WG Z0];exact g4);refine Walk.val (i:=1) (v:=.chan<|J c) f1 (by simp[Region.wanted,f2]) (by simp[base]) (by rw[b3];rfl) (λw' _=>by unfold execOp;simp only[b3,f5];rfl) ?_;rw[f3];generalize k:(a3.put (J 19)<|ZA h x).put (J 20) (.chan<|J c)=O;have u1:O.tmps[1]?=J (.pointer<|J ⟨Q,0,U⟩):=by rw[<-k,WG Z0,WG Z0];exact g1
   have u4:O.tmps[4]?=J (.chan<|J c):=by rw[<-k,WG Z0,WG Z0];exact g4
   have us:O.tmps.size=82:=by rw[<-k,SL,SL];exact gs
   have u2:O.tmps[2]?=J (.pointer<|J ⟨b2,0,U⟩):=by rw[<-k,WG Z0,WG Z0,<-z,WG Z0,WG Z0];exact t2
   have u3:O.tmps[3]?=J (.int .i64 0):=by rw[<-k,WG Z0,WG Z0,<-z,WG Z0,WG Z0];exact t3
   have i2:O.tmps[19]?=J (ZA h x):=by rw[<-k,WG Z0];exact RI Z0
   have i3:O.tmps[20]?=J (.chan<|J c):=by rw[<-k];exact RI (by rw[SL];omega)
   have ud:O.defers=[]:=by rw[<-k,<-z];exact g5
   let K:Nat->Prop:=λb=>F b/\∃q e H,w3.heap[b]?=J (.cells q e H);have a7:∀j,j<5->Rd w3 K (.sl<|(Zu h j).map vu) (x j):=λj hj=>by
    have R:=Z6A (h0 j hj)<|Ii _;refine R.keep (λb a=>S b ?_) λb a=>⟨a.1,?_⟩;obtain⟨_,q,e,H,a⟩:=a;have:=(ZeT.1 a).1;omega;obtain⟨_,q,e,H,a⟩:=a;exact⟨q,e,H,by rw[S b (by have:=(ZeT.1 a).1;omega)];exact a⟩
   obtain⟨n0,d6,c1,c0⟩:=FG w3<|O.tmps++ #[x 0,x 1,x 2,x 3,x 4];have hx:∀j,j<5->FixV n0 (x j):=λj hj=>by
    refine c1 _<|Zgi.2<|.inr ?_
    match j,hj with
    |0,_=>simp
    |1,_=>simp
    |2,_=>simp
    |3,_=>simp
    |4,_=>simp
    |j+5,h=>omega
   have b8:c<n0:=Z0;have h9:¬K Q:=λh=>h7 h.1;have i1:¬K b2:=λh=>h8 h.1;have b5:∀b,K b->b<xz (xj w3):=λb ⟨_,_,_,_,a⟩=>(ZeT.1 a).1;have e7:¬K c:=λ⟨_,_,_,_,a⟩=>by rw[b7]at a;cases a
   refine Walk.uf (KA:=K) (KB:=K) (OA0:=λb=>b=Q\/b=b2) (c:=c) (λw=>Z1Z (by simp[base]) i2 i3 w)
    (Z43 (fs:=TB h x 4 0) (fin:=XN h) hh us ud u1 u2 u3 u4 m1 m2 Z0 f7 f8 f6 h9 i1 d6 b8 (λb a=>a.2) (λb q e H a=>c0 b q e H a) (λv hv=>c1 v<|Zgi.2<|.inl hv) hx a7 (Z1S W a7) (FY h x 4 0) (by
     have:=W.n;rw[<-Ak h x 4 0,Zfc]at this;exact this) (by rw[Ak];rfl) W.sm)
    (Z18 hh d6 b8 (λb a=>a.2) (λb o ho a=>by
     obtain⟨_,q,e,H,he⟩:=a;rw[ho]at he;cases he;exact c0 b q e H ho) hx a7 W.ob) b7 (λb a=>by obtain rfl|rfl:=a<;>omega) b5 b5 (λb a=>by obtain rfl|rfl:=a<;>assumption) (λa=>by obtain a|a:=a<;>omega) e7 e7 ?_
   rintro OA g w' ⟨H,rfl,b9,hm,hd,g7,d9⟩ h3 a8 d7 i6 g6;refine⟨H,q,rfl,hK H w' b9 ⟨hm,hd,g7,_,by rw[b9];exact Try.func38,λd=> ?_⟩⟩;obtain⟨v,hv,a9⟩:=d9 d;refine⟨v,hv,v,rfl,⟨(ZfS Prod.fst d7).trans A.os,a8.trans A.tape,(ZfS Prod.snd d7).trans A.output,Zff A.size h3,λb a=>(g6 b (by have:=A.size;omega) (λg3=>by obtain rfl|rfl:=g3<;>omega) Z0).trans<|A.block b a⟩,?_⟩;unfold Jn;rw[if_pos e1];refine a9.mono λb a=> ?_;obtain⟨a,d5⟩:=a;obtain a|a:=a;obtain R|R:=hF b a.1;exact .inl ⟨rfl,R⟩;exact .inr ⟨R,d5⟩;exact .inr ⟨a,d5⟩
  |_=>exact B.elim
 |_=>exact B.elim
#print axioms DR
end Vm
end
section
namespace Vm
open Go Go.Proofs
section
section
variable {h:Hp}{p:Pts}
def qk(h:Hp){q:Nat}(a:q<4):Zx h ((q:Int)+1)=Zu h q:=by
 have:q=0\/q=1\/q=2\/q=3:=Z0;obtain rfl|rfl|rfl|rfl:=this<;>rfl
def Rt.ia(r:Rt h p){q:Nat}(a:q<4):obP h q=p.at ((q:Int)+1):=by
 unfold Vm.obP;rw[r.ug Z0]
def Ko{f:Fo}:∀ {n q:Nat},f∈XG h n q->∃k o,q<=k/\k<q+n/\o∈obP h k/\f=WM h k o
 |0,q,a=>by simp[XG]at a
 |n+1,q,a=>by
  simp only[XG,Zfg,Zf8]at a;obtain⟨o,g,rfl⟩|a:=a;exact⟨q,o,Z0,Z0,g,rfl⟩;obtain⟨k,o,j,l,d⟩:=Ko a;exact⟨k,o,Z0,Z0,d⟩
def Be{k:Nat}{o:Ob}(a:o∈obP h k):∀ {n q:Nat},q<=k->k<q+n->WM h k o∈XG h n q
 |0,q,d,f=>Z0
 |n+1,q,d,f=>by
  simp only[XG,Zfg,Zf8];by_cases e:k=q;subst e;exact .inl ⟨o,a,rfl⟩;exact .inr<|Be a Z0 Z0
def Z6j(s:Vw)(f:Fo):(s.put f).ns=s.ns++if f.ob.gone then []else [f]:=by
 unfold Vw.put;split<;>simp
def FS:∀(l:List Fo) (s:Vw),(l.foldl Vw.put s).ns=s.ns++l.filter λf=> !f.ob.gone
 | [],s=>Z1
 |f::l,s=>by
  rw[Zgs,FS l,Z6j];cases a:f.ob.gone<;>simp[a]
def Dp(h:Hp):(XN h).ns=(XG h 4 0).filter λf=> !f.ob.gone:=by
 unfold XN;rw[FS];rfl
def KX(r:Rt h p){q:Nat}(a:q<4):I (obP h q)<=I (Zu h q):=by
 have t:=r.an ((q:Int)+1) Z0;have:=t.sum<|ZfO _;rw[qk h a,<-r.ia a]at this;have d:I (obP h q)<=WL (obP h q):=by
  generalize obP h q=l;induction l with
  |nil=>simp
  |cons o l f=>simp only[WL,Zfi,Zi0,Zg0]at f⊢;omega
 omega
def Rt.lh(r:Rt h p){q:Nat}(l:q<4):I (Zu h q)<=4096:=by
 obtain⟨a,d,_,_,_,⟨_,_,f,g⟩,⟨_,_,j,k⟩⟩:=XK.1 r.bb;simp only[Zv]at*;have:q=0\/q=1\/q=2\/q=3:=Z0;obtain rfl|rfl|rfl|rfl:=this;show I h.H<=4096;omega;show I h.ab<=4096;omega;show I h.ah<=4096;omega;show I h.ak<=4096;omega
def Rt.np(r:Rt h p){q:Nat}(f:q<4){o:Ob}(d:o∈obP h q):∃a n m:Nat,o.aa=a/\o.size=n/\o.M=m/\a+(n+1)<=I (Zu h q)/\n<=255/\m<=n:=by
 rw[r.ia f]at d;have:=r.toTld.ob Z0 d;rwa[qk h f]at this
def lsW(a:h.ok){q:Nat}(d:q<4):∀w∈Zu h q,ZC w:=by
 have:q=0\/q=1\/q=2\/q=3:=Z0;obtain rfl|rfl|rfl|rfl:=this;exact a.fm;exact a.fq;exact a.kh;exact a.iz
def Ah(r:Rt h p){q:Nat}(f:q<4){o:Ob}(d:o∈obP h q):(WM h q o).sl.length=o.size.toNat:=by
 obtain⟨a,n,m,g,j,k,l,_⟩:=r.np f d;simp only[WM,ZfT,Zgx];omega
def Rt.uh(r:Rt h p)(x:h.ok):OfOk h:=by
 have F:I (XG h 4 0)<=16384:=by
  have A:=KX r (q:=0) Z0;have j:=KX r (q:=1) Z0;have l:=KX r (q:=2) Z0;have t:=KX r (q:=3) Z0;have G:=r.lh (q:=0) Z0;have k1:=r.lh (q:=1) Z0;have H:=r.lh (q:=2) Z0;have K:=r.lh (q:=3) Z0;simp only[XG,Zfx,Zfc,ZfU,Zfy,Nat.reduceAdd];omega
 refine⟨λq g=>⟨by have:=KX r g;have:=r.lh g;omega,λo d=> ?_⟩,Z0,⟨?_,λf u=> ?_,by have:=r.gd;omega,x.di⟩⟩;obtain⟨a,n,m,j,l,t,y,_⟩:=r.np g d;omega;rw[Dp];have:=ZhU (λf:Fo=> !f.ob.gone)<|XG h 4 0;omega;rw[Dp]at u;obtain⟨k,o,_,D,d,rfl⟩:=Ko (ZhF.1 u).1;obtain⟨a,n,m,j,l,t,y,B,C⟩:=r.np Z0 d;have e:=Ah r Z0 d;refine⟨by show 0<=o.M;omega,by show o.M<=_;rw[e];omega,by rw[e];omega,λw z=>lsW x (q:=k) Z0 w ?_⟩;exact ZgY<|ZfN z
def ofOk(a:h.ok)(d:Yt h=xk):OfOk h:=by
 obtain⟨p,r⟩:=JC.1 d;exact r.uh a
end
def PZ{h:Hp}(a:h.ok):VC (Yc Try.prog) 38 xw [ZE h]<|Jn h:=DR a<|ofOk a
end
section
structure VwI (d:List Fo) (s:Vw):Prop where
 ns:s.ns=d.filter λf=> !f.ob.gone
 n1:∀a j,Yb s.nm a=J j->∃i:Nat,j=i/\∃f,s.ns[i]?=J f/\f.ad=a
 n2:∀f∈s.ns,(Yb s.nm f.ad).isSome=xk
 t1:∀a t,Yb s.tm a=J t->∃f∈d,f.ob.gone=xk/\f.ad=a/\f.ob.target=t
 t2:∀f∈d,f.ob.gone=xk->(Yb s.tm f.ad).isSome=xk
def ym{α l k j}{x:α}(h:k=j\/(Yb l j).isSome=xk):(Yb (XU l k x) j).isSome=xk:=by
 rw[J6];split;rfl;rename_i a;obtain h|h:=h;exact absurd h a;exact h
theorem VwI.put{d s f}(i:VwI d s):VwI (d++[f])<|s.put f:=by
 cases l:f.ob.gone;have e:s.put f= {s with ns:=s.ns++[f],nm:=XU s.nm f.ad (I s.ns)}:=by simp[Vw.put,l]
 rw[e];refine⟨by simp[i.ns,l],λa j o=> ?_,λx h=> ?_,λa t n=> ?_,λx h k=> ?_⟩;simp only[J6]at o;split at o;rename_i r;exact⟨I s.ns,by simpa using o.symm,f,Z1,r⟩;have⟨m,w,g,u,y⟩:=i.n1 a j o;exact⟨m,w,g,by simp only[Zfj (ZeM.1 u).1,u],y⟩;obtain h|h:=Zfg.1 h;exact ym<|.inr<|i.n2 x h;rw[ZfW.1 h];exact ym<|.inl rfl;have⟨g,p,q⟩:=i.t1 a t n;exact⟨g,by simp[p],q⟩;obtain h|h:=Zfg.1 h;exact i.t2 x h k;rw[ZfW.1 h,l]at k;exact absurd k Z1;have e:s.put f= {s with tm:=XU s.tm f.ad f.ob.target}:=by simp[Vw.put,l]
 rw[e];refine⟨by simp[i.ns,l],i.n1,i.n2,λa t n=> ?_,λx h k=> ?_⟩;simp only[J6]at n;split at n;rename_i r;exact⟨f,Z1,l,r,by simpa using n⟩;have⟨g,p,q⟩:=i.t1 a t n;exact⟨g,by simp[p],q⟩;obtain h|h:=Zfg.1 h;exact ym<|.inr<|i.t2 x h k;rw[ZfW.1 h];exact ym<|.inl rfl
def VwI.sd:∀ {l d} {s:Vw},VwI d s->VwI (d++l) (l.foldl Vw.put s)
 | [],d,s,i=>by simpa using i
 |f::l,d,s,i=>by
  have:=VwI.sd (l:=l)<|i.put (f:=f);rwa[Zfw]at this
def JO h:VwI (XG h 4 0)<|XN h:=by
 have:VwI [] ⟨[],[],[]⟩:=⟨rfl,by simp[Yb],Z1,by simp[Yb],Z1⟩;exact this.sd (l:=XG h 4 0)
section
variable {h:Hp}{p:Pts}
def Kn(r:Rt h p){q}(d:q<4){o}(f:o∈obP h q):(WM h q o).ad=ZD (Zv h) (q+1)+o.aa:=by
 have⟨a,n,m,g,j,k,l,_⟩:=r.np d f;show(Y2 (Zv h) (q+1) o.aa).1=_;rw[SK r.bb Z0 (by rw[Ti Z0,qk h d];omega)]
def Ai(r:Rt h p){f g}(u:f∈XG h 4 0)(w:g∈XG h 4 0)(e:f.ad=g.ad):f=g:=by
 obtain⟨k,o,_,z,l,rfl⟩:=Ko u;obtain⟨j,q,_,y,n,rfl⟩:=Ko w;rw[Kn r Z0 l,Kn r Z0 n]at e;have a:=l;have d:=n;rw[r.ia Z0]at a d;have⟨x,t⟩:=r.toTld.inj Z0 Z0 a d (by unfold Y6;omega);have:k=j:=Z0;subst this;rw[t]
def Bf{f}:f∈(XN h).ns↔f∈XG h 4 0/\f.ob.gone=xw:=by
 rw[(JO h).ns];simp
def Rt.re(r:Rt h p){f}(d:f∈XG h 4 0)(n:f.ob.gone=xw):∃i:Nat,Yb (XN h).nm f.ad=J (i:Int)/\(XN h).ns[i]?=J f:=by
 have⟨j,k⟩:=ZfQ.1<|(JO h).n2 f<|Bf.2 ⟨d,n⟩;obtain⟨i,rfl,g,a,l⟩:=(JO h).n1 _ _ k;have:=Ai r (Bf.1<|ZeW a).1 d l;subst this;exact⟨i,k,a⟩
def Rt.rc(r:Rt h p){f}(a:f∈XG h 4 0)(d:f.ob.gone=xw){w}(q:w≠0)(n:(adr w).1=f.ad):∃i:Nat,(XN h).dw w=i/\(XN h).ns[i]?=J f:=by
 have⟨i,k,l⟩:=r.re a d;refine⟨i,?_,l⟩;have:Yb (XN h).tm f.ad=U:=by
  cases o:Yb (XN h).tm f.ad with
  |none=>rfl
  |some t=>
   have⟨g,k1,j,u,_⟩:=(JO h).t1 _ _ o;rw[Ai r k1 a u,d]at j;exact absurd j Z1
 unfold Vw.dw;rw[if_neg q,n,this,Option.getD_none,k,Zfl]
def Rt.py(r:Rt h p){f g}(a:f∈XG h 4 0)(o:f.ob.gone=xk)(gf:g∈XG h 4 0)(j:g.ob.gone=xw)(q:f.ob.target=g.ad){w}(u:w≠0)(n:(adr w).1=f.ad):∃i:Nat,(XN h).dw w=i/\(XN h).ns[i]?=J g:=by
 have⟨i,k,l⟩:=r.re gf j;refine⟨i,?_,l⟩;have⟨t,e⟩:=ZfQ.1<|(JO h).t2 f a o;have⟨x,k1,z,y,d⟩:=(JO h).t1 _ _ e;rw[Ai r k1 a y,q]at d;unfold Vw.dw;rw[if_neg u,n,e,Zfl,<-d,k,Zfl]
def Rt.ic(r:Rt h p){q}(g:q<2){o}(a:o∈obP h q):o.gone=xw:=by
 rw[r.ia Z0]at a;have⟨w,_,d⟩:=((r.an (q+1) Z0).bc o a).1.word;cases f:o.gone;rfl;rw[f,if_pos rfl]at d;have:=d.1;simp at this;omega
def Rt.oj(r:Rt h p){w i j}(t:1<=i/\i<=4)(u:1<=j/\j<=4)(n:Gos h p w i j)(g:w≠0):∃(q:Nat) (o:Ob),q<4/\((q+1=i)\/(q+1=j))/\o∈obP h q/\w=2*(WM h q o).ad+1/\(adr w).1=(WM h q o).ad:=by
 obtain rfl|⟨k,o,l,f,rfl⟩:=n;exact absurd rfl g;obtain⟨q,rfl,d⟩:∃q:Nat,k=q+1/\q<4:=⟨(k-1).toNat,Z0,Z0⟩;have a:o∈obP h q:=by rw[r.ia d];exact f
 refine⟨q,o,d,l,a,?_,?_⟩;rw[Kn r d a];rfl;rw[r.toTld.lc Z0 f,Kn r d a]
def Rt.rx(r:Rt h p){w i j}(B:1<=i/\i<=4)(C:1<=j/\j<=4)(H:Gos h p w i j)(k:w≠0):∃(n:Nat),(XN h).dw w=n/\n< (XN h).ns.length:=by
 have⟨q,o,F,L,x,_,y⟩:=r.oj B C H k;have z:WM h q o∈XG h 4 0:=Be x Z0 Z0;cases d:o.gone;have⟨n,l,u⟩:=r.rc z d k y;exact⟨n,l,(ZeM.1 u).1⟩;have K:2<=q:=by
  by_cases D:q<2;rw[r.ic D x]at d;exact absurd d Z1;omega
 have f:=x;rw[r.ia F]at f;have⟨t,G,A,_⟩:=r.gone (q+1) Z0 o f d;have a:t∈obP h 0:=by rw[r.ia Z0];exact G
 have⟨n,l,u⟩:=r.py z d (g:=WM h 0 t) (Be a Z0 Z0) (r.ic Z0 a) (by rw[Kn r Z0 a];exact A) k y;exact⟨n,l,(ZeM.1 u).1⟩
def Rt.ra(r:Rt h p){w i j}(f:1<=i/\i<=4)(g:1<=j/\j<=4)(k:Gos h p w i j):T4 (XN h).ns.length ((XN h).dw w)=xk:=by
 by_cases a:w=0;subst a;simp[Vw.dw,T4];omega;have⟨n,d,l⟩:=r.rx f g k a;rw[d];simp[T4];omega
def Z6c{k i w}(d:Wd h p k i w):∃a b,(1<=a/\a<=4)/\(1<=b/\b<=4)/\Gos h p w a b:=by
 unfold Wd at d;split at d;exact⟨3,4,Z0,Z0,d⟩;split at d;obtain d|d:=d;exact⟨1,2,Z0,Z0,d⟩;exact⟨3,4,Z0,Z0,d⟩;exact⟨1,2,Z0,Z0,d⟩
def Rt.ly(r:Rt h p){d}(H:I d<=16)(K:∀w∈d,Gos h p w 1 2):Vm.right ((XN h).gr d)=xk:=by
 simp only[Vm.right,ZeO,ZeY,Zfh,Vw.gr,Zfc,Zf8];refine⟨⟨H,?_⟩,?_⟩;rintro _ ⟨f,C,rfl⟩;have⟨u,D⟩:=Bf.1 C;obtain⟨q,o,_,R,x,rfl⟩:=Ko u;have⟨a,n,m,L,M,N,O,P,Q⟩:=r.np Z0 x;have e:=Ah r Z0 x;simp only[R4,UC,ZeO,ZeY,Zfh,Zfc,ZfT,Zgx,Zf8];refine⟨Z0,?_⟩;rintro _ ⟨w,z,rfl⟩;have⟨j,g⟩:=Zfd z;have l:=(ZeM.1 g).1;rw[ZfT]at l;have y:(WM h q o).ob.M=o.M:=rfl;rw[y]at g l;rw[ZfL Z0]at g;have t:=x;rw[r.ia Z0]at t;have A:(Zx h<|q+1)[o.aa.toNat+1+j]?=J w:=by
  rw[qk h Z0];simp only[WM]at g;rw[ZfL Z0,Zfn]at g;rw[<-g];congr 1;omega
 have⟨i,k,F,G,B⟩:=Z6c<|r.ptr (q+1) Z0 o t D j Z0 w A;exact r.ra F G B;rintro _ ⟨w,z,rfl⟩;exact r.ra Z0 Z0<|K w z
def L7{s q}:∀ {l},(∀o∈l,(WM h q o).sl.length=o.size.toNat/\0<=o.size/\o.M<=o.size)->((((l.map<|WM h q).filter λf=> !f.ob.gone).map<|UC s).map T9).sum=Y1 l
 | [],_=>rfl
 |o::l,g=>by
  have j:=L7 (s:=s) (l:=l) λx p=>g x (by simp[p]);have⟨k,r,t⟩:=g o Z1;have n:Y1 (o::l)=Wc o+Y1 l:=by simp[Y1]
  rw[n,Zfi,List.filter_cons];have a:(WM h q o).ob=o:=rfl;cases d:o.gone;simp only[a,d,Bool.not_false,ZfF,Zfi,Zi0,j];congr 1;simp only[T9,UC,Zfc,ZfT,Zgx,Wc,d,a,k,Zf6,ZfI];omega;simp only[a,d,Zhz,j,Wc,Zf6,ZfF,ZfI,Zfy]
def Dz:∀ {l},(∀o∈l,o.gone=xw)->(∀o∈l,0<=o.size)->(Y1 l:Int)=WL l
 | [],_,_=>rfl
 |o::l,d,f=>by
  have j:=Dz (l:=l) (λx a=>d x<|by simp[a]) (λx a=>f x<|by simp[a]);have g:Y1 (o::l)=Wc o+Y1 l:=by simp[Y1]
  have h:WL (o::l)=1+o.size.toNat+WL l:=by simp[WL]
  rw[g,h,Wc,d o Z1];simp;omega
def Rt.lz(r:Rt h p)d:(Wt ((XN h).gr d).nodes:Int)=I h.H+I h.ab+Yu p:=by
 have g:∀q,q<4->∀o∈obP h q,(WM h q o).sl.length=o.size.toNat/\0<=o.size/\o.M<=o.size:=λq l o f=>by
  have⟨a,n,m,A,B,C,D,F,G⟩:=r.np l f;exact⟨Ah r l f,Z0,Z0⟩
 have e:Wt ((XN h).gr d).nodes=Y1 (obP h 0)+(Y1 (obP h 1)+(Y1 (obP h 2)+Y1 (obP h 3))):=by
  unfold Wt Vw.gr;rw[Dp h];simp only[XG,List.filter_append,ZfV,Zi7,Zg1,ZfE,Zfy,Nat.reduceAdd];rw[L7<|g 0 Z0,L7<|g 1 Z0,L7<|g 2 Z0,L7<|g 3 Z0]
 have x:=(r.an 1 Z0).sum<|ZfO _;have y:=(r.an 2 Z0).sum<|ZfO _;have j:obP h 0=p.at 1:=r.ia Z0;have k:obP h 1=p.at 2:=r.ia Z0;have t:obP h 2=p.at 3:=r.ia Z0;have u:obP h 3=p.at 4:=r.ia Z0;have z:=Dz (λo f=>r.ic (q:=0) Z0 f) (λo f=>(g 0 Z0 o f).2.1);have w1:=Dz (λo f=>r.ic (q:=1) Z0 f) (λo f=>(g 1 Z0 o f).2.1);rw[j]at z;rw[k]at w1;rw[e,j,k,t,u];have w:Zx h 1=h.H:=rfl;have p2:Zx h 2=h.ab:=rfl;rw[w]at x;rw[p2]at y;have:Yu p=Y1 (p.at 3)+Y1 (p.at 4):=rfl;omega
end
end
end Vm
end
section
namespace Vm
open Go
open Go.Proofs
def IQ:Fn:=⟨6,[0,1,2,3,4,11],pQ [pR [(1,pS 0 10),pV 2<|pI 0],pC [pK 6 38 [.mm 1 0 10]] [(3,pM (.sz (.ext (.s 6) 0) 2) 2),pV 4<|.ext (.s 6) 1],pi 5 (pn (.s 4)<|pI 0)<|px [pV 2<|pI 0],pC [pK 7 39 [.mm 3 0 2]] [pV 2<|.s 7]] .ret,[(2,.v)]⟩
def c20:ZM (Yc Try.prog) fresh sig [.fz] [] Try.f20=J IQ:=Z2
end Vm
end
section
namespace Vm
open Go Go.Proofs
theorem J2{P:Z6}{f:Zq}{fn:Func}{c:Code}(j:P.funcs[f]?=J fn)(h2:fn.body=J c)(k:Tu P c=xk):FitF (Yc P) f:=⟨λg d h a=>by
 have e:(Yc P).funcs[f]?=P.funcs[f]? :=rfl;rw[e,j]at h;cases h;rw[h2]at a;cases a;exact ES k⟩
def Ib(l:Z8):NoM<|.sl<|l.map vi:=.sl _ λc a=>by
 have:flat (l.map vi)=l.map vi:=Ue λx d=>Zel;rw[this]at a;obtain⟨y,_,rfl⟩:=Zf8.1 a;exact .int _ _
def I9(g:Gr):NoM<|Yz g:=(Ig g).m
def Qe{x:V}(h:NoM x):∀y∈[x],NoM y:=λy a=>by rw[ZfW.1 a];exact h
def KQ{x z:V}(h:NoM x)(k:NoM z):∀y∈[x,z],NoM y:=λy a=>by
 simp only[Zfb,Zgj,Zhu]at a;obtain rfl|rfl:=a;exact h;exact k
def up{f:Zq}{args:Zr}{r:V}(g:VC Sol.prog f xw args r)(a:∀x∈args,NoM x)(d:NoM r):VC (Yc Try.prog) f xw args r:=Ha Sol.sub g a d
def Z07{g:Gr}(a:g.sm):VC (Yc Try.prog) 39 xw [Yz g]<|vi<|words g:=up (Z08 a) (Qe<|I9 g)<|.int _ _
def vg(h:Hp):Gr:=(XN h).gr h.E
def ofG(h:Hp):Gr×Int:=if Yt h=xk/\right (vg h)=xk then(V1<|vg h,0)else(UD,1)
def Z4T(h:Hp):Jn h=.am [Yz (ofG h).1,vi (ofG h).2]:=by
 unfold Jn ofG Vb vg;by_cases a:Yt h=xk;rw[if_pos a];by_cases d:right ((XN h).gr h.E)=xk;rw[if_pos d,if_pos ⟨a,d⟩];rw[if_neg d,if_neg λx=>d x.2];rw[if_neg a,if_neg λx=>a x.1]
def Z4S{h:Hp}(a:h.ok):(ofG h).1.sm:=by
 unfold ofG;split;rename_i k;exact Z0T (ofOk a k.1).sm.gr k.2;exact⟨by simp[UD],by simp[UD],by simp[UD]⟩
def PY{h:Hp}(a:h.ok):VC (Yc Try.prog) 38 xw [ZE h]<|.am [Yz (ofG h).1,vi (ofG h).2]:=by
 rw[<-Z4T];exact PZ a
def liveR(h:Hp):Nat:=if(ofG h).2=0 then words (ofG h).1 else 0
instance fitLive:FitF (Yc Try.prog) 20:=J2 (P:=Try.prog) Try.func20 rfl Z2
def PV{h:Hp}(d:h.ok):VC (Yc Try.prog) 20 xw [ZE h]<|vi<|liveR h:=by
 refine ZS (P:=Yc Try.prog) Try.func20 J4 Z2 c20 rfl ?_;have k:=PY d;have f:=Z4S d;unfold liveR;generalize ofG h=g at*;obtain⟨g,e⟩:=g;simp only at k f⊢;simp[IQ];refine Zz k Z1 ?_;by_cases a:e=0;simp[a];refine Zz (Z07 f) Z1 ?_;simp;simp[a]
end Vm
end
section

end
section
namespace Vm
open Go Go.Proofs
def Ds(g:Gr)(x:Int):Nat:=T9<|(g.nodes[x.toNat]?).getD default
def Om(f:Int->Nat):∀ {L l:Z8},L.Nodup->(∀x∈L,x∈l)->(L.map f).sum<=(l.map f).sum
 | [],_,_,_=>ZfO _
 |x::L,l,h,a=>by
  obtain⟨k,g⟩:=Zgt.1 h;have j:=((List.perm_cons_erase<|a x<|.head _).map f).sum_nat;have:=Om f g (l:=l.erase x) λy d=>(List.mem_erase_of_ne (by rintro rfl;exact k d)).2<|a y<|.tail _ d;simp only[Zfi,Zi0]at j⊢;omega
def Z9g(l:List Nd):Wt l=((List.range<|I l).map λi:Nat=>T9<|(l[i]?).getD default).sum:=by
 unfold Wt;congr 1;apply Zh0;intro i;rw[Zfa,Zfa];by_cases h:i<I l;simp[h];rw[ZfP Z0,ZfP ZdP];rfl
def Z0W(G:Gr):Wt (V1 G).nodes=((order G).map<|Ds G).sum:=by
 unfold Wt V1;simp only[Zhh];congr 1;refine ZgI λx _=> ?_;simp only[Function.comp,QP,T9,Ds,VW,Zfc]
def Z0V{g:Gr}(a:right g=xk):words (V1 g)<=words g:=by
 unfold words;rw[if_pos a];split;rw[Z0W,Z9g];have:=Om (Ds g) (l:=(List.range<|I g.nodes).map Int.ofNat) (yV a).1 λx d=>by
  have:=(yV a).2 x d;exact Zf8.2 ⟨x.toNat,ZdP,ZdP⟩
 rwa[Zhh]at this;omega
section
def Z4A(l:List Nd):NoM<|.sl<|l.map Yk:=by
 have h:=I9 ⟨l,[]⟩;unfold Yz at h;cases h with
 |agg _ h=>exact h _ Z1
def Z4B(x:Rw):NoM<|Wo x:=.agg _ λc a=>by
 simp only[Zfb,Zgj,Zhu]at a;obtain rfl|rfl|rfl|rfl|rfl|rfl|rfl:=a;all_goals first|exact .int _ _|exact Z4A _|exact Ib _
def PS{x:Rw}(hx:x.ok):VC (Yc Try.prog) 7 xw [Wo x]<|ZE<|UZ x:=up (PT hx) (Qe<|Z4B x)<|UE _
def Ia(g:Hp)(e:Int):NoM<|.am [ZE g,vi e]:=.am _ λc a=>by
 simp only[Zfb,Zgj,Zhu]at a;obtain rfl|rfl:=a;exact UE _;exact .int _ _
def Pw{h:Hp}{p:Pts}(a:h.ok)(r:Rt h p):VC (Yc Try.prog) 17 xw [ZE h]<|.bool xk:=by
 have:=up (QD a) (Qe<|UE h)<|.bool _;rwa[r.right]at this
def Pz{h:Hp}(a:h.ok):VC (Yc Try.prog) 18 xw [ZE h]<|vi<|Ru h:=up (DI a) (Qe<|UE h)<|.int _ _
section
variable {h:Hp}{p:Pts}
def Rt.gn(r:Rt h p):Vm.right (vg h)=xk:=r.ly r.gd r.E
def Rt.vb(r:Rt h p):ofG h=(V1<|vg h,0):=if_pos ⟨r.right,r.gn⟩
def Rt.om(r:Rt h p):liveR h=words (V1<|vg h):=by
 unfold Vm.liveR;rw[r.vb,if_pos rfl]
def Rt.oo(r:Rt h p):(words (V1<|vg h):Int)<=I h.H+I h.ab+Yu p:=by
 have a:=Z0V r.gn;have d:=r.lz h.E;have f:words (vg h)=Wt ((XN h).gr h.E).nodes:=if_pos r.gn;omega
end
end
section
section
variable {h g F:Hp}{p q:Pts}
def Rt.rf(s:Rt F q)(hc:F.Y=xw):Yu q=0:=by
 obtain⟨_,a,d⟩:=s.rest hc;have f:=(s.an 3 Z0).sum<|ZfO _;have g:=(s.an 4 Z0).sum<|ZfO _;have j:=Dy q.ah;have k:=Dy q.ak;have h:Yu q=Y1 q.ah+Y1 q.ak:=rfl;simp only[My,qh,Pts.nc,Pts.nd,a,d,ZfU]at f g;omega
end
end
end Vm
end
section

end
section
namespace Vm
open Go Go.Proofs
def Z05(a:SJ){h:Hp}{p:Pts}(d:h.ok)(r:Rt h p){k:Nat}(f:k<=9223372036854775807):VC (Yc Try.prog) 9 xw [ZE h,vi k]<|.am [ZE<|ZR h k,vi 0]:=by
 have:=DY a d (k:=(k:Int)) ⟨Z0,Z0⟩;rw[MZ r]at this;exact up this (KQ (UE h)<|.int _ _)<|Ia _ _
def Rt.uc{h:Hp}{p:Pts}(r:Rt h p){b:Nat}(j:(I h.H:Int) -h.Z+Yu p<=b):(ZR h b).Y=xw:=by
 obtain⟨q,s⟩:=r.dg b;cases a:(ZR h b).Y;rfl;obtain⟨d,f,g⟩:=s.kw a;have:=s.rt.kw a;omega
def DJ(a:SJ){h:Hp}{p:Pts}(d:h.ok)(r:Rt h p):VC (Yc Try.prog) 11 xw [ZE h]<|.am [ZE<|ZR h 9223372036854775807,vi 0]:=by
 have:=PH a d;unfold zE at this;rw[if_neg (by rw[r.right];simp)]at this;exact up this (Qe<|UE h)<|Ia _ _
end Vm
end
section
namespace Vm
open Go Go.Proofs Go.RowKit
def Z8E(w:Z3)(d a:Obj):((w.alloc d).alloc a).heap[xz (xj w)+1]?=J a:=by
 have:=Zf5 (w.alloc d) a;rwa[ZgN]at this
def Z5m{w:Z3}{B g cap n:Nat}{e:Zh}{z:Nat}{xs:Zm}(h:w.ownsRow B e z (.slice (J ⟨g,0,U⟩) n cap) n xs)(o:0<n){i:Nat}:w.frozen? ⟨g,i,U⟩=xw:=by
 obtain⟨f,_⟩|⟨l,a,d,j,_,k,_⟩:=h.2;cases f;cases j;exact Yd k
end Vm
end
section
namespace Vm
open Go
open Go.Proofs
def IR:Fn:=⟨5,[0,1,2,3,6],pQ [pR [(1,pS 0 2),pV 2<|pU 0,pV 3<|pI 0],pQ [pC [pK 5 44 [.mm 1 0 2]] [pV 4<|.un .not<|.s 5]]<|pw (.s 4)<|px [pV 2<|pU 0,pV 3<|pI 1]]<|px [pV 2<|pa (.bp .shl (.conv .u64<|.m 1 0)<|pU 1)<|.bp .shl (.conv .u64<|.m 1 1)<|pU 17,pV 3<|pI 0],[(2,.v),(3,.v)]⟩
def c22:ZM Sol.prog fresh sig [.fz] [] Try.f22=J IR:=Z2
def IS:Fn:=⟨4,[0,1,2,4],pQ [pR [(2,pS 0 10),pV 3 pF],pC [pK 4 18 [.mm 2 0 10]] [pV 3<|pL (pa (pa (pa (.len<|.m 2 5)<|.len<|.m 2 6)<|.s 4)<|.s 1)<|.m 2 1]] .ret,[(3,.v)]⟩
def c24:ZM Sol.prog fresh sig [.fz,.fz] [] Try.f24=J IS:=Z2
end Vm
end
section
namespace Vm
open Go Go.Proofs
def Z27{s p:Int}:VC Sol.prog 22 xw [WW s p]<|.am [vu (Xp s p).1,vi (Xp s p).2]:=by
 refine ZS Sol.func22 follows Z2 c22 rfl ?_;simp[IR];refine Zz CC Z1 ?_;cases h:YA s p;simp[Xp,h];obtain⟨q,r,t,u⟩:=YB.1 h;have a:=ZU s Z0 Z0;have d:=ZU p Z0 Z0;have n:(2:Int) ^ min 1 IntKind.u64.bits=2:=Ze4;have o:(2:Int) ^ min 17 IntKind.u64.bits=131072:=Ze4;have f:=ZU (p*131072) Z0 Z0;have g:=ZU (s*2) Z0 Z0;have j:=ZU (s*2+p*131072) Z0 Z0;have k:s*2+p*131072=2*(s+65536*p):=Z0;have l:=ZU (2*(s+65536*p)) Z0 Z0;simp[Xp,h,X9,a,d,n,o,f,g,j,k,l]
def Xk(h:Hp)(p:Pts)(n:Int):Bool:=decide ((I h.H:Int)+I h.ab+Yu p+n<=h.cap)
def Rt.ml{h:Hp}{p:Pts}(r:Rt h p):h.cap<=4096:=by
 exact(XK.1 r.bb).2.1
def Z76{h:Hp}(g:h.ok){p:Pts}(r:Rt h p){n:Int}(l:0<=n/\n<=1000):VC Sol.prog 24 xw [ZE h,vi n]<|.bool<|Xk h p n:=by
 refine ZS Sol.func24 follows Z2 c24 rfl ?_;have k1:=DI g;rw[r.na]at k1;have j:=r.room;have k:=r.ml;simp only[ZE]at k1⊢;simp[IS];refine Zz k1 Z1 ?_;have a:=Zy ((I h.H:Int)+I h.ab) Z0 Z0;have d:=Zy ((I h.H:Int)+I h.ab+(Yu p:Nat)) Z0 Z0;have f:=Zy ((I h.H:Int)+I h.ab+(Yu p:Nat)+n) Z0 Z0;simp[a,d,f,Xk]
end Vm
end
