import Derived.Deep.DeepCutAuto
import Derived.Laws.EntriesVeiled
import Derived.Deep.OwnRows
import Derived.Test.YtlnhjkejgijgaaaGreatSMoveGoes4
set_option linter.unusedSimpArgs false
set_option linter.unusedVariables false
set_option linter.defProp false
open Option renaming some→J,none→U
open Bool renaming true→xk,false→xw
open Go renaming undef→xy
open List renaming length→I
open Array renaming size→xz
open Go.World renaming heap→xj
open List renaming length→xq
open Array renaming size→xz
open Go.World renaming heap→xj
set_option maxHeartbeats 40000000
set_option maxRecDepth 100000
theorem Z5T{p:Prop}(h:p:=by simp[World.setCell]):p:=h
theorem Z5Q{p:Prop}(h:p:=by simp[results,Tryz.results42,go_sem]):p:=h
theorem Z5k{p:Prop}(h:p:=by decide+kernel):p:=h
theorem Z5x{p:Prop}(h:p:=by have:=hG b hb;rw[Below.heap_alloc _ _ _ (by simp;omega),Below.heap_alloc _ _ _ (by simp;omega),Below.heap_alloc _ _ _ (by omega)]):p:=h
theorem Z61{p:Prop}(h:p:=by rcases HO.out.iw with rfl|rfl<;>omega):p:=h
theorem Z5v{p:Prop}(h:p:=by simp only[Uu,T6,List.map_cons,List.map_nil,List.foldl_cons,List.foldl_nil,List.setIfInBounds_toArray,List.set_cons_succ,List.set_cons_zero]):p:=h
theorem Z65{p:Prop}(h:p:=by show xz (xj w)≤c;omega):p:=h
theorem Z5O{p:Prop}(h:p:=by unfold Xr;omega):p:=h
theorem Z64{p:Prop}(h:p:=by cases e;omega):p:=h
def Z9p:=@Go.grownBy_keeps
def Z9K:=@Bool.and_true
def Z9E:=@Bool.and_false
def Z9x:=@Int.natCast_add
def Z98:=@Go.results_none
def Z8l:=@List.getElem?_cons_succ
def Z8n:=@List.getElem?_replicate
def Z8y:=@List.foldl_nil
def Z7A:=@List.setIfInBounds_toArray
def Z87:=@List.set_cons_succ
def Z90:=@Go.RowKit.Below.trans
def Z9F:=@Go.KeepsFrom.refl
def Z9q:=@List.filter_cons_of_pos
section
namespace Vm
open Go Go.Proofs Go.RowKit
def U7(w:Z4)(r:Hp×Int)(e:Ending)(w':Z4):Prop:=
 ∃x,e=.returned (.tuple #[Zx r.1 x,.int .i64 r.2])/\Below (xz<|xj w) w w'/\∀j,j<5->Rd w' (λc=>xz (xj w)<=c/\c<xz (xj w')) (.sl<|(Zu r.1 j).map vu) (x j)
def Gn(K:Prop)(w:Z4)(r:Hp×Int)(e:Ending)(w':Z4):Prop:=
 ∃x,e=.returned (.tuple #[Zx r.1 x,.int .i64 r.2])/\Below (xz<|xj w) w w'/\(∀j,j<5->Rd w' (λc=>xz (xj w)<=c/\c<xz (xj w')) (.sl<|(Zu r.1 j).map vu) (x j))/\(K->HOwn (xz<|xj w) w' r.1 x)
def JJ{w:Z4}{G:Z6}{h:Hp}{x:Z3}(k:h.ok)(f:∀b,G b->b<xz (xj w))(l:∀j,j<5->Rd w G (.sl<|(Zu h j).map vu) (x j)):
  Calls Tryz.prog 17 #[Zx h x] w λe d=>e=.returned (.bool<|Yp h)/\Below (xz<|xj w) w d:=by
 refine Z84 ((zl k).2 w G _ f rfl ?_) ?_;intro i y a
 match i,a with
 |0,a=>cases a;exact UR l
 rintro e d ⟨v,rfl,g,n⟩;exact⟨by rw[JH n],g⟩
def ZM(h:Hp)(j i:Nat)(v:Int):Hp:=
 if j=0 then {h with H:=h.H.set i v}else if j=1 then {h with aa:=h.aa.set i v}else if j=2 then {h with ad:=h.ad.set i v}else if j=3 then {h with ae:=h.ae.set i v}else {h with E:=h.E.set i v}
def Co(h:Hp){j k:Nat}(i:Nat)(v:Int)(f:j<5)(g:k<5):Zu (ZM h j i v) k=if k=j then(Zu h j).set i v else Zu h k:=by
 have a:j=0\/j=1\/j=2\/j=3\/j=4:=Z0;have d:k=0\/k=1\/k=2\/k=3\/k=4:=Z0;obtain rfl|rfl|rfl|rfl|rfl:=a<;>obtain rfl|rfl|rfl|rfl|rfl:=d<;>rfl
def Wq(h:Hp)(j i:Nat)(v:Int):(ZM h j i v).V=h.V/\(ZM h j i v).cap=h.cap/\(ZM h j i v).to=h.to/\(ZM h j i v).M=h.M/\(ZM h j i v).O=h.O:=by
 unfold ZM;split;exact⟨rfl,rfl,rfl,rfl,rfl⟩;split;exact⟨rfl,rfl,rfl,rfl,rfl⟩;split;exact⟨rfl,rfl,rfl,rfl,rfl⟩;split<;>exact⟨rfl,rfl,rfl,rfl,rfl⟩
def SE(h:Hp)(j i:Nat)(v:Int)(x:Z3):Zx (ZM h j i v) x=Zx h x:=by
 obtain⟨a,d,f,g,k⟩:=Wq h j i v;unfold Zx;rw[a,d,f,g,k]
theorem HOwn.put{B:Nat}{W:Z4}{h:Hp}{x:Z3}(d:HOwn B W h x){j i:Nat}(p:j<5){g cap:Nat}(hx:x j=.slice (J ⟨g,0,U⟩) (I<|Zu h j) cap)(v:Int):HOwn B (W.setCell ⟨g,i,U⟩<|.int .u64 v) (ZM h j i v) x:=by
 refine⟨λk f=> ?_,d.apart⟩;rw[Co h i v p f];by_cases e:k=j;subst e;rw[Z6k rfl,Z7g];have l:=d.own k f;rw[hx]at l⊢;have a:=(l.stored i<|.int .u64 v).1;rw[Jl];exact a;rw[Z6h e];refine ownsRow_setCell_other (d.own k f) (λn=> ?_) _;have o:(x j).ownBlock=J g:=by rw[hx];rfl
 obtain a|a:=Z89 e;exact d.apart k j a p g n o;exact d.apart j k a f g o n
def OL{B:Nat}{W:Z4}{e:Zd}{z n:Nat}{v:Za}{l:List Value}(h:W.ownsRow B e z v n l){c:Nat}(a:v.ownBlock=J c):∃d T f,W.heap[c]?=J (.cells d T f):=by
 obtain⟨rfl,_⟩|⟨g,cap,j,rfl,_,k,_⟩:=h.2;cases a;cases a;exact⟨_,_,_,k⟩
def HOwn.to{m n:Nat}{W W':Z4}{g p:Hp}{x h:Z3}(o:HOwn n W g x)(A:m<=n)(hx:∀j,j<5->(h j=x j/\Zu p j=Zu g j)\/(h j=.slice U 0 0/\Zu p j=[]))
  (u:∀j,j<5->∀c,(x j).ownBlock=J c->n<=c->∀k T f,W.heap[c]?=J (.cells k T f)->W'.heap[c]?=W.heap[c]?):HOwn m W' p h:=by
 have q:∀j,j<5->∀c,(h j).ownBlock=J c->(x j).ownBlock=J c:=λj d c a=>by
  obtain⟨e,_⟩|⟨e,_⟩:=hx j d;rw[e]at a;exact a;rw[e]at a;cases a
 refine⟨λj d=> ?_,λi j t d c a r=>o.apart i j t d c (q i Z0 c a)<|q j d c r⟩;obtain⟨e,l⟩|⟨e,l⟩:=hx j d;rw[e,l];refine S6 (Yx (o.own j d) λc a=> ?_) λc z w=>⟨Z0,w⟩;obtain⟨k,T,f,y⟩:=OL (o.own j d) a;exact u j d c a ((o.own j d).lt c a).1 k T f y;rw[e,l];exact Z7e _ _ _ _
def HOwn.nd{m n:Nat}{W W':Z4}{g:Hp}{x:Z3}(o:HOwn n W g x)(k:m<=n)(a:∀j,j<5->∀c,(x j).ownBlock=J c->n<=c->W'.heap[c]?=W.heap[c]?):HOwn m W' g x:=o.to k (λ_ _=>.inl ⟨rfl,rfl⟩) λj f c d h _ _ _ _=>a j f c d h
def CU{g:Hp}{x:Z3}(c:Bool)(j:Nat)(a:j<5):((if j=2\/j=3 then .slice U 0 0 else x j)=x j/\Zu {g with M:=c,ad:=[],ae:=[]} j=Zu g j)\/((if j=2\/j=3 then Value.slice U 0 0 else x j)=.slice U 0 0/\Zu {g with M:=c,ad:=[],ae:=[]} j=[]):=by
 have:j=0\/j=1\/j=2\/j=3\/j=4:=Z0;obtain rfl|rfl|rfl|rfl|rfl:=this;exact .inl ⟨rfl,rfl⟩;exact .inl ⟨rfl,rfl⟩;exact .inr ⟨rfl,rfl⟩;exact .inr ⟨rfl,rfl⟩;exact .inl ⟨rfl,rfl⟩
section
def Z0j{P a w Q c d}l n(μ:Act->World->Nat)(k:findLabel c l=J (.seq .skip d))
  (pass:∀a w,n a w->d.wp P (Exit.jump l (λf j=>n f j/\μ f j<μ a w) Q) a w)
  (first:(∀a w,n a w->d.wp P (Exit.jump l n Q) a w)->c.wp P (Exit.jump l n Q) a w):=
 wp_scope_jumps l n μ k (first λa w g=>Code.wp_mono (λe f j h=>by
  cases e<;>first
   |exact h
   |exact⟨h.1,h.2.1⟩) (pass a w g)) λa w g=>wp_seq<|wp_skip<|pass a w g
def AF{t n}(h:t.size=n):t=((List.range n).map λi=>t.getD i xy).toArray:=by
 apply Z8F;simp[h];intro i a d;simp[a]
def EE{w2:Z4}{b T a d f g h j k l n o}(p:w2.heap[b]?=J (.cells #[a,d,f,g,h,j,k,l,n,o] T (0,0))){v0 v1 v2 v3 v4 v5 v6 v7 v8 v9}:((((((((((w2.setCell ⟨b,0,U⟩ v0).setCell ⟨b,1,U⟩ v1).setCell ⟨b,2,U⟩ v2).setCell ⟨b,3,U⟩ v3).setCell ⟨b,4,U⟩ v4).setCell ⟨b,5,U⟩ v5).setCell ⟨b,6,U⟩ v6).setCell ⟨b,7,U⟩ v7).setCell ⟨b,8,U⟩ v8).setCell ⟨b,9,U⟩ v9).heap[b]?=J (.cells #[v0,v1,v2,v3,v4,v5,v6,v7,v8,v9] T (0,0)):=by
 simp[World.setCell,Z6I,p]
def Yc(h:Hp)(x:Z3):Array Value:=#[.int .u64 h.V,.int .i64 h.cap,.int .i64 h.to,.bool h.M,.int .i64 h.O,x 0,x 1,x 2,x 3,x 4]
structure FlI (w W:World) (c:Nat) (K:Prop) (g:Hp) (x:Nat->Value):Prop where
 below:Below (xz<|xj w) w W
 rb:W.heap[xz (xj w)+1]?=J (.cells ZE 31 (0,0))
 le:xz (xj w)+2<=c
 nb:W.heap[c]?=J (.cells (Yc g x) 31 (0,0))
 rd:∀j,j<5->Rd W (λb=>xz (xj w)+2<=b/\b<xz (xj W)/\b≠c) (.sl<|(Zu g j).map vu) (x j)
 own:K->HOwn (xz (xj w)+2) W g x/\∀j,j<5->∀b,(x j).ownBlock=J b->b≠c
def Me{n}(h:n=0\/n=1):ZP<|1-n:=by unfold ZP;omega
def Ml{h}(p:h.ok)(q:h.to=0\/h.to=1):(flip0 h).ok:=by
 let⟨d,f,r,t,g,j,u,x,k,l,n,y,z,o⟩:=p;exact⟨d,f,Me q,⟨by show _<=(0:Int);omega,by show(0:Int)<=_;omega⟩,Z7T _,Z7T _,g,j,k,λw a=>(by cases a),λw a=>(by cases a),l,n,o⟩
def x6{h:Hp}(z:h.ok){k v}(A:Zy v):({h with E:=h.E.set k v}:Hp).ok:=by
 let⟨d,f,g,j,l,n,o,p,q,r,t,u,x,y⟩:=z;refine⟨d,f,g,j,l,n,o,p,by simp[Z7g];exact q,r,t,u,x,λw a=> ?_⟩;obtain a|rfl:=Z6Z a;exact y w a;exact A
def Mx{l:Z5}(h:∀w∈l,Zy w)(i:Nat):Zy<|(l[i]?).getD 0:=by
 cases e:l[i]? with
 |none=>exact⟨Z5q,Z5q⟩
 |some x=>exact h x Z5h
def yj{h}(a:h.ok)(d:h.to=0\/h.to=1):∀k,(flipL (flip0 h) k).ok
 |0=>Ml a d
 |k+1=>by
  have g:=yj a d k;have f:=QV g<|Mx g.cg k;exact x6 f.1 f.2
def Vc(i:Nat):Nat:=if i<7 then 39+i else if i=7 then 38 else if i=8 then 46 else if i=9 then 47 else if i=10 then 48 else if i=11 then 7 else if i=12 then 6 else if i=14 then 8 else 0
def A4:∀i,i<15->∀j,j<15->i≠j->Vc i≠Vc j:=Z5q
def Mr(c:Nat)(g:Hp)(x:Z3)(k:Nat)(a:Za)(u:Int):Nat->Value
 |0=>.agg<|Yc g x
 |1=>.pointer<|J ⟨c,9,U⟩
 |2=>x 4
 |3=>.int .i64 k
 |4=>a
 |_=>.int .u64 u
def QT(fv:Int)(g':Hp)(a:Z3):Value:=.tuple #[.int .u64 fv,.agg<|Yc g' a,.int .i64 0]
def FrV(E:Z3)(fv:Int)(g':Hp)(O:(Nat->Value)->Prop)(i:Nat)(val:Za):Prop:=
 if i<6 then val=E i else if i=6\/i=7 then ∃a,val=QT fv g' a/\O a else if i=9 then ∃a,val=.agg (Yc g' a)/\O a else if i=8\/i=12 then val=.int .u64 fv else val=.int .i64 0
def FrV.mono{E fv g' O a i val}(h:FrV E fv g' O i val)(d:∀x,O x->a x):FrV E fv g' a i val:=by
 unfold FrV at*;split;rename_i c;rw[Z6k c]at h;exact h;rename_i c;rw[Z6h c]at h;split;rename_i c;rw[Z6k c]at h;let⟨x,e,o⟩:=h;exact⟨x,e,d x o⟩
 rename_i c;rw[Z6h c]at h;split;rename_i c;rw[Z6k c]at h;let⟨x,e,o⟩:=h;exact⟨x,e,d x o⟩
 rename_i c;rw[Z6h c]at h;exact h
structure FrO (W0 W:World) (L:Nat->Bool) (v:Nat->Value) (g':Hp) (x':Nat->Value):Prop where
 own:HOwn (xz<|xj W0) W g' x'
 ae:∀j,j<5->∀b,(x' j).ownBlock=J b->L 11=xk->v 7≠.pointer (J ⟨b,0,U⟩)
structure FrC (W0:World) (E:Nat->Value) (fv:Int) (g':Hp) (L:Nat->Bool) (v:Nat->Value) (W:World):Prop where
 b:Below (xz<|xj W0) W0 W
 val:∀i,i<15->i≠11->i≠13->L i=xk->FrV E fv g' (FrO W0 W L v g') i (v<|Vc i)
 new:L 11=xk->∃c,v 7=.pointer (J ⟨c,0,U⟩)/\xz (xj W0)<=c/\c<xz (xj W)/\(L 13=xw->W.heap[c]?=J (.cells ZE 31 (0,0)))
 put:L 13=xk->∃c x',v 7=.pointer (J ⟨c,0,U⟩)/\W.heap[c]?=J (.cells (Yc g' x') 31 (0,0))/\FrO W0 W L v g' x'
 c13:L 13=xk->L 11=xk
section
variable {W0 W W':Z4}{E:Z3}{fv:Int}{g':Hp}{L:Zc}{v:Z3}
def FrO.keep{d v' a}(o:FrO W0 W L v g' a)(k:∀j,j<5->∀b,(a j).ownBlock=J b->W'.heap[b]?=W.heap[b]?)(l:xz (xj W)<=xz (xj W'))
  (f:∀j,j<5->∀b,(a j).ownBlock=J b->d 11=xk->v' 7≠.pointer (J ⟨b,0,U⟩)):FrO W0 W' d v' g' a:=
 ⟨⟨λj g=>Yx (o.own.own j g) λb h=>Z5h,o.own.apart⟩,f⟩
def FrC.step(C:FrC W0 E fv g' L v W){i s}(z:i<15)(D:i≠11)(F:i≠13)(G:s=Vc i){x}(l:Below (xz<|xj W) W W')
  (H:FrV E fv g' (FrO W0 W' L v g') i x):FrC W0 E fv g' (add L i) (X7 v s x) W':=by
 subst G;have g:add L i 11=L 11:=ZR Z0;have k:add L i 13=L 13:=ZR Z0;have p:X7 v _ x 7=v 7:=T8 v x (show Vc 11≠Vc i from A4 11 Z0 i z Z0);have A:∀f,FrO W0 W L v g' f->FrO W0 W' (add L i) (X7 v _ x) g' f:=λf o=>o.keep (λj h b d=>l.block b ((o.own.own j h).lt b d).2) l.size (λj h b d=>by rw[g,p];exact o.ae j h b d);have w:∀f,FrO W0 W' L v g' f->FrO W0 W' (add L i) (X7 v _ x) g' f:=λf o=>o.keep Z1 Z0 (λj h b d=>by rw[g,p];exact o.ae j h b d);refine⟨C.b.trans<|l.mono C.b.size,λj h t u a=> ?_,λa=> ?_,λa=> ?_,λa=> ?_⟩;by_cases e:j=i;subst e;rw[Sc];exact H.mono w;rw[ZR e]at a;rw[T8 v x<|A4 j h i z e];exact(C.val j h t u a).mono A;rw[g]at a;let⟨c,q,r,n,B⟩:=C.new a;refine⟨c,by rw[p];exact q,r,Z6o n l.size,λy=> ?_⟩;rw[k]at y;exact(l.block c n).trans (B y);rw[k]at a;let⟨c,f,q,r,n⟩:=C.put a;exact⟨c,f,by rw[p];exact q,(l.block c Z5h).trans r,A f n⟩;rw[k]at a;rw[g];exact C.c13 a
def FrC.call(C:FrC W0 E fv g' L v W){g}(o:Below (xz<|xj W) W W')(f:HOwn (xz<|xj W) W' g' g):FrC W0 E fv g' (add L 6) (X7 v 45<|QT fv g' g) W':=by
 refine C.step Z0 Z0 Z0 rfl o ?_;unfold FrV;rw[Z6h Z0,Z6k Z0];refine⟨g,rfl,⟨λj d=>S6 (f.own j d) λb k l=>⟨Z6H C.b.size k,l⟩,f.apart⟩,λj d b a n e=> ?_⟩;let⟨c,h,_,p,_⟩:=C.new n;rw[h]at e;cases e;have:=((f.own j d).lt b a).1;omega
def FrC.alloc(C:FrC W0 E fv g' L v W)(h:L 11=xw):FrC W0 E fv g' (add L 11) (X7 v 7<|.pointer<|J ⟨xz<|xj W,0,U⟩)<|W.alloc<|.cells ZE 31:=by
 have k:L 13=xw:=by
  cases e:L 13 with
  |false=>rfl
  |true=>have:=C.c13 e;rw[h]at this;cases this
 have l:Below (xz<|xj W) W<|W.alloc<|.cells ZE 31:=(Z6r _ _).alloc (Z6i _) _;have r:xz (xj<|W.alloc<|.cells ZE 31)=xz (xj W)+1:=Z1
 have q:∀p,FrO W0 W L v g' p->FrO W0 (W.alloc<|.cells ZE 31) (add L 11) (X7 v 7<|.pointer<|J ⟨xz<|xj W,0,U⟩) g' p:=λp o=>o.keep (λj g b d=>l.block b ((o.own.own j g).lt b d).2) l.size (λj g b d _=>by
  rw[Sc];intro e;cases e;have:=((o.own.own j g).lt _ d).2;omega)
 refine⟨C.b.trans<|l.mono C.b.size,λj g f n a=> ?_,λa=> ?_,λa=> ?_,λa=> ?_⟩;rw[ZR f]at a;rw[T8 v _ (s:=7) (t:=Vc j) (show Vc j≠7 from A4 j g 11 Z0 f)];exact(C.val j g f n a).mono q;exact⟨xz<|xj W,Sc _ _ _,C.b.size,Z0,λ_=>Z6u W _⟩;rw[ZR Z0,k]at a;cases a;exact VL _ _
def FrC.store(C:FrC W0 E fv g' L v W){c:Nat}(k:v 7=.pointer (J ⟨c,0,U⟩)){y:Z3}(A:FrO W0 W L v g' y)(a:L 11=xk)(F:L 13=xw)(H:W.heap[c]?=J (.cells ZE 31 (0,0)))
  (w:∀b,b≠c->W'.heap[b]?=W.heap[b]?) (G:xz (xj W')=xz (xj W)) (z:W'.heap[c]?=J (.cells (Yc g' y) 31 (0,0))) (x:Below (xz<|xj W0) W W'):FrC W0 E fv g' (add L 13) v W':=by
 have l:add L 13 11=L 11:=ZR Z0;have t:∀p,FrO W0 W L v g' p->FrO W0 W' (add L 13) v g' p:=λp o=>o.keep (λj g b d=>w b (λe=>by subst e;exact o.ae j g b d a k)) Z0 (λj g b d _=>o.ae j g b d a);obtain⟨B,q,u,D,_⟩:=C.new a;rw[k]at q;cases q;refine⟨C.b.trans x,λj g n h f=> ?_,λf=> ?_,λf=> ?_,λf=>by rw[l];exact a⟩;rw[ZR h]at f;exact(C.val j g n h f).mono t;refine⟨c,k,u,Z0,λr=> ?_⟩;rw[VL]at r;cases r;exact⟨c,y,k,z,t y A⟩
def FrC.e(C:FrC W0 E fv g' L v W)i(d:i<6)(a:L i=xk):v (Vc i)=E i:=by
 have:=C.val i Z0 Z0 Z0 a;unfold FrV at this;rwa[Z6k d]at this
def FrC.t(C:FrC W0 E fv g' L v W)i(f:i=6\/i=7)(d:L i=xk):∃a,v (Vc i)=QT fv g' a/\FrO W0 W L v g' a:=by
 have:=C.val i Z0 Z0 Z0 d;unfold FrV at this;rwa[Z6h Z0,Z6k f]at this
def FrC.a(C:FrC W0 E fv g' L v W)(f:L 9=xk):∃d,v 47=.agg (Yc g' d)/\FrO W0 W L v g' d:=by
 have:=C.val 9 Z0 Z0 Z0 f;unfold FrV at this;rwa[Z6h Z0,Z6h Z0,Z6k rfl]at this
def FrC.f(C:FrC W0 E fv g' L v W)i(d:i=8\/i=12)(a:L i=xk):v (Vc i)=.int .u64 fv:=by
 have:=C.val i Z0 Z0 Z0 a;unfold FrV at this;rwa[Z6h Z0,Z6h Z0,Z6h Z0,Z6k d]at this
def FrC.z(C:FrC W0 E fv g' L v W)i(d:i=10\/i=14)(a:L i=xk):v (Vc i)=.int .i64 0:=by
 have:=C.val i Z0 Z0 Z0 a;unfold FrV at this;rwa[Z6h Z0,Z6h Z0,Z6h Z0,Z6h Z0]at this
def FrC.pe(C:FrC W0 E fv g' L v W)i(a:i<6){s}(d:s=Vc i):=
 C.step Z0 Z0 Z0 d (Z6r _ _) (by unfold FrV;rw[Z6k a])
def FrC.pt(C:FrC W0 E fv g' L v W){a}(o:FrO W0 W L v g' a):FrC W0 E fv g' (add L 7) (X7 v 38<|QT fv g' a) W:=
 C.step Z0 Z0 Z0 rfl (Z6r _ _) (by unfold FrV;rw[Z6h Z0,Z6k Z0];exact⟨a,rfl,o⟩)
def FrC.pa(C:FrC W0 E fv g' L v W){a}(o:FrO W0 W L v g' a):FrC W0 E fv g' (add L 9) (X7 v 47<|.agg<|Yc g' a) W:=
 C.step Z0 Z0 Z0 rfl (Z6r _ _) (by unfold FrV;rw[Z6k rfl];exact⟨a,rfl,o⟩)
def FrC.pf(C:FrC W0 E fv g' L v W)i(a:i=8\/i=12){s}(d:s=Vc i):=
 C.step Z0 Z0 Z0 d (Z6r _ _) (by unfold FrV;rw[Z6h Z0,Z6h Z0,Z6h Z0,Z6k a])
def FrC.pz(C:FrC W0 E fv g' L v W)i(d:i=10\/i=14){s}(a:s=Vc i):=
 C.step Z0 Z0 Z0 a (Z6r _ _) (by unfold FrV;rw[Z6h Z0,Z6h Z0,Z6h Z0,Z6h Z0])
end
def Tq{W G}{l:Z5}{y}(h:Rd W G (.sl<|l.map vu) y){k u}(j:l[k]?=J u):∃b o cap,y=.slice (J ⟨b,o,U⟩) (I l) cap/\W.cell? ⟨b,o+k,U⟩=J (.int .u64 u)/\G b:=by
 have g:=(Z6d.1 j).1;generalize a:l.map vu=L at h;cases h with
 |nil=>simp at a;subst a;simp at g
 |sl _ b o cap w A x z n p q r=>
  have d:I L=I l:=by rw[<-a,Z6D]
  have f:w=1:=by
   have:=(p _ (by rw[<-a];exact Z74<|Z6n j)).1;simpa using this.symm
  subst f;refine⟨b,o,cap,by rw[d],?_,n⟩;rw[q k Z0];have t:(flat L)[k]?=J (vu u):=by rw[<-a,Bv,Z6G,j];rfl
  rw[V9<|r k _ t]
end
structure NowI (B:Nat) (W:World) (b:Nat) (g:Hp) (x:Nat->Value):Prop where
 le:B<=b
 nb:W.heap[b]?=J (.cells (Yc g x) 31 (0,0))
 own:HOwn B W g x
 ae:∀j,j<5->∀c,(x j).ownBlock=J c->c≠b
def NowI.rd{B:Nat}{W:Z4}{b:Nat}{g:Hp}{x:Z3}(S:NowI B W b g x)(j:Nat)(a:j<5):Rd W (λc=>B<=c/\c<xz (xj W)/\c≠b) (.sl<|(Zu g j).map vu)<|x j:=
 Dh (k:=.u64) (S.own.own j a) λc d=>⟨((S.own.own j a).lt c d).1,((S.own.own j a).lt c d).2,S.ae j a c d⟩
def Qy(B:Nat)(W:Z4)(b:Nat)(a:Hp)(e:Ending)(W':Z4):Prop:=e=.returned (.int .i64 0)/\W.grownBy W' (J b)/\∃d,NowI B W' b a d
def La{B:Nat}{W:Z4}{b:Nat}{g:Hp}{x:Z3}(S:NowI B W b g x)(n:Int):W.grownBy (W.setCell ⟨b,4,U⟩<|.int .i64 n) (J b)/\NowI B (W.setCell ⟨b,4,U⟩<|.int .i64 n) b {g with O:=n} x:=by
 have d:∀c,c≠b->(W.setCell ⟨b,4,U⟩<|.int .i64 n).heap[c]?=W.heap[c]? :=λc a=>Z6w _ _ _ _ a;refine⟨⟨rfl,rfl,rfl,Z5T,λc _ a=>d c<|λe=>a (by rw[e])⟩,S.le,?_,S.own.to (Z6i _) (λj _=>.inl ⟨rfl,rfl⟩) (λj f c a _ _ _ _ _=>d c<|S.ae j f c a),S.ae⟩;have:=S.nb;unfold Yc at this;simp[World.setCell,Z6I,this,Yc]
def CZ{B:Nat}{W:Z4}{b:Nat}{g:Hp}{x:Z3}(S:NowI B W b g x):W.grownBy (((W.setCell ⟨b,3,U⟩<|.bool xw).setCell ⟨b,7,U⟩<|.slice U 0 0).setCell ⟨b,8,U⟩<|.slice U 0 0) (J b)/\
  NowI B (((W.setCell ⟨b,3,U⟩<|.bool xw).setCell ⟨b,7,U⟩<|.slice U 0 0).setCell ⟨b,8,U⟩<|.slice U 0 0) b {g with M:=xw,ad:=[],ae:=[]} (λj=>if j=2\/j=3 then .slice U 0 0 else x j):=by
 have d:∀c,c≠b->(((W.setCell ⟨b,3,U⟩<|.bool xw).setCell ⟨b,7,U⟩<|.slice U 0 0).setCell ⟨b,8,U⟩<|.slice U 0 0).heap[c]?=W.heap[c]? :=λc a=>by
  simp[World.setCell,Z6I,Z8d a]
 refine⟨⟨rfl,rfl,rfl,Z5T,λc _ a=>d c<|λe=>a (by rw[e])⟩,S.le,?_,S.own.to (Z6i _) (CU xw) (λj f c a _ _ _ _ _=>d c<|S.ae j f c a),λj f c a=> ?_⟩;have:=S.nb;unfold Yc at this;simp[World.setCell,Z6I,this,Yc];split at a;cases a;exact S.ae j f c a
def Ao(W:Z4)(B:Nat)(b:Nat)(g:Hp)(x:Z3)(S:NowI B W b g x)(q:g.ok)(i:Nat)(w:g.O=i)(y:i<I g.H)(pt:Bool)(D:pt=xw\/g.H[i]?=J 0):
  Calls Tryz.prog 42 #[.bool pt,.pointer<|J ⟨b,0,U⟩] W (Qy B W b<|Yv {g with O:=(i:Int)+1}):=by
 obtain⟨u,G⟩:∃u,g.H[i]?=J u:=⟨_,Z6b y⟩;obtain⟨H,go,cap,k,r,p⟩:=Tq (S.rd 0 Z0) G;rw[show I (Zu g 0)=(I g.H) from rfl]at k;have d:=S.nb;unfold Yc at d;rw[k,w]at d;have O:∀j,W.cell? ⟨b,j,U⟩=(#[.int .u64 g.V,.int .i64 g.cap,.int .i64 g.to,.bool g.M,.int .i64 i,.slice (J ⟨H,go,U⟩) (I g.H) cap,x 1,x 2,x 3,x 4]:Array Value)[j]? :=λj=>Z6j _ _ _ _ _ _ d;have M:∀j,W.frozen? ⟨b,j,U⟩=xw:=λj=>Y7 d;have K:=q.H;have N:=ZA ((i:Int)+1) Z0 Z0;have F:((i:Int)< (I g.H:Int))=True:=Z7G Z0;have C:=Z6e S;have L:=Z6e<|And.intro d<|And.intro k<|And.intro p w;have o:pt=xw\/pt=xk/\u=0:=by
  obtain h|h:=D;exact .inl h;rw[G]at h;cases pt;exact .inl rfl;exact .inr ⟨rfl,Z8s h⟩
 clear S d k p D w;go_enter Tryz.func42,Tryz.ntmps42;by_cases a:i+1=I g.H
 .have n:((i:Int)+1==(I g.H:Int))=xk:=Z5j;have f:=Z6e a;clear a;have l:Qy B W b (Yv {g with O:=(i:Int)+1}) (.returned<|.int .i64 0)<|(((W.setCell ⟨b,4,U⟩<|.int .i64<|(i:Int)+1).setCell ⟨b,3,U⟩<|.bool xw).setCell ⟨b,7,U⟩<|.slice U 0 0).setCell ⟨b,8,U⟩<|.slice U 0 0:=by
   have t:Yv {g with O:=(i:Int)+1}= {g with O:=(i:Int)+1,M:=xw,ad:=[],ae:=[]}:=by
    unfold Yv;rw[Z6k (by show(i:Int)+1=(I g.H:Int);have:=f.out;omega)]
   rw[t];obtain⟨z,A⟩:=La C.out<|(i:Int)+1;obtain⟨p3,p4⟩:=CZ A;exact⟨rfl,WS z p3,_,p4⟩
  obtain rfl|⟨rfl,rfl⟩:=o;all_goals
   go_wp2;exact Z6x (v:=.int .i64 0) Z5Q rfl l
 .have n:((i:Int)+1==(I g.H:Int))=xw:=Z5j;have f:=Z6e a;clear a;have l:Qy B W b (Yv {g with O:=(i:Int)+1}) (.returned<|.int .i64 0)<|W.setCell ⟨b,4,U⟩<|.int .i64<|(i:Int)+1:=by
   have t:Yv {g with O:=(i:Int)+1}= {g with O:=(i:Int)+1}:=by
    unfold Yv;rw[Z6h (by show ¬(i:Int)+1=(I g.H:Int);have:=f.out;omega)]
   rw[t];obtain⟨z,A⟩:=La C.out<|(i:Int)+1;exact⟨rfl,z,_,A⟩
  obtain rfl|⟨rfl,rfl⟩:=o;all_goals
   go_wp2;exact Z6x (v:=.int .i64 0) Z5Q rfl l
def GI(W:Z4)(B:Nat)(b:Nat)(b4:B<=xz (xj W))(g:Hp)(x:Z3)(S:NowI B W b g x)(Y:g.ok)(i:Nat)(hi:g.O=i)(e2:i<I g.H){u:Int}(hu:g.H[i]?=J u)(e4:¬u=0){v:Int}{a:Hp}(hf:fwd g u=(v,a,0))(d1:i<I a.H)(d2:a.O=i):
  Calls Tryz.prog 42 #[.bool xk,.pointer<|J ⟨b,0,U⟩] W (Qy B W b<|Yv {a with H:=a.H.set i v,O:=(i:Int)+1}):=by
 obtain⟨gb,go,cap,F,d4,b9⟩:=Tq (S.rd 0 Z0) hu;rw[show I (Zu g 0)=(I g.H) from rfl]at F;have w:=S.nb;unfold Yc at w;rw[F,hi]at w;have yb:∀j,W.cell? ⟨b,j,U⟩=(#[.int .u64 g.V,.int .i64 g.cap,.int .i64 g.to,.bool g.M,.int .i64 i,.slice (J ⟨gb,go,U⟩) (I g.H) cap,x 1,x 2,x 3,x 4]:Array Value)[j]? :=λj=>Z6j _ _ _ _ _ _ w;have e3:=Y.H;have uu:=Y.dm u<|Z6n hu;have wi:=ZA ((i:Int)+1) Z0 Z0;have d7:((i:Int)< (I g.H:Int))=True:=Z7G Z0;have hF:∀W',Below (xz<|xj W) W W'->Calls Tryz.prog 43 #[.agg #[.int .u64 g.V,.int .i64 g.cap,.int .i64 g.to,.bool g.M,.int .i64 i,.slice (J ⟨gb,go,U⟩) (I g.H) cap,x 1,x 2,x 3,x 4],.int .u64 u] W' (FwdPost W' (v,a,0)):=λW' hb=>by
  have:=zm W' (λc=>B<=c/\c<xz (xj W)/\c≠b) (λc h=>Z6o h.2.1 hb.size) g Y x (λj hj=>(S.rd j hj).keep (λc h=>hb.block c h.2.1) λ_ q=>q) u uu;rw[hf]at this;unfold Zx at this;rw[F,hi]at this;exact this
 have HF:=Z6e hF;have c7:=Z6e b4;have HS:=Z6e S;have HN:=Z6e<|And.intro w<|And.intro F<|And.intro b9 hi;have A:=(QV Y uu);rw[hf]at A;have d8:=Z6e A;have d3:=ZL w;clear S w F b9 hi hF hf A b4;go_enter Tryz.func42,Tryz.ntmps42;go_upto_region 6 with (go_at_call 43;refine(HF.out _<|Z6r _ _).mono ?_;rintro e w9 ⟨x9,rfl,b7,k⟩;obtain⟨a0,O,f0⟩:=ZV<|k.own 0 Z0;obtain⟨K,P,f1⟩:=ZV<|k.own 1 Z0;obtain⟨L,Q,f2⟩:=ZV<|k.own 2 Z0;obtain⟨M,R,f3⟩:=ZV<|k.own 3 Z0;obtain⟨N,T,f4⟩:=ZV<|k.own 4 Z0;obtain⟨d,rfl⟩:=T5 (k.own 0 Z0) f0 (by show 0<I a.H;omega);rw[show I (Zu a 0)=(I a.H) from rfl]at f0;unfold Zx;rw[f0,f1,f2,f3,f4];have o:=Z6e<|And.intro b7<|And.intro k<|And.intro f0<|And.intro f1<|And.intro f2<|And.intro f3 f4;clear b7 k f0 f1 f2 f3 f4);have d5:=o.out.1.size;have a6:Below (xz<|xj W) W<|w9.alloc<|.cells #[.int .u64 a.V,.int .i64 a.cap,.int .i64 a.to,.bool a.M,.int .i64 i,.slice (J ⟨d,0,U⟩) (I a.H) O,.slice K (I<|Zu a 1) P,.slice L (I<|Zu a 2) Q,.slice M (I<|Zu a 3) R,.slice N (I<|Zu a 4) T] 31:=o.out.1.alloc d5 _;have a9:=Z6u w9<|.cells #[.int .u64 a.V,.int .i64 a.cap,.int .i64 a.to,.bool a.M,.int .i64 i,.slice (J ⟨d,0,U⟩) (I a.H) O,.slice K (I<|Zu a 1) P,.slice L (I<|Zu a 2) Q,.slice M (I<|Zu a 3) R,.slice N (I<|Zu a 4) T] 31;have b3:xz (xj<|w9.alloc<|.cells #[.int .u64 a.V,.int .i64 a.cap,.int .i64 a.to,.bool a.M,.int .i64 i,.slice (J ⟨d,0,U⟩) (I a.H) O,.slice K (I<|Zu a 1) P,.slice L (I<|Zu a 2) Q,.slice M (I<|Zu a 3) R,.slice N (I<|Zu a 4) T] 31)=xz (xj w9)+1:=Z1;have l:HOwn (xz<|xj W) (w9.alloc<|.cells #[.int .u64 a.V,.int .i64 a.cap,.int .i64 a.to,.bool a.M,.int .i64 i,.slice (J ⟨d,0,U⟩) (I a.H) O,.slice K (I<|Zu a 1) P,.slice L (I<|Zu a 2) Q,.slice M (I<|Zu a 3) R,.slice N (I<|Zu a 4) T] 31) a x9:=⟨λj hj=>Yx (o.out.2.1.own j hj) λc h=>Z6m w9 _ c ((o.out.2.1.own j hj).lt c h).2,o.out.2.1.apart⟩;have e0:xz (xj W)<=d/\d<xz (xj w9):=(o.out.2.1.own 0 Z0).lt d (by rw[o.out.2.2.1];rfl);obtain⟨H,b5⟩:∃H,H=w9.alloc (.cells #[.int .u64 a.V,.int .i64 a.cap,.int .i64 a.to,.bool a.M,.int .i64 i,.slice (J ⟨d,0,U⟩) (I a.H) O,.slice K (I<|Zu a 1) P,.slice L (I<|Zu a 2) Q,.slice M (I<|Zu a 3) R,.slice N (I<|Zu a 4) T] 31):=⟨_,rfl⟩;rw[<-b5]at a6 a9 b3 l⊢;clear b5;have Z:=(a6.block b d3).trans HN.out.1;have y7:∀j,H.cell? ⟨xz<|xj w9,j,U⟩=(#[.int .u64 a.V,.int .i64 a.cap,.int .i64 a.to,.bool a.M,.int .i64 i,.slice (J ⟨d,0,U⟩) (I a.H) O,.slice K (I<|Zu a 1) P,.slice L (I<|Zu a 2) Q,.slice M (I<|Zu a 3) R,.slice N (I<|Zu a 4) T]:Array Value)[j]? :=λj=>Z6j _ _ _ _ _ _ a9;have d6:∀j,H.cell? ⟨b,j,U⟩=(#[.int .u64 g.V,.int .i64 g.cap,.int .i64 g.to,.bool g.M,.int .i64 i,.slice (J ⟨gb,go,U⟩) (I g.H) cap,x 1,x 2,x 3,x 4]:Array Value)[j]? :=λj=>Z6j _ _ _ _ _ _ Z;have d0:∀j,H.frozen? ⟨b,j,U⟩=xw:=λj=>Y7 Z;have z:=Z6e<|And.intro a6<|And.intro l<|And.intro b3 Z;clear a6 l b3 Z a9;go_upto_region 7 with fail;obtain⟨f,t⟩:∃f,f=((((((((((H.setCell ⟨b,0,U⟩<|.int .u64 a.V).setCell ⟨b,1,U⟩<|.int .i64 a.cap).setCell ⟨b,2,U⟩<|.int .i64 a.to).setCell ⟨b,3,U⟩<|.bool a.M).setCell ⟨b,4,U⟩<|.int .i64 i).setCell ⟨b,5,U⟩<|.slice (J ⟨d,0,U⟩) (I a.H) O).setCell ⟨b,6,U⟩<|.slice K (I<|Zu a 1) P).setCell ⟨b,7,U⟩<|.slice L (I<|Zu a 2) Q).setCell ⟨b,8,U⟩<|.slice M (I<|Zu a 3) R).setCell ⟨b,9,U⟩<|.slice N (I<|Zu a 4) T):=⟨_,rfl⟩;rw[<-t];have b0:f.heap[b]?=J (.cells #[.int .u64 a.V,.int .i64 a.cap,.int .i64 a.to,.bool a.M,.int .i64 i,.slice (J ⟨d,0,U⟩) (I a.H) O,.slice K (I<|Zu a 1) P,.slice L (I<|Zu a 2) Q,.slice M (I<|Zu a 3) R,.slice N (I<|Zu a 4) T] 31 (0,0)):=by rw[t];exact EE z.out.2.2.2
 have r:∀c,c≠b->f.heap[c]?=H.heap[c]? :=λc h=>by rw[t];exact XK h
 have c1:xz (xj f)=xz (xj H):=by rw[t];simp[World.setCell]
 have a5:Below 0 H f:=by rw[t];exact XJ (Z6r _ _)<|Z7T _
 have a7:H.grownBy f<|J b:=⟨a5.os,a5.tape,a5.output,a5.size,λc _ h=>r c<|λe=>h (by rw[e])⟩;clear t;have n:HOwn (xz<|xj W) f a x9:=⟨λj hj=>Yx (z.out.2.1.own j hj) λc h=>r c (by have:=((z.out.2.1.own j hj).lt c h).1;omega),z.out.2.1.apart⟩;have D:=n.own 0 Z0;rw[o.out.2.2.1,show I (Zu a 0)=(I a.H) from rfl]at D;obtain⟨z0,c0⟩:∃z0,a.H[i]?=J z0:=⟨_,Z6b d1⟩;have ec:f.cell? ⟨d,i,U⟩=J (.int .u64 z0):=by
  rw[D.cellAt i Z0];simp[Y6,Zu,c0]
 have ef:f.frozen? ⟨d,i,U⟩=xw:=D.frozenAt i;have y3:∀j,f.cell? ⟨b,j,U⟩=(#[.int .u64 a.V,.int .i64 a.cap,.int .i64 a.to,.bool a.M,.int .i64 i,.slice (J ⟨d,0,U⟩) (I a.H) O,.slice K (I<|Zu a 1) P,.slice L (I<|Zu a 2) Q,.slice M (I<|Zu a 3) R,.slice N (I<|Zu a 4) T]:Array Value)[j]? :=λj=>Z6j _ _ _ _ _ _ b0;have e1:((i:Int)< (I a.H:Int))=True:=Z7G Z0;have a8:=Z6e<|And.intro b0<|And.intro r<|And.intro c1<|And.intro a7<|And.intro n D;clear b0 r c1 a7 n D y7 d6 d0 c0;go_upto_region 8 with fail;have b8:d≠b:=Z0;have G:∀c,c≠d->(f.setCell ⟨d,i,U⟩<|.int .u64 v).heap[c]?=f.heap[c]? :=λc h=>Z6w _ _ _ _ h;have c2:xz (xj<|f.setCell ⟨d,i,U⟩<|.int .u64 v)=xz (xj f):=Z5T;have C:=(G b<|Z8d b8).trans a8.out.1;have b2:=a8.out.2.2.2.2.1.put (j:=0) (i:=i) Z0 o.out.2.2.1 v;have S4:NowI B (f.setCell ⟨d,i,U⟩<|.int .u64 v) b {a with H:=a.H.set i v} x9:=by
  refine⟨HS.out.le,?_,b2.nd c7.out λ_ _ _ _ _=>rfl,λj hj c h=>by have:=((b2.own j hj).lt c h).1;omega⟩;rw[C];unfold Yc;rw[o.out.2.2.1,o.out.2.2.2.1,o.out.2.2.2.2.1,o.out.2.2.2.2.2.1,o.out.2.2.2.2.2.2];simp only[d2]
 have G4:W.grownBy (f.setCell ⟨d,i,U⟩<|.int .u64 v)<|J b:=by
  have g2:=WF z.out.1<|J b;have g3:=WS g2 a8.out.2.2.2.1;refine⟨g3.os,g3.tape,g3.output,by rw[c2];exact g3.size,λc h hn=> ?_⟩;rw[G c Z0];exact g3.block c h hn
 obtain⟨W4,b6⟩:∃W4,W4=f.setCell ⟨d,i,U⟩ (.int .u64 v):=⟨_,rfl⟩;rw[<-b6]at S4 G4 C⊢;clear b6 G c2 b2;have y4:∀j,W4.cell? ⟨b,j,U⟩=(#[.int .u64 a.V,.int .i64 a.cap,.int .i64 a.to,.bool a.M,.int .i64 i,.slice (J ⟨d,0,U⟩) (I a.H) O,.slice K (I<|Zu a 1) P,.slice L (I<|Zu a 2) Q,.slice M (I<|Zu a 3) R,.slice N (I<|Zu a 4) T]:Array Value)[j]? :=λj=>Z6j _ _ _ _ _ _ C;have d9:∀j,W4.frozen? ⟨b,j,U⟩=xw:=λj=>Y7 C;have X:=Z6e<|And.intro S4 G4;clear S4 G4 C ec ef y3;by_cases p:i+1=I a.H
 .have b1:((i:Int)+1==(I a.H:Int))=xk:=Z5j;have y:=Z6e p;clear p;go_wp2;refine Z6x (v:=.int .i64 0) Z5Q rfl ?_;have he:Yv {a with H:=a.H.set i v,O:=(i:Int)+1}= {a with H:=a.H.set i v,O:=(i:Int)+1,M:=xw,ad:=[],ae:=[]}:=by
   unfold Yv;rw[Z6k (by show(i:Int)+1=(I (a.H.set i v):Int);rw[Z7g];have:=y.out;omega)]
  rw[he];obtain⟨p1,p2⟩:=La X.out.1<|(i:Int)+1;obtain⟨p3,p4⟩:=CZ p2;exact⟨rfl,WS (WS X.out.2 p1) p3,_,p4⟩
 .have b1:((i:Int)+1==(I a.H:Int))=xw:=Z5j;have y:=Z6e p;clear p;go_wp2;refine Z6x (v:=.int .i64 0) Z5Q rfl ?_;have he:Yv {a with H:=a.H.set i v,O:=(i:Int)+1}= {a with H:=a.H.set i v,O:=(i:Int)+1}:=by
   unfold Yv;rw[Z6h (by show ¬(i:Int)+1=(I (a.H.set i v):Int);rw[Z7g];have:=y.out;omega)]
  rw[he];obtain⟨p1,p2⟩:=La X.out.1<|(i:Int)+1;exact⟨rfl,WS X.out.2 p1,_,p2⟩
def F4{g:Hp}{p:Pts}(r:Rt g p){i:Nat}(B:g.O=i)(w:XN p.H i=xk){u:Int}(x:g.H[i]?=J u):Gos g p u 1 2\/Gos g p u 3 4:=by
 obtain⟨o,d,z,A⟩:=TX.1 w;obtain⟨a,n,m,f,y,em,l,_,t⟩:=r.toTld.ob (k:=1) Z0 d;have q:o.gone=xw:=(r.af 1 Z0).bi o d;obtain⟨j,h⟩:∃j,i=a+1+j:=⟨i-a-1,Z0⟩;have:=r.ptr 1 Z0 o d q j Z0 u (by rw[f,Z6p,<-h];exact x);unfold Yz at this;rw[Z6h Z0,Z6k ⟨rfl,by rw[f,Z6p,<-h];omega⟩]at this;exact this
def Z0p{l:Z5}{i:Nat}{u:Int}(h:l[i]?=J u):l.set i u=l:=by
 apply Z81;intro j;rw[Z7q];by_cases e:i=j;subst e;rw[Z6k rfl,h,Z6k (Z6d.1 h).1];rw[Z6h e]
def GG(W:Z4)(B:Nat)(b:Nat)(n:B<=xz (xj W))(g:Hp)(x:Z3)(S:NowI B W b g x)(h:g.ok){p:Pts}(r:Rt g p)(y:g.M=xk):
  Calls Tryz.prog 42 #[.bool<|XN p.H g.O,.pointer<|J ⟨b,0,U⟩] W (Qy B W b<|scan1 g):=by
 obtain⟨i,a⟩:=Z6q r.dq;have d:i<I g.H:=by have:=r.fq y;omega
 have w:=r.lu;obtain⟨u,j⟩:∃u,g.H[i]?=J u:=⟨_,Z6b d⟩;have o:(g.H[g.O.toNat]?).getD 0=u:=by rw[a,Z6p,j];rfl
 cases q:XN p.H g.O with
 |false=>
  have l:scan1 g=Yv {g with O:=(i:Int)+1}:=by
   unfold scan1;rw[w,Z6h (by rw[q];simp),a]
  rw[l];exact Ao W B b g x S h i a d xw<|.inl rfl
 |true=>
  have l:scan1 g=Yv {(fwd g u).2.1 with H:=(fwd g u).2.1.H.set i (fwd g u).1,O:=(i:Int)+1}:=by
   unfold scan1;rw[w,Z6k q,o,a,Z6p]
  by_cases k:u=0;subst k;have:scan1 g=Yv {g with O:=(i:Int)+1}:=by
   rw[l,QU r.al];simp only;rw[Z0p j]
  rw[this];exact Ao W B b g x S h i a d xk<|.inr j;obtain⟨v,z,A,f⟩:=r.toBody.dx r.cz<|F4 r a (by rw[<-a];exact q) j;rw[l,f.fwd];obtain⟨C,t⟩:=f.ext.H;exact GI W B b n g x S h i a d j k f.fwd (by rw[t,Z6L];omega) (by rw[f.ext.O];exact a)
end Vm
end
section
namespace Vm
open Go Go.Proofs
section
section
variable {h g:Hp}{p q:Pts}
def Mvd.cx(m:Mvd h p g)(j:ZC (Zv h)=xk)(a:h.cap<=g.cap):Xh (Zv h)<=Xh (Zv g):=by
 have d:=m.len (k:=1) Z0;have f:=m.len (k:=2) Z0;simp only[Xn,Uq]at d f;unfold Xh;rw[Z6k j,Z6k m.ht];show h.cap- (I h.H:Int) - (I h.aa:Int)<=g.cap- (I g.H:Int) - (I g.aa:Int);omega
theorem Mvd.fwd(r:Body h p)(m:Mvd h p g)(K:h.O<=I h.H)(F:h.cap<=g.cap)(S:∀w∈h.E,WC (Zv h) w){u v:Int}{h':Hp}{p':Pts}(hu:Gos h p u 1 2\/Gos h p u 3 4)(f:FwdTo h p u v h' p'):
  ∃D,Vm.fwd g (mu h g u)=(mu h' D v,D,0)/\Mvd h' p' D/\D.V=g.V/\D.cap=g.cap:=by
 by_cases O:u=0;subst O;have e:=f.fwd;rw[QU r.al]at e;cases e;have:=r.dn f.body;subst this;exact⟨g,by rw[m.ky r.al,QU m.ht],m,rfl,rfl⟩;have T:∃k o,(1<=k/\k<=4)/\o∈p.at k/\u=ZG (Zv h) k o.Y:=by
  obtain(A|⟨k,o,j,l,e⟩)|(A|⟨k,o,j,l,e⟩):=hu;exact absurd A O;exact⟨k,o,Z0,l,e⟩;exact absurd A O;exact⟨k,o,Z0,l,e⟩
 obtain⟨k,o,j,l,rfl⟩:=T;obtain⟨a,n,mm,C,N,em,q,a3,a2⟩:=r.toTld.ob j l;have z:mu h g (ZG (Zv h) k o.Y)=ZG (Zv g) k a:=by rw[m.ld r.al j ⟨Z0,Z0⟩,C]
 by_cases X:k<=2;have e:=f.fwd;rw[r.il ⟨j.1,X⟩ l]at e;cases e;have:=r.dn f.body;subst this;refine⟨g,?_,m,rfl,rfl⟩;rw[z];exact fwd_here m.ht ⟨j.1,X⟩ ⟨Z0,by rw[m.len j];omega⟩;have d:3<=k/\k<=4:=Z0;cases t:o.gone with
 |true=>
  obtain⟨y,hy,T,ht,_⟩:=yA r j l t;obtain⟨b,bn,bm,eb,_,_,a1,_⟩:=r.toTld.ob (k:=1) Z0 hy;have e:=f.fwd;rw[r.gm d l t]at e;cases e;have:=r.dn f.body;subst this;have ev:2*o.target+1=ZG (Zv h) 1 y.Y:=by unfold ZG;omega
  have L:=m.ptr k j o l _ (.inl ⟨t,rfl⟩) _ T;have W:=m.ld r.al (k:=1) (a:=y.Y) Z0 ⟨Z0,Z0⟩;rw[C,Z6p,W]at L;refine⟨g,?_,m,rfl,rfl⟩;rw[ev,z,W];exact Vm.fwd_gone m.ht d L (by rw[WM m.ht Z0])
 |false=>
  obtain⟨f1,B⟩:=r.fa d l t C N;have e:=f.fwd;rw[f1]at e;cases e;have:=(r.move K d l t C N).dn f.body;subst this;have H:=Int.le_trans B<|m.cx r.al F;have M:=m.move r K d l t C N H S;obtain⟨hd,G,P⟩:=((r.af k j).aq o l).1.cm;rw[Z6h (by simp[t])]at P;rw[C,Z6p]at G;have R:∀x∈p.at k,¬Xk x a:=λx hx Z=>by
   have:=RN r.toTld j l hx Z Z0 Z0;subst this;obtain⟨A,_⟩|⟨_,A,_⟩:=Z;rw[t]at A;cases A;omega
  have Q:(Zw g k)[a]?=J hd:=by rw[m.fj k j a R];exact G
  have fg:=Vm.fwd_wait m.ht d Q (P.1<|Z7H Z0) (by rw[P.2.1,N]) (by rw[m.len j];exact q) H;obtain⟨g1,g2,g3,g4,g5,g6,g7,g8,g9,a0⟩:=RU g d a<|n+1;refine⟨_,?_,M,g9,g8⟩;rw[z,fg];have hb:=f.body;have Y:=Cz (g:=h) d q;have:=M.ld hb.al (k:=1) (a:=I h.H) Z0 ⟨Z0,by simp only[Xn];omega⟩;rw[R4 d q,R4 d (by rw[m.len j];exact q)]at this;rw[this,show I g.H=(I h.H) from m.len (k:=1) Z0]
def Mvd.mj(m:Mvd h p g){k:Int}(B:1<=k/\k<=4){i:Nat}{v v':Int}(D:((∃o∈p.at k,Xk o i)/\v'=mu h g v)\/((∀o∈p.at k,¬Xk o i)/\v'=v)):Mvd (Yr h k<|(Zw h k).set i v) p<|Yr g k<|(Zw g k).set i v':=by
 have F:Zv (Yr h k<|(Zw h k).set i v)=Zv h:=Qs (by rw[Z7g]);have C:Zv (Yr g k<|(Zw g k).set i v')=Zv g:=Qs (by rw[Z7g]);have z:mu (Yr h k<|(Zw h k).set i v) (Yr g k<|(Zw g k).set i v')=mu h g:=by unfold mu;rw[F,C]
 have q:∀(x:Hp) (l:Z5) j,1<=j/\j<=4->Zw (Yr x k l) j=if j=k then l else Zw x j:=λx l j r=>by
  have n:k=1\/k=2\/k=3\/k=4:=Z0;have G:j=1\/j=2\/j=3\/j=4:=Z0;obtain rfl|rfl|rfl|rfl:=n<;>obtain rfl|rfl|rfl|rfl:=G<;>rfl
 have d:∀(x:Hp) (l:Z5),(Yr x k l).to=x.to/\(Yr x k l).M=x.M/\(Yr x k l).O=x.O/\(Yr x k l).E=x.E:=λx l=>by
  unfold Yr;split;exact⟨rfl,rfl,rfl,rfl⟩;split;exact⟨rfl,rfl,rfl,rfl⟩;split<;>exact⟨rfl,rfl,rfl,rfl⟩
 refine⟨by rw[C];exact m.ht,λj=>by rw[C,F];exact m.gt j,?_,λj r o A a t w f=> ?_,λj r a t=> ?_,?_⟩;rw[(d g _).1,(d g _).2.1,(d g _).2.2.1,(d h _).1,(d h _).2.1,(d h _).2.2.1];exact m.da;rw[q h _ j r]at f;rw[q g _ j r,z];by_cases e:j=k;subst e;rw[Z6k rfl]at f⊢;rw[Z7q]at f⊢;by_cases y:i=a;subst y;rw[Z6k rfl]at f⊢;have u:v'=mu h g v:=by
  obtain⟨_,n⟩|⟨n,_⟩:=D;exact n;exact absurd t<|n o A
 rw[m.len B];split at f;rename_i H;rw[Z6k H];cases f;rw[u];cases f;rw[Z6h y]at f⊢;exact m.ptr j B o A a t w f;rw[Z6h e]at f⊢;exact m.ptr j r o A a t w f;rw[q h _ j r,q g _ j r];by_cases e:j=k;subst e;rw[Z6k rfl,Z6k rfl,Z7q,Z7q];by_cases y:i=a;subst y;rw[Z6k rfl,Z6k rfl,m.len B];have u:v'=v:=by
  obtain⟨⟨o,A,n⟩,_⟩|⟨_,n⟩:=D;exact absurd n<|t o A;exact n
 rw[u];rw[Z6h y,Z6h y];exact m.fj j B a t;rw[Z6h e,Z6h e];exact m.fj j r a t;rw[(d g _).2.2.2,(d h _).2.2.2,z];exact m.E
def Mvd.pq(m:Mvd h p g)(r:Z5):Mvd {h with E:=r} p {g with E:=r.map (mu h g)}:=⟨m.ht,m.gt,m.da,m.ptr,m.fj,rfl⟩
def Mvd.nq(m:Mvd h p g)(H:ZC (Zv h)=xk){n:Pts}(r:Body {h with ad:=[],ae:=[]} n)(C:n.H=p.H)(B:n.aa=p.aa)(u:∀w∈h.E,WC (Zv {h with ad:=[],ae:=[]}) w):Mvd {h with ad:=[],ae:=[]} n {g with ad:=[],ae:=[]}:=by
 have A:ZC (Zv {g with ad:=[],ae:=[]})=xk:=by
  obtain⟨K,L,M,N,O,⟨P,Q,R,S⟩,x⟩:=Xe.1 m.ht;have:=r.al;refine Xe.2 ?_;simp only[Zv]at K L M N O P Q R S x⊢;simp at*;omega
 have D:∀k,ZX (Zv {g with ad:=[],ae:=[]}) k=ZX (Zv {h with ad:=[],ae:=[]}) k:=λk=>by
  have:=m.gt k;unfold ZX at this⊢;split;rename_i q;rw[Z6k q,Z6k q]at this;exact this;rename_i q;rw[Z6h q,Z6h q]at this;split;rename_i y;rw[Z6k y,Z6k y]at this;exact this;split<;>rfl
 have F:LkL (Zv {h with ad:=[],ae:=[]})<|Zv {g with ad:=[],ae:=[]}:=⟨r.al,A,D⟩;have t:∀w,WC (Zv {h with ad:=[],ae:=[]}) w->mu {h with ad:=[],ae:=[]} {g with ad:=[],ae:=[]} w=mu h g w:=λw a=>
  CI (m.lk H) F (λj c d T z=>by
   have:j=1\/j=2\/j=3\/j=4:=Z0;obtain rfl|rfl|rfl|rfl:=this;exact⟨z,rfl,rfl⟩;exact⟨z,rfl,rfl⟩;have:ZX (Zv {h with ad:=[],ae:=[]}) 3=0:=rfl;omega;have:ZX (Zv {h with ad:=[],ae:=[]}) 4=0:=rfl;omega) a
 refine⟨A,D,m.da,λj d o f i l w a=> ?_,λj d i l=> ?_,?_⟩;have G:=Ul r d f l a;rw[t w G];have:j=1\/j=2\/j=3\/j=4:=Z0;obtain rfl|rfl|rfl|rfl:=this;exact m.ptr 1 d o (by show o∈p.H;rw[<-C];exact f) i l w a;exact m.ptr 2 d o (by show o∈p.aa;rw[<-B];exact f) i l w a;cases a;cases a;have:j=1\/j=2\/j=3\/j=4:=Z0;obtain rfl|rfl|rfl|rfl:=this;exact m.fj 1 d i λo f=>l o (by show o∈n.H;rw[C];exact f);exact m.fj 2 d i λo f=>l o (by show o∈n.aa;rw[B];exact f);rfl;rfl;show g.E=h.E.map _;rw[m.E];exact Z7w λw a=>(t w<|u w a).symm
end
end
section
section
variable {h g:Hp}{p q:Pts}
theorem MvOk.of{h':Hp}{b w:Int}(ok:MvOk h b w)(e:h'.cap=h.cap):MvOk h' b w:=⟨ok.b0,ok.w0,ok.w1,by rw[e];exact ok.cap,ok.sg⟩
def Mvd.rt(m:Mvd h p g)(r:Rt h p)(ok:MvOk h g.V g.cap)(a:0<=g.V):Rt g<|Wt (Zv h) (Zv {h with V:=g.V,cap:=g.cap}) p:=by
 have:=r.mv ok a;rw[<-m.eq]at this;exact this
def BW{f t:Ly}{l:Z8}{i:Int}:XN (l.map<|Xm f t) i=XN l i:=by
 unfold XN;rw[List.any_map];congr 1;funext o;obtain⟨a,_,d,_⟩:=V7 (f:=f) (t:=t) o;simp only[Function.comp,a,d]
def Mvd.fq(m:Mvd h p g)(c:Bool):Mvd {h with M:=c} p {g with M:=c}:=⟨m.ht,m.gt,⟨m.da.1,rfl,m.da.2.2⟩,m.ptr,m.fj,m.E⟩
def Mvd.sd(m:Mvd h p g)(s:Int):Mvd {h with O:=s} p {g with O:=s}:=⟨m.ht,m.gt,⟨m.da.1,m.da.2.1,rfl⟩,m.ptr,m.fj,m.E⟩
def MM{w:Int}(d:Gos h p w 1 2)(f:∀k,1<=k/\k<=2->∀o∈p.at k,0<=o.Y/\o.Y< I (Zw h k)):WC (Zv {h with M:=xw,ad:=[],ae:=[]}) w:=by
 obtain rfl|⟨k,o,a,g,rfl⟩:=d;exact .inl rfl;have:=f k Z0 o g;obtain rfl|rfl:=a;exact .inr ⟨1,o.Y,Z0,this,rfl⟩;exact .inr ⟨2,o.Y,Z0,this,rfl⟩
def Mvd.ov(m:Mvd h p g)(b:Body h p)(t:∀w∈h.E,Gos h p w 1 2)(R:Rt (Yv h) q):Mvd (Yv h) q (Yv g)/\(Yv g).V=g.V/\(Yv g).cap=g.cap:=by
 have d:=m.len (k:=1) Z0;simp only[Xn]at d;have j:=m.da.2.2;unfold Yv at R⊢;by_cases e:h.O=I h.H;rw[Z6k e]at R⊢;rw[Z6k (by rw[j,e,d])];have f:=b.stop e;have:=f.dn R.toBody;subst this;refine⟨(m.fq xw).nq b.al f rfl rfl λw u=>MM (h:=h) (t w u) λk z o r=> ?_,rfl,rfl⟩;obtain⟨a,n,mm,x,y,em,l,_⟩:=b.toTld.ob Z0 r;exact⟨Z0,Z0⟩;rw[Z6h e]at R⊢;rw[Z6h (by rw[j,d];exact e)];have:=b.dn R.toBody;subst this;exact⟨m,rfl,rfl⟩
def Mvd.fm(m:Mvd h p g)(r:Rt h p)(X:h.M=xk)(ok:MvOk h g.V g.cap)(hb:0<=g.V):∃q,Rt (scan1 h) q/\Mvd (scan1 h) q (scan1 g)/\(scan1 g).V=g.V/\(scan1 g).cap=g.cap:=by
 obtain⟨h1,q,S⟩:=r.O X;have:=S.eq;subst this;refine⟨q,S.rt,?_⟩;have R:=S.rt;have Q:=m.rt r ok hb;have Z:=r.lu;have w2:=Q.lu;obtain⟨i,l⟩:=Z6q r.dq;have L:i<I h.H:=by have:=r.fq X;omega
 have t:g.O=i:=m.da.2.2.trans l;obtain⟨u,T⟩:∃u,h.H[i]?=J u:=⟨_,Z6b L⟩;have H:∀w∈h.E,WC (Zv h) w:=λw A=>UP r.toTld Z0 Z0<|r.E w A;by_cases j:XN p.H i=xk;have d:=F4 r l j T;obtain⟨v,f,s,F⟩:=r.toBody.dx r.cz d;obtain⟨G,e,M,e1,e2⟩:=m.fwd r.toBody r.cz ok.cap H d F;obtain⟨o,B,o1,o2⟩:=TX.1 j;have N:o.gone=xw:=(r.af 1 Z0).bi o B;obtain⟨a,n,mm,ea,en,em,a0,_⟩:=r.toTld.ob (k:=1) Z0 B;have Y:Xk o i:=.inr ⟨N,Z0,Z0⟩;have K:=m.ptr 1 Z0 o B i Y u T;have hs:f.O=i:=F.ext.O.trans l;obtain⟨ws,W⟩:=F.ext.H;obtain⟨rs,P⟩:=F.ext.gx;have y:i<I f.H:=by rw[W,Z6L];omega
 have z:o∈s.H:=by rw[P];exact Z7r _ B
 have O:XN s.H i=xk:=TX.2 ⟨o,z,o1,o2⟩;have b:=F.body.lr hs y F.rj O;have C:Vm.scan1 h=Yv {f with H:=f.H.set i v,O:=(i:Int)+1}:=by
  unfold Vm.scan1;rw[Z,l,Z6k j];simp only[Z6p,T,Z6K,F.fwd]
 have D:Vm.scan1 g=Yv {G with H:=G.H.set i<|mu f G v,O:=(i:Int)+1}:=by
  unfold Vm.scan1;rw[w2,t,Z6k (by show XN (p.H.map _) i=xk;rw[BW];exact j)];have x:g.H[i]?=J (mu h g u):=K;simp only[Z6p,x,Z6K,e]
 have M2:=(M.mj (k:=1) (i:=i) (v:=v) Z0<|.inl ⟨⟨o,z,Y⟩,rfl⟩).sd<|(i:Int)+1;rw[C]at R⊢;rw[D]
 obtain⟨x1,x2,x3⟩:=M2.ov b (λw A=>by
  have hl:Zv {f with H:=f.H.set i v,O:=(i:Int)+1}=Zv f:=by unfold Zv;simp
  exact(UD hl).2 (F.ext.na Z0 Z0<|r.E w (by rw[<-F.ext.E];exact A))) R
 exact⟨x1,x2.trans e1,x3.trans e2⟩;have b:=r.toBody.ph l j;have C:Vm.scan1 h=Yv {h with O:=(i:Int)+1}:=by
  unfold Vm.scan1;rw[Z,l,Z6h j]
 have D:Vm.scan1 g=Yv {g with O:=(i:Int)+1}:=by
  unfold Vm.scan1;rw[w2,t,Z6h (by show ¬XN (p.H.map _) i=xk;rw[BW];exact j)]
 rw[C]at R⊢;rw[D];exact(m.sd<|(i:Int)+1).ov b (λw A=>r.E w A) R
def Mvd.iz(ok:MvOk h g.V g.cap)(j:0<=g.V)(r:Rt h p)(m:Mvd h p g):∀k,∃q,Rt (scanK h k) q/\Mvd (scanK h k) q (scanK g k)/\(scanK g k).V=g.V/\(scanK g k).cap=g.cap
 |0=>⟨p,r,m,rfl,rfl⟩
 |k+1=>by
  obtain⟨q,R,M,d,f⟩:=m.iz ok j r k;obtain⟨x,S⟩:=r.ei k;have o:=S.da.2.1;rw[Tu,Tu,M.da.2.1];by_cases a:(Vm.scanK h k).M=xk;rw[Z6k a,Z6k a];obtain⟨t,n,l,u,w⟩:=M.fm R a (by rw[d,f];exact ok.of o) (by rw[d];exact j);exact⟨t,n,l,u.trans d,w.trans f⟩;rw[Z6h a,Z6h a];exact⟨q,R,M,d,f⟩
def Mvd.bv(m:Mvd h p g)(r:Rt h p)(y:h.M=xw)(ok:MvOk h g.V g.cap)(H:0<=g.V):Mvd (flip0 h) (RG p)<|flip0 g:=by
 have A:=m.rt r ok H;have z:g.M=xw:=m.da.2.1.trans y;have B:=KH r y;have x:=KH A z;have F:=m.len (k:=1) Z0;have G:=m.len (k:=2) Z0;simp only[Xn,Uq]at F G;have D:∀k,ZX (Zv<|Vm.flip0 g) k=ZX (Zv<|Vm.flip0 h) k:=λk=>by
  unfold ZX;show(if k=1 then((0:Nat):Int)else if k=2 then((0:Nat):Int)else if k=3 then(I g.H:Int)else(I g.aa:Int))=(if k=1 then((0:Nat):Int)else if k=2 then((0:Nat):Int)else if k=3 then(I h.H:Int)else(I h.aa:Int));rw[F,G]
 obtain⟨_,L,M⟩:=r.df y;have t:∀w,WC (Zv h) w->mu (Vm.flip0 h) (Vm.flip0 g) w=mu h g w:=λw l=>by
  obtain rfl|⟨k,a,C,f,rfl⟩:=l;rw[m.ky r.al];unfold mu;rw[SY B.al x.al];rw[VI h C]at f;have q:k=1\/k=2:=by
   have:k=1\/k=2\/k=3\/k=4:=Z0;obtain rfl|rfl|rfl|rfl:=this;exact .inl rfl;exact .inr rfl;simp only[qN,L]at f;simp at f;omega;simp only[SU,M]at f;simp at f;omega
  rw[m.ld r.al C f,<-KJ h k a q,<-KJ g k a q];unfold mu;rw[Tp B.al x.al Z0 ⟨f.1,?_⟩<|D _];obtain rfl|rfl:=q;exact f.2;exact f.2
 refine⟨x.al,D,⟨by show 1-g.to=1-h.to;rw[m.da.1],rfl,rfl⟩,λj K o u i n w l=> ?_,λj K i n=> ?_,?_⟩;have:j=1\/j=2\/j=3\/j=4:=Z0;obtain rfl|rfl|rfl|rfl:=this;cases u;cases u;have d:o∈p.at 1:=u;exact(m.ptr 1 Z0 o d i n w l).trans (by rw[t w<|Ul r.toBody Z0 d n l]);have d:o∈p.at 2:=u;exact(m.ptr 2 Z0 o d i n w l).trans (by rw[t w<|Ul r.toBody Z0 d n l]);have:j=1\/j=2\/j=3\/j=4:=Z0;obtain rfl|rfl|rfl|rfl:=this;rfl;rfl;exact m.fj 1 Z0 i n;exact m.fj 2 Z0 i n;show g.E=h.E.map _;rw[m.E];exact Z7w λw l=>(t w<|UP r.toTld Z0 Z0<|r.E w l).symm
def Mvd.cr(m:Mvd h p g)(r:Rt h p)(k:h.M=xw)(ok:MvOk h g.V g.cap)(C:0<=g.V):∀i,i<=xq h.E->∃q,FlipI h p i (flipL (Vm.flip0 h) i) q/\Mvd (flipL (Vm.flip0 h) i) q (flipL (Vm.flip0 g) i)/\(flipL (Vm.flip0 g) i).V=g.V/\(flipL (Vm.flip0 g) i).cap=g.cap
 |0,_=>by
  obtain⟨q,I⟩:=QS r k 0 Z0;have:=(KH r k).dn I.body;subst this;exact⟨_,I,m.bv r k ok C,rfl,rfl⟩
 |i+1,u=>by
  obtain⟨q,I,M,L,B⟩:=m.cr r k ok C i Z0;have G:(Vm.flipL (Vm.flip0 h) i).E[i]?=J h.E[i]:=by rw[I.df i<|Z6i _];exact Z6b u
  have f:(Vm.flipL (Vm.flip0 h) i).O<=(Vm.flipL (Vm.flip0 h) i).H.length:=by
   have:(Vm.flipL (Vm.flip0 h) i).O=0:=I.ext.O;omega
  have d:=yl r u I;obtain⟨v,y,O,F⟩:=I.body.dx f<|.inr d;have a:(Vm.flipL (Vm.flip0 h) i).cap=h.cap:=I.ext.cap;have o:∀w∈(Vm.flipL (Vm.flip0 h) i).E,WC (Zv<|Vm.flipL (Vm.flip0 h) i) w:=λw N=>by
   obtain⟨j,l⟩:=Z6A N;have D:=(Z6d.1 l).1;rw[I.len]at D;by_cases x:j<i;exact UP I.body.toTld Z0 Z0 (I.rx j x _ w (Z6b D) l).1;rw[I.df j Z0]at l;exact UP I.body.toTld Z0 Z0<|I.ext.na (i:=3) (j:=4) Z0 Z0<|KI<|r.E w<|Z6n l
  obtain⟨z,e,A,P,Q⟩:=M.fwd I.body f (by rw[a,B];exact ok.cap) o (.inr d) F;have t:(Vm.flipL (Vm.flip0 g) i).E[i]?=J (mu (Vm.flipL (Vm.flip0 h) i) (Vm.flipL (Vm.flip0 g) i) h.E[i]):=by
   rw[M.E,Z6G,G];rfl
  have H:Vm.flipL (Vm.flip0 h) (i+1)= {y with E:=y.E.set i v}:=by
   show Uh _ i=_;unfold Uh;rw[G,Z6K,F.fwd]
  have n:Vm.flipL (Vm.flip0 g) (i+1)= {z with E:=z.E.set i (mu y z v)}:=by
   show Uh _ i=_;unfold Uh;rw[t,Z6K,e]
  have K:=BE r u I F;refine⟨O,K,?_,?_,?_⟩;rw[H,n,A.E,<-Z8j];exact A.pq _;rw[n];exact P.trans L;rw[n];exact Q.trans B
def Mvd.ry(m:Mvd h p g)(r:Rt h p)(l:h.M=xw)(ok:MvOk h g.V g.cap)(n:0<=g.V):∃q,Rt (Xb h) q/\Mvd (Xb h) q (Xb g)/\(Xb g).V=g.V/\(Xb g).cap=g.cap:=by
 obtain⟨q,I,M,f,j⟩:=m.cr r l ok n (xq h.E)<|Z6i _;obtain⟨R,t⟩:=BB r l I;have d:xq g.E=xq h.E:=by rw[m.E,Z6D]
 have u:=M.len (k:=1) Z0;simp only[Xn]at u;unfold Xb;rw[d];generalize Vm.flipL (Vm.flip0 h) (xq h.E)=x at*;generalize Vm.flipL (Vm.flip0 g) (xq h.E)=y at*;refine⟨_,R,?_⟩;by_cases a:0<xq x.H;rw[Z6k a]at R⊢;unfold V1;rw[Z6k a,Z6k Z0];exact⟨M.fq xk,f,j⟩;obtain⟨C,z,A,B⟩:=t a;rw[Z6h a]at R⊢;unfold V1 at R⊢;rw[Z6h a]at R⊢;rw[Z6h Z0];exact⟨(M.fq xw).nq I.body.al R.toBody z.symm A.symm λw o=>.inl<|B w o,f,j⟩
end
end
end Vm
end
section
namespace Vm
open Go Go.Proofs Go.RowKit
def M6(w:Z4)(n c:Nat):Sem.run Tryz.prog (binOp .eql 29 (.slice U n c)<|.slice U 0 0) w=.ok (.bool xk) w:=by rfl
def M7(w:Z4)(a:Addr)(n c:Nat):Sem.run Tryz.prog (binOp .eql 29 (.slice (J a) n c)<|.slice U 0 0) w=.ok (.bool xw) w:=by rfl
def Gj(w:Z4){G:Z6}(D:∀b,G b->b<xz (xj w)){l:Z5}{y:Za}(M:I l<=1000000)(g:Rd w G (.sl<|l.map vu) y):
  Calls Tryz.prog 53 #[y] w λe o=>∃v,e=.returned v/\Below (xz<|xj w) w o/\o.ownsRow (xz<|xj w) 24 1 v (I l) (Y6 .u64 l):=by
 obtain⟨a,c,rfl⟩:=Rd.cp g;cases a with
 |none=>
  have C:l=[]:=by
   generalize F:l.map vu=L at g;cases g with
   |nil=>simpa using F
  subst C;have q:=M6 w 0 c;go_enter Tryz.func53,Tryz.ntmps53;simp only[Z7B,Z7v];go_wp2;exact Z6x (v:=.slice U 0 0) (by simp[results,Tryz.results53,go_sem]) rfl ⟨_,rfl,Z6r _ _,Z7e _ _ _ _⟩
 |some u=>
  have q:=M7 w u (I l) c;go_enter Tryz.func53,Tryz.ntmps53;have h:Rd (w.alloc<|.cells #[] 24) G (.sl<|l.map vu)<|.slice (J u) (I<|l.map vu) c:=g.keep (λb H=>Z6m _ _ _<|D b H) λ_ q=>q;have f:Below (xz<|xj w) w<|w.alloc<|.cells #[] 24:=(Z6r _ _).alloc (Z6i _) _;have d:(w.alloc<|.cells #[] 24).ownsRow (xz<|xj w) 24 1 (.slice (J ⟨xz<|xj w,0,U⟩) 0 0) 0 []:=⟨rfl,.inr ⟨_,0,_,rfl,Z6i _,Z6u _ _,Z6i _,Z5G,rfl,rfl⟩⟩;rw[<-Vf]at d;have p:=Z6e<|And.intro f d;clear f d g;go_wp2_with (at_builtin;refine Af (B:=xz<|xj w) (n:=0) (xs:=[]) rfl _ _ _ rfl Tryz.underlying29 Sv rfl rfl p.out.2 Z1 (l:=l.map vu) (Gy:=G) h (by rw[Vf];exact Qi _) Z5N ?_)
  intro A o j d x _ z;try simp only[Vf]at d
  have k:I j=I l:=by have:=d.1;simpa using this
  rw[Jh z k]at d;try simp only[Z6D,Z6V,Z70]at d
  have t:=Z6e<|And.intro d x;clear d x z h;go_wp2;exact Z6x (v:=A) (by simp[results,Tryz.results53,go_sem]) rfl ⟨A,rfl,Below.grown p.out.1 t.out.2 Z1 λr K=>by cases K;exact Z6i _,t.out.1⟩
section
def AB{α:Type}(F:Fence)(n:Nat)(P:Ze)(g:Nat)(lb:Z9)(d:α->Array Value)(Kp:World->World->Prop)(o:List α->α->World->Prop)(S:List α->World->Prop)(N:Nat)(k:List α->World->Prop)(w:Z4):Prop:=
 ∀(l:Nat) (p h:List α->World->Prop) (W:Z4),Below (xz<|xj w) w W->(∀pre W,p pre W->k pre W)->AbidesFrom (xz<|xj W) p->AbidesFrom (xz<|xj W) h->
  (∀pre x f,p pre f->o pre x f->I pre<N->YieldAt F (n-1) P l (d x) f λe a=>
   (e=.returned (.bool xk)/\p (pre++[x]) a/\Kp f a)\/(e=.returned (.bool xw)/\h (pre++[x]) a))->
  p [] W->
  CallsIn F n P g (#[.func (.yield l) #[] #[]]++lb) W λe a=>(∃v,e=.returned v)/\((∃j,S j a/\p j a)\/(∃pre,h pre a))
variable {F:Fence}{n:Nat}{P:Ze}
def Z1v{α:Type}{g:Operand}{ps:Array Tmp}{assign body:Code}{Q:Zb}{a:Act}{w:Z4}
  (d2:F.round=U) (h1:1<=n) {gf:Nat} {lb:Z9} (hg:a.eval g=.func (.func gf) #[] lb) (b3:F.fn gf) (eg:∀args w,(callFunc gf args).run P w=.ok (.enter gf args) w)
  {M:α->Array Value} {Kp:World->World->Prop} {Px:List α->α->World->Prop} {S:List α->World->Prop} {N:Nat} {Ex:List α->World->Prop} {w0:Z4} (b1:AB F (n-1) P gf lb M Kp Px S N Ex w0)
  (a5:∀ {A B C:Z4},Kp A B->Kp B C->Kp A C) (a4:∀(W:Z4) (l:Nat) (o o':Obj),xz (xj w)<=l->W.heap[l]?=J o->o.isCells=xw->o.isWalk=xw->Kp W (W.putObj l o')) (a6:Below (xz<|xj w0) w0 w) (d0:∀x,(M x).size=ps.size)
  (I:List α->World->Prop) (Ix:Code->List α->World->Prop) (hI:OwnFrom (xz<|xj w) I) (b2:∀pre W,I pre W->Ex pre W) (X:∀c,OwnFrom (xz<|xj w)<|Ix c) (b7:∀pre x,OwnFrom (xz<|xj w)<|λ(_:Unit) W=>Px pre x W) (hS:OwnFrom (xz<|xj w) S) (h0:I [] w) (a₁:α->Act)
  (Y:∀(l:Nat) (x:α) (W:Z4) (K:Act->World->Prop),K (a₁ x) W->
   assign.wpIn (F.inRound l) (n-1-1) P (Exit.then K<|λ_ _ _=>False) {tmps:=(ps.zip<|M x).foldl (λt (p,v)=>t.setIfInBounds p v) a.tmps,defers:=[]} W)
  (a0:∀(l:Nat) (pre:List α) (x:α) (W:Z4),I pre W->Px pre x W->xq pre<N->body.wpIn (F.inRound l) (n-1-1) P (ownPostG (xz<|xj w) Kp I Ix (pre++[x]) W) (a₁ x) W)
  (a1:∀(D:Nat) (xs:List α) (W:Z4),xz (xj w)<=D->S xs W->I xs W->W.heap[D]?=J (.deferred<|J [])->Q .normal {a with defers:= {target:=.collected D,args:=#[]}::a.defers} W)
  (a2:∀(D:Nat) (c:Code) (pre:List α) (W:Z4),xz (xj w)<=D->Ix c pre W->W.heap[D]?=J (.deferred<|J [])->c.wpIn F n P Q {a with defers:= {target:=.collected D,args:=#[]}::a.defers} W):
  (Code.rangeFunc g ps assign body).wpIn F n P Q a w:=by
 refine wpIn_rangeFunc λfn c0=> ?_;rw[d2];obtain⟨f,j⟩:∃f:LoopState->Option Code->Loop,f=λst pe=> {state:=st,pending:=pe,fn,tmps:=a.tmps,params:=ps,assign,body,defers:=xz (xj w)}:=⟨_,rfl⟩;obtain⟨T,O⟩:∃T,(w.alloc<|.deferred<|J []).alloc (.loop<|f .ready U)=T:=⟨_,rfl⟩;have b6:T.heap[xz (xj w)+1]?=J (.loop<|f .ready U):=by
  have:=Z7h (w.alloc<|.deferred<|J [])<|.loop<|f .ready U;rw[Z7V]at this;rw[<-O];exact this
 have b5:T.heap[xz<|xj w]?=J (.deferred<|J []):=by
  rw[<-O];exact(Z6m _ _ _ Z1).trans (Z7h w _)
 have b4:I [] T:=by rw[<-O];exact hI.alloc _<|hI.alloc _ h0
 have b9:Below (xz<|xj w0) w0 T:=by
  rw[<-O];exact a6.trans<|(((Z6r _ w).alloc (Z6i _) _).alloc Z1 _).mono a6.size
 refine⟨xz (xj w)+1,[{target:=.collected<|xz<|xj w,args:=#[]}],T,{target:=.fn (.func gf) lb,args:=#[.func (.yield<|xz (xj w)+1) #[] #[]]},T,gf,
  #[.func (.yield<|xz (xj w)+1) #[] #[]]++lb,T,?_,?_,?_,?_,λ_=>h1,?_⟩
 rw[<-O,j];exact run_enterLoop_outer _ _ _ _ _
 .simp only[resolve,hg];simp[go_sem]
 intro f' a7;simp[Target.leads]at a7;subst a7;exact b3
 .simp[invoke,go_sem,eg]
 have b0:∀ {A B:Z4} {row:Option Nat},(∀r,row=J r->xz (xj T)<=r/\∃o:Obj,A.heap[r]?=J o/\o.isWalk=xk)->(∀r,row=J r->xz (xj w)<=r/\∃o:Obj,A.heap[r]?=J o/\o.isCells=xw):=
  λu r e=>by obtain⟨hB,o,ho,hw⟩:=u r e;exact⟨by rw[<-O]at hB;simp at hB;omega,o,ho,Obj.not_cells_of_walk hw⟩
 refine(b1 (xz (xj w)+1)
  (λpre W=>I pre W/\W.heap[xz (xj w)+1]?=J (.loop<|f .ready U)/\W.heap[xz<|xj w]?=J (.deferred<|J []))
  (λpre W=>∃c,Ix c pre W/\W.heap[xz (xj w)+1]?=J (.loop<|f .done<|J c)/\W.heap[xz<|xj w]?=J (.deferred<|J []))
  T b9 (λpre W h=>b2 pre W h.1)
  (λs A B row hs z u=>⟨hI s A B row hs.1 z<|b0 (B:=B) u,(Z9p z (λr e=>(u r e).2) hs.2.1 rfl).trans hs.2.1,(Z9p z (λr e=>(u r e).2) hs.2.2 rfl).trans hs.2.2⟩)
  (λs A B row hs z u=>by
   obtain⟨c,hc,y,hk⟩:=hs;exact⟨c,X c s A B row hc z<|b0 (B:=B) u,(Z9p z (λr e=>(u r e).2) y rfl).trans y,(Z9p z (λr e=>(u r e).2) hk rfl).trans hk⟩)
  ?_ ⟨b4,b6,b5⟩).mono ?_
 rintro pre x W ⟨hi,y,hk⟩ d1 a9;have c7:xz (xj w)+1<xz (xj W):=(Z6N.1 y).1;have hy:=run_yield (P:=P) (args:=M x) y (by rw[j];exact d0 x);rw[j]at hy;refine⟨fn,_,assign,body,hy,roundIn_of_wpIn c0<|Y _ x W _ ⟨_,run_beginRound y (by rw[j]),?_⟩⟩;have c2:(W.putObj (xz (xj w)+1)<|.loop {f .ready U with state:=.busy}).heap[xz (xj w)+1]?=J (.loop {f .ready U with state:=.busy}):=Z8p c7;have c1:(W.putObj (xz (xj w)+1)<|.loop {f .ready U with state:=.busy}).heap[xz<|xj w]?=J (.deferred<|J []):=(Z6P Z0).trans hk;have d3:Kp W<|W.putObj (xz (xj w)+1)<|.loop {f .ready U with state:=.busy}:=a4 _ _ _ _ Z0 y rfl rfl;refine wpIn_mono (a0 _ pre x _ (hI.putObj _ hi Z0 y rfl) ((b7 pre x).putObj (s:=()) _ d1 Z0 y rfl) a9) ?_
 have Z:∀(d:Option Code) (R:Z4),KeepsFrom (xz<|xj w) (W.putObj (xz (xj w)+1)<|.loop {f .ready U with state:=.busy}) R->
   (Instr.endRound (xz (xj w)+1) d).run P R=.ok (.bool d.isNone) (R.putObj (xz (xj w)+1)<|.loop<|f (if d.isNone then .ready else .done) d)/\
   R.heap[xz (xj w)+1]?=J (.loop {f .ready U with state:=.busy})/\
   (R.putObj (xz (xj w)+1)<|.loop<|f (if d.isNone then .ready else .done) d).heap[xz (xj w)+1]?=J (.loop<|f (if d.isNone then .ready else .done) d)/\
   (R.putObj (xz (xj w)+1)<|.loop<|f (if d.isNone then .ready else .done) d).heap[xz<|xj w]?=J (.deferred<|J []):=λd R q=>by
  have k:=q.same _ _ Z0 c2 rfl;have:=run_endRound (P:=P) d k;rw[j]at this⊢;exact⟨this,by rw[j]at k;exact k,Z8p (Z6N.1 k).1,(Z6P Z0).trans<|q.same _ _ (Z6i _) c1 rfl⟩
 rintro e a3 R hp;cases e with
 |normal=>
  obtain⟨q,a8,G⟩:=hp;obtain⟨u,k,L,H⟩:=Z U R q;exact⟨_,_,u,.inl ⟨rfl,⟨hI.putObj _ G Z0 k rfl,L,H⟩,a5 (a5 d3 a8)<|a4 _ _ _ _ Z0 k rfl rfl⟩⟩
 |ret=>
  obtain⟨q,G⟩:=hp;obtain⟨u,k,L,H⟩:=Z (J .ret) R q;exact⟨_,_,u,.inr ⟨rfl,.ret,(X _).putObj _ G Z0 k rfl,L,H⟩⟩
 |exit id=>
  obtain⟨q,G⟩:=hp;obtain⟨u,k,L,H⟩:=Z (J<|.exit id) R q;exact⟨_,_,u,.inr ⟨rfl,.exit id,(X _).putObj _ G Z0 k rfl,L,H⟩⟩
 |goto t=>
  obtain⟨q,G⟩:=hp;obtain⟨u,k,L,H⟩:=Z (J<|.goto t) R q;exact⟨_,_,u,.inr ⟨rfl,.goto t,(X _).putObj _ G Z0 k rfl,L,H⟩⟩
 |panic ch=>exact hp.elim
 |outgrown=>exact hp.elim
 rintro e W2 ⟨⟨v,rfl⟩,(⟨xs,b8,hi,y,hk⟩|⟨pre,c,hi,y,hk⟩)⟩;exact⟨U,_,by have:=run_endLoop (P:=P) y (by rw[j];simp);rw[j]at this;exact this,a1 _ xs _ (Z6i _) (hS.putObj _ b8 Z0 y rfl) (hI.putObj _ hi Z0 y rfl)<|(Z6P Z0).trans hk⟩;exact⟨J c,_,by have:=run_endLoop (P:=P) y (by rw[j];simp);rw[j]at this;exact this,a2 _ c pre _ (Z6i _) ((X c).putObj _ hi Z0 y rfl)<|(Z6P Z0).trans hk⟩
end
def PP{W:Z4}{G G':Z6}{l j:Z5}{y:Za}(h:Rd W G (.sl<|l.map vu) y)(h':Rd W G' (.sl<|j.map vu) y):l=j:=by
 obtain⟨a,c,e⟩:=Rd.cp h;obtain⟨x,A,n⟩:=Rd.cp h';have C:I l=I j:=by rw[e]at n;simp at n;exact n.2.1
 apply Z81;intro k;cases p:l[k]? with
 |none=>rw[Z8c]at p;rw[Z6X Z0]
 |some u=>
  have B:=(Z6d.1 p).1;obtain⟨r,g⟩:∃r,j[k]?=J r:=⟨_,Z6b Z0⟩;obtain⟨b,o,cap,w,t,_⟩:=Tq h p;obtain⟨z,D,q,d,f,_⟩:=Tq h' g;rw[w]at d;simp at d;obtain⟨⟨rfl,rfl⟩,_,_⟩:=d;rw[t]at f;cases f;exact g.symm
def NowI.eu{B:Nat}{W W':Z4}{b:Nat}{g:Hp}{x:Z3}{row:Option Nat}(S:NowI B W b g x)(j:W.grownBy W' row)(l:∀r,row=J r->∃o:Obj,W.heap[r]?=J o/\o.isCells=xw):NowI B W' b g x:=by
 have q:∀(c:Nat) a T f,W.heap[c]?=J (Obj.cells a T f)->W'.heap[c]?=W.heap[c]? :=λc a T f h=>j.block c (ZL h) λe=>by
  obtain⟨o,d,k⟩:=l c e.symm;rw[h]at d;cases d;cases k
 exact⟨S.le,(q _ _ _ _ S.nb).trans S.nb,S.own.to (Z6i _) (λ_ _=>.inl ⟨rfl,rfl⟩) λ_ _ c _ _ a T f h=>q c a T f h,S.ae⟩
def NowI.dn{B B':Nat}{W:Z4}{b:Nat}{g a:Hp}{x k:Z3}(S:NowI B W b g x)(d:NowI B' W b a k):a=g:=by
 have e:=S.nb.symm.trans d.nb;unfold Yc at e;simp at e;obtain⟨o,p,r,t,u,w,y,z,A,C⟩:=e;have q:∀j,j<5->Zu a j=Zu g j:=λj h=>by
  have f:=S.rd j h;have n:=d.rd j h;have l:x j=k j:=by
   have:j=0\/j=1\/j=2\/j=3\/j=4:=Z0;obtain rfl|rfl|rfl|rfl|rfl:=this<;>assumption
  rw[l]at f;exact PP n f
 have D:=q 0 Z0;have F:=q 1 Z0;have G:=q 2 Z0;have H:=q 3 Z0;have K:=q 4 Z0;cases g;cases a;simp[Zu]at*;simp_all
def InBox(B:Nat)(b:Nat)(p:Pts)(W:Z4):Prop:=∃g x,NowI B W b g x/\g.ok/\Rt g p
def InBox.eu{B:Nat}{W W':Z4}{b:Nat}{p:Pts}{row:Option Nat}(S:InBox B b p W)(h:W.grownBy W' row)(j:∀r,row=J r->∃o:Obj,W.heap[r]?=J o/\o.isCells=xw):InBox B b p W':=by
 obtain⟨g,x,a,d,f⟩:=S;exact⟨g,x,a.eu h j,d,f⟩
def InBox.H{B B':Nat}{W:Z4}{b:Nat}{p f:Pts}(S:InBox B b p W)(h:InBox B' b f W):f.H=p.H:=by
 obtain⟨g,x,j,o,l⟩:=S;obtain⟨n,q,a,k,d⟩:=h;have:=j.dn a;subst this;exact Tiles.mc (l.af 1 Z0)<|d.af 1 Z0
structure KpN (B:Nat) (b kb:Nat) (A C:World):Prop where
 size:xz (xj A)<=xz (xj C)
 same:∀(c:Nat) (o:Obj),A.heap[c]?=J o->o.isCells=xk->c≠b->c≠kb->C.heap[c]?=J o
 H:∀p,InBox B b p A->∃q r,InBox B b q C/\q.H=p.H++r
theorem KpN.trans{B:Nat}{b kb:Nat}{X Y Z:Z4}(h:KpN B b kb X Y)(k:KpN B b kb Y Z):KpN B b kb X Z:=
 ⟨Z6H h.size k.size,λc o d a f g=>k.same c o (h.same c o d a f g) a f g,λp j=>by
  obtain⟨q,r,d,a⟩:=h.H p j;obtain⟨s,t,l,n⟩:=k.H q d;exact⟨s,r++t,l,by rw[n,a,Z6Y]⟩⟩
theorem KpN.put{B:Nat}{b kb:Nat}{W:Z4}{l:Nat}{o:Obj}(j:Obj)(g:W.heap[l]?=J o)(h:o.isCells=xw):KpN B b kb W<|W.putObj l j:=by
 have f:=Z8G W l j;have n:∀r,J l=J r->∃o:Obj,W.heap[r]?=J o/\o.isCells=xw:=λr e=>by cases e;exact⟨o,g,h⟩
 refine⟨f.size,λc q a d _ _=>(Z6P<|λe=> ?_).trans a,λp k=>⟨p,[],k.eu f n,Z1⟩⟩;subst e;rw[g]at a;cases a;rw[h]at d;cases d
def N2{ws:Z5}{l:Z8}(t:Tiles ws xw 0 l){o:Ob}(a:o∈l){i:Int}(j:o.Y<=i)(h2:i<=o.Y+o.size):XN l i=(decide (o.Y<i)&&decide (i<=o.Y+o.Z)):=by
 rw[Z9v,TX];simp only[Z6l,Z6J];constructor;rintro⟨x,d,f,g⟩;have k:=Yq.1 (t.aq x d).1.shape;obtain e|e|e:=t.apart x d o a;subst e;exact⟨f,g⟩;omega;omega;exactλh=>⟨o,a,h⟩
def yN(x:Nat×Bool):Array Value:=#[.int .i64 (x.1:Nat),.bool x.2]
def Au(B:Nat)(b:Nat)(pre:List<|Nat×Bool)(x:Nat×Bool)(W:Z4):Prop:=∃p,InBox B b p W/\x=(I pre,XN p.H<|I pre)
def SN(B:Nat)(b:Nat)(xs:List<|Nat×Bool)(W:Z4):Prop:=∃g x,NowI B W b g x/\I g.H<=I xs
structure KnI (B:Nat) (b bk:Nat) (q:Pts) (W:World):Prop where
 bx:W.heap[bk]?=J (.cells #[.pointer<|J ⟨b,0,U⟩] 116 (0,0))
 nc:InBox B b q W
def KnI.grown{B:Nat}{b bk:Nat}{q:Pts}{W W':Z4}(h:KnI B b bk q W)(a:W.grownBy W' U):KnI B b bk q W':=
 ⟨(a.block _ (ZL h.bx) Z1).trans h.bx,h.nc.eu a<|λr e=>by cases e⟩
end Vm
end
section
namespace Vm
open Go Go.Proofs Go.RowKit Go.Shelf
def Nb(n:Nat){w:Z4}{B:Nat}{b bk kb:Nat}{p0:Pts}(hI:KnI B b bk p0 w)(a7:bk≠b)(K:bk≠kb)(hb:b<xz (xj w))(f2:kb<xz (xj w)):
  AB Fence.wide n Tryz.prog 58 #[.pointer<|J ⟨bk,0,U⟩] yN (KpN B b kb) (Au B b) (SN B b) 1000001 (λ_ _=>True) w:=by
 intro l h Jx W hW _ hJ f0 hY h0;refine callsIn_of_wp Tryz.func58 rfl trivial ?_ rfl;simp only[Tryz.ntmps58,Z7y,Z7N,Z7v,Nat.reduceAdd,Nat.reduceSub,Z7W,Z7X,Z8h,Z82,Z70,Z7x];have d6:=Z6e<|hI.grown<|WF hW U;have e9:=hW.size;have d7:=Z6e h0;have e4:∀ {A:Z4},xz (xj w)<=xz (xj A)->xz (xj A)≠b/\xz (xj A)≠kb:=λh=>⟨Z0,Z0⟩;clear h0;gi_wp2
 gi_loopw [3] (λp wr=>∃(a:Nat),p=.int .i64 a/\Hid (∃(pre:List<|Nat×Bool) (q:Pts) (n:Nat),h pre wr/\KnI B b bk q wr/\xz (xj W)<=xz (xj wr)/\n<=I q.H/\a=VJ (q.H.take n)/\I pre=a))
  (λp _=>1000001- (intOf p).toNat)
 case atStart=>exact⟨0,rfl,Z6e ⟨[],p0,0,d7.out,d6.out,Z6i _,Z0,rfl,rfl⟩⟩
 case round=>
  obtain⟨a,rfl,HI⟩:=hrel;obtain⟨pre,q,n1,X,Y,b8,e5,a6,b7⟩:=HI.out;obtain⟨g,x,S,b2,r⟩:=Y.nc;obtain⟨sa,sc,a4⟩:=Rd.cp<|S.rd 0 Z0;rw[Z6D,show I (Zu g 0)=(I g.H) from rfl]at a4;have N:=S.nb;unfold Yc at N;rw[a4]at N;have y0:wr.cell? ⟨bk,0,U⟩=J (.pointer<|J ⟨b,0,U⟩):=by rw[Z6j _ _ _ _ _ _ Y.bx];rfl
  have yb:∀j,wr.cell? ⟨b,j,U⟩=(#[.int .u64 g.V,.int .i64 g.cap,.int .i64 g.to,.bool g.M,.int .i64 g.O,.slice sa (I g.H) sc,x 1,x 2,x 3,x 4]:Array Value)[j]? :=λj=>Z6j _ _ _ _ _ _ N;have t1:=r.af 1 Z0;simp only[Xn,Pts.lw]at t1;have b5:=b2.H;have d2:=t1.sum<|Z7T _;by_cases f3:a<I g.H
  .have b6:((a:Int)< (I g.H:Int))=True:=Z7G Z0;obtain⟨o,ho⟩:∃o,q.H[n1]?=J o:=by
    refine⟨_,Z6b<|Nat.lt_of_le_of_ne e5 λe=> ?_⟩;rw[e,Z7P]at a6;omega
   have a0:=t1.dp ho;rw[Z6V,<-a6]at a0;have a1:=Z6n ho;have a3:=(t1.aq o a1).1;have c0:=Yq.1 a3.shape;have M:=t1.bi o a1;have L:=a3.ah;obtain⟨u,hu,P⟩:=a3.cm;rw[M,Z6h Z1]at P;replace P:=P.2.1;rw[a0,Z6p]at hu;have d3:=b2.dm u<|Z6n hu;obtain⟨gb,go,cap,a5,d9,e0⟩:=Tq (S.rd 0 Z0) hu;rw[a4]at a5;rw[show I (Zu g 0)=(I g.H) from rfl]at a5;simp only[Value.slice.injEq,true_and]at a5;obtain⟨rfl,rfl⟩:=a5;have O:=Rk d3;rw[P]at O;obtain⟨m,hm⟩:∃m:Nat,o.size=m:=⟨o.size.toNat,Z0⟩;obtain⟨pt,a8⟩:∃pt:Nat,o.Z=pt:=⟨o.Z.toNat,Z0⟩;rw[hm]at O L c0;rw[a8]at O c0;have d8:=Z6e O;have HO:=Z6e<|And.intro a1<|And.intro a0<|And.intro hm<|And.intro a8<|And.intro t1<|And.intro ho<|And.intro b7 b8;have b0:=Z6e L;have b1:=Z6e<|And.intro X Y;have d5:=Z6e b5;have q1:IntKind.i64.wrap ((m:Int)+1)=((m+1:Nat):Int):=Z5r;clear O N t1 a1 a0 P hu d3 a4 e0 hm a8 L ho a3 M a6 d2 S r X Y b7 b8 b5;gi_wp2
   refine⟨trivial,λh=>Z5u,(Z85.2<|d8.out _).mono ?_⟩;rintro e w1 ⟨rfl,b3⟩;have a9:=Z6e b3;clear b3;gi_wp2
   have f5:=a9.out.size;have Z:wr.grownBy (w1.alloc<|.cells #[.int .i64 m,.int .i64 pt] 42) U:=WS (WF a9.out U)<|Z7o _ _ _;have HA:=Z6e<|And.intro (hJ _ _ _ _ b1.out.1 Z<|λr e=>by cases e)<|And.intro (b1.out.2.grown Z)<|And.intro (Z6u w1<|.cells #[.int .i64 m,.int .i64 pt] 42) Z.size;have hT:xz (xj W)<=xz (xj w1):=by have:=HO.out.2.2.2.2.2.2.2;omega
   have C:=e4 (A:=w1) Z0;have f1:xz (xj W)<=xz (xj<|w1.alloc<|.cells #[.int .i64 m,.int .i64 pt] 42):=Z5j;clear Z;generalize f4:w1.alloc (.cells #[.int .i64 m,.int .i64 pt] 42)=w2 at*;have d4:=b0.out;have e8:=d5.out;gi_loopw [30] (λiv wi=>∃i:Nat,iv=.int .i64 i/\Hid (∃(f:List<|Nat×Bool) (Q:Pts) (r':Z8),h f wi/\KnI B b bk Q wi/\xz (xj w2)<=xz (xj wi)/\Q.H=q.H++r'/\I f=a+i/\i<=m+1/\wi.heap[xz<|xj w1]?=J (.cells #[.int .i64 m,.int .i64 pt] 42 (0,0)))) (λiv _=>m+1- (intOf iv).toNat)
   case atStart=>exact⟨0,rfl,Z6e ⟨pre,q,[],HA.out.1,HA.out.2.1,Z6i _,Z1,by have:=HO.out.2.2.2.2.2.2.1;omega,Z0,HA.out.2.2.1⟩⟩
   case round=>
    obtain⟨i,rfl,HJ⟩:=hrel;obtain⟨f,Q,r',H,z,b9,F,a2,e1,D⟩:=HJ.out;have d0:wr.cell? ⟨xz<|xj w1,0,U⟩=J (.int .i64 m):=by rw[Z6j _ _ _ _ _ _ D];rfl
    have d1:wr.cell? ⟨xz<|xj w1,1,U⟩=J (.int .i64 pt):=by rw[Z6j _ _ _ _ _ _ D];rfl
    by_cases e3:i=m+1
    .subst e3;have e2:(((m+1:Nat):Int)< (m:Int)+1)=False:=Z7d Z0;have q2:IntKind.i64.wrap ((a:Int)+((m:Int)+1))=((a+(m+1):Nat):Int):=Z5r;clear z D H;gi_wp2
     obtain⟨k1,k2,k3,k4,k5,k6,k7⟩:=HO.out;obtain⟨f,Q,r',H,z,b9,F,a2,e1,D⟩:=HJ.out;have b4:n1+1<=I q.H:=by have:=(Z6d.1 k6).1;omega
     refine⟨⟨a+(m+1),Z1,Z6e ⟨f,Q,n1+1,H,z,Z0,by rw[F,Z6L];omega,?_,Z0⟩⟩,by simp[intOf];omega⟩;rw[F,List.take_append_of_le_length b4,Z0T k6,k3];have:=k5.dp k6;omega
    .have e2:((i:Int)< (m:Int)+1)=True:=Z7G Z0;obtain⟨k1,k2,k3,k4,k5,k6,k7,k8⟩:=HO.out;have hx:Au B b f (a+i,XN Q.H ((a+i:Nat):Int)) wr:=⟨Q,z.nc,by rw[a2]⟩;obtain⟨fn,e7,assign,e6,hy,hR⟩:=hY f _ wr H hx Z0;have hq:XN Q.H ((a+i:Nat):Int)=(decide (0<i)&&decide (i<=pt)):=by
      obtain⟨g',x',_,_,r2⟩:=z.nc;have t2:=r2.af 1 Z0;simp only[Xn,Pts.lw]at t2;rw[N2 t2 (o:=o) (by rw[F];exact Z7r _ k1) Z0 Z0,k2,k4];congr 1;exact decide_eq_decide.2 Z0;exact decide_eq_decide.2 Z0
     unfold yN at hy;simp only[hq]at hy;have HQ:=Z6e<|And.intro hq<|And.intro hR<|And.intro b9<|And.intro F<|And.intro a2<|And.intro D z;have q2:IntKind.i64.wrap ((a:Int)+(i:Int))=((a+i:Nat):Int):=Z5r;have q3:IntKind.i64.wrap ((i:Int)+1)=((i+1:Nat):Int):=Z5r;clear hx H z hq hR D k1 k2 k3 k4 k5 k6 k7 k8 F a2;have h3:(i=0/\(0<i)=False)\/(((0:Int)< (i:Int))=True/\(0<i)=True/\((i:Int)<=(pt:Int))=True/\(i<=pt)=True)\/(((0:Int)< (i:Int))=True/\(0<i)=True/\((i:Int)<=(pt:Int))=False/\(i<=pt)=False):=by
      by_cases h0:i=0;exact .inl ⟨h0,Z7d Z0⟩;by_cases h1:i<=pt;exact .inr<|.inl ⟨Z7G Z0,Z7G Z0,Z7G Z0,Z7G h1⟩;exact .inr<|.inr ⟨Z7G Z0,Z7G Z0,Z7d Z0,Z7d h1⟩
     obtain⟨h0,h1⟩|⟨h0,h1,h2,h3⟩|⟨h0,h1,h2,h3⟩:=h3
     .subst h0;simp only[h1,Z9J,Z9b,Z9K,Z8u,Z9E,Z9c,Z7Z,Z9x]at hy;gi_wp2
      refine⟨λh=>Z5u,HQ.out.2.1.mono ?_⟩;rintro e W3 (⟨rfl,t,y⟩|⟨rfl,k⟩)
      .have d:=Z6e<|And.intro t y;clear t y;gi_wp2
       obtain⟨c1,c2,c3,c4,c5,c6,c7⟩:=HQ.out;obtain⟨R,T,i1,i2⟩:=d.out.2.H Q c7.nc;refine⟨⟨1,Z1,Z6e ⟨f++[_],R,r'++T,d.out.1,⟨d.out.2.same _ _ c7.bx rfl a7 K,i1⟩,Z6H c3 d.out.2.size,by rw[i2,c4,Z6Y],by simp<;>omega,Z0,d.out.2.same _ _ c6 rfl C.1 C.2⟩⟩,by simp[intOf]<;>omega⟩
      .have G:=Z6e k;clear k;gi_wp2
       refine Z6x (Z98 rfl _ _ _) rfl ?_;exact⟨⟨_,rfl⟩,.inr ⟨_,G.out⟩⟩
     .simp only[h1,h3,Z9J,Z9b,Z9K,Z8u,Z9E,Z9c,Z7Z,Z9x]at hy;gi_wp2
      refine⟨λh=>Z5u,HQ.out.2.1.mono ?_⟩;rintro e W3 (⟨rfl,t,y⟩|⟨rfl,k⟩)
      .have d:=Z6e<|And.intro t y;clear t y;gi_wp2
       obtain⟨c1,c2,c3,c4,c5,c6,c7⟩:=HQ.out;obtain⟨R,T,i1,i2⟩:=d.out.2.H Q c7.nc;refine⟨⟨i+1,Z1,Z6e ⟨f++[_],R,r'++T,d.out.1,⟨d.out.2.same _ _ c7.bx rfl a7 K,i1⟩,Z6H c3 d.out.2.size,by rw[i2,c4,Z6Y],by simp<;>omega,Z0,d.out.2.same _ _ c6 rfl C.1 C.2⟩⟩,by simp[intOf];omega⟩
      .have G:=Z6e k;clear k;gi_wp2
       refine Z6x (Z98 rfl _ _ _) rfl ?_;exact⟨⟨_,rfl⟩,.inr ⟨_,G.out⟩⟩
     .simp only[h1,h3,Z9J,Z9b,Z9K,Z8u,Z9E,Z9c,Z7Z,Z9x]at hy;gi_wp2
      refine⟨λh=>Z5u,HQ.out.2.1.mono ?_⟩;rintro e W3 (⟨rfl,t,y⟩|⟨rfl,k⟩)
      .have d:=Z6e<|And.intro t y;clear t y;gi_wp2
       obtain⟨c1,c2,c3,c4,c5,c6,c7⟩:=HQ.out;obtain⟨R,T,i1,i2⟩:=d.out.2.H Q c7.nc;refine⟨⟨i+1,Z1,Z6e ⟨f++[_],R,r'++T,d.out.1,⟨d.out.2.same _ _ c7.bx rfl a7 K,i1⟩,Z6H c3 d.out.2.size,by rw[i2,c4,Z6Y],by simp<;>omega,Z0,d.out.2.same _ _ c6 rfl C.1 C.2⟩⟩,by simp[intOf];omega⟩
      .have G:=Z6e k;clear k;gi_wp2
       refine Z6x (Z98 rfl _ _ _) rfl ?_;exact⟨⟨_,rfl⟩,.inr ⟨_,G.out⟩⟩
  .have b6:((a:Int)< (I g.H:Int))=False:=Z7d Z0;have HE:Hid<|h pre wr/\SN B b pre wr:=Z6e ⟨X,g,x,S,Z0⟩;clear N X S;gi_wp2
   go_end0
   exact⟨⟨_,rfl⟩,.inl ⟨pre,HE.out.2,HE.out.1⟩⟩
end Vm
end
section
namespace Vm
open Go Go.Proofs Go.RowKit
structure OwR (w:World) (h:Hp) (src x:Nat->Value) (n:Nat) (W:World):Prop where
 az:Below (xz<|xj w) w W
 box:W.heap[xz<|xj w]?=J (.cells (Yc h x) 31 (0,0))
 bj:W.heap[xz (xj w)+1]?=J (.cells ZE 31 (0,0))
 own:∀j,j<n->W.ownsRow (xz (xj w)+2) 24 1 (x j) (I<|Zu h j) (Y6 .u64<|Zu h j)
 apart:∀i j,i<j->j<n->∀c,(x i).ownBlock=J c->(x j).ownBlock≠J c
def OwR.call{w:Z4}{h:Hp}{a x:Z3}{n:Nat}{W f:Z4}(o:OwR w h a x n W)(d:Below (xz<|xj W) W f):OwR w h a x n f:=
 ⟨o.az.trans<|d.mono o.az.size,(d.block _<|ZL o.box).trans o.box,(d.block _<|ZL o.bj).trans o.bj,λj g=>Yx (o.own j g) λc k=>d.block c ((o.own j g).lt c k).2,o.apart⟩
def OwR.drew{w:Z4}{h:Hp}{a x:Z3}{n:Nat}{W:Z4}(o:OwR w h a x n W):OwR w h a x n W.drew:=
 ⟨o.az.drew,o.box,o.bj,λj d=>Yx (o.own j d) λc f=>rfl,o.apart⟩
theorem OwR.put{w:Z4}{h:Hp}{g x:Z3}{n B:Nat}{W:Z4}(o:OwR w h g x n W)(z:n<5){v:Za}(l:W.ownsRow B 24 1 v (I<|Zu h n)<|Y6 .u64<|Zu h n)(y:xz (xj w)+2<=B)(r:∀j,j<n->∀c,(x j).ownBlock=J c->c<B):
  OwR w h g (λj=>if j=n then v else x j) (n+1) (W.setCell ⟨xz<|xj w,5+n,U⟩ v):=by
 have f:∀c,c≠xz (xj w)->(W.setCell ⟨xz<|xj w,5+n,U⟩ v).heap[c]?=W.heap[c]? :=λc a=>Z6w _ _ _ _ a;refine⟨o.az.setCell (Z6i _) _,?_,(f _ Z0).trans o.bj,λj u=> ?_,λi j k u c a d=> ?_⟩;have t:=o.box;have:n=0\/n=1\/n=2\/n=3\/n=4:=Z0;obtain rfl|rfl|rfl|rfl|rfl:=this<;>simp[World.setCell,Z6I,t,Yc];by_cases e:j=n;subst e;rw[Z6k rfl];exact S6 (Yx l λc a=>f c (by have:=(l.lt c a).1;omega)) λc q p=>⟨Z0,p⟩;rw[Z6h e];have:=o.own j Z0;exact Yx this λc a=>f c (by have:=(this.lt c a).1;omega);rw[Z6h Z0]at a;by_cases e:j=n;rw[Z6k e]at d;have q:=(l.lt c d).1;have p:=r i Z0 c a;omega;rw[Z6h e]at d;exact o.apart i j k Z0 c a d
def OwR.si{w:Z4}{h:Hp}{g x:Z3}{n:Nat}{W f k:Z4}(o:OwR w h g x n W)(u:n+1<5){v0 v1:Za}(p:Below (xz<|xj W) W f)(l:f.ownsRow (xz<|xj W) 24 1 v0 (I<|Zu h n)<|Y6 .u64<|Zu h n)
  (h2:Below (xz<|xj f) f k) (r:k.ownsRow (xz<|xj f) 24 1 v1 (I<|Zu h<|n+1)<|Y6 .u64<|Zu h<|n+1):
  OwR w h g (λj=>if j=n+1 then v1 else if j=n then v0 else x j) (n+2) ((k.setCell ⟨xz<|xj w,5+n,U⟩ v0).setCell ⟨xz<|xj w,5+(n+1),U⟩ v1):=by
 have y:=ZL o.bj;have t:=p.size;have a:=((o.call p).call h2).put Z0 (Yx l λc d=>h2.block c (l.lt c d).2) Z0 λj q c d=>((o.own j q).lt c d).2;refine a.put Z0 (Yx r λc d=>Z6w _ _ _ _ (by have:=(r.lt c d).1;show c≠xz (xj w);omega)) Z0 λj q c d=> ?_;by_cases e:j=n;rw[Z6k e]at d;exact(l.lt c d).2;rw[Z6h e]at d;have:=((o.own j Z0).lt c d).2;omega
def OwR.F{w:Z4}{h:Hp}{a x:Z3}{n:Nat}{W:Z4}(o:OwR w h a x n W):(∀j,W.cell? ⟨xz<|xj w,j,U⟩=(#[.int .u64 h.V,.int .i64 h.cap,.int .i64 h.to,.bool h.M,.int .i64 h.O,x 0,x 1,x 2,x 3,x 4]:Array Value)[j]?)/\∀j,W.frozen? ⟨xz<|xj w,j,U⟩=xw:=
 ⟨λj=>Z6j _ _ _ _ _ _ o.box,λj=>Y7 o.box⟩
def OwR.start(w:Z4)(h:Hp)(a:Z3):∃d,(w.alloc<|.cells (Yc h a) 31).alloc (.cells ZE 31)=d/\OwR w h a a 0 d:=
 ⟨_,rfl,((Z6r _ _).alloc (Z6i _) _).alloc Z1 _,(Z6m _ _ _ Z1).trans<|Z6u _ _,by have:=Z6u (w.alloc<|.cells (Yc h a) 31)<|.cells ZE 31;simpa using this,λj f=>Z0,λi j _ f=>Z0⟩
def OK(w:Z4)(G:Z6)(hG:∀b,G b->b<xz (xj w))(h:Hp)(hh:h.ok)(d:Z3)(hs:∀j,j<5->Rd w G (.sl<|(Zu h j).map vu) (d j)):
  Calls Tryz.prog 41 #[Zx h d] w λe w'=>∃x,e=.returned (Zx h x)/\Below (xz<|xj w) w w'/\HOwn (xz<|xj w) w' h x:=by
 have D:=Z6e (λW (hb:Below (xz<|xj w) w W) j (y:j<5)=>Gj W (G:=G) (λb q=>Z6o (hG b q) hb.size) (VY hh j)<|(hs j y).keep (λb R=>hb.block b<|hG b R) λ_ q=>q);clear hs;unfold Zx;go_enter Tryz.func41,Tryz.ntmps41;go_upto_region 1 with fail;obtain⟨W0,A,o⟩:=OwR.start w h d;unfold Yc ZE at A;rw[A];clear A;rename_i Q' K hK;have R2:∀(v0 v1:Za) (W:Z4),OwR w h d (λj=>if j=1 then v1 else if j=0 then v0 else d j) 2 W->K {tmps:=#[.agg #[.int .u64 h.V,.int .i64 h.cap,.int .i64 h.to,.bool h.M,.int .i64 h.O,d 0,d 1,d 2,d 3,d 4],.pointer<|J ⟨xz<|xj w,0,U⟩,.pointer<|J ⟨xz (xj w)+1,0,U⟩,.pointer<|J ⟨xz<|xj w,5,U⟩,d 0,v0,.pointer<|J ⟨xz<|xj w,6,U⟩,d 1,v1,.pointer<|J ⟨xz<|xj w,5,U⟩,.pointer<|J ⟨xz<|xj w,6,U⟩,xy,xy,xy,xy,xy,xy,xy,xy,xy,xy,xy,xy,xy],defers:=[]} W:=by
  intro v0 v1 W o;refine hK _ _ ?_;go_upto_region 2 with fail;rename_i K' H;have R3:∀(M N:Za) (W:Z4),OwR w h d (λj=>if j=3 then N else if j=2 then M else if j=1 then v1 else if j=0 then v0 else d j) 4 W->K' {tmps:=#[.agg #[.int .u64 h.V,.int .i64 h.cap,.int .i64 h.to,.bool h.M,.int .i64 h.O,d 0,d 1,d 2,d 3,d 4],.pointer<|J ⟨xz<|xj w,0,U⟩,.pointer<|J ⟨xz (xj w)+1,0,U⟩,.pointer<|J ⟨xz<|xj w,5,U⟩,d 0,v0,.pointer<|J ⟨xz<|xj w,6,U⟩,d 1,v1,.pointer<|J ⟨xz<|xj w,5,U⟩,.pointer<|J ⟨xz<|xj w,6,U⟩,.pointer<|J ⟨xz<|xj w,7,U⟩,d 2,M,.pointer<|J ⟨xz<|xj w,8,U⟩,d 3,N,.pointer<|J ⟨xz<|xj w,7,U⟩,.pointer<|J ⟨xz<|xj w,8,U⟩,xy,xy,xy,xy,xy],defers:=[]} W:=by
   intro M N W o;refine H _ _ ?_;obtain⟨b0,p0,rfl⟩:∃a q,v0=.slice a (I<|Zu h 0) q:=ZV<|o.own 0 Z0;obtain⟨b1,p1,rfl⟩:∃a q,v1=.slice a (I<|Zu h 1) q:=ZV<|o.own 1 Z0;obtain⟨b2,p2,rfl⟩:∃a q,M=.slice a (I<|Zu h 2) q:=ZV<|o.own 2 Z0;obtain⟨b3,p3,rfl⟩:∃a q,N=.slice a (I<|Zu h 3) q:=ZV<|o.own 3 Z0;obtain⟨C,B⟩:=o.F;have l:=Z6e o;clear o;go_upto_region 4 with (go_at_call 53;refine(D.out _ l.out.az 4 Z0).mono ?_;rintro e Y ⟨v4,rfl,g,f⟩;obtain⟨P,p4,rfl⟩:=ZV f;have X:=l.out.call g;obtain⟨u,t⟩:=X.F;have O2:=Z6e (X.put Z0 f (by have:=ZL l.out.bj;omega) λj y c S=>((l.out.own j y).lt c S).2);clear g f C B X);obtain⟨W7,L⟩:∃W7,Y.setCell ⟨xz<|xj w,9,U⟩ (.slice P (I<|Zu h 4) p4)=W7:=⟨_,rfl⟩;have o:=O2.out;rw[L]at o⊢;clear L O2 u t;obtain⟨C,B⟩:=o.F;have yz:=λj=>Z6j _ _ j _ _ _ o.bj;unfold ZE at yz;have fz:=λj=>Y7 (o:=j) o.bj;have z:=Xo o.bj (.int .u64 h.V) (.int .i64 h.cap) (.int .i64 h.to) (.bool h.M) (.int .i64 h.O) (.slice b0 (I<|Zu h 0) p0) (.slice b1 (I<|Zu h 1) p1) (.slice b2 (I<|Zu h 2) p2) (.slice b3 (I<|Zu h 3) p3)<|.slice P (I<|Zu h 4) p4;have O:=Z6e o;clear o;go_wp2;refine Z6x (v:=.agg #[.int .u64 h.V,.int .i64 h.cap,.int .i64 h.to,.bool h.M,.int .i64 h.O,.slice b0 (I<|Zu h 0) p0,.slice b1 (I<|Zu h 1) p1,.slice b2 (I<|Zu h 2) p2,.slice b3 (I<|Zu h 3) p3,.slice P (I<|Zu h 4) p4]) (by simp[results,Tryz.results41,go_sem,z]) rfl ⟨_,rfl,XJ O.out.az Z0,λj y=>S6 (Yx (O.out.own j y) λc S=>XK (by have:=((O.out.own j y).lt c S).1;omega)) λc h1 h2=>⟨Z0,h2⟩,λi j T y=>O.out.apart i j T y⟩
  have o:=o.drew;obtain⟨C,B⟩:=o.F;have l:=Z6e o;clear o H
  go_region_with (first|(go_at_call 53;go_loud (first
   |(refine(D.out _ (l.out.az) 2<|by omega).mono ?_;rintro e Y ⟨M,rfl,g,f⟩;obtain⟨a0,q0,rfl⟩:=ZV f;obtain⟨u,t⟩:=(l.out.call g).F;have k:=Z6e<|And.intro g f;clear g f C B)
   |(refine(D.out _ (l.out.call k.out.1).az 3<|by omega).mono ?_;rintro e w2 ⟨N,rfl,n,p⟩;obtain⟨a1,q1,rfl⟩:=ZV p;obtain⟨Z,Q⟩:=((l.out.call k.out.1).call n).F;have r:=Z6e<|And.intro n p;clear n p u t))))
  all_goals exact R3 _ _ _<|l.out.si Z0 k.out.1 k.out.2 r.out.1 r.out.2
 have o:=o.drew;obtain⟨C,B⟩:=o.F;have l:=Z6e o;clear o hK
 go_region_with (first|(go_at_call 53;go_loud (first
  |(refine(D.out _ (l.out.az) 0<|by omega).mono ?_;rintro e Y ⟨v0,rfl,g,f⟩;obtain⟨a0,q0,rfl⟩:=ZV f;obtain⟨u,t⟩:=(l.out.call g).F;have k:=Z6e<|And.intro g f;clear g f C B)
  |(refine(D.out _ (l.out.call k.out.1).az 1<|by omega).mono ?_;rintro e w2 ⟨v1,rfl,n,p⟩;obtain⟨a1,q1,rfl⟩:=ZV p;obtain⟨Z,Q⟩:=((l.out.call k.out.1).call n).F;have r:=Z6e<|And.intro n p;clear n p u t))))
 all_goals exact R2 _ _ _<|l.out.si Z0 k.out.1 k.out.2 r.out.1 r.out.2
end Vm
end
section
namespace Vm
open Go Go.Proofs
def p8:Fn:=⟨6,[0,1,2,4,5,12],pQ [pR [(2,pS 0 10),(3,pZ),pV 4<|pI 0],pQ [.be ⟨[.lt 6 []<|pl (.s 1)<|pI 0,.call 7 [(6,xw)] (.id 17) xw xw [.mm 2 0 10]],[([(6,xw)],.un .not<|.s 7)],[pV 5<|.ite (.s 6) pT<|.un .not<|.s 7]⟩]<|pw (.s 5)<|pQ [.be ⟨[],[([],pY)],[(3,pZ),pV 4<|pI 1]⟩] .ret,pC [pK 8 22 [.mm 2 0 10,.s 1]] [(3,pM (.sz (.ext (.s 8) 0) 10) 10),pV 4<|.ext (.s 8) 1]] .ret,[(3,(.ag 10)),(4,.v)]⟩
def c8:ZS Tryz.prog fresh sig [.fz,.fz] [] Tryz.f8=J p8:=Z2
section
structure Made (b:Bt) (x:Rw):Prop where
 pl:Placed b x
 al:ZC (Zv b.h)=xk
 oy:∀n∈b.g.nodes,ZN n<=9
 fq:b.h.M=xk->∀i,i<I b.g.nodes->(ZH b i).part=1->(Y8 b i).part≠0
 O:0<=b.h.O/\b.h.O<=I b.h.H/\(if b.h.M then b.h.O<(I b.h.H) else b.h.O=I b.h.H/\b.h.ad=[]/\b.h.ae=[])
 cx:(I b.h.H:Int)+I b.h.aa+((Yi (obs b 3)+Yi (obs b 4):Nat):Int)<=b.h.cap
 lx:ZP b.h.O
def SZ(b:Bt):Pts:=⟨obs b 1,obs b 2,obs b 3,obs b 4⟩
theorem jq b{k}(d:1<=k/\k<=4):(SZ b).at k=obs b k:=by
 have a:k=1\/k=2\/k=3\/k=4:=Z0;obtain rfl|rfl|rfl|rfl:=a<;>rfl
section
variable {b:Bt}{x:Rw}
def Made.fill(m:Made b x):(Yn x b).ok/\Zv (Yn x b)=Zv b.h/\(Yn x b).O=b.h.O/\(Yn x b).M=b.h.M:=zZ m.pl.ok m.lx
def Made.af(m:Made b x){k}(a:1<=k/\k<=4):Tiles (Zw (Yn x b) k) (decide (2<k)) 0<|obs b k:=Oy m.pl m.al m.oy a
def Made.start(m:Made b x){k a}(f:1<=k/\k<=4)(d:0<=a/\a<ZX (Zv b.h) k):YP (Yn x b) k a=ZD (Zv b.h) k+a:=by
 unfold YP;rw[m.fill.2.1,TI m.al f d]
def LX n:1<=ZN n:=by grind [ZN]
def Made.ln(m:Made b x){i}(a:i<I b.g.nodes)(d:(ZH b i).part≠0):∃o∈obs b (ZH b i).part,o.Y=(ZH b i).Y/\o.size=((ZT b i).Z.length:Int)+(ZT b i).data.length/\o.Z=(ZT b i).Z.length/\o.gone=xw:=
 ⟨_,RT.2 ⟨i,a,by unfold X5;rw[Z6k rfl];exact .head _⟩,rfl,rfl,rfl,rfl⟩
def Made.om(m:Made b x){i}(f:i<I b.g.nodes)(h:(Y8 b i).part≠0):∃o∈obs b (Y8 b i).part,o.Y=(Y8 b i).Y:=by
 let⟨j,k,l,n⟩:=m.pl.du f h;have a:¬(ZH b i).part=(Y8 b i).part:=by
  by_cases d:(ZH b i).part=0;omega;have:=(m.pl.cv f d).1;omega
 by_cases d:(ZH b i).part=0;exact⟨_,RT.2 ⟨i,f,by unfold X5;rw[Z6h a,Z6k rfl,Z6k d];exact .head _⟩,rfl⟩;exact⟨_,RT.2 ⟨i,f,by unfold X5;rw[Z6h a,Z6k rfl,Z6h d];exact .head _⟩,rfl⟩
def Made.ls(m:Made b x){i}(d:i<I b.g.nodes):Xs (Yn x b) (SZ b) (YC b.h<|ZH b i) 1 2=xk:=by
 by_cases a:(ZH b i).part=0;simp_all[YC,ZH,Z6k,Xs];let⟨k,l,n⟩:=m.pl.cv d a;have p:=LX<|ZT b i;let⟨o,j,f,_⟩:=m.ln d a;rw[m.pl.gp m.al d a];unfold Xs;rw[WM m.al Z0];have:(YA (Yn x b) (ZH b i).part (obs b (ZH b i).part)<|ZD (Zv b.h) (ZH b i).part+(ZH b i).Y).isSome=xk:=by
  refine zJ.2 ⟨o,j,?_⟩;rw[f,m.start Z0 ⟨Z0,Z0⟩]
 grind [jq]
def Made.ot(m:Made b x){i}(d:i<I b.g.nodes):Xs (Yn x b) (SZ b) (YC b.h<|Y8 b i) 3 4=xk:=by
 by_cases a:(Y8 b i).part=0;simp_all[YC,Y8,Z6k,Xs];let⟨k,l,_,n⟩:=m.pl.du d a;have p:=LX<|ZT b i;let⟨o,j,f⟩:=m.om d a;rw[m.pl.nv m.al d a];unfold Xs;rw[WM m.al Z0];have:(YA (Yn x b) (Y8 b i).part (obs b (Y8 b i).part)<|ZD (Zv b.h) (Y8 b i).part+(Y8 b i).Y).isSome=xk:=by
  refine zJ.2 ⟨o,j,?_⟩;rw[f,m.start Z0 ⟨Z0,Z0⟩]
 grind [jq]
def Made.cy(m:Made b x){k}(j:1<=k/\k<=4){o q}(f:o∈obs b k)(g:q∈obs b k)(h:q.Y=o.Y):q=o:=by
 have d:=m.af j;obtain a|a|a:=d.apart q g o f;exact a;have:=Yq.1 (d.aq q g).1.shape;omega;have:=Yq.1 (d.aq o f).1.shape;omega
def Made.kz(m:Made b x){k}(d:1<=k/\k<=4){o}(f:o∈obs b k):0<=o.Y/\o.Y<ZX (Zv b.h) k:=by
 have a:=((m.af d).aq o f).1;have g:=Yq.1 a.shape;have j:=a.ah;have l:=a.gd;have:ZX (Zv b.h) k=I (Zw (Yn x b) k):=by rw[<-m.fill.2.1,VI _ d]
 omega
def Made.find(m:Made b x){k}(a:1<=k/\k<=4){o}(d:o∈obs b k):YA (Yn x b) k (obs b k) (ZD (Zv b.h) k+o.Y)=J o:=by
 rw[<-m.start a (m.kz a d)];refine AT d λq f e=>m.cy a d f ?_;rw[m.start a<|m.kz a d,m.start a<|m.kz a f]at e;omega
def NF{k i o}(h:o∈X5 b k i)(a:o.gone=xk):¬(ZH b i).part=k/\(Y8 b i).part=k/\¬(ZH b i).part=0/\o=⟨(Y8 b i).Y,((ZT b i).Z.length:Int)+(ZT b i).data.length,(ZT b i).Z.length,xk,(adr<|YC b.h<|ZH b i).1⟩:=by
 grind [X5]
def Made.gone(m:Made b x){k}(y:3<=k/\k<=4):Rp (Yn x b) (obs b 1)<|obs b k:=by
 intro o n j;let⟨i,d,g⟩:=RT.1 n;obtain⟨u,w,f,rfl⟩:=NF g j;let⟨z,A,B⟩:=m.pl.cv d f;have l:=(m.pl.du d Z0).2.2.1;have a:(ZH b i).part=1:=Z0;let⟨q,h,p,r,t,_⟩:=m.ln d f;rw[a]at h;refine⟨q,?_,r,t⟩;rw[m.pl.gp m.al d f,WM m.al Z0,a,<-p];exact m.find Z0 h
def Made.eh(m:Made b x):Xd (Yn x b)=J (SZ b):=
 E7 (m.af (k:=1) Z0) (m.af (k:=2) Z0) (m.af (k:=3) Z0) (m.af (k:=4) Z0) (m.gone Z0) (m.gone Z0)
def Fx l r a:X1 (l++r) a=X1 l a+X1 r a:=by simp[X1]
def FA b k j a:X1 (X5 b k j) a=if ¬(ZH b j).part=k/\(Y8 b j).part=k/\¬(ZH b j).part=0/\(adr<|YC b.h<|ZH b j).1=a then 1 else 0:=by
 unfold X5;by_cases g:(ZH b j).part=k;simp_all[Z6k,Z6h,X1];by_cases d:(Y8 b j).part=k;rw[Z6k d];by_cases f:(ZH b j).part=0;simp_all[Z6k,Z6h,X1];rw[Z6h f];by_cases l:(adr<|YC b.h<|ZH b j).1=a;simp_all[Z6k,X1];simp_all[Z6h,X1];simp_all[Z6h,X1]
def Made.dt(m:Made b x)(q:b.h.M=xk){i}(n:i<I b.g.nodes)(y:(ZH b i).part=1):U4 (SZ b) (ZD (Zv b.h) 1+(ZH b i).Y)=1:=by
 have key:∀j,j<=I b.g.nodes->X1 ((List.range j).flatMap<|X5 b 3) (ZD (Zv b.h) 1+(ZH b i).Y)+X1 ((List.range j).flatMap<|X5 b 4) (ZD (Zv b.h) 1+(ZH b i).Y)=if i<j then 1 else 0:=by
  intro j;induction j with
  |zero=>grind [X1]
  |succ j C=>
   intro G;have C:=Z0;have a:j<I b.g.nodes:=Z0;rw[Z8J,Z8k,Z8k,Fx,Fx];simp[Z9h,List.flatMap_nil,Z7u];have p:X1 (X5 b 3 j) (ZD (Zv b.h) 1+(ZH b i).Y)+X1 (X5 b 4 j) (ZD (Zv b.h) 1+(ZH b i).Y)=if j=i then 1 else 0:=by
    rw[FA,FA];by_cases l:(ZH b j).part=0;grind;let⟨H,K,L⟩:=m.pl.cv a l;by_cases d:(ZH b j).part=1;have w:=m.fq q j a d;let⟨v1,_⟩:=m.pl.du a w;have B:(adr<|YC b.h<|ZH b j).1=ZD (Zv b.h) 1+(ZH b j).Y:=by rw[m.pl.gp m.al a l,WM m.al Z0,d]
    have heq:(ZD (Zv b.h) 1+(ZH b j).Y=ZD (Zv b.h) 1+(ZH b i).Y)↔j=i:=by
     constructor;intro e;let⟨M,N,O⟩:=m.pl.cv n Z0;have z:=LX<|ZT b i;have A:=LX<|ZT b j;have D:I (YL b x 1 i)=ZN (ZT b i):=by unfold YL;rw[Z6k y];exact VW _ _ _ _
     have F:I (YL b x 1 j)=ZN (ZT b j):=by unfold YL;rw[Z6k d];exact VW _ _ _ _
     by_cases u:j<i;let⟨r,k⟩:=QH b x 1 (Z0:j+1<=i);rw[Vy]at k;grind;by_cases t:i<j;let⟨r,k⟩:=QH b x 1 (Z0:i+1<=j);rw[Vy]at k;grind;omega;simp_all
    grind;have f:(ZH b j).part=2:=Z0;have o:(Y8 b j).part=0:=by
     by_cases h:(Y8 b j).part=0;exact h;exact absurd f (m.pl.du a h).2.2.1
    grind
   grind
 have:=key (I b.g.nodes)<|Z6i _;rw[Z6k n]at this;exact this
end
end
section
section
variable {b:Bt}{x:Rw}
def Made.cm(m:Made b x){k:Int}(a:1<=k/\k<=4){i t:Nat}(d:i<I b.g.nodes)(h:t< I (YL b x k i)):(Zw (Yn x b) k)[I (YT b x k i)+t]?=(YL b x k i)[t]? :=by
 rw[Bm m.pl a];obtain⟨r,f⟩:=QH b x k (Z0:i+1<=I b.g.nodes);simp_all[Vy,Z6Y,Z6v,Z7z,Z6B]
def C5{p:Pl}{n:Nd}{tw:Int}{j:Nat}(a:j<I n.Z):∃q∈n.Z,(XH b p n tw)[1+j]?=J (WV b ⟨p.part,((p.Y.toNat+1+j:Nat):Int)⟩ q<|IntKind.i64.wrap<|tw+j):=by
 refine⟨n.Z[j],Z6E a,?_⟩;simp_all[XH,Z9C,Z8l,Z6B,XL]
theorem yx(h:Hp)(p:Pts)(k j:Int):Xs h p 0 k j=xk:=by rfl
def Made.mi(m:Made b x)(w:∀n∈b.g.nodes,∀q∈n.Z,-1<=q/\q< (I b.g.nodes:Int)){i:Nat}(A:i<I b.g.nodes){k:Int}{p:Pl}(u:p.part=k){a:Nat}{d tw:Int}(f:d∈(ZT b i).Z)(y:((Zw (Yn x b) k)[a]?).getD 0=WV b ⟨p.part,(a:Int)⟩ d tw):VG (Yn x b) (SZ b) k a=xk:=by
 have z:=w (ZT b i) (by simp_all[ZT,Z6b,Z6E]) d f;unfold VG;simp only[y];unfold WV;rw[u];by_cases r:d<0;simp_all[Z6k,yx];obtain⟨t,rfl⟩:=Z6q (Z0:0<=d);have j:t<I b.g.nodes:=Z0;rw[Z6h r];have l:=m.ls (i:=t) j;have o:=m.ot (i:=t) j;unfold ZH at l;unfold Y8 at o;simp only[Z6p];by_cases h:2<k;simp_all;rw[Z6h h,Z6h h];rw[m.fill.2.2.1];grind
def Made.Z(m:Made b x)(C:∀n∈b.g.nodes,∀q∈n.Z,-1<=q/\q< (I b.g.nodes:Int)){k:Int}(u:1<=k/\k<=4):Wm (Yn x b) (SZ b) k=xk:=by
 unfold Wm;rw[jq b u,Z6y];intro o D;obtain⟨i,d,a⟩:=RT.1 D;unfold Lb;rw[Z6y];intro j h;rw[Z8A]at h;unfold X5 at a;split at a;rename_i f;simp at a;subst a;simp only[Z6p]at h;obtain⟨_,B,_⟩:=m.pl.cv d Z0;rw[f]at B;have r:YL b x k i=XH b (ZH b i) (ZT b i) (IntKind.i64.wrap<|x.ba+i):=by unfold YL;rw[Z6k f]
 obtain⟨q,z,A⟩:=C5 (b:=b) (p:=ZH b i) (tw:=IntKind.i64.wrap<|x.ba+i) h;have w:=m.cm u d (t:=1+j) Z5h;rw[r,A]at w;simp only;refine m.mi C d f (tw:=IntKind.i64.wrap<|IntKind.i64.wrap (x.ba+i)+j) z ?_;grind;rename_i f;split at a;rename_i l;obtain⟨_,B,_⟩:=m.pl.du d Z0;rw[l]at B;split at a;rename_i y;simp at a;subst a;simp only[Z6p]at h;have r:YL b x k i=XH b (Y8 b i) (ZT b i) 0:=by unfold YL;rw[Z6h f,Z6k l,Z6k y]
 obtain⟨q,z,A⟩:=C5 (b:=b) (p:=Y8 b i) (tw:=0) h;have w:=m.cm u d (t:=1+j) Z5h;rw[r,A]at w;simp only;refine m.mi C d l (tw:=IntKind.i64.wrap<|0+j) z ?_;grind;rename_i y;simp at a;subst a;simp only[Z6p]at h;have r:YL b x k i=Vi b (ZH b i) (ZT b i):=by unfold YL;rw[Z6h f,Z6k l,Z6h y]
 have w:=m.cm u d (t:=1+j) (by grind [SC,ZN]);have F:(Vi b (ZH b i)<|ZT b i)[1+j]?=J 0:=by
  unfold Vi;rw[Z9C 1 j,Z8l,Z8n,Z6k (by grind [ZN])]
 grind [VG,Int.toNat_natCast,YT,yx];grind
def Made.right(m:Made b x)(z:∀n∈b.g.nodes,∀q∈n.Z,-1<=q/\q< (I b.g.nodes:Int)):Yp (Yn x b)=xk:=by
 have j:=m.fill.2.1;have a:(Yn x b).H.length=I b.h.H:=by have:=Z7J Ly.H j;simp only[Zv]at this;omega
 have d:(Yn x b).aa.length=I b.h.aa:=by have:=Z7J Ly.aa j;simp only[Zv]at this;omega
 have u:(Yn x b).ad.length=I b.h.ad:=by have:=Z7J Ly.ad j;simp only[Zv]at this;omega
 have p:(Yn x b).ae.length=I b.h.ae:=by have:=Z7J Ly.ae j;simp only[Zv]at this;omega
 have l:(Yn x b).cap=b.h.cap:=Z7J Ly.cap j;refine ES ?_ m.eh ?_;unfold UV;have O:=m.O;have y:=m.pl.ok.rl;have M:(Yn x b).E.length<=5:=by simp only[Yn,Z6D];exact y
 rw[j,m.al,m.fill.2.2.1,m.fill.2.2.2,a,u,p];grind;unfold Tr;simp only[Z6l,Z6J];refine⟨⟨⟨⟨⟨⟨?_,?_⟩,m.Z z Z0⟩,m.Z z Z0⟩,m.Z z Z0⟩,m.Z z Z0⟩,?_⟩;rw[m.fill.2.2.2];cases K:b.h.M;rfl;simp only[Z9n,Z8V,Z6y];intro o G;obtain⟨i,F,f⟩:=RT.1 G;have D:(ZH b i).part=1/\o.Y=(ZH b i).Y:=by
  unfold X5 at f;split at f;simp_all;split at f;rename_i N;have:=(m.pl.du F Z0).1;omega;grind
 have A:=m.kz (k:=1) Z0 G;unfold Se;rw[m.start Z0 A,D.2,Z6J];exact m.dt K F D.1;rw[Z6y];intro w H;simp only[Yn,Z6F]at H;obtain⟨r,L,rfl⟩:=H;have y:=m.pl.ok.rz r L;by_cases C:0<=r;rw[Z6k C];have B:=J5 (x:=x) m.pl.ok (I b.g.nodes)<|Z6i _;rw[ju B];obtain⟨t,rfl⟩:=Z6q C;exact m.ls (i:=t) Z0;simp_all[Z6h,yx];rw[a,d,l];exact m.cx
end
end
section
def G5(l r:Z8):Yi (l++r)=Yi l+Yi r:=by simp[Yi]
section
variable {x:Rw}{c:Bool}
def Z1F{b:Bt}(f:Placed b x){i:Nat}(p:i<I b.g.nodes):Yi (X5 b 3 i)+Yi (X5 b 4 i)=if(ZH b i).part=0 then ZN (ZT b i)else 0:=by
 have q:((1:Nat)+(((ZT b i).Z.length:Int)+(ZT b i).data.length).toNat)=ZN (ZT b i):=by unfold ZN;omega
 obtain⟨l,k,a,d⟩|⟨l,_⟩:=f.ap i p;have j:(ZH b i).part=0:=by rw[l]
 rw[Z6k j];obtain rfl|rfl:=a<;>simp[X5,j,d,Yi,Wc,q];have h:¬(ZH b i).part=0:=Z0;have n:¬(ZH b i).part=3:=Z0;have o:¬(ZH b i).part=4:=Z0;have:∀k:Int,¬(ZH b i).part=k->Yi (X5 b k i)=0:=λk a=>by
  unfold X5;rw[Z6h a,Z6h h];split<;>simp[Yi,Wc]
 rw[Z6h h,this 3 n,this 4 o]
def Ga(hx:x.ok):∀j,j<=(Y2 x.nodes x.E).nodes.length->Yi ((List.range j).flatMap<|X5 (Yh x c) 3)+Yi ((List.range j).flatMap<|X5 (Yh x c) 4)=(Y5 x c (Y2 x.nodes x.E) j).wt
 |0,_=>rfl
 |j+1,g=>by
  have h:=Ga hx j Z0;have a:=Z1F (Fq (c:=c) hx) (i:=j) (by rw[Sd];omega);rw[J0 Z0]at a;have f:ZT (Yh x c) j=((Y2 x.nodes x.E).nodes[j]?).getD default:=rfl;rw[f]at a;rw[Z8J,Z8k,Z8k,G5,G5,Y5];simp only[Z9h,List.flatMap_nil,Z7u];generalize ((Y2 x.nodes x.E).nodes[j]?).getD default=n at*;unfold SD at a;simp only[YX];obtain d|d|⟨d,rfl⟩:=TQ x j c;simp[d]at a⊢;omega;simp[d]at a⊢;omega;simp[d]at a⊢;omega
def NU(x:Rw)(c:Bool):∀n∈(Yh x c).g.nodes,∀q∈n.Z,-1<=q/\q< ((Yh x c).g.nodes.length:Int):=by
 rw[Sd];exact Cv x.nodes x.E
def CW(a:c=xw):∀j,(Y5 x c (Y2 x.nodes x.E) j).n3=0/\(Y5 x c (Y2 x.nodes x.E) j).n4=0
 |0=>⟨rfl,rfl⟩
 |j+1=>by
  have:=CW a j;subst a;simpa[Y5,YX]using this
def Cp(hx:x.ok)(r:c=xk->(Yh x xk).h.H.length≠0):Made (Yh x c) x:=by
 obtain⟨B,z,A⟩:=Qm hx c;refine⟨Fq hx,A,?_,?_,?_,?_,z⟩;rw[Sd];exact A1 x;intro a i l j;have k:c=xk:=a;subst k;rw[Sd]at l;rw[J0 l]at j;rw[Lh l];unfold SD at j;unfold Q3;obtain f|f|⟨f,_⟩:=TQ x i xk;simp[f]at j;simp[f];cases Wf x i<;>simp;simp[f]at j;have d:(Yh x c).h.H.length=(Y5 x c (Y2 x.nodes x.E) (Y2 x.nodes x.E).nodes.length).n1:=by simp[Yh]
 cases c;obtain⟨p,q⟩:=CW (x:=x) (c:=xw) rfl (Y2 x.nodes x.E).nodes.length;rw[d];have o:(Yh x xw).h.O=((Y5 x xw (Y2 x.nodes x.E) (Y2 x.nodes x.E).nodes.length).n1:Int):=by simp[Yh]
 have a:(Yh x xw).h.M=xw:=rfl;rw[o,a];simp only[Z73,Z7K];refine⟨Z0,Z0,trivial,?_,?_⟩<;>simp[Yh,p,q];have f:=r rfl;rw[d]at f;rw[d];have o:(Yh x xk).h.O=pick x.O (Y5 x xk (Y2 x.nodes x.E) (Y2 x.nodes x.E).nodes.length).n1:=by
  simp only[Yh];rw[Z6k ⟨trivial,Z0⟩]
 have a:(Yh x xk).h.M=xk:=rfl;have w:=Wl (c:=x.O) (n:=((Y5 x xk (Y2 x.nodes x.E) (Y2 x.nodes x.E).nodes.length).n1:Int)) Z0;rw[o,a];simp only[Z7m];omega;have y:=Ga (c:=c) hx (Y2 x.nodes x.E).nodes.length<|Z6i _;have u:(Yh x c).h.H.length=(Y5 x c (Y2 x.nodes x.E) (Y2 x.nodes x.E).nodes.length).n1:=by simp[Yh]
 have t:(Yh x c).h.aa.length=(Y5 x c (Y2 x.nodes x.E) (Y2 x.nodes x.E).nodes.length).n2:=by simp[Yh]
 have g:(Yh x c).h.cap=max (((Y5 x c (Y2 x.nodes x.E) (Y2 x.nodes x.E).nodes.length).n1:Int)+(Y5 x c (Y2 x.nodes x.E) (Y2 x.nodes x.E).nodes.length).n2+(Y5 x c (Y2 x.nodes x.E) (Y2 x.nodes x.E).nodes.length).wt) (((Y5 x c (Y2 x.nodes x.E) (Y2 x.nodes x.E).nodes.length).n3:Int)+(Y5 x c (Y2 x.nodes x.E) (Y2 x.nodes x.E).nodes.length).n4)+pick x.ba 12:=rfl;have w:=Wl (c:=x.ba) (n:=12) Z0;unfold obs;rw[Sd,y,u,t,g];omega
def MR(hx:x.ok):∃c,VV x=Yn x (Yh x c)/\Made (Yh x c) x:=by
 unfold VV;by_cases h:(Yh x xk).h.H.length=0;rw[Z6k h];exact⟨xw,rfl,Cp hx Z1⟩;rw[Z6h h];exact⟨xk,rfl,Cp hx λ_=>h⟩
def MV(hx:x.ok):Yp (VV x)=xk:=by
 obtain⟨c,h,m⟩:=MR hx;rw[h];exact m.right<|NU x c
end
end
def zw:Prop:=∀(h:Hp) (p:Pts) (k:Int),h.ok->Rt h p->0<=k->ZP k->VC Tryz.prog 22 xw [ZF h,vi k] (.am [ZF<|scanK h k.toNat,vi 0])
def JF(h:Hp)(k:Int):Hp×Int:=if k<0\/Yp h=xw then(Hp.zero,1)else(scanK h k.toNat,0)
def Av(l:zw){h:Hp}(f:h.ok){k:Int}(n:ZP k):VC Tryz.prog 8 xw [ZF h,vi k]<|.am [ZF (JF h k).1,vi (JF h k).2]:=by
 refine ZY Tryz.func8 follows Z2 c8 rfl ?_;have g:=zl f;simp only[ZF]at g;unfold JF;simp[p8];by_cases a:0<=k;case neg=>simp[a,show k<0 by omega,ZF,Hp.zero]
 have d:¬k<0:=Z0;simp only[a,d,Z7m,false_or];refine Zz g Z1 ?_;cases o:Yp h;simp[ZF,Hp.zero];obtain⟨p,r⟩:=Sa.1 o;have j:=l h p k f r Z0 n;simp only[ZF]at j⊢;simp;refine Zz j Z1 ?_;simp
def EG{h:Hp}{p:Pts}(r:Rt h p)(k:Nat):JF h k=(scanK h k,0):=by
 unfold JF;rw[Z6h (by rw[r.right];simp),Z6p]
end Vm
end
section
namespace Vm
open Go Go.Proofs Go.RowKit
def zy(w:Z4)(g n o m k:Nat)(e:Ending)(w':Z4):Prop:=∃f a j h d l,e=.returned (.tuple #[.slice f a j,.slice h d l,.int .i64 0])/\a=m/\d=k/\(0<m->f=J ⟨g,n,U⟩)/\(0<k->h=J ⟨g,o,U⟩)/\Below (xz<|xj w) w w'
def Fj(w:Z4)(G:Z6)(X:∀b,G b->b<xz (xj w))(h:Hp)(Q:h.ok)(x:Z3)(hs:∀j,j<5->Rd w G (.sl<|(Zu h j).map vu) (x j))(hl:ZC (Zv h)=xk)
  {j a n m:Nat} (R:j=0\/j=1) {u:Int} (hu:(Zu h j)[a]?=J u) (a3:ZW u=((n:Int),(m:Int),0)) (a8:m<=n) (a6:a+n< I (Zu h j)) (hw:Zy<|ZG (Zv h) (j+1) a) {g off cap:Nat} (hx:x j=.slice (J ⟨g,off,U⟩) (I<|Zu h j) cap) (l:w.cell? ⟨g,off+a,U⟩=J (.int .u64 u)) (hg:G g) (O:I (Zu h j)<=cap/\cap<=maxLen):
  Calls Tryz.prog 115 #[Zx h x,.int .u64<|ZG (Zv h) (j+1) a] w (zy w g (off+(a+1)) (off+(a+1+m)) m<|n-m):=by
 have N:=WM hl (k:=(j:Int)+1) (a:=a) Z0;have a2:ZX (Zv h) ((j:Int)+1)=I (Zu h j):=by
  obtain rfl|rfl:=R;rfl;rfl
 have a5:a< I (Zu h j):=Z0;have P:=Td hl (k:=(j:Int)+1) (a:=a) Z0 Z0;have D:=Kk hw;rw[N]at D;simp only at D;have a7:=VY Q j;have a4:Zy u:=by
  obtain rfl|rfl:=R;exact Q.dm u<|Z6n hu;exact Q.db u<|Z6n hu
 have HS:=Z6e hs;have HH:=Z6e Q;have Z:=X g hg;clear hs Q;generalize hA:ZD (Zv h) ((j:Int)+1)+a=A at*;generalize hW:ZG (Zv h) ((j:Int)+1) a=W at*;unfold Zx;have HC:=Z6e<|And.intro l<|And.intro Z<|And.intro O hx;clear l hA hW hu hx a2;obtain⟨f,Y⟩:∃f:Nat,a+1=f:=⟨_,rfl⟩;obtain⟨q,F⟩:∃e:Nat,f+m=e:=⟨_,rfl⟩;obtain⟨M,H⟩:∃e:Nat,f+n=e:=⟨_,rfl⟩;have wf:IntKind.i64.wrap ((a:Int)+1)=(f:Int):=Z5r;have b4:IntKind.i64.wrap ((f:Int)+(m:Int))=(q:Int):=Z5r;have b5:IntKind.i64.wrap ((f:Int)+(n:Int))=(M:Int):=Z5r;have HF:=Z6e<|And.intro Y<|And.intro F H;have o1:f<=q:=Z0;have o2:q<=M:=Z0;have o3:M<=cap:=Z0;have o4:f<=M:=Z0;have o5:q<=cap:=Z0;clear Y F H;obtain rfl|rfl:=R;all_goals
  simp at P;go_enter Tryz.func115,Tryz.ntmps115
  go_wp2_with (first
   |(go_at_call 29;go_loud (refine(UI hw _).mono ?_;rintro e w1 ⟨rfl,r⟩;rw[N];dsimp only;have p1:=(r.block (xz<|xj w)<|by simp).trans<|Z6u w _;have x1:=λj=>Z6j _ _ j _ _ _ p1;have a0:=r.size;simp at a0;have K:=Z6e<|((Z6r _ w).alloc (Z6i _) _).trans<|r.mono (by simp);clear r))
   |(go_at_call 19;go_loud (refine(Rq (h:=h) (x:=x) (G:=G) (λc hc=>by have:=X c hc;omega)<|λj R=>(HS.out j R).keep (λb hb=>K.out.block b<|X b hb) (λ_ h=>h)).mono ?_;rintro e w2 ⟨rfl,y⟩;unfold Wb;have p2:=(y.block (xz<|xj w)<|by omega).trans p1;have x2:=λj=>Z6j _ _ j _ _ _ p2;have a9:=y.size;have S:=Z6e<|K.out.trans<|y.mono (by omega);clear y))
   |(go_at_call 30;go_loud (refine(Br HH.out.al D _).mono ?_;rintro e B ⟨rfl,d⟩;rw[P];dsimp only;have p3:=λo=>(Z6m B o (xz<|xj w) (by have:=d.size;omega)).trans<|(d.block (xz<|xj w)<|by omega).trans p2;have x3:=λo j=>Z6j _ _ j _ _ _<|p3 o;have k3:=λ(T:Z9) (t:Zd) (j:Nat)=>Z6j _ _ j _ _ _<|Z6u B<|.cells T t;have b0:=d.size;have C:=Z6e<|S.out.trans<|d.mono (by omega);have b2:=C.out.size;have c3:=λo=>(Z7c B o ⟨g,off+a,U⟩ (by show g<xz (xj B);omega)).trans<|(C.out.cell (p:=⟨g,off+a,U⟩) (by show g<xz (xj w);omega)).trans HC.out.1;have hx:=HC.out.2.2.2;clear d x1 x2 p1 p2))
   |(go_at_call 55;go_loud (refine(Rk a4 _).mono ?_;rintro e w4 ⟨rfl,z⟩;rw[a3];dsimp only;have a1:=z.size;simp at a1;have q4:=λo=>(Z6m w4 o (xz<|xj B)<|by omega).trans<|(z.block (xz<|xj B)<|by simp).trans<|Z6u B _;have b3:=λo j=>Z6j _ _ j _ _ _<|q4 o;have s4:=λ(T:Z9) (t:Zd) (j:Nat)=>Z6j _ _ j _ _ _<|Z6u w4<|.cells T t;have L:=Z6e<|C.out.trans<|(((Z6r _ B).alloc (Z6i _) _).trans<|z.mono (by simp)).mono (by omega);clear z x3 p3 k3 c3 q4)))
  go_region;all_goals
   go_wp2;all_goals
    obtain⟨Y,F,H⟩:=HF.out;have hm:m=q-f:=Z0;have hn:n-m=M-q:=Z0;rw[hn,hm];have hz:cap=f->q-f=0:=λ_=>Z0;have b1:f=q->q-f=0:=λ_=>Z0;refine Z6x (v:= ?_) ?_ rfl ?_;rotate_left 1
    .simp[results,Tryz.results115,go_sem];exact rfl
    refine⟨_,_,_,_,_,_,rfl,?_,?_,λh=> ?_,λh=> ?_,(L.out.alloc (by have:=L.out.size;omega) _).drew⟩;all_goals first
     |omega
     |(exfalso;omega)
     |(congr 2;omega)
     |(congr 2;congr 1;omega)
def Yu(k r s i z p v:Int):Array Value:=#[.int .i64 k,.int .i64 r,.int .i64 s,.int .i64 i,.int .i64 z,.int .i64 p,.int .u64 v]
def X3(k:Int):TypeId:=if k=1 then 118 else if k=2 then 119 else if k=3 then 120 else if k=4 then 121 else if k=5 then 122 else if k=6 then 123 else 124
def Tg(k r s i z p v:Int):Value:=if 1<=k/\k<=7 then .iface (X3 k) (.agg<|Yu k r s i z p v)else .nilIface
def C3(w:Z4)(k r s i z p v:Int):Calls Tryz.prog 26 #[.agg<|Yu k r s i z p v] w λe f=>e=.returned (Tg k r s i z p v)/\Below (xz<|xj w) w f:=by
 have a:k=1\/k=2\/k=3\/k=4\/k=5\/k=6\/k=7\/¬(1<=k/\k<=7):=Z0;unfold Yu;obtain rfl|rfl|rfl|rfl|rfl|rfl|rfl|a:=a;case inr.inr.inr.inr.inr.inr.inr=>
  have g:(k==1)=xw:=Z5j;have h:(k==2)=xw:=Z5j;have j:(k==3)=xw:=Z5j;have l:(k==4)=xw:=Z5j;have n:(k==5)=xw:=Z5j;have o:(k==6)=xw:=Z5j;have q:(k==7)=xw:=Z5j;have d:Tg k r s i z p v=.nilIface:=by unfold Tg;rw[Z6h a]
  rw[d];clear a d;go_enter Tryz.func26,Tryz.ntmps26;go_wp2;exact Z6x (v:=.nilIface) (by simp[results,Tryz.results26,go_sem]) rfl ⟨rfl,(Z6r _ _).alloc (Z6i _) _⟩
 all_goals
  go_enter Tryz.func26,Tryz.ntmps26;go_wp2;exact Z6x (by simp[results,Tryz.results26,go_sem];rfl) rfl ⟨rfl,(Z6r _ _).alloc (Z6i _) _⟩
def Z0b{P:Ze}(w:Z4)(v:Za)(f T:Zd){a:Array Field}(d:P.underlying T=J (.struct a)):(Instr.typeAssert (.iface T v) f T xk).run P w=.ok (.tuple #[v,.bool xk]) w:=by
 simp[Instr.typeAssert,Z6M d]
def Z0c{P:Ze}(w:Z4)(v z:Za)(h t T:Zd){a:Array Field}(d:P.underlying T=J (.struct a))(g:(zeroValue T).run P w=.ok z w)(f:t≠T):(Instr.typeAssert (.iface t v) h T xk).run P w=.ok (.tuple #[z,.bool xw]) w:=by
 simp[Instr.typeAssert,Z6M d,f,g]
def zD:Value:=.agg #[.int .i64 0,.int .i64 0,.int .i64 0,.int .i64 0,.int .i64 0,.int .i64 0,.int .u64 0]
def Ri(w:Z4)(v:Za)(t T:Zd)(f:T∈[118,119,120,121,122,123,124]):
  (Instr.typeAssert (.iface t v) 75 T xk).run Tryz.prog w=.ok (if t=T then .tuple #[v,.bool xk]else .tuple #[zD,.bool xw]) w:=by
 have h:(∃a,Tryz.prog.underlying T=J (.struct a))/\(zeroValue T).run Tryz.prog w=.ok zD w:=by
  simp only[Z6S,Z8C,Z9P]at f;obtain rfl|rfl|rfl|rfl|rfl|rfl|rfl:=f;all_goals exact⟨⟨_,rfl⟩,rfl⟩
 obtain⟨⟨a,d⟩,g⟩:=h;by_cases e:t=T;subst e;rw[Z6k rfl];exact Z0b w v _ _ d;rw[Z6h e];exact Z0c w v _ _ _ _ d g e
def A6(w:Z4)(d a:Obj):((w.alloc d).alloc a).heap[xz (xj w)+1]?=J a:=by
 have:=Z6u (w.alloc d) a;rwa[Z7V]at this
def Xf(k r s:Int):List Int:=if k=1\/k=7 then [r]else if k=3\/k=5 then [s]else [r,s]
def CT(w:Z4)(k r s i z p v:Int)(d:1<=k/\k<=7):Calls Tryz.prog 27 #[Tg k r s i z p v] w λe f=>∃g,e=.returned (.slice (J ⟨g,0,U⟩) (I<|Xf k r s)<|I<|Xf k r s)/\Below (xz<|xj w) w f/\xz (xj w)<=g/\∀j u,(Xf k r s)[j]?=J u->f.cell? ⟨g,j,U⟩=J (.int .i64 u):=by
 have d:k=1\/k=2\/k=3\/k=4\/k=5\/k=6\/k=7:=Z0;obtain rfl|rfl|rfl|rfl|rfl|rfl|rfl:=d;all_goals
  unfold Tg;rw[Z6k Z0];simp only[X3];have h:=λt w v=>Ri w v t 118 Z1;have l:=λt w v=>Ri w v t 124 Z1;have n:=λt w v=>Ri w v t 120 Z1;have o:=λt w v=>Ri w v t 122 Z1;have q:=λt w v=>Ri w v t 119 Z1;have x:=λt w v=>Ri w v t 121 Z1;have y:=λt w v=>Ri w v t 123 Z1;unfold Yu;unfold zD at h l n o q x y;go_enter Tryz.func27,Tryz.ntmps27;go_wp2;refine Z6x (by simp[results,Tryz.results27,go_sem];rfl) rfl ⟨xz (xj w)+1,rfl,((Z6r _ _).alloc (Z6i _) _).alloc Z1 _,Z0,λj u a=> ?_⟩;rw[Z6j _ _ _ _ _ _<|A6 _ _ _];simp[Xf]at a;first
  | (match j,a with
     |0,a=>simp at a;subst a;rfl
     |j+1,a=>simp at a;done)
  | (match j,a with
     |0,a=>simp at a;subst a;rfl
     |1,a=>simp at a;subst a;rfl
     |j+2,a=>simp at a)
structure MSt (w W:World) (ta:TypeId) (ic:Array Value) (h:Hp) (y:Nat->Value) (nb:Nat):Prop where
 ic:W.heap[xz<|xj w]?=J (.cells ic ta (0,0))
 bj:W.heap[xz (xj w)+2]?=J (.cells ZE 31 (0,0))
 ej:W.heap[nb]?=J (.cells #[.int .u64 h.V,.int .i64 h.cap,.int .i64 h.to,.bool h.M,.int .i64 h.O,y 0,y 1,y 2,y 3,y 4] 31 (0,0))
 own:HOwn (xz (xj w)+3) W h y
 ae:∀j,j<5->∀c,(y j).ownBlock=J c->c≠nb
 az:Below (xz<|xj w) w W
 nB:xz (xj w)+3<=nb
def MSt.below{w W W':Z4}{k:Zd}{a:Z9}{h:Hp}{y:Z3}{g:Nat}(s:MSt w W k a h y g)(d:Below (xz<|xj W) W W'):MSt w W' k a h y g:=
 ⟨(d.block _<|ZL s.ic).trans s.ic,(d.block _<|ZL s.bj).trans s.bj,(d.block _<|ZL s.ej).trans s.ej,⟨λj f=>Yx (s.own.own j f) λc l=>d.block _ ((s.own.own j f).lt c l).2,s.own.apart⟩,s.ae,s.az.trans<|d.mono s.az.size,s.nB⟩
def MSt.drew{w W:Z4}{f:Zd}{a:Z9}{h:Hp}{y:Z3}{d:Nat}(s:MSt w W f a h y d):MSt w W.drew f a h y d:=
 ⟨s.ic,s.bj,s.ej,⟨λj g=>Yx (s.own.own j g) λc k=>rfl,s.own.apart⟩,s.ae,s.az.drew,s.nB⟩
def MSt.F{w W:Z4}{f:Zd}{a:Z9}{h:Hp}{y:Z3}{d:Nat}(s:MSt w W f a h y d):(∀j,W.cell? ⟨xz<|xj w,j,U⟩=a[j]?)/\(∀j,W.cell? ⟨d,j,U⟩=(#[.int .u64 h.V,.int .i64 h.cap,.int .i64 h.to,.bool h.M,.int .i64 h.O,y 0,y 1,y 2,y 3,y 4]:Array Value)[j]?):=
 ⟨λj=>Z6j _ _ _ _ _ _ s.ic,λj=>Z6j _ _ _ _ _ _ s.ej⟩
theorem MSt.put{w W:Z4}{n:Zd}{a:Z9}{h:Hp}{y:Z3}{l:Nat}(s:MSt w W n a h y l){j i:Nat}(d:j<5){g cap:Nat}(hx:y j=.slice (J ⟨g,0,U⟩) (I<|Zu h j) cap)(v:Int):MSt w (W.setCell ⟨g,i,U⟩<|.int .u64 v) n a (ZM h j i v) y l:=by
 have k:(y j).ownBlock=J g:=by rw[hx];rfl
 have x:=((s.own.own j d).lt g k).1;have f:∀c,c≠g->(W.setCell ⟨g,i,U⟩<|.int .u64 v).heap[c]?=W.heap[c]? :=λc u=>Z6w _ _ _ _ u;obtain⟨o,p,q,r,t⟩:=Wq h j i v;refine⟨(f _ Z0).trans s.ic,(f _ Z0).trans s.bj,?_,s.own.put d hx v,s.ae,s.az.setCell (by show xz (xj w)<=g;omega) _,s.nB⟩;rw[f _ (λe=>s.ae j d g k e.symm),o,p,q,r,t];exact s.ej
def jT(w:Z4)(h:Hp)(x:Z3){w0:Int}(g:w0=0):Calls Tryz.prog 115 #[Zx h x,.int .u64 w0] w λe j=>e=.returned (.tuple #[.slice U 0 0,.slice U 0 0,.int .i64 6])/\Below (xz<|xj w) w j:=by
 subst g;unfold Zx;have f:adr 0=(0,6):=Z5k;go_enter Tryz.func115,Tryz.ntmps115
 go_wp2_with (first
  |(go_at_call 29;go_loud (refine(UI (by unfold Zy;omega) _).mono ?_;rintro e k ⟨rfl,a⟩;rw[f];dsimp only;have d:=Z6e a;clear a)))
 exact Z6x (v:=.tuple #[.slice U 0 0,.slice U 0 0,.int .i64 6]) (by simp[results,Tryz.results115,go_sem]) rfl ⟨rfl,((Z6r _ w).alloc (Z6i _) _).trans<|d.out.mono Z1⟩
structure ObAt (h:Hp) (w:Int) (j a n m:Nat) (u:Int):Prop where
 iw:j=0\/j=1
 eq:w=ZG (Zv h) (j+1) a
 u64:Zy w
 Y:(Zu h j)[a]?=J u
 un:ZW u=((n:Int),(m:Int),0)
 mn:m<=n
 ah:a+n< I (Zu h j)
def Qt(w:Z4){i:Int}(j:ZP i){p:Option Addr}{n c:Nat}(k:n<=1000000):Calls Tryz.prog 116 #[.int .i64 i,.slice p n c] w λe h=>e=.returned (.bool<|decide (0<=i/\i<n))/\Below (xz<|xj w) w h:=by
 by_cases a:0<=i
 .have f:(i≥0)=True:=Z7G a;by_cases d:i<n
  .have g:(i< (n:Int))=True:=Z7G d;go_enter Tryz.func116,Tryz.ntmps116;go_wp2;exact Z6x (v:=.bool xk) (by simp[results,Tryz.results116,go_sem]) rfl ⟨by simp[a,d],Z6r _ _⟩
  .have g:(i< (n:Int))=False:=Z7d d;go_enter Tryz.func116,Tryz.ntmps116;go_wp2;exact Z6x (v:=.bool xw) (by simp[results,Tryz.results116,go_sem]) rfl ⟨by simp[d],Z6r _ _⟩
 .have f:(i≥0)=False:=Z7d a;go_enter Tryz.func116,Tryz.ntmps116;go_wp2;exact Z6x (v:=.bool xw) (by simp[results,Tryz.results116,go_sem]) rfl ⟨by simp[a],Z6r _ _⟩
def Jc{w k o:Z4}{T:Zd}{a cs:Z9}{h:Hp}{y:Z3}(f:Below (xz<|xj<|((w.alloc<|.cells a T).alloc<|.cells cs 31).alloc<|.cells ZE 31) (((w.alloc<|.cells a T).alloc<|.cells cs 31).alloc<|.cells ZE 31) k)
  (d:HOwn (xz<|xj<|((w.alloc<|.cells a T).alloc<|.cells cs 31).alloc<|.cells ZE 31) k h y) (r:k.alloc (.cells #[.int .u64 h.V,.int .i64 h.cap,.int .i64 h.to,.bool h.M,.int .i64 h.O,y 0,y 1,y 2,y 3,y 4] 31)=o):MSt w o T a h y<|xz<|xj k:=by
 have t:xz (xj<|((w.alloc<|.cells a T).alloc<|.cells cs 31).alloc<|.cells ZE 31)=xz (xj w)+3:=Z1;have p:(((w.alloc<|.cells a T).alloc<|.cells cs 31).alloc<|.cells ZE 31).heap[xz<|xj w]?=J (.cells a T (0,0)):=by
  rw[Z6m _ _ _ Z5j,Z6m _ _ _ Z1];exact Z6u _ _
 have q:(((w.alloc<|.cells a T).alloc<|.cells cs 31).alloc<|.cells ZE 31).heap[xz (xj w)+2]?=J (.cells ZE 31 (0,0)):=by
  have:=Z6u ((w.alloc<|.cells a T).alloc<|.cells cs 31)<|.cells ZE 31;simpa using this
 have l:Below (xz<|xj w) w<|((w.alloc<|.cells a T).alloc<|.cells cs 31).alloc<|.cells ZE 31:=(((Z6r _ _).alloc (Z6i _) _).alloc Z1 _).alloc Z5j _;generalize ((w.alloc<|.cells a T).alloc<|.cells cs 31).alloc (.cells ZE 31)=x at*;have u:=f.size;subst r;rw[t]at d;refine⟨(Z6m _ _ _ Z0).trans<|(f.block _ Z0).trans p,(Z6m _ _ _ Z0).trans<|(f.block _ Z0).trans q,Z6u _ _,⟨λj g=>Yx (d.own j g) λc n=>Z6m _ _ _ ((d.own j g).lt c n).2,d.apart⟩,λj g c n=> ?_,(l.trans<|f.mono Z0).alloc Z0 _,Z0⟩;have:=((d.own j g).lt c n).2;omega
def S5{w:Z4}{B g cap n:Nat}{e:Zd}{z:Nat}{xs:List Value}(h:w.ownsRow B e z (.slice (J ⟨g,0,U⟩) n cap) n xs)(o:0<n){i:Nat}:w.frozen? ⟨g,i,U⟩=xw:=by
 obtain⟨f,_⟩|⟨l,a,d,j,_,k,_⟩:=h.2;cases f;cases j;exact Y7 k
def MSt.R{w W:Z4}{f:Zd}{a:Z9}{h:Hp}{y:Z3}{d:Nat}(s:MSt w W f a h y d):(∀j,W.cell? ⟨xz (xj w)+1+1,j,U⟩=(#[.int .u64 0,.int .i64 0,.int .i64 0,.bool xw,.int .i64 0,.slice U 0 0,.slice U 0 0,.slice U 0 0,.slice U 0 0,.slice U 0 0]:Array Value)[j]?)/\∀j,W.frozen? ⟨xz (xj w)+1+1,j,U⟩=xw:=
 ⟨λj=>Z6j _ _ _ _ _ _ s.bj,λj=>Y7 s.bj⟩
def RB{w W:Z4}{n:Zd}{a:Z9}{g:Hp}{y:Z3}{l:Nat}(s:MSt w W n a g y l){v0 v1 v2 v3 v4 v5 v6 v7 v8 v9:Za}:U7 w (g,0) (.returned<|.tuple #[Zx g y,.int .i64 0])<|(((((((((W.setCell ⟨xz (xj w)+1+1,0,U⟩ v0).setCell ⟨xz (xj w)+1+1,1,U⟩ v1).setCell ⟨xz (xj w)+1+1,2,U⟩ v2).setCell ⟨xz (xj w)+1+1,3,U⟩ v3).setCell ⟨xz (xj w)+1+1,4,U⟩ v4).setCell ⟨xz (xj w)+1+1,5,U⟩ v5).setCell ⟨xz (xj w)+1+1,6,U⟩ v6).setCell ⟨xz (xj w)+1+1,7,U⟩ v7).setCell ⟨xz (xj w)+1+1,8,U⟩ v8).setCell ⟨xz (xj w)+1+1,9,U⟩ v9:=by
 refine⟨y,rfl,XJ s.az Z0,λj d=> ?_⟩;refine U1 (k:=.u64) (Yx (s.own.own j d) λc h=>XK (by have:=((s.own.own j d).lt c h).1;omega)) λc o f=>⟨Z0,f⟩
def Ss{w W:Z4}(a:Below (xz<|xj w) w W)(e:Int){v0 v1 v2 v3 v4 v5 v6 v7 v8 v9:Za}:U7 w (Hp.zero,e) (.returned<|.tuple #[.agg ZE,.int .i64 e])<|(((((((((W.setCell ⟨xz (xj w)+1+1,0,U⟩ v0).setCell ⟨xz (xj w)+1+1,1,U⟩ v1).setCell ⟨xz (xj w)+1+1,2,U⟩ v2).setCell ⟨xz (xj w)+1+1,3,U⟩ v3).setCell ⟨xz (xj w)+1+1,4,U⟩ v4).setCell ⟨xz (xj w)+1+1,5,U⟩ v5).setCell ⟨xz (xj w)+1+1,6,U⟩ v6).setCell ⟨xz (xj w)+1+1,7,U⟩ v7).setCell ⟨xz (xj w)+1+1,8,U⟩ v8).setCell ⟨xz (xj w)+1+1,9,U⟩ v9:=
 ⟨λ_=>.slice U 0 0,rfl,XJ a Z0,UC _ _⟩
def jU{w W:Z4}{T:Zd}{p:Z9}{h:Hp}{y:Z3}{H:Nat}(st:MSt w W T p h y H)(C:h.ok)(G:ZC (Zv h)=xk){w0 u:Int}{j a n m:Nat}(O:ObAt h w0 j a n m u):
  Calls Tryz.prog 115 #[Zx h y,.int .u64 w0] W λe x=>∃g gc,y j=.slice (J ⟨g,0,U⟩) (I<|Zu h j) gc/\zy W g (a+1) (a+1+m) m (n-m) e x:=by
 have F:j<5:=by obtain rfl|rfl:=O.iw<;>omega
 have f:=st.own.own j F;obtain⟨L,K,l⟩:=ZV f;obtain⟨g,B⟩:=T5 f l (by have:=O.ah;omega);subst B;have d:=f;rw[l]at d;have r:=f.lt g (by rw[l];rfl);have q:=Vn d O.Y;have o:=Dg d (by have:=O.ah;omega);rw[O.eq];refine(Fj W (λc=>xz (xj w)+3<=c/\c<xz (xj W)) (λc q=>q.2) h C y (λi D=>U1 (k:=.u64) (st.own.own i D) λc z A=>⟨z,A⟩) G O.iw O.Y O.un O.mn O.ah (by rw[<-O.eq];exact O.u64) (off:=0) l (by rw[Z6V];exact q) r o).mono ?_;rintro e x t;rw[Z6V,Z6V]at t;exact⟨g,K,l,t⟩
def Z0n(w:Z4)(G:Z6)(hG:∀b,G b->b<xz (xj w))(h:Hp)(hh:h.ok)(a6:Z3)(hs:∀j,j<5->Rd w G (.sl<|(Zu h j).map vu) (a6 j))(hl:ZC (Zv h)=xk){k rr z pp v i w0:Int}{s:Nat}(hr:h.E[s]?=J w0)(hv:Zy v)(hi:ZP i)
  {res:Hp×Int} (hO:(w0=0/\res=(Hp.zero,6))\/∃j a n m u,ObAt h w0 j a n m u/\((0<=i/\i< (n-m:Nat)/\res=(ZM h j (a+1+m+i.toNat) v,0))\/(¬(0<=i/\i< (n-m:Nat))/\res=(Hp.zero,1)))):
  Calls Tryz.prog 120 #[.agg<|Yu k rr s i z pp v,Zx h a6] w (U7 w res):=by
 obtain⟨h0,l⟩|⟨j,a,n,m,u,O,Q⟩:=hO;case' inl=>have H0:=Z6e h0
 case' inl=>have D:=Z6e l
 case' inl=>clear h0 l
 case' inr=>have HO:=Z6e O
 case' inr=>have a9:=Z6e Q
 case' inr=>clear O Q
 all_goals
  have HS:=Z6e hs;have HH:=Z6e hh;have HR:=Z6e hr;clear hs hh hr;unfold Zx Yu;go_enter Tryz.func120,Tryz.ntmps120
  go_wp2_with (first
   |(go_at_call 18;go_loud (refine(TH _ G (λb hb=>by have:=hG b hb;simp;omega) h HH.out a6<|λj hj=>(HS.out j hj).keep (λb hb=>Z5x) (λ_ h=>h)).mono ?_;rintro e w5 ⟨y,rfl,b1,x⟩;obtain⟨a0,q0,e0⟩:=ZV<|x.own 0 Z0;obtain⟨a1,q1,e1⟩:=ZV<|x.own 1 Z0;obtain⟨a2,q2,e2⟩:=ZV<|x.own 2 Z0;obtain⟨a3,q3,e3⟩:=ZV<|x.own 3 Z0;obtain⟨a4,q4,P⟩:=ZV<|x.own 4 Z0;have a8:=Z6e<|And.intro b1 x;clear b1 x;unfold Zx;rw[e0,e1,e2,e3,P])))
  obtain⟨W6,a5⟩:∃W6,w5.alloc (.cells #[.int .u64 h.V,.int .i64 h.cap,.int .i64 h.to,.bool h.M,.int .i64 h.O,.slice a0 (I<|Zu h 0) q0,.slice a1 (I<|Zu h 1) q1,.slice a2 (I<|Zu h 2) q2,.slice a3 (I<|Zu h 3) q3,.slice a4 (I<|Zu h 4) q4] 31)=W6:=⟨_,rfl⟩;have a7:MSt w W6 122 #[.int .i64 k,.int .i64 rr,.int .i64 s,.int .i64 i,.int .i64 z,.int .i64 pp,.int .u64 v] h y (xz<|xj w5):=Jc a8.out.1 a8.out.2 (by rw[e0,e1,e2,e3,P];exact a5);have e5:s< I (Zu h 4):=(Z6d.1 HR.out).1;obtain⟨g4,d1⟩:=T5 (a7.own.own 4 Z0) P Z0;subst d1;have E:=Z6e<|And.intro e0<|And.intro e1<|And.intro e2<|And.intro e3 P
  have Z:∀u,MSt w u 122 #[.int .i64 k,.int .i64 rr,.int .i64 s,.int .i64 i,.int .i64 z,.int .i64 pp,.int .u64 v] h y (xz<|xj w5)->
    (λL=>(∀j,L.cell? ⟨xz<|xj w,j,U⟩=(#[.int .i64 k,.int .i64 rr,.int .i64 s,.int .i64 i,.int .i64 z,.int .i64 pp,.int .u64 v]:Array Value)[j]?)/\(∀j,L.cell? ⟨xz<|xj w5,j,U⟩=(#[.int .u64 h.V,.int .i64 h.cap,.int .i64 h.to,.bool h.M,.int .i64 h.O,.slice a0 (I<|Zu h 0) q0,.slice a1 (I<|Zu h 1) q1,.slice a2 (I<|Zu h 2) q2,.slice a3 (I<|Zu h 3) q3,.slice (J ⟨g4,0,U⟩) (I<|Zu h 4) q4]:Array Value)[j]?)/\
     L.cell? ⟨g4,s,U⟩=J (.int .u64 w0)/\MSt w L 122 #[.int .i64 k,.int .i64 rr,.int .i64 s,.int .i64 i,.int .i64 z,.int .i64 pp,.int .u64 v] h y (xz<|xj w5)) u:=λu st=>by
   obtain⟨f1,f2⟩:=st.F;obtain⟨e0,e1,e2,e3,P⟩:=E.out;rw[e0,e1,e2,e3,P]at f2;have h4:=st.own.own 4 Z0;rw[P]at h4;exact⟨f1,f2,Vn h4 HR.out,st⟩
  have b0:=Z6e Z;have C:=Z W6.drew a7.drew;rw[a5];clear a7 Z e0 e1 e2 e3 P a5
  go_region_held3 (λL=>(∀j,L.cell? ⟨xz<|xj w,j,U⟩=(#[.int .i64 k,.int .i64 rr,.int .i64 s,.int .i64 i,.int .i64 z,.int .i64 pp,.int .u64 v]:Array Value)[j]?)/\(∀j,L.cell? ⟨xz<|xj w5,j,U⟩=(#[.int .u64 h.V,.int .i64 h.cap,.int .i64 h.to,.bool h.M,.int .i64 h.O,.slice a0 (I<|Zu h 0) q0,.slice a1 (I<|Zu h 1) q1,.slice a2 (I<|Zu h 2) q2,.slice a3 (I<|Zu h 3) q3,.slice (J ⟨g4,0,U⟩) (I<|Zu h 4) q4]:Array Value)[j]?)/\
     L.cell? ⟨g4,s,U⟩=J (.int .u64 w0)/\MSt w L 122 #[.int .i64 k,.int .i64 rr,.int .i64 s,.int .i64 i,.int .i64 z,.int .i64 pp,.int .u64 v] h y (xz<|xj w5)) (first|exact C|assumption)
   (first
    |(go_at_call 115;have A:=jT (w0:=w0) W6.drew h y H0.out;unfold Zx at A;rw[E.out.1,E.out.2.1,E.out.2.2.1,E.out.2.2.2.1,E.out.2.2.2.2]at A;refine A.mono ?_;rintro e d6 ⟨rfl,q⟩;have Y:=b0.out _<|C.2.2.2.below q)
    |(go_at_call 115;have A:=jU C.2.2.2 HH.out hl HO.out;unfold Zx at A;rw[E.out.1,E.out.2.1,E.out.2.2.1,E.out.2.2.2.1,E.out.2.2.2.2]at A;refine A.mono ?_;rintro e d6 ⟨g,gc,b2,p1,l1,c1,p2,l2,c2,rfl,d4,d5,b8,b9,q⟩;have Y:=b0.out _<|C.2.2.2.below q))
 .obtain⟨f1,f2,f3,f⟩:=Y;have o:=Z6e f;have S:=Z6e<|And.intro b2<|And.intro b8<|And.intro b9<|And.intro d4 d5;clear C f b2 b8 b9 q f3;rename_i t;clear t;have b6:n-m<=1000000:=by have:=VY HH.out j;have:=HO.out.ah;omega
  obtain⟨b3,d2,l⟩|⟨b7,l⟩:=a9.out
  .have T:=λW=>Qt W hi (p:=p2) (n:=n-m) (c:=c2) b6;rw[Z7H<|And.intro b3 d2]at T;have X:=Z6e T;obtain⟨i',rfl⟩:=Z6q b3;have c0:p2=J ⟨g,a+1+m,U⟩:=S.out.2.2.1 Z0;subst c0;clear T;obtain⟨idx,b4⟩:∃idx,a+1+m+i'=idx:=⟨_,rfl⟩;have d3:idx< I (Zu h j):=by have:=HO.out.ah;have:=HO.out.mn;omega
   have b5:j<5:=Z61;rw[show a+1+m+Int.toNat (i':Int)=idx by omega]at l;have D:=Z6e l;have c7:=Z6e b4;clear l
   go_wp2_with (first
    |(go_at_call 116;go_loud (refine(X.out _).mono ?_;rintro e d7 ⟨rfl,r⟩;have d:=o.out.below r;obtain⟨k1,k2⟩:=d.F;have K:=d.own.own j b5;rw[S.out.1]at K;have d8:=Vn K<|Z6b d3;have d9:=S5 K (i:=idx) (by omega);have B:=d.put b5 (i:=idx) S.out.1 v;obtain⟨k3,k4⟩:=B.F;obtain⟨r3,r4⟩:=B.R;obtain⟨s1,s2,s3,s4,s5⟩:=Wq h j idx v;rw[s1,s2,s3,s4,s5,E.out.1,E.out.2.1,E.out.2.2.1,E.out.2.2.2.1,E.out.2.2.2.2]at k4;have N:=Z6e B;clear d B r K s1 s2 s3 s4 s5 k2)))
   rw[D.out];have d0:=SE h j idx v y;have H:=Xo N.out.bj (.int .u64 h.V) (.int .i64 h.cap) (.int .i64 h.to) (.bool h.M) (.int .i64 h.O) (.slice a0 (I<|Zu h 0) q0) (.slice a1 (I<|Zu h 1) q1) (.slice a2 (I<|Zu h 2) q2) (.slice a3 (I<|Zu h 3) q3)<|.slice (J ⟨g4,0,U⟩) (I<|Zu h 4) q4;refine Z6x (v:=.tuple #[Zx (ZM h j idx v) y,.int .i64 0]) ?_ rfl ?_
   .rw[d0];unfold Zx;rw[E.out.1,E.out.2.1,E.out.2.2.1,E.out.2.2.2.1,E.out.2.2.2.2];simp[results,Tryz.results120,go_sem,H,c7.out]
   exact RB N.out
  .have T:=λW=>Qt W hi (p:=p2) (n:=n-m) (c:=c2) b6;rw[Z8t b7]at T;have X:=Z6e T;have D:=Z6e l;clear T l b7
   go_wp2_with (first
    |(go_at_call 116;go_loud (refine(X.out _).mono ?_;rintro e d7 ⟨rfl,r⟩;have d:=o.out.below r;obtain⟨k1,k2⟩:=d.F;obtain⟨r3,r4⟩:=d.R;have M:=Z6e d;clear d r)))
   rw[D.out];have H:=Xo M.out.bj (.int .u64 0) (.int .i64 0) (.int .i64 0) (.bool xw) (.int .i64 0) (.slice U 0 0) (.slice U 0 0) (.slice U 0 0) (.slice U 0 0)<|.slice U 0 0;refine Z6x (v:=.tuple #[.agg ZE,.int .i64 1]) ?_ rfl ?_
   .simp[results,Tryz.results120,go_sem,H,ZE]
   exact Ss M.out.az 1
 .obtain⟨f1,f2,f3,f⟩:=Y;obtain⟨r3,r4⟩:=f.R;have o:=Z6e f;clear C f q f3;rename_i t;clear t;go_wp2;rw[D.out];have H:=Xo o.out.bj (.int .u64 0) (.int .i64 0) (.int .i64 0) (.bool xw) (.int .i64 0) (.slice U 0 0) (.slice U 0 0) (.slice U 0 0) (.slice U 0 0)<|.slice U 0 0;refine Z6x (v:=.tuple #[.agg ZE,.int .i64 6]) ?_ rfl ?_
  .simp[results,Tryz.results120,go_sem,H,ZE]
  exact Ss o.out.az 6
end Vm
end
section
namespace Vm
open Go Go.Proofs
def Dl:Fn:=⟨5,[0,1,2,3,6],pQ [pR [(1,pS 0 2),pV 2<|pU 0,pV 3<|pI 0],pQ [pC [pK 5 71 [.mm 1 0 2]] [pV 4<|.un .not<|.s 5]]<|pw (.s 4)<|px [pV 2<|pU 0,pV 3<|pI 1]]<|px [pV 2<|pa (.cb .shl (.bo .u64<|.m 1 0)<|pU 1)<|.cb .shl (.bo .u64<|.m 1 1)<|pU 17,pV 3<|pI 0],[(2,.v),(3,.v)]⟩
def Hl:ZS Tryz.prog fresh sig [.fz] [] Tryz.f109=J Dl:=Z2
def Dm:Fn:=⟨4,[0,1,2,4],pQ [pR [(2,pS 0 10),pV 3 pF],pC [pK 4 112 [.mm 2 0 10]] [pV 3<|pL (pa (pa (pa (.len<|.m 2 5)<|.len<|.m 2 6)<|.s 4)<|.s 1)<|.m 2 1]] .ret,[(3,.v)]⟩
def Hm:ZS Tryz.prog fresh sig [.fz,.fz] [] Tryz.f110=J Dm:=Z2
def qB:Fn:=⟨15,[0,1,2,4,5,6,7,18,8,28,9,34,10,47,11],pQ [pR [(2,pS 0 10),pV 3 pN,pV 4 pN,pV 5<|pI 0],pC [pK 15 29 [.s 1]] [pV 5<|.ext (.s 15) 1,pV 6<|.ext (.s 15) 0],pi 7 (pn (.s 5)<|pI 0)<|px [],pC [pK 16 19 [.mm 2 0 10],pK 17 30 [.s 16,.s 6]] [pV 5<|.ext (.s 17) 1,(8,pM (.sz (.ext (.s 17) 0) 2) 2)],pi 9 (pn (.s 5)<|pI 0)<|px [],pR [pV 10<|.m 2 5],pi 11 (pe (.m 8 0)<|pI 2)<|pR [pV 10<|.m 2 6],pC [pK 18 55 [.ac (.bc (.s 10) (.m 8 1) 1) 0]] [pV 5<|.ext (.s 18) 1,(12,pM (.sz (.ext (.s 18) 0) 2) 2)],pi 13 (pn (.s 5)<|pI 0)<|px [],pR [pV 14<|pa (.m 8 1)<|pI 1]]<|px [pV 3<|.ig (.s 10) (.s 14) (pa (.s 14)<|.m 12 1) 1,pV 4<|.ig (.s 10) (pa (.s 14)<|.m 12 1) (pa (.s 14)<|.m 12 0) 1,pV 5<|pI 0],[(3,.v),(4,.v),(5,.v)]⟩
def AX:ZS Tryz.prog fresh sig [.fz,.fz] [] Tryz.f115=J qB:=Z2
def Do:Fn:=⟨3,[0,1,4],pQ [pR [pV 2 pF],.be ⟨[.lt 3 []<|pg (.s 0)<|pI 0],[([(3,xk)],pl (.s 0)<|.len<|.s 1)],[pV 2<|.ite (.s 3) (pl (.s 0)<|.len<|.s 1) pF]⟩] .ret,[(2,.v)]⟩
def Ho:ZS Tryz.prog fresh sig [.fz,.fz] [] Tryz.f116=J Do:=Z2
def Dp:Fn:=⟨11,[0,1,2,3,4,5,6,7,8,23,31],pQ [pR [(2,pS 0 7),(3,pS 1 10),(4,pZ),pV 5<|pI 0],pC [pK 11 115 [.mm 3 0 10,.ac (.bc (.m 3 9) (.m 2 2) 1) 0]] [pV 6<|.ext (.s 11) 0,pV 7<|.ext (.s 11) 1,pV 8<|.ext (.s 11) 2],pi 9 (pn (.s 8)<|pI 0)<|pQ [.be ⟨[],[([],pY)],[(4,pZ),pV 5<|.s 8]⟩] .ret,pQ [pC [pK 12 116 [.m 2 3,.s 7]] [pV 10<|.un .not<|.s 12]]<|pw (.s 10)<|pQ [.be ⟨[],[([],pY)],[(4,pZ),pV 5<|pI 1]⟩] .ret,pC [pK 13 18 [.mm 3 0 10]] [(4,pS 13 10),pV 5<|pI 0]] .ret,[(4,(.ag 10)),(5,.v)]⟩
def Hq:ZS Tryz.prog fresh sig [.fz,.fz] [] Tryz.f117=J Dp:=Z2
def Dq:Fn:=⟨9,[0,1,2,3,4,5,6,7,22],pQ [pR [(2,pS 0 7),(3,pS 1 10),pV 4<|pU 0],pC [pK 9 115 [.mm 3 0 10,.ac (.bc (.m 3 9) (.m 2 2) 1) 0]] [pV 5<|.ext (.s 9) 0,pV 6<|.ext (.s 9) 1,pV 7<|.ext (.s 9) 2],pi 8 (pn (.s 7)<|pI 0)<|px [pV 4<|pU 0]]<|px [pV 4<|.ac (.bc (.s 6) (.m 2 3) 1) 0],[(4,.v)]⟩
def Hr:ZS Tryz.prog fresh sig [.fz,.fz] [] Tryz.f118=J Dq:=Z2
def MP{s p:Int}:VC Tryz.prog 109 xw [Rc s p]<|.am [vu (Xg s p).1,vi (Xg s p).2]:=by
 refine ZY Tryz.func109 follows Z2 Hl rfl ?_;simp[Dl];refine Zz jx Z1 ?_;cases h:Yo s p;simp[Xg,h];obtain⟨q,r,t,u⟩:=Yq.1 h;have a:=ZO s Z0 Z0;have d:=ZO p Z0 Z0;have n:(2:Int) ^ min 1 IntKind.u64.bits=2:=Z5q;have o:(2:Int) ^ min 17 IntKind.u64.bits=131072:=Z5q;have f:=ZO (p*131072) Z0 Z0;have g:=ZO (s*2) Z0 Z0;have j:=ZO (s*2+p*131072) Z0 Z0;have k:s*2+p*131072=2*(s+65536*p):=Z0;have l:=ZO (2*(s+65536*p)) Z0 Z0;simp[Xg,h,X2,a,d,n,o,f,g,j,k,l]
def roomP(h:Hp)(p:Pts)(n:Int):Bool:=decide ((I h.H:Int)+I h.aa+Yt p+n<=h.cap)
def Rt.nj{h:Hp}{p:Pts}(r:Rt h p):h.cap<=4096:=by
 exact(Xe.1 r.al).2.1
def u9{h:Hp}(j:h.ok){p:Pts}(r:Rt h p){n:Int}(o:0<=n/\n<=1000):VC Tryz.prog 110 xw [ZF h,vi n]<|.bool<|roomP h p n:=by
 refine ZY Tryz.func110 follows Z2 Hm rfl ?_;have a:=Gg j;rw[r.sk]at a;have k:=r.cx;have l:=r.nj;simp only[ZF]at a⊢;simp[Dm];refine Zz a Z1 ?_;have d:=ZA ((I h.H:Int)+I h.aa) Z0 Z0;have f:=ZA ((I h.H:Int)+I h.aa+(Yt p:Nat)) Z0 Z0;have g:=ZA ((I h.H:Int)+I h.aa+(Yt p:Nat)+n) Z0 Z0;simp[d,f,g,roomP]
def Z1t{i:Int}{l:Z5}:VC Tryz.prog 116 xw [vi i,.sl<|l.map vu]<|.bool<|decide (0<=i/\i<I l):=by
 refine ZY Tryz.func116 follows Z2 Ho rfl ?_;by_cases a:0<=i<;>by_cases d:i<I l<;>simp[Do,a,d]
def Ff(h:Hp)(j a m:Nat):List Int:=((Zu h j).take<|a+1+m).drop<|a+1
def Re(h:Hp)(j a n m:Nat):List Int:=((Zu h j).take<|a+1+n).drop<|a+1+m
def Fk{h:Hp}(l:h.ok)(y:ZC (Zv h)=xk){w0 u:Int}{j a n m:Nat}(O:ObAt h w0 j a n m u):
  VC Tryz.prog 115 xw [ZF h,vu w0] (.am [.sl<|(Ff h j a m).map vu,.sl<|(Re h j a n m).map vu,vi 0]):=by
 refine ZY Tryz.func115 follows Z2 AX rfl ?_;have F:=O.ah;have L:ZX (Zv h) ((j:Int)+1)=I (Zu h j):=by
  obtain rfl|rfl:=O.iw<;>rfl
 have o:=WM y (k:=(j:Int)+1) (a:=a) Z0;have r:=Td y (k:=(j:Int)+1) (a:=a) (by have:=O.iw;omega) Z0;have z:=Sn O.u64;have g:=Kk O.u64;rw[O.eq,o]at z g;have B:=yf l.al g;rw[r]at B;have t:Zy u:=by
  obtain rfl|rfl:=O.iw;exact l.dm u<|Z6n O.Y;exact l.db u<|Z6n O.Y
 have C:=Aa t;rw[O.un]at C;have A:=zo (h:=h);have H:=VY l j;have K:=O.mn;have D:IntKind.i64.wrap ((a:Int)+1)=((a+1:Nat):Int):=ZA _ Z0 Z0;have w:IntKind.i64.wrap (((a+1:Nat):Int)+m)=((a+1+m:Nat):Int):=ZA _ Z0 Z0;have x:IntKind.i64.wrap (((a+1:Nat):Int)+n)=((a+1+n:Nat):Int):=ZA _ Z0 Z0;generalize G:a+1=f at D w x⊢;generalize p:f+m=M at w⊢;generalize q:f+n=N at x⊢;rw[O.eq];simp only[ZF]at A⊢;simp[qB];refine Zz z Z1 ?_;simp;refine Zz A Z1 ?_;simp;refine Zz B Z1 ?_;have d:=O.Y;unfold Ff Re;obtain rfl|rfl:=O.iw;all_goals
  simp[Zu]at d F⊢;have P:=Yk d;simp[d];refine Zz C Z1 ?_;simp[D,w,x];subst G p q;exact⟨Z0,Z0,rfl,rfl⟩
def Z0D{h:Hp}:VC Tryz.prog 115 xw [ZF h,vu 0]<|.am [.sl [],.sl [],vi 6]:=by
 refine ZY Tryz.func115 follows Z2 AX rfl ?_;have a:=Sn (w:=0) (by unfold Zy;omega);rw[show adr 0=(0,6)by decide+kernel]at a;simp[qB,ZF];refine Zz a Z1 ?_;simp
def OH{h:Hp}(u:h.ok):VC Tryz.prog 18 xw [ZF h]<|ZF h:=by
 refine⟨Z2,λw G l q d f=> ?_⟩;have C:=f 0 _ rfl;have t:l=#[l.getD 0 xy]:=by
  have a:l.size=1:=d;apply Z8F;simp[a];intro i n o;have y:i<1:=Z0
  match i,y with
  |0,_=>simp[Array.getD,a]
 obtain⟨g,p,B⟩:=J1 C;rw[t,p];refine(TH w G q h u g B).mono ?_;rintro e D ⟨x,rfl,r,A⟩;exact⟨_,rfl,r,UR λj z=>U1 (k:=.u64) (A.own j z) λc n o=>.inr ⟨n,o⟩⟩
def YI(k r s i z p v:Int):V:=.agg [vi k,vi r,vi s,vi i,vi z,vi p,vu v]
def BM{h:Hp}(q:h.ok)(B:ZC (Zv h)=xk){k r i z p v w0:Int}{s:Nat}(t:h.E[s]?=J w0)
  {res:Hp×Int} (A:(w0=0/\res=(Hp.zero,6))\/∃j a n m u,ObAt h w0 j a n m u/\((0<=i/\i< (n-m:Nat)/\res=(h,0))\/(¬(0<=i/\i< (n-m:Nat))/\res=(Hp.zero,1)))):
  VC Tryz.prog 117 xw [YI k r s i z p v,ZF h] (.am [ZF res.1,vi res.2]):=by
 refine ZY Tryz.func117 follows Z2 Hq rfl ?_;have C:=(Z6d.1 t).1;have D:=q.E;simp[Dp,ZF,YI,t];obtain⟨rfl,rfl⟩|⟨j,a,n,m,u,O,f⟩:=A;have g:=Z0D (h:=h);simp only[ZF]at g;refine Zz g Z1 ?_;simp[Hp.zero];have g:=Fk q B O;simp only[ZF]at g;refine Zz g Z1 ?_;simp;have d:I (Re h j a n m)=n-m:=by have:=O.ah;have:=O.mn;simp[Re];omega
 have w:=Z1t (i:=i) (l:=Re h j a n m);rw[d]at w;refine Zz w Z1 ?_;obtain⟨o,y,rfl⟩|⟨o,rfl⟩:=f;rw[Z7H<|And.intro o y];have x:=OH q;simp only[ZF]at x;simp;refine Zz x Z1 ?_;simp;rw[Z8t o];simp[Hp.zero]
def Z18{h:Hp}(o:h.ok)(q:ZC (Zv h)=xk){k r z p v w0 u y:Int}{s i j a n m:Nat}(f:h.E[s]?=J w0)(O:ObAt h w0 j a n m u)(w:(Zu h j)[a+1+m+i]?=J y)(x:i<n-m):
  VC Tryz.prog 118 xw [YI k r s i z p v,ZF h] (vu y):=by
 refine ZY Tryz.func118 follows Z2 Hr rfl ?_;have t:=(Z6d.1 f).1;simp[Dq,ZF,YI,f];have g:=Fk o q O;simp only[ZF]at g;refine Zz g Z1 ?_;have d:(Re h j a n m)[i]?=J y:=by
  unfold Re;rw[Z6C,Z6O,Z6k Z0];exact w
 have l:=(Z6d.1 d).1;simp[d]
end Vm
end
section
namespace Vm
open Go Go.Proofs Go.RowKit
def yD{g:Hp}{x:Z3}(h:∀j,j<5->∃a q,x j=.slice a (I<|Zu g j) q):∃(a:Nat->Option Addr) (q:Nat->Nat),Yc g x=#[.int .u64 g.V,.int .i64 g.cap,.int .i64 g.to,.bool g.M,.int .i64 g.O,.slice (a 0) (I<|Zu g 0)<|q 0,.slice (a 1) (I<|Zu g 1)<|q 1,.slice (a 2) (I<|Zu g 2)<|q 2,.slice (a 3) (I<|Zu g 3)<|q 3,.slice (a 4) (I<|Zu g 4)<|q 4]/\∀j,j<5->x j=.slice (a j) (I<|Zu g j) (q j):=by
 have:∀j,∃p:Option Addr×Nat,j<5->x j=.slice p.1 (I<|Zu g j) p.2:=λj=>by
  by_cases d:j<5;obtain⟨a,q,e⟩:=h j d;exact⟨(a,q),λ_=>e⟩;exact⟨(U,0),λh=>absurd h d⟩
 obtain⟨f,e⟩:=Z9o this;exact⟨λj=>(f j).1,λj=>(f j).2,by simp[Yc,e],e⟩
def Gp(w:Z4)(G:Z6)(hG:∀b,G b->b<xz (xj w))(h:Hp)(hh:h.ok)(O:Z3)(hs:∀j,j<5->Rd w G (.sl<|(Zu h j).map vu) (O j)){p:Pts}(r:Rt h p)(hc:h.M=xw):
  Calls Tryz.prog 111 #[Zx h O] w (Gn (0<xq h.E) w (Xb h,0)):=by
 have hR:∀W,Below (xz<|xj w) w W->Calls Tryz.prog 17 #[Zx h O] W λe w'=>e=.returned (.bool<|Yp h)/\Below (xz<|xj W) W w':=λW B=>
  JJ (w:=W) (G:=G) (x:=O) hh (λb T=>Z6o (hG b T) B.size) (λj n=>(hs j n).keep (λb T=>B.block b<|hG b T) λ_ q=>q)
 rw[r.right]at hR;unfold Zx at hR;rw[hc]at hR;have HR:=Z6e hR;have HS:=Z6e hs;have HH:=Z6e hh;have d1:=Z6e r;have K:=Z6e hc;have g2:h.to=0\/h.to=1:=by have:=Xe.1 r.al;exact this.2.2.2.2.1
 have j7:=ZA (1-h.to) Z0 Z0;clear hR hs hh r g2;unfold Zx;rw[hc];clear hc;go_enter Tryz.func111,Tryz.ntmps111;go_wp2;refine Z0j 0 (λa W=>∃(c k:Nat) (x:Z3),a.defers=[]/\a.tmps.size=72/\a.tmps.getD 2 xy=.pointer (J ⟨xz (xj w)+1,0,U⟩)/\a.tmps.getD 4 xy=.pointer (J ⟨c,0,U⟩)/\a.tmps.getD 5 xy=.int .i64 k/\k<=xq h.E/\FlI w W c (0<k) (flipL (flip0 h) k) x) (λa _=>xq h.E- (intOf<|a.tmps.getD 5 xy).toNat) rfl ?_ ?_
 .rintro a W ⟨c,k,x,hd,c2,h2,h4,h5,hk,HI⟩;obtain⟨t,d⟩:=a;simp only at hd c2 h2 h4 h5;subst hd;obtain⟨u,hu⟩:∃u:Z3,∀i,t.getD i xy=u i:=⟨λi=>t.getD i xy,λ_=>rfl⟩
  have et:t=#[u 0,u 1,u 2,u 3,u 4,u 5,u 6,u 7,u 8,u 9,u 10,u 11,u 12,u 13,u 14,u 15,u 16,u 17,u 18,u 19,u 20,u 21,u 22,u 23,u 24,u 25,u 26,u 27,u 28,u 29,u 30,u 31,u 32,u 33,u 34,u 35,u 36,u 37,u 38,u 39,u 40,u 41,u 42,u 43,u 44,u 45,u 46,u 47,u 48,u 49,u 50,u 51,u 52,u 53,u 54,u 55,u 56,u 57,u 58,u 59,u 60,u 61,u 62,u 63,u 64,u 65,u 66,u 67,u 68,u 69,u 70,u 71]:=(AF c2).trans (by
   have D:(λi=>t.getD i xy)=u:=funext hu;rw[D];rfl)
  rw[hu]at h2 h4 h5;rw[h2,h4,h5]at et;clear hu c2 h2 h4 h5;subst et;have A:=Z6e HI;clear HI;by_cases b8:k<xq h.E
  .have g2:h.to=0\/h.to=1:=by have:=Xe.1 d1.out.al;exact this.2.2.2.2.1
   obtain⟨q,I⟩:=QS d1.out K.out k Z0;obtain⟨⟨fv,P,q',f⟩,_⟩:=BD d1.out b8 I;have f3:=yj HH.out g2 k;have a4:(flipL (flip0 h) k).E[k]?=J h.E[k]:=by rw[I.df k<|Z6i _];exact Z6b b8
   have c1:flipL (flip0 h) (k+1)= {P with E:=P.E.set k fv}:=by
    show Uh (flipL (flip0 h) k) k=_;unfold Uh;rw[a4,Z6K,f.fwd]
   have Y:(flipL (flip0 h) k).E.length=xq h.E:=I.len;have er:P.E=(flipL (flip0 h) k).E:=f.ext.E;have d6:P.ok/\Zy fv:=by have:=QV f3<|HH.out.cg _<|Z6E b8;rw[f.fwd]at this;exact this
   have d7:=f.fwd;have j0:=HH.out.cg _<|Z6E b8;clear I f;generalize flipL (flip0 h) k=g at*;generalize h.E[k]=u0 at*;obtain⟨gb,go,cap,d4,f6,h7⟩:=Tq (A.out.rd 4 Z0) a4;rw[show xq (Zu g 4)=(xq g.E) from rfl,Y]at d4;have hF:∀W',Below (xz<|xj W) W W'->Calls Tryz.prog 43 #[.agg #[.int .u64 g.V,.int .i64 g.cap,.int .i64 g.to,.bool g.M,.int .i64 g.O,x 0,x 1,x 2,x 3,.slice (J ⟨gb,go,U⟩) (xq h.E) cap],.int .u64 u0] W' (FwdPost W' (fv,P,0)):=λW' B=>by
    have:=zm W' (λb=>xz (xj w)+2<=b/\b<xz (xj W)/\b≠c) (λb T=>Z6o T.2.1 B.size) g f3 x (λj n=>(A.out.rd j n).keep (λb T=>B.block b T.2.1) λ_ q=>q) u0 j0;rw[d7]at this;unfold Zx at this;rw[d4]at this;exact this
   have HF:=Z6e hF;have Q:=A.out.nb;unfold Yc at Q;rw[d4]at Q;have yc:∀j,W.cell? ⟨c,j,U⟩=(#[.int .u64 g.V,.int .i64 g.cap,.int .i64 g.to,.bool g.M,.int .i64 g.O,x 0,x 1,x 2,x 3,.slice (J ⟨gb,go,U⟩) (xq h.E) cap]:Array Value)[j]? :=λj=>Z6j _ _ _ _ _ _ Q;have f7:=ZL Q;have j2:((k:Int)< (xq h.E:Int))=True:=Z7G Z0;have HM:=Z6e<|And.intro c1<|And.intro er<|And.intro d6<|And.intro h7<|And.intro Q Y;clear hF Q Y d4 c1 er d6 a4 d7 f3 h7;go_upto_region 8 with fail;refine EM [39,40,41,42,43,44,45,38,46,47,48,7,6,8] (FrC W (Mr c g (λj=>if j=4 then .slice (J ⟨gb,go,U⟩) (xq h.E) cap else x j) k (.pointer<|J ⟨gb,go+k,U⟩) u0) fv P) follows Z2 ⟨u,Z5v,?_⟩ ?_ ?_;exact⟨(Z6r _ _).drew,λi _ _ _ h=>Z5u,λh=>Z5u,λh=>Z5u,λh=>Z5u⟩
   .intro L i o v W1 ho hi n C;have M:=Z6e C;have hz:xz (xj W)<=xz (xj W1):=C.b.size;have yd:∀j,W1.cell? ⟨c,j,U⟩=(#[.int .u64 g.V,.int .i64 g.cap,.int .i64 g.to,.bool g.M,.int .i64 g.O,x 0,x 1,x 2,x 3,.slice (J ⟨gb,go,U⟩) (xq h.E) cap]:Array Value)[j]? :=λj=>(C.b.cell (p:=⟨c,j,U⟩) f7).trans<|yc j;have i3:W1.cell? ⟨gb,go+k,U⟩=J (.int .u64 u0):=(C.b.cell (p:=⟨gb,go+k,U⟩) HM.out.2.2.2.1.2.1).trans f6;clear C;have j4:i<15:=(Z6N.1 ho).1;simp only[Uu,T6,Z6R,Z7B,Z7C,Z8y,Z7A,Z87,Z7U];have:i=0\/i=1\/i=2\/i=3\/i=4\/i=5\/i=6\/i=7\/i=8\/i=9\/i=10\/i=11\/i=12\/i=13\/i=14:=Z0;obtain rfl|rfl|rfl|rfl|rfl|rfl|rfl|rfl|rfl|rfl|rfl|rfl|rfl|rfl|rfl:=this<;>cases ho
    .go_wp2;try simp only[QN]
     exact⟨_,rfl,M.out.pe 0 Z0 rfl⟩
    .go_wp2;try simp only[QN]
     exact⟨_,rfl,M.out.pe 1 Z0 rfl⟩
    .have e1:v 40=.pointer (J ⟨c,9,U⟩):=M.out.e 1 Z0<|n 1 Z5q;go_wp2;try simp only[QN]
     exact⟨_,by rw[<-e1];rfl,M.out.pe 2 Z0 rfl⟩
    .go_wp2;try simp only[QN]
     exact⟨_,rfl,M.out.pe 3 Z0 rfl⟩
    .have e2:v 41=.slice (J ⟨gb,go,U⟩) (xq h.E) cap:=M.out.e 2 Z0<|n 2 Z5q;have e3:v 42=.int .i64 k:=M.out.e 3 Z0<|n 3 Z5q;go_wp2;try simp only[QN]
     exact⟨_,by rw[<-e2,<-e3];rfl,M.out.pe 4 Z0 rfl⟩
    .have e4:v 43=.pointer (J ⟨gb,go+k,U⟩):=M.out.e 4 Z0<|n 4 Z5q;go_wp2;try simp only[QN]
     exact⟨_,by rw[<-e4];rfl,M.out.pe 5 Z0 rfl⟩
    .have D:v 39=.agg #[.int .u64 g.V,.int .i64 g.cap,.int .i64 g.to,.bool g.M,.int .i64 g.O,x 0,x 1,x 2,x 3,.slice (J ⟨gb,go,U⟩) (xq h.E) cap]:=M.out.e 0 Z0<|n 0 Z5q;have e5:v 44=.int .u64 u0:=M.out.e 5 Z0<|n 5 Z5q;go_wp2_with (go_at_call 43;refine(HF.out _ M.out.b).mono ?_;rintro e w9 ⟨x9,rfl,b6,i0⟩;have b0:=Z6e<|And.intro b6 i0;clear b6 i0)
     try simp only[QN]
     exact⟨_,by rw[<-D,<-e5];rfl,M.out.call b0.out.1 b0.out.2⟩
    .obtain⟨x9,D,o9⟩:=M.out.t 6 (.inl rfl)<|n 6 Z5q;have D:v 45=QT fv P x9:=D;have O9:=Z6e o9;clear o9;go_wp2;try simp only[QN]
     exact⟨_,by rw[<-D];rfl,M.out.pt O9.out⟩
    iterate 3
     focus
      obtain⟨x9,D,o9⟩:=M.out.t 7 (.inr rfl)<|n 7 Z5q;have D:v 38=.tuple #[.int .u64 fv,.agg<|Yc P x9,.int .i64 0]:=D;have O9:=Z6e o9;clear o9;go_wp2;try simp only[QN]
      first
      |exact⟨_,by rw[<-D];rfl,M.out.pf 8 (.inl rfl) rfl⟩
      |exact⟨_,by rw[<-D];rfl,M.out.pa O9.out⟩
      |exact⟨_,by rw[<-D];rfl,M.out.pz 10 (.inl rfl) rfl⟩
    .go_wp2;try simp only[QN]
     exact⟨_,rfl,M.out.alloc hi⟩
    .have D:v 46=.int .u64 fv:=M.out.f 8 (.inl rfl)<|n 8 Z5q;go_wp2;try simp only[QN]
     exact⟨_,by rw[<-D];rfl,M.out.pf 12 (.inr rfl) rfl⟩
    .obtain⟨c7,e7,d3,i8,N⟩:=M.out.new<|n 11 Z5q;obtain⟨x9,g8,o9⟩:=M.out.a<|n 9 Z5q;have N:=N hi;have y4:∀j,W1.cell? ⟨c7,j,U⟩=ZE[j]? :=λj=>Z6j _ _ _ _ _ _ N;unfold ZE at y4;have y5:∀j,W1.frozen? ⟨c7,j,U⟩=xw:=λj=>Y7 N;have H3:=Z6e N;obtain⟨a,q,H,_⟩:=yD λj n=>ZV<|o9.own.own j n;rw[H]at g8;have d0:=Z6e<|And.intro H o9;clear N o9 H;go_wp2;try simp only[QN]
     exact⟨_,by rw[<-e7,<-g8],M.out.store e7 d0.out.2 (n 11 Z5q) hi H3.out (λb B=>XK B) Z5T (by rw[d0.out.1];exact Qc H3.out)<|XJ (Z6r _ _) d3⟩
    .have D:v 48=.int .i64 0:=M.out.z 10 (.inl rfl)<|n 10 Z5q;go_wp2;try simp only[QN]
     exact⟨_,by rw[<-D];rfl,M.out.pz 14 (.inr rfl) rfl⟩
   .intro L v W1 hL C;have e6:v 6=.int .u64 fv:=C.f 12 (.inr rfl)<|hL 12 Z5q;have e8:v 8=.int .i64 0:=C.z 14 (.inr rfl)<|hL 14 Z5q;obtain⟨c7,x9,e7,f5,o9⟩:=C.put<|hL 13 Z5q;have a5:=C.b;have c2:=a5.size;have b7:xq P.E=xq h.E:=by rw[HM.out.2.1,HM.out.2.2.2.2.2]
    obtain⟨a,q,H,f4⟩:=yD λj n=>ZV<|o9.own.own j n;have f4:=f4 4 Z0;have h6:xq (Zu P 4)=xq h.E:=b7;obtain⟨g4,h0⟩:=T5 (o9.own.own 4 Z0) f4 Z0;rw[h0,h6]at f4 H;rw[H]at f5;have d2:=(a5.block c f7).trans HM.out.2.2.2.2.1;have y7:=λj=>Z6j _ _ j _ _ _ f5;have yd:=λj=>Z6j _ _ j _ _ _ d2;have fd:∀j,W1.frozen? ⟨c,j,U⟩=xw:=λj=>Y7 d2;have HO:=Z6e<|And.intro o9.own<|And.intro a5<|And.intro H<|And.intro f4<|And.intro b7 d2;have h0:xz (xj W)<=g4/\g4<xz (xj W1):=(o9.own.own 4 Z0).lt g4 (by rw[f4];rfl);clear C o9 a5 H f4 b7 f5 d2 hL;simp only[Uu,T6,Z6R,Z7B,Z7C,Z8y,Z7A,Z87,Z7U];go_upto_region 12 with fail;obtain⟨W2,a1⟩:∃W2,W2=Uv W1 c (.int .u64 P.V) (.int .i64 P.cap) (.int .i64 P.to) (.bool P.M) (.int .i64 P.O) (.slice (a 0) (xq<|Zu P 0)<|q 0) (.slice (a 1) (xq<|Zu P 1)<|q 1) (.slice (a 2) (xq<|Zu P 2)<|q 2) (.slice (a 3) (xq<|Zu P 3)<|q 3) (.slice (J ⟨g4,0,U⟩) (xq h.E)<|q 4):=⟨_,rfl⟩;unfold Uv at a1;rw[<-a1];have b5:W2.heap[c]?=J (.cells (Yc P x9) 31 (0,0)):=by rw[HO.out.2.2.1,a1];exact EE HO.out.2.2.2.2.2
    have b9:∀b,b≠c->W2.heap[b]?=W1.heap[b]? :=λb B=>by rw[a1];exact XK B
    have g3:xz (xj W2)=xz (xj W1):=by rw[a1];simp[World.setCell]
    have a6:Below (xz<|xj w) W1 W2:=by rw[a1];exact XJ (Z6r _ _) (by have:=A.out.le;omega)
    clear a1;have S:HOwn (xz<|xj W) W2 P x9:=⟨λj n=>Yx (HO.out.1.own j n) λb B=>b9 b (by have:=((HO.out.1.own j n).lt b B).1;omega),HO.out.1.apart⟩;have a8:=S.own 4 Z0;rw[HO.out.2.2.2.1,show xq (Zu P 4)=(xq h.E) from HO.out.2.2.2.2.1]at a8;have y2:=λj=>Z6j _ _ j _ _ _ b5;rw[HO.out.2.2.1]at y2;obtain⟨z0,i2⟩:∃z0,P.E[k]?=J z0:=⟨_,Z6b (by rw[HO.out.2.2.2.2.1];exact b8)⟩;have ec:W2.cell? ⟨g4,k,U⟩=J (.int .u64 z0):=by
     rw[a8.cellAt k Z0];simp[Y6,Zu,i2]
    have ef:W2.frozen? ⟨g4,k,U⟩=xw:=a8.frozenAt k;have wk:=ZA ((k:Int)+1) (by have:=HH.out.E;omega) (by have:=HH.out.E;omega);have HQ:=Z6e<|And.intro b5<|And.intro b9<|And.intro g3<|And.intro a6<|And.intro S a8;clear b5 b9 g3 a6 S a8 y7 yd fd i2;go_wp2;go_step3
    simp only[Exit.then,Exit.inBlock];refine⟨rfl,⟨c,k+1,x9,rfl,rfl,rfl,rfl,?_,Z0,?_⟩,?_⟩;show Value.int .i64 ((k:Int)+1)=_;congr 1;rw[HM.out.1];obtain⟨b5,b9,g3,a6,S,a8⟩:=HQ.out;have hp:HOwn (xz<|xj W) (W2.setCell ⟨g4,k,U⟩<|.int .u64 fv) {P with E:=P.E.set k fv} x9:=S.put (j:=4) (i:=k) (cap:=q 4) Z0 (by rw[HO.out.2.2.2.1,show xq (Zu P 4)=(xq h.E) from HO.out.2.2.2.2.1]) fv;have j1:g4≠c:=Z0;have X:∀b,b≠g4->(W2.setCell ⟨g4,k,U⟩<|.int .u64 fv).heap[b]?=W2.heap[b]? :=λb B=>Z6w _ _ _ _ B;have d5:xz (xj<|W2.setCell ⟨g4,k,U⟩<|.int .u64 fv)=xz (xj W2):=Z5T;have h8:=A.out.le;have a3:=A.out.rb;refine⟨(A.out.below.trans<|(HO.out.2.1.mono A.out.below.size).trans a6).setCell (by show xz (xj w)<=g4;have:=A.out.below.size;omega) _,?_,h8,?_,λj n=> ?_,λ_=> ?_⟩;have:=ZL a3;rw[X _ Z0,b9 _ Z0,HO.out.2.1.block _ this];exact a3;rw[X c Z0,b5];rfl;exact U1 (k:=.u64) (hp.own j n) λb h1 h2=>⟨Z0,h2,Z0⟩;exact⟨hp.nd Z0 λ_ _ _ _ _=>rfl,λj n b B=>by have:=((hp.own j n).lt b B).1;omega⟩;simp[intOf];omega
  .have i9:k=xq h.E:=Z0;subst i9;obtain⟨q,I⟩:=QS d1.out K.out (xq h.E)<|Z6i _;have Y:(flipL (flip0 h)<|xq h.E).E.length=xq h.E:=I.len;clear I;have H:Xb h=V1 (flipL (flip0 h)<|xq h.E):=rfl;rw[H];clear H;generalize flipL (flip0 h) (xq h.E)=g at*;obtain⟨a,q,g1,f0⟩:=yD (g:=g) (x:=x) λj n=>by simpa using Rd.cp (A.out.rd j n)
   have Y:xq (Zu g 4)=xq h.E:=Y;rw[Y]at g1;have Q:=A.out.nb;rw[g1]at Q;have a3:=A.out.rb;have h8:=A.out.le;have f7:=ZL Q;have yc:=λj=>Z6j _ _ j _ _ _ Q;have fc:∀j,W.frozen? ⟨c,j,U⟩=xw:=λj=>Y7 Q;have yz:∀j,W.cell? ⟨xz (xj w)+1,j,U⟩=ZE[j]? :=λj=>Z6j _ _ _ _ _ _ a3;unfold ZE at yz;have fz:∀j,W.frozen? ⟨xz (xj w)+1,j,U⟩=xw:=λj=>Y7 a3;have h9:¬xz (xj w)+1=c:=Z0;have j3:¬c=xz (xj w)+1:=Z0;have HP:=Z6e<|And.intro a3<|And.intro f0 Y;clear g1 Q a3 f0 Y;by_cases a7:0<xq g.H
   .have g0:(0< xq (Zu g 0))=True:=Z7G a7;go_wp2;simp only[Exit.jump];obtain⟨W3,R⟩:∃W3,W3=W.setCell ⟨c,3,U⟩ (.bool xk):=⟨_,rfl⟩;rw[<-R];have X:∀b,b≠c->W3.heap[b]?=W.heap[b]? :=λb B=>by
     rw[R];simp[World.setCell,Z6I,Z8d B]
    have d5:xz (xj W3)=xz (xj W):=by rw[R];simp[World.setCell]
    have b3:Below (xz<|xj w) W W3:=by
     rw[R];exact(Z6r _ _).setCell Z65 _
    have y:=Xo<|(X _ h9).trans HP.out.1;have D:=HP.out.2.1 0 Z0;have e1:=HP.out.2.1 1 Z0;have e2:=HP.out.2.1 2 Z0;have e3:=HP.out.2.1 3 Z0;have e4:=HP.out.2.1 4 Z0;rw[HP.out.2.2]at e4;have f8:V1 g= {g with M:=xk}:=Z6k a7;rw[f8];clear R;refine Z6x (v:=.tuple #[Zx {g with M:=xk} x,.int .i64 0]) ?_ rfl ⟨x,rfl,XJ (A.out.below.trans b3) Z0,λj n=> ?_,λhk=>(A.out.own hk).1.to Z0 (λ_ _=>.inl ⟨rfl,rfl⟩) λj n b B h1 _ _ _ _=>(XK Z0).trans<|X b<|(A.out.own hk).2 j n b B⟩
    .simp[results,Tryz.results111,go_sem,y,Zx,D,e1,e2,e3,e4]
    have hl:Zu {g with M:=xk} j=Zu g j:=rfl;rw[hl];exact(A.out.rd j n).keep (λb B=>(XK (by have:=B.1;omega)).trans<|X b B.2.2) λb B=>⟨by have:=B.1;omega,by simp[World.setCell,d5];exact B.2.1⟩
   .have g0:(0< xq (Zu g 0))=False:=Z7d a7;go_wp2;simp only[Exit.jump];obtain⟨W3,R⟩:∃W3,W3=((W.setCell ⟨c,3,U⟩<|.bool xw).setCell ⟨c,7,U⟩<|.slice U 0 0).setCell ⟨c,8,U⟩ (.slice U 0 0):=⟨_,rfl⟩;rw[<-R];have X:∀b,b≠c->W3.heap[b]?=W.heap[b]? :=λb B=>by
     rw[R];simp[World.setCell,Z6I,Z8d B]
    have d5:xz (xj W3)=xz (xj W):=by rw[R];simp[World.setCell]
    have b3:Below (xz<|xj w) W W3:=by
     rw[R];exact(((Z6r _ _).setCell Z65 _).setCell Z65 _).setCell Z65 _
    have y:=Xo<|(X _ h9).trans HP.out.1;have D:=HP.out.2.1 0 Z0;have e1:=HP.out.2.1 1 Z0;have e4:=HP.out.2.1 4 Z0;rw[HP.out.2.2]at e4;have f8:V1 g= {g with M:=xw,ad:=[],ae:=[]}:=Z6h a7;rw[f8];clear R;refine Z6x (v:=.tuple #[Zx {g with M:=xw,ad:=[],ae:=[]} (λj=>if j=2\/j=3 then .slice U 0 0 else x j),.int .i64 0]) ?_ rfl ⟨_,rfl,XJ (A.out.below.trans b3) Z0,λj n=> ?_,λhk=>(A.out.own hk).1.to Z0 (CU xw) λj n b B h1 _ _ _ _=>(XK Z0).trans<|X b<|(A.out.own hk).2 j n b B⟩
    .simp[results,Tryz.results111,go_sem,y,Zx,D,e1,e4]
    have:j=2\/j=3\/(j≠2/\j≠3):=Z0;obtain rfl|rfl|⟨h2,h3⟩:=this;exact .nil _ _ Z5G;exact .nil _ _ Z5G;have hl:Zu {g with M:=xw,ad:=[],ae:=[]} j=Zu g j:=by
     have:j=0\/j=1\/j=4:=Z0;obtain rfl|rfl|rfl:=this<;>rfl
    rw[hl];simp only[h2,h3,or_self,Z7K];exact(A.out.rd j n).keep (λb B=>(XK (by have:=B.1;omega)).trans<|X b B.2.2) λb B=>⟨by have:=B.1;omega,by simp[World.setCell,d5];exact B.2.1⟩
 intro c0
 go_upto_region 5 with (first
  | (go_at_call 17;refine(HR.out _ ?_).mono ?_;rotate_left;rintro e wa ⟨rfl,a2⟩
     have bA:wa.heap[xz<|xj w]?=J (.cells #[.int .u64 h.V,.int .i64 h.cap,.int .i64 h.to,.bool xw,.int .i64 h.O,O 0,O 1,O 2,O 3,O 4] 31 (0,0)):=(a2.block _ Z5j).trans<|(Z6m _ _ _ Z1).trans<|Z6u w _;have bZ:wa.heap[xz (xj w)+1]?=J (.cells ZE 31 (0,0)):=(a2.block _ Z1).trans<|Sk w _;have ya:=λj=>Z6j _ _ j _ _ _ bA;have d9:=Z6e a2;have i5:=Z6e<|And.intro bA bZ;clear a2 bA bZ))
 case refine_1=>exact((Z6r _ w).alloc (Z6i _) _).alloc Z1 _
 have a2:Below (xz<|xj w) w wa:=Z90 (((Z6r _ w).alloc (Z6i _) _).alloc Z1 _)<|d9.out.mono Z5j;have j6:xz (xj w)+2<=xz (xj wa):=by have:=d9.out.size;simp at this;omega
 have g7:=Z6e a2;clear a2 d9;have f1:=Z6e (λ(W:Z4) (hW:Below (xz<|xj wa) wa W) (j:Nat) (n:j<5)=>(HS.out j n).keep (λb T=>(hW.block b (by have:=hG b T;omega)).trans<|g7.out.block b<|hG b T) λ_ q=>q);refine EM [16,17,18,19,20,21,22,23,24,25,26,27,28,29,30,31,32,4] (FlC wa (xz<|xj w) h O) follows Z2 ⟨λ_=>xy,Z5v,?_⟩ ?_ ?_;exact⟨(Z6r _ _).drew,λi _ h=>Z5u,λi _ h=>Z5u,λh=>Z5u,λh=>Z5u,λh=>Z5u,λh=>Z5u⟩
 .intro L i o v W ho hi n C;have K:=Z6e C;have hz:xz (xj wa)<=xz (xj W):=C.b.size;have ya:=λj=>(C.b.cell (p:=⟨xz<|xj w,j,U⟩) (by show xz (xj w)<xz (xj wa);omega)).trans<|ya j;clear C;have j5:i<19:=(Z6N.1 ho).1;simp only[Uu,T6,Z6R,Z7B,Z7C,Z8y,Z7A,Z87,Z7U];have:i=0\/i=2\/i=4\/i=7\/i=10\/i=13\/i=1\/i=3\/i=5\/i=6\/i=8\/i=11\/i=14\/i=9\/i=12\/i=15\/i=16\/i=17\/i=18:=Z0;obtain rfl|rfl|rfl|rfl|rfl|rfl|rfl|rfl|rfl|rfl|rfl|rfl|rfl|rfl|rfl|rfl|rfl|rfl|rfl:=this<;>cases ho
  iterate 6
   focus
    go_wp2;try simp only[QN]
    exact⟨_,rfl,K.out.pure (by unfold XM;omega) rfl rfl⟩
  iterate 7
   focus
    first
    |have D:=K.out.eq 0 (by unfold XM;omega)<|n 0 (by decide)
    |have D:=K.out.eq 2 (by unfold XM;omega)<|n 2 (by decide)
    |have D:=K.out.eq 4 (by unfold XM;omega)<|n 4 (by decide)
    |have D:=K.out.eq 5 (by unfold XM;omega)<|n 5 (by decide)
    |have D:=K.out.eq 7 (by unfold XM;omega)<|n 7 (by decide)
    |have D:=K.out.eq 10 (by unfold XM;omega)<|n 10 (by decide)
    |have D:=K.out.eq 13 (by unfold XM;omega)<|n 13 (by decide)
    simp only[Uf]at D;go_wp2;try simp only[QN]
    exact⟨_,by rw[<-D];rfl,K.out.pure (by unfold XM;omega) rfl rfl⟩
  iterate 3
   focus
    first
    |(have D:=K.out.eq 8 (by unfold XM;omega)<|n 8 (by decide);have F:=yp W (l:=h.H) (G:=G) HH.out.H<|f1.out _ K.out.b 0 (by omega))
    |(have D:=K.out.eq 11 (by unfold XM;omega)<|n 11 (by decide);have F:=yp W (l:=h.aa) (G:=G) HH.out.aa<|f1.out _ K.out.b 1 (by omega))
    |(have D:=K.out.eq 14 (by unfold XM;omega)<|n 14 (by decide);have F:=yp W (l:=h.E) (G:=G) HH.out.E<|f1.out _ K.out.b 4 (by omega))
    have HF:=Z6e F;clear F;simp only[Uf]at D;go_wp2_with (go_at_call 113;refine HF.out.mono ?_;rintro e w9 ⟨y,rfl,b6,i1⟩;have b0:=Z6e<|And.intro b6 i1;clear b6 i1)
    try simp only[QN]
    exact⟨_,by rw[<-D];rfl,K.out.call Z5O rfl b0.out.1 b0.out.2⟩
  .have D:=K.out.eq 1 (by unfold XM;omega)<|n 1 Z5q;have E0:=Z6e D;simp only[Uf]at D;have e1:=K.out.eq 3 (by unfold XM;omega)<|n 3 Z5q;have E1:=Z6e e1;simp only[Uf]at e1;have e2:=K.out.eq 6 (by unfold XM;omega)<|n 6 Z5q;have E2:=Z6e e2;simp only[Uf]at e2;obtain⟨a9,c9,f9⟩:=Rd.cp<|K.out.rd 9 Z5O<|n 9 Z5q;rw[show xq (List.map vu<|VS h 9)=(xq h.H) from Z6D _]at f9;simp only[Nat.reduceAdd]at f9;have F9:=Z6e f9;obtain⟨b1,b4,Z⟩:=Rd.cp<|K.out.rd 12 Z5O<|n 12 Z5q;rw[show xq (List.map vu<|VS h 12)=(xq h.aa) from Z6D _]at Z;simp only[Nat.reduceAdd]at Z;have g5:=Z6e Z;obtain⟨b2,TO,a0⟩:=Rd.cp<|K.out.rd 15 Z5O<|n 15 Z5q;rw[show xq (List.map vu<|VS h 15)=(xq h.E) from Z6D _]at a0;simp only[Nat.reduceAdd]at a0;have g6:=Z6e a0;go_wp2;try simp only[QN]
   refine⟨X7 (X7 (X7 (X7 (X7 (X7 (X7 v 17<|Uf (xz<|xj w) h O 1) 19<|Uf (xz<|xj w) h O 3) 22<|Uf (xz<|xj w) h O 6) 25<|.slice a9 (xq h.H) c9) 28<|.slice b1 (xq h.aa) b4) 31<|.slice b2 (xq h.E) TO) 32<|.agg #[.int .u64 h.V,.int .i64 h.cap,.int .i64<|1-h.to,.bool xw,.int .i64 0,.slice U 0 0,.slice U 0 0,.slice a9 (xq h.H) c9,.slice b1 (xq h.aa) b4,.slice b2 (xq h.E) TO],rfl,?_⟩;rw[Qh (v:=v) E0.out,Qh (v:=v) E1.out,Qh (v:=v) E2.out,Qh (v:=v) F9.out,Qh (v:=v) g5.out,Qh (v:=v) g6.out];have hx:((.agg #[.int .u64 h.V,.int .i64 h.cap,.int .i64<|1-h.to,.bool xw,.int .i64 0,.slice U 0 0,.slice U 0 0,.slice a9 (xq h.H) c9,.slice b1 (xq h.aa) b4,.slice b2 (xq h.E) TO]):Value)=.agg (VA h λi=>v<|16+i):=by
    unfold VA;simp only[Nat.reduceAdd];rw[F9.out,g5.out,g6.out]
   rw[hx];exact K.out.built (n 9 Z5q) (n 12 Z5q)<|n 15 Z5q
  .go_wp2;try simp only[QN]
   exact⟨_,rfl,K.out.alloc hi⟩
  .obtain⟨c,e4,d3,i8,N⟩:=K.out.new<|n 17 Z5q;obtain⟨y,f2,hy⟩:=K.out.agg<|n 16 Z5q;have N:=N hi;have y4:∀j,W.cell? ⟨c,j,U⟩=ZE[j]? :=λj=>Z6j _ _ _ _ _ _ N;unfold ZE at y4;have y5:∀j,W.frozen? ⟨c,j,U⟩=xw:=λj=>Y7 N;have H3:=Z6e N;have i4:=Z6e f2;obtain⟨a9,c9,f9⟩:=Rd.cp<|hy 9 Z5O;obtain⟨b1,b4,Z⟩:=Rd.cp<|hy 12 Z5O;obtain⟨b2,TO,a0⟩:=Rd.cp<|hy 15 Z5O;rw[show xq (List.map vu<|VS h 9)=(xq h.H) from Z6D _]at f9;rw[show xq (List.map vu<|VS h 12)=(xq h.aa) from Z6D _]at Z;rw[show xq (List.map vu<|VS h 15)=(xq h.E) from Z6D _]at a0;have H:VA h y=#[.int .u64 h.V,.int .i64 h.cap,.int .i64<|1-h.to,.bool xw,.int .i64 0,.slice U 0 0,.slice U 0 0,.slice a9 (xq h.H) c9,.slice b1 (xq h.aa) b4,.slice b2 (xq h.E) TO]:=by
    unfold VA;rw[f9,Z,a0]
   rw[H]at f2;have d0:=Z6e H;clear N hy f9 Z a0 H;go_wp2;try simp only[QN]
   exact⟨_,by rw[<-e4,<-f2],K.out.store e4 i4.out (n 17 Z5q) (n 16 Z5q) hi H3.out (λb B=>XK B) Z5T (by rw[d0.out];exact Qc H3.out)<|XJ (Z6r _ _) d3⟩
 .intro L v W hL C;obtain⟨c,y,e4,d3,g9,hy⟩:=C.put<|hL 18 Z5q;have e9:=Z6e C.b;have HY:=Z6e<|And.intro g9 hy;have i6:=Z6e c0;have d8:=Z6e<|And.intro (hL 17 Z5q) e4;clear C g9 hy hL c0;simp only[Uu,T6,Z6R,Z7B,Z7C,Z8y,Z7A,Z87,Z7U];go_wp2;go_step3
  simp only[Exit.then];rename_i i7;refine i7 _ _<|i6.out _ _ ?_;refine⟨c,0,λj=>if j=2 then y 9 else if j=3 then y 12 else if j=4 then y 15 else .slice U 0 0,rfl,rfl,rfl,d8.out.2,rfl,Z7T _,?_⟩;have c2:=e9.out.size;have hG:∀b,WE wa W L v b->xz (xj w)+2<=b/\b<xz (xj W)/\b≠c:=λb B=>⟨by have:=B.1;omega,B.2.1,λe=>B.2.2 d8.out.1 (by rw[e];exact d8.out.2)⟩;refine⟨g7.out.trans<|e9.out.mono Z0,(e9.out.block _ Z0).trans i5.out.2,Z0,HY.out.1,λj n=> ?_,λh=>absurd h<|Nat.lt_irrefl _⟩;have:j=0\/j=1\/j=2\/j=3\/j=4:=Z0;obtain rfl|rfl|rfl|rfl|rfl:=this;exact .nil _ _ Z5G;exact .nil _ _ Z5G;exact(HY.out.2 9 Z5O).mono hG;exact(HY.out.2 12 Z5O).mono hG;exact(HY.out.2 15 Z5O).mono hG
end Vm
end
section

end
section
namespace Vm
open Go Go.Proofs Go.RowKit

end Vm
end
section
namespace Vm
open Go Go.Proofs Go.RowKit Go.Shelf
section
attribute [local go_sem] Oper.semAt_some
def Z1w{n P c Q a w}(h:c.wpIn Fence.wide n P (Exit.noGoto Q) a w):(Code.scope c).wpIn Fence.wide n P Q a w:=
 wpIn_wide.2 (wp_scope_straight<|wpIn_wide.1 h)
theorem NowI.kept{B:Nat}{W W':Z4}{b r:Nat}{g:Hp}{x:Z3}(S:NowI B W b g x)(a:W.grownBy W'<|J r)(k:r<B):NowI B W' b g x:=
 ⟨S.le,(a.block b (ZL S.nb) λe=>by cases e;have:=S.le;omega).trans S.nb,S.own.nd (Z6i _) λj f c d h=>a.block c ((S.own.own j f).lt c d).2 λe=>Z64,S.ae⟩
def Qw:Array Value:=#[.int .u64 0,.int .i64 0,.int .i64 0,.bool xw,.int .i64 0,.slice U 0 0,.slice U 0 0,.slice U 0 0,.slice U 0 0,.slice U 0 0]
structure ScI (B:Nat) (w:World) (b:Nat) (h:Hp) (k done:Nat) (W:World):Prop where
 ej:∃x,NowI B W b (scanK h done) x
 le:done<=k
 kb:W.heap[xz (xj w)+1]?=J (.cells #[.int .i64<|(k:Int) - (done:Nat)] 3 (0,0))
 r0:W.heap[xz (xj w)+2]?=J (.cells Qw 31 (0,0))
 r1:W.heap[xz (xj w)+3]?=J (.cells #[.int .i64 0] 35 (0,0))
 fn:W.heap[b+1]?=J (.cells #[.func (.func 42) #[] #[.pointer<|J ⟨b,0,U⟩]] 112 (0,0))
 gr:w.grownBy W U
def ScI.eu{B:Nat}{w:Z4}{b:Nat}{h:Hp}{k done:Nat}{W W':Z4}{row:Option Nat}(S:ScI B w b h k done W)(d:W.grownBy W' row)(f:∀r,row=J r->xz (xj w)<=r/\∃o:Obj,W.heap[r]?=J o/\o.isCells=xw):ScI B w b h k done W':=by
 obtain⟨x,n⟩:=S.ej
 have q:∀(c:Nat) (o:Obj),W.heap[c]?=J o->o.isCells=xk->W'.heap[c]?=J o:=λc o a l=>(d.block c (ZL a) λe=>by
  obtain⟨_,p,g,j⟩:=f c e.symm;rw[a]at g;cases g;rw[l]at j;cases j).trans a
 exact⟨⟨x,n.eu d λr e=>(f r e).2⟩,S.le,q _ _ S.kb rfl,q _ _ S.r0 rfl,q _ _ S.r1 rfl,q _ _ S.fn rfl,Uk S.gr d λr e=>.inr (f r e).1⟩
def Nc(W:Z4)(b:Nat):Calls Tryz.prog 44 #[.pointer<|J ⟨b,0,U⟩] W λe d=>e=.returned (.func (.func 58) #[] #[.pointer<|J ⟨xz<|xj W,0,U⟩])/\d=W.alloc (.cells #[.pointer<|J ⟨b,0,U⟩] 116):=by
 have a:∀(fn:Go.Fn) (first cap:Z9) (w:Z4),(Instr.makeFunc fn first cap).run Tryz.prog w=.ok (.func fn first cap) w:=λ_ _ _ _=>rfl;go_enter Tryz.func44,Tryz.ntmps44;go_wp2;exact Z6x (v:=.func (.func 58) #[] #[.pointer<|J ⟨xz<|xj W,0,U⟩]) (by simp[results,Tryz.results44,go_sem]) rfl ⟨rfl,rfl⟩
def Mq(w:Z4)d a f g:∃W,(((w.alloc d).alloc a).alloc f).alloc g=W/\xz (xj W)=xz (xj w)+4/\w.grownBy W U/\W.heap[xz (xj w)+1]?=J a/\W.heap[xz (xj w)+2]?=J f/\W.heap[xz (xj w)+3]?=J g:=by
 refine⟨_,rfl,Z1,⟨rfl,rfl,rfl,Z5j,λk h _=> ?_⟩,?_,?_,?_⟩;rw[Z6m _ _ _ Z5j,Z6m _ _ _ Z5j,Z6m _ _ _ Z5j,Z6m _ _ _ h];rw[Z6m _ _ _ Z1,Z6m _ _ _ Z1];have:=Z7h (w.alloc d) a;rwa[Z7V]at this;rw[Z6m _ _ _ Z1];have:=Z7h ((w.alloc d).alloc a) f;simpa using this;have:=Z7h (((w.alloc d).alloc a).alloc f) g;simpa using this
def Z0h{w w0 w1:Z4}{h:Hp}(B:h.ok){p:Pts}(r:Rt h p){k:Nat}{a:Z3}(G:xz (xj w0)=xz (xj w)+4)(t:w.grownBy w0 U)
  (H:w0.heap[xz (xj w)+1]?=J (.cells #[.int .i64 k] 3 (0,0))) (K:w0.heap[xz (xj w)+2]?=J (.cells Qw 31 (0,0))) (L:w0.heap[xz (xj w)+3]?=J (.cells #[.int .i64 0] 35 (0,0)))
  (n:Below (xz<|xj w0) w0 w1) (hx:HOwn (xz<|xj w0) w1 h a):
  ∃l,((w1.alloc<|.cells (Yc h a) 31).alloc<|.cells #[.func (.func 42) #[] #[.pointer<|J ⟨xz<|xj w1,0,U⟩]] 112).alloc (.cells #[.pointer<|J ⟨xz<|xj w1,0,U⟩] 116)=l/\
   xz (xj l)=xz (xj w1)+3/\xz (xj w0)<=xz (xj w1)/\ScI (xz (xj w)+4) w (xz<|xj w1) h k 0 l/\KnI (xz (xj w)+4) (xz<|xj w1) (xz (xj w1)+2) p l:=by
 refine⟨_,rfl,Z1,n.size,?_⟩;have g:∀c,c<xz (xj w1)->(((w1.alloc<|.cells (Yc h a) 31).alloc<|.cells #[.func (.func 42) #[] #[.pointer<|J ⟨xz<|xj w1,0,U⟩]] 112).alloc<|.cells #[.pointer<|J ⟨xz<|xj w1,0,U⟩] 116).heap[c]?=w1.heap[c]? :=λc d=>by
  rw[Z6m _ _ _ Z5j,Z6m _ _ _ Z5j,Z6m _ _ _ d]
 have F:xz (xj<|((w1.alloc<|.cells (Yc h a) 31).alloc<|.cells #[.func (.func 42) #[] #[.pointer<|J ⟨xz<|xj w1,0,U⟩]] 112).alloc<|.cells #[.pointer<|J ⟨xz<|xj w1,0,U⟩] 116)=xz (xj w1)+3:=Z1;have y:(((w1.alloc<|.cells (Yc h a) 31).alloc<|.cells #[.func (.func 42) #[] #[.pointer<|J ⟨xz<|xj w1,0,U⟩]] 112).alloc<|.cells #[.pointer<|J ⟨xz<|xj w1,0,U⟩] 116).heap[xz<|xj w1]?=J (.cells (Yc h a) 31 (0,0)):=by
  rw[Z6m _ _ _ Z5j,Z6m _ _ _ Z1];exact Z7h _ _
 have z:(((w1.alloc<|.cells (Yc h a) 31).alloc<|.cells #[.func (.func 42) #[] #[.pointer<|J ⟨xz<|xj w1,0,U⟩]] 112).alloc<|.cells #[.pointer<|J ⟨xz<|xj w1,0,U⟩] 116).heap[xz (xj w1)+1]?=J (.cells #[.func (.func 42) #[] #[.pointer<|J ⟨xz<|xj w1,0,U⟩]] 112 (0,0)):=by
  rw[Z6m _ _ _ Z1];have:=Z7h (w1.alloc<|.cells (Yc h a) 31)<|.cells #[.func (.func 42) #[] #[.pointer<|J ⟨xz<|xj w1,0,U⟩]] 112;rwa[Z7V]at this
 have A:(((w1.alloc<|.cells (Yc h a) 31).alloc<|.cells #[.func (.func 42) #[] #[.pointer<|J ⟨xz<|xj w1,0,U⟩]] 112).alloc<|.cells #[.pointer<|J ⟨xz<|xj w1,0,U⟩] 116).heap[xz (xj w1)+2]?=J (.cells #[.pointer<|J ⟨xz<|xj w1,0,U⟩] 116 (0,0)):=by
  have:=Z7h ((w1.alloc<|.cells (Yc h a) 31).alloc<|.cells #[.func (.func 42) #[] #[.pointer<|J ⟨xz<|xj w1,0,U⟩]] 112)<|.cells #[.pointer<|J ⟨xz<|xj w1,0,U⟩] 116;simpa using this
 have D:=n.size;have u:w1.grownBy (((w1.alloc<|.cells (Yc h a) 31).alloc<|.cells #[.func (.func 42) #[] #[.pointer<|J ⟨xz<|xj w1,0,U⟩]] 112).alloc<|.cells #[.pointer<|J ⟨xz<|xj w1,0,U⟩] 116) U:=⟨rfl,rfl,rfl,Z0,λc d _=>g c d⟩;generalize ((w1.alloc<|.cells (Yc h a) 31).alloc<|.cells #[.func (.func 42) #[] #[.pointer<|J ⟨xz<|xj w1,0,U⟩]] 112).alloc (.cells #[.pointer<|J ⟨xz<|xj w1,0,U⟩] 116)=l at*;have f:NowI (xz (xj w)+4) l (xz<|xj w1) h a:=⟨Z0,y,hx.nd Z0 λj x c d _=>g c ((hx.own j x).lt c d).2,λj x c d=>by have:=((hx.own j x).lt c d).2;omega⟩;have q:∀c o,w0.heap[c]?=J o->l.heap[c]?=J o:=λc o d=>by
  have C:=ZL d;rw[g c Z0,n.block c C];exact d
 exact⟨⟨⟨a,f⟩,Z7T _,by rw[q _ _ H];simp,q _ _ K,q _ _ L,z,WS t<|WS (WF n U) u⟩,A,h,a,f,B,r⟩
def ScI.step{B:Nat}{w:Z4}{b:Nat}{h:Hp}{p q:Pts}{k done:Nat}{W W':Z4}(F:h.ok)(r:Rt h p)(S:ScI B w b h k done W)(G:Rt (scanK h done) q)(D:(scanK h done).M=xk)(L:xz (xj w)+1<B)(T:xz (xj w)+4<=b)(X:done<k)(a:W.grownBy W'<|J b)(M:∃x,NowI B W' b (scan1<|scanK h done) x):
  ScI B w b h k (done+1) (W'.setCell ⟨xz (xj w)+1,0,U⟩<|.int .i64<|(k:Int) - (done:Nat) -1)/\KpN B b (xz (xj w)+1) W (W'.setCell ⟨xz (xj w)+1,0,U⟩<|.int .i64<|(k:Int) - (done:Nat) -1)/\
   W.grownBy W' (J b)/\W'.grownBy (W'.setCell ⟨xz (xj w)+1,0,U⟩<|.int .i64<|(k:Int) - (done:Nat) -1) (J<|xz (xj w)+1):=by
 have l:=Z8o W' (xz (xj w)+1)<|.int .i64<|(k:Int) - (done:Nat) -1;obtain⟨x,N⟩:=M;have d:=N.kept l L;have C:scanK h (done+1)=scan1 (scanK h done):=by rw[Tu,D];simp
 have j:∀(c:Nat) (o:Obj),W.heap[c]?=J o->c≠b->c≠xz (xj w)+1->(W'.setCell ⟨xz (xj w)+1,0,U⟩<|.int .i64<|(k:Int) - (done:Nat) -1).heap[c]?=J o:=λc o g H n=>
  (Z6w _ _ _ _ n).trans ((a.block c (ZL g)<|λe=>H (by cases e;rfl)).trans g)
 have u:W'.heap[xz (xj w)+1]?=J (.cells #[.int .i64<|(k:Int) - (done:Nat)] 3 (0,0)):=(a.block _ (ZL S.kb)<|λe=>Z64).trans S.kb;refine⟨⟨⟨x,by rw[C];exact d⟩,Z0,?_,j _ _ S.r0 Z0 Z0,j _ _ S.r1 Z0 Z0,j _ _ S.fn Z0 Z0,?_⟩,⟨Z6H a.size l.size,λc o g _ n K=>j c o g n K,λY z=> ?_⟩,a,l⟩
 .have:(k:Int) - ((done+1:Nat):Int)=(k:Int) - (done:Nat) -1:=Z0;rw[this];simp[World.setCell,Z6I,u]
 exact Uk (Uk S.gr a λr e=>.inr Z64) l λr e=>.inr Z64
 .obtain⟨y,O⟩:=S.ej;have t:InBox B b q W:=⟨_,y,O,Sb F r done,G⟩;obtain⟨R,P,f⟩:=G.O D;obtain⟨Q,A⟩:=f.gx;refine⟨P,Q,⟨_,x,d,?_,?_⟩,?_⟩
  .have:=Sb F r<|done+1;rwa[C]at this
  rw[f.eq];exact f.rt;rw[A,t.H z]
def Kj(w:Z4)(g:Hp)(e:Ending)(w':Z4):Prop:=∃x,e=.returned (.tuple #[Zx g x,.int .i64 0])/\Below (xz<|xj w) w w'/\HOwn (xz<|xj w) w' g x
def Z0g{w:Z4}{b:Nat}{h g:Hp}{k done:Nat}{W W8:Z4}{y:Z3}{D:Nat}(S:ScI (xz (xj w)+4) w b h k done W)(u:scanK h done=g)(t:done=k\/(scanK h done).M=xw)(X:NowI (xz (xj w)+4) W b g y)
  (hD:xz (xj w)+4<=D) (q:W.heap[D]?=J (.deferred<|J [])) (F:Below (xz<|xj w) W W8) (G:xz (xj W8)=xz (xj W)) (p:∀c,c≠xz (xj w)+1+1->W8.heap[c]?=W.heap[c]?) (P:W8.heap[xz (xj w)+1+1]?=J (.cells (Yc g y) 31 (0,0))):
  (W8.setCell ⟨xz (xj w)+1+1+1,0,U⟩<|.int .i64 0).heap[D]?=J (.deferred<|J [])/\(∀j,((W8.setCell ⟨xz (xj w)+1+1+1,0,U⟩<|.int .i64 0).putObj D<|.deferred U).cell? ⟨xz (xj w)+1+1,j,U⟩=(Yc g y)[j]?)/\((W8.setCell ⟨xz (xj w)+1+1+1,0,U⟩<|.int .i64 0).putObj D<|.deferred U).cell? ⟨xz (xj w)+1+1+1,0,U⟩=J (.int .i64 0)/\
   Kj w (scanK h k) (.returned<|.tuple #[Zx g y,.int .i64 0]) ((W8.setCell ⟨xz (xj w)+1+1+1,0,U⟩<|.int .i64 0).putObj D<|.deferred U):=by
 have a:=Z8o W8 (xz (xj w)+1+1+1)<|.int .i64 0;have n:=S.r1;have M:(W8.setCell ⟨xz (xj w)+1+1+1,0,U⟩<|.int .i64 0).heap[xz (xj w)+1+1+1]?=J (.cells #[.int .i64 0] 35 (0,0)):=
  Boxed.set _ (show Boxed W8 (xz (xj w)+1+1+1) 35 (.int .i64 0)from(p _ Z0).trans n)
 have L:(W8.setCell ⟨xz (xj w)+1+1+1,0,U⟩<|.int .i64 0).heap[xz (xj w)+1+1]?=J (.cells (Yc g y) 31 (0,0)):=(Z6w _ _ _ _ (by show xz (xj w)+1+1≠xz (xj w)+1+1+1;omega)).trans P;have l:∀c,c≠xz (xj w)+1+1->c≠xz (xj w)+1+1+1->(W8.setCell ⟨xz (xj w)+1+1+1,0,U⟩<|.int .i64 0).heap[c]?=W.heap[c]? :=λc B C=>(Z6w _ _ _ _ C).trans<|p c B;have Y:xz (xj<|W8.setCell ⟨xz (xj w)+1+1+1,0,U⟩<|.int .i64 0)=xz (xj W):=by rw[<-G];simp[World.setCell]
 have A:Below (xz<|xj w) W<|W8.setCell ⟨xz (xj w)+1+1+1,0,U⟩<|.int .i64 0:=F.trans ⟨a.os,a.tape,a.output,a.size,λc K=>a.block c (by have:=ZL n;omega)<|λe=>Z64⟩;generalize W8.setCell ⟨xz (xj w)+1+1+1,0,U⟩ (.int .i64 0)=o at*;have H:o.heap[D]?=J (.deferred<|J []):=(l D Z0 Z0).trans q;have Z:=S.gr.size;have R:=ZL n;have N:(o.putObj D<|.deferred U).heap[xz (xj w)+1+1]?=J (.cells (Yc g y) 31 (0,0)):=(Z6P Z0).trans L;have O:(o.putObj D<|.deferred U).heap[xz (xj w)+1+1+1]?=J (.cells #[.int .i64 0] 35 (0,0)):=(Z6P Z0).trans M;have z:=Z8G o D<|.deferred U;have heq:scanK h k=g:=by
  obtain e|e:=t;rw[<-e,u]
  .obtain⟨d,Q⟩:∃d,k=done+d:=⟨k-done,by have:=S.le;omega⟩;rw[Q,F2,LP e,u]
 have x:∀c,c≠xz (xj w)+1+1->c≠xz (xj w)+1+1+1->c≠D->(o.putObj D<|.deferred U).heap[c]?=W.heap[c]? :=λc B C h3=>(Z6P Z0).trans<|l c B C;refine⟨H,λj=>Z6j _ _ j _ _ _ N,by rw[Z6j _ _ _ _ _ _ O];rfl,y,by rw[heq],⟨?_,?_,?_,?_,λc K=> ?_⟩,?_⟩;rw[z.os,A.os];exact S.gr.os;rw[z.tape,A.tape];exact S.gr.tape;rw[z.output,A.output];exact S.gr.output;have:=z.size;omega;rw[x c Z0 Z0 Z0];exact S.gr.block c K Z1;rw[heq];refine X.own.to Z0 (λ_ _=>.inl ⟨rfl,rfl⟩) λj hj c K h4 cs T f r=>x c Z0 Z0 λe=> ?_;rw[e,q]at r;cases r
def F3{w:Z4}{b:Nat}{h g:Hp}{k done:Nat}{W:Z4}{y:Z3}{D:Nat}(S:ScI (xz (xj w)+4) w b h k done W)(f:scanK h done=g)(a:done=k\/(scanK h done).M=xw)(o:NowI (xz (xj w)+4) W b g y)
  (l:xz (xj w)+4<=D) (d:W.heap[D]?=J (.deferred<|J [])):
  ((Sj W (xz (xj w)+1+1) g y).setCell ⟨xz (xj w)+1+1+1,0,U⟩<|.int .i64 0).heap[D]?=J (.deferred<|J [])/\(∀j,(((Sj W (xz (xj w)+1+1) g y).setCell ⟨xz (xj w)+1+1+1,0,U⟩<|.int .i64 0).putObj D<|.deferred U).cell? ⟨xz (xj w)+1+1,j,U⟩=(Yc g y)[j]?)/\(((Sj W (xz (xj w)+1+1) g y).setCell ⟨xz (xj w)+1+1+1,0,U⟩<|.int .i64 0).putObj D<|.deferred U).cell? ⟨xz (xj w)+1+1+1,0,U⟩=J (.int .i64 0)/\
    Kj w (scanK h k) (.returned<|.tuple #[Zx g y,.int .i64 0]) (((Sj W (xz (xj w)+1+1) g y).setCell ⟨xz (xj w)+1+1+1,0,U⟩<|.int .i64 0).putObj D<|.deferred U):=by
 exact Z0g (W8:=Sj W (xz (xj w)+1+1) g y) S f a o l d (XJ (Z6r (xz<|xj w) W) Z0) Z5T (λc n=>XK n)<|Qc S.r0
def F5(w:Z4)(G:Z6)(hG:∀b,G b->b<xz (xj w))(h:Hp)(hh:h.ok)(a:Z3)(hs:∀j,j<5->Rd w G (.sl<|(Zu h j).map vu) (a j)){p:Pts}(r:Rt h p){k:Nat}(hk:(k:Int)<9223372036854775808):
  Calls Tryz.prog 22 #[Zx h a,.int .i64 k] w (Kj w<|scanK h k):=by
 refine(Z85 (n:=5)).1 ?_;have i4:∀(fn:Go.Fn) (first cap:Z9) (w:Z4),(Instr.makeFunc fn first cap).run Tryz.prog w=.ok (.func fn first cap) w:=λ_ _ _ _=>rfl;refine callsIn_of_wp_marks Tryz.func22 rfl trivial ?_ rfl;simp only[Tryz.ntmps22,Z7y,Z7N,Z7v,Nat.reduceAdd,Nat.reduceSub,Z7W,Z7X,Z8h,Z82,Z70,Z7x];have HO:=λW (hb:Below (xz<|xj w) w W)=>OK W G (λb q=>Z6o (hG b q) hb.size) h hh a λj hj=>(hs j hj).keep (λb f8=>hb.block b<|hG b f8) λ_ q=>q;have b3:=Z6e HO;clear HO;unfold Zx;gi_wp2
 refine Z1w ?_;gi_wp2
 refine⟨trivial,(Z85.2<|b3.out _<|((((Z6r _ _).alloc (Z6i _) _).alloc Z1 _).alloc Z5j _).alloc Z5j _).mono ?_⟩;rintro e w1 ⟨x1,rfl,b5,F⟩;obtain⟨a0,c0,e0⟩:=ZV<|F.own 0 Z0;obtain⟨a1,c1,e1⟩:=ZV<|F.own 1 Z0;obtain⟨a2,c2,e2⟩:=ZV<|F.own 2 Z0;obtain⟨a3,c3,e3⟩:=ZV<|F.own 3 Z0;obtain⟨a4,c4,e4⟩:=ZV<|F.own 4 Z0;have b2:=Z6e<|And.intro b5 F;clear b5 F;unfold Zx;gi_wp2
 refine wpIn_label ?_;gi_wp2
 refine⟨trivial,(Z85.2<|Nc _ _).mono ?_⟩;rintro e w3 ⟨rfl,d7⟩;obtain⟨w0,b0,h4,g5,R,T,Z⟩:=Mq w (.cells #[.int .u64 h.V,.int .i64 h.cap,.int .i64 h.to,.bool h.M,.int .i64 h.O,a 0,a 1,a 2,a 3,a 4] 31) (.cells #[.int .i64 k] 3) (.cells Qw 31)<|.cells #[.int .i64 0] 35;have hC:Yc h x1=#[.int .u64 h.V,.int .i64 h.cap,.int .i64 h.to,.bool h.M,.int .i64 h.O,.slice a0 (I<|Zu h 0) c0,.slice a1 (I<|Zu h 1) c1,.slice a2 (I<|Zu h 2) c2,.slice a3 (I<|Zu h 3) c3,.slice a4 (I<|Zu h 4) c4]:=by
  simp only[Yc,e0,e1,e2,e3,e4]
 have N:=b2.out;unfold Qw at b0;rw[b0]at N;obtain⟨i7,L,h5,i5,f7,f6⟩:=Z0h hh r h4 g5 R T Z N.1 N.2;rw[hC]at L;rw[L]at d7;subst d7;clear b2 N L hC e0 e1 e2 e3 e4 b0 R T Z b3;simp only[Z7V];gi_wp2
 have f9:xz (xj w)+4<=xz (xj w1):=Z0;generalize i2:xz (xj w1)=b at*;have d5:=Nb 4 (B:=xz (xj w)+4) (b:=b) (bk:=b+2) (kb:=xz (xj w)+1) f6 Z0 Z0 Z0 Z0
 refine Z1v rfl Z0 (gf:=58) (lb:=#[.pointer<|J ⟨b+2,0,U⟩]) ?hg trivial (enters_of Tryz.func58 Z2 rfl)
  d5 KpN.trans (λW l o o' _ h2 h3 _=>KpN.put o' h2 h3) (Z6r _ _) (λ_=>rfl)
  (λpre W=>∃done,ScI (xz (xj w)+4) w b h k done W/\(I pre:Int)<=(scanK h done).O)
  (λc pre W=>c=.exit 0/\∃done,ScI (xz (xj w)+4) w b h k done W/\(done=k\/(scanK h done).M=xw))
  ?hI (λ_ _ _=>trivial) ?hIx ?hPx ?hS ⟨0,f7,by have:=r.dq;show((0:Nat):Int)<=h.O;omega⟩
  (fun x=> {tmps:=#[.agg #[.int .u64 h.V,.int .i64 h.cap,.int .i64 h.to,.bool h.M,.int .i64 h.O,a 0,a 1,a 2,a 3,a 4],.int .i64 k,.pointer<|J ⟨xz<|xj w,0,U⟩,.pointer<|J ⟨xz (xj w)+1,0,U⟩,.pointer<|J ⟨xz (xj w)+1+1,0,U⟩,.pointer<|J ⟨xz (xj w)+1+1+1,0,U⟩,.pointer<|J ⟨b,0,U⟩,.pointer<|J ⟨b+1,0,U⟩,.int .i64 (x.1:Nat),.bool x.2,xy,
    .agg #[.int .u64 h.V,.int .i64 h.cap,.int .i64 h.to,.bool h.M,.int .i64 h.O,a 0,a 1,a 2,a 3,a 4],.agg #[.int .u64 h.V,.int .i64 h.cap,.int .i64 h.to,.bool h.M,.int .i64 h.O,.slice a0 (I<|Zu h 0) c0,.slice a1 (I<|Zu h 1) c1,.slice a2 (I<|Zu h 2) c2,.slice a3 (I<|Zu h 3) c3,.slice a4 (I<|Zu h 4) c4],
    .func (.func 42) #[] #[.pointer<|J ⟨b,0,U⟩],.func (.func 58) #[] #[.pointer<|J ⟨b+2,0,U⟩],.int .i64 (x.1:Nat),.bool x.2,xy,xy,xy,xy,xy,xy,xy,xy,xy,xy,xy,xy,xy,xy,xy,xy,xy,xy,xy,xy,xy,xy,xy],defers:=[]})
  ?assign ?body ?done ?stop
 case hg=>rfl
 case hI=>
  rintro pre X Y row ⟨done,S,hl⟩ hg Q;exact⟨done,S.eu hg λr e=>⟨by have:=(Q r e).1;omega,(Q r e).2⟩,hl⟩
 case hIx=>
  rintro c pre X Y row ⟨hc,done,S,hl⟩ hg Q;exact⟨hc,done,S.eu hg λr e=>⟨by have:=(Q r e).1;omega,(Q r e).2⟩,hl⟩
 case hPx=>
  rintro pre x _ X Y row ⟨p',g8,hx⟩ hg Q;exact⟨p',g8.eu hg λr e=>(Q r e).2,hx⟩
 case hS=>
  rintro xs X Y row ⟨g,x,hx,hl⟩ hg Q;exact⟨g,x,hx.eu hg λr e=>(Q r e).2,hl⟩
 case assign=>
  rintro l x W K2 f5;simp only[List.zip_cons_cons,Array.zip,yN];gi_wp2
  exact f5
 case body=>
  rintro l pre x W ⟨done,S,a8⟩ ⟨p',P,hx⟩ i0;obtain⟨q,sc⟩:=r.ei done;have b4:=Sb hh r done;obtain⟨y,t⟩:=S.ej;have rq:Rt (scanK h done) p'/\x=(I pre,XN p'.H<|I pre):=by
   obtain⟨g',x',h1,h2,h3⟩:=P;have:=t.dn h1;subst this;exact⟨h3,hx⟩
  obtain⟨rg,h0⟩:=rq;subst h0;obtain⟨g,H⟩:∃g,scanK h done=g:=⟨_,rfl⟩;have d:=t.nb;have z:=GG W (xz (xj w)+4) b (by have:=ZL d;omega) _ y t b4 rg;rw[H]at a8 b4 rg d z;unfold Yc at d;have yb:∀j,W.cell? ⟨b,j,U⟩=(#[.int .u64 g.V,.int .i64 g.cap,.int .i64 g.to,.bool g.M,.int .i64 g.O,y 0,y 1,y 2,y 3,y 4]:Array Value)[j]? :=λj=>Z6j _ _ _ _ _ _ d;have h7:=Z6j _ _ 0 _ _ _ S.kb;have h6:=Z6j _ _ 0 _ _ _ S.fn;simp only[Z7E,Z8m]at h7 h6;have i1:W.frozen? ⟨xz (xj w)+1,0,U⟩=xw:=Y7 S.kb;by_cases A:done=k\/g.M=xw
  .have HE:=Z6e<|And.intro S<|And.intro A H;have g7:((k:Int) - (done:Nat)==0)=xk\/(((k:Int) - (done:Nat)==0)=xw/\g.M=xw):=by
    obtain e|e:=A;exact .inl Z5j
    .by_cases e2:done=k;exact .inl Z5j;exact .inr ⟨Z5j,e⟩
   clear t S d A H P z;obtain hq|⟨hq,i3⟩:=g7
   .gi_wp2
    exact⟨Z9F _ _,rfl,done,HE.out.1,by rw[HE.out.2.2];exact HE.out.2.1⟩
   .gi_wp2
    exact⟨Z9F _ _,rfl,done,HE.out.1,by rw[HE.out.2.2];exact HE.out.2.1⟩
  .have hd:done<k:=by have:=S.le;omega
   have O:g.M=xk:=by cases b6:g.M<;>simp_all
   have hq:((k:Int) - (done:Nat)==0)=xw:=Z5j;have g9:=rg.cz;have HH:=Z6e<|And.intro S<|And.intro t<|And.intro H<|And.intro rg hd;have d9:=Z6e<|z O;have a5:=t.rd 0 Z0;by_cases b7:I pre<g.O
   .have b8:((I pre:Int)<g.O)=True:=Z7G b7;clear t S d A H P z rg a5;gi_wp2
    exact⟨Z9F _ _,⟨Z6i _,λ_ _ h _ _ _=>h,λp hp=>⟨p,[],hp,Z1⟩⟩,done,HH.out.1,by rw[HH.out.2.2.1];simp;omega⟩
   .have b8:((I pre:Int)<g.O)=False:=Z7d b7;have c7:(I pre:Int)=g.O:=Z0;clear t S d A H P z rg a5;gi_wp2
    refine⟨trivial,(CallsIn.inRound l<|Z85.2 d9.out).mono ?_⟩;rintro e W2 ⟨rfl,a7,a9⟩;have i6:=ZA ((k:Int) - (done:Nat) -1) Z0 Z0;obtain⟨s1,s2,s3,s4,s5⟩:=HH.out;rw[<-s3]at a9;have d6:=s1.step hh r (by rw[s3];exact s4) (by rw[s3];exact O) Z0 f9 s5 a7 a9;have K:W2.heap[xz (xj w)+1]?=J (.cells #[.int .i64<|(k:Int) - (done:Nat)] 3 (0,0)):=(a7.block _ (ZL s1.kb)<|λe=>Z64).trans s1.kb;have d8:=Z6j _ _ 0 _ _ _ K;simp only[Z7E,Z8m]at d8;have h9:W2.frozen? ⟨xz (xj w)+1,0,U⟩=xw:=Y7 K;have e6:=Z6e d6;have e5:=Z6e c7;clear s1 s2 s3 s4 s5 a7 a9 d6 K c7;gi_wp2
    obtain⟨t1,t2,t3,t4⟩:=e6.out;obtain⟨s1,s2,s3,s4,s5⟩:=HH.out;have h5:=s1.gr.size;refine⟨(KeepsFrom.of_grownBy t3 λj e=>Z64).trans (KeepsFrom.of_grownBy t4 λj e=>Z64),t2,done+1,t1,?_⟩;obtain⟨g',q',f⟩:=s4.O O;rw[Tu,s3,O];simp only[Z7m];rw[f.eq,f.da.2.2.2];have:=e5.out;simp;omega
 case done=>
  rintro D xs W hD ⟨g0,x0,b9,g6⟩ ⟨done,S,a8⟩ a6;have u:done=k\/(scanK h done).M=xw:=by
   obtain⟨q,sc⟩:=r.ei done;obtain⟨y,t⟩:=S.ej;have:=t.dn b9;subst this;cases b6:(scanK h done).M with
   |false=>exact .inr rfl
   |true=>have:=sc.rt.fq b6;omega
  obtain⟨y,t⟩:=S.ej;have HF:=Z6e<|And.intro S<|And.intro u t;have d:=t.nb;obtain⟨d0,f0,C⟩:=Rd.cp<|t.rd 0 Z0;obtain⟨d1,f1,g1⟩:=Rd.cp<|t.rd 1 Z0;obtain⟨d2,f2,g2⟩:=Rd.cp<|t.rd 2 Z0;obtain⟨d3,f3,g3⟩:=Rd.cp<|t.rd 3 Z0;obtain⟨d4,f4,g4⟩:=Rd.cp<|t.rd 4 Z0;unfold Yc at d;rw[C,g1,g2,g3,g4]at d;have yb:∀j,W.cell? ⟨b,j,U⟩=_:=λj=>Z6j _ _ _ _ _ _ d;have b1:∀j,W.cell? ⟨xz (xj w)+1+1,j,U⟩=_:=λj=>Z6j _ _ _ _ _ _ S.r0;have h8:∀j,W.cell? ⟨xz (xj w)+1+1+1,j,U⟩=_:=λj=>Z6j _ _ _ _ _ _ S.r1;have e8:∀j,W.frozen? ⟨xz (xj w)+1+1,j,U⟩=xw:=λj=>Y7 S.r0;have e9:∀j,W.frozen? ⟨xz (xj w)+1+1+1,j,U⟩=xw:=λj=>Y7 S.r1;unfold Qw at b1;have M:=F3 S rfl u t Z0 a6;unfold Sj Uv at M;unfold Yc Zx at M;rw[C,g1,g2,g3,g4]at M;simp only[Z6D]at M;obtain⟨R,T,k4,Z⟩:=M;have HK:=Z6e Z;clear b9 g6 a8 u t d S C g1 g2 g3 g4 Z;gi_wp2
  refine⟨Z1,.inl ⟨D,_,rfl,Z8T R,?_⟩⟩;refine⟨_,?_,HK.out⟩;clear HK HF R;generalize World.putObj _ D (.deferred U)=e7 at T k4⊢;simp[results,Tryz.results22,go_sem,T,k4]
 case stop=>
  rintro D c pre W hD ⟨rfl,done,S,u⟩ a6;obtain⟨y,t⟩:=S.ej;have HF:=Z6e<|And.intro S<|And.intro u t;have d:=t.nb;obtain⟨d0,f0,C⟩:=Rd.cp<|t.rd 0 Z0;obtain⟨d1,f1,g1⟩:=Rd.cp<|t.rd 1 Z0;obtain⟨d2,f2,g2⟩:=Rd.cp<|t.rd 2 Z0;obtain⟨d3,f3,g3⟩:=Rd.cp<|t.rd 3 Z0;obtain⟨d4,f4,g4⟩:=Rd.cp<|t.rd 4 Z0;unfold Yc at d;rw[C,g1,g2,g3,g4]at d;have yb:∀j,W.cell? ⟨b,j,U⟩=_:=λj=>Z6j _ _ _ _ _ _ d;have b1:∀j,W.cell? ⟨xz (xj w)+1+1,j,U⟩=_:=λj=>Z6j _ _ _ _ _ _ S.r0;have h8:∀j,W.cell? ⟨xz (xj w)+1+1+1,j,U⟩=_:=λj=>Z6j _ _ _ _ _ _ S.r1;have e8:∀j,W.frozen? ⟨xz (xj w)+1+1,j,U⟩=xw:=λj=>Y7 S.r0;have e9:∀j,W.frozen? ⟨xz (xj w)+1+1+1,j,U⟩=xw:=λj=>Y7 S.r1;unfold Qw at b1;have M:=F3 S rfl u t Z0 a6;unfold Sj Uv at M;unfold Yc Zx at M;rw[C,g1,g2,g3,g4]at M;simp only[Z6D]at M;obtain⟨R,T,k4,Z⟩:=M;have HK:=Z6e Z;clear u t d S C g1 g2 g3 g4 Z;gi_wp2
  refine⟨Z1,.inl ⟨D,_,rfl,Z8T R,?_⟩⟩;refine⟨_,?_,HK.out⟩;clear HK HF R;generalize World.putObj _ D (.deferred U)=e7 at T k4⊢;simp[results,Tryz.results22,go_sem,T,k4]
end
end Vm
end
section
namespace Vm
open Go Go.Proofs Go.RowKit
def Z0i:zw:=by
 intro h p k F r L D;obtain⟨n,rfl⟩:=Z6q L;rw[Z6p];refine⟨Z2,λw G g B o d=> ?_⟩;have O:=d 0 _ rfl;have P:=d 1 _ rfl;have C:g=#[g.getD 0 xy,g.getD 1 xy]:=by
  have a:g.size=2:=o;apply Z8F;simp[a];intro i t u;have H:i<2:=Z0
  match i,H with
  |0,_=>simp[Array.getD,a]
  |1,_=>simp[Array.getD,a]
 obtain⟨q,z,N⟩:=J1 O;have A:=V9 P;rw[C,z,A];refine(F5 w G B h F q N r (by have:=D.2;omega)).mono ?_;rintro e Q ⟨x,rfl,l,M⟩;refine⟨_,rfl,l,?_⟩;refine .am _ _ rfl ?_;intro i y f
 match i,f with
 |0,f=>cases f;exact UR λj K=>U1 (k:=.u64) (M.own j K) λc t u=>.inr ⟨t,u⟩
 |1,f=>cases f;exact .int _ _
def GN(w:Z4)(G:Z6)(K:∀b,G b->b<xz (xj w))(h:Hp)(S:h.ok)(f:Z3)(N:∀j,j<5->Rd w G (.sl<|(Zu h j).map vu) (f j)){p:Pts}(r:Rt h p){k:Nat}(hk:(k:Int)<9223372036854775808):
  Calls Tryz.prog 8 #[Zx h f,.int .i64 k] w (Kj w<|scanK h k):=by
 have M:=Z6e (λW (B:Below (xz<|xj w) w W)=>JJ (w:=W) (G:=G) (x:=f) S (λb d=>Z6o (K b d) B.size)<|λj L=>(N j L).keep (λb d=>B.block b<|K b d) λ_ q=>q);rw[r.right]at M;have R:=Z6e (λW (B:Below (xz<|xj w) w W)=>F5 W G (λb q=>Z6o (K b q) B.size) h S f (λj L=>(N j L).keep (λb d=>B.block b<|K b d) λ_ q=>q) r hk);have a5:((k:Int)<0)=False:=Z7d Z0;clear N;unfold Zx at M R⊢;go_enter Tryz.func8,Tryz.ntmps8;go_upto_region 1 with fail;obtain⟨W0,g,o⟩:=OwR.start w h f;unfold Yc ZE at g;rw[g];obtain⟨yb,_⟩:=o.F;have O:=Z6e o;clear g o
 go_wp2_with (first
  |(go_at_call 17;go_loud (refine(M.out _ O.out.az).mono ?_;rintro e w1 ⟨rfl,C⟩;have P:=O.out.call C;obtain⟨Q,_⟩:=P.F;have H:=Z6e P;clear C P yb))
  |(go_at_call 22;go_loud (refine(R.out _ H.out.az).mono ?_;rintro e w2 ⟨x,rfl,D,a⟩;obtain⟨X,q0,n⟩:=ZV<|a.own 0 (by omega);obtain⟨Y,q1,t⟩:=ZV<|a.own 1 (by omega);obtain⟨Z,q2,u⟩:=ZV<|a.own 2 (by omega);obtain⟨a3,q3,y⟩:=ZV<|a.own 3 (by omega);obtain⟨a4,q4,A⟩:=ZV<|a.own 4 (by omega);unfold Zx;rw[n,t,u,y,A];have l:=H.out.call D;have yz:=λj=>Z6j _ _ j _ _ _ l.bj;unfold ZE at yz;have fz:=λj=>Y7 (o:=j) l.bj;have T:=Z6e<|And.intro l<|And.intro a<|And.intro n<|And.intro t<|And.intro u<|And.intro y A;clear D a l Q n t u y A)))
 obtain⟨l,a,n,t,u,y,A⟩:=T.out;have z:=Xo l.bj (.int .u64 (scanK h k).V) (.int .i64 (scanK h k).cap) (.int .i64 (scanK h k).to) (.bool (scanK h k).M) (.int .i64 (scanK h k).O) (.slice X (I<|Zu (scanK h k) 0) q0) (.slice Y (I<|Zu (scanK h k) 1) q1) (.slice Z (I<|Zu (scanK h k) 2) q2) (.slice a3 (I<|Zu (scanK h k) 3) q3)<|.slice a4 (I<|Zu (scanK h k) 4) q4;refine Z6x (v:=.tuple #[Zx (scanK h k) x,.int .i64 0]) ?_ rfl ⟨x,rfl,XJ l.az Z0,a.nd (by have:=ZL H.out.bj;omega) λj L c hc hl=>XK (by have:=ZL H.out.bj;omega)⟩;unfold Zx;rw[n,t,u,y,A];simp[results,Tryz.results8,go_sem,z]
def MZ{W:Z4}{G:Z6}{g:Hp}{e:Int}{v:Za}(r:Rd W G (.am [ZF g,vi e]) v):∃x,v=.tuple #[Zx g x,.int .i64 e]/\∀j,j<5->Rd W G (.sl<|(Zu g j).map vu) (x j):=by
 cases r with
 |am _ o l h=>
  obtain⟨x,d,n⟩:=J1<|h 0 _ rfl;have f:=V9<|h 1 _ rfl;refine⟨x,?_,n⟩;congr 1;have a:o.size=2:=by simpa using l
  apply Z8F;simp[a];intro i p q;have k:i<2:=Z0
  match i,k with
  |0,_=>simp[Array.getD,a]at d;simpa using d
  |1,_=>simp[Array.getD,a]at f;simpa using f
def Ki(G:Z6)(W:Z4)(r:Hp×Int)(e:Ending)(W':Z4):Prop:=
 ∃x,e=.returned (.tuple #[Zx r.1 x,.int .i64 r.2])/\Below (xz<|xj W) W W'/\∀j,j<5->Rd W' (λc=>G c\/(xz (xj W)<=c/\c<xz (xj W'))) (.sl<|(Zu r.1 j).map vu) (x j)
def ET{h:Hp}(k:h.ok){p:Pts}(r:Rt h p){n:Int}(l:0<=n/\n<=1000){W:Z4}{G:Z6}{x:Z3}(f:∀b,G b->b<xz (xj W))(o:∀j,j<5->Rd W G (.sl<|(Zu h j).map vu) (x j)):
  Calls Tryz.prog 110 #[Zx h x,.int .i64 n] W λe d=>e=.returned (.bool<|roomP h p n)/\Below (xz<|xj W) W d:=by
 refine Z84 ((u9 k r l).2 W G _ f rfl ?_) ?_;intro i y a
 match i,a with
 |0,a=>cases a;exact UR o
 |1,a=>cases a;exact .int _ _
 rintro e d ⟨v,rfl,g,q⟩;exact⟨by rw[JH q],g⟩
def OO{s p:Int}(w:Z4):Calls Tryz.prog 109 #[.agg #[.int .i64 s,.int .i64 p]] w λe a=>e=.returned (.tuple #[.int .u64 (Xg s p).1,.int .i64 (Xg s p).2])/\Below (xz<|xj w) w a:=
 Ub (MP (s:=s) (p:=p)) rfl rfl w
def YR(g:Hp)(x:Z3):Array Value:=#[.int .u64 g.V,.int .i64 g.cap,.int .i64 g.to,.bool g.M,.int .i64 g.O,x 0,x 1,x 2,x 3,x 4]
structure PSt (w W:World) (nb:Nat) (g:Hp) (x:Nat->Value) (Q:Prop):Prop where
 bj:W.heap[xz (xj w)+2]?=J (.cells ZE 31 (0,0))
 ej:W.heap[nb]?=J (.cells (YR g x) 31 (0,0))
 rd:∀j,j<5->Rd W (λc=>xz (xj w)+3<=c/\c<xz (xj W)/\c≠nb) (.sl<|(Zu g j).map vu) (x j)
 az:Below (xz<|xj w) w W
 nB:xz (xj w)+3<=nb
 own:Q->HOwn (xz (xj w)+3) W g x/\∀j,j<5->∀c,(x j).ownBlock=J c->c≠nb
def PSt.below{w W W':Z4}{h:Nat}{g:Hp}{x:Z3}{Q:Prop}(s:PSt w W h g x Q)(a:Below (xz<|xj W) W W'):PSt w W' h g x Q:=by
 have k:=ZL s.ej;have l:=ZL s.bj;have o:=a.size;refine⟨(a.block _ l).trans s.bj,(a.block _ k).trans s.ej,λj d=>((s.rd j d).keep (λb f=>a.block b f.2.1) λ_ q=>q).mono λb q=>⟨q.1,Z0,q.2.2⟩,s.az.trans<|a.mono s.az.size,s.nB,λq=>⟨⟨λj d=>Yx ((s.own q).1.own j d) λc n=>a.block _ (((s.own q).1.own j d).lt c n).2,(s.own q).1.apart⟩,(s.own q).2⟩⟩
def PSt.F{w W:Z4}{a:Nat}{g:Hp}{x:Z3}{Q:Prop}(s:PSt w W a g x Q):(∀j,W.cell? ⟨a,j,U⟩=(#[.int .u64 g.V,.int .i64 g.cap,.int .i64 g.to,.bool g.M,.int .i64 g.O,x 0,x 1,x 2,x 3,x 4]:Array Value)[j]?)/\∀j,W.frozen? ⟨a,j,U⟩=xw:=
 ⟨λj=>Z6j _ _ _ _ _ _ s.ej,λj=>Y7 s.ej⟩
def PSt.R{w W:Z4}{a:Nat}{g:Hp}{x:Z3}{Q:Prop}(s:PSt w W a g x Q):(∀j,W.cell? ⟨xz (xj w)+1+1,j,U⟩=(#[.int .u64 0,.int .i64 0,.int .i64 0,.bool xw,.int .i64 0,.slice U 0 0,.slice U 0 0,.slice U 0 0,.slice U 0 0,.slice U 0 0]:Array Value)[j]?)/\∀j,W.frozen? ⟨xz (xj w)+1+1,j,U⟩=xw:=
 ⟨λj=>Z6j _ _ _ _ _ _ s.bj,λj=>Y7 s.bj⟩
def WI(W:Z4)(b:Nat)(v0 v1 v2 v3 v4 v5 v6 v7 v8 v9:Za):World:=(((((((((W.setCell ⟨b,0,U⟩ v0).setCell ⟨b,1,U⟩ v1).setCell ⟨b,2,U⟩ v2).setCell ⟨b,3,U⟩ v3).setCell ⟨b,4,U⟩ v4).setCell ⟨b,5,U⟩ v5).setCell ⟨b,6,U⟩ v6).setCell ⟨b,7,U⟩ v7).setCell ⟨b,8,U⟩ v8).setCell ⟨b,9,U⟩ v9
def LB{W:Z4}{a:Nat}{g:Hp}{x:Z3}{T:Zd}(d:W.heap[a]?=J (.cells (YR g x) T (0,0)))(v0 v1 v2 v3 v4 v5 v6 v7 v8 v9:Za):(WI W a v0 v1 v2 v3 v4 v5 v6 v7 v8 v9).heap[a]?=J (.cells #[v0,v1,v2,v3,v4,v5,v6,v7,v8,v9] T (0,0)):=by
 unfold YR at d;unfold WI;simp[World.setCell,Z6I,d]
def LC(W:Z4)(a:Nat)(v0 v1 v2 v3 v4 v5 v6 v7 v8 v9:Za):xz (xj<|WI W a v0 v1 v2 v3 v4 v5 v6 v7 v8 v9)=xz (xj W):=by
 unfold WI;simp[World.setCell]
def PSt.store{w W f:Z4}{l:Nat}{g a:Hp}{x d:Z3}{Q Q2:Prop}(s:PSt w W l g x Q)(o:Below (xz<|xj W) W f)
  (y:∀j,j<5->Rd f (λc=>xz (xj W)<=c/\c<xz (xj f)) (.sl<|(Zu a j).map vu) (d j)) (r:Q2->HOwn (xz<|xj W) f a d):
  PSt w (WI f l (.int .u64 a.V) (.int .i64 a.cap) (.int .i64 a.to) (.bool a.M) (.int .i64 a.O) (d 0) (d 1) (d 2) (d 3)<|d 4) l a d Q2:=by
 have n:=s.below o;have A:=ZL s.ej;have B:=o.size;have z:=s.az.size;have u:=s.nB;refine⟨(XK Z0).trans n.bj,LB n.ej _ _ _ _ _ _ _ _ _ _,λj k=>((y j k).keep (λb t=>XK Z0) λ_ q=>q).mono λb q=> ?_,XJ n.az Z0,u,λq=>⟨(r q).nd Z0 λj k c p h=>XK Z0,λj k c p=>by have:=(((r q).own j k).lt c p).1;omega⟩⟩;rw[LC];exact⟨Z0,q.2,Z0⟩
def Qz(w:Z4)(r:Int×Hp×Int)(Q:Prop)(e:Ending)(w':Z4):Prop:=
 ∃x,e=.returned (.tuple #[.int .u64 r.1,Zx r.2.1 x,.int .i64 r.2.2])/\Below (xz<|xj w) w w'/\(∀j,j<5->Rd w' (λc=>xz (xj w)<=c/\c<xz (xj w')) (.sl<|(Zu r.2.1 j).map vu) (x j))/\(Q->HOwn (xz<|xj w) w' r.2.1 x)
def Yj(g:Hp)(wd:Int)(n:Nat):Hp:= {g with aa:=(wd::List.replicate n 0)++g.aa}
structure Tri (w W:World) (o0 o1:Obj):Prop where
 b0:W.heap[xz<|xj w]?=J o0
 b1:W.heap[xz (xj w)+1]?=J o1
 b2:W.heap[xz (xj w)+2]?=J (.cells ZE 31 (0,0))
 az:Below (xz<|xj w) w W
def za(w:Z4)(a d:Obj):∃W,((w.alloc a).alloc d).alloc (.cells #[.int .u64 0,.int .i64 0,.int .i64 0,.bool xw,.int .i64 0,.slice U 0 0,.slice U 0 0,.slice U 0 0,.slice U 0 0,.slice U 0 0] 31)=W/\xz (xj W)=xz (xj w)+3/\Tri w W a d:=by
 refine⟨_,rfl,Z1,?_,?_,?_,(((Z6r _ _).alloc (Z6i _) _).alloc Z1 _).alloc Z5j _⟩;rw[Z6m _ _ _ Z5j,Z6m _ _ _ Z1];exact Z6u _ _;rw[Z6m _ _ _ Z1];exact A6 _ _ _;have:=Z6u ((w.alloc a).alloc d)<|.cells ZE 31;simpa[ZE]using this
def Tri.below{w W W':Z4}{d f:Obj}(s:Tri w W d f)(a:Below (xz<|xj W) W W'):Tri w W' d f:=
 ⟨(a.block _<|ZL s.b0).trans s.b0,(a.block _<|ZL s.b1).trans s.b1,(a.block _<|ZL s.b2).trans s.b2,s.az.trans<|a.mono s.az.size⟩
def Tri.F{w W:Z4}{a d:Z9}{t0 f:Zd}(s:Tri w W (.cells a t0)<|.cells d f):(∀j,W.cell? ⟨xz<|xj w,j,U⟩=a[j]?)/\(∀j,W.cell? ⟨xz (xj w)+1,j,U⟩=d[j]?)/\(∀j,W.cell? ⟨xz (xj w)+1+1,j,U⟩=ZE[j]?)/\∀j,W.frozen? ⟨xz (xj w)+1+1,j,U⟩=xw:=
 ⟨λj=>Z6j _ _ _ _ _ _ s.b0,λj=>Z6j _ _ _ _ _ _ s.b1,λj=>Z6j _ _ _ _ _ _ s.b2,λj=>Y7 s.b2⟩
def Pz{w w2 d l:Z4}{C D:Obj}{h:Hp}{y:Z3}(s:Tri w w2 C D)(A:xz (xj w)+3<=xz (xj w2))(z:Below (xz<|xj w2) w2 d)
  (o:HOwn (xz<|xj w2) d h y) (f:d.alloc (.cells (YR h y) 31)=l):PSt w l (xz<|xj d) h y True:=by
 have p:=s.below z;have F:=z.size;have x:∀j,j<5->∀c,(y j).ownBlock=J c->xz (xj w2)<=c/\c<xz (xj d):=λj a c g=>((o.own j a).lt c g);have B:xz (xj l)=xz (xj d)+1:=by rw[<-f];simp
 have n:=ZL s.b2;have t:HOwn (xz (xj w)+3) l h y:=⟨λj a=>S6 (Yx (o.own j a) λc g=>by rw[<-f];exact Z6m _ _ _ (x j a c g).2) λc u n=>⟨Z0,n⟩,o.apart⟩;refine⟨by rw[<-f];exact(Z6m _ _ _<|ZL p.b2).trans p.b2,by rw[<-f];exact Z6u _ _,λj a=> ?_,by rw[<-f];exact p.az.alloc p.az.size _,Z0,λ_=>⟨t,λj a c g=>by have:=(x j a c g).2;omega⟩⟩;refine((U1 (k:=.u64) (o.own j a) (G:=λc=>xz (xj w2)<=c/\c<xz (xj d)) λc u n=>⟨u,n⟩).keep (λb r=>by rw[<-f];exact Z6m _ _ _ r.2) λ_ q=>q).mono λb q=>⟨Z0,Z0,Z0⟩
def W5{W:Z4}{G:Z6}{l:Z5}{y:Za}(h:Rd W G (.sl<|l.map vu) y):∃a c,y=.slice a (I l) c:=by
 generalize g:l.map vu=L at h;have d:I L=I l:=by rw[<-g,Z6D]
 cases h with
 |nil a c f=>exact⟨_,_,by rw[<-d];rfl⟩
 |sl _ b o cap k n f j=>exact⟨_,_,by rw[d]⟩
def PSt.imp{w W:Z4}{a:Nat}{g:Hp}{x:Z3}{Q Q':Prop}(s:PSt w W a g x Q)(h:Q'->Q):PSt w W a g x Q':=⟨s.bj,s.ej,s.rd,s.az,s.nB,λq=>s.own<|h q⟩
def PSt.dp{w W W':Z4}{t:Nat}{g:Hp}{x:Z3}{Q:Prop}(s:PSt w W t g x Q){l:Z5}{v:Za}(F:xz (xj W)<=xz (xj W'))(y:∀b,b<xz (xj W)->b≠t->W'.heap[b]?=W.heap[b]?)
  (B:W'.heap[t]?=J (.cells (YR {g with aa:=l}<|λj=>if j=1 then v else x j) 31 (0,0))) (r:W'.ownsRow (xz<|xj W) 24 1 v (I l)<|Y6 .u64 l) (o:Below (xz<|xj w) w W'):PSt w W' t {g with aa:=l} (λj=>if j=1 then v else x j) Q:=by
 have C:=s.az.size;have z:=s.nB;have p:∀j,j<5->j≠1->Zu {g with aa:=l} j=Zu g j:=λj h a=>by
  have:j=0\/j=2\/j=3\/j=4:=Z0;obtain rfl|rfl|rfl|rfl:=this<;>rfl
 have D:xz (xj w)+3<=xz (xj W):=by have:=ZL s.ej;omega
 refine⟨(y _ (ZL s.bj) Z0).trans s.bj,B,λj h=> ?_,o,z,λq=>⟨⟨λj h=> ?_,λi j u h c d f=> ?_⟩,λj h c d=> ?_⟩⟩;by_cases a:j=1;subst a;rw[Z6k rfl];exact U1 (k:=.u64) r λc a n=>⟨Z0,n,by have:=ZL s.ej;omega⟩;rw[Z6h a,p j h a];exact((s.rd j h).keep (λb A=>y b A.2.1 A.2.2) λ_ q=>q).mono λb q=>⟨q.1,Z0,q.2.2⟩;by_cases a:j=1;subst a;rw[Z6k rfl];exact S6 r λc a n=>⟨Z0,n⟩;rw[Z6h a,p j h a];exact Yx ((s.own q).1.own j h) λc d=>y c (((s.own q).1.own j h).lt c d).2<|(s.own q).2 j h c d;by_cases a:i=1;subst a;rw[Z6k rfl]at d;rw[Z6h Z0]at f;have:=(r.lt c d).1;have:=(((s.own q).1.own j h).lt c f).2;omega;rw[Z6h a]at d;by_cases n:j=1;subst n;rw[Z6k rfl]at f;have:=(r.lt c f).1;have:=(((s.own q).1.own i Z0).lt c d).2;omega;rw[Z6h n]at f;exact(s.own q).1.apart i j u h c d f;by_cases a:j=1;subst a;rw[Z6k rfl]at d;have:=(r.lt c d).1;have:=ZL s.ej;omega;rw[Z6h a]at d;exact(s.own q).2 j h c d
def Pr{W:Z4}{G:Z6}{B p n K:Nat}{l h:Z5}{y:Za}(w:B<=xz (xj W))(o:W.ownsRow B 24 1 (.slice (J ⟨p,0,U⟩) n K) n<|Y6 .u64 l)(z:Rd W G (.sl<|h.map vu) y)(A:n+I h<=2000000)(ty:Zd):
  ∃a c g,(Builtin.append_ #[29,29] ty #[.slice (J ⟨p,0,U⟩) n K,y]).run Tryz.prog W=.ok (.slice a (n+I h) c) g/\g.ownsRow B 24 1 (.slice a (n+I h) c) (I<|l++h) (Y6 .u64<|l++h)/\W.grownBy g (J p):=by
 have x:=Tryz.underlying29;rw[<-Vf]at o;obtain⟨C,g,f,q,d,r,_,_,t⟩:=JL (P:=Tryz.prog) (ty:=ty) x Sv o w z (by rw[Vf];exact Qi _) (by simp only[Ye,Z6D];omega);rw[Vf]at d;have k:I l=n:=by have:=o.1;rw[Vf]at this;simpa[Y6]using this
 have j:I f=I h:=by have:=d.1;simp[Y6]at this;omega
 have u:=Jh t j;obtain⟨a,c,e⟩:=ZV d;subst e;rw[u]at d;simp only[Z6D]at d q;refine⟨a,c,g,q,?_,r⟩;rw[Z6L,k];simpa[Y6]using d
def NB{m K:Nat}(l:m<=K)(k:K<=4096)(W:Z4):(Instr.makeSlice 29 (.int .i64 (m:Int))<|.int .i64 (K:Int)).run Tryz.prog W=.ok (.slice (J ⟨xz<|xj W,0,U⟩) m K) (W.alloc<|.cells (madeCells #[.int .u64 0] K) 24):=by
 have a:(Tryz.prog.info? 24).map (λi=>(i.zero,i.size,i.bytes))=J (J<|.int .u64 0,1,8):=Z2;obtain⟨i,g,d⟩:=Z6f.1 a;simp only[Z6t]at d;obtain⟨j,h,f⟩:=d;have:=run_make (P:=Tryz.prog) (w:=W) 29 24 i (.int .u64 0) Tryz.underlying29 g j .i64 .i64 m K Z0 Z0 (by rw[f];omega) Z0;simpa[h,Value.cells]using this
def NA{W:Z4}{B m K:Nat}(d:B<=xz (xj W))(a:m<=K)(f:K<=4096):(W.alloc<|.cells (madeCells #[.int .u64 0] K) 24).ownsRow B 24 1 (.slice (J ⟨xz<|xj W,0,U⟩) m K) m<|Y6 .u64<|List.replicate m 0:=by
 refine⟨by simp[Y6],.inr ⟨_,K,_,rfl,d,Z6u _ _,a,Z5G,by rw[size_madeCells];simp,?_⟩⟩;rw[toList_madeCells_one];simp[Y6,List.take_replicate,Z93 a]
def Ej{g:Hp}{wd:Int}{n m:Nat}(p:ZC (Zv g)=xk)(u:n+1=m)(t:(I g.H:Int)+I g.aa+m<=g.cap):ZC (Zv<|Yj g wd n)=xk:=by
 obtain⟨d,f,h,j,k,⟨l,q,o,r⟩,a⟩:=Xe.1 p;refine Xe.2 ⟨d,f,h,j,k,⟨l,?_,o,?_⟩,a⟩;show(0:Int)<=(I ((wd::List.replicate n 0)++g.aa):Nat);omega;show((I ((wd::List.replicate n 0)++g.aa):Nat):Int)<=g.cap-I g.H;simp;omega
def Eh{g:Hp}{wd:Int}{n:Nat}(a:g.ok)(f:Zy wd)(h:n+1+I g.aa<=1000000):(Yj g wd n).ok:=by
 refine⟨a.V,a.cap,a.to,a.O,a.H,?_,a.ad,a.ae,a.E,a.dm,λx d=> ?_,a.gy,a.gw,a.cg⟩;simp[Yj];omega;simp only[Yj,Z7x,Z6S,Z6Q,List.mem_replicate]at d;obtain rfl|⟨_,rfl⟩|d:=d;exact f;unfold Zy;omega;exact a.db x d
def Pt{g:Hp}{wd:Int}{n:Nat}(d:ZC (Zv<|Yj g wd n)=xk):Y1 (Zv<|Yj g wd n) 2 0=(ZD (Zv<|Yj g wd n) 2,0)/\Zy (ZD (Zv<|Yj g wd n) 2)/\X6 (ZD (Zv<|Yj g wd n) 2)=(ZG (Zv<|Yj g wd n) 2 0,0):=by
 have f:ZX (Zv<|Yj g wd n) 2=(n+1+I g.aa:Nat):=by
  show((I ((wd::List.replicate n 0)++g.aa):Nat):Int)=_;simp;omega
 obtain⟨h,j,l,o⟩:=XW d 2;refine⟨?_,⟨Z0,Z0⟩,?_⟩;have:=TI d (k:=2) (a:=0) Z0 Z0;simpa using this;unfold X6 ZG;rw[Z6h Z0,Int.add_zero]
def Ps{w W:Z4}{l:Nat}{g:Hp}{x:Z3}{Q:Prop}(s:PSt w W l g x Q)(v:Int){v0 v1 v2 v3 v4 v5 v6 v7 v8 v9:Za}:Qz w (v,g,0) Q (.returned<|.tuple #[.int .u64 v,Zx g x,.int .i64 0]) ((((((((((W.setCell ⟨xz (xj w)+1+1,0,U⟩ v0).setCell ⟨xz (xj w)+1+1,1,U⟩ v1).setCell ⟨xz (xj w)+1+1,2,U⟩ v2).setCell ⟨xz (xj w)+1+1,3,U⟩ v3).setCell ⟨xz (xj w)+1+1,4,U⟩ v4).setCell ⟨xz (xj w)+1+1,5,U⟩ v5).setCell ⟨xz (xj w)+1+1,6,U⟩ v6).setCell ⟨xz (xj w)+1+1,7,U⟩ v7).setCell ⟨xz (xj w)+1+1,8,U⟩ v8).setCell ⟨xz (xj w)+1+1,9,U⟩ v9).drew:=by
 have h:=LC W (xz (xj w)+1+1) v0 v1 v2 v3 v4 v5 v6 v7 v8 v9;have f:∀c,c≠xz (xj w)+1+1->_:=λc d=> @PG W (xz (xj w)+1+1) c d v0 v1 v2 v3 v4 v5 v6 v7 v8 v9;unfold WI at h;refine⟨x,rfl,(XJ s.az Z0).drew,λj a=>((s.rd j a).keep (λb o=>f b Z0) λ_ q=>q).mono λb q=>⟨Z0,?_⟩,λq=>⟨λj a=>S6 (Yx ((s.own q).1.own j a) λc d=>f c ?_) λc n k=>⟨Z0,k⟩,(s.own q).1.apart⟩⟩;rw[Bb,h];exact q.2.1;have:=(((s.own q).1.own j a).lt c d).1;omega
def GM(w:Z4)(G:Z6)(hG:∀b,G b->b<xz (xj w))(h:Hp)(hh:h.ok)(c7:Z3)(hs:∀j,j<5->Rd w G (.sl<|(Zu h j).map vu) (c7 j))(n m:Nat)(pt wd:Int)(hn:n<=255)(hm:n+1=m)(m5:Xg n pt=(wd,0)){p q p8:Pts}(r:Rt h p){g h8:Hp}(hg:g.ok)(rg:Rt g q)(o3:h8.ok)(r8:Rt h8 p8)
  (hd:(h.M=xk/\h8=h)\/(h.M=xw/\roomP h p m=xk/\h8=h)\/(h.M=xw/\roomP h p m=xw/\h8=Xb h)) (m4:g=scanK h8 m)
  {res:Int×Hp×Int} (i6:res=if roomP g q m then(ZG (Zv<|Yj g wd n) 2 0,Yj g wd n,0)else(0,Hp.zero,7)) {KO:Prop} (hK:KO->0<I h.E):
  Calls Tryz.prog 108 #[Zx h c7,.agg #[.int .i64 (n:Nat),.int .i64 pt]] w (Qz w res KO):=by
 have n1:=Z6e hK;have HS:=Z6e hs;have HH:=Z6e hh;have q9:1<=m/\m<=256:=Z0;have HD:=Z6e hd;have h6:=Z6e i6;have HR:∀W,Below (xz<|xj w) w W->Calls Tryz.prog 17 #[Zx h c7] W λe w'=>e=.returned (.bool<|Yp h)/\Below (xz<|xj W) W w':=λW L=>
  JJ (w:=W) (G:=G) (x:=c7) hh (λb A=>Z6o (hG b A) L.size) (λj hj=>(hs j hj).keep (λb A=>L.block b<|hG b A) λ_ q=>q)
 rw[r.right]at HR;have l0:=Z6e<|OO (s:=(n:Int)) (p:=pt);have n2:=Z6e HR;have wn:IntKind.i64.wrap ((n:Int)+1)=(m:Int):=Z5r;have HN:=Z6e<|And.intro hm m4;obtain⟨W0,i9,r0,j8⟩:=za w (.cells (YR h c7) 31)<|.cells #[.int .i64 (n:Nat),.int .i64 pt] 42;have n3:=Z6e j8;have q7:=Z6e i9;obtain⟨p0,s0,_,_⟩:=j8.F;unfold YR at i9 p0;clear hs HR hd i6 j8 m4 hK;unfold Zx;go_enter Tryz.func108,Tryz.ntmps108
 go_upto_region 6 with (first
  |(go_at_call 109;go_loud (refine(l0.out W0).mono ?_;rintro e w1 ⟨rfl,j1⟩;rw[m5];dsimp only;have j9:=n3.out.below j1;have r1:=j1.size;obtain⟨p1,s1,_,_⟩:=j9.F;unfold YR at p1;have l1:=Z6e j9;clear j1 j9 i9 l0 p0 s0))
  |(go_at_call 17;go_loud (refine(n2.out _ l1.out.az).mono ?_;rintro e w2 ⟨rfl,j2⟩;have k5:=l1.out.below j2;have r2:=j2.size;obtain⟨p2,s2,_,_⟩:=k5.F;unfold YR at p2;have l3:=Z6e k5;clear j2 k5 p1 s1))
  |(go_at_call 18;go_loud (refine(TH _ G (λb L=>by have:=hG b L;omega) h HH.out c7<|λj hj=>(HS.out j hj).keep (λb L=>l3.out.az.block b<|hG b L) (λ_ h=>h)).mono ?_;rintro e w5 ⟨y,rfl,m0,a6⟩;obtain⟨a0,q0,e0⟩:=ZV<|a6.own 0 Z0;obtain⟨a1,q1,e1⟩:=ZV<|a6.own 1 Z0;obtain⟨a2,q2,e2⟩:=ZV<|a6.own 2 Z0;obtain⟨a3,q3,e3⟩:=ZV<|a6.own 3 Z0;obtain⟨a4,q4,e4⟩:=ZV<|a6.own 4 Z0;have k9:=Z6e<|And.intro m0 a6;clear m0 a6;unfold Zx;rw[e0,e1,e2,e3,e4])))
 obtain⟨W6,j0⟩:∃W6,w5.alloc (.cells #[.int .u64 h.V,.int .i64 h.cap,.int .i64 h.to,.bool h.M,.int .i64 h.O,.slice a0 (I<|Zu h 0) q0,.slice a1 (I<|Zu h 1) q1,.slice a2 (I<|Zu h 2) q2,.slice a3 (I<|Zu h 3) q3,.slice a4 (I<|Zu h 4) q4] 31)=W6:=⟨_,rfl⟩;have h5:PSt w W6 (xz<|xj w5) h y True:=Pz l3.out Z0 k9.out.1 k9.out.2 (by unfold YR;rw[e0,e1,e2,e3,e4];exact j0);rw[j0];obtain⟨y6,f6⟩:=h5.F;rw[e0,e1,e2,e3,e4]at y6;have a5:=Z6e h5;have l8:∀W,Below (xz<|xj W6) W6 W->Calls Tryz.prog 110 #[.agg #[.int .u64 h.V,.int .i64 h.cap,.int .i64 h.to,.bool h.M,.int .i64 h.O,.slice a0 (I<|Zu h 0) q0,.slice a1 (I<|Zu h 1) q1,.slice a2 (I<|Zu h 2) q2,.slice a3 (I<|Zu h 3) q3,.slice a4 (I<|Zu h 4) q4],.int .i64 (m:Nat)] W λe w'=>e=.returned (.bool<|roomP h p m)/\Below (xz<|xj W) W w':=λW L=>by
  have:=ET hh r (n:=(m:Int)) Z0 (W:=W) (λb A=>A.2.1) (h5.below L).rd;unfold Zx at this;rw[e0,e1,e2,e3,e4]at this;exact this
 have t:=Z6e l8;have E:=Z6e<|And.intro e0<|And.intro e1<|And.intro e2<|And.intro e3 e4;clear h5 l8 p2 s2 j0 e0 e1 e2 e3 e4 wn;obtain⟨hc,rfl⟩|⟨hc,j6,rfl⟩|⟨hc,j6,rfl⟩:=HD.out;all_goals have HC:=Z6e hc
 case' inl=>
  go_upto_region 10 with fail;have o:=Z6e (a5.out.imp (Q':=KO) λ_=>trivial);have u:=Z6e E.out
 case' inr.inl=>
  have t:=t.out;rw[hc]at t;have t:=Z6e t
  go_upto_region 10 with (first
   |(go_at_call 110;go_loud (refine(t.out _<|Z6r _ _).mono ?_;rintro e w7 ⟨rfl,e5⟩;rw[j6];have a7:=a5.out.below e5;obtain⟨y7,f7⟩:=a7.F;rw[E.out.1,E.out.2.1,E.out.2.2.1,E.out.2.2.2.1,E.out.2.2.2.2]at y7;have o:=Z6e (a7.imp (Q':=KO) λ_=>trivial);clear e5 a7)))
  have u:=Z6e E.out
 case' inr.inr=>
  have t:=t.out;rw[hc]at t;have t:=Z6e t
  go_upto_region 10 with (first
   |(go_at_call 110;go_loud (refine(t.out _<|Z6r _ _).mono ?_;rintro e w7 ⟨rfl,e5⟩;rw[j6];have a7:=a5.out.below e5;obtain⟨y7,f7⟩:=a7.F;rw[E.out.1,E.out.2.1,E.out.2.2.1,E.out.2.2.2.1,E.out.2.2.2.2]at y7;have i8:=Z6e a7;clear e5 a7))
   |(go_at_call 111;go_loud (have g3:=Gp w7 _ (λb A=>A.2.1) h HH.out y i8.out.rd r HC.out;unfold Zx at g3;rw[hc,E.out.1,E.out.2.1,E.out.2.2.1,E.out.2.2.2.1,E.out.2.2.2.2]at g3;refine g3.mono ?_;clear g3;rintro e w8 ⟨x8,rfl,j3,Y,j5⟩;dsimp only at Y j5;obtain⟨v8,g8⟩:=(i8.out.below j3).F;rw[E.out.1,E.out.2.1,E.out.2.2.1,E.out.2.2.2.1,E.out.2.2.2.2]at v8;have a8:=i8.out.store (Q2:=KO) j3 Y (λk=>j5<|n1.out k);obtain⟨b0,k0,f0⟩:=W5<|Y 0 (by omega);obtain⟨b1,k1,f1⟩:=W5<|Y 1 (by omega);obtain⟨b2,k2,f2⟩:=W5<|Y 2 (by omega);obtain⟨b3,k3,f3⟩:=W5<|Y 3 (by omega);obtain⟨b4,k4,f4⟩:=W5<|Y 4 (by omega);unfold Zx;rw[f0,f1,f2,f3,f4];have z8:=a8.F.1;unfold WI at z8;rw[f0,f1,f2,f3,f4]at z8;have n4:=Z6e a8;have u:=Z6e<|And.intro f0<|And.intro f1<|And.intro f2<|And.intro f3 f4;clear j3 Y j5 a8 f0 f1 f2 f3 f4)))
 case' inl=>
  obtain⟨W8,rfl⟩:∃W8,W8=W6:=⟨_,rfl⟩;have d6:=HC;have g2:=hc;clear y6
 case' inr.inl=>
  obtain⟨W8,rfl⟩:∃W8,W8=w7:=⟨_,rfl⟩;have d6:=HC;have g2:=hc;clear y6 y7
 case' inr.inr=>
  obtain⟨W8,f9⟩:∃W8,WI w8 (xz<|xj w5) (.int .u64 (Xb h).V) (.int .i64 (Xb h).cap) (.int .i64 (Xb h).to) (.bool (Xb h).M) (.int .i64 (Xb h).O) (.slice b0 (I<|Zu (Xb h) 0) k0) (.slice b1 (I<|Zu (Xb h) 1) k1) (.slice b2 (I<|Zu (Xb h) 2) k2) (.slice b3 (I<|Zu (Xb h) 3) k3) (.slice b4 (I<|Zu (Xb h) 4) k4)=W8:=⟨_,rfl⟩;have a8:=n4.out;rw[u.out.1,u.out.2.1,u.out.2.2.1,u.out.2.2.2.1,u.out.2.2.2.2,f9]at a8;have o:=Z6e a8;unfold WI at f9;rw[f9];clear y6 y7 z8 f9 a8 v8 g8;cases g2:(Xb h).M;all_goals have d6:=Z6e g2
 all_goals
  obtain⟨y8,f8⟩:=o.out.F;rw[u.out.1,u.out.2.1,u.out.2.2.1,u.out.2.2.2.1,u.out.2.2.2.2]at y8;first
  | (have e7:=GN W8 _ (λb A=>A.2.1) _ o3 _ o.out.rd r8 (k:=m) (by omega)
     rw[<-HN.out.2]at e7;unfold Zx at e7;rw[u.out.1,u.out.2.1,u.out.2.2.1,u.out.2.2.2.1,u.out.2.2.2.2,show _=xk from d6.out]at e7
     go_upto_region 14 with (first
      |(go_at_call 8;go_loud (refine e7.mono ?_;clear e7;rintro e w9 ⟨x9,rfl,j4,X⟩;obtain⟨v9,g9⟩:=(o.out.below j4).F;rw[u.out.1,u.out.2.1,u.out.2.2.1,u.out.2.2.2.1,u.out.2.2.2.2]at v9;have a9:=o.out.store (Q2:=KO) j4 (λj hj=>U1 (k:=.u64) (X.own j hj) λc h1 h2=>⟨h1,h2⟩) λ_=>X;obtain⟨b0,k0,f0⟩:=ZV<|X.own 0 (by omega);obtain⟨b1,k1,f1⟩:=ZV<|X.own 1 (by omega);obtain⟨b2,k2,f2⟩:=ZV<|X.own 2 (by omega);obtain⟨b3,k3,f3⟩:=ZV<|X.own 3 (by omega);obtain⟨b4,k4,f4⟩:=ZV<|X.own 4 (by omega);unfold Zx;rw[f0,f1,f2,f3,f4];rw[f0,f1,f2,f3,f4]at a9;have l4:=Z6e a9;clear j4 X a9 f0 f1 f2 f3 f4))))
  |go_upto_region 14 with fail
 all_goals
  first
  | (obtain⟨W9,g0⟩:∃W9,WI w9 (xz<|xj w5) (.int .u64 g.V) (.int .i64 g.cap) (.int .i64 g.to) (.bool g.M) (.int .i64 g.O) (.slice b0 (I<|Zu g 0) k0) (.slice b1 (I<|Zu g 1) k1) (.slice b2 (I<|Zu g 2) k2) (.slice b3 (I<|Zu g 3) k3) (.slice b4 (I<|Zu g 4) k4)=W9:=⟨_,rfl⟩
     have a9:=l4.out;rw[g0]at a9;have d5:=Z6e a9;unfold WI at g0;rw[g0];clear y8 v9 g9 g0 a9 l4)
  | (obtain⟨W9,rfl⟩:∃W9,W9=W8:=⟨_,rfl⟩
     have m3:=HN.out.2.trans<|LP d6.out m;have d:=o.out;rw[<-m3]at d;have d5:=Z6e d;clear y8 d m3)
 all_goals
  clear o u a5 E d6 HC g2 hc;obtain⟨x9,d⟩:∃x9,PSt w W9 (xz<|xj w5) g x9 KO:=⟨_,d5.out⟩;obtain⟨c0,d0,e0⟩:=W5<|d.rd 0 Z0;obtain⟨c1,d1,e1⟩:=W5<|d.rd 1 Z0;obtain⟨c2,d2,e2⟩:=W5<|d.rd 2 Z0;obtain⟨c3,d3,e3⟩:=W5<|d.rd 3 Z0;obtain⟨c4,d4,e4⟩:=W5<|d.rd 4 Z0;obtain⟨y9,n6⟩:=d.F;rw[e0,e1,e2,e3,e4]at y9;have Z:=ET hg rg (n:=(m:Int)) Z0 (W:=W9) (λb A=>A.2.1) d.rd;unfold Zx at Z;rw[e0,e1,e2,e3,e4]at Z;have E:=Z6e<|And.intro e0<|And.intro e1<|And.intro e2<|And.intro e3 e4;have a5:=Z6e d;clear d5 d e0 e1 e2 e3 e4;cases e8:roomP g q m;case false=>
   have j7:res=(0,Hp.zero,7):=by rw[h6.out,e8];rfl
   rw[e8]at Z;subst j7
   go_wp2_with (first
    |(go_at_call 110;go_loud (refine Z.mono ?_;clear Z;rintro e f ⟨rfl,Q⟩;have B:=a5.out.below Q;obtain⟨r3,q5⟩:=B.R;have a:=Z6e B;clear Q B)))
   have o9:=Xo a.out.bj (.int .u64 0) (.int .i64 0) (.int .i64 0) (.bool xw) (.int .i64 0) (.slice U 0 0) (.slice U 0 0) (.slice U 0 0) (.slice U 0 0)<|.slice U 0 0;refine Z6x (v:=.tuple #[.int .u64 0,.agg ZE,.int .i64 7]) ?_ rfl ?_
   .simp[results,Tryz.results108,go_sem,o9,ZE]
   exact⟨λ_=>.slice U 0 0,rfl,XJ a.out.az Z0,UC _ _,λ_=>Gb _ _⟩
  case true=>
   have o0:I (Zu g 1)=I g.aa:=rfl;have g1:(I g.H:Int)+I g.aa+Yt q+m<=g.cap:=by simpa[roomP]using e8
   have i3:=rg.nj;obtain⟨K,hK⟩:∃K,m+I (Zu g 1)=K:=⟨_,rfl⟩;have l7:K<=4096:=Z0;have wk:IntKind.i64.wrap ((m:Int)+(I (Zu g 1):Int))=(K:Int):=Z5r;have o1:=NB (m:=m) (K:=K) Z0 Z0;have q8:((0:Int)< (m:Int))=True:=Z7G Z0;have HB:=Z6e<|And.intro g1<|And.intro i3<|And.intro hK l7;rw[e8]at Z;clear g1 i3 hK l7 o0
   go_upto_region 17 with (first
    |(go_at_call 110;go_loud (refine Z.mono ?_;clear Z;rintro e f ⟨rfl,Q⟩;have B:=a5.out.below Q;obtain⟨m9,l5⟩:=B.F;rw[E.out.1,E.out.2.1,E.out.2.2.1,E.out.2.2.2.1,E.out.2.2.2.2]at m9;have a:=Z6e B;clear Q B y9 n6)))
   obtain⟨O,C⟩:∃O,f.alloc (.cells (madeCells #[.int .u64 0] K) 24)=O:=⟨_,rfl⟩;rw[C];have b6:O.ownsRow (xz<|xj f) 24 1 (.slice (J ⟨xz<|xj f,0,U⟩) m K) m<|Y6 .u64<|List.replicate m 0:=by rw[<-C];exact NA (Z6i _) (by have:=HB.out.2.2.1;omega) HB.out.2.2.2
   have i7:xz (xj O)=xz (xj f)+1:=by rw[<-C];simp
   have i4:∀b,b<xz (xj f)->O.heap[b]?=f.heap[b]? :=λb L=>by rw[<-C];exact Z6m _ _ _ L
   have m1:O.cell? ⟨xz<|xj f,0,U⟩=J (.int .u64 0):=by rw[b6.cellAt 0 Z0];simp[Y6,show 0<m by omega]
   have m2:=S5 b6 (i:=0) Z0;have T:=(b6.stored 0<|.int .u64 wd).1;have h9:Below (xz<|xj w) w O:=by rw[<-C];exact a.out.az.alloc a.out.az.size _
   have HO:=Z6e<|And.intro T<|And.intro i7<|And.intro i4 h9;clear b6 T i4 h9 C m9 l5 o1 wk i7;go_upto_region 18 with fail;obtain⟨P,D⟩:∃P,O.setCell ⟨xz<|xj f,0,U⟩ (.int .u64 wd)=P:=⟨_,rfl⟩;rw[D];have m7:xz (xj P)=xz (xj f)+1:=by rw[<-D];simpa[World.setCell]using HO.out.2.1
   have b5:∀b,b<xz (xj f)->P.heap[b]?=f.heap[b]? :=λb L=>by rw[<-D];exact(Z6w _ _ _ _ (by show b≠xz (xj f);omega)).trans (HO.out.2.2.1 b L)
   have d9:Below (xz<|xj w) w P:=by rw[<-D];exact HO.out.2.2.2.setCell (by have:=a.out.az.size;exact this) _
   have o2:=ZL a.out.ej;have e9:=(b5 _ o2).trans a.out.ej;unfold YR at e9;rw[E.out.1,E.out.2.1,E.out.2.2.1,E.out.2.2.2.1,E.out.2.2.2.2]at e9;have o6:∀j,P.cell? ⟨xz<|xj w5,j,U⟩=(#[.int .u64 g.V,.int .i64 g.cap,.int .i64 g.to,.bool g.M,.int .i64 g.O,.slice c0 (I<|Zu g 0) d0,.slice c1 (I<|Zu g 1) d1,.slice c2 (I<|Zu g 2) d2,.slice c3 (I<|Zu g 3) d3,.slice c4 (I<|Zu g 4) d4]:Array Value)[j]? :=λj=>Z6j _ _ _ _ _ _ e9;have i5:Rd P (λc=>xz (xj w)+3<=c/\c<xz (xj f)/\c≠xz (xj w5)) (.sl<|g.aa.map vu)<|.slice c1 (I<|Zu g 1) d1:=by
    have:=a.out.rd 1 Z0;rw[E.out.2.1]at this;exact this.keep (λb L=>b5 b L.2.1) λ_ q=>q
   have T:P.ownsRow (xz<|xj f) 24 1 (.slice (J ⟨xz<|xj f,0,U⟩) m K) m<|Y6 .u64<|wd::List.replicate n 0:=by
    have:=HO.out.1;rw[D,<-Jl]at this;rw[show wd::List.replicate n 0=(List.replicate m 0).set 0 wd by rw[<-hm,List.replicate_succ];rfl];exact this
   obtain⟨d8,f5,k6,l9,e6,S⟩:=Pr Z0 T i5 (by have:=HB.out;have:I (Zu g 1)=I g.aa:=rfl;omega) 29;obtain⟨M,b9⟩:∃M,Yj g wd n=M:=⟨_,rfl⟩;obtain⟨N,hx⟩:∃N:Z3,(λj=>if j=1 then .slice d8 (m+I g.aa) f5 else x9 j)=N:=⟨_,rfl⟩;have h4:=(S.block _ Z0 Z5j).trans e9;have o7:∀j,k6.cell? ⟨xz<|xj w5,j,U⟩=(#[.int .u64 g.V,.int .i64 g.cap,.int .i64 g.to,.bool g.M,.int .i64 g.O,.slice c0 (I<|Zu g 0) d0,.slice c1 (I<|Zu g 1) d1,.slice c2 (I<|Zu g 2) d2,.slice c3 (I<|Zu g 3) d3,.slice c4 (I<|Zu g 4) d4]:Array Value)[j]? :=λj=>Z6j _ _ _ _ _ _ h4;have n5:∀j,k6.frozen? ⟨xz<|xj w5,j,U⟩=xw:=λj=>Y7 h4;obtain⟨d7,H⟩:∃d7,k6.setCell ⟨xz<|xj w5,6,U⟩ (.slice d8 (m+I g.aa) f5)=d7:=⟨_,rfl⟩;have g5:N 0=.slice c0 (I<|Zu g 0) d0:=by rw[<-hx];exact E.out.1
   have g6:N 1=.slice d8 (m+I g.aa) f5:=by rw[<-hx];rfl
   have g7:N 2=.slice c2 (I<|Zu g 2) d2:=by rw[<-hx];exact E.out.2.2.1
   have h0:N 3=.slice c3 (I<|Zu g 3) d3:=by rw[<-hx];exact E.out.2.2.2.1
   have h3:N 4=.slice c4 (I<|Zu g 4) d4:=by rw[<-hx];exact E.out.2.2.2.2
   have m8:=S.size;have b7:PSt w d7 (xz<|xj w5) M N KO:=by
    have:=a.out.dp (W':=d7) (l:=(wd::List.replicate n 0)++g.aa) (v:=.slice d8 (m+I g.aa) f5) ?_ ?_ ?_ ?_ ?_;rw[<-b9,<-hx];exact this;rw[<-H];simp[World.setCell];omega;intro b L n8;rw[<-H];exact(Z6w _ _ _ _ n8).trans ((S.block _ Z0 Z5j).trans<|b5 b L);rw[<-H];unfold YR;have e0:=E.out.1;have e2:=E.out.2.2.1;have e3:=E.out.2.2.2.1;have e4:=E.out.2.2.2.2;simp[World.setCell,Z6I,h4,e0,e2,e3,e4];rw[<-H];refine Yx e6 λb L=>Z6w _ _ _ _ ?_;have:=(e6.lt b L).1;show b≠xz (xj w5);omega;rw[<-H];exact(Below.grown d9 S d9.size (λr hr=>by cases hr;have:=a.out.az.size;omega)).setCell (by show xz (xj w)<=xz (xj w5);have:=a.out.nB;omega) _
   go_upto_region 19 with (at_builtin;refine Lib.wpList_append_run _ rfl _ _ 29 29 rfl _ _ rfl rfl _ _ l9 ?_);have g1:(I g.H:Int)+I g.aa+m<=g.cap:=by have:=HB.out.1;omega
   have n9:ZC (Zv M)=xk:=by rw[<-b9];exact Ej rg.al hm g1
   have hu:Zy wd:=by
    have:=E5 n pt;rw[m5]at this;unfold Zy;dsimp only at this;omega
   have n7:M.ok:=by rw[<-b9];exact Eh hg hu (by have:=HB.out;have:I (Zu g 1)=I g.aa:=rfl;omega)
   have m6:Y1 (Zv M) 2 0=(ZD (Zv M) 2,0)/\Zy (ZD (Zv M) 2)/\X6 (ZD (Zv M) 2)=(ZG (Zv M) 2 0,0):=by
    have:=Pt (g:=g) (wd:=wd) (n:=n) (by rw[b9];exact n9);rw[b9]at this;exact this
   obtain⟨n0,l6⟩:=b7.F;rw[g5,g6,g7,h0,h3]at n0;have g4:=Rq (w:=d7) (λb L=>L.2.1) b7.rd;unfold Zx at g4;rw[g5,g6,g7,h0,h3]at g4;have l2:=Z6e b7;have HX:=Z6e<|And.intro g5<|And.intro g6<|And.intro g7<|And.intro h0 h3;have HP:=Z6e<|And.intro m6 n7;clear e9 o6 i5 T l9 e6 S h4 o7 n5 H b7 g5 g6 g7 h0 h3 m6 m8 D b5 d9 m7 m1 m2 hx
   go_upto_region 25 with (first
    |(go_at_call 19;go_loud (refine g4.mono ?_;clear g4;rintro e o4 ⟨rfl,i0⟩;unfold Wb;have k7:=Z6e i0;clear i0))
    |(go_at_call 31;go_loud (refine(AG HP.out.2.al 2 0 o4).mono ?_;rintro e o5 ⟨rfl,i1⟩;rw[HP.out.1.1];dsimp only;have k8:=Z6e i1;clear i1))
    |(go_at_call 32;go_loud (refine(Eu HP.out.1.2.1 o5).mono ?_;rintro e r5 ⟨rfl,i2⟩;rw[HP.out.1.2.2];dsimp only;have b8:=((l2.out.below k7.out).below k8.out).below i2;obtain⟨o8,p7⟩:=b8.F;rw[HX.out.1,HX.out.2.1,HX.out.2.2.1,HX.out.2.2.2.1,HX.out.2.2.2.2]at o8;obtain⟨r4,q6⟩:=b8.R;have h7:=Z6e b8;clear i2 b8 n0 l6)))
   have j7:res=(ZG (Zv M) 2 0,M,0):=by rw[h6.out,e8,b9];rfl
   subst j7;go_region;all_goals
    go_wp2;try simp only[Exit.inBlock,Exit.then]
    have z:=Xo h7.out.bj (.int .u64 M.V) (.int .i64 M.cap) (.int .i64 M.to) (.bool M.M) (.int .i64 M.O) (.slice c0 (I<|Zu g 0) d0) (.slice d8 (m+I g.aa) f5) (.slice c2 (I<|Zu g 2) d2) (.slice c3 (I<|Zu g 3) d3)<|.slice c4 (I<|Zu g 4) d4;refine Z6x (v:=.tuple #[.int .u64<|ZG (Zv M) 2 0,Zx M N,.int .i64 0]) ?_ rfl ?_
    .unfold Zx;rw[HX.out.1,HX.out.2.1,HX.out.2.2.1,HX.out.2.2.2.1,HX.out.2.2.2.2];simp[results,Tryz.results108,go_sem,z]
    exact Ps h7.out _
end Vm
end
section
namespace Vm
open Go Go.Proofs
def Bz{h:Hp}(y:h.ok)(z:h.to=0\/h.to=1):(Xb h).ok:=by
 have:=yj y z<|I h.E;unfold Xb V1;obtain⟨d,f,g,j,k,l,r,t,n,o,p,u,x,q⟩:=this;split;exact⟨d,f,g,j,k,l,r,t,n,o,p,u,x,q⟩;exact⟨d,f,g,j,k,l,Z7T _,Z7T _,n,o,p,λw a=>(by cases a),λw a=>(by cases a),q⟩
end Vm
end
section
namespace Vm
open Go Go.Proofs Go.RowKit
def placeG(h:Hp)(p:Pts)(n:Nat):Hp:=scanK (if h.M=xw/\roomP h p (n+1:Nat)=xw then Xb h else h)<|n+1
def Qb(h:Hp)(p q:Pts)(n:Nat)(wd:Int):Int×Hp×Int:=if roomP (placeG h p n) q (n+1:Nat)then(ZG (Zv<|Yj (placeG h p n) wd n) 2 0,Yj (placeG h p n) wd n,0)else(0,Hp.zero,7)
def Mn{h:Hp}{p:Pts}(r:Rt h p)(a:h.M=xw):∃q,Rt (Xb h) q:=by
 obtain⟨g,q,_,e,d,_⟩:=yk r a;exact⟨_,by rw[e];exact d⟩
def GL(w:Z4)(G:Z6)(z:∀b,G b->b<xz (xj w))(h:Hp)(t:h.ok)(a:Z3)(C:∀j,j<5->Rd w G (.sl<|(Zu h j).map vu) (a j))(n:Nat)(pt wd:Int)(B:n<=255)(x:Xg n pt=(wd,0)){p:Pts}(r:Rt h p):
  ∃q,Rt (placeG h p n) q/\(placeG h p n).ok/\Calls Tryz.prog 108 #[Zx h a,.agg #[.int .i64 (n:Nat),.int .i64 pt]] w (Qz w (Qb h p q n wd)<|0<I h.E):=by
 have key:∀d p8,d.ok->Rt d p8->(if h.M=xw/\roomP h p (n+1:Nat)=xw then Xb h else h)=d->((h.M=xk/\d=h)\/(h.M=xw/\roomP h p (n+1:Nat)=xk/\d=h)\/(h.M=xw/\roomP h p (n+1:Nat)=xw/\d=Xb h))->∃q,Rt (placeG h p n) q/\(placeG h p n).ok/\Calls Tryz.prog 108 #[Zx h a,.agg #[.int .i64 (n:Nat),.int .i64 pt]] w (Qz w (Qb h p q n wd)<|0<I h.E):=by
  intro d p8 o y e A;obtain⟨q,sc⟩:=y.ei<|n+1;have u:placeG h p n=scanK d (n+1):=by unfold placeG;rw[e]
  have k:(placeG h p n).ok:=by rw[u];exact Sb o y _
  have l:Rt (placeG h p n) q:=by rw[u];exact sc.rt
  exact⟨q,l,k,GM w G z h t a C n (n+1) pt wd B rfl x r k l o y A u rfl id⟩
 by_cases f:h.M=xk;exact key h p t r (by rw[f];simp)<|.inl ⟨f,rfl⟩;have f:h.M=xw:=Z5y;by_cases g:roomP h p (n+1:Nat)=xk;exact key h p t r (by rw[g];simp)<|.inr<|.inl ⟨f,g,rfl⟩;have g:roomP h p (n+1:Nat)=xw:=Z5Y;obtain⟨q,F⟩:=Mn r f;have D:h.to=0\/h.to=1:=(Xe.1 r.al).2.2.2.2.1;exact key (Xb h) q (Bz t D) F (by rw[g,f];simp)<|.inr<|.inr ⟨f,g,rfl⟩
def Ol(w:Z4)(h:Hp)(H:Z3){k s i z pp v v' er:Int}{r':Nat}{g:Hp}{Q:Prop}
  (hP:∀W,Below (xz<|xj w) w W->Calls Tryz.prog 108 #[Zx h H,.agg #[.int .i64 z,.int .i64 pp]] W (Qz W (v',g,er) Q))
  {res:Hp×Int} (he:(¬er=0/\res=(Hp.zero,er))\/(er=0/\Q/\r'<I g.E/\res=(ZM g 4 r' v',0))):
  Calls Tryz.prog 107 #[.agg<|Yu k r' s i z pp v,Zx h H] w (U7 w res):=by
 have HP:=Z6e hP;have HE:=Z6e he;obtain⟨W0,D,b0,u⟩:=za w (.cells (Yu k r' s i z pp v) 118)<|.cells (YR h H) 31;obtain⟨p0,s0,_,_⟩:=u.F;have Y:=Z6e u;have N:=Z6e D;unfold YR Yu at D;unfold YR at s0;unfold Yu at p0;have C:=hP W0 u.az;unfold Zx at C;clear hP u he;unfold Zx Yu;go_enter Tryz.func107,Tryz.ntmps107
 go_upto_region 2 with (first
  |(go_at_call 108;go_loud (refine C.mono ?_;clear C;rintro e w5 ⟨y,rfl,G,a,f⟩;dsimp only at G a f;obtain⟨a0,q0,n⟩:=W5<|a 0 (by omega);obtain⟨a1,q1,o⟩:=W5<|a 1 (by omega);obtain⟨a2,q2,p⟩:=W5<|a 2 (by omega);obtain⟨a3,q3,q⟩:=W5<|a 3 (by omega);obtain⟨a4,q4,d⟩:=W5<|a 4 (by omega);dsimp only;unfold Zx;rw[n,o,p,q,d];have A:=Z6e<|And.intro G f;clear G a f p0 s0)))
 obtain⟨O,r⟩:∃O,w5.alloc (.cells #[.int .u64 g.V,.int .i64 g.cap,.int .i64 g.to,.bool g.M,.int .i64 g.O,.slice a0 (I<|Zu g 0) q0,.slice a1 (I<|Zu g 1) q1,.slice a2 (I<|Zu g 2) q2,.slice a3 (I<|Zu g 3) q3,.slice a4 (I<|Zu g 4) q4] 31)=O:=⟨_,rfl⟩;rw[r];have E:=Z6e<|And.intro n<|And.intro o<|And.intro p<|And.intro q d;have K:=((Y.out.below A.out.1).below (W':=O) (by rw[<-r];exact(Z6r _ _).alloc (Z6i _) _));have B:=Z6e K;have b1:O.heap[xz (xj w)+1]?=_:=K.b1;have X:=Z6e r;clear K r n o p q d b1 D;obtain⟨a6,rfl⟩|⟨rfl,hQ,P,rfl⟩:=HE.out
 .have a7:=Z7d a6;obtain⟨r6,_,z6,f6⟩:=B.out.F;unfold ZE at z6;go_wp2;have L:=Xo B.out.b2 (.int .u64 0) (.int .i64 0) (.int .i64 0) (.bool xw) (.int .i64 0) (.slice U 0 0) (.slice U 0 0) (.slice U 0 0) (.slice U 0 0)<|.slice U 0 0;refine Z6x (v:=.tuple #[.agg ZE,.int .i64 er]) ?_ rfl ?_
  .simp[results,Tryz.results107,go_sem,L,ZE]
  exact Ss B.out.az er
 .have l:MSt w O 118 (Yu k r' s i z pp v) g y<|xz<|xj w5:=Jc (by have:=A.out.1;rw[<-N.out]at this;exact this) (by have:=A.out.2 hQ;rw[<-N.out]at this;exact this) (by rw[E.out.1,E.out.2.1,E.out.2.2.1,E.out.2.2.2.1,E.out.2.2.2.2];exact X.out);obtain⟨n,o,p,q,d⟩:=E.out;obtain⟨g4,a5⟩:=T5 (l.own.own 4 Z0) d (by show 0<I g.E;omega);subst a5;have t:=l.own.own 4 Z0;rw[d]at t;have S:r'< I (Zu g 4):=P;obtain⟨rv,T⟩:∃rv,(Zu g 4)[r']?=J rv:=⟨_,Z6b S⟩;have a8:=Vn t T;have a9:=S5 t (i:=r') Z0;have x:=l.put (j:=4) (i:=r') Z0 d v';obtain⟨f1,f2⟩:=l.F;rw[n,o,p,q,d]at f2;obtain⟨f3,f4⟩:=x.F;obtain⟨s1,s2,s3,s4,s5⟩:=Wq g 4 r' v';rw[s1,s2,s3,s4,s5,n,o,p,q,d]at f4;obtain⟨r3,r4⟩:=x.R;unfold Yu at f1 f3;have M:=Z6e x;clear l x t T s1 s2 s3 s4 s5 n o p q d HE P;go_wp2;obtain⟨n,o,p,q,d⟩:=E.out;have Z:=SE g 4 r' v' y;have L:=Xo M.out.bj (.int .u64 g.V) (.int .i64 g.cap) (.int .i64 g.to) (.bool g.M) (.int .i64 g.O) (.slice a0 (I<|Zu g 0) q0) (.slice a1 (I<|Zu g 1) q1) (.slice a2 (I<|Zu g 2) q2) (.slice a3 (I<|Zu g 3) q3)<|.slice (J ⟨g4,0,U⟩) (I<|Zu g 4) q4;refine Z6x (v:=.tuple #[Zx (ZM g 4 r' v') y,.int .i64 0]) ?_ rfl ?_
  .rw[Z];unfold Zx;rw[n,o,p,q,d];simp[results,Tryz.results107,go_sem,L]
  exact RB M.out
structure LSt (w W:World) (ic:Array Value) (h:Hp) (src:Nat->Value):Prop where
 ic:W.heap[xz<|xj w]?=J (.cells ic 119 (0,0))
 oj:W.heap[xz (xj w)+1]?=J (.cells #[.int .u64 h.V,.int .i64 h.cap,.int .i64 h.to,.bool h.M,.int .i64 h.O,src 0,src 1,src 2,src 3,src 4] 31 (0,0))
 bj:W.heap[xz (xj w)+2]?=J (.cells ZE 31 (0,0))
 az:Below (xz<|xj w) w W
def LSt.below{w W W':Z4}{a:Z9}{h:Hp}{d:Z3}(s:LSt w W a h d)(f:Below (xz<|xj W) W W'):LSt w W' a h d:=
 ⟨(f.block _<|ZL s.ic).trans s.ic,(f.block _<|ZL s.oj).trans s.oj,(f.block _<|ZL s.bj).trans s.bj,s.az.trans<|f.mono s.az.size⟩
def LSt.drew{w W:Z4}{a:Z9}{h:Hp}{d:Z3}(s:LSt w W a h d):LSt w W.drew a h d:=⟨s.ic,s.oj,s.bj,s.az.drew⟩
def Nz(w:Z4)(d:Z9)(h:Hp)(a:Z3):∃W,((w.alloc<|.cells d 119).alloc<|.cells #[.int .u64 h.V,.int .i64 h.cap,.int .i64 h.to,.bool h.M,.int .i64 h.O,a 0,a 1,a 2,a 3,a 4] 31).alloc (.cells ZE 31)=W/\LSt w W d h a:=by
 refine⟨_,rfl,?_,?_,?_,(((Z6r _ _).alloc (Z6i _) _).alloc Z1 _).alloc Z5j _⟩;rw[Z6m _ _ _ Z5j,Z6m _ _ _ Z1];exact Z6u _ _;rw[Z6m _ _ _ Z1];exact A6 _ _ _;have:=Z6u ((w.alloc<|.cells d 119).alloc<|.cells #[.int .u64 h.V,.int .i64 h.cap,.int .i64 h.to,.bool h.M,.int .i64 h.O,a 0,a 1,a 2,a 3,a 4] 31)<|.cells ZE 31;simpa using this
def LSt.F{w W:Z4}{d:Z9}{h:Hp}{a:Z3}(s:LSt w W d h a):(∀j,W.cell? ⟨xz<|xj w,j,U⟩=d[j]?)/\(∀j,W.cell? ⟨xz (xj w)+1,j,U⟩=(#[.int .u64 h.V,.int .i64 h.cap,.int .i64 h.to,.bool h.M,.int .i64 h.O,a 0,a 1,a 2,a 3,a 4]:Array Value)[j]?):=
 ⟨λj=>Z6j _ _ _ _ _ _ s.ic,λj=>Z6j _ _ _ _ _ _ s.oj⟩
def PN{W:Z4}{G:Z6}{l:Z5}{a:Option Addr}{n c:Nat}(h:Rd W G (.sl<|l.map vu)<|.slice a n c):I l<=c/\c<=maxLen:=by
 generalize g:l.map vu=L at h;have j:I L=I l:=by rw[<-g,Z6D]
 cases h with
 |nil _ _ d=>exact⟨by simp at j;omega,d⟩
 |sl _ b o cap k p d f=>exact⟨Z0,f⟩
def Z0F{w W:Z4}{G:Z6}(r:∀b,G b->b<xz (xj w))(t:Below (xz<|xj w) w W){h:Hp}{f:Z3}(F:∀j,j<5->Rd w G (.sl<|(Zu h j).map vu) (f j))(B:h.ok)(C:ZC (Zv h)=xk){w0 u:Int}{j a n m:Nat}(O:ObAt h w0 j a n m u):
  Calls Tryz.prog 115 #[Zx h f,.int .u64 w0] W λe x=>∃g off gc,f j=.slice (J ⟨g,off,U⟩) (I<|Zu h j) gc/\zy W g (off+(a+1)) (off+(a+1+m)) m (n-m) e x:=by
 have l:j<5:=by obtain rfl|rfl:=O.iw<;>omega
 have k:∀j,j<5->Rd W G (.sl<|(Zu h j).map vu) (f j):=λj l=>(F j l).keep (λb p=>t.block b<|r b p) λ_ q=>q;obtain⟨g,off,cap,o,y,z⟩:=Tq (k j l) O.Y;have d:=k j l;rw[o]at d;replace d:=PN d;rw[O.eq];refine(Fj W G (λc A=>Z6o (r c A) t.size) h B f k C O.iw O.Y O.un O.mn O.ah (by rw[<-O.eq];exact O.u64) o y z d).mono ?_;exactλe x D=>⟨g,off,cap,o,D⟩
def LSt.R{w W:Z4}{a:Z9}{h:Hp}{d:Z3}(s:LSt w W a h d):(∀j,W.cell? ⟨xz (xj w)+1+1,j,U⟩=(#[.int .u64 0,.int .i64 0,.int .i64 0,.bool xw,.int .i64 0,.slice U 0 0,.slice U 0 0,.slice U 0 0,.slice U 0 0,.slice U 0 0]:Array Value)[j]?)/\∀j,W.frozen? ⟨xz (xj w)+1+1,j,U⟩=xw:=
 ⟨λj=>Z6j _ _ _ _ _ _ s.bj,λj=>Y7 s.bj⟩
def O5{w a d:Z4}{f:Z9}{h g:Hp}{p x:Z3}(s:LSt w a f h p)(k:Below (xz<|xj a.drew) a.drew d)(n:HOwn (xz<|xj a.drew) d g x):
  MSt w (d.alloc<|.cells #[.int .u64 g.V,.int .i64 g.cap,.int .i64 g.to,.bool g.M,.int .i64 g.O,x 0,x 1,x 2,x 3,x 4] 31) 119 f g x (xz<|xj d):=by
 have t:xz (xj a.drew)=xz (xj a):=rfl;have q:=ZL s.bj;have r:=k.size;refine⟨(Z6m _ _ _ (by have:=ZL s.ic;omega)).trans<|(k.block _<|ZL s.ic).trans s.ic,(Z6m _ _ _ Z0).trans<|(k.block _ q).trans s.bj,Z6u _ _,⟨λj l=>SR (Yx (n.own j l) λc o=>Z6m _ _ _ ((n.own j l).lt c o).2) Z0,n.apart⟩,λj l c o=> ?_,(s.az.drew.trans<|k.mono s.az.size).alloc (by have:=s.az.size;omega) _,Z0⟩;have:=((n.own j l).lt c o).2;omega
def O4{w a d:Z4}{f:Z9}{h g:Hp}{t x:Z3}(s:LSt w a f h t)(k:Below (xz<|xj<|a.drew.alloc<|.cells ZE 31) (a.drew.alloc<|.cells ZE 31) d)(n:HOwn (xz<|xj<|a.drew.alloc<|.cells ZE 31) d g x):
  MSt w ((((((((((d.setCell ⟨xz<|xj a,0,U⟩<|.int .u64 g.V).setCell ⟨xz<|xj a,1,U⟩<|.int .i64 g.cap).setCell ⟨xz<|xj a,2,U⟩<|.int .i64 g.to).setCell ⟨xz<|xj a,3,U⟩<|.bool g.M).setCell ⟨xz<|xj a,4,U⟩<|.int .i64 g.O).setCell ⟨xz<|xj a,5,U⟩<|x 0).setCell ⟨xz<|xj a,6,U⟩<|x 1).setCell ⟨xz<|xj a,7,U⟩<|x 2).setCell ⟨xz<|xj a,8,U⟩<|x 3).setCell ⟨xz<|xj a,9,U⟩<|x 4) 119 f g x (xz<|xj a):=by
 have z:xz (xj<|a.drew.alloc<|.cells ZE 31)=xz (xj a)+1:=by rw[Z7V];rfl
 have y:=ZL s.bj;have u:=ZL s.ic;have A:=k.size;rw[z]at k n;have q:∀c,c<xz (xj a)->((((((((((d.setCell ⟨xz<|xj a,0,U⟩<|.int .u64 g.V).setCell ⟨xz<|xj a,1,U⟩<|.int .i64 g.cap).setCell ⟨xz<|xj a,2,U⟩<|.int .i64 g.to).setCell ⟨xz<|xj a,3,U⟩<|.bool g.M).setCell ⟨xz<|xj a,4,U⟩<|.int .i64 g.O).setCell ⟨xz<|xj a,5,U⟩<|x 0).setCell ⟨xz<|xj a,6,U⟩<|x 1).setCell ⟨xz<|xj a,7,U⟩<|x 2).setCell ⟨xz<|xj a,8,U⟩<|x 3).setCell ⟨xz<|xj a,9,U⟩<|x 4).heap[c]?=a.heap[c]? :=λc l=>(XK Z0).trans<|(k.block c Z0).trans<|Z6m a.drew _ c l;have p:Below (xz<|xj w) w d:=(s.az.drew.alloc s.az.size _).trans<|k.mono (by have:=s.az.size;omega);have r:d.heap[xz<|xj a]?=J (.cells ZE 31 (0,0)):=(k.block _ Z0).trans<|Z6u a.drew _;refine⟨(q _ u).trans s.ic,(q _ y).trans s.bj,Qc r,⟨λj o=>SR (Yx (n.own j o) λc l=>XK (by have:=((n.own j o).lt c l).1;omega)) Z0,n.apart⟩,λj o c l=> ?_,XJ p s.az.size,Z0⟩;have:=((n.own j o).lt c l).1;omega
def Ns(w:Z4)(G:Z6)(hG:∀b,G b->b<xz (xj w))(h:Hp)(hh:h.ok)(f:Z3)(hs:∀j,j<5->Rd w G (.sl<|(Zu h j).map vu) (f j))(hl:ZC (Zv h)=xk){k z pp v i w0:Int}{s r':Nat}(hr:h.E[s]?=J w0)(j1:r'<I h.E)(hi:ZP i)
  {res:Hp×Int} (hO:(w0=0/\res=(Hp.zero,6))\/∃j a n m u,ObAt h w0 j a n m u/\((¬(0<=i/\i< (m:Nat))/\res=(Hp.zero,1))\/
   ∃(Z:Nat) (pv L:Int) (g:Hp),i=Z/\Z<m/\(Zu h j)[a+1+Z]?=J pv/\Zy pv/\fwd h pv=(L,g,0)/\g.ok/\g.E=h.E/\ZC (Zv g)=xk/\ObAt g w0 j a n m u/\res=(ZM (ZM g j (a+1+Z) L) 4 r' L,0))):
  Calls Tryz.prog 114 #[.agg<|Yu k r' s i z pp v,Zx h f] w (U7 w res):=by
 obtain⟨b4,o4,c4,S,f5,b8⟩:=Tq (hs 4 Z0) hr;have l8:s<I h.E:=(Z6d.1 hr).1;have i5:=hG b4 b8;obtain⟨h0,N⟩|⟨j,a,n,m,u,O,d2⟩:=hO;case' inl=>have H0:=Z6e h0
 case' inl=>have a9:=Z6e N
 case' inl=>clear h0 N
 case' inr=>have HO:=Z6e O
 case' inr=>have e8:=Z6e d2
 case' inr=>clear O d2
 all_goals
  have HS:=Z6e hs;have i0:=Z6e hr;have HH:=Z6e hh;have E4:=Z6e S;obtain⟨W3,b0,h8⟩:=Nz w #[.int .i64 k,.int .i64 r',.int .i64 s,.int .i64 i,.int .i64 z,.int .i64 pp,.int .u64 v] h f;have X:∀u,LSt w u #[.int .i64 k,.int .i64 r',.int .i64 s,.int .i64 i,.int .i64 z,.int .i64 pp,.int .u64 v] h f->(λK=>(∀j,K.cell? ⟨xz<|xj w,j,U⟩=(#[.int .i64 k,.int .i64 r',.int .i64 s,.int .i64 i,.int .i64 z,.int .i64 pp,.int .u64 v]:Array Value)[j]?)/\(∀j,K.cell? ⟨xz (xj w)+1,j,U⟩=(#[.int .u64 h.V,.int .i64 h.cap,.int .i64 h.to,.bool h.M,.int .i64 h.O,f 0,f 1,f 2,f 3,.slice (J ⟨b4,o4,U⟩) (I h.E) c4]:Array Value)[j]?)/\K.cell? ⟨b4,o4+s,U⟩=J (.int .u64 w0)/\LSt w K #[.int .i64 k,.int .i64 r',.int .i64 s,.int .i64 i,.int .i64 z,.int .i64 pp,.int .u64 v] h f) u:=λu st=>by
   obtain⟨f1,f2⟩:=st.F;rw[show f 4=_ from E4.out]at f2;exact⟨f1,f2,(st.az.cell (p:=⟨b4,o4+s,U⟩) i5).trans f5,st⟩
  have b7:=Z6e X;have D:=X W3.drew h8.drew;unfold Zx Yu;rw[show f 4=_ from S];unfold ZE at b0;rw[show f 4=_ from S]at b0;clear hs hh hr S f5 b8 X h8;go_enter Tryz.func114,Tryz.ntmps114;go_wp2;try rw[show I (Zu h 4)=(I h.E) from rfl]at b0
  try rw[b0]
  clear b0
  go_region_held3 (λK=>(∀j,K.cell? ⟨xz<|xj w,j,U⟩=(#[.int .i64 k,.int .i64 r',.int .i64 s,.int .i64 i,.int .i64 z,.int .i64 pp,.int .u64 v]:Array Value)[j]?)/\(∀j,K.cell? ⟨xz (xj w)+1,j,U⟩=(#[.int .u64 h.V,.int .i64 h.cap,.int .i64 h.to,.bool h.M,.int .i64 h.O,f 0,f 1,f 2,f 3,.slice (J ⟨b4,o4,U⟩) (I h.E) c4]:Array Value)[j]?)/\K.cell? ⟨b4,o4+s,U⟩=J (.int .u64 w0)/\LSt w K #[.int .i64 k,.int .i64 r',.int .i64 s,.int .i64 i,.int .i64 z,.int .i64 pp,.int .u64 v] h f) (first|exact D|assumption)
   (first
    |(go_at_call 115;have C:=jT (w0:=w0) W3.drew h f H0.out;unfold Zx at C;rw[show f 4=_ from E4.out]at C;refine C.mono ?_;rintro e k5 ⟨rfl,a6⟩;have e9:=b7.out _<|D.2.2.2.below a6)
    |(go_at_call 115;have C:=Z0F hG D.2.2.2.az HS.out HH.out hl HO.out;unfold Zx at C;rw[show f 4=_ from E4.out]at C;refine C.mono ?_;rintro e k5 ⟨g0,o0,gc,g1,p1,l1,c1,p2,l2,c2,rfl,i8,i9,g7,g9,a6⟩;have e9:=b7.out _<|D.2.2.2.below a6))
  obtain⟨f1,f2,f3,b3⟩:=e9;obtain⟨r3,r4⟩:=b3.R;have a5:=Z6e b3;rename_i Y;clear D b3 Y
 .have e7:=Z6e<|And.intro g1<|And.intro g7<|And.intro g9<|And.intro i8 i9;clear g1 g7 g9 a6;have b9:j<5:=Z61;have g3:m<=1000000:=by have:=VY HH.out j;have:=HO.out.ah;have:=HO.out.mn;omega
  obtain⟨g6,N⟩|⟨Z,pv,L,g,rfl,l6,d7,j0,f6,f7,f9,f8,OG,N⟩:=e8.out
  .have HW:=λW=>Qt W hi (p:=p1) (n:=m) (c:=c1) g3;rw[Z8t g6]at HW;have d4:=Z6e HW;have a9:=Z6e N;clear HW N g6 f2 f3 r3 r4
   go_wp2_with (first
    |(go_at_call 116;go_loud (refine(d4.out _).mono ?_;rintro e A ⟨rfl,M⟩;have l:=a5.out.below M;obtain⟨k1,k2⟩:=l.F;obtain⟨r5,r6⟩:=l.R;have B:=Z6e l;clear l M)))
   rw[a9.out];have b6:=Xo B.out.bj (.int .u64 0) (.int .i64 0) (.int .i64 0) (.bool xw) (.int .i64 0) (.slice U 0 0) (.slice U 0 0) (.slice U 0 0) (.slice U 0 0)<|.slice U 0 0;refine Z6x (v:=.tuple #[.agg ZE,.int .i64 1]) ?_ rfl ?_
   .simp[results,Tryz.results114,go_sem,b6,ZE]
   exact Ss B.out.az 1
  .have HW:=λW=>Qt W hi (p:=p1) (n:=m) (c:=c1) g3;rw[Z7H<|And.intro Z0 Z0]at HW;have g8:p1=J ⟨g0,o0+(a+1),U⟩:=e7.out.2.1 Z0;subst g8;obtain⟨gq,oq,cq,e1,cc,gg⟩:=Tq (HS.out j b9) d7;have i6:=hG gq gg;have b2:=e1.symm.trans e7.out.1;simp only[Value.slice.injEq,Z6c,Addr.mk.injEq]at b2;obtain⟨⟨rfl,rfl,-⟩,-,rfl⟩:=b2;have d4:=Z6e HW;have a9:=Z6e N;rw[<-Z77 oq (a+1) Z]at cc;have HC:=Z6e cc;have T:=Z6e<|And.intro OG<|And.intro f7<|And.intro f9 f8;have e6:=Z6e<|And.intro f6<|And.intro d7 j0;clear HW N cc OG f7 f9 f8 f6 e1 d7 f3
   go_wp2_with (first
    |(go_at_call 116;go_loud (refine(d4.out _).mono ?_;rintro e A ⟨rfl,M⟩;have l:=a5.out.below M;obtain⟨k1,k2⟩:=l.F;rw[show f 4=_ from E4.out]at k2;obtain⟨r5,r6⟩:=l.R;have k3:=(l.az.cell (p:=⟨gq,oq+(a+1)+Z,U⟩) i6).trans HC.out;have sa:=λo=>(l.drew.below<|(Z6r _ _).alloc (Z6i _) o).F;have j2:=λo j=>(sa o).1 j;have h7:=λo j=>(sa o).2 j;simp only[show f 4=_ from E4.out]at h7;have j3:=λo=>(Z7c A.drew o ⟨gq,oq+(a+1)+Z,U⟩ (by have:=l.az.size;show gq<xz (xj A);omega)).trans k3;have j4:gq<xz (xj A):=(by have:=l.az.size;omega);have j5:¬gq=xz (xj A):=(by omega);have j6:¬xz (xj A)=gq:=(by omega);have j7:xz (xj w)<xz (xj A):=ZL l.ic;have j8:xz (xj w)+1<xz (xj A):=ZL l.oj;have j9:¬xz (xj w)=xz (xj A):=(by omega);have k0:¬xz (xj w)+1=xz (xj A):=(by omega);have B:=Z6e l;clear l M sa)))
   have hF:∀W,Below (xz<|xj w) w W->Calls Tryz.prog 43 #[.agg #[.int .u64 h.V,.int .i64 h.cap,.int .i64 h.to,.bool h.M,.int .i64 h.O,f 0,f 1,f 2,f 3,.slice (J ⟨b4,o4,U⟩) (I<|Zu h 4) c4],.int .u64 pv] W (FwdPost W (L,g,0)):=λW hb=>by
    have:=zm W G (λb d5=>Z6o (hG b d5) hb.size) h HH.out f (λj hj=>(HS.out j hj).keep (λb d5=>hb.block b<|hG b d5) λ_ q=>q) pv e6.out.2.2;rw[e6.out.1]at this;unfold Zx at this;rw[show f 4=_ from E4.out]at this;exact this
   have HF:=Z6e hF;clear hF;obtain⟨Q6,f0⟩:∃Q6:Act->World->Prop,Q6=λt W=>∃(nb:Nat) (x:Z3),t.defers=[]/\t.tmps.size=82/\t.tmps.getD 2 xy=.pointer (J ⟨xz<|xj w,0,U⟩)/\t.tmps.getD 4 xy=.pointer (J ⟨xz (xj w)+2,0,U⟩)/\t.tmps.getD 8 xy=.int .i64 0/\t.tmps.getD 9 xy=.int .u64 L/\t.tmps.getD 10 xy=.pointer (J ⟨nb,0,U⟩)/\MSt w W 119 #[.int .i64 k,.int .i64 r',.int .i64 s,.int .i64 (Z:Nat),.int .i64 z,.int .i64 pp,.int .u64 v] g x nb:=⟨_,rfl⟩;have HQ:=Z6e f0;clear f0;refine wp_mono (Q:=Exit.then Q6<|λ_ _ _=>False) ?h6 ?rest;case h6=>
    go_region_with (go_at_call 43;refine(HF.out _ ?_).mono ?_;(first|exact B.out.az.drew|exact B.out.az.drew.alloc (by have:=B.out.az.size;simp;omega) _);rintro e k6 ⟨x,rfl,H,r⟩;obtain⟨a0,q0,e0⟩:=ZV<|r.own 0 Z0;obtain⟨a1,q1,e1⟩:=ZV<|r.own 1 Z0;obtain⟨a2,q2,e2⟩:=ZV<|r.own 2 Z0;obtain⟨a3,q3,e3⟩:=ZV<|r.own 3 Z0;obtain⟨a4,q4,e5⟩:=ZV<|r.own 4 Z0;(first|(have zb:=(H.block (xz<|xj A)<|by simp[World.drew]).trans<|Z6u A.drew _;have zc:=λj=>Z6j _ _ j _ _ _ zb;have zf:=λ(j:Nat)=>Y7 (o:=j) zb;have ZB:=Z6e zb;clear zb)|skip);have d9:=Z6e<|And.intro H<|And.intro r<|And.intro e0<|And.intro e1<|And.intro e2<|And.intro e3 e5;clear H r;unfold Zx;rw[e0,e1,e2,e3,e5])
    all_goals
     simp only[Exit.then,Act.put];rw[HQ.out];obtain⟨H,r,e0,e1,e2,e3,e5⟩:=d9.out;first
     | (refine⟨xz<|xj k6,x,rfl,rfl,rfl,rfl,rfl,rfl,rfl,?_⟩
        have:=O5 B.out H r;rw[e0,e1,e2,e3,e5]at this;exact this)
     | (refine⟨xz<|xj A,x,rfl,rfl,rfl,rfl,rfl,rfl,rfl,?_⟩
        have:=O4 B.out H r;rw[e0,e1,e2,e3,e5]at this;exact this)
   case rest=>
    intro e t i3 hq;cases e with
    |normal=>
     simp only[Exit.then]at hq⊢;rw[HQ.out]at hq;obtain⟨nb,x,hd,d8,t2,t4,t8,t9,d0,y⟩:=hq;obtain⟨t,d⟩:=t;simp only at hd d8 t2 t4 t8 t9 d0;subst hd;obtain⟨u,hu⟩:∃u:Z3,∀i,t.getD i xy=u i:=⟨λi=>t.getD i xy,λ_=>rfl⟩
     have et:t=#[u 0,u 1,u 2,u 3,u 4,u 5,u 6,u 7,u 8,u 9,u 10,u 11,u 12,u 13,u 14,u 15,u 16,u 17,u 18,u 19,u 20,u 21,u 22,u 23,u 24,u 25,u 26,u 27,u 28,u 29,u 30,u 31,u 32,u 33,u 34,u 35,u 36,u 37,u 38,u 39,u 40,u 41,u 42,u 43,u 44,u 45,u 46,u 47,u 48,u 49,u 50,u 51,u 52,u 53,u 54,u 55,u 56,u 57,u 58,u 59,u 60,u 61,u 62,u 63,u 64,u 65,u 66,u 67,u 68,u 69,u 70,u 71,u 72,u 73,u 74,u 75,u 76,u 77,u 78,u 79,u 80,u 81]:=(AF d8).trans (by
      have e0:(λi=>t.getD i xy)=u:=funext hu;rw[e0];rfl)
     rw[hu]at t2 t4 t8 t9 d0;rw[t2,t4,t8,t9,d0]at et;clear hu d8 t2 t4 t8 t9 d0;subst et;have h9:=Z6e T.out.2.1;obtain⟨f1,f2⟩:=y.F;obtain⟨a0,q0,e0⟩:=ZV<|y.own.own 0 Z0;obtain⟨a1,q1,e1⟩:=ZV<|y.own.own 1 Z0;obtain⟨a2,q2,e2⟩:=ZV<|y.own.own 2 Z0;obtain⟨a3,q3,e3⟩:=ZV<|y.own.own 3 Z0;obtain⟨a4,q4,S⟩:=ZV<|y.own.own 4 Z0;have h2:(Zu g 4)[s]?=J w0:=by show g.E[s]?=J w0;rw[T.out.2.2.1];exact i0.out
     have l7:s< I (Zu g 4):=(Z6d.1 h2).1;have h3:r'< I (Zu g 4):=by show r'<I g.E;rw[T.out.2.2.1];exact j1
     obtain⟨g4,b8⟩:=T5 (y.own.own 4 Z0) S Z0;subst b8;have E:=Z6e<|And.intro e0<|And.intro e1<|And.intro e2<|And.intro e3 S;have X:∀u,MSt w u 119 #[.int .i64 k,.int .i64 r',.int .i64 s,.int .i64 (Z:Nat),.int .i64 z,.int .i64 pp,.int .u64 v] g x nb->(λK=>(∀j,K.cell? ⟨xz<|xj w,j,U⟩=(#[.int .i64 k,.int .i64 r',.int .i64 s,.int .i64 (Z:Nat),.int .i64 z,.int .i64 pp,.int .u64 v]:Array Value)[j]?)/\(∀j,K.cell? ⟨nb,j,U⟩=(#[.int .u64 g.V,.int .i64 g.cap,.int .i64 g.to,.bool g.M,.int .i64 g.O,.slice a0 (I<|Zu g 0) q0,.slice a1 (I<|Zu g 1) q1,.slice a2 (I<|Zu g 2) q2,.slice a3 (I<|Zu g 3) q3,.slice (J ⟨g4,0,U⟩) (I<|Zu g 4) q4]:Array Value)[j]?)/\K.cell? ⟨g4,s,U⟩=J (.int .u64 w0)/\MSt w K 119 #[.int .i64 k,.int .i64 r',.int .i64 s,.int .i64 (Z:Nat),.int .i64 z,.int .i64 pp,.int .u64 v] g x nb) u:=λu st=>by
      obtain⟨f1,f2⟩:=st.F;obtain⟨e0,e1,e2,e3,S⟩:=E.out;rw[e0,e1,e2,e3,S]at f2;have h4:=st.own.own 4 Z0;rw[S]at h4;exact⟨f1,f2,Vn h4 h2,st⟩
     have b7:=Z6e X;have D:=X i3.drew y.drew;clear X e0 e1 e2 e3 S y f1 f2 k1 k2 k3 j2 h7 j3 r3 r4 r5 r6 j4 j5 j6 j7 j8 j9 k0;go_wp2
     go_region_held3 (λK=>(∀j,K.cell? ⟨xz<|xj w,j,U⟩=(#[.int .i64 k,.int .i64 r',.int .i64 s,.int .i64 (Z:Nat),.int .i64 z,.int .i64 pp,.int .u64 v]:Array Value)[j]?)/\(∀j,K.cell? ⟨nb,j,U⟩=(#[.int .u64 g.V,.int .i64 g.cap,.int .i64 g.to,.bool g.M,.int .i64 g.O,.slice a0 (I<|Zu g 0) q0,.slice a1 (I<|Zu g 1) q1,.slice a2 (I<|Zu g 2) q2,.slice a3 (I<|Zu g 3) q3,.slice (J ⟨g4,0,U⟩) (I<|Zu g 4) q4]:Array Value)[j]?)/\K.cell? ⟨g4,s,U⟩=J (.int .u64 w0)/\MSt w K 119 #[.int .i64 k,.int .i64 r',.int .i64 s,.int .i64 (Z:Nat),.int .i64 z,.int .i64 pp,.int .u64 v] g x nb) (first|exact D|assumption)
      (first|(go_at_call 115;have C:=jU D.2.2.2 h9.out T.out.2.2.2 T.out.1;unfold Zx at C;rw[E.out.1,E.out.2.1,E.out.2.2.1,E.out.2.2.2.1,E.out.2.2.2.2]at C;refine C.mono ?_;rintro e m2 ⟨g5,l3,b1,Lo,l9,TO,Lq,m0,AY,rfl,k9,l0,d1,h1,f4⟩;have i2:=b7.out _<|D.2.2.2.below f4))
     obtain⟨f1,f2,f3,b5⟩:=i2;rename_i Y;clear Y D;obtain⟨idx,g2⟩:∃idx,a+1+Z=idx:=⟨_,rfl⟩;have i7:idx< I (Zu g j):=by have:=T.out.1.ah;have:=T.out.1.mn;omega
     have d6:Lo=J ⟨g5,a+1,U⟩:=d1 Z0;subst d6;have c0:=b5.own.own j b9;rw[b1]at c0;obtain⟨rv,h5⟩:∃rv,(Zu g j)[idx]?=J rv:=⟨_,Z6b i7⟩;have l4:=Vn c0 h5;have l5:=S5 c0 (i:=idx) Z0;have a8:=b5.put b9 (i:=idx) b1 L;have c7:Zu (ZM g j idx L) 4=Zu g 4:=by
      rw[Co g idx L b9 Z0,Z6h (by have:=HO.out.iw;omega)]
     have S:=E.out.2.2.2.2;rw[<-c7]at S;have P:=a8.put (j:=4) (i:=r') Z0 S L;obtain⟨s1,s2,s3,s4,s5⟩:=Wq g j idx L;obtain⟨k3,k4⟩:=a8.F;rw[s1,s2,s3,s4,s5,E.out.1,E.out.2.1,E.out.2.2.1,E.out.2.2.2.1,E.out.2.2.2.2]at k4;have a7:=a8.own.own 4 Z0;rw[S]at a7;obtain⟨m1,d3⟩:∃rv,(Zu (ZM g j idx L) 4)[r']?=J rv:=⟨_,Z6b (by rw[c7];exact h3)⟩;have k7:=Vn a7 (i:=r') d3;have k8:=S5 a7 (i:=r') (by rw[c7];omega);obtain⟨m3,m4⟩:=P.F;obtain⟨r3,r4⟩:=P.R;obtain⟨w1,w2,w3,w4,w5⟩:=Wq (ZM g j idx L) 4 r' L;rw[w1,w2,w3,w4,w5,s1,s2,s3,s4,s5,E.out.1,E.out.2.1,E.out.2.2.1,E.out.2.2.2.1,E.out.2.2.2.2]at m4;have b6:=Xo P.bj (.int .u64 g.V) (.int .i64 g.cap) (.int .i64 g.to) (.bool g.M) (.int .i64 g.O) (.slice a0 (I<|Zu g 0) q0) (.slice a1 (I<|Zu g 1) q1) (.slice a2 (I<|Zu g 2) q2) (.slice a3 (I<|Zu g 3) q3)<|.slice (J ⟨g4,0,U⟩) (I<|Zu g 4) q4;have i4:Zx (ZM (ZM g j idx L) 4 r' L) x=Zx g x:=by rw[SE,SE]
     have i1:=Z6e P;clear b5 a8 P c0 a7 s1 s2 s3 s4 s5 w1 w2 w3 w4 w5 S c7 d3 h5 d1 h1 b1 f2;go_wp2;rw[a9.out,g2];refine Z6x (v:=.tuple #[Zx (ZM (ZM g j idx L) 4 r' L) x,.int .i64 0]) ?_ rfl ?_
     .rw[i4];unfold Zx;rw[E.out.1,E.out.2.1,E.out.2.2.1,E.out.2.2.2.1,E.out.2.2.2.2];simp[results,Tryz.results114,go_sem,b6]
     exact RB i1.out
    |_=>exact hq.elim
 .go_wp2;rw[a9.out];have b6:=Xo a5.out.bj (.int .u64 0) (.int .i64 0) (.int .i64 0) (.bool xw) (.int .i64 0) (.slice U 0 0) (.slice U 0 0) (.slice U 0 0) (.slice U 0 0)<|.slice U 0 0;refine Z6x (v:=.tuple #[.agg ZE,.int .i64 6]) ?_ rfl ?_
  .simp[results,Tryz.results114,go_sem,b6,ZE]
  exact Ss a5.out.az 6
def EX{P:Ze}{f:FuncId}(a:WO P f=xk)(args:Z9)(W:Z4):(callFunc f args).run P W=.ok (.enter f args) W:=by
 unfold WO at a;split at a;rename_i fn d;simp only[Z6l,Z7D,Z8E,Z9L]at a;obtain⟨g,h⟩:=a;obtain⟨code,j⟩:=Z7l.1 h;simp[callFunc,d,g,j];cases a
def DoPost(G:Z6)(w:Z4)(r:Int×Hp×Int)(e:Ending)(w':Z4):Prop:=
 ∃x,e=.returned (.tuple #[.int .u64 r.1,Zx r.2.1 x,.int .i64 r.2.2])/\Below (xz<|xj w) w w'/\∀j,j<5->Rd w' (λc=>G c\/(xz (xj w)<=c/\c<xz (xj w'))) (.sl<|(Zu r.2.1 j).map vu) (x j)
def QL{w W:Z4}{G:Z6}(f:∀b,G b->b<xz (xj w)){g:Hp}{x:Z3}(a:Below (xz<|xj w) w W)(l:∀j,j<5->Rd W (λc=>G c\/(xz (xj w)+3<=c/\c<xz (xj W))) (.sl<|(Zu g j).map vu) (x j))(v e:Int){v0 v1 v2 v3 v4 v5 v6 v7 v8 v9:Za}:DoPost G w (v,g,e) (.returned<|.tuple #[.int .u64 v,Zx g x,.int .i64 e])<|(((((((((W.setCell ⟨xz (xj w)+1+1,0,U⟩ v0).setCell ⟨xz (xj w)+1+1,1,U⟩ v1).setCell ⟨xz (xj w)+1+1,2,U⟩ v2).setCell ⟨xz (xj w)+1+1,3,U⟩ v3).setCell ⟨xz (xj w)+1+1,4,U⟩ v4).setCell ⟨xz (xj w)+1+1,5,U⟩ v5).setCell ⟨xz (xj w)+1+1,6,U⟩ v6).setCell ⟨xz (xj w)+1+1,7,U⟩ v7).setCell ⟨xz (xj w)+1+1,8,U⟩ v8).setCell ⟨xz (xj w)+1+1,9,U⟩ v9:=by
 have d:=LC W (xz (xj w)+1+1) v0 v1 v2 v3 v4 v5 v6 v7 v8 v9;unfold WI at d;refine⟨x,rfl,XJ a Z0,λj k=>((l j k).keep (λb h=>XK ?_) λ_ q=>q).mono λb q=>q.imp (λq=>q) λq=>⟨Z0,?_⟩⟩;obtain q|q:=h;have:=f b q;omega;omega;rw[d];exact q.2
def DoPost.drew{G:Z6}{w W:Z4}{r:Int×Hp×Int}{e:Ending}(h:DoPost G w r e W):DoPost G w r e W.drew:=by
 obtain⟨x,a,d,f⟩:=h;exact⟨x,a,d.drew,λj g=>(f j g).keep (λb _=>rfl) λ_ q=>q⟩
def Gk(w:Z4)(G:Z6)(Q:∀b,G b->b<xz (xj w))(h:Hp)(hh:h.ok)(a:Z3)(hs:∀j,j<5->Rd w G (.sl<|(Zu h j).map vu) (a j))(hr:Yp h=xk){k p s i z pp v vv er:Int}{g:Hp}(hk:1<=k/\k<=7)(b7:∀u∈Xf k p s,0<=u/\u<I h.E)
  {F:FuncId} (b5:WO Tryz.prog F=xk) (hM:∀(n:Nat) (W:Z4) (x:Za),0<n->(method n (X3 k) x "cromlech/mutator.do").run Tryz.prog W=.ok (F,x) W)
  (hF:∀W,Below (xz<|xj w) w W->Calls Tryz.prog F #[.agg<|Yu k p s i z pp v,Zx h a] W (Ki G W (g,er)))
  (hE:(¬er=0/\vv=0/\g=Hp.zero)\/(er=0/\vv=0/\∀(W:Z4) (x:Za),(Instr.typeAssert (.iface (X3 k) x) 75 80 xk).run Tryz.prog W=.ok (.tuple #[.nilIface,.bool xw]) W)\/
   (er=0/\(∀(W:Z4) (x:Za),(Instr.typeAssert (.iface (X3 k) x) 75 80 xk).run Tryz.prog W=.ok (.tuple #[.iface (X3 k) x,.bool xk]) W)/\∃Fo,WO Tryz.prog Fo=xk/\(∀(n:Nat) (W:Z4) (x:Za),0<n->(method n (X3 k) x "cromlech/mutator.told").run Tryz.prog W=.ok (Fo,x) W)/\
    ∀W,Below (xz<|xj w) w W->Calls Tryz.prog Fo #[.agg<|Yu k p s i z pp v,Zx h a] W λe w'=>e=.returned (.int .u64 vv)/\Below (xz<|xj W) W w'))
  :Calls Tryz.prog 12 #[Zx h a,.agg<|Yu k p s i z pp v] w (DoPost G w (vv,g,er)):=by
 have HR:∀W,Below (xz<|xj w) w W->Calls Tryz.prog 17 #[Zx h a] W λe w'=>e=.returned (.bool<|Yp h)/\Below (xz<|xj W) W w':=λW hb=>
  JJ (w:=W) (G:=G) (x:=a) hh (λb R=>Z6o (Q b R) hb.size) (λj hj=>(hs j hj).keep (λb R=>hb.block b<|Q b R) λ_ q=>q)
 rw[hr]at HR;have d2:=Z6e HR;obtain⟨a4,q4,e4⟩:=W5<|hs 4 Z0;have g2:=hh.E;obtain⟨W0,a6,g5,T⟩:=za w (.cells (YR h a) 31)<|.cells (Yu k p s i z pp v) 44;obtain⟨p0,s0,_,_⟩:=T.F;have a5:=Z6e T;have b8:Tg k p s i z pp v=.iface (X3 k) (.agg<|Yu k p s i z pp v):=by unfold Tg;rw[Z6k hk]
 have a2:=Z6e (λW=>C3 W k p s i z pp v);have a3:=Z6e (λW=>CT W k p s i z pp v hk);rw[b8]at a2 a3;have D:=d2.out W0 a5.out.az;unfold YR Yu at a6;unfold YR at p0;unfold Yu at s0;unfold Zx at D;rw[show Zu h 4=h.E from rfl]at e4;rw[e4]at p0 a6 D;have d1:=Z6e D;have E4:=Z6e e4;have d0:=Z6e b7;have HF:=Z6e hF;have HE:=Z6e hE;have f7:=EX b5;clear HR hs T b8 b7 D hF b5 hE;unfold Zx;rw[e4];clear e4;unfold Yu;have e7:∀(W:Z4) (t:Zd) (u:Za),(binOp .eql 75 (.iface t u) .nilIface).run Tryz.prog W=.ok (.bool xw) W:=λW t u=>by rfl
 have d7:I (Xf k p s)<=2:=by
  unfold Xf;split;simp;split<;>simp
 obtain⟨L,hL⟩:∃L,I (Xf k p s)=L:=⟨_,rfl⟩;rw[hL]at d7;go_enter Tryz.func12,Tryz.ntmps12
 go_wp2_with (first
  |(go_at_call 17;go_loud (refine d1.out.mono ?_;rintro e w1 ⟨rfl,a7⟩;have X:=a5.out.below a7;obtain⟨p1,s1,_,_⟩:=X.F;unfold YR at p1;unfold Yu at s1;rw[E4.out]at p1;have d4:=Z6e X;clear a7 X p0 s0))
  |(go_at_call 26;go_loud (refine(a2.out w1).mono ?_;rintro e w2 ⟨rfl,a8⟩;have Y:=d4.out.below a8;obtain⟨p2,s2,_,_⟩:=Y.F;unfold YR at p2;rw[E4.out]at p2;have d5:=Z6e Y;clear a8 Y p1 s1))
  |(go_at_call 27;go_loud (refine(a3.out w2).mono ?_;rintro e w3 ⟨gn,rfl,a9,f9,B⟩;rw[hL];have Z:=d5.out.below a9;obtain⟨p3,s3,r3,e1⟩:=Z.F;unfold YR at p3;unfold ZE at r3;rw[E4.out]at p3;have O:=Z6e Z;have HC:=Z6e B;clear a9 Z p2 s2 B)))
 go_loop [4,24] (λv4 i=>v4=.int .u64 0/\∃k:Nat,i=.int .i64 k/\k<=L) (λ_ i=>L- (intOf i).toNat)
 case atStart=>exact⟨rfl,0,rfl,Z0⟩
 case round=>
  obtain⟨rfl,N,rfl,g0⟩:=hrel;by_cases b9:N<L
  .obtain⟨u,hu⟩:∃u,(Xf k p s)[N]?=J u:=⟨_,Z6b Z0⟩;have f8:=HC.out N u hu;obtain⟨h1,h2⟩:=d0.out u<|Z6n hu;have e9:(u<0)=False:=Z7d Z0;have f5:(u≥(I h.E:Int))=False:=Z7d Z0;have f6:((I h.E:Int)<=u)=False:=Z7d Z0;have e5:((N:Int)< (L:Int))=True:=Z7G Z0;have HU:=Z6e<|And.intro hu<|And.intro hL b9;clear hu hL h1 h2 b9;go_wp2;go_round
   case rel=>exact⟨rfl,N+1,by go_num,(by have h9:N<L:=HU.out.2.2;omega)⟩
   case measure=>have h9:N<L:=HU.out.2.2;simp[intOf];omega
  .obtain rfl:N=L:=Z0;have H:=HF.out w3 O.out.az;unfold Zx at H;rw[show a 4=_ from E4.out]at H;have c7:=Z6e H;clear H
   go_upto_region 13 with (first
    |(refine c7.out.mono ?_;rintro e w4 ⟨y,rfl,S,f⟩;dsimp only at f;obtain⟨b0,k0,f0⟩:=W5<|f 0 (by omega);obtain⟨b1,k1,f1⟩:=W5<|f 1 (by omega);obtain⟨b2,k2,f2⟩:=W5<|f 2 (by omega);obtain⟨b3,k3,f3⟩:=W5<|f 3 (by omega);obtain⟨b4,k4,f4⟩:=W5<|f 4 (by omega);dsimp only;unfold Zx;rw[f0,f1,f2,f3,f4];have a0:=O.out.below S;obtain⟨_,_,r4,e2⟩:=a0.F;unfold ZE at r4;have P:=Z6e a0;have a1:=Z6e<|And.intro S f;clear S f a0 p3 s3 r3 e1))
   obtain⟨r,d⟩:∃r,WI w4 (xz (xj w)+1+1) (.int .u64 g.V) (.int .i64 g.cap) (.int .i64 g.to) (.bool g.M) (.int .i64 g.O) (.slice b0 (I<|Zu g 0) k0) (.slice b1 (I<|Zu g 1) k1) (.slice b2 (I<|Zu g 2) k2) (.slice b3 (I<|Zu g 3) k3) (.slice b4 (I<|Zu g 4) k4)=r:=⟨_,rfl⟩;have e0:xz (xj r)=xz (xj w4):=by rw[<-d];exact LC _ _ _ _ _ _ _ _ _ _ _ _
   unfold WI at d;rw[d];have n5:r.heap[xz (xj w)+2]?=J (.cells (YR g y) 31 (0,0)):=by
    rw[<-d];unfold YR;rw[f0,f1,f2,f3,f4];exact Qc P.out.b2
   have M:Below (xz<|xj w) w r:=by rw[<-d];exact XJ P.out.az Z0
   have h5:r.heap[xz<|xj w]?=J (.cells (YR h a) 31 (0,0)):=by rw[<-d];exact(XK Z0).trans P.out.b0
   have c1:∀j,j<5->Rd r (λc=>G c\/(xz (xj w)+3<=c/\c<xz (xj r))) (.sl<|(Zu g j).map vu) (y j):=λj hj=>by
    have g4:=a1.out.1.size;have g3:=ZL O.out.b2;exact((a1.out.2 j hj).keep (λb hb=>by rw[<-d];exact XK (by obtain q|q:=hb;have:=Q b q;omega;omega)) λ_ q=>q).mono λb q=>q.imp (λq=>q) λq=>⟨Z0,Z0⟩
   have y5:∀j,r.cell? ⟨xz (xj w)+1+1,j,U⟩=(#[.int .u64 g.V,.int .i64 g.cap,.int .i64 g.to,.bool g.M,.int .i64 g.O,.slice b0 (I<|Zu g 0) k0,.slice b1 (I<|Zu g 1) k1,.slice b2 (I<|Zu g 2) k2,.slice b3 (I<|Zu g 3) k3,.slice b4 (I<|Zu g 4) k4]:Array Value)[j]? :=λj=>by
    have:=Z6j _ _ j _ _ _ n5;unfold YR at this;rw[f0,f1,f2,f3,f4]at this;exact this
   have d6:∀j,r.frozen? ⟨xz (xj w)+1+1,j,U⟩=xw:=λj=>Y7 n5;have o:=Z6e<|And.intro n5<|And.intro M<|And.intro h5 c1;have F:=Z6e<|And.intro f0<|And.intro f1<|And.intro f2<|And.intro f3 f4;clear n5 M h5 c1 r4 e2 d e0 f0 f1 f2 f3 f4;obtain⟨d8,rfl,rfl⟩|⟨rfl,rfl,d9⟩|⟨rfl,d9,Fo,b6,g1,c0⟩:=HE.out
   .have e6:=Z7d d8;go_wp2;have l:=LB o.out.1 (.int .u64 0) (.int .i64 0) (.int .i64 0) (.bool xw) (.int .i64 0) (.slice U 0 0) (.slice U 0 0) (.slice U 0 0) (.slice U 0 0)<|.slice U 0 0;unfold WI at l;have C:=λj=>Z6j _ _ j _ _ _ l;refine Z6x (v:=.tuple #[.int .u64 0,.agg ZE,.int .i64 er]) ?_ rfl ?_
    .simp[results,Tryz.results12,go_sem,C,ZE]
    exact QL Q (x:=λ_=>.slice U 0 0) o.out.2.1 (UC _ _) _ _
   .go_upto_region 18 with fail;go_region;all_goals
     go_wp2;try simp only[Exit.inBlock,Exit.then]
     have l:=LB o.out.1 (.int .u64 g.V) (.int .i64 g.cap) (.int .i64 g.to) (.bool g.M) (.int .i64 g.O) (.slice b0 (I<|Zu g 0) k0) (.slice b1 (I<|Zu g 1) k1) (.slice b2 (I<|Zu g 2) k2) (.slice b3 (I<|Zu g 3) k3)<|.slice b4 (I<|Zu g 4) k4;unfold WI at l;have C:=λj=>Z6j _ _ j _ _ _ l;refine Z6x (v:=.tuple #[.int .u64 0,Zx g y,.int .i64 0]) ?_ rfl ?_
     .unfold Zx;rw[F.out.1,F.out.2.1,F.out.2.2.1,F.out.2.2.2.1,F.out.2.2.2.2];simp[results,Tryz.results12,go_sem,C]
     exact(QL Q o.out.2.1 o.out.2.2.2 _ _).drew
   .have e3:=EX b6;have K:=c0 r o.out.2.1;unfold Zx at K;rw[show a 4=_ from E4.out]at K;have p5:=λj=>Z6j _ _ j _ _ _ o.out.2.2.1;unfold YR at p5;rw[E4.out]at p5;have d3:=Z6e K;clear K c0 b6
    go_upto_region 18 with (first
     |(refine d3.out.mono ?_;rintro e w6 ⟨rfl,A⟩;have n6:=(A.block _<|ZL o.out.1).trans o.out.1;have y6:=λj=>Z6j _ _ j _ _ _ n6;unfold YR at y6;rw[F.out.1,F.out.2.1,F.out.2.2.1,F.out.2.2.2.1,F.out.2.2.2.2]at y6;have e8:∀j,w6.frozen? ⟨xz (xj w)+1+1,j,U⟩=xw:=λj=>Y7 n6;have c2:∀j,j<5->Rd w6 (λc=>G c\/(xz (xj w)+3<=c/\c<xz (xj w6))) (.sl<|(Zu g j).map vu) (y j):=λj hj=>(((o.out.2.2.2 j hj).keep (λb hb=>A.block b (by have:=o.out.2.1.size;obtain q|q:=hb;have:=Q b q;omega;exact q.2)) λ_ q=>q).mono λb q=>q.imp (λq=>q) λq=>⟨q.1,by have:=A.size;omega⟩);have H6:=Z6e<|And.intro n6<|And.intro (o.out.2.1.trans<|A.mono o.out.2.1.size) c2;clear n6 c2 A y5 d6 p5))
    go_region;all_goals
     go_wp2;try simp only[Exit.inBlock,Exit.then]
     have l:=LB H6.out.1 (.int .u64 g.V) (.int .i64 g.cap) (.int .i64 g.to) (.bool g.M) (.int .i64 g.O) (.slice b0 (I<|Zu g 0) k0) (.slice b1 (I<|Zu g 1) k1) (.slice b2 (I<|Zu g 2) k2) (.slice b3 (I<|Zu g 3) k3)<|.slice b4 (I<|Zu g 4) k4;unfold WI at l;have C:=λj=>Z6j _ _ j _ _ _ l;refine Z6x (v:=.tuple #[.int .u64 vv,Zx g y,.int .i64 0]) ?_ rfl ?_
     .unfold Zx;rw[F.out.1,F.out.2.1,F.out.2.2.1,F.out.2.2.2.1,F.out.2.2.2.2];simp[results,Tryz.results12,go_sem,C]
     exact(QL Q H6.out.2.1 H6.out.2.2 _ _).drew
def FO{f:FuncId}(o:WO Tryz.prog f=xk){h:Hp}{y:V}(a:VT y=xk){r:Int×Hp×Int}
  (u:∀(w:Z4) (G:Z6) (d:Z3),(∀b,G b->b<xz (xj w))->(∀j,j<5->Rd w G (.sl<|(Zu h j).map vu) (d j))->Calls Tryz.prog f #[Zx h d,UL y] w (DoPost G w r)):
  VC Tryz.prog f xw [ZF h,y] (.am [vu r.1,ZF r.2.1,vi r.2.2]):=by
 refine⟨o,λw G l t p k=> ?_⟩;have F:=k 0 _ rfl;have H:=zS a<|k 1 _ rfl;have z:l=#[l.getD 0 xy,l.getD 1 xy]:=by
  have g:l.size=2:=p;apply Z8F;simp[g];intro i K L;have A:i<2:=Z0
  match i,A with
  |0,_=>simp[Array.getD,g]
  |1,_=>simp[Array.getD,g]
 obtain⟨d,q,D⟩:=J1 F;rw[z,q,H];refine(u w G d t D).mono ?_;rintro e M ⟨x,rfl,n,C⟩;refine⟨_,rfl,n,.am _ _ rfl ?_⟩;intro i y a
 match i,a with
 |0,a=>cases a;exact .int _ _
 |1,a=>cases a;exact UR λj B=>(C j B).mono λb n=>by simpa using n
 |2,a=>cases a;exact .int _ _
def NG:∀(n:Nat) (W:Z4) (x:Za),0<n->(method n (X3 1) x "cromlech/mutator.do").run Tryz.prog W=.ok (107,x) W
 |n+1,W,x,_=>Z2
def NH:∀(n:Nat) (W:Z4) (x:Za),0<n->(method n (X3 2) x "cromlech/mutator.do").run Tryz.prog W=.ok (114,x) W
 |n+1,W,x,_=>Z2
def Ct:∀(n:Nat) (W:Z4) (x:Za),0<n->(method n (X3 3) x "cromlech/mutator.do").run Tryz.prog W=.ok (117,x) W
 |n+1,W,x,_=>Z2
def NJ:∀(n:Nat) (W:Z4) (x:Za),0<n->(method n (X3 5) x "cromlech/mutator.do").run Tryz.prog W=.ok (120,x) W
 |n+1,W,x,_=>Z2
def NM:∀(n:Nat) (W:Z4) (x:Za),0<n->(method n (X3 3) x "cromlech/mutator.told").run Tryz.prog W=.ok (118,x) W
 |n+1,W,x,_=>Z2
def Cb:∀ {l:List String},l≠[]->∃m,Instr.least l=J m
 | [],h=>absurd rfl h
 |_::_,_=>⟨_,rfl⟩
def NN(p:String->Bool)(f:String->String):∀l:List String,l≠[]->∃m,(Instr.least (l.partition p).2<|>Instr.least ((l.partition p).1.map f))=J m
 | [],h=>absurd rfl h
 |x::r,_=>by
  rw[List.partition_eq_filter_filter];cases d:p x with
  |true=>
   obtain⟨m,a⟩:=Cb (l:=((x::r).filter p).map f) (by rw[Z9q d];simp);dsimp only;rw[a];cases Instr.least ((x::r).filter<|not∘p)<;>simp
  |false=>
   obtain⟨m,a⟩:=Cb (l:=(x::r).filter<|not∘p) (by rw[Z9q (by simp[d])];simp);dsimp only;rw[a];simp
def NO{want:Array (String×TypeId)}{got:Array Method}(h:(want.toList.filter λ(name,sig)=> !got.any λm=>m.name==name&&m.sig==sig).isEmpty=xw):∃m,Instr.missingMethod want got=J m:=by
 unfold Instr.missingMethod;exact NN _ _ _ λe=>by
  rw[List.map_eq_nil_iff]at e;rw[e]at h;cases h
noncomputable def lacksTold (T:Zd):Bool:=
 match Tryz.prog.underlying 80,Tryz.prog.info? T with
 |some (.interface a),J d=> !(a.toList.filter λ(name,sig)=> !d.methods.any λm=>m.name==name&&m.sig==sig).isEmpty
 |_,_=>xw
def Qo{T:Zd}(h:lacksTold T=xk)(W:Z4)(x:Za):(Instr.typeAssert (.iface T x) 75 80 xk).run Tryz.prog W=.ok (.tuple #[.nilIface,.bool xw]) W:=by
 unfold lacksTold at h;split at h;rename_i want j f a;obtain⟨m,d⟩:=NO (want:=want) (got:=j.methods) (by simpa using h);have g:(zeroValue 80).run Tryz.prog W=.ok .nilIface W:=Z2;simp[Instr.typeAssert,Z6M f,typeInfo,a,d,g];cases h
def Z0X:∀(W:Z4) (x:Za),(Instr.typeAssert (.iface (X3 1) x) 75 80 xk).run Tryz.prog W=.ok (.tuple #[.nilIface,.bool xw]) W:=Qo Z2
def Z0Y:∀(W:Z4) (x:Za),(Instr.typeAssert (.iface (X3 2) x) 75 80 xk).run Tryz.prog W=.ok (.tuple #[.nilIface,.bool xw]) W:=Qo Z2
def Z11:∀(W:Z4) (x:Za),(Instr.typeAssert (.iface (X3 5) x) 75 80 xk).run Tryz.prog W=.ok (.tuple #[.nilIface,.bool xw]) W:=Qo Z2
def Z0Z:∀(W:Z4) (x:Za),(Instr.typeAssert (.iface (X3 3) x) 75 80 xk).run Tryz.prog W=.ok (.tuple #[.iface (X3 3) x,.bool xk]) W:=λ_ _=>Z2
def RL{w:Z4}{G:Z6}{r:Hp×Int}(e:Ending)(w':Z4)(h:U7 w r e w'):Ki G w r e w':=by
 obtain⟨x,a,d,f⟩:=h;exact⟨x,a,d,λj g=>(f j g).mono λb q=>.inr q⟩
def TC{h:Hp}(T:h.ok)(Z:Yp h=xk){k B s i z pp v C er:Int}{g:Hp}(Y:1<=k/\k<=7)(K:∀u∈Xf k B s,0<=u/\u<I h.E)
  {F:FuncId} (H:WO Tryz.prog F=xk) (S:∀(n:Nat) (W:Z4) (x:Za),0<n->(method n (X3 k) x "cromlech/mutator.do").run Tryz.prog W=.ok (F,x) W)
  (R:∀(w:Z4) (G:Z6) (a:Z3),(∀b,G b->b<xz (xj w))->(∀j,j<5->Rd w G (.sl<|(Zu h j).map vu) (a j))->Calls Tryz.prog F #[.agg<|Yu k B s i z pp v,Zx h a] w (Ki G w (g,er)))
  (Q:(¬er=0/\C=0/\g=Hp.zero)\/(er=0/\C=0/\∀(W:Z4) (x:Za),(Instr.typeAssert (.iface (X3 k) x) 75 80 xk).run Tryz.prog W=.ok (.tuple #[.nilIface,.bool xw]) W)\/
   (er=0/\(∀(W:Z4) (x:Za),(Instr.typeAssert (.iface (X3 k) x) 75 80 xk).run Tryz.prog W=.ok (.tuple #[.iface (X3 k) x,.bool xk]) W)/\∃l,WO Tryz.prog l=xk/\(∀(n:Nat) (W:Z4) (x:Za),0<n->(method n (X3 k) x "cromlech/mutator.told").run Tryz.prog W=.ok (l,x) W)/\
    VC Tryz.prog l xw [YI k B s i z pp v,ZF h] (vu C))):
  VC Tryz.prog 12 xw [ZF h,YI k B s i z pp v] (.am [vu C,ZF g,vi er]):=by
 refine FO Z2 (y:=YI k B s i z pp v) rfl (r:=(C,g,er)) λw G a D L=> ?_;have t:∀W,Below (xz<|xj w) w W->∀j,j<5->Rd W G (.sl<|(Zu h j).map vu) (a j):=λW d j X=>(L j X).keep (λb f=>d.block b<|D b f) λ_ q=>q;have p:∀W,Below (xz<|xj w) w W->∀b,G b->b<xz (xj W):=λW d b f=>Z6o (D b f) d.size;refine Gk w G D h T a L Z Y K H S (λW d=>R W G a (p W d)<|t W d) ?_;obtain o|o|⟨o,M,l,N,O,P⟩:=Q;exact .inl o;exact .inr<|.inl o;refine .inr<|.inr ⟨o,M,l,N,O,λW d=>Z84 (P.2 W G _ (p W d) rfl ?_) ?_⟩;intro i y A
 match i,A with
 |0,A=>cases A;exact jr rfl
 |1,A=>cases A;exact UR<|t W d
 rintro e w' ⟨v,rfl,d,hv⟩;exact⟨by rw[V9 hv],d⟩
def RC{h:Hp}(k:h.ok)(l:Yp h=xk){B z pp v i w0:Int}{s:Nat}(d:h.E[s]?=J w0)(A:Zy v)(q:ZP i){res:Hp×Int}
  (g:(w0=0/\res=(Hp.zero,6))\/∃j a n m u,ObAt h w0 j a n m u/\((0<=i/\i< (n-m:Nat)/\res=(ZM h j (a+1+m+i.toNat) v,0))\/(¬(0<=i/\i< (n-m:Nat))/\res=(Hp.zero,1)))):
  VC Tryz.prog 12 xw [ZF h,YI 5 B s i z pp v] (.am [vu 0,ZF res.1,vi res.2]):=by
 obtain⟨p,r⟩:=Sa.1 l;have t:=(Z6d.1 d).1;refine TC k l Z0 (λu y=>by simp[Xf]at y;omega) (F:=120) Z2 NJ (λw G f o x=>(Z0n w G o h k f x r.al d A q g).mono RL) ?_;obtain⟨_,rfl⟩|⟨j,a,n,m,u,O,⟨_,_,rfl⟩|⟨_,rfl⟩⟩:=g;exact .inl ⟨Z5q,rfl,rfl⟩;exact .inr<|.inl ⟨rfl,rfl,Z11⟩;exact .inl ⟨Z5q,rfl,rfl⟩
def QK{h:Hp}(x:h.ok)(y:Yp h=xk){z pp v i w0:Int}{s r':Nat}(d:h.E[s]?=J w0)(o:r'<I h.E)(B:ZP i)
  {res:Hp×Int} (t:(w0=0/\res=(Hp.zero,6))\/∃j a n m u,ObAt h w0 j a n m u/\((¬(0<=i/\i< (m:Nat))/\res=(Hp.zero,1))\/
   ∃(f:Nat) (k l:Int) (g:Hp),i=f/\f<m/\(Zu h j)[a+1+f]?=J k/\Zy k/\fwd h k=(l,g,0)/\g.ok/\g.E=h.E/\ZC (Zv g)=xk/\ObAt g w0 j a n m u/\res=(ZM (ZM g j (a+1+f) l) 4 r' l,0))):
  VC Tryz.prog 12 xw [ZF h,YI 2 r' s i z pp v] (.am [vu 0,ZF res.1,vi res.2]):=by
 obtain⟨p,r⟩:=Sa.1 y;have C:=(Z6d.1 d).1;refine TC x y Z0 (λu H=>by simp[Xf]at H;omega) (F:=114) Z2 NH (λw G q A D=>(Ns w G A h x q D r.al d o B t).mono RL) ?_;obtain⟨_,rfl⟩|⟨j,a,n,m,u,O,⟨_,rfl⟩|⟨f,k,l,g,_,_,_,_,_,_,_,_,_,rfl⟩⟩:=t;exact .inl ⟨Z5q,rfl,rfl⟩;exact .inl ⟨Z5q,rfl,rfl⟩;exact .inr<|.inl ⟨rfl,rfl,Z0Y⟩
def BT{F:FuncId}{a:V}{h:Hp}{r:Hp×Int}(n:VT a=xk)(k:VC Tryz.prog F xw [a,ZF h]<|.am [ZF r.1,vi r.2])(w:Z4)(G:Z6)(f:Z3)(l:∀b,G b->b<xz (xj w))(q:∀j,j<5->Rd w G (.sl<|(Zu h j).map vu) (f j)):
  Calls Tryz.prog F #[UL a,Zx h f] w (Ki G w r):=by
 refine Z84 (k.2 w G _ l rfl ?_) ?_;intro i y d
 match i,d with
 |0,d=>cases d;exact jr n
 |1,d=>cases d;exact UR q
 rintro e x ⟨v,rfl,o,k⟩;obtain⟨u,rfl,t⟩:=MZ k;exact⟨u,rfl,o,λj p=>(t j p).mono λb g=>Z5Y⟩
def Ky{h:Hp}(k:h.ok)(x:Yp h=xk){y z pp v i w0 o:Int}{s:Nat}(d:h.E[s]?=J w0){res:Hp×Int}
  (q:(w0=0/\res=(Hp.zero,6)/\o=0)\/∃(f j a n m:Nat) (u:Int),i=f/\ObAt h w0 j a n m u/\f<n-m/\(Zu h j)[a+1+m+f]?=J o/\res=(h,0)):
  VC Tryz.prog 12 xw [ZF h,YI 3 y s i z pp v] (.am [vu o,ZF res.1,vi res.2]):=by
 obtain⟨p,r⟩:=Sa.1 x;have C:=(Z6d.1 d).1;refine TC k x Z0 (λu H=>by simp[Xf]at H;omega) (F:=117) Z2 Ct (λw G l B D=>BT (a:=YI 3 y s i z pp v) rfl (BM k r.al d ?_) w G l B D) ?_;obtain⟨A,g,_⟩|⟨f,j,a,n,m,u,rfl,O,t,_,g⟩:=q;exact .inl ⟨A,g⟩;exact .inr ⟨j,a,n,m,u,O,.inl ⟨Z0,Z0,g⟩⟩;obtain⟨_,rfl,rfl⟩|⟨f,j,a,n,m,u,rfl,O,t,K,rfl⟩:=q;exact .inl ⟨Z5q,rfl,rfl⟩;exact .inr<|.inr ⟨rfl,Z0Z,118,Z2,NM,Z18 k r.al d O K t⟩
def Pn{h:Hp}{p:Pts}(r:Rt h p)(n:Nat):(placeG h p n).E.length=xq h.E:=by
 unfold placeG;split;rename_i a;obtain⟨g,q,I,e,t,_⟩:=yk r a.1;rw[<-e]at t;obtain⟨_,S⟩:=t.ei<|n+1;rw[S.E,e,show(V1 g).E=g.E by unfold V1;split<;>rfl];exact I.len;obtain⟨_,S⟩:=r.ei<|n+1;rw[S.E]
def B9{h:Hp}(B:h.ok){p q:Pts}(r:Rt h p){r' n:Nat}(t:r'<I h.E){s i pt wd v:Int}(D:n<=255)(o:Xg n pt=(wd,0))(L:Rt (placeG h p n) q){res:Hp×Int}
  (a:(roomP (placeG h p n) q (n+1:Nat)=xw/\res=(Hp.zero,7))\/(roomP (placeG h p n) q (n+1:Nat)=xk/\res=(ZM (Yj (placeG h p n) wd n) 4 r'<|ZG (Zv<|Yj (placeG h p n) wd n) 2 0,0))):
  VC Tryz.prog 12 xw [ZF h,YI 1 r' s i n pt v] (.am [vu 0,ZF res.1,vi res.2]):=by
 refine TC B r.right Z0 (λu K=>by simp[Xf]at K;omega) (F:=107) Z2 NG (λw G f y H=> ?_) ?_;refine Z84 (Ol w h f (v':=(Qb h p q n wd).1) (g:=(Qb h p q n wd).2.1) (er:=(Qb h p q n wd).2.2) (Q:=0<I h.E) (res:=res) (λW z=> ?_) ?_) RL;obtain⟨M,x,_,A⟩:=GL W G (λb d=>Z6o (y b d) z.size) h B f (λj C=>(H j C).keep (λb d=>z.block b<|y b d) λ_ q=>q) n pt wd D o r;rw[L.dn x]at A;exact A;unfold Qb;obtain⟨k,l⟩|⟨k,l⟩:=a;left;rw[k,l];exact⟨Z1,rfl⟩;right;rw[k,l];exact⟨rfl,Z0,by show r'< (placeG h p n).E.length;rw[Pn r];exact t,rfl⟩;obtain⟨_,rfl⟩|⟨_,rfl⟩:=a;exact .inl ⟨Z5q,rfl,rfl⟩;exact .inr<|.inl ⟨rfl,rfl,Z0X⟩
end Vm
end
section
namespace Vm
open Go Go.Proofs
section
def VX(k:Nat)(o:Ob):Ob:= {o with Y:=o.Y+(k:Int)}
def Z0L{ws r:Z5}{old:Bool}{o:Ob}(s:Stands ws old o):Stands (r++ws) old<|VX (I r) o:=by
 obtain⟨a,f⟩:=Z6q s.gd;have e:(o.Y+(I r:Int)).toNat=I r+a:=by rw[f];omega
 have d:o.Y.toNat=a:=by rw[f];rfl
 refine⟨by show 0<=o.Y+(I r:Int);have:=s.gd;omega,s.shape,?_,?_,?_⟩;show o.Y+(I r:Int)+1+o.size<=(I (r++ws):Nat);have:=s.ah;rw[Z6L];omega;have:=s.ew;show Xp (((r++ws).drop<|(o.Y+(I r:Int)).toNat+1).take o.size.toNat) o.gone o.Z 0=xk;rw[e,Z77,<-List.drop_drop,List.drop_left,<-d];exact this;obtain⟨w,g,h⟩:=s.cm;refine⟨w,?_,h⟩;show(r++ws)[(o.Y+(I r:Int)).toNat]?=J w;rw[e,Z6v Z0,Z7z,<-d];exact g
def FB{ws r:Z5}{old:Bool}:∀ {a:Nat} {l:Z8},Tiles ws old a l->Tiles (r++ws) old (I r+a) (l.map<|VX<|I r)
 |a,[],h=>by
  show I (r++ws)<=I r+a;have:I ws<=a:=h;rw[Z6L];omega
 |a,o::l,⟨g,d,f⟩=>by
  refine⟨by show o.Y+(I r:Int)=((I r+a:Nat):Int);omega,Z0L d,?_⟩;have:=FB (r:=r) f;rw[show I r+a+1+(VX (I r) o).size.toNat=I r+(a+1+o.size.toNat)by show I r+a+1+o.size.toNat=_;omega];exact this
def VF(p:Pts)(n:Nat)(m:Int):Pts:= {p with aa:=⟨0,(n:Int),m,xw,0⟩::p.aa.map (VX<|n+1)}
section
variable {g:Hp}{p:Pts}{wd m:Int}{n:Nat}
def Jy(wd:Int)(n:Nat)(k:Int):ZD (Zv<|Yj g wd n) k=if k=2 then ZD (Zv g) 2- ((n+1:Nat):Int)else ZD (Zv g) k:=by
 have f:(Zv<|Yj g wd n).aa=(Zv g).aa+((n+1:Nat):Int):=by
  show((I ((wd::List.replicate n 0)++g.aa):Nat):Int)=(I g.aa:Int)+_;simp;omega
 unfold ZD;rw[f];by_cases d:k=1;subst d;rfl;by_cases a:k=2;subst a;show(Zv g).V+(Zv g).to*(Zv g).cap+((Zv g).cap- ((Zv g).aa+((n+1:Nat):Int)))=(Zv g).V+(Zv g).to*(Zv g).cap+((Zv g).cap- (Zv g).aa) - ((n+1:Nat):Int);omega;rw[Z6h d,Z6h a,Z6h a,Z6h d,Z6h a];rfl
def SX(k:Int):(VF p n m).at k=if k=2 then⟨0,(n:Int),m,xw,0⟩::p.aa.map (VX<|n+1)else p.at k:=by
 unfold VF Pts.at;by_cases d:k=1;subst d;rfl;by_cases a:k=2;subst a;rfl;rw[Z6h d,Z6h a,Z6h a,Z6h d,Z6h a]
def jl(k:Int):Zw (Yj g wd n) k=if k=2 then(wd::List.replicate n 0)++g.aa else Zw g k:=by
 unfold Zw Yj;by_cases d:k=1;subst d;rfl;by_cases a:k=2;subst a;rfl;rw[Z6h d,Z6h a,Z6h a,Z6h d,Z6h a]
def Jz{w i j:Int}(h:Gos g p w i j):Gos (Yj g wd n) (VF p n m) w i j:=by
 obtain l|⟨k,o,d,f,e⟩:=h;exact .inl l;right;by_cases a:k=2;subst a;refine⟨2,VX (n+1) o,d,?_,?_⟩;rw[SX,Z6k rfl];exact Z76 _<|Z74 f;rw[e];unfold ZG;rw[Jy,Z6k rfl];show _=2*(ZD (Zv g) 2- ((n+1:Nat):Int)+(o.Y+((n+1:Nat):Int)))+1;omega;refine⟨k,o,d,by rw[SX,Z6h a];exact f,?_⟩;rw[e];unfold ZG;rw[Jy,Z6h a]
def El{k:Int}{i:Nat}{w:Int}(h:Yz g p k i w):Yz (Yj g wd n) (VF p n m) k i w:=by
 unfold Yz at h⊢;show if 2<k then Gos (Yj g wd n) (VF p n m) w 3 4 else if k=1/\g.O<=(i:Int)then Gos (Yj g wd n) (VF p n m) w 1 2\/Gos (Yj g wd n) (VF p n m) w 3 4 else Gos (Yj g wd n) (VF p n m) w 1 2;split;rw[Z6k (by assumption)]at h;exact Jz h;rw[Z6h (by assumption)]at h;by_cases a:k=1/\g.O<=(i:Int);rw[Z6k a]at h;rw[Z6k a];exact h.imp Jz Jz;rw[Z6h a]at h;rw[Z6h a];exact Jz h
def Rt.dp(r:Rt g p)(D:Xg n m=(wd,0))(Q:(I g.H:Int)+I g.aa+Yt p+(n+1:Nat)<=g.cap):Rt (Yj g wd n)<|VF p n m:=by
 have x:Yo n m=xk:=by
  unfold Xg at D;split at D;assumption;cases D
 obtain⟨R,S,T,W⟩:=Yq.1 x;have G:ZW wd=((n:Int),m,0):=by
  have:=FJ x;rw[D]at this;exact this
 have f:I (wd::List.replicate n 0)=n+1:=Z1;have F:Stands ((wd::List.replicate n 0)++g.aa) xw ⟨0,(n:Int),m,xw,0⟩:=by
  refine⟨Int.le_refl _,x,?_,?_,⟨wd,rfl,?_⟩⟩;rw[Z6L,f];show(0:Int)+1+(n:Int)<=_;omega
  show Xp ((((wd::List.replicate n 0)++g.aa).drop 1).take n) xw m 0=xk;rw[show((wd::List.replicate n 0)++g.aa).drop 1=List.replicate n 0++g.aa from rfl,Z9B Z1];refine Uz λj w u=>⟨λh=>Z5u,λ_=> ?_⟩;rw[Z8n]at u;split at u;cases u;rfl;cases u;rw[Z6h Z1];exact⟨λh=>Z5u,G,rfl⟩
 refine⟨⟨⟨Ej r.al rfl Z0,λk z=> ?_⟩,λk z o l C=> ?_,λk z o l C j u w d=> ?_,?_⟩,r.dj,r.dq,r.cz,r.fq,r.df,λO o l=> ?_,λw d=>Jz<|r.E w d⟩;rw[jl,SX];by_cases t:k=2;subst t;rw[Z6k rfl,Z6k rfl];have:=FB (r:=wd::List.replicate n 0)<|r.af 2 Z0;rw[f]at this;refine⟨rfl,F,?_⟩;show Tiles _ _ (0+1+n) _;rw[show 0+1+n=n+1+0 by omega];exact this;rw[Z6h t,Z6h t];exact r.af k z;have t:¬k=2:=Z0;rw[SX,Z6h t]at l;obtain⟨q,L,B,M⟩:=r.gone k z o l C;exact⟨q,L,by rw[Jy,Z6h Z0];exact B,M⟩;rw[SX]at l;rw[jl]at d;by_cases t:k=2;subst t;rw[Z6k rfl]at l d;obtain rfl|l:=Z6S.1 l;have P:(j:Int)<m:=u;have:((wd::List.replicate n 0)++g.aa)[0+1+j]?=J 0:=by
  rw[Z6B (by rw[f];omega),show 0+1+j=j+1 by omega,Z8l,Z8n,Z6k Z0]
 have e:w=0:=by
  have K:((wd::List.replicate n 0)++g.aa)[0+1+j]?=J w:=d;rw[this]at K;exact(Z8s K).symm
 rw[e];exact At _ _;obtain⟨y,A,rfl⟩:=Z6F.1 l;obtain⟨a,N⟩:=Z6q ((r.af 2 Z0).aq y A).1.gd;have e:(VX (n+1) y).Y.toNat+1+j=(n+1)+(y.Y.toNat+1+j):=by
  show(y.Y+((n+1:Nat):Int)).toNat+1+j=_;rw[N];omega
 rw[e]at d⊢;have H:g.aa[y.Y.toNat+1+j]?=J w:=by
  rw[Z6v (by rw[f];omega),f,Z7z]at d;exact d
 have:=r.ptr 2 Z0 y A C j u w H;have B:Yz (Yj g wd n) (VF p n m) 2 (y.Y.toNat+1+j) w:=El this;unfold Yz at B⊢;simpa using B;rw[Z6h t]at l d;exact El<|r.ptr k z o l C j u w d;show(I g.H:Int)+((I ((wd::List.replicate n 0)++g.aa):Nat):Int)+(Yt p:Nat)<=g.cap;rw[Z6L,f];omega;rw[Jy,Z6h Z0];exact r.dt O o l
end
end
section
section
variable {h g:Hp}{p q:Pts}
def jm(x:Hp)(wd:Int)(n:Nat)(k:Int):ZX (Zv<|Yj x wd n) k=if k=2 then ZX (Zv x) 2+((n+1:Nat):Int)else ZX (Zv x) k:=by
 have f:(Zv<|Yj x wd n).aa=(Zv x).aa+((n+1:Nat):Int):=by
  show((I ((wd::List.replicate n 0)++x.aa):Nat):Int)=(I x.aa:Int)+_;simp;omega
 unfold ZX;rw[f];by_cases d:k=1;subst d;rfl;by_cases a:k=2;subst a;rfl;rw[Z6h d,Z6h a,Z6h a,Z6h d,Z6h a];rfl
def Em(x:Hp)(wd:Int)(n:Nat){k a:Int}:ZG (Zv<|Yj x wd n) k (if k=2 then a+((n+1:Nat):Int)else a)=ZG (Zv x) k a:=by
 unfold ZG;rw[Jy];by_cases d:k=2;subst d;rw[Z6k rfl,Z6k rfl];omega;rw[Z6h d,Z6h d]
def Mvd.dp(m:Mvd h p g)(r:Rt h p){n:Nat}{mm wd:Int}(F:Xg n mm=(wd,0))(R:Rt (Yj h wd n)<|VF p n mm){q:Pts}(L:Rt (Yj g wd n) q):Mvd (Yj h wd n) (VF p n mm)<|Yj g wd n:=by
 have Q:∀k,ZX (Zv<|Yj g wd n) k=ZX (Zv<|Yj h wd n) k:=λk=>by rw[jm,jm,m.gt,m.gt]
 have z:∀w,WC (Zv h) w->mu (Yj h wd n) (Yj g wd n) w=mu h g w:=λw l=>by
  obtain rfl|⟨k,a,O,C,rfl⟩:=l;rw[m.ky r.al];unfold mu;rw[SY R.al L.al];have t:=m.ld r.al O (a:=a) ⟨C.1,by rw[VI h O]at C;exact C.2⟩;rw[t,<-Em h wd n,<-Em g wd n];unfold mu;rw[Tp R.al L.al O ⟨?_,?_⟩<|Q k];split<;>omega;rw[jm];split;rename_i A;subst A;omega;exact C.2
 have d:I (wd::List.replicate n 0)=n+1:=Z1;have G:∀(x:Hp) (k:Int),Zw (Yj x wd n) k=if k=2 then(wd::List.replicate n 0)++x.aa else Zw x k:=λx k=>jl k
 refine⟨L.al,Q,m.da,λj K o D i y w l=> ?_,λj K i y=> ?_,?_⟩;rw[SX]at D;rw[G]at l⊢;by_cases A:j=2;subst A;rw[Z6k rfl]at D l⊢;obtain rfl|D:=Z6S.1 D;have P:Yo n mm=xk:=by
  unfold Xg at F;split at F;assumption;cases F
 obtain⟨X,Y,Z,s4⟩:=Yq.1 P;have W:1<=i/\i<n+1:=by
  obtain⟨t,_⟩|⟨_,t,B⟩:=y;cases t;simp only at t B;omega
 obtain⟨c,rfl⟩:∃c,i=c+1:=⟨i-1,Z0⟩;rw[Z6B (by rw[d];omega),Z8l,Z8n,Z6k Z0]at l⊢;cases l;rw[z 0<|.inl rfl,m.ky r.al];obtain⟨f,u,rfl⟩:=Z6F.1 D;obtain⟨a,C⟩:=Z6q ((r.af 2 Z0).aq f u).1.gd;have M:(VX (n+1) f).Y.toNat=f.Y.toNat+(n+1):=by
  show(f.Y+((n+1:Nat):Int)).toNat=_;rw[C];omega
 have N:∃c,i=n+1+c/\Xk f c:=by
  unfold Xk at y;rw[M]at y;obtain⟨t,B⟩|⟨t,B,S⟩:=y;exact⟨f.Y.toNat,Z0,.inl ⟨t,rfl⟩⟩;have T:(VX (n+1) f).Z=f.Z:=rfl;exact⟨i- (n+1),Z0,.inr ⟨t,Z0,Z0⟩⟩
 obtain⟨c,rfl,H⟩:=N;rw[Z6v (by rw[d];omega),d,Z7z]at l⊢;exact(m.ptr 2 Z0 f u c H w l).trans (by rw[z w<|Ul r.toBody (k:=2) Z0 u H l]);rw[Z6h A]at D l⊢;rw[m.ptr j K o D i y w l,z w<|Ul r.toBody K D y l];rw[SX]at y;rw[G,G];by_cases A:j=2;subst A;rw[Z6k rfl]at y⊢;rw[Z6k rfl];by_cases B:i<n+1;rw[Z6B (by rw[d];exact B),Z6B (by rw[d];exact B)];obtain⟨c,rfl⟩:∃c,i=n+1+c:=⟨i- (n+1),Z0⟩;rw[Z6v (by rw[d];omega),Z6v (by rw[d];omega),d,Z7z];refine m.fj 2 Z0 c λf u H=>y (VX (n+1) f) (Z76 _<|Z74 u) ?_;obtain⟨a,C⟩:=Z6q ((r.af 2 Z0).aq f u).1.gd;have M:(VX (n+1) f).Y.toNat=f.Y.toNat+(n+1):=by
  show(f.Y+((n+1:Nat):Int)).toNat=_;rw[C];omega
 unfold Xk;rw[M];have T:(VX (n+1) f).Z=f.Z:=rfl;obtain⟨t,B⟩|⟨t,B,S⟩:=H;exact .inl ⟨t,Z0⟩;exact .inr ⟨t,Z0,Z0⟩;rw[Z6h A]at y⊢;rw[Z6h A];exact m.fj j K i y;show g.E=h.E.map _;rw[m.E];exact Z7w λw l=>(z w<|UP r.toTld Z0 Z0<|r.E w l).symm
end
end
section
section
variable {h g:Hp}{p q:Pts}
def OR(g:Hp){j:Nat}(f:j=0\/j=1)(i:Nat)(v k:Int):Zw (ZM g j i v) k=if k=(j:Int)+1 then(Zw g k).set i v else Zw g k:=by
 obtain rfl|rfl:=f;show Zw {g with H:=g.H.set i v} k=if k=1 then(Zw g k).set i v else Zw g k;by_cases a:k=1;subst a;rfl;rw[Z6h a];unfold Zw;rw[Z6h a,Z6h a];show Zw {g with aa:=g.aa.set i v} k=if k=2 then(Zw g k).set i v else Zw g k;by_cases d:k=2;subst d;rfl;rw[Z6h d];by_cases a:k=1;subst a;rfl;unfold Zw;rw[Z6h a,Z6h d,Z6h a,Z6h d]
def J4(g:Hp){j:Nat}(a:j<5)(i:Nat)(v:Int):Zv (ZM g j i v)=Zv g:=by
 have:j=0\/j=1\/j=2\/j=3\/j=4:=Z0;obtain rfl|rfl|rfl|rfl|rfl:=this<;>simp[ZM,Zv]
def Body.km(b:Body g q){j:Nat}(hj:j=0\/j=1){o:Ob}(P:o∈q.at ((j:Int)+1)){c:Nat}(hc:(c:Int)<o.Z){v:Int}(O:Gos g q v 1 2):Body (ZM g j (o.Y.toNat+1+c) v) q:=by
 obtain⟨i,hi⟩:∃i,o.Y.toNat+1+c=i:=⟨_,rfl⟩;rw[hi];have r:1<=(j:Int)+1/\(j:Int)+1<=4:=Z0;obtain⟨a,n,m,ea,en,em,a1,_,a4⟩:=b.toTld.ob r P;have y:=J4 g (j:=j) Z0 i v;obtain⟨_,_,_,a3,N⟩:=Wq g j i v;have a0:∀ {w Q R},Gos (ZM g j i v) q w Q R↔Gos g q w Q R:=UD y;have G:=OR g hj i v;have H:=b.af _ r;rw[show decide (2< (j:Int)+1)=xw by simp;omega]at H;have D:i< I (Zw g<|(j:Int)+1):=Z0;have z:∀x∈q.at ((j:Int)+1),∀d:Nat,(d:Int)<=x.size->x.Y.toNat+d=i->x=o/\0<d:=by
  intro x p d l e;obtain⟨S,W,T,Z,ed,M,_⟩:=b.toTld.ob r p;obtain C|C|C:=H.apart x p o P;subst C;exact⟨rfl,Z0⟩;omega;omega
 refine⟨⟨by rw[y];exact b.al,λk L=> ?_⟩,by rw[y];exact b.gone,λk L x p K d l w t=> ?_,?_⟩;rw[G];by_cases B:k=(j:Int)+1;subst B;rw[Z6k rfl,show decide (2< (j:Int)+1)=xw by simp;omega];refine H.congr Z1 λx p=> ?_;have f:=(H.aq x p).1;have a5:=Yq.1 f.shape;obtain⟨S,W,T,Z,ed,M,a2,_⟩:=b.toTld.ob r p;have K:=H.bi x p;have h0:((Zw g<|(j:Int)+1).set i v)[x.Y.toNat]?=(Zw g<|(j:Int)+1)[x.Y.toNat]? :=by
  refine Z6W λe=> ?_;have:=(z x p 0 Z0 Z0).2;omega
 refine⟨f.gd,f.shape,by simpa using f.ah,Uz λd w l=>⟨λh=>(by rw[K]at h;cases h),λhp=> ?_⟩,by rw[h0];exact f.cm⟩;have F:d<x.size.toNat:=by
  have:=(Z6d.1 l).1;simp at this;omega
 rw[Z6U F,Z6C]at l;by_cases e:x.Y.toNat+1+d=i;rw[e,Z7b D]at l;cases l;exact BX b.toTld O;rw[Z6W (λh=>e h.symm)]at l;refine(Rg f.ew d w ?_).2 hp;rw[Z6U F,Z6C];exact l;rw[Z6h B];exact b.af k L;have A:∀ {u},Yz g q k (x.Y.toNat+1+d) u->Yz (ZM g j i v) q k (x.Y.toNat+1+d) u:=λ{u} hu=>(As y N).2 hu;rw[G]at t;by_cases B:k=(j:Int)+1;rw[Z6k B]at t;by_cases e:x.Y.toNat+1+d=i;subst B;rw[e,Z7b D]at t;cases t;refine A ?_;unfold Yz;rw[Z6h Z0];split;exact .inl O;exact O;rw[Z6W (λh=>e h.symm)]at t;exact A<|b.ptr k L x p K d l w t;rw[Z6h B]at t;exact A<|b.ptr k L x p K d l w t;have hr:=b.cx;have C:(ZM g j i v).H.length=I g.H:=by have:=Z7J Ly.H y;simp only[Zv]at this;omega
 have X:(ZM g j i v).aa.length=I g.aa:=by have:=Z7J Ly.aa y;simp only[Zv]at this;omega
 have Y:(ZM g j i v).cap=g.cap:=Z7J Ly.cap y;rw[C,X,Y];exact hr
end
end
section
section
variable {h g:Hp}{p q:Pts}
def Un(h:Hp){j:Nat}(a:j=0\/j=1):Zu h j=Zw h ((j:Int)+1):=by obtain rfl|rfl:=a<;>rfl
def D0(t:Tld h p){k:Int}(D:k=1\/k=2){o:Ob}(r:o∈p.at k):∃j a n m u,(j=0\/j=1)/\k=(j:Nat)+1/\o.Y=(a:Nat)/\o.size=(n:Nat)/\o.Z=(m:Nat)/\ObAt h (ZG (Zv h) k o.Y) j a n m u:=by
 have f:1<=k/\k<=4:=Z0;obtain⟨a,n,m,g,y,em,C,_,q⟩:=t.ob f r;have x:=t.af k f;rw[show decide (2<k)=xw by simp;omega]at x;obtain⟨w,z,A⟩:=(x.aq o r).1.cm;rw[x.bi o r,Z6h Z1]at A;obtain⟨j,l,d⟩:∃j:Nat,(j=0\/j=1)/\k=(j:Int)+1:=by
  obtain rfl|rfl:=D;exact⟨0,.inl rfl,rfl⟩;exact⟨1,.inr rfl,rfl⟩
 have B:=XW t.al k;have F:=Uy (h:=h) f;refine⟨j,a,n,m,w,l,d,g,y,em,⟨l,by rw[g,d],?_,?_,?_,q,?_⟩⟩;unfold ZG Zy;rw[g];omega;rw[Un h l,<-d];rw[g]at z;exact z;rw[A.2.1,y,em];rw[Un h l,<-d];omega
def Nt(r:Rt h p){k:Int}(K:k=1\/k=2){o:Ob}(y:o∈p.at k){c:Nat}(C:(c:Int)<o.Z){pv:Int}(t:(Zw h k)[o.Y.toNat+1+c]?=J pv):
  ∃v g q,fwd h pv=(v,g,0)/\Body g q/\(h.M=xk->UF g q)/\(h.M=xw->g=h/\q=p)/\Ext h p g q/\Gos g q v 1 2:=by
 have l:1<=k/\k<=4:=Z0;have z:=r.af k l;rw[show decide (2<k)=xw by simp;omega]at z;have d:=r.ptr k l o y (z.bi o y) c C pv t;have w:=(Z6d.1 t).1;unfold Yz at d;rw[Z6h Z0]at d;cases j:h.M with
 |true=>
  have u:Gos h p pv 1 2\/Gos h p pv 3 4:=by
   split at d;exact d;exact .inl d
  obtain⟨v,g,q,f⟩:=r.toBody.dx r.cz u;exact⟨v,g,q,f.fwd,f.body,λ_=>f.dt<|r.dt j,λh=>Z5u,f.ext,f.rj⟩
 |false=>
  have L:=(r.df j).1;rw[Z6h (by rintro⟨rfl,H⟩;simp only[Xn]at w;omega)]at d;refine⟨pv,h,p,?_,r.toBody,λh=>Z5u,λ_=>⟨rfl,rfl⟩,.refl h p,d⟩;obtain rfl|⟨F,M,D,x,rfl⟩:=d;exact QU r.al;obtain⟨a,n,m,A,G,em,B,_⟩:=r.toTld.ob (k:=F) Z0 x;exact fwd_here r.al Z0 (by rw[A];omega)
def Bk(e:Ext h p g q){k:Int}(d:k=1\/k=2){o:Ob}(a:o∈p.at k):o∈q.at k:=by
 obtain rfl|rfl:=d;obtain⟨r,f⟩:=e.gx;show o∈q.H;rw[f];exact Z7r _ a;show o∈q.aa;rw[e.ie];exact a
def M9(e:Ext h p g q){k:Int}(d:k=1\/k=2){i:Nat}(a:i< I (Zw h k)):(Zw g k)[i]?=(Zw h k)[i]? :=by
 obtain rfl|rfl:=d;obtain⟨j,f⟩:=e.H;show g.H[i]?=h.H[i]?;rw[f];exact Z6B a;show g.aa[i]?=h.aa[i]?;rw[e.aa]
def Nu(r:Rt h p)(b:Body g q)(Q:h.M=xk->UF g q)(O:h.M=xw->g=h/\q=p)(e:Ext h p g q){v:Int}(B:Gos g q v 1 2){j:Nat}(z:j=0\/j=1){o:Ob}(u:o∈p.at ((j:Int)+1)){c:Nat}(d:(c:Int)<o.Z)(r':Nat):
  Rt (ZM (ZM g j (o.Y.toNat+1+c) v) 4 r' v) q:=by
 have N:(j:Int)+1=1\/(j:Int)+1=2:=Z0;have y:=b.km z (Bk e N u) d B;obtain⟨i,M⟩:∃i,o.Y.toNat+1+c=i:=⟨_,rfl⟩;rw[M]at y⊢;obtain⟨R,S,T,x,n⟩:=Wq g j i v;have l:=J4 g (j:=j) Z0 i v;have t:(ZM g j i v).H.length=I g.H:=by have:=Z7J Ly.H l;simp only[Zv]at this;omega
 have D:(ZM g j i v).ad.length=I g.ad:=by have:=Z7J Ly.ad l;simp only[Zv]at this;omega
 have F:(ZM g j i v).ae.length=I g.ae:=by have:=Z7J Ly.ae l;simp only[Zv]at this;omega
 have G:(ZM g j i v).E=g.E:=by obtain rfl|rfl:=z<;>rfl
 have C:=y.E<|g.E.set r' v;have eq:ZM (ZM g j i v) 4 r' v= {ZM g j i v with E:=g.E.set r' v}:=by
  show {ZM g j i v with E:=(ZM g j i v).E.set r' v}=_;rw[G]
 rw[eq];have k:Zv {ZM g j i v with E:=g.E.set r' v}=Zv g:=l;have P:=r.cz;have A:I h.H<=I g.H:=by obtain⟨W,f⟩:=e.H;rw[f,Z6L];omega
 refine⟨C,?_,?_,?_,λd=> ?_,λd=> ?_,λd o u=> ?_,λw f=> ?_⟩;show I (g.E.set r' v)<=16;rw[Z7g,e.E];exact r.dj;show 0<=(ZM g j i v).O;rw[n,e.O];exact r.dq;show(ZM g j i v).O<=((ZM g j i v).H.length:Nat);rw[n,e.O,t];omega;have a:h.M=xk:=by rw[<-e.M,<-x];exact d
 have:=r.fq a;show(ZM g j i v).O< ((ZM g j i v).H.length:Nat);rw[n,e.O,t];omega;have a:h.M=xw:=by rw[<-e.M,<-x];exact d
 obtain⟨H,K,L⟩:=r.df a;obtain⟨rfl,rfl⟩:=O a;refine⟨?_,?_,?_⟩;show(ZM g j i v).O=((ZM g j i v).H.length:Nat);rw[n,t];exact H;show(ZM g j i v).ad=[];exact Z7p (by rw[D,K];rfl);show(ZM g j i v).ae=[];exact Z7p (by rw[F,L];rfl);have a:h.M=xk:=by rw[<-e.M,<-x];exact d
 rw[k];exact Q a o u;refine(UD k).2 ?_;have f:w∈g.E.set r' v:=f;obtain f|rfl:=Z6Z f;exact e.na Z0 Z0<|r.E w (by rw[<-e.E];exact f);exact B
end
end
end Vm
end
section

end
section
namespace Vm
open Go Go.Proofs
def Ra{g:Hp}(a:g.ok){j:Nat}(n:j<5)(i:Nat){v:Int}(f:Zy v):(ZM g j i v).ok:=by
 have key:∀(l:Z5),(∀w∈l,Zy w)->∀w∈l.set i v,Zy w:=λl d w k=>by
  obtain h|rfl:=Z6Z k;exact d w h;exact f
 have:j=0\/j=1\/j=2\/j=3\/j=4:=Z0;obtain rfl|rfl|rfl|rfl|rfl:=this;exact⟨a.V,a.cap,a.to,a.O,by simpa[ZM]using a.H,a.aa,a.ad,a.ae,a.E,key _ a.dm,a.db,a.gy,a.gw,a.cg⟩;exact⟨a.V,a.cap,a.to,a.O,a.H,by simpa[ZM]using a.aa,a.ad,a.ae,a.E,a.dm,key _ a.db,a.gy,a.gw,a.cg⟩;exact⟨a.V,a.cap,a.to,a.O,a.H,a.aa,by simpa[ZM]using a.ad,a.ae,a.E,a.dm,a.db,key _ a.gy,a.gw,a.cg⟩;exact⟨a.V,a.cap,a.to,a.O,a.H,a.aa,a.ad,by simpa[ZM]using a.ae,a.E,a.dm,a.db,a.gy,key _ a.gw,a.cg⟩;exact⟨a.V,a.cap,a.to,a.O,a.H,a.aa,a.ad,a.ae,by simpa[ZM]using a.E,a.dm,a.db,a.gy,a.gw,key _ a.cg⟩
end Vm
end
section
namespace Vm
open Go Go.Proofs Go.RowKit
def IW(w:Z4)(G:Z6)(T:∀b,G b->b<xz (xj w))(h:Hp)(W:h.ok)(n:Z3)(Y:∀j,j<5->Rd w G (.sl<|(Zu h j).map vu) (n j)){k s i z pp v:Int}{r':Nat}(N:r'<I h.E):
  Calls Tryz.prog 122 #[.agg<|Yu k r' s i z pp v,Zx h n] w (U7 w (ZM h 4 r' 0,0)):=by
 have HS:=Z6e Y;have HH:=Z6e W;clear Y W;have A:r'< I (Zu h 4):=N;have u:0< I (Zu h 4):=Z0;have a0:(r':Int)< I (Zu h 4):=Z0;obtain⟨rv,O⟩:∃rv,(Zu h 4)[r']?=J rv:=⟨_,Z6b A⟩;obtain⟨s1,s2,s3,s4,s5⟩:=Wq h 4 r' 0;have SN:=Z6e<|And.intro s1<|And.intro s2<|And.intro s3<|And.intro s4 s5;clear s1 s2 s3 s4 s5;unfold Zx Yu;go_enter Tryz.func122,Tryz.ntmps122;go_wp2_with (first|(go_at_call 18;fail))
 refine(TH _ G (λb M=>by have:=T b M;simp;omega) h HH.out n (λj hj=>(HS.out j hj).keep (λb M=>by have:=T b M;rw[Z6m _ _ _ Z5j,Z6m _ _ _ Z5j,Z6m _ _ _ Z0])<|λ_ h=>h)).mono ?_;rintro e w5 ⟨y,rfl,p,x⟩;obtain⟨a,q,Q,X⟩:=x.ip;rw[Q];have f:MSt w (w5.alloc _) 124 (Yu k r' s i z pp v) h (X8 h a q)<|xz<|xj w5:=Jc p X rfl;obtain⟨L,d⟩:=T5 (f.own.own 4 Z0) rfl u;have P:X8 h a q 4=.slice (J ⟨L,0,U⟩) (I<|Zu h 4) (q 4):=by simp[X8,d]
 have g:=f.own.own 4 Z0;rw[P]at g;have r:=Vn g O;have t:=S5 g (i:=r') u;have l:=f.put (j:=4) (i:=r') Z0 P 0;obtain⟨D,S⟩:=f.F;obtain⟨H,K⟩:=l.F;rw[SN.out.1,SN.out.2.1,SN.out.2.2.1,SN.out.2.2.2.1,SN.out.2.2.2.2]at K;obtain⟨Z,r4⟩:=l.R;have o:=Z6e l;unfold Yu at D H;unfold Zx;dsimp only[X8]at S K r t Z r4 D H⊢;simp only[d]at D S H K r t Z r4⊢;clear f l g p x X Q;go_wp2;have C:=SE h 4 r' 0<|X8 h a q;have B:=Xo o.out.bj (.int .u64 h.V) (.int .i64 h.cap) (.int .i64 h.to) (.bool h.M) (.int .i64 h.O) (.slice (a 0) (I<|Zu h 0)<|q 0) (.slice (a 1) (I<|Zu h 1)<|q 1) (.slice (a 2) (I<|Zu h 2)<|q 2) (.slice (a 3) (I<|Zu h 3)<|q 3)<|.slice (J ⟨L,0,U⟩) (I<|Zu h 4)<|q 4;simp only[X8,d]at B;refine Z6x (v:=.tuple #[Zx (ZM h 4 r' 0)<|X8 h a q,.int .i64 0]) ?_ rfl ?_
 .rw[C];unfold Zx;simp[results,Tryz.results122,go_sem,B,X8,d]
 have:=RB o.out (v0:=.int .u64 h.V) (v1:=.int .i64 h.cap) (v2:=.int .i64 h.to) (v3:=.bool h.M) (v4:=.int .i64 h.O) (v5:=.slice (a 0) (I<|Zu h 0)<|q 0) (v6:=.slice (a 1) (I<|Zu h 1)<|q 1) (v7:=.slice (a 2) (I<|Zu h 2)<|q 2) (v8:=.slice (a 3) (I<|Zu h 3)<|q 3) (v9:=.slice (J ⟨L,0,U⟩) (I<|Zu h 4)<|q 4);simp only[X8,d]at this;exact this
def BA{w W:Z4}{r:Hp×Int}{e:Ending}(p:U7 w r e W):U7 w r e W.drew:=by
 obtain⟨x,a,d,f⟩:=p;exact⟨x,a,d.drew,λj g=>(f j g).keep (λb _=>rfl) λ_ q=>q⟩
def H5(w:Z4)(G:Z6)(Y:∀b,G b->b<xz (xj w))(m:Hp)(Z:m.ok)(p:Z3)(hs:∀j,j<5->Rd w G (.sl<|(Zu m j).map vu) (p j)){k i z pp v n:Int}{r' s:Nat}(Q:r'<I m.E)(T:m.E[s]?=J n):
  Calls Tryz.prog 121 #[.agg<|Yu k r' s i z pp v,Zx m p] w (U7 w (ZM m 4 r' n,0)):=by
 have HS:=Z6e hs;have HH:=Z6e Z;clear hs Z;have C:r'< I (Zu m 4):=Q;have A:0< I (Zu m 4):=Z0;have l:(Zu m 4)[s]?=J n:=T;have a4:s< I (Zu m 4):=(Z6d.1 l).1;have a3:(s:Int)< I (Zu m 4):=Z0;have a2:(r':Int)< I (Zu m 4):=Z0;obtain⟨rv,S⟩:∃rv,(Zu m 4)[r']?=J rv:=⟨_,Z6b C⟩;obtain⟨s1,s2,s3,s4,s5⟩:=Wq m 4 r' n;have SN:=Z6e<|And.intro s1<|And.intro s2<|And.intro s3<|And.intro s4 s5;clear s1 s2 s3 s4 s5;unfold Zx Yu;go_enter Tryz.func121,Tryz.ntmps121;go_wp2_with (first|(go_at_call 18;fail))
 refine(TH _ G (λb P=>by have:=Y b P;simp;omega) m HH.out p (λj hj=>(HS.out j hj).keep (λb P=>by have:=Y b P;rw[Z6m _ _ _ Z5j,Z6m _ _ _ Z5j,Z6m _ _ _ Z0])<|λ_ m=>m)).mono ?_;rintro e w5 ⟨y,rfl,r,B⟩;obtain⟨a,q,W,ho⟩:=B.ip;rw[W];have d:MSt w (w5.alloc _) 123 (Yu k r' s i z pp v) m (X8 m a q)<|xz<|xj w5:=Jc r ho rfl;obtain⟨O,f⟩:=T5 (d.own.own 4 Z0) rfl A;have K:X8 m a q 4=.slice (J ⟨O,0,U⟩) (I<|Zu m 4) (q 4):=by simp[X8,f]
 have a1:=Z6e d.drew;obtain⟨L,X⟩:=d.F;have g:=d.own.own 4 Z0;rw[K]at g;have u:=Vn g l;have t:=Vn g S;have x:=S5 g (i:=r') A;have h:=(d.put (j:=4) (i:=r') Z0 K n).drew;obtain⟨M,N⟩:=h.F;rw[SN.out.1,SN.out.2.1,SN.out.2.2.1,SN.out.2.2.2.1,SN.out.2.2.2.2]at N;obtain⟨r3,r4⟩:=h.R;have a0:=Z6e h;have o:=Z6e<|d.put (j:=4) (i:=r') Z0 K n;obtain⟨p3,p4⟩:=o.out.R;unfold Zx;unfold Yu at L M;dsimp only[X8]at L X u t x M N r3 r4 p3 p4⊢;simp only[f]at L X u t x M N r3 r4 p3 p4⊢;clear d h r B ho W g;go_wp2;go_region;go_wp2;have H:=SE m 4 r' n<|X8 m a q;have D:=Xo o.out.bj (.int .u64 m.V) (.int .i64 m.cap) (.int .i64 m.to) (.bool m.M) (.int .i64 m.O) (.slice (a 0) (I<|Zu m 0)<|q 0) (.slice (a 1) (I<|Zu m 1)<|q 1) (.slice (a 2) (I<|Zu m 2)<|q 2) (.slice (a 3) (I<|Zu m 3)<|q 3)<|.slice (J ⟨O,0,U⟩) (I<|Zu m 4)<|q 4;simp only[X8,f]at D;refine Z6x (v:=.tuple #[Zx (ZM m 4 r' n)<|X8 m a q,.int .i64 0]) ?_ rfl ?_
 .rw[H];unfold Zx;simp[results,Tryz.results121,go_sem,D,X8,f]
 have:=RB o.out (v0:=.int .u64 m.V) (v1:=.int .i64 m.cap) (v2:=.int .i64 m.to) (v3:=.bool m.M) (v4:=.int .i64 m.O) (v5:=.slice (a 0) (I<|Zu m 0)<|q 0) (v6:=.slice (a 1) (I<|Zu m 1)<|q 1) (v7:=.slice (a 2) (I<|Zu m 2)<|q 2) (v8:=.slice (a 3) (I<|Zu m 3)<|q 3) (v9:=.slice (J ⟨O,0,U⟩) (I<|Zu m 4)<|q 4);simp only[X8,f]at this;exact BA this
def NK:∀(n:Nat) (W:Z4) (x:Za),0<n->(method n (X3 6) x "cromlech/mutator.do").run Tryz.prog W=.ok (121,x) W
 |n+1,W,x,_=>Z2
def NL:∀(n:Nat) (W:Z4) (x:Za),0<n->(method n (X3 7) x "cromlech/mutator.do").run Tryz.prog W=.ok (122,x) W
 |n+1,W,x,_=>Z2
def Z12:∀(W:Z4) (x:Za),(Instr.typeAssert (.iface (X3 6) x) 75 80 xk).run Tryz.prog W=.ok (.tuple #[.nilIface,.bool xw]) W:=Qo Z2
def Z13:∀(W:Z4) (x:Za),(Instr.typeAssert (.iface (X3 7) x) 75 80 xk).run Tryz.prog W=.ok (.tuple #[.nilIface,.bool xw]) W:=Qo Z2
def B7{h:Hp}(f:h.ok)(j:Yp h=xk){r':Nat}(a:r'<I h.E){s i z pp v:Int}:VC Tryz.prog 12 xw [ZF h,YI 7 r' s i z pp v]<|.am [vu 0,ZF<|ZM h 4 r' 0,vi 0]:=
 TC f j Z0 (λu l=>by simp[Xf]at l;omega) (F:=122) Z2 NL (λw G d g k=>(IW w G g h f d k a).mono RL) (.inr<|.inl ⟨rfl,rfl,Z13⟩)
def B6{h:Hp}(g:h.ok)(n:Yp h=xk){r' s:Nat}(a:r'<I h.E){k:Int}(j:h.E[s]?=J k){i z pp v:Int}:VC Tryz.prog 12 xw [ZF h,YI 6 r' s i z pp v]<|.am [vu 0,ZF<|ZM h 4 r' k,vi 0]:=by
 have o:=(Z6d.1 j).1;exact TC g n Z0 (λu p=>by simp[Xf]at p;omega) (F:=121) Z2 NK (λw G f l d=>(H5 w G l h g f d a j).mono RL)<|.inr<|.inl ⟨rfl,rfl,Z12⟩
def Z0Q(w:Z4)(G:Z6)(hG:∀b,G b->b<xz (xj w))(d:Hp)(hh:d.ok)(a8:Z3)(hs:∀j,j<5->Rd w G (.sl<|(Zu d j).map vu) (a8 j))(hl:ZC (Zv d)=xk){k z pp v i w0 wv:Int}{s r':Nat}(hr:d.E[s]?=J w0)(d9:d.E[r']?=J wv)(hi:ZP i)
  {res:Hp×Int} (hO:(w0=0/\res=(Hp.zero,6))\/∃j a n m u,ObAt d w0 j a n m u/\((0<=i/\i<m/\res=(ZM d j (a+1+i.toNat) wv,0))\/(¬(0<=i/\i<m)/\res=(Hp.zero,1)))):
  Calls Tryz.prog 119 #[.agg<|Yu k r' s i z pp v,Zx d a8] w (U7 w res):=by
 obtain⟨h0,l⟩|⟨j,a,n,m,u,O,Q⟩:=hO;case' inl=>have H0:=Z6e h0
 case' inl=>have D:=Z6e l
 case' inl=>clear h0 l
 case' inr=>have HO:=Z6e O
 case' inr=>have b1:=Z6e Q
 case' inr=>clear O Q
 all_goals
  have HS:=Z6e hs;have HH:=Z6e hh;have HR:=Z6e hr;have S:(Zu d 4)[r']?=J wv:=d9;have d2:=Z6e S;have e8:r'< I (Zu d 4):=(Z6d.1 S).1;have e7:(r':Int)< I (Zu d 4):=Z0;clear hs hh hr;unfold Zx Yu;go_enter Tryz.func119,Tryz.ntmps119
  go_wp2_with (first
   |(go_at_call 18;go_loud (refine(TH _ G (λb hb=>by have:=hG b hb;simp;omega) d HH.out a8<|λj hj=>(HS.out j hj).keep (λb hb=>Z5x) (λ_ d=>d)).mono ?_;rintro e w5 ⟨y,rfl,b3,x⟩;obtain⟨a0,q0,e0⟩:=ZV<|x.own 0 Z0;obtain⟨a1,q1,e1⟩:=ZV<|x.own 1 Z0;obtain⟨a2,q2,e2⟩:=ZV<|x.own 2 Z0;obtain⟨a3,q3,e3⟩:=ZV<|x.own 3 Z0;obtain⟨a4,q4,P⟩:=ZV<|x.own 4 Z0;have b0:=Z6e<|And.intro b3 x;clear b3 x;unfold Zx;rw[e0,e1,e2,e3,P])))
  obtain⟨W6,a6⟩:∃W6,w5.alloc (.cells #[.int .u64 d.V,.int .i64 d.cap,.int .i64 d.to,.bool d.M,.int .i64 d.O,.slice a0 (I<|Zu d 0) q0,.slice a1 (I<|Zu d 1) q1,.slice a2 (I<|Zu d 2) q2,.slice a3 (I<|Zu d 3) q3,.slice a4 (I<|Zu d 4) q4] 31)=W6:=⟨_,rfl⟩;have a9:MSt w W6 121 #[.int .i64 k,.int .i64 r',.int .i64 s,.int .i64 i,.int .i64 z,.int .i64 pp,.int .u64 v] d y (xz<|xj w5):=Jc b0.out.1 b0.out.2 (by rw[e0,e1,e2,e3,P];exact a6);have f5:s< I (Zu d 4):=(Z6d.1 HR.out).1;obtain⟨g4,d4⟩:=T5 (a9.own.own 4 Z0) P Z0;subst d4;have E:=Z6e<|And.intro e0<|And.intro e1<|And.intro e2<|And.intro e3 P
  have a5:∀u,MSt w u 121 #[.int .i64 k,.int .i64 r',.int .i64 s,.int .i64 i,.int .i64 z,.int .i64 pp,.int .u64 v] d y (xz<|xj w5)->
    (λL=>(∀j,L.cell? ⟨xz<|xj w,j,U⟩=(#[.int .i64 k,.int .i64 r',.int .i64 s,.int .i64 i,.int .i64 z,.int .i64 pp,.int .u64 v]:Array Value)[j]?)/\(∀j,L.cell? ⟨xz<|xj w5,j,U⟩=(#[.int .u64 d.V,.int .i64 d.cap,.int .i64 d.to,.bool d.M,.int .i64 d.O,.slice a0 (I<|Zu d 0) q0,.slice a1 (I<|Zu d 1) q1,.slice a2 (I<|Zu d 2) q2,.slice a3 (I<|Zu d 3) q3,.slice (J ⟨g4,0,U⟩) (I<|Zu d 4) q4]:Array Value)[j]?)/\
     L.cell? ⟨g4,s,U⟩=J (.int .u64 w0)/\MSt w L 121 #[.int .i64 k,.int .i64 r',.int .i64 s,.int .i64 i,.int .i64 z,.int .i64 pp,.int .u64 v] d y (xz<|xj w5)) u:=λu st=>by
   obtain⟨f1,f2⟩:=st.F;obtain⟨e0,e1,e2,e3,P⟩:=E.out;rw[e0,e1,e2,e3,P]at f2;have h4:=st.own.own 4 Z0;rw[P]at h4;exact⟨f1,f2,Vn h4 HR.out,st⟩
  have b2:=Z6e a5;have C:=a5 W6.drew a9.drew;rw[a6];clear a9 a5 e0 e1 e2 e3 P a6
  go_region_held3 (λL=>(∀j,L.cell? ⟨xz<|xj w,j,U⟩=(#[.int .i64 k,.int .i64 r',.int .i64 s,.int .i64 i,.int .i64 z,.int .i64 pp,.int .u64 v]:Array Value)[j]?)/\(∀j,L.cell? ⟨xz<|xj w5,j,U⟩=(#[.int .u64 d.V,.int .i64 d.cap,.int .i64 d.to,.bool d.M,.int .i64 d.O,.slice a0 (I<|Zu d 0) q0,.slice a1 (I<|Zu d 1) q1,.slice a2 (I<|Zu d 2) q2,.slice a3 (I<|Zu d 3) q3,.slice (J ⟨g4,0,U⟩) (I<|Zu d 4) q4]:Array Value)[j]?)/\
     L.cell? ⟨g4,s,U⟩=J (.int .u64 w0)/\MSt w L 121 #[.int .i64 k,.int .i64 r',.int .i64 s,.int .i64 i,.int .i64 z,.int .i64 pp,.int .u64 v] d y (xz<|xj w5)) (first|exact C|assumption)
   (first
    |(go_at_call 115;have A:=jT (w0:=w0) W6.drew d y H0.out;unfold Zx at A;rw[E.out.1,E.out.2.1,E.out.2.2.1,E.out.2.2.2.1,E.out.2.2.2.2]at A;refine A.mono ?_;rintro e e5 ⟨rfl,q⟩;have Z:=b2.out _<|C.2.2.2.below q)
    |(go_at_call 115;have A:=jU C.2.2.2 HH.out hl HO.out;unfold Zx at A;rw[E.out.1,E.out.2.1,E.out.2.2.1,E.out.2.2.2.1,E.out.2.2.2.2]at A;refine A.mono ?_;rintro e e5 ⟨g,gc,b4,p1,l1,c1,p2,l2,c2,rfl,d7,d8,c0,d0,q⟩;have Z:=b2.out _<|C.2.2.2.below q))
 .obtain⟨f1,f2,f3,h⟩:=Z;have o:=Z6e h;have T:=Z6e<|And.intro b4<|And.intro c0<|And.intro d0<|And.intro d7 d8;clear C h b4 c0 d0 q f3;rename_i t;clear t;have b8:m<=1000000:=by have:=VY HH.out j;have:=HO.out.ah;have:=HO.out.mn;omega
  obtain⟨b5,d5,l⟩|⟨b9,l⟩:=b1.out
  .have X:=λW=>Qt W hi (p:=p1) (n:=m) (c:=c1) b8;rw[Z7H<|And.intro b5 d5]at X;have Y:=Z6e X;obtain⟨i',rfl⟩:=Z6q b5;have c7:p1=J ⟨g,a+1,U⟩:=T.out.2.1 Z0;subst c7;clear X;obtain⟨idx,b6⟩:∃idx,a+1+i'=idx:=⟨_,rfl⟩;have d6:idx< I (Zu d j):=by have:=HO.out.ah;have:=HO.out.mn;omega
   have b7:j<5:=Z61;rw[show a+1+Int.toNat (i':Int)=idx by omega]at l;have D:=Z6e l;have d1:=Z6e b6;clear l
   go_wp2_with (first
    |(go_at_call 116;go_loud (refine(Y.out _).mono ?_;rintro e e6 ⟨rfl,r⟩;have f:=o.out.below r;obtain⟨k1,k2⟩:=f.F;have K:=f.own.own j b7;rw[T.out.1]at K;have e9:=Vn K<|Z6b d6;have f4:=S5 K (i:=idx) (by omega);have a7:=f.own.own 4 (by omega);rw[E.out.2.2.2.2]at a7;have f0:=Vn a7 d2.out;rw[E.out.1,E.out.2.1,E.out.2.2.1,E.out.2.2.2.1,E.out.2.2.2.2]at k2;have B:=f.put b7 (i:=idx) T.out.1 wv;obtain⟨k3,k4⟩:=B.F;obtain⟨r3,r4⟩:=B.R;obtain⟨s1,s2,s3,s4,s5⟩:=Wq d j idx wv;rw[s1,s2,s3,s4,s5,E.out.1,E.out.2.1,E.out.2.2.1,E.out.2.2.2.1,E.out.2.2.2.2]at k4;have N:=Z6e B;clear f B r K a7 s1 s2 s3 s4 s5)))
   go_region;go_wp2;rw[D.out];have d3:=SE d j idx wv y;have H:=Xo N.out.bj (.int .u64 d.V) (.int .i64 d.cap) (.int .i64 d.to) (.bool d.M) (.int .i64 d.O) (.slice a0 (I<|Zu d 0) q0) (.slice a1 (I<|Zu d 1) q1) (.slice a2 (I<|Zu d 2) q2) (.slice a3 (I<|Zu d 3) q3)<|.slice (J ⟨g4,0,U⟩) (I<|Zu d 4) q4;refine Z6x (v:=.tuple #[Zx (ZM d j idx wv) y,.int .i64 0]) ?_ rfl ?_
   .rw[d3];unfold Zx;rw[E.out.1,E.out.2.1,E.out.2.2.1,E.out.2.2.2.1,E.out.2.2.2.2];simp[results,Tryz.results119,go_sem,H,d1.out]
   exact BA<|RB N.out
  .have X:=λW=>Qt W hi (p:=p1) (n:=m) (c:=c1) b8;rw[Z8t b9]at X;have Y:=Z6e X;have D:=Z6e l;clear X l b9
   go_wp2_with (first
    |(go_at_call 116;go_loud (refine(Y.out _).mono ?_;rintro e e6 ⟨rfl,r⟩;have f:=o.out.below r;obtain⟨k1,k2⟩:=f.F;obtain⟨r3,r4⟩:=f.R;have M:=Z6e f;clear f r)))
   rw[D.out];have H:=Xo M.out.bj (.int .u64 0) (.int .i64 0) (.int .i64 0) (.bool xw) (.int .i64 0) (.slice U 0 0) (.slice U 0 0) (.slice U 0 0) (.slice U 0 0)<|.slice U 0 0;refine Z6x (v:=.tuple #[.agg ZE,.int .i64 1]) ?_ rfl ?_
   .simp[results,Tryz.results119,go_sem,H,ZE]
   exact Ss M.out.az 1
 .obtain⟨f1,f2,f3,h⟩:=Z;obtain⟨r3,r4⟩:=h.R;have o:=Z6e h;clear C h q f3;rename_i t;clear t;go_wp2;rw[D.out];have H:=Xo o.out.bj (.int .u64 0) (.int .i64 0) (.int .i64 0) (.bool xw) (.int .i64 0) (.slice U 0 0) (.slice U 0 0) (.slice U 0 0) (.slice U 0 0)<|.slice U 0 0;refine Z6x (v:=.tuple #[.agg ZE,.int .i64 6]) ?_ rfl ?_
  .simp[results,Tryz.results119,go_sem,H,ZE]
  exact Ss o.out.az 6
def NI:∀(n:Nat) (W:Z4) (x:Za),0<n->(method n (X3 4) x "cromlech/mutator.do").run Tryz.prog W=.ok (119,x) W
 |n+1,W,x,_=>Z2
def Z10:∀(W:Z4) (x:Za),(Instr.typeAssert (.iface (X3 4) x) 75 80 xk).run Tryz.prog W=.ok (.tuple #[.nilIface,.bool xw]) W:=Qo Z2
def RD{h:Hp}(l:h.ok)(o:Yp h=xk){z pp v i w0 q:Int}{s r':Nat}(f:h.E[s]?=J w0)(d:h.E[r']?=J q)(x:ZP i){res:Hp×Int}
  (k:(w0=0/\res=(Hp.zero,6))\/∃j a n m u,ObAt h w0 j a n m u/\((0<=i/\i<m/\res=(ZM h j (a+1+i.toNat) q,0))\/(¬(0<=i/\i<m)/\res=(Hp.zero,1)))):
  VC Tryz.prog 12 xw [ZF h,YI 4 r' s i z pp v] (.am [vu 0,ZF res.1,vi res.2]):=by
 obtain⟨p,r⟩:=Sa.1 o;have A:=(Z6d.1 f).1;have y:=(Z6d.1 d).1;refine TC l o Z0 (λu C=>by simp[Xf]at C;omega) (F:=119) Z2 NI (λw G g t B=>(Z0Q w G t h l g B r.al f d x k).mono RL) ?_;obtain⟨_,rfl⟩|⟨j,a,n,m,u,O,⟨_,_,rfl⟩|⟨_,rfl⟩⟩:=k;exact .inl ⟨Z5q,rfl,rfl⟩;exact .inr<|.inl ⟨rfl,rfl,Z10⟩;exact .inl ⟨Z5q,rfl,rfl⟩
def Gl(w:Z4)(G:Z6)(hG:∀b,G b->b<xz (xj w))(h:Hp)(hh:h.ok)(f:Z3)(hs:∀j,j<5->Rd w G (.sl<|(Zu h j).map vu) (f j))(hr:Yp h=xk){k d s i z pp v:Int}(hk:1<=k/\k<=7)(a0:¬ ∀u∈Xf k d s,0<=u/\u<I h.E):
  Calls Tryz.prog 12 #[Zx h f,.agg<|Yu k d s i z pp v] w (DoPost G w (0,Hp.zero,1)):=by
 have HR:∀W,Below (xz<|xj w) w W->Calls Tryz.prog 17 #[Zx h f] W λe w'=>e=.returned (.bool<|Yp h)/\Below (xz<|xj W) W w':=λW hb=>
  JJ (w:=W) (G:=G) (x:=f) hh (λb r=>Z6o (hG b r) hb.size) (λj N=>(hs j N).keep (λb r=>hb.block b<|hG b r) λ_ q=>q)
 rw[hr]at HR;obtain⟨a4,q4,R⟩:=W5<|hs 4 Z0;have b6:=hh.E;obtain⟨W0,T,b7,A⟩:=za w (.cells (YR h f) 31)<|.cells (Yu k d s i z pp v) 44;obtain⟨p0,s0,_,_⟩:=A.F;have Q:=Z6e A;have a1:Tg k d s i z pp v=.iface (X3 k) (.agg<|Yu k d s i z pp v):=by unfold Tg;rw[Z6k hk]
 have O:=Z6e (λW=>C3 W k d s i z pp v);have P:=Z6e (λW=>CT W k d s i z pp v hk);rw[a1]at O P;have g:=HR W0 Q.out.az;unfold YR Yu at T;unfold YR at p0;unfold Yu at s0;unfold Zx at g;rw[show Zu h 4=h.E from rfl]at R;rw[R]at p0 T g;have a3:=Z6e g;have E4:=Z6e R;have a2:=Z6e a0;clear HR hs A a1 a0 g;unfold Zx;rw[R];clear R;unfold Yu;have b1:∀(W:Z4) (t:Zd) (u:Za),(binOp .eql 75 (.iface t u) .nilIface).run Tryz.prog W=.ok (.bool xw) W:=λW t u=>by rfl
 have a9:I (Xf k d s)<=2:=by
  unfold Xf;split;simp;split<;>simp
 obtain⟨L,M⟩:∃L,I (Xf k d s)=L:=⟨_,rfl⟩;rw[M]at a9;go_enter Tryz.func12,Tryz.ntmps12
 go_wp2_with (first
  |(go_at_call 17;go_loud (refine a3.out.mono ?_;rintro e w1 ⟨rfl,X⟩;have B:=Q.out.below X;obtain⟨p1,s1,_,_⟩:=B.F;unfold YR at p1;unfold Yu at s1;rw[E4.out]at p1;have a5:=Z6e B;clear X B p0 s0))
  |(go_at_call 26;go_loud (refine(O.out w1).mono ?_;rintro e w2 ⟨rfl,Y⟩;have C:=a5.out.below Y;obtain⟨p2,s2,_,_⟩:=C.F;unfold YR at p2;rw[E4.out]at p2;have a6:=Z6e C;clear Y C p1 s1))
  |(go_at_call 27;go_loud (refine(P.out w2).mono ?_;rintro e w3 ⟨gn,rfl,Z,b4,a⟩;rw[M];have D:=a6.out.below Z;obtain⟨p3,s3,r3,b8⟩:=D.F;unfold YR at p3;unfold ZE at r3;rw[E4.out]at p3;have l:=Z6e D;have HC:=Z6e a;clear Z D p2 s2 a)))
 go_loop [4,24] (λv4 i=>v4=.int .u64 0/\∃k':Nat,i=.int .i64 k'/\k'<=L/\Hid (∀j u,j<k'->(Xf k d s)[j]?=J u->0<=u/\u<I h.E)) (λ_ i=>L- (intOf i).toNat)
 case atStart=>exact⟨rfl,0,rfl,Z0,Z6e λj u N=>Z0⟩
 case round=>
  obtain⟨rfl,o,rfl,b5,HD⟩:=hrel;by_cases n:o<L
  .obtain⟨u,y⟩:∃u,(Xf k d s)[o]?=J u:=⟨_,Z6b Z0⟩;have b3:=HC.out o u y;have b0:((o:Int)< (L:Int))=True:=Z7G Z0;by_cases hg:0<=u/\u<I h.E
   .obtain⟨p,K⟩:=hg;have S:(u<0)=False:=Z7d Z0;have a7:(u≥(I h.E:Int))=False:=Z7d Z0;have a8:((I h.E:Int)<=u)=False:=Z7d Z0;have HU:=Z6e<|And.intro y<|And.intro M<|And.intro n<|And.intro p K;clear y M p K n;go_wp2;go_round
    case rel=>
     have h9:o<L:=HU.out.2.2.1;refine⟨rfl,o+1,by go_num,Z0,Z6e λj x N hx=> ?_⟩;by_cases e:j=o;subst e;have:=HU.out.1;rw[hx]at this;cases this;exact HU.out.2.2.2;exact HD.out j x Z0 hx
    case measure=>have h9:o<L:=HU.out.2.2.1;simp[intOf];omega
   .by_cases p:u<0
    .have S:(u<0)=True:=Z7G p;clear y M n hg p;go_wp2;have H:=Xo l.out.b2 (.int .u64 0) (.int .i64 0) (.int .i64 0) (.bool xw) (.int .i64 0) (.slice U 0 0) (.slice U 0 0) (.slice U 0 0) (.slice U 0 0)<|.slice U 0 0;refine Z6x (v:=.tuple #[.int .u64 0,.agg ZE,.int .i64 1]) ?_ rfl ?_
     .simp[results,Tryz.results12,go_sem,H,ZE]
     exact QL hG (x:=λ_=>.slice U 0 0) l.out.az (UC _ _) _ _
    .have S:(u<0)=False:=Z7d p;have K:(I h.E:Int)<=u:=Z0;have a7:(u≥(I h.E:Int))=True:=Z7G K;have a8:((I h.E:Int)<=u)=True:=Z7G K;clear y M n hg p K;go_wp2;have H:=Xo l.out.b2 (.int .u64 0) (.int .i64 0) (.int .i64 0) (.bool xw) (.int .i64 0) (.slice U 0 0) (.slice U 0 0) (.slice U 0 0) (.slice U 0 0)<|.slice U 0 0;refine Z6x (v:=.tuple #[.int .u64 0,.agg ZE,.int .i64 1]) ?_ rfl ?_
     .simp[results,Tryz.results12,go_sem,H,ZE]
     exact QL hG (x:=λ_=>.slice U 0 0) l.out.az (UC _ _) _ _
  exact absurd (λu y=>by
   obtain⟨j,N⟩:=Z6A y;have:=(Z6d.1 N).1;exact HD.out j u Z0 N) a2.out
def Ba{h:Hp}(j:h.ok)(n:Yp h=xk){k d s i z pp v:Int}(l:1<=k/\k<=7)(a:¬ ∀u∈Xf k d s,0<=u/\u<I h.E):VC Tryz.prog 12 xw [ZF h,YI k d s i z pp v]<|.am [vu 0,ZF Hp.zero,vi 1]:=
 FO Z2 (y:=YI k d s i z pp v) rfl (r:=(0,Hp.zero,1)) λw G f g o=>Gl w G g h j f o n l a
end Vm
end
