/-
  The law FlipTells holds of the given program, for every input.
-/
import Derived.ScopeJumps
import Derived.WalkMore
import Derived.Deep.CutRange
import Derived.Deep.DeepCutAuto
import Derived.Deep.LoopGhost
import Derived.Test.YtjkmonbmpoegjaaRows
import Derived.Test.YtjkmonbmpoegjaaSFlipTells6
set_option linter.unusedSimpArgs false
set_option linter.unusedVariables false
section
namespace Vm
open Go Go.Proofs
set_option maxRecDepth 100000
def YL(h:Hp):Hp:=⟨h.base,h.cap,1-h.to,false,0,[],[],h.low,h.high,h.roots⟩
def Qj(g:Hp)(i:Nat):Hp:= {(fwd g ((g.roots[i]?).getD 0)).2.1 with roots:=(fwd g ((g.roots[i]?).getD 0)).2.1.roots.set i (fwd g ((g.roots[i]?).getD 0)).1}
def XC(g:Hp):Nat→Hp
 |0=>g
 |i+1=>Qj (XC g i) i
def JM(g:Hp):Hp:=if 0<g.low.length then {g with cycle:=true}else {g with cycle:=false,old:= [],far:= []}
def yR(h:Hp):Hp:=JM (XC (YL h) h.roots.length)
def Wd(h:Hp):Hp×Int:=if Yb h=false then(Hp.zero,1)else if h.cycle then(Hp.zero,10)else(yR h,0)
def RO(h:Hp):Hp:=if h.cycle=true∨Yb h=false then Hp.zero else h
theorem Stands.old{ws:List Int}{o:Ob}(s:Stands ws false o):Stands ws true o:=by
 obtain⟨w,hw,hc⟩:=s.word
 have hg:o.gone=false:=by
  cases hg:o.gone
  ·rfl
  ·rw[if_pos hg]at hc;cases hc.1
 refine⟨s.nat,s.shape,s.fits,s.slots,w,hw,?_⟩
 rw[if_neg (by simp[hg])]at hc⊢
 exact⟨fun _=>jM (by rw[hc.2.1]),hc.2⟩
theorem Tiles.old{ws:List Int}: ∀ {a:Nat} {l:List Ob},Tiles ws false a l→Tiles ws true a l
 |_,[],h=>h
 |_,_::_,h=>⟨h.1,h.2.1.old,Tiles.old h.2.2⟩
theorem Z05{l:List Ob}(h: ∀o∈l,o.gone=false):wtL l=szL l:=by
 have:=Z4l l
 have:gnL l=0:=ji fun o ho=>by rw[h o ho];rfl
 omega
def zP(p:Pts):Pts:=⟨[],[],p.low,p.high⟩
section
variable {h:Hp} {p:Pts}
theorem KS(h:Hp)(k a:Int)(hk:k=1∨k=2):refR (layH (YL h)) (k+2) a=refR (layH h) k a:=by
 rcases hk with rfl|rfl
 ·show 2*(h.base+(1- (1-h.to))*h.cap+a)+1=2*(h.base+h.to*h.cap+a)+1
  rw[show 1- (1-h.to)=h.to by omega]
 ·show 2*(h.base+(1- (1-h.to))*h.cap+(h.cap-h.high.length)+a)+1=2*(h.base+h.to*h.cap+(h.cap-h.high.length)+a)+1
  rw[show 1- (1-h.to)=h.to by omega]
theorem Ry{w:Int}(hg:Gos h p w 1 2):Gos (YL h) (zP p) w 3 4:=by
 rcases hg with rfl| ⟨k,o,hk,ho,rfl⟩
 ·exact .inl rfl
 ·rcases hk with rfl|rfl
  ·exact .inr ⟨3,o,.inl rfl,ho,(KS h 1 _ (.inl rfl)).symm⟩
  ·exact .inr ⟨4,o,.inr rfl,ho,(KS h 2 _ (.inr rfl)).symm⟩
theorem qq(r:Rt h p)(hc:h.cycle=false):Body (YL h) (zP p):=by
 have hl:=Zs.1 r.lay
 have t1:=r.tiles 1 (by omega)
 have t2:=r.tiles 2 (by omega)
 simp only[Ux,Q8,Pts.at1,Pts.at2]at t1 t2
 refine⟨⟨Zs.2 ?_,fun k hk=> ?_⟩,fun k hk o ho hg=> ?_,fun k hk o ho hg j hj w hw=> ?_,?_⟩
 ·have e1:(layH h).cap=h.cap:=rfl
  have e2:(layH h).base=h.base:=rfl
  have e3:(layH h).to=h.to:=rfl
  have e4:(layH h).low=h.low.length:=rfl
  have e5:(layH h).high=h.high.length:=rfl
  simp only[layH,YL,List.length_nil]
  omega
 ·have h4:k=1∨k=2∨k=3∨k=4:=by omega
  rcases h4 with rfl|rfl|rfl|rfl
  ·exact Nat.le_refl 0
  ·exact Nat.le_refl 0
  ·exact t1.old
  ·exact t2.old
 ·have h4:k=3∨k=4:=by omega
  rcases h4 with rfl|rfl
  ·have:=t1.no_gone o ho;rw[hg]at this;cases this
  ·have:=t2.no_gone o ho;rw[hg]at this;cases this
 ·have h4:k=1∨k=2∨k=3∨k=4:=by omega
  rcases h4 with rfl|rfl|rfl|rfl
  ·cases ho
  ·cases ho
  ·have:=r.ptr 1 (by omega) o ho hg j hj w hw
   obtain⟨a,n,m,ea,en,em,hal,_⟩:=r.toTld.ob (k:=1) (by omega) ho
   simp only[Ux]at hal
   unfold UE at this⊢
   rw[if_neg (by omega),if_neg (by rw[(r.rest hc).1];omega)]at this
   rw[if_pos (by omega)]
   exact Ry this
  ·have:=r.ptr 2 (by omega) o ho hg j hj w hw
   unfold UE at this⊢
   rw[if_neg (by omega),if_neg (by omega)]at this
   rw[if_pos (by omega)]
   exact Ry this
 ·have h1:=t1.sum (Nat.zero_le _)
  have h2:=t2.sum (Nat.zero_le _)
  have w1:=Z05 t1.no_gone
  have w2:=Z05 t2.no_gone
  have hrm:=r.room
  simp only[Wk,zP,YL,List.length_nil]
  omega
structure FlipI (h:Hp) (p:Pts) (i:Nat) (g:Hp) (q:Pts):Prop where
 body:Body g q
 once:Once g q
 ext:Ext (YL h) (zP p) {g with roots:=h.roots} q
 len:g.roots.length=h.roots.length
 rest: ∀j,i≤j→g.roots[j]? =h.roots[j]?
 did: ∀j:Nat,j<i→ ∀w v,h.roots[j]? =some w→g.roots[j]? =some v→Gos g q v 1 2∧Res g q w v
theorem Body.roots(r:Body h p)(l:List Int):Body {h with roots:=l} p:=⟨⟨r.lay,r.tiles⟩,r.gone,r.ptr,r.room⟩
theorem TU(r:Rt h p){i:Nat}(hi:i<h.roots.length){g:Hp}{q:Pts}(I:FlipI h p i g q):(∃v g' q',FwdTo g q (h.roots[i]) v g' q')∧ ∃q',FlipI h p (i+1) (Qj g i) q'∧(fwd g ((g.roots[i]?).getD 0)).2.2=0:=by
 have hr:g.roots[i]? =some h.roots[i]:=by rw[I.rest i (Nat.le_refl _)];exact List.getElem?_eq_getElem hi
 have hw:Gos g q h.roots[i] 3 4:=by
  have h1:=I.ext.gos (i:=3) (j:=4) (by omega) (by omega) (Ry (r.roots _ (List.getElem_mem hi)))
  exact h1
 have hsc:g.scan≤g.low.length:=by
  have:g.scan=0:=I.ext.scan
  omega
 obtain⟨v,g',q',f⟩:=I.body.forward I.once hsc (.inr hw)
 refine⟨⟨v,g',q',f⟩,q',?_,by rw[hr,Option.getD_some,f.fwd]⟩
 have e:Qj g i= {g' with roots:=g'.roots.set i v}:=by
  unfold Qj
  rw[hr,Option.getD_some,f.fwd]
 have er:g'.roots=g.roots:=f.ext.roots
 have hres:Res g' q' h.roots[i] v:=by
  rcases f.res with ⟨hg,e1,e2,e3⟩ |hr
  ·rcases hw with h0| ⟨k,o,hk,ho,e4⟩
   ·exact .inl ⟨h0,e1.trans h0⟩
   ·rcases hg with h0| ⟨k',o',hk',ho',e5⟩
    ·exact .inl ⟨h0,e1.trans h0⟩
    ·obtain⟨ee,_⟩:=I.body.toTld.inj (by omega) (by omega) ho ho' (e4.symm.trans e5)
     omega
  ·exact hr
 rw[e]
 refine⟨f.body.roots _,f.once,I.ext.trans ⟨f.ext.low,f.ext.high,f.ext.base,f.ext.cap,f.ext.tos,f.ext.cycle,f.ext.scan,rfl,f.ext.oldL,f.ext.farL,f.ext.obsL,f.ext.obsH,f.ext.obsO,f.ext.gone,f.ext.room⟩,?_,fun j hj=> ?_,fun j hj w u hw' hu=> ?_⟩
 ·simp only[List.length_set,er];exact I.len
 ·simp only
  rw[List.getElem?_set_ne (by omega),er]
  exact I.rest j (by omega)
 ·simp only at hu
  by_cases hji:j=i
  ·subst hji
   rw[List.getElem?_set_self (by rw[er,I.len];exact hi)]at hu
   cases hu
   rw[List.getElem?_eq_getElem hi]at hw'
   cases hw'
   exact⟨f.tgo,hres⟩
  ·rw[List.getElem?_set_ne (by omega),er]at hu
   obtain⟨h1,h2⟩:=I.did j (by omega) w u hw' hu
   exact⟨(show Gos g' q' u 1 2 from f.ext.gos (by omega) (by omega) h1),(show Res g' q' w u from h2.ext f.ext)⟩
theorem Vv(r:Rt h p)(hc:h.cycle=false): ∀i,i≤h.roots.length→ ∃q,FlipI h p i (XC (YL h) i) q
 |0,_=>⟨zP p,qq r hc,fun o ho=>(by cases ho),.refl _ _,rfl,fun _ _=>rfl,fun j hj=>(by omega)⟩
 |i+1,hi=>by
  obtain⟨q,I⟩:=Vv r hc i (by omega)
  obtain⟨_,q',I',_⟩:=TU r (by omega) I
  exact⟨q',I'⟩
end
end Vm
end
section
namespace Vm
open Go Go.Proofs Go.RowKit
set_option maxHeartbeats 40000000
set_option maxRecDepth 100000
def UP(w:World)(r:Hp×Int)(e:Ending)(w':World):Prop:=
 ∃x,e= .returned (.tuple #[hpA r.1 x,.int .i64 r.2])∧Below w.heap.size w w'∧ ∀j,j<5→Rd w' (fun c=>w.heap.size≤c∧c<w'.heap.size) (.sl ((lsH r.1 j).map vu)) (x j)
theorem Wv{w:World}{G:Nat→Prop}{h:Hp}{x:Nat→Value}(hh:h.ok)(hG: ∀b,G b→b<w.heap.size)(hr: ∀j,j<5→Rd w G (.sl ((lsH h j).map vu)) (x j)):
  Calls Try.prog 33 #[hpA h x] w fun e w'=>e= .returned (.bool (Yb h))∧Below w.heap.size w w':=by
 refine Calls.mono ((Z2P hh).2 w G _ hG rfl ?_) ?_
 ·intro i y hy
  match i,hy with
  |0,hy=>cases hy;exact Z2S hr
 ·rintro e w' ⟨v,rfl,hb,hv⟩
  exact⟨by rw[TJ hv],hb⟩
theorem Z0v(w:World)(G:Nat→Prop)(hG: ∀b,G b→b<w.heap.size)(h:Hp)(hh:h.ok)(src:Nat→Value)(hs: ∀j,j<5→Rd w G (.sl ((lsH h j).map vu)) (src j))(hr:Yb h=false):
  Calls Try.prog 17 #[hpA h src] w (UP w (Hp.zero,1)):=by
 have hR: ∀W,Below w.heap.size w W→Calls Try.prog 33 #[hpA h src] W fun e w'=>e= .returned (.bool (Yb h))∧Below W.heap.size W w':=fun W hb=>
  Wv (w:=W) (G:=G) (x:=src) hh (fun b hb'=>Nat.lt_of_lt_of_le (hG b hb') hb.size) (fun j hj=>(hs j hj).keep (fun b hb'=>hb.block b (hG b hb')) fun _ q=>q)
 rw[hr]at hR
 have HR:=Lib.hid hR
 clear hR
 clear hs hr
 unfold hpA
 go_enter Try.func17,Try.ntmps17
 go_wp2
 refine wp_scope_jumps 0 (fun _ _=>False) (fun _ _=>0) rfl ?_ (fun _ _ h=>h.elim)
 go_upto_region 2 with (first
  | (go_at_call 33;refine(HR.out _ ?_).mono ?_;rotate_left;rintro e wa ⟨rfl,hba⟩
     have bA:wa.heap[w.heap.size]? =some (.cells #[.int .u64 h.base,.int .i64 h.cap,.int .i64 h.to,.bool h.cycle,.int .i64 h.scan,src 0,src 1,src 2,src 3,src 4] 25 (0,0)):=(hba.block _ (by simp;omega)).trans ((Below.heap_alloc _ _ _ (by simp)).trans (heap_alloc_new w _))
     have bZ:wa.heap[w.heap.size+1]? =some (.cells Z4 25 (0,0)):=(hba.block _ (by simp)).trans (ZP w _)
     have ya: ∀j,wa.cell? ⟨w.heap.size,j,none⟩=(#[.int .u64 h.base,.int .i64 h.cap,.int .i64 h.to,.bool h.cycle,.int .i64 h.scan,src 0,src 1,src 2,src 3,src 4]:Array Value)[j]? :=fun j=>cell_of_row _ _ _ _ _ _ bA
     have yz: ∀j,wa.cell? ⟨w.heap.size+1,j,none⟩=Z4[j]? :=fun j=>cell_of_row _ _ _ _ _ _ bZ
     unfold Z4 at yz
     have fz: ∀j,wa.frozen? ⟨w.heap.size+1,j,none⟩=false:=fun j=>Za bZ
     have HBA:=Lib.hid hba
     have HBZ:=Lib.hid (And.intro bA bZ)
     clear hba bA bZ))
 case refine_1=>exact((Below.refl _ w).alloc (Nat.le_refl _) _).alloc (by simp) _
 go_wp2
 simp only[Exit.jump]
 have hz:=Zn HBZ.out.2 (.int .u64 0) (.int .i64 0) (.int .i64 0) (.bool false) (.int .i64 0) (.slice none 0 0) (.slice none 0 0) (.slice none 0 0) (.slice none 0 0) (.slice none 0 0)
 refine bodyPost_ret (v:= .tuple #[.agg Z4,.int .i64 1]) ?_ rfl ?_
 ·simp[results,Try.results17,go_sem,hz,Z4]
 ·exact⟨fun _=> .slice none 0 0,rfl,Zi (Below.trans (((Below.refl _ w).alloc (Nat.le_refl _) _).alloc (by simp) _) (HBA.out.mono (by simp;omega))) (by omega) _ _ _ _ _ _ _ _ _ _,yI _ _⟩
theorem Z0q(w:World)(G:Nat→Prop)(hG: ∀b,G b→b<w.heap.size)(h:Hp)(hh:h.ok)(src:Nat→Value)(hs: ∀j,j<5→Rd w G (.sl ((lsH h j).map vu)) (src j))(hr:Yb h=true)(hc:h.cycle=true):
  Calls Try.prog 17 #[hpA h src] w (UP w (Hp.zero,10)):=by
 have hR: ∀W,Below w.heap.size w W→Calls Try.prog 33 #[hpA h src] W fun e w'=>e= .returned (.bool (Yb h))∧Below W.heap.size W w':=fun W hb=>
  Wv (w:=W) (G:=G) (x:=src) hh (fun b hb'=>Nat.lt_of_lt_of_le (hG b hb') hb.size) (fun j hj=>(hs j hj).keep (fun b hb'=>hb.block b (hG b hb')) fun _ q=>q)
 rw[hr]at hR
 unfold hpA at hR
 rw[hc]at hR
 have HR:=Lib.hid hR
 clear hR
 clear hs hr
 unfold hpA
 rw[hc]
 clear hc
 go_enter Try.func17,Try.ntmps17
 go_wp2
 refine wp_scope_jumps 0 (fun _ _=>False) (fun _ _=>0) rfl ?_ (fun _ _ h=>h.elim)
 go_upto_region 4 with (first
  | (go_at_call 33;refine(HR.out _ ?_).mono ?_;rotate_left;rintro e wa ⟨rfl,hba⟩
     have bA:wa.heap[w.heap.size]? =some (.cells #[.int .u64 h.base,.int .i64 h.cap,.int .i64 h.to,.bool true,.int .i64 h.scan,src 0,src 1,src 2,src 3,src 4] 25 (0,0)):=(hba.block _ (by simp;omega)).trans ((Below.heap_alloc _ _ _ (by simp)).trans (heap_alloc_new w _))
     have bZ:wa.heap[w.heap.size+1]? =some (.cells Z4 25 (0,0)):=(hba.block _ (by simp)).trans (ZP w _)
     have ya: ∀j,wa.cell? ⟨w.heap.size,j,none⟩=(#[.int .u64 h.base,.int .i64 h.cap,.int .i64 h.to,.bool true,.int .i64 h.scan,src 0,src 1,src 2,src 3,src 4]:Array Value)[j]? :=fun j=>cell_of_row _ _ _ _ _ _ bA
     have yz: ∀j,wa.cell? ⟨w.heap.size+1,j,none⟩=Z4[j]? :=fun j=>cell_of_row _ _ _ _ _ _ bZ
     unfold Z4 at yz
     have fz: ∀j,wa.frozen? ⟨w.heap.size+1,j,none⟩=false:=fun j=>Za bZ
     have HBA:=Lib.hid hba
     have HBZ:=Lib.hid (And.intro bA bZ)
     clear hba bA bZ))
 case refine_1=>exact((Below.refl _ w).alloc (Nat.le_refl _) _).alloc (by simp) _
 go_wp2
 simp only[Exit.jump]
 have hz:=Zn HBZ.out.2 (.int .u64 0) (.int .i64 0) (.int .i64 0) (.bool false) (.int .i64 0) (.slice none 0 0) (.slice none 0 0) (.slice none 0 0) (.slice none 0 0) (.slice none 0 0)
 refine bodyPost_ret (v:= .tuple #[.agg Z4,.int .i64 10]) ?_ rfl ?_
 ·simp[results,Try.results17,go_sem,hz,Z4]
 ·exact⟨fun _=> .slice none 0 0,rfl,Zi (Below.trans (((Below.refl _ w).alloc (Nat.le_refl _) _).alloc (by simp) _) (HBA.out.mono (by simp;omega))) (by omega) _ _ _ _ _ _ _ _ _ _,yI _ _⟩
end Vm
end
section
namespace Vm
open Go Go.Proofs Go.RowKit
set_option maxHeartbeats 1000000
set_option maxRecDepth 100000
theorem K7{P:Program}{a:Act}{w:World}{Q:Exit→Act→World→Prop}{c rest:Code}(l:Nat)(J:Act→World→Prop)(μ:Act→World→Nat)(hf:findLabel c l=some (.seq .skip rest))
  (pass: ∀a w,J a w→rest.wp P (Exit.jump l (fun a' w'=>J a' w'∧μ a' w'<μ a w) Q) a w)
  (first:(∀a w,J a w→rest.wp P (Exit.jump l J Q) a w)→c.wp P (Exit.jump l J Q) a w):(Code.scope c).wp P Q a w:=
 wp_scope_jumps l J μ hf (first fun a w hJ=>Code.wp_mono (fun e a' w' h=>by
  cases e<;>first
   |exact h
   |exact⟨h.1,h.2.1⟩) (pass a w hJ)) fun a w hJ=>wp_seq (wp_skip (pass a w hJ))
theorem Z0N{t:Array Value}{n:Nat}(h:t.size=n):t=((List.range n).map fun i=>t.getD i undef).toArray:=by
 apply Array.ext
 ·simp[h]
 ·intro i h1 h2
  simp[Array.getD,h1]
theorem jb{w2:World}{b:Nat}{T:TypeId}{a0 a1 a2 a3 a4 a5 a6 a7 a8 a9:Value}(hb:w2.heap[b]? =some (.cells #[a0,a1,a2,a3,a4,a5,a6,a7,a8,a9] T (0,0))) (v0 v1 v2 v3 v4 v5 v6 v7 v8 v9:Value):((((((((((w2.setCell ⟨b,0,none⟩ v0).setCell ⟨b,1,none⟩ v1).setCell ⟨b,2,none⟩ v2).setCell ⟨b,3,none⟩ v3).setCell ⟨b,4,none⟩ v4).setCell ⟨b,5,none⟩ v5).setCell ⟨b,6,none⟩ v6).setCell ⟨b,7,none⟩ v7).setCell ⟨b,8,none⟩ v8).setCell ⟨b,9,none⟩ v9).heap[b]? =some (.cells #[v0,v1,v2,v3,v4,v5,v6,v7,v8,v9] T (0,0)):=by
 simp[World.setCell,Array.getElem?_modify,hb]
def hpC(h:Hp)(x:Nat→Value):Array Value:= #[.int .u64 h.base,.int .i64 h.cap,.int .i64 h.to,.bool h.cycle,.int .i64 h.scan,x 0,x 1,x 2,x 3,x 4]
structure FlI (w W:World) (c:Nat) (g:Hp) (x:Nat→Value):Prop where
 below:Below w.heap.size w W
 rb:W.heap[w.heap.size+1]? =some (.cells Z4 25 (0,0))
 le:w.heap.size+2≤c
 nb:W.heap[c]? =some (.cells (hpC g x) 25 (0,0))
 rd: ∀j,j<5→Rd W (fun b=>w.heap.size+2≤b∧b<W.heap.size∧b≠c) (.sl ((lsH g j).map vu)) (x j)
theorem Z25{n:Int}(h:n=0∨n=1):Fit (1-n):=by unfold Fit;omega
theorem jv{h:Hp}(hh:h.ok)(ht:h.to=0∨h.to=1):(YL h).ok:=by
 obtain⟨a1,a2,a3,a4,a5,a6,a7,a8,a9,b1,b2,b3,b4,b5⟩:=hh
 exact⟨a1,a2,Z25 ht,⟨by show _≤(0:Int);omega,by show(0:Int)≤_;omega⟩,Nat.zero_le _,Nat.zero_le _,a5,a6,a9,fun w hw=>(by cases hw),fun w hw=>(by cases hw),b1,b2,b5⟩
theorem qw{h:Hp}(hh:h.ok){k:Nat}{v:Int}(hv:U64 v):({h with roots:=h.roots.set k v}:Hp).ok:=by
 obtain⟨a1,a2,a3,a4,a5,a6,a7,a8,a9,b1,b2,b3,b4,b5⟩:=hh
 refine⟨a1,a2,a3,a4,a5,a6,a7,a8,by simp only[List.length_set];exact a9,b1,b2,b3,b4,fun w hw=> ?_⟩
 rcases List.mem_or_eq_of_mem_set hw with hw|rfl
 ·exact b5 w hw
 ·exact hv
theorem jG{l:List Int}(h: ∀w∈l,U64 w)(i:Nat):U64 ((l[i]?).getD 0):=by
 cases e:l[i]? with
 |none=>exact⟨by decide,by decide⟩
 |some x=>exact h x (List.mem_of_getElem? e)
theorem UO{h:Hp}(hh:h.ok)(ht:h.to=0∨h.to=1): ∀k,(XC (YL h) k).ok
 |0=>jv hh ht
 |k+1=>by
  have ih:=UO hh ht k
  have f:=jQ ih (jG ih.rootsW k)
  exact qw f.1 f.2
def frs(i:Nat):Nat:=if i<7 then 39+i else if i=7 then 38 else if i=8 then 46 else if i=9 then 47 else if i=10 then 48 else if i=11 then 7 else if i=12 then 6 else if i=14 then 8 else 0
theorem JV: ∀i,i<15→ ∀j,j<15→i≠j→frs i≠frs j:=by decide
def frE(c:Nat)(g:Hp)(x:Nat→Value)(k:Nat)(ea:Value)(u:Int):Nat→Value
 |0=> .agg (hpC g x)
 |1=> .pointer (some ⟨c,9,none⟩)
 |2=>x 4
 |3=> .int .i64 k
 |4=>ea
 |_=> .int .u64 u
def frT(fv:Int)(g':Hp)(x':Nat→Value):Value:= .tuple #[.int .u64 fv,.agg (hpC g' x'),.int .i64 0]
def FrV(E:Nat→Value)(fv:Int)(g':Hp)(O:(Nat→Value)→Prop)(i:Nat)(val:Value):Prop:=
 if i<6 then val=E i else if i=6∨i=7 then ∃x',val=frT fv g' x'∧O x' else if i=9 then ∃x',val= .agg (hpC g' x')∧O x' else if i=8∨i=12 then val= .int .u64 fv else val= .int .i64 0
theorem FrV.mono{E:Nat→Value}{fv:Int}{g':Hp}{O O':(Nat→Value)→Prop}{i:Nat}{val:Value}(h:FrV E fv g' O i val)(ho: ∀x,O x→O' x):FrV E fv g' O' i val:=by
 unfold FrV at*
 split
 ·rename_i c;rw[if_pos c]at h;exact h
 rename_i c;rw[if_neg c]at h
 split
 ·rename_i c;rw[if_pos c]at h;obtain⟨x,e,o⟩:=h;exact⟨x,e,ho x o⟩
 rename_i c;rw[if_neg c]at h
 split
 ·rename_i c;rw[if_pos c]at h;obtain⟨x,e,o⟩:=h;exact⟨x,e,ho x o⟩
 rename_i c;rw[if_neg c]at h
 exact h
structure FrO (W0 W:World) (L:Nat→Bool) (v:Nat→Value) (g':Hp) (x':Nat→Value):Prop where
 own:HOwn W0.heap.size W g' x'
 far: ∀j,j<5→ ∀b,(x' j).ownBlock=some b→L 11=true→v 7≠ .pointer (some ⟨b,0,none⟩)
structure FrC (W0:World) (E:Nat→Value) (fv:Int) (g':Hp) (L:Nat→Bool) (v:Nat→Value) (W:World):Prop where
 b:Below W0.heap.size W0 W
 val: ∀i,i<15→i≠11→i≠13→L i=true→FrV E fv g' (FrO W0 W L v g') i (v (frs i))
 new:L 11=true→ ∃c,v 7= .pointer (some ⟨c,0,none⟩)∧W0.heap.size≤c∧c<W.heap.size∧(L 13=false→W.heap[c]? =some (.cells Z4 25 (0,0)))
 put:L 13=true→ ∃c x',v 7= .pointer (some ⟨c,0,none⟩)∧W.heap[c]? =some (.cells (hpC g' x') 25 (0,0))∧FrO W0 W L v g' x'
 c13:L 13=true→L 11=true
section
variable {W0 W W':World} {E:Nat→Value} {fv:Int} {g':Hp} {L:Nat→Bool} {v:Nat→Value}
theorem FrO.keep{L':Nat→Bool}{v':Nat→Value}{x':Nat→Value}(o:FrO W0 W L v g' x')(hs: ∀j,j<5→ ∀b,(x' j).ownBlock=some b→W'.heap[b]? =W.heap[b]?)(hz:W.heap.size≤W'.heap.size)
  (hf: ∀j,j<5→ ∀b,(x' j).ownBlock=some b→L' 11=true→v' 7≠ .pointer (some ⟨b,0,none⟩)):FrO W0 W' L' v' g' x':=
 ⟨⟨fun j hj=>Zp (o.own.own j hj) fun b hb=>hs j hj b hb,o.own.apart⟩,hf⟩
theorem FrC.step(C:FrC W0 E fv g' L v W){i s:Nat}(hi:i<15)(h11:i≠11)(h13:i≠13)(hs:s=frs i){x:Value}(hb:Below W.heap.size W W')
  (hv:FrV E fv g' (FrO W0 W' L v g') i x):FrC W0 E fv g' (add L i) (setV v s x) W':=by
 subst hs
 have a11:add L i 11=L 11:=YC (by omega)
 have a13:add L i 13=L 13:=YC (by omega)
 have v7:setV v (frs i) x 7=v 7:=XF v x (show frs 11≠frs i from JV 11 (by omega) i hi (Ne.symm h11))
 have kp: ∀x',FrO W0 W L v g' x'→FrO W0 W' (add L i) (setV v (frs i) x) g' x':=fun x' o=>o.keep (fun j hj b hb'=>hb.block b ((o.own.own j hj).lt b hb').2) hb.size (fun j hj b hb'=>by rw[a11,v7];exact o.far j hj b hb')
 have kp': ∀x',FrO W0 W' L v g' x'→FrO W0 W' (add L i) (setV v (frs i) x) g' x':=fun x' o=>o.keep (fun _ _ _ _=>rfl) (Nat.le_refl _) (fun j hj b hb'=>by rw[a11,v7];exact o.far j hj b hb')
 refine⟨C.b.trans (hb.mono C.b.size),fun j hj j11 j13 hL=> ?_,fun hL=> ?_,fun hL=> ?_,fun hL=> ?_⟩
 ·by_cases e:j=i
  ·subst e
   rw[YQ]
   exact hv.mono kp'
  ·rw[YC e]at hL
   rw[XF v x (JV j hj i hi e)]
   exact(C.val j hj j11 j13 hL).mono kp
 ·rw[a11]at hL
  obtain⟨c,e1,e2,e3,e4⟩:=C.new hL
  refine⟨c,by rw[v7];exact e1,e2,Nat.lt_of_lt_of_le e3 hb.size,fun h0=> ?_⟩
  rw[a13]at h0
  exact(hb.block c e3).trans (e4 h0)
 ·rw[a13]at hL
  obtain⟨c,x',e1,e2,e3⟩:=C.put hL
  exact⟨c,x',by rw[v7];exact e1,(hb.block c (Zz e2)).trans e2,kp x' e3⟩
 ·rw[a13]at hL
  rw[a11]
  exact C.c13 hL
theorem FrC.call(C:FrC W0 E fv g' L v W){x':Nat→Value}(hb:Below W.heap.size W W')(ho:HOwn W.heap.size W' g' x'):FrC W0 E fv g' (add L 6) (setV v 45 (frT fv g' x')) W':=by
 refine C.step (by omega) (by omega) (by omega) rfl hb ?_
 unfold FrV
 rw[if_neg (by omega),if_pos (.inl rfl)]
 refine⟨x',rfl,⟨fun j hj=>Uv (ho.own j hj) fun b h1 h2=>⟨Nat.le_trans C.b.size h1,h2⟩,ho.apart⟩,fun j hj b hb' hL e=> ?_⟩
 obtain⟨c,e1,_,e3,_⟩:=C.new hL
 rw[e1]at e
 cases e
 have:=((ho.own j hj).lt b hb').1
 omega
theorem FrC.alloc(C:FrC W0 E fv g' L v W)(h11:L 11=false):FrC W0 E fv g' (add L 11) (setV v 7 (.pointer (some ⟨W.heap.size,0,none⟩))) (W.alloc (.cells Z4 25)):=by
 have h13:L 13=false:=by
  cases e:L 13 with
  |false=>rfl
  |true=>have:=C.c13 e;rw[h11]at this;cases this
 have hb:Below W.heap.size W (W.alloc (.cells Z4 25)):=(Below.refl _ _).alloc (Nat.le_refl _) _
 have hz:(W.alloc (.cells Z4 25)).heap.size=W.heap.size+1:=by simp
 have kp: ∀x',FrO W0 W L v g' x'→FrO W0 (W.alloc (.cells Z4 25)) (add L 11) (setV v 7 (.pointer (some ⟨W.heap.size,0,none⟩))) g' x':=fun x' o=>o.keep (fun j hj b hb'=>hb.block b ((o.own.own j hj).lt b hb').2) hb.size (fun j hj b hb' _=>by
  rw[YQ]
  intro e
  cases e
  have:=((o.own.own j hj).lt _ hb').2
  omega)
 refine⟨C.b.trans (hb.mono C.b.size),fun j hj j11 j13 hL=> ?_,fun hL=> ?_,fun hL=> ?_,fun hL=> ?_⟩
 ·rw[YC j11]at hL
  rw[XF v _ (s:=7) (t:=frs j) (show frs j≠7 from JV j hj 11 (by omega) j11)]
  exact(C.val j hj j11 j13 hL).mono kp
 ·exact⟨W.heap.size,YQ _ _ _,C.b.size,by omega,fun _=>heap_alloc_new W _⟩
 ·rw[YC (by omega),h13]at hL
  cases hL
 ·exact T7 _ _
theorem FrC.store(C:FrC W0 E fv g' L v W){c:Nat}(hc:v 7= .pointer (some ⟨c,0,none⟩)){y:Nat→Value}(hy:FrO W0 W L v g' y)(h11:L 11=true)(hn:L 13=false)(hz:W.heap[c]? =some (.cells Z4 25 (0,0)))
  (hW: ∀b,b≠c→W'.heap[b]? =W.heap[b]?) (hs:W'.heap.size=W.heap.size) (hp:W'.heap[c]? =some (.cells (hpC g' y) 25 (0,0))) (hb:Below W0.heap.size W W'):FrC W0 E fv g' (add L 13) v W':=by
 have a11:add L 13 11=L 11:=YC (by omega)
 have kp: ∀x',FrO W0 W L v g' x'→FrO W0 W' (add L 13) v g' x':=fun x' o=>o.keep (fun j hj b hb'=>hW b (fun e=>by subst e;exact o.far j hj b hb' h11 hc)) (by omega) (fun j hj b hb' _=>o.far j hj b hb' h11)
 obtain⟨c',e1,e2,e3,_⟩:=C.new h11
 rw[hc]at e1
 cases e1
 refine⟨C.b.trans hb,fun j hj j11 j13 hL=> ?_,fun hL=> ?_,fun hL=> ?_,fun hL=>by rw[a11];exact h11⟩
 ·rw[YC j13]at hL
  exact(C.val j hj j11 j13 hL).mono kp
 ·refine⟨c,hc,e2,by omega,fun h0=> ?_⟩
  rw[T7]at h0
  cases h0
 ·exact⟨c,y,hc,hp,kp y hy⟩
theorem FrC.e(C:FrC W0 E fv g' L v W)(i:Nat)(hi:i<6)(hL:L i=true):v (frs i)=E i:=by
 have:=C.val i (by omega) (by omega) (by omega) hL
 unfold FrV at this
 rwa[if_pos hi]at this
theorem FrC.t(C:FrC W0 E fv g' L v W)(i:Nat)(hi:i=6∨i=7)(hL:L i=true): ∃x',v (frs i)=frT fv g' x'∧FrO W0 W L v g' x':=by
 have:=C.val i (by omega) (by omega) (by omega) hL
 unfold FrV at this
 rwa[if_neg (by omega),if_pos hi]at this
theorem FrC.a(C:FrC W0 E fv g' L v W)(hL:L 9=true): ∃x',v 47= .agg (hpC g' x')∧FrO W0 W L v g' x':=by
 have:=C.val 9 (by omega) (by omega) (by omega) hL
 unfold FrV at this
 rwa[if_neg (by omega),if_neg (by omega),if_pos rfl]at this
theorem FrC.f(C:FrC W0 E fv g' L v W)(i:Nat)(hi:i=8∨i=12)(hL:L i=true):v (frs i)= .int .u64 fv:=by
 have:=C.val i (by omega) (by omega) (by omega) hL
 unfold FrV at this
 rwa[if_neg (by omega),if_neg (by omega),if_neg (by omega),if_pos hi]at this
theorem FrC.z(C:FrC W0 E fv g' L v W)(i:Nat)(hi:i=10∨i=14)(hL:L i=true):v (frs i)= .int .i64 0:=by
 have:=C.val i (by omega) (by omega) (by omega) hL
 unfold FrV at this
 rwa[if_neg (by omega),if_neg (by omega),if_neg (by omega),if_neg (by omega)]at this
theorem FrC.pe(C:FrC W0 E fv g' L v W)(i:Nat)(hi:i<6){s:Nat}(hs:s=frs i):FrC W0 E fv g' (add L i) (setV v s (E i)) W:=
 C.step (by omega) (by omega) (by omega) hs (Below.refl _ _) (by unfold FrV;rw[if_pos hi])
theorem FrC.pt(C:FrC W0 E fv g' L v W){x':Nat→Value}(o:FrO W0 W L v g' x'):FrC W0 E fv g' (add L 7) (setV v 38 (frT fv g' x')) W:=
 C.step (by omega) (by omega) (by omega) rfl (Below.refl _ _) (by unfold FrV;rw[if_neg (by omega),if_pos (.inr rfl)];exact⟨x',rfl,o⟩)
theorem FrC.pa(C:FrC W0 E fv g' L v W){x':Nat→Value}(o:FrO W0 W L v g' x'):FrC W0 E fv g' (add L 9) (setV v 47 (.agg (hpC g' x'))) W:=
 C.step (by omega) (by omega) (by omega) rfl (Below.refl _ _) (by unfold FrV;rw[if_neg (by omega),if_neg (by omega),if_pos rfl];exact⟨x',rfl,o⟩)
theorem FrC.pf(C:FrC W0 E fv g' L v W)(i:Nat)(hi:i=8∨i=12){s:Nat}(hs:s=frs i):FrC W0 E fv g' (add L i) (setV v s (.int .u64 fv)) W:=
 C.step (by omega) (by omega) (by omega) hs (Below.refl _ _) (by unfold FrV;rw[if_neg (by omega),if_neg (by omega),if_neg (by omega),if_pos hi])
theorem FrC.pz(C:FrC W0 E fv g' L v W)(i:Nat)(hi:i=10∨i=14){s:Nat}(hs:s=frs i):FrC W0 E fv g' (add L i) (setV v s (.int .i64 0)) W:=
 C.step (by omega) (by omega) (by omega) hs (Below.refl _ _) (by unfold FrV;rw[if_neg (by omega),if_neg (by omega),if_neg (by omega),if_neg (by omega)])
end
theorem Z35{W:World}{G:Nat→Prop}{l:List Int}{y:Value}(h:Rd W G (.sl (l.map vu)) y){k:Nat}{u:Int}(hu:l[k]? =some u): ∃b o cap,y= .slice (some ⟨b,o,none⟩) l.length cap∧W.cell? ⟨b,o+k,none⟩=some (.int .u64 u)∧G b:=by
 have hkl:=(List.getElem?_eq_some_iff.1 hu).1
 generalize hL:l.map vu=L at h
 cases h with
 |nil=>simp at hL;subst hL;simp at hkl
 |sl _ b o cap kk vs h1 h2 h3 h4 h5 h6=>
  have hlen:L.length=l.length:=by rw[←hL,List.length_map]
  have hkk:kk=1:=by
   have:=(h4 (vu u) (by rw[←hL];exact List.mem_map_of_mem (List.mem_of_getElem? hu))).1
   simpa using this.symm
  subst hkk
  refine⟨b,o,cap,by rw[hlen],?_,h3⟩
  rw[h5 k (by omega)]
  have hf:(flat L)[k]? =some (vu u):=by rw[←hL,Qe,List.getElem?_map,hu];rfl
  rw[XP (h6 k _ hf)]
end Vm
end
section
namespace Vm
open Go Go.Proofs Go.RowKit
set_option maxHeartbeats 40000000
set_option maxRecDepth 100000
theorem Z0Z(w:World)(G:Nat→Prop)(hG: ∀b,G b→b<w.heap.size)(h:Hp)(hh:h.ok)(src:Nat→Value)(hs: ∀j,j<5→Rd w G (.sl ((lsH h j).map vu)) (src j)){p:Pts}(r:Rt h p)(hc:h.cycle=false):
  Calls Try.prog 17 #[hpA h src] w (UP w (yR h,0)):=by
 have hR: ∀W,Below w.heap.size w W→Calls Try.prog 33 #[hpA h src] W fun e w'=>e= .returned (.bool (Yb h))∧Below W.heap.size W w':=fun W hb=>
  Wv (w:=W) (G:=G) (x:=src) hh (fun b hb'=>Nat.lt_of_lt_of_le (hG b hb') hb.size) (fun j hj=>(hs j hj).keep (fun b hb'=>hb.block b (hG b hb')) fun _ q=>q)
 rw[r.right]at hR
 unfold hpA at hR
 rw[hc]at hR
 have HR:=Lib.hid hR
 have HS:=Lib.hid hs
 have HH:=Lib.hid hh
 have HRT:=Lib.hid r
 have HC:=Lib.hid hc
 have hto:h.to=0∨h.to=1:=by have:=Zs.1 r.lay;exact this.2.2.2.2.1
 have wto:=Z1 (1-h.to) (by omega) (by omega)
 clear hR hs hh r hto
 unfold hpA
 rw[hc]
 clear hc
 go_enter Try.func17,Try.ntmps17
 go_wp2
 refine K7 0 (fun a W=> ∃(c k:Nat) (x:Nat→Value),a.defers= []∧a.tmps.size=72∧a.tmps.getD 2 undef= .pointer (some ⟨w.heap.size+1,0,none⟩)∧a.tmps.getD 4 undef= .pointer (some ⟨c,0,none⟩)∧a.tmps.getD 5 undef= .int .i64 k∧k≤h.roots.length∧FlI w W c (XC (YL h) k) x) (fun a _=>h.roots.length- (intOf (a.tmps.getD 5 undef)).toNat) rfl ?_ ?_
 ·rintro a W ⟨c,k,x,hd,hsz,h2,h4,h5,hk,HI⟩
  obtain⟨t,d⟩:=a
  simp only at hd hsz h2 h4 h5
  subst hd
  obtain⟨u,hu⟩: ∃u:Nat→Value,∀i,t.getD i undef=u i:=⟨fun i=>t.getD i undef,fun _=>rfl⟩
  have et:t= #[u 0,u 1,u 2,u 3,u 4,u 5,u 6,u 7,u 8,u 9,u 10,u 11,u 12,u 13,u 14,u 15,u 16,u 17,u 18,u 19,u 20,u 21,u 22,u 23,u 24,u 25,u 26,u 27,u 28,u 29,u 30,u 31,u 32,u 33,u 34,u 35,u 36,u 37,u 38,u 39,u 40,u 41,u 42,u 43,u 44,u 45,u 46,u 47,u 48,u 49,u 50,u 51,u 52,u 53,u 54,u 55,u 56,u 57,u 58,u 59,u 60,u 61,u 62,u 63,u 64,u 65,u 66,u 67,u 68,u 69,u 70,u 71]:=(Z0N hsz).trans (by
   have e0:(fun i=>t.getD i undef)=u:=funext hu
   rw[e0]
   rfl)
  rw[hu]at h2 h4 h5
  rw[h2,h4,h5]at et
  clear hu hsz h2 h4 h5
  subst et
  have HIH:=Lib.hid HI
  clear HI
  by_cases hlt:k<h.roots.length
  ·have hto:h.to=0∨h.to=1:=by have:=Zs.1 HRT.out.lay;exact this.2.2.2.2.1
   obtain⟨q,I⟩:=Vv HRT.out HC.out k (by omega)
   obtain⟨⟨fv,g',q',f⟩,_⟩:=TU HRT.out hlt I
   have gok:=UO HH.out hto k
   have hroot:(XC (YL h) k).roots[k]? =some h.roots[k]:=by rw[I.rest k (Nat.le_refl _)];exact List.getElem?_eq_getElem hlt
   have hstep:XC (YL h) (k+1)= {g' with roots:=g'.roots.set k fv}:=by
    show Qj (XC (YL h) k) k=_
    unfold Qj
    rw[hroot,Option.getD_some,f.fwd]
   have hgl:(XC (YL h) k).roots.length=h.roots.length:=I.len
   have er:g'.roots=(XC (YL h) k).roots:=f.ext.roots
   have gok':g'.ok∧U64 fv:=by have:=jQ gok (HH.out.rootsW _ (List.getElem_mem hlt));rw[f.fwd]at this;exact this
   have hfwd:=f.fwd
   have hu0:=HH.out.rootsW _ (List.getElem_mem hlt)
   clear I f
   generalize XC (YL h) k=g at*
   generalize h.roots[k]=u0 at*
   obtain⟨gb,go,cap,hx4,hcell,hgG⟩:=Z35 (HIH.out.rd 4 (by omega)) hroot
   rw[show(lsH g 4).length=g.roots.length from rfl,hgl]at hx4
   have hF: ∀W',Below W.heap.size W W'→Calls Try.prog 39 #[.agg #[.int .u64 g.base,.int .i64 g.cap,.int .i64 g.to,.bool g.cycle,.int .i64 g.scan,x 0,x 1,x 2,x 3,.slice (some ⟨gb,go,none⟩) h.roots.length cap],.int .u64 u0] W' (Yr W' (fv,g',0)):=fun W' hb=>by
    have:=Q0 W' (fun b=>w.heap.size+2≤b∧b<W.heap.size∧b≠c) (fun b hb'=>Nat.lt_of_lt_of_le hb'.2.1 hb.size) g gok x (fun j hj=>(HIH.out.rd j hj).keep (fun b hb'=>hb.block b hb'.2.1) fun _ q=>q) u0 hu0
    rw[hfwd]at this
    unfold hpA at this
    rw[hx4]at this
    exact this
   have HF:=Lib.hid hF
   have hnb:=HIH.out.nb
   unfold hpC at hnb
   rw[hx4]at hnb
   have yc: ∀j,W.cell? ⟨c,j,none⟩=(#[.int .u64 g.base,.int .i64 g.cap,.int .i64 g.to,.bool g.cycle,.int .i64 g.scan,x 0,x 1,x 2,x 3,.slice (some ⟨gb,go,none⟩) h.roots.length cap]:Array Value)[j]? :=fun j=>cell_of_row _ _ _ _ _ _ hnb
   have hcl:=Zz hnb
   have hltI:((k:Int) < (h.roots.length:Int))=True:=eq_true (by omega)
   have HM:=Lib.hid (And.intro hstep (And.intro er (And.intro gok' (And.intro hgG (And.intro hnb hgl)))))
   clear hF hnb hgl hx4 hstep er gok' hroot hfwd gok hgG
   go_upto_region 8 with fail
   refine To [39,40,41,42,43,44,45,38,46,47,48,7,6,8] (FrC W (frE c g (fun j=>if j=4 then .slice (some ⟨gb,go,none⟩) h.roots.length cap else x j) k (.pointer (some ⟨gb,go+k,none⟩)) u0) fv g') follows (by kernel_rfl) ⟨u,by simp only[putF,putL,List.map_cons,List.map_nil,List.foldl_cons,List.foldl_nil,List.setIfInBounds_toArray,List.set_cons_succ,List.set_cons_zero],?_⟩ ?_ ?_
   ·exact⟨(Below.refl _ _).drew,fun i _ _ _ h=>(by cases h),fun h=>(by cases h),fun h=>(by cases h),fun h=>(by cases h)⟩
   ·intro L i o v W1 ho hi hj C
    have HX:=Lib.hid C
    have hz:W.heap.size≤W1.heap.size:=C.b.size
    have yd: ∀j,W1.cell? ⟨c,j,none⟩=(#[.int .u64 g.base,.int .i64 g.cap,.int .i64 g.to,.bool g.cycle,.int .i64 g.scan,x 0,x 1,x 2,x 3,.slice (some ⟨gb,go,none⟩) h.roots.length cap]:Array Value)[j]? :=fun j=>(C.b.cell (p:=⟨c,j,none⟩) hcl).trans (yc j)
    have hcell1:W1.cell? ⟨gb,go+k,none⟩=some (.int .u64 u0):=(C.b.cell (p:=⟨gb,go+k,none⟩) HM.out.2.2.2.1.2.1).trans hcell
    clear C
    have h15:i<15:=(Array.getElem?_eq_some_iff.1 ho).1
    simp only[putF,putL,List.map_cons,List.map_nil,List.foldl_cons,List.foldl_nil,List.setIfInBounds_toArray,List.set_cons_succ,List.set_cons_zero]
    have:i=0∨i=1∨i=2∨i=3∨i=4∨i=5∨i=6∨i=7∨i=8∨i=9∨i=10∨i=11∨i=12∨i=13∨i=14:=by omega
    rcases this with rfl|rfl|rfl|rfl|rfl|rfl|rfl|rfl|rfl|rfl|rfl|rfl|rfl|rfl|rfl
    ·cases ho
     go_wp2
     try simp only[QN]
     refine⟨setV v 39 (.agg #[.int .u64 g.base,.int .i64 g.cap,.int .i64 g.to,.bool g.cycle,.int .i64 g.scan,x 0,x 1,x 2,x 3,.slice (some ⟨gb,go,none⟩) h.roots.length cap]),rfl,?_⟩
     exact HX.out.pe 0 (by omega) rfl
    ·cases ho
     go_wp2
     try simp only[QN]
     refine⟨setV v 40 (.pointer (some ⟨c,9,none⟩)),rfl,?_⟩
     exact HX.out.pe 1 (by omega) rfl
    ·cases ho
     have e1:v 40= .pointer (some ⟨c,9,none⟩):=HX.out.e 1 (by omega) (hj 1 (by decide))
     have E1:=Lib.hid e1
     go_wp2
     try simp only[QN]
     refine⟨setV (setV v 40 (.pointer (some ⟨c,9,none⟩))) 41 (.slice (some ⟨gb,go,none⟩) h.roots.length cap),rfl,?_⟩
     rw[Zh (v:=v) E1.out]
     exact HX.out.pe 2 (by omega) rfl
    ·cases ho
     go_wp2
     try simp only[QN]
     refine⟨setV v 42 (.int .i64 k),rfl,?_⟩
     exact HX.out.pe 3 (by omega) rfl
    ·cases ho
     have e2:v 41= .slice (some ⟨gb,go,none⟩) h.roots.length cap:=HX.out.e 2 (by omega) (hj 2 (by decide))
     have E2:=Lib.hid e2
     have e3:v 42= .int .i64 k:=HX.out.e 3 (by omega) (hj 3 (by decide))
     have E3:=Lib.hid e3
     go_wp2
     try simp only[QN]
     refine⟨setV (setV (setV v 41 (.slice (some ⟨gb,go,none⟩) h.roots.length cap)) 42 (.int .i64 k)) 43 (.pointer (some ⟨gb,go+k,none⟩)),rfl,?_⟩
     rw[Zh (v:=v) E2.out,Zh (v:=v) E3.out]
     exact HX.out.pe 4 (by omega) rfl
    ·cases ho
     have e4:v 43= .pointer (some ⟨gb,go+k,none⟩):=HX.out.e 4 (by omega) (hj 4 (by decide))
     have E4:=Lib.hid e4
     go_wp2
     try simp only[QN]
     refine⟨setV (setV v 43 (.pointer (some ⟨gb,go+k,none⟩))) 44 (.int .u64 u0),rfl,?_⟩
     rw[Zh (v:=v) E4.out]
     exact HX.out.pe 5 (by omega) rfl
    ·cases ho
     have e0:v 39= .agg #[.int .u64 g.base,.int .i64 g.cap,.int .i64 g.to,.bool g.cycle,.int .i64 g.scan,x 0,x 1,x 2,x 3,.slice (some ⟨gb,go,none⟩) h.roots.length cap]:=HX.out.e 0 (by omega) (hj 0 (by decide))
     have E0:=Lib.hid e0
     have e5:v 44= .int .u64 u0:=HX.out.e 5 (by omega) (hj 5 (by decide))
     have E5:=Lib.hid e5
     go_wp2_with (go_at_call 39;refine(HF.out _ HX.out.b).mono ?_;rintro e w9 ⟨x9,rfl,hb9,ho9⟩;have HB9:=Lib.hid (And.intro hb9 ho9);clear hb9 ho9)
     try simp only[QN]
     refine⟨setV (setV (setV v 39 (.agg #[.int .u64 g.base,.int .i64 g.cap,.int .i64 g.to,.bool g.cycle,.int .i64 g.scan,x 0,x 1,x 2,x 3,.slice (some ⟨gb,go,none⟩) h.roots.length cap])) 44 (.int .u64 u0)) 45 (frT fv g' x9),rfl,?_⟩
     rw[Zh (v:=v) E0.out,Zh (v:=v) E5.out]
     exact HX.out.call HB9.out.1 HB9.out.2
    ·cases ho
     obtain⟨x9,e0,o9⟩:=HX.out.t 6 (.inl rfl) (hj 6 (by decide))
     have e0:v 45=frT fv g' x9:=e0
     have E0:=Lib.hid e0
     have O9:=Lib.hid o9
     clear o9
     go_wp2
     try simp only[QN]
     refine⟨setV (setV v 45 (frT fv g' x9)) 38 (frT fv g' x9),rfl,?_⟩
     rw[Zh (v:=v) E0.out]
     exact HX.out.pt O9.out
    ·cases ho
     obtain⟨x9,e0,o9⟩:=HX.out.t 7 (.inr rfl) (hj 7 (by decide))
     have e0:v 38= .tuple #[.int .u64 fv,.agg (hpC g' x9),.int .i64 0]:=e0
     have E0:=Lib.hid e0
     have O9:=Lib.hid o9
     clear o9
     go_wp2
     try simp only[QN]
     refine⟨setV (setV v 38 (.tuple #[.int .u64 fv,.agg (hpC g' x9),.int .i64 0])) 46 (.int .u64 fv),rfl,?_⟩
     rw[Zh (v:=v) E0.out]
     exact HX.out.pf 8 (.inl rfl) rfl
    ·cases ho
     obtain⟨x9,e0,o9⟩:=HX.out.t 7 (.inr rfl) (hj 7 (by decide))
     have e0:v 38= .tuple #[.int .u64 fv,.agg (hpC g' x9),.int .i64 0]:=e0
     have E0:=Lib.hid e0
     have O9:=Lib.hid o9
     clear o9
     go_wp2
     try simp only[QN]
     refine⟨setV (setV v 38 (.tuple #[.int .u64 fv,.agg (hpC g' x9),.int .i64 0])) 47 (.agg (hpC g' x9)),rfl,?_⟩
     rw[Zh (v:=v) E0.out]
     exact HX.out.pa O9.out
    ·cases ho
     obtain⟨x9,e0,o9⟩:=HX.out.t 7 (.inr rfl) (hj 7 (by decide))
     have e0:v 38= .tuple #[.int .u64 fv,.agg (hpC g' x9),.int .i64 0]:=e0
     have E0:=Lib.hid e0
     have O9:=Lib.hid o9
     clear o9
     go_wp2
     try simp only[QN]
     refine⟨setV (setV v 38 (.tuple #[.int .u64 fv,.agg (hpC g' x9),.int .i64 0])) 48 (.int .i64 0),rfl,?_⟩
     rw[Zh (v:=v) E0.out]
     exact HX.out.pz 10 (.inl rfl) rfl
    ·cases ho
     go_wp2
     try simp only[QN]
     exact⟨setV v 7 (.pointer (some ⟨W1.heap.size,0,none⟩)),rfl,HX.out.alloc hi⟩
    ·cases ho
     have e0:v 46= .int .u64 fv:=HX.out.f 8 (.inl rfl) (hj 8 (by decide))
     have E0:=Lib.hid e0
     go_wp2
     try simp only[QN]
     refine⟨setV (setV v 46 (.int .u64 fv)) 6 (.int .u64 fv),rfl,?_⟩
     rw[Zh (v:=v) E0.out]
     exact HX.out.pf 12 (.inr rfl) rfl
    ·cases ho
     obtain⟨c7,e7,hc1,hc2,hc3⟩:=HX.out.new (hj 11 (by decide))
     obtain⟨x9,e47,o9⟩:=HX.out.a (hj 9 (by decide))
     have hc3:=hc3 hi
     have y4: ∀j,W1.cell? ⟨c7,j,none⟩=Z4[j]? :=fun j=>cell_of_row _ _ _ _ _ _ hc3
     unfold Z4 at y4
     have y5: ∀j,W1.frozen? ⟨c7,j,none⟩=false:=fun j=>Za hc3
     have H3:=Lib.hid hc3
     have E7:=Lib.hid e7
     obtain⟨a0,q0,f0⟩:=Z2 (o9.own.own 0 (by omega))
     obtain⟨a1,q1,f1⟩:=Z2 (o9.own.own 1 (by omega))
     obtain⟨a2,q2,f2⟩:=Z2 (o9.own.own 2 (by omega))
     obtain⟨a3,q3,f3⟩:=Z2 (o9.own.own 3 (by omega))
     obtain⟨a4,q4,f4⟩:=Z2 (o9.own.own 4 (by omega))
     have hfl:hpC g' x9= #[.int .u64 g'.base,.int .i64 g'.cap,.int .i64 g'.to,.bool g'.cycle,.int .i64 g'.scan,.slice a0 (lsH g' 0).length q0,.slice a1 (lsH g' 1).length q1,.slice a2 (lsH g' 2).length q2,.slice a3 (lsH g' 3).length q3,.slice a4 (lsH g' 4).length q4]:=by
      unfold hpC
      rw[f0,f1,f2,f3,f4]
     rw[hfl]at e47
     have HFL:=Lib.hid (And.intro hfl (And.intro e47 o9))
     clear hc3 o9 f0 f1 f2 f3 f4 hfl
     go_wp2
     try simp only[QN]
     refine⟨setV (setV v 7 (.pointer (some ⟨c7,0,none⟩))) 47 (.agg #[.int .u64 g'.base,.int .i64 g'.cap,.int .i64 g'.to,.bool g'.cycle,.int .i64 g'.scan,.slice a0 (lsH g' 0).length q0,.slice a1 (lsH g' 1).length q1,.slice a2 (lsH g' 2).length q2,.slice a3 (lsH g' 3).length q3,.slice a4 (lsH g' 4).length q4]),rfl,?_⟩
     rw[Zh (v:=v) E7.out,Zh (v:=v) HFL.out.2.1]
     refine HX.out.store E7.out HFL.out.2.2 (hj 11 (by decide)) hi H3.out (fun b hb=> ?_) ?_ ?_ ?_
     ·exact Yu hb _ _ _ _ _ _ _ _ _ _
     ·simp[World.setCell]
     ·rw[HFL.out.1];exact S1 H3.out _ _ _ _ _ _ _ _ _ _
     ·exact Zi (Below.refl _ _) hc1 _ _ _ _ _ _ _ _ _ _
    ·cases ho
     have e0:v 48= .int .i64 0:=HX.out.z 10 (.inl rfl) (hj 10 (by decide))
     have E0:=Lib.hid e0
     go_wp2
     try simp only[QN]
     refine⟨setV (setV v 48 (.int .i64 0)) 8 (.int .i64 0),rfl,?_⟩
     rw[Zh (v:=v) E0.out]
     exact HX.out.pz 14 (.inr rfl) rfl
   ·intro L v W1 hL C
    have e6:v 6= .int .u64 fv:=C.f 12 (.inr rfl) (hL 12 (by decide))
    have e8:v 8= .int .i64 0:=C.z 14 (.inr rfl) (hL 14 (by decide))
    obtain⟨c7,x9,e7,hb7,o9⟩:=C.put (hL 13 (by decide))
    have hbel:=C.b
    have hsz:=hbel.size
    have hgl':g'.roots.length=h.roots.length:=by rw[HM.out.2.1,HM.out.2.2.2.2.2]
    obtain⟨a0,q0,f0⟩:=Z2 (o9.own.own 0 (by omega))
    obtain⟨a1,q1,f1⟩:=Z2 (o9.own.own 1 (by omega))
    obtain⟨a2,q2,f2⟩:=Z2 (o9.own.own 2 (by omega))
    obtain⟨a3,q3,f3⟩:=Z2 (o9.own.own 3 (by omega))
    obtain⟨a4,q4,f4⟩:=Z2 (o9.own.own 4 (by omega))
    obtain⟨g4,rfl⟩:=YE (o9.own.own 4 (by omega)) f4 (by show 0<g'.roots.length;omega)
    rw[show(lsH g' 4).length=g'.roots.length from rfl,hgl']at f4
    have hfl:hpC g' x9= #[.int .u64 g'.base,.int .i64 g'.cap,.int .i64 g'.to,.bool g'.cycle,.int .i64 g'.scan,.slice a0 (lsH g' 0).length q0,.slice a1 (lsH g' 1).length q1,.slice a2 (lsH g' 2).length q2,.slice a3 (lsH g' 3).length q3,.slice (some ⟨g4,0,none⟩) h.roots.length q4]:=by
     unfold hpC
     rw[f0,f1,f2,f3,f4]
    rw[hfl]at hb7
    have hbc:=(hbel.block c hcl).trans HM.out.2.2.2.2.1
    have y7: ∀j,W1.cell? ⟨c7,j,none⟩=(#[.int .u64 g'.base,.int .i64 g'.cap,.int .i64 g'.to,.bool g'.cycle,.int .i64 g'.scan,.slice a0 (lsH g' 0).length q0,.slice a1 (lsH g' 1).length q1,.slice a2 (lsH g' 2).length q2,.slice a3 (lsH g' 3).length q3,.slice (some ⟨g4,0,none⟩) h.roots.length q4]:Array Value)[j]? :=fun j=>cell_of_row _ _ _ _ _ _ hb7
    have yd: ∀j,W1.cell? ⟨c,j,none⟩=(#[.int .u64 g.base,.int .i64 g.cap,.int .i64 g.to,.bool g.cycle,.int .i64 g.scan,x 0,x 1,x 2,x 3,.slice (some ⟨gb,go,none⟩) h.roots.length cap]:Array Value)[j]? :=fun j=>cell_of_row _ _ _ _ _ _ hbc
    have fd: ∀j,W1.frozen? ⟨c,j,none⟩=false:=fun j=>Za hbc
    have HO:=Lib.hid (And.intro o9.own (And.intro hbel (And.intro hfl (And.intro f4 (And.intro hgl' hbc)))))
    have hg4:W.heap.size≤g4∧g4<W1.heap.size:=(o9.own.own 4 (by omega)).lt g4 (by rw[f4];rfl)
    clear C o9 hbel hfl f0 f1 f2 f3 f4 hgl' hb7 hbc hL
    simp only[putF,putL,List.map_cons,List.map_nil,List.foldl_cons,List.foldl_nil,List.setIfInBounds_toArray,List.set_cons_succ,List.set_cons_zero]
    go_upto_region 12 with fail
    obtain⟨W2,hW2⟩: ∃W2,W2=((((((((((W1.setCell ⟨c,0,none⟩ (.int .u64 g'.base)).setCell ⟨c,1,none⟩ (.int .i64 g'.cap)).setCell ⟨c,2,none⟩ (.int .i64 g'.to)).setCell ⟨c,3,none⟩ (.bool g'.cycle)).setCell ⟨c,4,none⟩ (.int .i64 g'.scan)).setCell ⟨c,5,none⟩ (.slice a0 (lsH g' 0).length q0)).setCell ⟨c,6,none⟩ (.slice a1 (lsH g' 1).length q1)).setCell ⟨c,7,none⟩ (.slice a2 (lsH g' 2).length q2)).setCell ⟨c,8,none⟩ (.slice a3 (lsH g' 3).length q3)).setCell ⟨c,9,none⟩ (.slice (some ⟨g4,0,none⟩) h.roots.length q4)):=⟨_,rfl⟩
    rw[←hW2]
    have hb2:W2.heap[c]? =some (.cells #[.int .u64 g'.base,.int .i64 g'.cap,.int .i64 g'.to,.bool g'.cycle,.int .i64 g'.scan,.slice a0 (lsH g' 0).length q0,.slice a1 (lsH g' 1).length q1,.slice a2 (lsH g' 2).length q2,.slice a3 (lsH g' 3).length q3,.slice (some ⟨g4,0,none⟩) h.roots.length q4] 25 (0,0)):=by rw[hW2];exact jb HO.out.2.2.2.2.2 _ _ _ _ _ _ _ _ _ _
    have hot: ∀b,b≠c→W2.heap[b]? =W1.heap[b]? :=fun b hb=>by rw[hW2];exact Yu hb _ _ _ _ _ _ _ _ _ _
    have hz2:W2.heap.size=W1.heap.size:=by rw[hW2];simp[World.setCell]
    have hbl2:Below w.heap.size W1 W2:=by rw[hW2];exact Zi (Below.refl _ _) (by have:=HIH.out.le;omega) _ _ _ _ _ _ _ _ _ _
    clear hW2
    have hown2:HOwn W.heap.size W2 g' x9:=⟨fun j hj=>Zp (HO.out.1.own j hj) fun b hb=>hot b (by have:=((HO.out.1.own j hj).lt b hb).1;omega),HO.out.1.apart⟩
    have ho4:=hown2.own 4 (by omega)
    rw[HO.out.2.2.2.1,show(lsH g' 4).length=h.roots.length from HO.out.2.2.2.2.1]at ho4
    have y2: ∀j,W2.cell? ⟨c,j,none⟩=(#[.int .u64 g'.base,.int .i64 g'.cap,.int .i64 g'.to,.bool g'.cycle,.int .i64 g'.scan,.slice a0 (lsH g' 0).length q0,.slice a1 (lsH g' 1).length q1,.slice a2 (lsH g' 2).length q2,.slice a3 (lsH g' 3).length q3,.slice (some ⟨g4,0,none⟩) h.roots.length q4]:Array Value)[j]? :=fun j=>cell_of_row _ _ _ _ _ _ hb2
    obtain⟨z0,hz0⟩: ∃z0,g'.roots[k]? =some z0:=⟨_,List.getElem?_eq_getElem (by rw[HO.out.2.2.2.2.1];exact hlt)⟩
    have ec:W2.cell? ⟨g4,k,none⟩=some (.int .u64 z0):=by
     rw[ho4.cellAt k (by omega)]
     simp[nums,lsH,hz0]
    have ef:W2.frozen? ⟨g4,k,none⟩=false:=ho4.frozenAt k
    have wk:=Z1 ((k:Int)+1) (by have:=HH.out.roots;omega) (by have:=HH.out.roots;omega)
    have HQ:=Lib.hid (And.intro hb2 (And.intro hot (And.intro hz2 (And.intro hbl2 (And.intro hown2 ho4)))))
    clear hb2 hot hz2 hbl2 hown2 ho4 y7 yd fd hz0
    go_wp2
    go_step3
    simp only[Exit.then,Exit.inBlock]
    refine⟨rfl,⟨c,k+1,x9,rfl,rfl,rfl,rfl,?_,by omega,?_⟩,?_⟩
    ·show Value.int .i64 ((k:Int)+1)=_
     congr 1
    ·rw[HM.out.1]
     obtain⟨hb2,hot,hz2,hbl2,hown2,ho4⟩:=HQ.out
     obtain⟨hs1,hs2⟩:=ho4.stored k (.int .u64 fv)
     have hg4c:g4≠c:=by omega
     have oth: ∀b,b≠g4→(W2.setCell ⟨g4,k,none⟩ (.int .u64 fv)).heap[b]? =W2.heap[b]? :=fun b hb=>Below.heap_setCell _ _ _ _ hb
     have hz3:(W2.setCell ⟨g4,k,none⟩ (.int .u64 fv)).heap.size=W2.heap.size:=by simp[World.setCell]
     have hle:=HIH.out.le
     have hrb:=HIH.out.rb
     refine⟨(HIH.out.below.trans ((HO.out.2.1.mono HIH.out.below.size).trans hbl2)).setCell (by show w.heap.size≤g4;have:=HIH.out.below.size;omega) _,?_,hle,?_,fun j hj=> ?_⟩
     ·have:=Zz hrb
      rw[oth _ (by omega),hot _ (by omega),HO.out.2.1.block _ this]
      exact hrb
     ·rw[oth c (by omega),hb2,←HO.out.2.2.1]
      rfl
     ·have hin: ∀b,W.heap.size≤b→b< (W2.setCell ⟨g4,k,none⟩ (.int .u64 fv)).heap.size→w.heap.size+2≤b∧b< (W2.setCell ⟨g4,k,none⟩ (.int .u64 fv)).heap.size∧b≠c:=fun b h1 h2=>⟨by omega,h2,by omega⟩
      by_cases e:j=4
      ·subst e
       have hn:nums .u64 (g'.roots.set k fv)=(nums .u64 (lsH g' 4)).set k (.int .u64 fv):=Rq _ _ _ _
       rw[←hn]at hs1
       show Rd _ _ (.sl ((g'.roots.set k fv).map vu)) (x9 4)
       rw[HO.out.2.2.2.1]
       have hl4:h.roots.length=(g'.roots.set k fv).length:=by rw[List.length_set,HO.out.2.2.2.2.1]
       have hs3:(W2.setCell ⟨g4,k,none⟩ (.int .u64 fv)).ownsRow W.heap.size 22 1 (.slice (some ⟨g4,0,none⟩) h.roots.length q4) (g'.roots.set k fv).length (nums .u64 (g'.roots.set k fv)):=by rw[←hl4];exact hs1
       exact KP hs3 hin
      ·have hj4:lsH {g' with roots:=g'.roots.set k fv} j=lsH g' j:=by
        have:j=0∨j=1∨j=2∨j=3:=by omega
        rcases this with rfl|rfl|rfl|rfl<;>rfl
       rw[hj4]
       refine KP (Zp (hown2.own j hj) fun b hb=>oth b fun e2=> ?_) hin
       exact hown2.apart j 4 (by omega) (by omega) b hb (by rw[e2,HO.out.2.2.2.1];rfl)
    ·simp[intOf]
     omega
  ·have hkn:k=h.roots.length:=by omega
   subst hkn
   obtain⟨q,I⟩:=Vv HRT.out HC.out h.roots.length (Nat.le_refl _)
   have hgl:(XC (YL h) h.roots.length).roots.length=h.roots.length:=I.len
   clear I
   have hfl:yR h=JM (XC (YL h) h.roots.length):=rfl
   rw[hfl]
   clear hfl
   generalize XC (YL h) h.roots.length=g at*
   obtain⟨a0,q0,f0⟩:=Rd.slfT (HIH.out.rd 0 (by omega))
   obtain⟨a1,q1,f1⟩:=Rd.slfT (HIH.out.rd 1 (by omega))
   obtain⟨a2,q2,f2⟩:=Rd.slfT (HIH.out.rd 2 (by omega))
   obtain⟨a3,q3,f3⟩:=Rd.slfT (HIH.out.rd 3 (by omega))
   obtain⟨a4,q4,f4⟩:=Rd.slfT (HIH.out.rd 4 (by omega))
   rw[List.length_map,show(lsH g 0).length=g.low.length from rfl]at f0
   rw[List.length_map,show(lsH g 1).length=g.high.length from rfl]at f1
   rw[List.length_map,show(lsH g 2).length=g.old.length from rfl]at f2
   rw[List.length_map,show(lsH g 3).length=g.far.length from rfl]at f3
   rw[List.length_map,show(lsH g 4).length=g.roots.length from rfl,hgl]at f4
   have hnb:=HIH.out.nb
   have hpc:hpC g x= #[.int .u64 g.base,.int .i64 g.cap,.int .i64 g.to,.bool g.cycle,.int .i64 g.scan,.slice a0 g.low.length q0,.slice a1 g.high.length q1,.slice a2 g.old.length q2,.slice a3 g.far.length q3,.slice a4 h.roots.length q4]:=by
    unfold hpC
    rw[f0,f1,f2,f3,f4]
   rw[hpc]at hnb
   have hrb:=HIH.out.rb
   have hle:=HIH.out.le
   have hcl:=Zz hnb
   have yc: ∀j,W.cell? ⟨c,j,none⟩=(#[.int .u64 g.base,.int .i64 g.cap,.int .i64 g.to,.bool g.cycle,.int .i64 g.scan,.slice a0 g.low.length q0,.slice a1 g.high.length q1,.slice a2 g.old.length q2,.slice a3 g.far.length q3,.slice a4 h.roots.length q4]:Array Value)[j]? :=fun j=>cell_of_row _ _ _ _ _ _ hnb
   have fc: ∀j,W.frozen? ⟨c,j,none⟩=false:=fun j=>Za hnb
   have yz: ∀j,W.cell? ⟨w.heap.size+1,j,none⟩=Z4[j]? :=fun j=>cell_of_row _ _ _ _ _ _ hrb
   unfold Z4 at yz
   have fz: ∀j,W.frozen? ⟨w.heap.size+1,j,none⟩=false:=fun j=>Za hrb
   have hne: ¬w.heap.size+1=c:=by omega
   have hne2: ¬c=w.heap.size+1:=by omega
   have HP:=Lib.hid (And.intro hpc (And.intro hnb (And.intro hrb (And.intro f0 (And.intro f1 (And.intro f2 (And.intro f3 f4)))))))
   clear hpc hnb hrb f0 f1 f2 f3 f4 hgl
   by_cases hlow:0<g.low.length
   ·have hlowI:((0:Int) < (g.low.length:Int))=True:=eq_true (by omega)
    go_wp2
    simp only[Exit.jump]
    obtain⟨W3,hW3⟩: ∃W3,W3=W.setCell ⟨c,3,none⟩ (.bool true):=⟨_,rfl⟩
    rw[←hW3]
    have oth: ∀b,b≠c→W3.heap[b]? =W.heap[b]? :=fun b hb=>by
     rw[hW3]
     simp[World.setCell,Array.getElem?_modify,Ne.symm hb]
    have hz3:W3.heap.size=W.heap.size:=by rw[hW3];simp[World.setCell]
    have bel3:Below w.heap.size W W3:=by
     rw[hW3]
     exact(Below.refl _ _).setCell (by show w.heap.size≤c;omega) _
    have y:=Zn ((oth _ hne).trans HP.out.2.2.1) (.int .u64 g.base) (.int .i64 g.cap) (.int .i64 g.to) (.bool true) (.int .i64 g.scan) (.slice a0 g.low.length q0) (.slice a1 g.high.length q1) (.slice a2 g.old.length q2) (.slice a3 g.far.length q3) (.slice a4 h.roots.length q4)
    have hfe:JM g= {g with cycle:=true}:=if_pos hlow
    rw[hfe]
    clear hW3
    refine bodyPost_ret (v:= .tuple #[.agg #[.int .u64 g.base,.int .i64 g.cap,.int .i64 g.to,.bool true,.int .i64 g.scan,.slice a0 g.low.length q0,.slice a1 g.high.length q1,.slice a2 g.old.length q2,.slice a3 g.far.length q3,.slice a4 h.roots.length q4],.int .i64 0]) ?_ rfl ?_
    ·simp[results,Try.results17,go_sem,y]
    ·refine⟨x,?_,Zi (HIH.out.below.trans bel3) (by omega) _ _ _ _ _ _ _ _ _ _,fun j hj=> ?_⟩
     ·have e0:=HP.out.2.2.2.1
      have e1:=HP.out.2.2.2.2.1
      have e2:=HP.out.2.2.2.2.2.1
      have e3:=HP.out.2.2.2.2.2.2.1
      have e4:=HP.out.2.2.2.2.2.2.2
      rw[←e0,←e1,←e4,←e2,←e3]
      rfl
     ·have hl:lsH {g with cycle:=true} j=lsH g j:=rfl
      rw[hl]
      exact(HIH.out.rd j hj).keep (fun b hb=>(Yu (by have:=hb.1;omega) _ _ _ _ _ _ _ _ _ _).trans (oth b hb.2.2)) fun b hb=>⟨by have:=hb.1;omega,by simp[World.setCell,hz3];exact hb.2.1⟩
   ·have hlowI:((0:Int) < (g.low.length:Int))=False:=eq_false (by omega)
    go_wp2
    simp only[Exit.jump]
    obtain⟨W3,hW3⟩: ∃W3,W3=((W.setCell ⟨c,3,none⟩ (.bool false)).setCell ⟨c,7,none⟩ (.slice none 0 0)).setCell ⟨c,8,none⟩ (.slice none 0 0):=⟨_,rfl⟩
    rw[←hW3]
    have oth: ∀b,b≠c→W3.heap[b]? =W.heap[b]? :=fun b hb=>by
     rw[hW3]
     simp[World.setCell,Array.getElem?_modify,Ne.symm hb]
    have hz3:W3.heap.size=W.heap.size:=by rw[hW3];simp[World.setCell]
    have bel3:Below w.heap.size W W3:=by
     rw[hW3]
     exact(((Below.refl _ _).setCell (by show w.heap.size≤c;omega) _).setCell (by show w.heap.size≤c;omega) _).setCell (by show w.heap.size≤c;omega) _
    have y:=Zn ((oth _ hne).trans HP.out.2.2.1) (.int .u64 g.base) (.int .i64 g.cap) (.int .i64 g.to) (.bool false) (.int .i64 g.scan) (.slice a0 g.low.length q0) (.slice a1 g.high.length q1) (.slice none 0 0) (.slice none 0 0) (.slice a4 h.roots.length q4)
    have hfe:JM g= {g with cycle:=false,old:= [],far:= []}:=if_neg hlow
    rw[hfe]
    clear hW3
    refine bodyPost_ret (v:= .tuple #[.agg #[.int .u64 g.base,.int .i64 g.cap,.int .i64 g.to,.bool false,.int .i64 g.scan,.slice a0 g.low.length q0,.slice a1 g.high.length q1,.slice none 0 0,.slice none 0 0,.slice a4 h.roots.length q4],.int .i64 0]) ?_ rfl ?_
    ·simp[results,Try.results17,go_sem,y]
    ·refine⟨(fun j=>if j=2∨j=3 then .slice none 0 0 else x j),?_,Zi (HIH.out.below.trans bel3) (by omega) _ _ _ _ _ _ _ _ _ _,fun j hj=> ?_⟩
     ·have e0:=HP.out.2.2.2.1
      have e1:=HP.out.2.2.2.2.1
      have e2:=HP.out.2.2.2.2.2.1
      have e3:=HP.out.2.2.2.2.2.2.1
      have e4:=HP.out.2.2.2.2.2.2.2
      rw[←e0,←e1,←e4]
      rfl
     ·have:j=2∨j=3∨(j≠2∧j≠3):=by omega
      rcases this with rfl|rfl| ⟨h2,h3⟩
      ·exact .nil _ _ (by unfold maxLen;omega)
      ·exact .nil _ _ (by unfold maxLen;omega)
      ·have hl:lsH {g with cycle:=false,old:= [],far:= []} j=lsH g j:=by
        have:j=0∨j=1∨j=4:=by omega
        rcases this with rfl|rfl|rfl<;>rfl
       rw[hl]
       simp only[h2,h3,or_self,if_false]
       exact(HIH.out.rd j hj).keep (fun b hb=>(Yu (by have:=hb.1;omega) _ _ _ _ _ _ _ _ _ _).trans (oth b hb.2.2)) fun b hb=>⟨by have:=hb.1;omega,by simp[World.setCell,hz3];exact hb.2.1⟩
 intro hrest
 go_upto_region 5 with (first
  | (go_at_call 33;refine(HR.out _ ?_).mono ?_;rotate_left;rintro e wa ⟨rfl,hba⟩
     have bA:wa.heap[w.heap.size]? =some (.cells #[.int .u64 h.base,.int .i64 h.cap,.int .i64 h.to,.bool false,.int .i64 h.scan,src 0,src 1,src 2,src 3,src 4] 25 (0,0)):=(hba.block _ (by simp;omega)).trans ((Below.heap_alloc _ _ _ (by simp)).trans (heap_alloc_new w _))
     have bZ:wa.heap[w.heap.size+1]? =some (.cells Z4 25 (0,0)):=(hba.block _ (by simp)).trans (ZP w _)
     have ya: ∀j,wa.cell? ⟨w.heap.size,j,none⟩=(#[.int .u64 h.base,.int .i64 h.cap,.int .i64 h.to,.bool false,.int .i64 h.scan,src 0,src 1,src 2,src 3,src 4]:Array Value)[j]? :=fun j=>cell_of_row _ _ _ _ _ _ bA
     have HBA:=Lib.hid hba
     have HBZ:=Lib.hid (And.intro bA bZ)
     clear hba bA bZ))
 case refine_1=>exact((Below.refl _ w).alloc (Nat.le_refl _) _).alloc (by simp) _
 have hba:Below w.heap.size w wa:=Below.trans (((Below.refl _ w).alloc (Nat.le_refl _) _).alloc (by simp) _) (HBA.out.mono (by simp;omega))
 have hsa:w.heap.size+2≤wa.heap.size:=by have:=HBA.out.size;simp at this;omega
 have HWA:=Lib.hid hba
 clear hba HBA
 have HSW:=Lib.hid (fun(W:World) (hW:Below wa.heap.size wa W) (j:Nat) (hj:j<5)=>(HS.out j hj).keep (fun b hb'=>(hW.block b (by have:=hG b hb';omega)).trans (HWA.out.block b (hG b hb'))) fun _ q=>q)
 refine To [16,17,18,19,20,21,22,23,24,25,26,27,28,29,30,31,32,4] (FlC wa w.heap.size h src) follows (by kernel_rfl) ⟨fun _=>undef,by simp only[putF,putL,List.map_cons,List.map_nil,List.foldl_cons,List.foldl_nil,List.setIfInBounds_toArray,List.set_cons_succ,List.set_cons_zero],?_⟩ ?_ ?_
 ·exact⟨(Below.refl _ _).drew,fun i _ h=>(by cases h),fun i _ h=>(by cases h),fun h=>(by cases h),fun h=>(by cases h),fun h=>(by cases h),fun h=>(by cases h)⟩
 ·intro L i o v W ho hi hj C
  have HC:=Lib.hid C
  have hz:wa.heap.size≤W.heap.size:=C.b.size
  have ya: ∀j,W.cell? ⟨w.heap.size,j,none⟩=(#[.int .u64 h.base,.int .i64 h.cap,.int .i64 h.to,.bool false,.int .i64 h.scan,src 0,src 1,src 2,src 3,src 4]:Array Value)[j]? :=fun j=>(C.b.cell (p:=⟨w.heap.size,j,none⟩) (by show w.heap.size<wa.heap.size;omega)).trans (ya j)
  clear C
  have h19:i<19:=(Array.getElem?_eq_some_iff.1 ho).1
  simp only[putF,putL,List.map_cons,List.map_nil,List.foldl_cons,List.foldl_nil,List.setIfInBounds_toArray,List.set_cons_succ,List.set_cons_zero]
  have:i=0∨i=1∨i=2∨i=3∨i=4∨i=5∨i=6∨i=7∨i=8∨i=9∨i=10∨i=11∨i=12∨i=13∨i=14∨i=15∨i=16∨i=17∨i=18:=by omega
  rcases this with rfl|rfl|rfl|rfl|rfl|rfl|rfl|rfl|rfl|rfl|rfl|rfl|rfl|rfl|rfl|rfl|rfl|rfl|rfl
  ·cases ho
   go_wp2
   try simp only[QN]
   exact⟨setV v 16 (flEx w.heap.size h src 0),rfl,HC.out.pure (by unfold flS;omega) rfl rfl⟩
  ·cases ho
   have e0:=HC.out.eq 0 (by unfold flS;omega) (hj 0 (by decide))
   have E0:=Lib.hid e0
   simp only[flEx]at e0
   go_wp2
   try simp only[QN]
   exact⟨setV (setV v 16 (flEx w.heap.size h src 0)) 17 (flEx w.heap.size h src 1),rfl,(by rw[Zh E0.out];exact HC.out.pure (by unfold flS;omega) rfl rfl)⟩
  ·cases ho
   go_wp2
   try simp only[QN]
   exact⟨setV v 18 (flEx w.heap.size h src 2),rfl,HC.out.pure (by unfold flS;omega) rfl rfl⟩
  ·cases ho
   have e0:=HC.out.eq 2 (by unfold flS;omega) (hj 2 (by decide))
   have E0:=Lib.hid e0
   simp only[flEx]at e0
   go_wp2
   try simp only[QN]
   exact⟨setV (setV v 18 (flEx w.heap.size h src 2)) 19 (flEx w.heap.size h src 3),rfl,(by rw[Zh E0.out];exact HC.out.pure (by unfold flS;omega) rfl rfl)⟩
  ·cases ho
   go_wp2
   try simp only[QN]
   exact⟨setV v 20 (flEx w.heap.size h src 4),rfl,HC.out.pure (by unfold flS;omega) rfl rfl⟩
  ·cases ho
   have e0:=HC.out.eq 4 (by unfold flS;omega) (hj 4 (by decide))
   have E0:=Lib.hid e0
   simp only[flEx]at e0
   go_wp2
   try simp only[QN]
   exact⟨setV (setV v 20 (flEx w.heap.size h src 4)) 21 (flEx w.heap.size h src 5),rfl,(by rw[Zh E0.out];exact HC.out.pure (by unfold flS;omega) rfl rfl)⟩
  ·cases ho
   have e0:=HC.out.eq 5 (by unfold flS;omega) (hj 5 (by decide))
   have E0:=Lib.hid e0
   simp only[flEx]at e0
   go_wp2
   try simp only[QN]
   exact⟨setV (setV v 21 (flEx w.heap.size h src 5)) 22 (flEx w.heap.size h src 6),rfl,(by rw[Zh E0.out];exact HC.out.pure (by unfold flS;omega) rfl rfl)⟩
  ·cases ho
   go_wp2
   try simp only[QN]
   exact⟨setV v 23 (flEx w.heap.size h src 7),rfl,HC.out.pure (by unfold flS;omega) rfl rfl⟩
  ·cases ho
   have e0:=HC.out.eq 7 (by unfold flS;omega) (hj 7 (by decide))
   have E0:=Lib.hid e0
   simp only[flEx]at e0
   go_wp2
   try simp only[QN]
   exact⟨setV (setV v 23 (flEx w.heap.size h src 7)) 24 (flEx w.heap.size h src 8),rfl,(by rw[Zh E0.out];exact HC.out.pure (by unfold flS;omega) rfl rfl)⟩
  ·cases ho
   have e0:=HC.out.eq 8 (by unfold flS;omega) (hj 8 (by decide))
   have E0:=Lib.hid e0
   simp only[flEx]at e0
   go_wp2_with (go_at_call 38;refine(W8 _ (l:=h.low) (G:=G) HH.out.low (HSW.out _ HC.out.b 0 (by omega))).mono ?_;rintro e w9 ⟨y,rfl,hb9,hr9⟩;have HB9:=Lib.hid (And.intro hb9 hr9);clear hb9 hr9)
   try simp only[QN]
   exact⟨setV (setV v 24 (flEx w.heap.size h src 8)) 25 y,rfl,(by rw[Zh E0.out];exact HC.out.call (by unfold flR;omega) rfl HB9.out.1 HB9.out.2)⟩
  ·cases ho
   go_wp2
   try simp only[QN]
   exact⟨setV v 26 (flEx w.heap.size h src 10),rfl,HC.out.pure (by unfold flS;omega) rfl rfl⟩
  ·cases ho
   have e0:=HC.out.eq 10 (by unfold flS;omega) (hj 10 (by decide))
   have E0:=Lib.hid e0
   simp only[flEx]at e0
   go_wp2
   try simp only[QN]
   exact⟨setV (setV v 26 (flEx w.heap.size h src 10)) 27 (flEx w.heap.size h src 11),rfl,(by rw[Zh E0.out];exact HC.out.pure (by unfold flS;omega) rfl rfl)⟩
  ·cases ho
   have e0:=HC.out.eq 11 (by unfold flS;omega) (hj 11 (by decide))
   have E0:=Lib.hid e0
   simp only[flEx]at e0
   go_wp2_with (go_at_call 38;refine(W8 _ (l:=h.high) (G:=G) HH.out.high (HSW.out _ HC.out.b 1 (by omega))).mono ?_;rintro e w9 ⟨y,rfl,hb9,hr9⟩;have HB9:=Lib.hid (And.intro hb9 hr9);clear hb9 hr9)
   try simp only[QN]
   exact⟨setV (setV v 27 (flEx w.heap.size h src 11)) 28 y,rfl,(by rw[Zh E0.out];exact HC.out.call (by unfold flR;omega) rfl HB9.out.1 HB9.out.2)⟩
  ·cases ho
   go_wp2
   try simp only[QN]
   exact⟨setV v 29 (flEx w.heap.size h src 13),rfl,HC.out.pure (by unfold flS;omega) rfl rfl⟩
  ·cases ho
   have e0:=HC.out.eq 13 (by unfold flS;omega) (hj 13 (by decide))
   have E0:=Lib.hid e0
   simp only[flEx]at e0
   go_wp2
   try simp only[QN]
   exact⟨setV (setV v 29 (flEx w.heap.size h src 13)) 30 (flEx w.heap.size h src 14),rfl,(by rw[Zh E0.out];exact HC.out.pure (by unfold flS;omega) rfl rfl)⟩
  ·cases ho
   have e0:=HC.out.eq 14 (by unfold flS;omega) (hj 14 (by decide))
   have E0:=Lib.hid e0
   simp only[flEx]at e0
   go_wp2_with (go_at_call 38;refine(W8 _ (l:=h.roots) (G:=G) HH.out.roots (HSW.out _ HC.out.b 4 (by omega))).mono ?_;rintro e w9 ⟨y,rfl,hb9,hr9⟩;have HB9:=Lib.hid (And.intro hb9 hr9);clear hb9 hr9)
   try simp only[QN]
   exact⟨setV (setV v 30 (flEx w.heap.size h src 14)) 31 y,rfl,(by rw[Zh E0.out];exact HC.out.call (by unfold flR;omega) rfl HB9.out.1 HB9.out.2)⟩
  ·cases ho
   have e0:=HC.out.eq 1 (by unfold flS;omega) (hj 1 (by decide))
   have E0:=Lib.hid e0
   simp only[flEx]at e0
   have e1:=HC.out.eq 3 (by unfold flS;omega) (hj 3 (by decide))
   have E1:=Lib.hid e1
   simp only[flEx]at e1
   have e2:=HC.out.eq 6 (by unfold flS;omega) (hj 6 (by decide))
   have E2:=Lib.hid e2
   simp only[flEx]at e2
   obtain⟨a9,c9,f9⟩:=Rd.slfT (HC.out.rd 9 (by unfold flR;omega) (hj 9 (by decide)))
   rw[show(List.map vu (flX h 9)).length=h.low.length from List.length_map _]at f9
   simp only[Nat.reduceAdd]at f9
   have F9:=Lib.hid f9
   obtain⟨a12,c12,f12⟩:=Rd.slfT (HC.out.rd 12 (by unfold flR;omega) (hj 12 (by decide)))
   rw[show(List.map vu (flX h 12)).length=h.high.length from List.length_map _]at f12
   simp only[Nat.reduceAdd]at f12
   have F12:=Lib.hid f12
   obtain⟨a15,c15,f15⟩:=Rd.slfT (HC.out.rd 15 (by unfold flR;omega) (hj 15 (by decide)))
   rw[show(List.map vu (flX h 15)).length=h.roots.length from List.length_map _]at f15
   simp only[Nat.reduceAdd]at f15
   have F15:=Lib.hid f15
   go_wp2
   try simp only[QN]
   refine⟨setV (setV (setV (setV (setV (setV (setV v 17 (flEx w.heap.size h src 1)) 19 (flEx w.heap.size h src 3)) 22 (flEx w.heap.size h src 6)) 25 (.slice a9 h.low.length c9)) 28 (.slice a12 h.high.length c12)) 31 (.slice a15 h.roots.length c15)) 32 (.agg #[.int .u64 h.base,.int .i64 h.cap,.int .i64 (1-h.to),.bool false,.int .i64 0,.slice none 0 0,.slice none 0 0,.slice a9 h.low.length c9,.slice a12 h.high.length c12,.slice a15 h.roots.length c15]),rfl,?_⟩
   rw[Zh (v:=v) E0.out,Zh (v:=v) E1.out,Zh (v:=v) E2.out,Zh (v:=v) F9.out,Zh (v:=v) F12.out,Zh (v:=v) F15.out]
   have hx:((.agg #[.int .u64 h.base,.int .i64 h.cap,.int .i64 (1-h.to),.bool false,.int .i64 0,.slice none 0 0,.slice none 0 0,.slice a9 h.low.length c9,.slice a12 h.high.length c12,.slice a15 h.roots.length c15]):Value)= .agg (flA h fun i=>v (16+i)):=by
    unfold flA
    simp only[Nat.reduceAdd]
    rw[F9.out,F12.out,F15.out]
   rw[hx]
   exact HC.out.built (hj 9 (by decide)) (hj 12 (by decide)) (hj 15 (by decide))
  ·cases ho
   go_wp2
   try simp only[QN]
   exact⟨setV v 4 (.pointer (some ⟨W.heap.size,0,none⟩)),rfl,HC.out.alloc hi⟩
  ·cases ho
   obtain⟨c,e4,hc1,hc2,hc3⟩:=HC.out.new (hj 17 (by decide))
   obtain⟨y,e32,hy⟩:=HC.out.agg (hj 16 (by decide))
   have hc3:=hc3 hi
   have y4: ∀j,W.cell? ⟨c,j,none⟩=Z4[j]? :=fun j=>cell_of_row _ _ _ _ _ _ hc3
   unfold Z4 at y4
   have y5: ∀j,W.frozen? ⟨c,j,none⟩=false:=fun j=>Za hc3
   have H3:=Lib.hid hc3
   have E4:=Lib.hid e4
   have E32:=Lib.hid e32
   obtain⟨a9,c9,f9⟩:=Rd.slfT (hy 9 (by unfold flR;omega))
   obtain⟨a12,c12,f12⟩:=Rd.slfT (hy 12 (by unfold flR;omega))
   obtain⟨a15,c15,f15⟩:=Rd.slfT (hy 15 (by unfold flR;omega))
   rw[show(List.map vu (flX h 9)).length=h.low.length from List.length_map _]at f9
   rw[show(List.map vu (flX h 12)).length=h.high.length from List.length_map _]at f12
   rw[show(List.map vu (flX h 15)).length=h.roots.length from List.length_map _]at f15
   have hfl:flA h y= #[.int .u64 h.base,.int .i64 h.cap,.int .i64 (1-h.to),.bool false,.int .i64 0,.slice none 0 0,.slice none 0 0,.slice a9 h.low.length c9,.slice a12 h.high.length c12,.slice a15 h.roots.length c15]:=by
    unfold flA
    rw[f9,f12,f15]
   rw[hfl]at e32
   have HFL:=Lib.hid (And.intro hfl e32)
   clear hc3 hy f9 f12 f15 hfl
   go_wp2
   try simp only[QN]
   refine⟨setV (setV v 4 (.pointer (some ⟨c,0,none⟩))) 32 (.agg #[.int .u64 h.base,.int .i64 h.cap,.int .i64 (1-h.to),.bool false,.int .i64 0,.slice none 0 0,.slice none 0 0,.slice a9 h.low.length c9,.slice a12 h.high.length c12,.slice a15 h.roots.length c15]),rfl,?_⟩
   rw[Zh (v:=v) E4.out,Zh HFL.out.2]
   refine HC.out.store E4.out E32.out (hj 17 (by decide)) (hj 16 (by decide)) hi H3.out (fun b hb=> ?_) ?_ ?_ ?_
   ·exact Yu hb _ _ _ _ _ _ _ _ _ _
   ·simp[World.setCell]
   ·rw[HFL.out.1];exact S1 H3.out _ _ _ _ _ _ _ _ _ _
   ·exact Zi (Below.refl _ _) hc1 _ _ _ _ _ _ _ _ _ _
 ·intro L v W hL C
  obtain⟨c,y,e4,hc1,hcb,hy⟩:=C.put (hL 18 (by decide))
  have HCB:=Lib.hid C.b
  have HY:=Lib.hid (And.intro hcb hy)
  have HRS:=Lib.hid hrest
  have H17:=Lib.hid (And.intro (hL 17 (by decide)) e4)
  clear C hcb hy hL hrest
  simp only[putF,putL,List.map_cons,List.map_nil,List.foldl_cons,List.foldl_nil,List.setIfInBounds_toArray,List.set_cons_succ,List.set_cons_zero]
  go_wp2
  go_step3
  simp only[Exit.then]
  rename_i hKK
  refine hKK _ _ (HRS.out _ _ ?_)
  refine⟨c,0,fun j=>if j=2 then y 9 else if j=3 then y 12 else if j=4 then y 15 else .slice none 0 0,rfl,rfl,rfl,H17.out.2,rfl,Nat.zero_le _,?_⟩
  have hsz:=HCB.out.size
  have hG: ∀b,flG wa W L v b→w.heap.size+2≤b∧b<W.heap.size∧b≠c:=fun b hb=>⟨by have:=hb.1;omega,hb.2.1,fun e=>hb.2.2 H17.out.1 (by rw[e];exact H17.out.2)⟩
  refine⟨HWA.out.trans (HCB.out.mono (by omega)),(HCB.out.block _ (by omega)).trans HBZ.out.2,by omega,HY.out.1,fun j hj=> ?_⟩
  have:j=0∨j=1∨j=2∨j=3∨j=4:=by omega
  rcases this with rfl|rfl|rfl|rfl|rfl
  ·exact .nil _ _ (by unfold maxLen;omega)
  ·exact .nil _ _ (by unfold maxLen;omega)
  ·exact(HY.out.2 9 (by unfold flR;omega)).mono hG
  ·exact(HY.out.2 12 (by unfold flR;omega)).mono hG
  ·exact(HY.out.2 15 (by unfold flR;omega)).mono hG
end Vm
end
section
namespace Vm
open Go
open Go.Proofs
set_option maxRecDepth 100000
def p3:Fn:=⟨24,[0,1,2,3,4,5,6,10,11,12,13,25,14,15,67,66,68,17,65,18,19,20,21,97],
(.seq
(.reg ⟨[],[],[(5,.m [(.fld (.sz (.s 0) 10) 0),(.fld (.sz (.s 0) 10) 1),(.fld (.sz (.s 0) 10) 2),(.fld (.sz (.s 0) 10) 3),(.fld (.sz (.s 0) 10) 4),(.fld (.sz (.s 0) 10) 5),(.fld (.sz (.s 0) 10) 6),(.fld (.sz (.s 0) 10) 7),(.fld (.sz (.s 0) 10) 8),(.fld (.sz (.s 0) 10) 9)]),(6,.m [(.fld (.sz (.s 1) 7) 0),(.fld (.sz (.s 1) 7) 1),(.fld (.sz (.s 1) 7) 2),(.fld (.sz (.s 1) 7) 3),(.fld (.sz (.s 1) 7) 4),(.fld (.sz (.s 1) 7) 5),(.fld (.sz (.s 1) 7) 6)]),(7,.v (.c (.bool false)))]⟩)
(.seq
(.reg ⟨[.call 24 [] (.id 11) false false []],[],[(8,.v (.s 24))]⟩)
(.seq
(.reg ⟨[],[],[(9,.m [(.fld (.mm 5 0 10) 0),(.fld (.mm 5 0 10) 1),(.fld (.mm 5 0 10) 2),(.fld (.mm 5 0 10) 3),(.fld (.mm 5 0 10) 4),(.fld (.mm 5 0 10) 5),(.fld (.mm 5 0 10) 6),(.fld (.mm 5 0 10) 7),(.fld (.mm 5 0 10) 8),(.fld (.mm 5 0 10) 9)])]⟩)
(.seq
(.seq
(.reg ⟨[],[],[(10,.v (.c (.int .i64 (1))))]⟩)
(.block 0
 (.loop [0,1,2,3,4,5,6,7,8,9,10]
  (.seq
  (.seq
  (.reg ⟨[],[],[(11,.v (.bin .leq (.s 10) (.c (.int .i64 (4)))))]⟩)
  (.cond (.s 11)
   .skip
   (.exit 0)))
  (.seq
  (.block 1
   (.reg ⟨[.call 25 [] (.id 13) false false [(.mm 9 0 10),(.s 10)],.call 26 [] (.id 13) false false [(.mm 9 0 10),(.s 10)],.call 27 [] (.id 12) false false [(.mm 9 0 10),(.s 10),(.slc (.s 25) (.c (.int .i64 (0))) (.mn (.len (.s 26)) (.c (.int .i64 (12)))) 1)]],[],[(9,.m [(.fld (.sz (.s 27) 10) 0),(.fld (.sz (.s 27) 10) 1),(.fld (.sz (.s 27) 10) 2),(.fld (.sz (.s 27) 10) 3),(.fld (.sz (.s 27) 10) 4),(.fld (.sz (.s 27) 10) 5),(.fld (.sz (.s 27) 10) 6),(.fld (.sz (.s 27) 10) 7),(.fld (.sz (.s 27) 10) 8),(.fld (.sz (.s 27) 10) 9)])]⟩))
  (.reg ⟨[],[],[(10,.v (.bin .add (.s 10) (.c (.int .i64 (1)))))]⟩))))))
(.seq
(.reg ⟨[],[],[(9,.m [(.m 9 0),(.m 9 1),(.m 9 2),(.m 9 3),(.m 9 4),(.m 9 5),(.m 9 6),(.m 9 7),(.m 9 8),(.slc (.m 5 9) (.c (.int .i64 (0))) (.mn (.len (.m 5 9)) (.c (.int .i64 (20)))) 1)])]⟩)
(.seq
(.reg ⟨[.call 28 [] (.id 14) false false [(.mm 6 0 7)]],[],[(12,.m [(.fld (.sz (.s 28) 10) 0),(.fld (.sz (.s 28) 10) 1),(.fld (.sz (.s 28) 10) 2),(.fld (.sz (.s 28) 10) 3),(.fld (.sz (.s 28) 10) 4),(.fld (.sz (.s 28) 10) 5),(.fld (.sz (.s 28) 10) 6),(.fld (.sz (.s 28) 10) 7),(.fld (.sz (.s 28) 10) 8),(.fld (.sz (.s 28) 10) 9)])]⟩)
(.seq
(.reg ⟨[.call 29 [] (.id 15) false false [(.mm 6 0 7)]],[],[(13,.m [(.fld (.sz (.s 29) 10) 0),(.fld (.sz (.s 29) 10) 1),(.fld (.sz (.s 29) 10) 2),(.fld (.sz (.s 29) 10) 3),(.fld (.sz (.s 29) 10) 4),(.fld (.sz (.s 29) 10) 5),(.fld (.sz (.s 29) 10) 6),(.fld (.sz (.s 29) 10) 7),(.fld (.sz (.s 29) 10) 8),(.fld (.sz (.s 29) 10) 9)])]⟩)
(.seq
(.seq
(.reg ⟨[.call 30 [] (.id 16) false false [(.mm 12 0 10),(.s 2),(.s 3),(.s 4)],.call 31 [] (.id 16) false false [(.mm 13 0 10),(.s 2),(.s 3),(.s 4)]],[],[(14,.v (.c (.int .i64 (0)))),(15,.v (.len (.lit [(.mm 9 0 10),(.mm 12 0 10),(.mm 13 0 10),(.sz (.s 30) 10),(.sz (.s 31) 10)]))),(18,.v (.lit [(.mm 9 0 10),(.mm 12 0 10),(.mm 13 0 10),(.sz (.s 30) 10),(.sz (.s 31) 10)]))]⟩)
(.block 2
 (.loop [0,1,2,3,4,5,6,7,8,9,10,11,12,13,14,15,18]
  (.seq
  (.reg ⟨[],[],[(16,.v (.bin .lss (.s 14) (.s 15)))]⟩)
  (.seq
  (.cond (.s 16)
   .skip
   (.exit 2))
  (.seq
  (.block 3
   (.seq
   (.reg ⟨[],[],[(17,.m [(.fld (.flds (.idx (.s 18) (.s 14) 10) 0 10) 0),(.fld (.flds (.idx (.s 18) (.s 14) 10) 0 10) 1),(.fld (.flds (.idx (.s 18) (.s 14) 10) 0 10) 2),(.fld (.flds (.idx (.s 18) (.s 14) 10) 0 10) 3),(.fld (.flds (.idx (.s 18) (.s 14) 10) 0 10) 4),(.fld (.flds (.idx (.s 18) (.s 14) 10) 0 10) 5),(.fld (.flds (.idx (.s 18) (.s 14) 10) 0 10) 6),(.fld (.flds (.idx (.s 18) (.s 14) 10) 0 10) 7),(.fld (.flds (.idx (.s 18) (.s 14) 10) 0 10) 8),(.fld (.flds (.idx (.s 18) (.s 14) 10) 0 10) 9)])]⟩)
   (.seq
   (.reg ⟨[.call 32 [] (.id 17) false false [(.mm 17 0 10)]],[],[(19,.m [(.fld (.sz (.ext (.s 32) 0) 10) 0),(.fld (.sz (.ext (.s 32) 0) 10) 1),(.fld (.sz (.ext (.s 32) 0) 10) 2),(.fld (.sz (.ext (.s 32) 0) 10) 3),(.fld (.sz (.ext (.s 32) 0) 10) 4),(.fld (.sz (.ext (.s 32) 0) 10) 5),(.fld (.sz (.ext (.s 32) 0) 10) 6),(.fld (.sz (.ext (.s 32) 0) 10) 7),(.fld (.sz (.ext (.s 32) 0) 10) 8),(.fld (.sz (.ext (.s 32) 0) 10) 9)]),(20,.v (.ext (.s 32) 1))]⟩)
   (.seq
   (.reg ⟨[.call 33 [] (.id 18) false false [(.mm 17 0 10)]],[],[(21,.m [(.fld (.sz (.ext (.s 33) 0) 10) 0),(.fld (.sz (.ext (.s 33) 0) 10) 1),(.fld (.sz (.ext (.s 33) 0) 10) 2),(.fld (.sz (.ext (.s 33) 0) 10) 3),(.fld (.sz (.ext (.s 33) 0) 10) 4),(.fld (.sz (.ext (.s 33) 0) 10) 5),(.fld (.sz (.ext (.s 33) 0) 10) 6),(.fld (.sz (.ext (.s 33) 0) 10) 7),(.fld (.sz (.ext (.s 33) 0) 10) 8),(.fld (.sz (.ext (.s 33) 0) 10) 9)]),(22,.v (.ext (.s 33) 1))]⟩)
   (.seq
   (.reg ⟨[.lt 34 [] (.bin .neq (.s 20) (.s 22)),.call 35 [(34,false)] (.id 19) false false [(.mm 19 0 10),(.mm 21 0 10)],.lt 36 [] (.ite (.s 34) (.c (.bool true)) (.un .not (.s 35))),.call 37 [(36,false)] (.id 20) false false [(.mm 17 0 10)],.call 38 [(36,false)] (.id 21) false false [(.mm 17 0 10)],.call 39 [(36,false)] (.id 19) false false [(.s 37),(.s 38)]],[([(34,false)],(.un .not (.s 35))),([(36,false)],(.un .not (.s 39)))],[(23,.v (.ite (.s 36) (.c (.bool true)) (.un .not (.s 39))))]⟩)
   (.cond (.s 23)
    (.seq
    (.reg ⟨[],[],[(7,.v (.c (.bool false)))]⟩)
    .ret)
    .skip))))))
  (.reg ⟨[],[],[(14,.v (.bin .add (.s 14) (.c (.int .i64 (1)))))]⟩)))))))
(.seq
(.reg ⟨[],[],[(7,.v (.s 8))]⟩)
.ret))))))))),
[(7,.v)]⟩
theorem c3:Zb Try.prog fresh sig [.fz,.fz,.fz,.fz,.fz] [] Try.f3=some p3:=by kernel_rfl
def p4:Fn:=⟨14,[0,1,2,3,4,5,6,27,7,32,47,8,50,75],
(.seq
(.reg ⟨[],[],[(1,.m [(.fld (.sz (.s 0) 7) 0),(.fld (.sz (.s 0) 7) 1),(.fld (.sz (.s 0) 7) 2),(.fld (.sz (.s 0) 7) 3),(.fld (.sz (.s 0) 7) 4),(.fld (.sz (.s 0) 7) 5),(.fld (.sz (.s 0) 7) 6)]),(2,.v (.c (.bool false)))]⟩)
(.seq
(.reg ⟨[.call 14 [] (.id 11) false false []],[],[(3,.v (.s 14))]⟩)
(.seq
(.reg ⟨[.call 15 [] (.id 15) false false [(.mm 1 0 7)]],[],[(4,.m [(.fld (.sz (.s 15) 10) 0),(.fld (.sz (.s 15) 10) 1),(.fld (.sz (.s 15) 10) 2),(.fld (.sz (.s 15) 10) 3),(.fld (.sz (.s 15) 10) 4),(.fld (.sz (.s 15) 10) 5),(.fld (.sz (.s 15) 10) 6),(.fld (.sz (.s 15) 10) 7),(.fld (.sz (.s 15) 10) 8),(.fld (.sz (.s 15) 10) 9)])]⟩)
(.seq
(.reg ⟨[.call 16 [] (.id 17) false false [(.mm 4 0 10)]],[],[(5,.m [(.fld (.sz (.ext (.s 16) 0) 10) 0),(.fld (.sz (.ext (.s 16) 0) 10) 1),(.fld (.sz (.ext (.s 16) 0) 10) 2),(.fld (.sz (.ext (.s 16) 0) 10) 3),(.fld (.sz (.ext (.s 16) 0) 10) 4),(.fld (.sz (.ext (.s 16) 0) 10) 5),(.fld (.sz (.ext (.s 16) 0) 10) 6),(.fld (.sz (.ext (.s 16) 0) 10) 7),(.fld (.sz (.ext (.s 16) 0) 10) 8),(.fld (.sz (.ext (.s 16) 0) 10) 9)]),(6,.v (.ext (.s 16) 1))]⟩)
(.seq
(.seq
(.reg ⟨[.lt 17 [] (.bin .neq (.s 6) (.c (.int .i64 (0))))],[([(17,false)],(.bin .neq (.len (.m 5 9)) (.len (.m 4 9))))],[(7,.v (.ite (.s 17) (.c (.bool true)) (.bin .neq (.len (.m 5 9)) (.len (.m 4 9)))))]⟩)
(.cond (.s 7)
 (.seq
 (.reg ⟨[],[],[(2,.v (.c (.bool false)))]⟩)
 .ret)
 .skip))
(.seq
(.seq
(.reg ⟨[],[],[(8,.v (.c (.int .i64 (0))))]⟩)
(.block 0
 (.loop [0,1,2,3,4,5,6,7,8]
  (.seq
  (.seq
  (.reg ⟨[],[],[(9,.v (.bin .lss (.s 8) (.len (.m 4 9))))]⟩)
  (.cond (.s 9)
   .skip
   (.exit 0)))
  (.seq
  (.block 1
   (.seq
   (.seq
   (.reg ⟨[],[],[(10,.v (.eqv true (.bin .eql (.fld (.idx (.m 5 9) (.s 8) 1) 0) (.c (.int .u64 (0)))) (.bin .eql (.fld (.idx (.m 4 9) (.s 8) 1) 0) (.c (.int .u64 (0))))))]⟩)
   (.cond (.s 10)
    (.seq
    (.reg ⟨[],[],[(2,.v (.c (.bool false)))]⟩)
    .ret)
    .skip))
   (.seq
   (.reg ⟨[],[],[(11,.v (.c (.int .i64 (0))))]⟩)
   (.block 2
    (.loop [0,1,2,3,4,5,6,7,8,9,10,11]
     (.seq
     (.seq
     (.reg ⟨[],[],[(12,.v (.bin .lss (.s 11) (.s 8)))]⟩)
     (.cond (.s 12)
      .skip
      (.exit 2)))
     (.seq
     (.block 3
      (.seq
      (.reg ⟨[],[],[(13,.v (.eqv true (.bin .eql (.fld (.idx (.m 5 9) (.s 8) 1) 0) (.fld (.idx (.m 5 9) (.s 11) 1) 0)) (.bin .eql (.fld (.idx (.m 4 9) (.s 8) 1) 0) (.fld (.idx (.m 4 9) (.s 11) 1) 0))))]⟩)
      (.cond (.s 13)
       (.seq
       (.reg ⟨[],[],[(2,.v (.c (.bool false)))]⟩)
       .ret)
       .skip)))
     (.reg ⟨[],[],[(11,.v (.bin .add (.s 11) (.c (.int .i64 (1)))))]⟩))))))))
  (.reg ⟨[],[],[(8,.v (.bin .add (.s 8) (.c (.int .i64 (1)))))]⟩))))))
(.seq
(.reg ⟨[],[],[(2,.v (.s 3))]⟩)
.ret))))))),
[(2,.v)]⟩
theorem c4:Zb Try.prog fresh sig [.fz] [] Try.f4=some p4:=by kernel_rfl
def p5:Fn:=⟨26,[0,1,2,3,4,5,6,7,61,8,9,68,71,101,10,103,11,12,13,14,120,15,124,16,151,180],
(.seq
(.reg ⟨[],[],[(1,.m [(.fld (.sz (.s 0) 7) 0),(.fld (.sz (.s 0) 7) 1),(.fld (.sz (.s 0) 7) 2),(.fld (.sz (.s 0) 7) 3),(.fld (.sz (.s 0) 7) 4),(.fld (.sz (.s 0) 7) 5),(.fld (.sz (.s 0) 7) 6)]),(2,.v (.c (.bool false)))]⟩)
(.seq
(.reg ⟨[.call 26 [] (.id 11) false false []],[],[(3,.v (.s 26))]⟩)
(.seq
(.reg ⟨[.call 27 [] (.id 15) false false [(.mm 1 0 7)]],[],[(4,.m [(.fld (.sz (.s 27) 10) 0),(.fld (.sz (.s 27) 10) 1),(.fld (.sz (.s 27) 10) 2),(.fld (.sz (.s 27) 10) 3),(.fld (.sz (.s 27) 10) 4),(.fld (.sz (.s 27) 10) 5),(.fld (.sz (.s 27) 10) 6),(.fld (.sz (.s 27) 10) 7),(.fld (.sz (.s 27) 10) 8),(.fld (.sz (.s 27) 10) 9)])]⟩)
(.seq
(.reg ⟨[],[],[(5,.m [(.fld (.mm 4 0 10) 0),(.fld (.mm 4 0 10) 1),(.fld (.mm 4 0 10) 2),(.fld (.mm 4 0 10) 3),(.fld (.mm 4 0 10) 4),(.fld (.mm 4 0 10) 5),(.fld (.mm 4 0 10) 6),(.fld (.mm 4 0 10) 7),(.fld (.mm 4 0 10) 8),(.fld (.mm 4 0 10) 9)])]⟩)
(.seq
(.reg ⟨[],[],[(5,.m [(.m 5 0),(.m 5 1),(.m 5 2),(.m 5 3),(.m 5 4),(.m 5 5),(.m 5 6),(.m 5 7),(.m 5 8),(.mk (.int .u64 (0)) (.len (.m 4 9)))])]⟩)
(.seq
(.reg ⟨[.call 28 [] (.id 17) false false [(.mm 5 0 10)]],[],[(6,.m [(.fld (.sz (.ext (.s 28) 0) 10) 0),(.fld (.sz (.ext (.s 28) 0) 10) 1),(.fld (.sz (.ext (.s 28) 0) 10) 2),(.fld (.sz (.ext (.s 28) 0) 10) 3),(.fld (.sz (.ext (.s 28) 0) 10) 4),(.fld (.sz (.ext (.s 28) 0) 10) 5),(.fld (.sz (.ext (.s 28) 0) 10) 6),(.fld (.sz (.ext (.s 28) 0) 10) 7),(.fld (.sz (.ext (.s 28) 0) 10) 8),(.fld (.sz (.ext (.s 28) 0) 10) 9)]),(7,.v (.fl (.ext (.s 28) 1)))]⟩)
(.seq
(.seq
(.reg ⟨[.lt 29 [] (.bin .neq (.s 7) (.c (.int .i64 (0)))),.lt 30 [] (.ite (.s 29) (.c (.bool true)) (.m 6 3)),.lt 31 [] (.ite (.s 30) (.c (.bool true)) (.bin .neq (.bin .add (.bin .add (.bin .add (.len (.m 6 5)) (.len (.m 6 6))) (.len (.m 6 7))) (.len (.m 6 8))) (.c (.int .i64 (0))))),.call 32 [(31,false)] (.id 20) false false [(.mm 6 0 10)],.call 33 [(31,false)] (.id 19) false false [(.s 32),(.mm 6 0 10)]],[([(29,false)],(.m 6 3)),([(30,false)],(.bin .neq (.bin .add (.bin .add (.bin .add (.len (.m 6 5)) (.len (.m 6 6))) (.len (.m 6 7))) (.len (.m 6 8))) (.c (.int .i64 (0))))),([(31,false)],(.un .not (.s 33)))],[(8,.v (.ite (.s 31) (.c (.bool true)) (.un .not (.s 33))))]⟩)
(.cond (.s 8)
 (.seq
 (.reg ⟨[],[],[(2,.v (.c (.bool false)))]⟩)
 .ret)
 .skip))
(.seq
(.reg ⟨[.call 34 [] (.id 17) false false [(.mm 4 0 10)]],[],[(9,.m [(.fld (.sz (.ext (.s 34) 0) 10) 0),(.fld (.sz (.ext (.s 34) 0) 10) 1),(.fld (.sz (.ext (.s 34) 0) 10) 2),(.fld (.sz (.ext (.s 34) 0) 10) 3),(.fld (.sz (.ext (.s 34) 0) 10) 4),(.fld (.sz (.ext (.s 34) 0) 10) 5),(.fld (.sz (.ext (.s 34) 0) 10) 6),(.fld (.sz (.ext (.s 34) 0) 10) 7),(.fld (.sz (.ext (.s 34) 0) 10) 8),(.fld (.sz (.ext (.s 34) 0) 10) 9)]),(10,.v (.ext (.s 34) 1))]⟩)
(.seq
(.seq
(.reg ⟨[],[],[(11,.v (.bin .neq (.s 10) (.c (.int .i64 (0)))))]⟩)
(.cond (.s 11)
 (.seq
 (.reg ⟨[],[],[(2,.v (.c (.bool false)))]⟩)
 .ret)
 .skip))
(.seq
(.seq
(.reg ⟨[],[],[(12,.v (.un .not (.m 9 3)))]⟩)
(.cond (.s 12)
 (.seq
 (.reg ⟨[.lt 35 [] (.s 3),.call 36 [(35,true)] (.id 20) false false [(.mm 9 0 10)],.call 37 [(35,true)] (.id 19) false false [(.s 36),(.mm 9 0 10)]],[],[(2,.v (.ite (.s 35) (.s 37) (.c (.bool false))))]⟩)
 .ret)
 .skip))
(.seq
(.seq
(.reg ⟨[.lt 38 [] (.bin .neq (.len (.m 9 7)) (.len (.m 4 5))),.lt 39 [] (.ite (.s 38) (.c (.bool true)) (.bin .neq (.len (.m 9 8)) (.len (.m 4 6)))),.call 40 [(39,false)] (.id 20) false false [(.mm 9 0 10)],.call 41 [(39,false)] (.id 19) false false [(.s 40),(.ag [(.c (.int .u64 (0))),(.c (.int .i64 (0))),(.c (.int .i64 (0))),(.c (.bool false)),(.c (.int .i64 (0))),(.c (.sl [])),(.c (.sl [])),(.c (.sl [])),(.c (.sl [])),(.c (.sl []))])]],[([(38,false)],(.bin .neq (.len (.m 9 8)) (.len (.m 4 6)))),([(39,false)],(.un .not (.s 41)))],[(13,.v (.ite (.s 39) (.c (.bool true)) (.un .not (.s 41))))]⟩)
(.cond (.s 13)
 (.seq
 (.reg ⟨[],[],[(2,.v (.c (.bool false)))]⟩)
 .ret)
 .skip))
(.seq
(.seq
(.reg ⟨[],[],[(14,.v (.c (.int .i64 (3))))]⟩)
(.block 0
 (.loop [0,1,2,3,4,5,6,7,8,9,10,11,12,13,14]
  (.seq
  (.seq
  (.reg ⟨[],[],[(15,.v (.bin .leq (.s 14) (.c (.int .i64 (4)))))]⟩)
  (.cond (.s 15)
   .skip
   (.exit 0)))
  (.seq
  (.block 1
   (.seq
   (.reg ⟨[.call 42 [] (.id 22) false false [(.mm 9 0 10),(.s 14)]],[],[(16,.v (.ext (.s 42) 0)),(17,.v (.ext (.s 42) 1))]⟩)
   (.seq
   (.reg ⟨[.call 43 [] (.id 13) false false [(.mm 4 0 10),(.bin .sub (.s 14) (.c (.int .i64 (2))))]],[],[(18,.v (.s 43))]⟩)
   (.seq
   (.reg ⟨[.call 44 [] (.id 13) false false [(.mm 9 0 10),(.s 14)]],[],[(19,.v (.s 44))]⟩)
   (.seq
   (.seq
   (.reg ⟨[],[],[(20,.v (.bin .neq (.s 17) (.c (.int .i64 (0)))))]⟩)
   (.cond (.s 20)
    (.seq
    (.reg ⟨[],[],[(2,.v (.c (.bool false)))]⟩)
    .ret)
    .skip))
   (.seq
   (.reg ⟨[],[],[(21,.v (.c (.int .i64 (0))))]⟩)
   (.block 2
    (.loop [0,1,2,3,4,5,6,7,8,9,10,11,12,13,14,15,16,17,18,19,20,21]
     (.seq
     (.seq
     (.reg ⟨[],[],[(22,.v (.bin .lss (.s 21) (.len (.s 16))))]⟩)
     (.cond (.s 22)
      .skip
      (.exit 2)))
     (.seq
     (.block 3
      (.seq
      (.reg ⟨[],[],[(23,.m [(.fld (.flds (.idx (.s 16) (.s 21) 5) 0 5) 0),(.fld (.flds (.idx (.s 16) (.s 21) 5) 0 5) 1),(.fld (.flds (.idx (.s 16) (.s 21) 5) 0 5) 2),(.fld (.flds (.idx (.s 16) (.s 21) 5) 0 5) 3),(.fld (.flds (.idx (.s 16) (.s 21) 5) 0 5) 4)])]⟩)
      (.seq
      (.seq
      (.reg ⟨[.lt 45 [] (.bin .lss (.m 23 0) (.c (.int .i64 (0)))),.lt 46 [] (.ite (.s 45) (.c (.bool true)) (.bin .lss (.m 23 1) (.c (.int .i64 (0)))))],[([(45,false)],(.bin .lss (.m 23 1) (.c (.int .i64 (0))))),([(46,false)],(.bin .gtr (.bin .add (.bin .add (.m 23 0) (.c (.int .i64 (1)))) (.m 23 1)) (.len (.s 18))))],[(24,.v (.ite (.s 46) (.c (.bool true)) (.bin .gtr (.bin .add (.bin .add (.m 23 0) (.c (.int .i64 (1)))) (.m 23 1)) (.len (.s 18)))))]⟩)
      (.cond (.s 24)
       (.seq
       (.reg ⟨[],[],[(2,.v (.c (.bool false)))]⟩)
       .ret)
       .skip))
      (.seq
      (.reg ⟨[.lt 47 [] (.un .not (.m 23 3)),.call 48 [(47,true)] (.id 23) false false [(.slc (.s 18) (.m 23 0) (.bin .add (.bin .add (.m 23 0) (.c (.int .i64 (1)))) (.m 23 1)) 1),(.slc (.s 19) (.m 23 0) (.bin .add (.bin .add (.m 23 0) (.c (.int .i64 (1)))) (.m 23 1)) 1)]],[([(47,true)],(.un .not (.s 48)))],[(25,.v (.ite (.s 47) (.un .not (.s 48)) (.c (.bool false))))]⟩)
      (.cond (.s 25)
       (.seq
       (.reg ⟨[],[],[(2,.v (.c (.bool false)))]⟩)
       .ret)
       .skip)))))
     (.reg ⟨[],[],[(21,.v (.bin .add (.s 21) (.c (.int .i64 (1)))))]⟩)))))))))))
  (.reg ⟨[],[],[(14,.v (.bin .add (.s 14) (.c (.int .i64 (1)))))]⟩))))))
(.seq
(.reg ⟨[],[],[(2,.v (.s 3))]⟩)
.ret))))))))))))),
[(2,.v)]⟩
theorem c5:Zb Try.prog fresh sig [.fz] [] Try.f5=some p5:=by kernel_rfl
def p6:Fn:=⟨10,[0,1,2,3,4,5,6,17,7,27],
(.seq
(.reg ⟨[],[],[(1,.m [(.fld (.sz (.s 0) 7) 0),(.fld (.sz (.s 0) 7) 1),(.fld (.sz (.s 0) 7) 2),(.fld (.sz (.s 0) 7) 3),(.fld (.sz (.s 0) 7) 4),(.fld (.sz (.s 0) 7) 5),(.fld (.sz (.s 0) 7) 6)]),(2,.v (.c (.bool false)))]⟩)
(.seq
(.reg ⟨[.call 10 [] (.id 11) false false []],[],[(3,.v (.s 10))]⟩)
(.seq
(.reg ⟨[.call 11 [] (.id 15) false false [(.mm 1 0 7)]],[],[(4,.m [(.fld (.sz (.s 11) 10) 0),(.fld (.sz (.s 11) 10) 1),(.fld (.sz (.s 11) 10) 2),(.fld (.sz (.s 11) 10) 3),(.fld (.sz (.s 11) 10) 4),(.fld (.sz (.s 11) 10) 5),(.fld (.sz (.s 11) 10) 6),(.fld (.sz (.s 11) 10) 7),(.fld (.sz (.s 11) 10) 8),(.fld (.sz (.s 11) 10) 9)])]⟩)
(.seq
(.reg ⟨[.call 12 [] (.id 17) false false [(.mm 4 0 10)]],[],[(5,.m [(.fld (.sz (.ext (.s 12) 0) 10) 0),(.fld (.sz (.ext (.s 12) 0) 10) 1),(.fld (.sz (.ext (.s 12) 0) 10) 2),(.fld (.sz (.ext (.s 12) 0) 10) 3),(.fld (.sz (.ext (.s 12) 0) 10) 4),(.fld (.sz (.ext (.s 12) 0) 10) 5),(.fld (.sz (.ext (.s 12) 0) 10) 6),(.fld (.sz (.ext (.s 12) 0) 10) 7),(.fld (.sz (.ext (.s 12) 0) 10) 8),(.fld (.sz (.ext (.s 12) 0) 10) 9)]),(6,.v (.ext (.s 12) 1))]⟩)
(.seq
(.seq
(.reg ⟨[],[],[(7,.v (.bin .neq (.s 6) (.c (.int .i64 (0)))))]⟩)
(.cond (.s 7)
 (.seq
 (.reg ⟨[],[],[(2,.v (.c (.bool false)))]⟩)
 .ret)
 .skip))
(.seq
(.reg ⟨[],[],[(8,.v (.bin .add (.len (.m 4 5)) (.len (.m 4 6))))]⟩)
(.seq
(.seq
(.reg ⟨[],[],[(9,.v (.un .not (.m 5 3)))]⟩)
(.cond (.s 9)
 (.seq
 (.reg ⟨[.lt 13 [] (.s 3),.lt 14 [] (.ite (.s 13) (.bin .eql (.bin .add (.len (.m 5 5)) (.len (.m 5 6))) (.c (.int .i64 (0)))) (.c (.bool false))),.call 15 [(14,true)] (.id 25) false false [(.mm 5 0 10)],.call 16 [(14,true)] (.id 24) false false [(.s 15)],.lt 17 [] (.ite (.s 14) (.bin .eql (.s 16) (.m 4 1)) (.c (.bool false)))],[([(13,true)],(.bin .eql (.bin .add (.len (.m 5 5)) (.len (.m 5 6))) (.c (.int .i64 (0))))),([(14,true)],(.bin .eql (.s 16) (.m 4 1))),([(17,true)],(.bin .eql (.m 5 2) (.bin .sub (.c (.int .i64 (1))) (.m 4 2))))],[(2,.v (.ite (.s 17) (.bin .eql (.m 5 2) (.bin .sub (.c (.int .i64 (1))) (.m 4 2))) (.c (.bool false))))]⟩)
 .ret)
 .skip))
(.seq
(.reg ⟨[.lt 18 [] (.s 3),.call 19 [(18,true)] (.id 26) false false [(.mm 5 0 10)],.lt 20 [] (.ite (.s 18) (.bin .eql (.bin .add (.len (.m 5 5)) (.s 19)) (.s 8)) (.c (.bool false))),.call 21 [(20,true)] (.id 25) false false [(.mm 5 0 10)],.call 22 [(20,true)] (.id 24) false false [(.s 21)],.lt 23 [] (.ite (.s 20) (.bin .eql (.s 22) (.bin .sub (.m 4 1) (.len (.m 5 5)))) (.c (.bool false))),.lt 24 [] (.ite (.s 23) (.bin .eql (.m 5 2) (.bin .sub (.c (.int .i64 (1))) (.m 4 2))) (.c (.bool false))),.lt 25 [] (.ite (.s 24) (.bin .eql (.m 5 1) (.m 4 1)) (.c (.bool false)))],[([(18,true)],(.bin .eql (.bin .add (.len (.m 5 5)) (.s 19)) (.s 8))),([(20,true)],(.bin .eql (.s 22) (.bin .sub (.m 4 1) (.len (.m 5 5))))),([(23,true)],(.bin .eql (.m 5 2) (.bin .sub (.c (.int .i64 (1))) (.m 4 2)))),([(24,true)],(.bin .eql (.m 5 1) (.m 4 1))),([(25,true)],(.bin .eql (.m 5 0) (.m 4 0)))],[(2,.v (.ite (.s 25) (.bin .eql (.m 5 0) (.m 4 0)) (.c (.bool false))))]⟩)
.ret)))))))),
[(2,.v)]⟩
theorem c6:Zb Try.prog fresh sig [.fz] [] Try.f6=some p6:=by kernel_rfl
def p11:Fn:=⟨11,[0,1,2,3,4,5,6,7,8,9,10],
(.seq
(.reg ⟨[],[],[(0,.v (.c (.bool false)))]⟩)
(.seq
(.reg ⟨[],[([],(.ag [(.c (.int .u64 (10))),(.c (.int .i64 (5))),(.c (.int .i64 (0))),(.c (.bool false)),(.c (.int .i64 (2))),(.lit [(.c (.int .u64 (2))),(.c (.int .u64 (6)))]),(.c (.sl [])),(.c (.sl [])),(.c (.sl [])),(.lit [(.c (.int .u64 (21)))])]))],[(1,.m [(.c (.int .u64 (10))),(.c (.int .i64 (5))),(.c (.int .i64 (0))),(.c (.bool false)),(.c (.int .i64 (2))),(.lit [(.c (.int .u64 (2))),(.c (.int .u64 (6)))]),(.c (.sl [])),(.c (.sl [])),(.c (.sl [])),(.lit [(.c (.int .u64 (21)))])])]⟩)
(.seq
(.reg ⟨[.call 11 [] (.id 17) false false [(.mm 1 0 10)]],[],[(2,.m [(.fld (.sz (.ext (.s 11) 0) 10) 0),(.fld (.sz (.ext (.s 11) 0) 10) 1),(.fld (.sz (.ext (.s 11) 0) 10) 2),(.fld (.sz (.ext (.s 11) 0) 10) 3),(.fld (.sz (.ext (.s 11) 0) 10) 4),(.fld (.sz (.ext (.s 11) 0) 10) 5),(.fld (.sz (.ext (.s 11) 0) 10) 6),(.fld (.sz (.ext (.s 11) 0) 10) 7),(.fld (.sz (.ext (.s 11) 0) 10) 8),(.fld (.sz (.ext (.s 11) 0) 10) 9)]),(3,.v (.fl (.ext (.s 11) 1)))]⟩)
(.seq
(.reg ⟨[.call 12 [] (.id 17) false false [(.mm 2 0 10)]],[],[(4,.m [(.fld (.sz (.ext (.s 12) 0) 10) 0),(.fld (.sz (.ext (.s 12) 0) 10) 1),(.fld (.sz (.ext (.s 12) 0) 10) 2),(.fld (.sz (.ext (.s 12) 0) 10) 3),(.fld (.sz (.ext (.s 12) 0) 10) 4),(.fld (.sz (.ext (.s 12) 0) 10) 5),(.fld (.sz (.ext (.s 12) 0) 10) 6),(.fld (.sz (.ext (.s 12) 0) 10) 7),(.fld (.sz (.ext (.s 12) 0) 10) 8),(.fld (.sz (.ext (.s 12) 0) 10) 9)]),(5,.v (.ext (.s 12) 1))]⟩)
(.seq
(.reg ⟨[.call 13 [] (.id 17) false false [(.ag [(.c (.int .u64 (0))),(.c (.int .i64 (0))),(.c (.int .i64 (0))),(.c (.bool false)),(.c (.int .i64 (0))),(.c (.sl [])),(.c (.sl [])),(.c (.sl [])),(.c (.sl [])),(.c (.sl []))])]],[],[(6,.m [(.fld (.sz (.ext (.s 13) 0) 10) 0),(.fld (.sz (.ext (.s 13) 0) 10) 1),(.fld (.sz (.ext (.s 13) 0) 10) 2),(.fld (.sz (.ext (.s 13) 0) 10) 3),(.fld (.sz (.ext (.s 13) 0) 10) 4),(.fld (.sz (.ext (.s 13) 0) 10) 5),(.fld (.sz (.ext (.s 13) 0) 10) 6),(.fld (.sz (.ext (.s 13) 0) 10) 7),(.fld (.sz (.ext (.s 13) 0) 10) 8),(.fld (.sz (.ext (.s 13) 0) 10) 9)]),(7,.v (.ext (.s 13) 1))]⟩)
(.seq
(.reg ⟨[],[],[(8,.m [(.fld (.mm 1 0 10) 0),(.fld (.mm 1 0 10) 1),(.fld (.mm 1 0 10) 2),(.fld (.mm 1 0 10) 3),(.fld (.mm 1 0 10) 4),(.fld (.mm 1 0 10) 5),(.fld (.mm 1 0 10) 6),(.fld (.mm 1 0 10) 7),(.fld (.mm 1 0 10) 8),(.fld (.mm 1 0 10) 9)])]⟩)
(.seq
(.reg ⟨[],[],[(8,.m [(.m 8 0),(.m 8 1),(.m 8 2),(.m 8 3),(.m 8 4),(.m 8 5),(.m 8 6),(.m 8 7),(.m 8 8),(.lit [(.c (.int .u64 (0)))])])]⟩)
(.seq
(.reg ⟨[.call 14 [] (.id 17) false false [(.mm 8 0 10)]],[],[(9,.m [(.fld (.sz (.ext (.s 14) 0) 10) 0),(.fld (.sz (.ext (.s 14) 0) 10) 1),(.fld (.sz (.ext (.s 14) 0) 10) 2),(.fld (.sz (.ext (.s 14) 0) 10) 3),(.fld (.sz (.ext (.s 14) 0) 10) 4),(.fld (.sz (.ext (.s 14) 0) 10) 5),(.fld (.sz (.ext (.s 14) 0) 10) 6),(.fld (.sz (.ext (.s 14) 0) 10) 7),(.fld (.sz (.ext (.s 14) 0) 10) 8),(.fld (.sz (.ext (.s 14) 0) 10) 9)]),(10,.v (.fl (.ext (.s 14) 1)))]⟩)
(.seq
(.reg ⟨[.lt 15 [] (.bin .eql (.s 3) (.c (.int .i64 (0)))),.call 16 [(15,true)] (.id 19) false false [(.mm 2 0 10),(.ag [(.c (.int .u64 (10))),(.c (.int .i64 (5))),(.c (.int .i64 (1))),(.c (.bool true)),(.c (.int .i64 (0))),(.lit [(.c (.int .u64 (2))),(.c (.int .u64 (6)))]),(.c (.sl [])),(.lit [(.c (.int .u64 (31))),(.c (.int .u64 (0)))]),(.c (.sl [])),(.lit [(.c (.int .u64 (31)))])])],.lt 17 [] (.ite (.s 15) (.s 16) (.c (.bool false))),.lt 18 [] (.ite (.s 17) (.bin .eql (.s 5) (.c (.int .i64 (10)))) (.c (.bool false))),.lt 19 [] (.ite (.s 18) (.bin .eql (.s 7) (.c (.int .i64 (1)))) (.c (.bool false))),.lt 20 [] (.ite (.s 19) (.bin .eql (.s 10) (.c (.int .i64 (0)))) (.c (.bool false))),.call 21 [(20,true)] (.id 19) false false [(.mm 9 0 10),(.ag [(.c (.int .u64 (10))),(.c (.int .i64 (5))),(.c (.int .i64 (1))),(.c (.bool false)),(.c (.int .i64 (0))),(.c (.sl [])),(.c (.sl [])),(.c (.sl [])),(.c (.sl [])),(.lit [(.c (.int .u64 (0)))])])],.lt 22 [] (.ite (.s 20) (.s 21) (.c (.bool false))),.call 23 [(22,true)] (.id 20) false false [(.mm 1 0 10)],.call 24 [(22,true)] (.id 19) false false [(.s 23),(.mm 1 0 10)],.lt 25 [] (.ite (.s 22) (.s 24) (.c (.bool false))),.call 26 [(25,true)] (.id 20) false false [(.mm 2 0 10)],.call 27 [(25,true)] (.id 19) false false [(.s 26),(.ag [(.c (.int .u64 (0))),(.c (.int .i64 (0))),(.c (.int .i64 (0))),(.c (.bool false)),(.c (.int .i64 (0))),(.c (.sl [])),(.c (.sl [])),(.c (.sl [])),(.c (.sl [])),(.c (.sl []))])]],[([(17,true)],(.bin .eql (.s 5) (.c (.int .i64 (10))))),([(18,true)],(.bin .eql (.s 7) (.c (.int .i64 (1))))),([(19,true)],(.bin .eql (.s 10) (.c (.int .i64 (0)))))],[(0,.v (.ite (.s 25) (.s 27) (.c (.bool false))))]⟩)
.ret))))))))),
[(0,.v)]⟩
theorem c11:Zb Try.prog fresh sig [] [] Try.f11=some p11:=by kernel_rfl
def p18:Fn:=⟨14,[0,1,2,3,4,13,16,5,6,37,8,7,9,68],
(.seq
(.reg ⟨[],[],[(1,.m [(.fld (.sz (.s 0) 10) 0),(.fld (.sz (.s 0) 10) 1),(.fld (.sz (.s 0) 10) 2),(.fld (.sz (.s 0) 10) 3),(.fld (.sz (.s 0) 10) 4),(.fld (.sz (.s 0) 10) 5),(.fld (.sz (.s 0) 10) 6),(.fld (.sz (.s 0) 10) 7),(.fld (.sz (.s 0) 10) 8),(.fld (.sz (.s 0) 10) 9)]),(2,.m [(.c (.int .u64 (0))),(.c (.int .i64 (0))),(.c (.int .i64 (0))),(.c (.bool false)),(.c (.int .i64 (0))),(.c (.sl [])),(.c (.sl [])),(.c (.sl [])),(.c (.sl [])),(.c (.sl []))]),(3,.v (.c (.int .i64 (0))))]⟩)
(.seq
(.reg ⟨[.call 14 [] (.id 40) false false [(.mm 1 0 10)]],[],[(4,.v (.s 14))]⟩)
(.seq
(.seq
(.reg ⟨[],[],[(5,.v (.un .not (.s 4)))]⟩)
(.cond (.s 5)
 (.seq
 (.reg ⟨[],[([],(.ag [(.c (.int .u64 (0))),(.c (.int .i64 (0))),(.c (.int .i64 (0))),(.c (.bool false)),(.c (.int .i64 (0))),(.c (.sl [])),(.c (.sl [])),(.c (.sl [])),(.c (.sl [])),(.c (.sl []))]))],[(2,.m [(.c (.int .u64 (0))),(.c (.int .i64 (0))),(.c (.int .i64 (0))),(.c (.bool false)),(.c (.int .i64 (0))),(.c (.sl [])),(.c (.sl [])),(.c (.sl [])),(.c (.sl [])),(.c (.sl []))]),(3,.v (.c (.int .i64 (1))))]⟩)
 .ret)
 .skip))
(.seq
(.seq
(.reg ⟨[],[],[(6,.v (.m 1 3))]⟩)
(.cond (.s 6)
 (.seq
 (.reg ⟨[],[([],(.ag [(.c (.int .u64 (0))),(.c (.int .i64 (0))),(.c (.int .i64 (0))),(.c (.bool false)),(.c (.int .i64 (0))),(.c (.sl [])),(.c (.sl [])),(.c (.sl [])),(.c (.sl [])),(.c (.sl []))]))],[(2,.m [(.c (.int .u64 (0))),(.c (.int .i64 (0))),(.c (.int .i64 (0))),(.c (.bool false)),(.c (.int .i64 (0))),(.c (.sl [])),(.c (.sl [])),(.c (.sl [])),(.c (.sl [])),(.c (.sl []))]),(3,.v (.c (.int .i64 (10))))]⟩)
 .ret)
 .skip))
(.seq
(.reg ⟨[],[([],(.ag [(.m 1 0),(.m 1 1),(.bin .sub (.c (.int .i64 (1))) (.m 1 2)),(.c (.bool false)),(.c (.int .i64 (0))),(.c (.sl [])),(.c (.sl [])),(.m 1 5),(.m 1 6),(.app (.c (.sl [])) (.m 1 9) 1)]))],[(7,.m [(.m 1 0),(.m 1 1),(.bin .sub (.c (.int .i64 (1))) (.m 1 2)),(.c (.bool false)),(.c (.int .i64 (0))),(.c (.sl [])),(.c (.sl [])),(.m 1 5),(.m 1 6),(.app (.c (.sl [])) (.m 1 9) 1)])]⟩)
(.seq
(.seq
(.reg ⟨[],[],[(8,.v (.c (.int .i64 (0))))]⟩)
(.block 0
 (.loop [0,1,2,3,4,5,6,7,8]
  (.seq
  (.seq
  (.reg ⟨[],[],[(9,.v (.bin .lss (.s 8) (.len (.m 1 9))))]⟩)
  (.cond (.s 9)
   .skip
   (.exit 0)))
  (.seq
  (.block 1
   (.seq
   (.reg ⟨[.call 15 [] (.id 41) false false [(.mm 7 0 10),(.fld (.idx (.m 1 9) (.s 8) 1) 0)]],[],[(10,.m [(.fld (.sz (.ext (.s 15) 1) 10) 0),(.fld (.sz (.ext (.s 15) 1) 10) 1),(.fld (.sz (.ext (.s 15) 1) 10) 2),(.fld (.sz (.ext (.s 15) 1) 10) 3),(.fld (.sz (.ext (.s 15) 1) 10) 4),(.fld (.sz (.ext (.s 15) 1) 10) 5),(.fld (.sz (.ext (.s 15) 1) 10) 6),(.fld (.sz (.ext (.s 15) 1) 10) 7),(.fld (.sz (.ext (.s 15) 1) 10) 8),(.fld (.sz (.ext (.s 15) 1) 10) 9)]),(11,.v (.ext (.s 15) 0)),(12,.v (.ext (.s 15) 2))]⟩)
   (.seq
   (.reg ⟨[],[],[(10,.m [(.m 10 0),(.m 10 1),(.m 10 2),(.m 10 3),(.m 10 4),(.m 10 5),(.m 10 6),(.m 10 7),(.m 10 8),(.app (.c (.sl [])) (.m 10 9) 1)])]⟩)
   (.seq
   (.reg ⟨[],[([],(.idx (.m 10 9) (.s 8) 1))],[(10,.m [(.m 10 0),(.m 10 1),(.m 10 2),(.m 10 3),(.m 10 4),(.m 10 5),(.m 10 6),(.m 10 7),(.m 10 8),(.upd (.m 10 9) (.s 8) 0 (.one (.s 11)))])]⟩)
   (.reg ⟨[],[],[(7,.m [(.fld (.mm 10 0 10) 0),(.fld (.mm 10 0 10) 1),(.fld (.mm 10 0 10) 2),(.fld (.mm 10 0 10) 3),(.fld (.mm 10 0 10) 4),(.fld (.mm 10 0 10) 5),(.fld (.mm 10 0 10) 6),(.fld (.mm 10 0 10) 7),(.fld (.mm 10 0 10) 8),(.fld (.mm 10 0 10) 9)])]⟩)))))
  (.reg ⟨[],[],[(8,.v (.bin .add (.s 8) (.c (.int .i64 (1)))))]⟩))))))
(.seq
(.reg ⟨[],[],[(7,.m [(.m 7 0),(.m 7 1),(.m 7 2),(.bin .gtr (.len (.m 7 5)) (.c (.int .i64 (0)))),(.m 7 4),(.m 7 5),(.m 7 6),(.m 7 7),(.m 7 8),(.m 7 9)])]⟩)
(.seq
(.seq
(.reg ⟨[],[],[(13,.v (.un .not (.m 7 3)))]⟩)
(.cond (.s 13)
 (.seq
 (.reg ⟨[],[],[(7,.m [(.m 7 0),(.m 7 1),(.m 7 2),(.m 7 3),(.m 7 4),(.m 7 5),(.m 7 6),(.c (.sl [])),(.m 7 8),(.m 7 9)])]⟩)
 (.reg ⟨[],[],[(7,.m [(.m 7 0),(.m 7 1),(.m 7 2),(.m 7 3),(.m 7 4),(.m 7 5),(.m 7 6),(.m 7 7),(.c (.sl [])),(.m 7 9)])]⟩))
 .skip))
(.seq
(.reg ⟨[],[],[(2,.m [(.fld (.mm 7 0 10) 0),(.fld (.mm 7 0 10) 1),(.fld (.mm 7 0 10) 2),(.fld (.mm 7 0 10) 3),(.fld (.mm 7 0 10) 4),(.fld (.mm 7 0 10) 5),(.fld (.mm 7 0 10) 6),(.fld (.mm 7 0 10) 7),(.fld (.mm 7 0 10) 8),(.fld (.mm 7 0 10) 9)]),(3,.v (.c (.int .i64 (0))))]⟩)
.ret))))))))),
[(2,(.ag 10)),(3,.v)]⟩
theorem c18:Zb Try.prog fresh sig [.fz] [] Try.f18=some p18:=by kernel_rfl
def p20:Fn:=⟨4,[0,1,2,9],
(.seq
(.reg ⟨[],[],[(1,.m [(.fld (.sz (.s 0) 10) 0),(.fld (.sz (.s 0) 10) 1),(.fld (.sz (.s 0) 10) 2),(.fld (.sz (.s 0) 10) 3),(.fld (.sz (.s 0) 10) 4),(.fld (.sz (.s 0) 10) 5),(.fld (.sz (.s 0) 10) 6),(.fld (.sz (.s 0) 10) 7),(.fld (.sz (.s 0) 10) 8),(.fld (.sz (.s 0) 10) 9)]),(2,.m [(.c (.int .u64 (0))),(.c (.int .i64 (0))),(.c (.int .i64 (0))),(.c (.bool false)),(.c (.int .i64 (0))),(.c (.sl [])),(.c (.sl [])),(.c (.sl [])),(.c (.sl [])),(.c (.sl []))])]⟩)
(.seq
(.seq
(.reg ⟨[.lt 4 [] (.m 1 3),.call 5 [(4,false)] (.id 33) false false [(.mm 1 0 10)]],[([(4,false)],(.un .not (.s 5)))],[(3,.v (.ite (.s 4) (.c (.bool true)) (.un .not (.s 5))))]⟩)
(.cond (.s 3)
 (.seq
 (.reg ⟨[],[([],(.ag [(.c (.int .u64 (0))),(.c (.int .i64 (0))),(.c (.int .i64 (0))),(.c (.bool false)),(.c (.int .i64 (0))),(.c (.sl [])),(.c (.sl [])),(.c (.sl [])),(.c (.sl [])),(.c (.sl []))]))],[(2,.m [(.c (.int .u64 (0))),(.c (.int .i64 (0))),(.c (.int .i64 (0))),(.c (.bool false)),(.c (.int .i64 (0))),(.c (.sl [])),(.c (.sl [])),(.c (.sl [])),(.c (.sl [])),(.c (.sl []))])]⟩)
 .ret)
 .skip))
(.seq
(.reg ⟨[.call 6 [] (.id 38) false false [(.m 1 5)],.call 7 [] (.id 38) false false [(.m 1 6)],.call 8 [] (.id 38) false false [(.m 1 9)]],[([],(.ag [(.m 1 0),(.m 1 1),(.m 1 2),(.c (.bool false)),(.m 1 4),(.one (.s 6)),(.one (.s 7)),(.c (.sl [])),(.c (.sl [])),(.one (.s 8))]))],[(2,.m [(.m 1 0),(.m 1 1),(.m 1 2),(.c (.bool false)),(.m 1 4),(.one (.s 6)),(.one (.s 7)),(.c (.sl [])),(.c (.sl [])),(.one (.s 8))])]⟩)
.ret))),
[(2,(.ag 10))]⟩
theorem c20:Zb Try.prog fresh sig [.fz] [] Try.f20=some p20:=by kernel_rfl
def p21:Fn:=⟨5,[0,1,2,3,11],
(.seq
(.reg ⟨[],[],[(1,.m [(.fld (.sz (.s 0) 10) 0),(.fld (.sz (.s 0) 10) 1),(.fld (.sz (.s 0) 10) 2),(.fld (.sz (.s 0) 10) 3),(.fld (.sz (.s 0) 10) 4),(.fld (.sz (.s 0) 10) 5),(.fld (.sz (.s 0) 10) 6),(.fld (.sz (.s 0) 10) 7),(.fld (.sz (.s 0) 10) 8),(.fld (.sz (.s 0) 10) 9)]),(2,.m [(.c (.int .u64 (0))),(.c (.int .i64 (0))),(.c (.int .i64 (0))),(.c (.bool false)),(.c (.int .i64 (0))),(.c (.sl [])),(.c (.sl [])),(.c (.sl [])),(.c (.sl [])),(.c (.sl []))])]⟩)
(.seq
(.reg ⟨[.call 5 [] (.id 40) false false [(.mm 1 0 10)]],[],[(3,.v (.s 5))]⟩)
(.seq
(.seq
(.reg ⟨[.lt 6 [] (.un .not (.s 3))],[([(6,false)],(.m 1 3))],[(4,.v (.ite (.s 6) (.c (.bool true)) (.m 1 3)))]⟩)
(.cond (.s 4)
 (.seq
 (.reg ⟨[],[([],(.ag [(.c (.int .u64 (0))),(.c (.int .i64 (0))),(.c (.int .i64 (0))),(.c (.bool false)),(.c (.int .i64 (0))),(.c (.sl [])),(.c (.sl [])),(.c (.sl [])),(.c (.sl [])),(.c (.sl []))]))],[(2,.m [(.c (.int .u64 (0))),(.c (.int .i64 (0))),(.c (.int .i64 (0))),(.c (.bool false)),(.c (.int .i64 (0))),(.c (.sl [])),(.c (.sl [])),(.c (.sl [])),(.c (.sl [])),(.c (.sl []))])]⟩)
 .ret)
 .skip))
(.seq
(.reg ⟨[],[],[(2,.m [(.fld (.mm 1 0 10) 0),(.fld (.mm 1 0 10) 1),(.fld (.mm 1 0 10) 2),(.fld (.mm 1 0 10) 3),(.fld (.mm 1 0 10) 4),(.fld (.mm 1 0 10) 5),(.fld (.mm 1 0 10) 6),(.fld (.mm 1 0 10) 7),(.fld (.mm 1 0 10) 8),(.fld (.mm 1 0 10) 9)])]⟩)
.ret)))),
[(2,(.ag 10))]⟩
theorem c21:Zb Try.prog fresh sig [.fz] [] Try.f21=some p21:=by kernel_rfl
end Vm
end
section
namespace Vm
open Go Go.Proofs Go.RowKit
set_option maxHeartbeats 1000000
set_option maxRecDepth 100000
theorem qd(w:World)(G:Nat→Prop)(hG: ∀b,G b→b<w.heap.size)(h:Hp)(hh:h.ok)(src:Nat→Value)(hs: ∀j,j<5→Rd w G (.sl ((lsH h j).map vu)) (src j)):
  Calls Try.prog 17 #[hpA h src] w (UP w (Wd h)):=by
 cases hr:Yb h with
 |false=>
  rw[show Wd h=(Hp.zero,1)by unfold Wd;rw[if_pos hr]]
  exact Z0v w G hG h hh src hs hr
 |true=>
  cases hc:h.cycle with
  |true=>
   rw[show Wd h=(Hp.zero,10)by unfold Wd;rw[if_neg (by rw[hr];simp),if_pos hc]]
   exact Z0q w G hG h hh src hs hr hc
  |false=>
   obtain⟨p,r⟩:=VH.1 hr
   rw[show Wd h=(yR h,0)by unfold Wd;rw[if_neg (by rw[hr];simp),if_neg (by rw[hc];simp)]]
   exact Z0Z w G hG h hh src hs r hc
theorem TN{h:Hp}(hh:h.ok):VC Try.prog 17 false [hpV h] (.tup [hpV (Wd h).1,vi (Wd h).2]):=by
 refine⟨by kernel_rfl,fun w G vs hG hsz hvs=> ?_⟩
 have r0:=hvs 0 _ rfl
 have he:vs= #[vs.getD 0 undef]:=by
  have hs3:vs.size=1:=hsz
  apply Array.ext
  ·simp[hs3]
  ·intro i h1 h2
   have hi:i<1:=by omega
   match i,hi with
   |0,_=>simp[Array.getD,hs3]
 obtain⟨src,e0,hs⟩:=Z1d r0
 rw[he,e0]
 refine(qd w G hG h hh src hs).mono ?_
 rintro e w' ⟨x,rfl,hb',hr⟩
 refine⟨_,rfl,hb',?_⟩
 refine .tup _ _ rfl ?_
 intro i y hy
 match i,hy with
 |0,hy=>cases hy;exact Z2S fun j hj=>(hr j hj).mono fun b hb=> .inr hb
 |1,hy=>cases hy;exact .int _ _
theorem Uc{l:List Int}(hl:l.length≤1000000):VC Try.prog 38 false [.sl (l.map vu)] (.sl (l.map vu)):=by
 refine⟨by kernel_rfl,fun w G vs hG hsz hvs=> ?_⟩
 have r0:=hvs 0 _ rfl
 have he:vs= #[vs.getD 0 undef]:=by
  have hs3:vs.size=1:=hsz
  apply Array.ext
  ·simp[hs3]
  ·intro i h1 h2
   have hi:i<1:=by omega
   match i,hi with
   |0,_=>simp[Array.getD,hs3]
 rw[he]
 refine(W8 w hl r0).mono ?_
 rintro e w' ⟨v,rfl,hb,hr⟩
 exact⟨v,rfl,hb,hr.mono fun b hb=> .inr hb⟩
theorem JT{h:Hp}(hh:h.ok):VC Try.prog 20 false [hpV h] (hpV (RO h)):=by
 refine Z3 Try.func20 follows (by kernel_rfl) c20 rfl ?_
 have k1:=Z2P hh
 have f1:=Uc hh.low
 have f2:=Uc hh.high
 have f3:=Uc hh.roots
 simp only[hpV]at k1
 unfold RO
 simp[p20]
 cases hc:h.cycle
 ·simp[hc]at k1
  simp[hc]
  refine Z0 k1 (by simp) ?_
  cases hr:Yb h
  ·simp[hpV,Hp.zero]
  simp
  refine Z0 f1 (by simp) ?_
  simp
  refine Z0 f2 (by simp) ?_
  simp
  refine Z0 f3 (by simp) ?_
  obtain⟨p,r⟩:=VH.1 hr
  obtain⟨_,e2,e3⟩:=r.rest hc
  simp[hpV,e2,e3,hc]
 ·simp[hc,hpV,Hp.zero]
theorem LQ{h:Hp}(hh:h.ok):VC Try.prog 21 false [hpV h] (hpV (RO h)):=by
 refine Z3 Try.func21 follows (by kernel_rfl) c21 rfl ?_
 have k1:=Tz hh
 simp only[hpV]at k1
 unfold RO
 simp[p21]
 refine Z0 k1 (by simp) ?_
 cases hr:Yb h
 ·simp[hpV,Hp.zero]
 simp
 cases hc:h.cycle
 ·simp[hpV,hc]
 ·simp[hpV,Hp.zero]
end Vm
end
section
namespace Vm
open Go Go.Proofs Go.RowKit
set_option maxHeartbeats 1000000
set_option maxRecDepth 100000
theorem Ls{h:Hp}(hh:h.ok):VC Try.prog 18 false [hpV h] (.tup [hpV (Wd h).1,vi (Wd h).2]):=by
 refine Z3 Try.func18 follows (by kernel_rfl) c18 rfl ?_
 have k1:=Tz hh
 simp only[hpV]at k1
 unfold Wd
 simp[p18]
 refine Z0 k1 (by simp) ?_
 cases hr:Yb h
 ·simp[hpV,Hp.zero]
 simp
 cases hc:h.cycle
 case true=>simp[hpV,Hp.zero]
 obtain⟨p,r⟩:=VH.1 hr
 have hto:h.to=0∨h.to=1:=by have:=Zs.1 r.lay;exact this.2.2.2.2.1
 have wto:=Z1 (1-h.to) (by omega) (by omega)
 have hro:=r.nroots
 have hll:=hh.roots
 simp[wto,lim]
 refine⟨by omega,?_⟩
 refine Yd 8 h.roots.length (fun i=> [(7,.m (hpCs (XC (YL h) i))),(8,.v (vi i))]) (fun _=>True) (by simp[XC,YL,hpCs]) (fun i=>by simp) trivial ?_
 rintro i hi-
 have wi:=Z1 ((i:Int)+1) (by omega) (by omega)
 by_cases hlt:i<h.roots.length
 ·obtain⟨q,I⟩:=Vv r hc i (by omega)
  obtain⟨⟨fv,g',q',f⟩,_⟩:=TU r hlt I
  have gok:=UO hh hto i
  have hxi:h.roots[i]? =some h.roots[i]:=List.getElem?_eq_getElem hlt
  have hroot:(XC (YL h) i).roots[i]? =some h.roots[i]:=by rw[I.rest i (Nat.le_refl _)];exact hxi
  have hstep:XC (YL h) (i+1)= {g' with roots:=g'.roots.set i fv}:=by
   show Qj (XC (YL h) i) i=_
   unfold Qj
   rw[hroot,Option.getD_some,f.fwd]
  have hgl:g'.roots.length=h.roots.length:=by rw[f.ext.roots];exact I.len
  have k2:=Rs gok (hh.rootsW _ (List.getElem_mem hlt))
  rw[f.fwd]at k2
  rw[hstep]
  clear I f hstep hroot
  generalize XC (YL h) i=g at*
  generalize h.roots[i]=u0 at*
  have hgi:g'.roots[i]? =some (g'.roots[i]'(by omega)):=List.getElem?_eq_getElem _
  generalize g'.roots[i]'(by omega)=u1 at*
  simp only[hpV,fwO]at k2
  simp[hlt,hxi,Zq hxi,hpCs]
  refine Z0 k2 (by simp) ?_
  simp[lim,hgl,hlt,hgi,Zq hgi,wi,V.put,List.map_set,show g'.roots.length≤4294967296 by omega]
  omega
 have:i=h.roots.length:=by omega
 subst this
 unfold yR
 generalize XC (YL h) h.roots.length=g at*
 unfold JM
 by_cases hlow:0<g.low.length
 ·have h1:((0:Int) < (g.low.length:Int))=True:=eq_true (by omega)
  simp[hpCs,hlow,h1,hpV]
 ·have h1:((0:Int) < (g.low.length:Int))=False:=eq_false (by omega)
  simp[hpCs,hlow,h1,hpV]
def ex14:Hp:=⟨10,5,0,false,2,[2,6],[],[],[],[21]⟩
def ey14:Hp:=⟨10,5,1,true,0,[2,6],[],[31,0],[],[31]⟩
def ez14:Hp:=⟨10,5,0,false,2,[2,6],[],[],[],[0]⟩
def eu14:Hp:=⟨10,5,1,false,0,[],[],[],[],[0]⟩
theorem Jp:ex14.ok:=by refine⟨?_,?_,?_,?_,?_,?_,?_,?_,?_,?_,?_,?_,?_,?_⟩<;>simp[ex14,U64,Fit]
theorem JW:ey14.ok:=by refine⟨?_,?_,?_,?_,?_,?_,?_,?_,?_,?_,?_,?_,?_,?_⟩<;>simp[ey14,U64,Fit]
theorem Z0D:ez14.ok:=by refine⟨?_,?_,?_,?_,?_,?_,?_,?_,?_,?_,?_,?_,?_,?_⟩<;>simp[ez14,U64,Fit]
theorem Z0p:eu14.ok:=by refine⟨?_,?_,?_,?_,?_,?_,?_,?_,?_,?_,?_,?_,?_,?_⟩<;>simp[eu14,U64,Fit]
theorem WB:Hp.zero.ok:=by refine⟨?_,?_,?_,?_,?_,?_,?_,?_,?_,?_,?_,?_,?_,?_⟩<;>simp[Hp.zero,U64,Fit]
theorem Lp:VC Try.prog 11 false [] (.bool true):=by
 refine Z3 Try.func11 follows (by kernel_rfl) c11 rfl ?_
 have r1:Wd ex14=(ey14,0):=by decide+kernel
 have r2:Wd ey14=(Hp.zero,10):=by decide+kernel
 have r3:Wd Hp.zero=(Hp.zero,1):=by decide+kernel
 have r4:Wd ez14=(eu14,0):=by decide+kernel
 have r5:RO ex14=ex14:=by decide+kernel
 have r6:RO ey14=Hp.zero:=by decide+kernel
 have m1:=TN Jp
 have m2:=TN JW
 have m3:=TN WB
 have m4:=TN Z0D
 have m5:=JT Jp
 have m6:=JT JW
 have s1:=WT (b:=ey14) JW
 have s2:=WT (b:=eu14) Z0p
 have s3:=WT (b:=ex14) Jp
 have s4:=WT (b:=Hp.zero) WB
 rw[r1]at m1
 rw[r2]at m2
 rw[r3]at m3
 rw[r4]at m4
 rw[r5]at m5
 rw[r6]at m6
 simp only[hpV,ex14,ey14,ez14,eu14,Hp.zero,List.map_cons,List.map_nil]at m1 m2 m3 m4 m5 m6 s1 s2 s3 s4
 simp[p11]
 refine Z0 m1 (by simp) ?_
 simp
 refine Z0 m2 (by simp) ?_
 simp
 refine Z0 m3 (by simp) ?_
 simp
 refine Z0 m4 (by simp) ?_
 simp
 refine Z0 s1 (by simp) ?_
 simp
 refine Z0 s2 (by simp) ?_
 simp
 refine Z0 m5 (by simp) ?_
 simp
 refine Z0 s3 (by simp) ?_
 simp
 refine Z0 m6 (by simp) ?_
 simp
 refine Z0 s4 (by simp) ?_
 simp
end Vm
end
section
namespace Vm
open Go Go.Proofs
set_option maxRecDepth 100000
set_option maxHeartbeats 1000000
theorem zj{x:Rw}(hx:x.ok):(UD x).ok∧Z8 (layH (UD x))=true∧(UD x).roots.length≤5:=by
 obtain⟨h1,h2,h3⟩:=UN hx false
 obtain⟨k1,k2,_,_⟩:=KR (x:=x) h1 h2
 refine⟨k1,by show Z8 (layH (Vo x _))=true;rw[k2];exact h3,?_⟩
 simp only[UD,Vo,List.length_map]
 exact h1.rl
theorem qD{g:Hp}(hg:g.ok):(JM g).ok:=by
 unfold JM
 obtain⟨a1,a2,a3,a4,a5,a6,a7,a8,a9,b1,b2,b3,b4,b5⟩:=hg
 split
 ·exact⟨a1,a2,a3,a4,a5,a6,a7,a8,a9,b1,b2,b3,b4,b5⟩
 ·exact⟨a1,a2,a3,a4,a5,a6,Nat.zero_le _,Nat.zero_le _,a9,b1,b2,fun w hw=>(by cases hw),fun w hw=>(by cases hw),b5⟩
theorem j3{h:Hp}(hh:h.ok):(Wd h).1.ok:=by
 unfold Wd
 split
 ·exact WB
 rename_i hr
 split
 ·exact WB
 ·obtain⟨p,r⟩:=VH.1 (by simpa using hr)
  refine qD (UO hh ?_ h.roots.length)
  have:=Zs.1 r.lay
  exact this.2.2.2.2.1
theorem jE{h:Hp}(hh:h.ok):(RO h).ok:=by
 unfold RO
 split
 ·exact WB
 ·exact hh
theorem Lz{odd:Hp}(ho:odd.raw){x:Rw}(hx:x.ok){which n w:Int}(hwh:Fit which)(hn:Fit n)(hw:U64 w):
  VC Try.prog 3 false [hpV odd,rwV x,vi which,vi n,vu w] (.bool true):=by
 refine Z3 Try.func3 follows (by kernel_rfl) c3 rfl ?_
 simp[p3]
 refine Z0 Lp (by simp) ?_
 simp
 refine ZL (fun i:Nat=> [(9,.m (hpCs (fewN odd i))),(10,.v (vi ((i:Int)+1)))]) (fun i=>i≤4) (cnt 10 5) 0 (by simp[hpCs,fewN]) (by simp) ?_
 rintro i hi
 by_cases hlt:i<4
 ·have hlt':(i:Int)+1≤4:=by omega
  have k1:=Yq (h:=fewN odd i) (n:=(i:Int)+1)
  have k2:=TZ (h:=fewN odd i) (n:=(i:Int)+1) (l:=(Z9 (fewN odd i) ((i:Int)+1)).take 12)
  have he:Ya (fewN odd i) ((i:Int)+1) ((Z9 (fewN odd i) ((i:Int)+1)).take 12)=fewN odd (i+1):=by rw[fewN];rfl
  rw[he]at k2
  generalize hg2:fewN odd (i+1)=g2 at*
  generalize fewN odd i=g at*
  generalize Z9 g ((i:Int)+1)=ws at*
  unfold hpV at k1 k2
  simp[hlt',hpCs]
  refine Z0 k1 (by simp) ?_
  simp
  refine Z0 k1 (by simp) ?_
  simp
  rw[zx (k:=12) (K:=12) rfl]
  generalize ws.take 12=ws2 at*
  simp only[onO]
  refine Z0 k2 (by simp) ?_
  have hw12:=Z1 ((i:Int)+1+1) (by omega) (by omega)
  simp[hw12]
  exact⟨i+1,by omega,⟨by rw[hg2];simp,by simp⟩,by simp[cnt];omega⟩
 ·have:i=4:=by omega
  subst this
  simp[hpCs]
  rw[zx (k:=20) (K:=20) rfl]
  have hrt:(fewN odd 4).roots=odd.roots:=by simp[fewN]
  obtain⟨few,hfew⟩: ∃few:Hp,few= {fewN odd 4 with roots:=odd.roots.take 20}:=⟨_,rfl⟩
  have fok:few.ok:=by
   rw[hfew]
   exact Z1q ho
  have e5: [vu (fewN odd 4).base,vi (fewN odd 4).cap,vi (fewN odd 4).to,V.bool (fewN odd 4).cycle,vi (fewN odd 4).scan,.sl ((fewN odd 4).low.map vu),.sl ((fewN odd 4).high.map vu),.sl ((fewN odd 4).old.map vu),.sl ((fewN odd 4).far.map vu),.sl ((odd.roots.take 20).map vu)]=hpCs few:=by rw[hfew];rfl
  generalize odd.roots.take 20=rts at*
  generalize fewN odd 4=f4 at*
  have kh:=Z0o hx
  have ks:=KI hx
  obtain⟨ok1,hr1,hro⟩:=qB hx
  obtain⟨ok2,hr2,hro2⟩:=zj hx
  have ok3:=QP ok1 (fun k=>Nat.le_trans (J2 hr1 k) (by omega)) (by omega) (which:=which) hn hw
  have ok4:=QP ok2 (fun k=>Nat.le_trans (J2 hr2 k) (by omega)) (by omega) (which:=which) hn hw
  have kt:=Qy ok1 (w:=w) hwh hn
  have kt2:=Qy ok2 (w:=w) hwh hn
  simp
  unfold rwV at kh ks
  refine Z0 kh (by simp) ?_
  generalize Jj x=own at*
  simp
  refine Z0 ks (by simp) ?_
  generalize UD x=still at*
  generalize ST own which n w=near at*
  generalize ST still which n w=n2 at*
  unfold hpV at kt kt2
  simp
  refine Z0 kt (by simp) ?_
  simp
  refine Z0 kt2 (by simp) ?_
  simp
  have hall: ∀h∈ [few,own,still,near,n2],h.ok:=by
   intro h hh
   simp at hh
   rcases hh with rfl|rfl|rfl|rfl|rfl<;>assumption
  have e6: [V.agg [V.int IntKind.u64 f4.base,V.int IntKind.i64 f4.cap,V.int IntKind.i64 f4.to,V.bool f4.cycle,V.int IntKind.i64 f4.scan,V.sl (List.map vu f4.low),V.sl (List.map vu f4.high),V.sl (List.map vu f4.old),V.sl (List.map vu f4.far),V.sl (List.map vu rts)],V.agg [vu own.base,vi own.cap,vi own.to,V.bool own.cycle,vi own.scan,V.sl (List.map vu own.low),V.sl (List.map vu own.high),V.sl (List.map vu own.old),V.sl (List.map vu own.far),V.sl (List.map vu own.roots)],V.agg [vu still.base,vi still.cap,vi still.to,V.bool still.cycle,vi still.scan,V.sl (List.map vu still.low),V.sl (List.map vu still.high),V.sl (List.map vu still.old),V.sl (List.map vu still.far),V.sl (List.map vu still.roots)],V.agg [vu near.base,vi near.cap,vi near.to,V.bool near.cycle,vi near.scan,V.sl (List.map vu near.low),V.sl (List.map vu near.high),V.sl (List.map vu near.old),V.sl (List.map vu near.far),V.sl (List.map vu near.roots)],V.agg [vu n2.base,vi n2.cap,vi n2.to,V.bool n2.cycle,vi n2.scan,V.sl (List.map vu n2.low),V.sl (List.map vu n2.high),V.sl (List.map vu n2.old),V.sl (List.map vu n2.far),V.sl (List.map vu n2.roots)]]= [few,own,still,near,n2].map hpV:=by rw[hfew];rfl
  rw[e6]
  have hl5: [few,own,still,near,n2].length=5:=rfl
  generalize [few,own,still,near,n2]=hs at*
  refine YD 14 5 (fun _=>True) (by simp) (by simp) trivial ?_
  intro i hi _
  have hwi:=Z1 ((i:Int)+1) (by omega) (by omega)
  by_cases hlt:i<5
  case neg=>
   have:i=5:=by omega
   subst this
   simp
  have hx5:i<hs.length:=by omega
  have hxi:hs[i]? =some hs[i]:=List.getElem?_eq_getElem hx5
  have hok:=hall _ (List.getElem_mem hx5)
  generalize hs[i]=h at*
  have hlt':(i:Int) <5:=by omega
  have f1:=TN hok
  have f2:=Ls hok
  have f3:=WT (b:=(Wd h).1) (j3 hok)
  have f4':=JT hok
  have f5:=LQ hok
  have f6:=WT (b:=RO h) (jE hok)
  unfold hpV at f1 f2 f3 f4' f5 f6
  simp[hlt,hlt',hx5,hxi,Zq hxi,hwi]
  refine Z0 f1 (by simp) ?_
  simp
  refine Z0 f2 (by simp) ?_
  simp
  refine Z0 f3 (by simp) ?_
  simp
  refine Z0 f4' (by simp) ?_
  simp
  refine Z0 f5 (by simp) ?_
  simp
  refine Z0 f6 (by simp) ?_
  simp[hwi]
end Vm
end
section
namespace Go.Proofs.Ytjkmonbmpoegjaa
open Vm Go.ChangeShapes Go.WideShapes Go.ChangeAt Go.RowKit
set_option maxRecDepth 100000
theorem flipTells_law(xs:List V)(hl:xs.length=Try.f3.params.toList.length)(ht: ∀(i:Nat) (t:TypeId) (x:V),Try.f3.params.toList[i]? =some t→xs[i]? =some x→tyV Try.prog 8 t x):
  VC Try.prog 3 false xs (.bool true):=by
 rw[Try.params3]at hl ht
 match xs,hl with
 | [x0,x1,x2,x3,x4],_=>
   obtain⟨o,rfl,ho⟩:=Z4M (ht 0 _ x0 rfl rfl)
   obtain⟨x,rfl,hx⟩:=Z4j (ht 1 _ x1 rfl rfl)
   obtain⟨h,rfl,hh⟩:=Rc (ht 2 _ x2 rfl rfl)
   obtain⟨n,rfl,hn⟩:=Rc (ht 3 _ x3 rfl rfl)
   obtain⟨w,rfl,hw⟩:=j4 (ht 4 _ x4 rfl rfl)
   exact Lz ho hx hh hn hw
theorem flipTells_lifted(os:Os)(started:os.Started)(H:Type)(enc:TypeId×Value→H):
  ReturnsInHanded {} Try.checked os 3 .any (Rows.flipTellsSpec.pre6 enc Try.prog Try.f3 Rows.flipTellsRow.domain false) (Rows.flipTellsSpec.post enc Try.prog Try.f3 false true false false):=by
 refine returnsInHanded_of_change (C:=Try.checked) own started (by kernel_rfl) Try.func3
  (ChangeSpec.witness6 (enc:=enc) (C:=Try.checked) false ⟨#[], #[.agg #[.int .u64 0,.int .i64 0,.int .i64 0,.bool false,.int .i64 0,.slice none 0 0,.slice none 0 0,.slice none 0 0,.slice none 0 0,.slice none 0 0],.agg #[.slice none 0 0,.slice none 0 0,.slice none 0 0,.int .u64 0,.int .i64 0,.int .i64 0,.int .i64 0],.int .i64 0,.int .i64 0,.int .u64 0],[]⟩ 8 (by kernel_rfl) (by kernel_rfl) (by kernel_rfl) (by kernel_rfl)) ?_
 intro W base args ds gs before hval hW _ _
 exact QI (tb:=4) 8 laidOut (by kernel_rfl) (by kernel_rfl) rfl (by kernel_rfl) Try.underlying4 (fun H ds hd=>by
  rw[Try.params3]at hd
  match ds,hd with
  | [_,_,_,_,_],_=>rfl) flipTells_law H enc W base args ds gs before hval hW
theorem flipTells_holds:Rows.FlipTellsSaid:=
 OpenClaim.holds_of_wide 3 Try.f3 rfl rfl rfl rfl rfl rfl rfl ⟨rfl,rfl,rfl,rfl,rfl⟩ rfl rfl rfl rfl rfl (by kernel_rfl) Try.func3 (by kernel_rfl)
  (of_decide_eq_true (by kernel_rfl)) (by unfold Func.isWrapper;first| (rw[if_pos (by decide+kernel)];kernel_rfl) | (rw[if_neg (by decide+kernel)];exact⟨rfl,rfl⟩))
  (fun os started H enc _=>flipTells_lifted os started H enc)
#print axioms flipTells_holds
end Go.Proofs.Ytjkmonbmpoegjaa
end
